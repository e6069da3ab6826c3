/-
  A deterministic machine over data trees,the check of its code,its values beside the model's.
-/
import GoSem.Dispatch
import GoSem.Core.Program
import Derived.Test.YtgefdialaemelaaGreatDoorProg
import Derived.Laws.CopyRow
import Derived.Laws.AppendOwn
import Derived.Control
import Derived.Calls
namespace Go.Dm
inductive D where
 | b (x:Bool)
 | i (k:IntKind) (n:Int)
 | s (l:List UInt8)
 | nil
 | z
 | im (w:Nat) (rows:List (List D))
 | sv (w:Nat) (rows:List (List D))
 | mu (a n off len:Nat)
 | ow (w:Nat) (rows:List (List D))
 | np
 | lp (k off:Nat)
 | hp (b off:Nat)
 | ap (a n i off:Nat)
 | aa (a:Nat)
 | ip (cells:List D)
 | mnil
 | mp (m:Nat)
 | fn (f:Fn) (first captured:List D)
 | nf
 | ni
 | ifc (t:TypeId) (v:D)
 | it (r:Nat)
 | ag (cells:List D)
 | tu (vs:List D)
 | bx (cells:List D)
 | yb (a n:Nat)
 | yl (y:Nat)
 | u
 deriving Inhabited
inductive RS where
 | rd
 | bz
 | dr
 | dx (id:Nat)
 deriving Inhabited,DecidableEq
inductive Blk where
 | hb (t:Nat) (cells:List D)
 | ar (w:Nat) (rows:List (List D)) (cap:Option Nat) (pure lock:Bool)
 | mp (es:List (D×D))
 | si (l:List UInt8) (pos:Nat)
 | yt (t:Nat) (l:List UInt8) (lock:Bool)
 | df
 | yh (f:Nat) (path:List Bool) (j nt:Nat) (tm:List Nat) (x:List D) (s:RS)
 | no
 deriving Inhabited
abbrev Heap:=List Blk
inductive O where
 | l (i:Nat)
 | s (k:Nat)
 | c (d:D)
 deriving Inhabited
inductive AB where
 | sl (k:Nat)
 | lo (i:Nat)
 deriving Inhabited
inductive EK where
 | b
 | st (sh:List Nat)
 | sl
 | pt
 | mp
 | fn
 | ifc
 deriving Inhabited
inductive KK where
 | c (n:Nat)
 | st (sh:List Nat)
 deriving Inhabited
inductive VOp where
 | mov (x:O)
 | pick (c a b:O)
 | lal (zs:List D)
 | lbx (x:O) (n:Nat)
 | hal (t:Nat) (zs:List D)
 | hbx (t:Nat) (x:O) (n:Nat)
 | haa (w:Nat) (zs:List (List D)) (pure:Bool)
 | lfa (a:AB) (off:Nat)
 | lia (a:AB) (ix:O) (n w:Nat)
 | lld (a:AB) (n:Nat) (agg:Bool)
 | lst (a:AB) (x:O) (n:Nat)
 | fad (x:O) (off:Nat)
 | iad (x ix:O) (w:Nat)
 | iar (x ix:O) (n w:Nat)
 | ld (x:O) (n:Nat) (agg:Bool)
 | ldq (x:O) (n:Nat) (agg:Bool)
 | ldh (x:O) (n:Nat) (agg:Bool)
 | st (x v:O) (n:Nat)
 | bin (op:BinOp) (x y:O)
 | eqv (neg:Bool) (k:EK) (x y:O)
 | un (op:UnOp) (x:O)
 | cvi (k:IntKind) (x:O)
 | cvs (x:O)
 | cbs (x:O)
 | csb (x:O)
 | agc (zs:List D) (parts:List (Nat×Nat×O))
 | bsl (w len:Nat) (zs:List D) (parts:List (Nat×O)) (pure:Bool)
 | bsv (w len:Nat) (zs:List D) (parts:List (Nat×O))
 | len (k:Nat) (x:O)
 | cap (x:O)
 | app (x y:O) (w bytes:Nat) (pure:Bool)
 | cpy (x y:O) (w:Nat)
 | mks (l c:O) (w bytes:Nat) (zs:List D) (pure:Bool)
 | sli (str:Bool) (w:Nat) (x:O) (lo hi mx:Option O)
 | sla (x:O) (n w:Nat) (lo hi:Option O)
 | ixs (x ix:O)
 | fld (x:O) (off n:Nat) (agg:Bool)
 | ext (x:O) (j:Nat)
 | mkf (f:Fn) (first captured:List O)
 | mkm
 | lk (kk:KK) (m k:O) (ok:Bool) (zero:D)
 | mup (kk:KK) (m k v:O)
 | mki (t:TypeId) (x:O)
 | tas (x:O) (t:TypeId) (ok:Bool) (zero:D)
 | nck (x:O)
 | mx (xs:List O)
 | mn (xs:List O)
 | call (f:FuncId) (args:List O)
 | calv (x:O) (args:List O)
 | inv (x:O) (m:String) (args:List O)
 | pan (x:O)
 | stk
 | ixa (x ix:O) (n w:Nat) (agg:Bool)
 | cpl (f:FuncId) (args:List O)
 | calx (f:FuncId) (args:List O)
 | calvx (x:O) (args:List O)
 | gia (g:Nat) (ix:O) (n w:Nat)
 | callp (f:FuncId) (args:List O)
 deriving Inhabited
def VOp.pans:VOp -> Bool
 | .callp .. => true
 | _=>false
structure VOper where
 op:VOp
 keep:Option Nat:=none
 guard:Option (O×Bool):=none
 deriving Inhabited
inductive VCode where
 | skip
 | reg (ops:List VOper) (draw:Option Bool)
 | seq (a b:VCode)
 | cond (c:O) (t e:VCode)
 | block (id:Nat) (c:VCode)
 | loop (c:VCode)
 | exit (id:Nat)
 | ret
 | stuck
 | rng (j:Nat) (x:O)
 deriving Inhabited
inductive RSpec where
 | s (k:Nat)
 | bx (k n:Nat) (agg:Bool)
 | hb (k n:Nat) (agg:Bool)
 deriving Inhabited
structure Dfr where
 pre:VCode
 caps:List Nat
 g:FuncId
 ns:Nat
 rk:Nat
 body:VCode
 tm:List Nat
 bs:List Nat
 deriving Inhabited
structure VFunc where
 npar:Nat
 nsl:Nat
 res:List RSpec
 body:VCode
 pure:Bool
 own:Bool
 dfr:Option Dfr
 fre:Bool:=false
 rg:Option FuncId:=none
 deriving Inhabited
structure Rnd where
 f:Nat
 path:List Bool
 nt:Nat
 tm:List Nat
 ps:List Nat
 a:VCode
 b:VCode
 deriving Inhabited
structure VProg where
 fn:FuncId -> Option VFunc
 meth:TypeId -> String -> Option FuncId
 ext:FuncId -> List D -> Heap -> Option (D×Heap)
 pext:FuncId -> List D -> Option D
 glob:Nat -> Option (Nat×List (List D)):=fun _=>none
 rnd:Nat -> Option Rnd:=fun _=>none
structure St where
 sl:List D
 hp:Heap
 deriving Inhabited
def D.cells?:D -> Option (List D)
 | .ag cs=>some cs
 | .tu _ | .u | .bx _ | .lp _ _ | .ow _ _=>none
 | d=>some [d]
def D.cellsN (d:D) (n:Nat):Option (List D) :=
 match d.cells? with
 | some cs=>if cs.length=n then some cs else none
 | none=>none
def val (agg:Bool) (cs:List D):Option D :=
 match agg with
 | true=>some (.ag cs)
 | false=>match cs with
  | [d]=>some d
  | _=>none
def cut (cs:List D) (off n:Nat):Option (List D) :=
 if off+n <= cs.length then some ((cs.drop off).take n)else none
def put (cs:List D) (off:Nat) (vs:List D):Option (List D) :=
 if off+vs.length <= cs.length then some (cs.take off++vs++cs.drop (off+vs.length))else none
def cellEq:D -> D -> Option Bool
 | .b x,.b y=>some (x==y)
 | .i k x,.i k' y=>if k=k' then some (x==y)else none
 | .s x,.s y=>some (x==y)
 | _,_=>none
def kindIs:Nat -> D -> Bool
 | 0,.b _=>true
 | 1,.i _ _=>true
 | 2,.s _=>true
 | _,_=>false
def cellsEq:List Nat -> List D -> List D -> Option Bool
 | [],[],[]=>some true
 | n::sh,x::xs,y::ys=>match kindIs n x,cellEq x y with
  | true,some true=>cellsEq sh xs ys
  | true,some false=>if xs.length=sh.length /\ ys.length=sh.length then some false else none
  | _,_=>none
 | _,_,_=>none
def eqNil:EK -> D -> Option Bool
 | .sl,d=>match d with
  | .nil=>some true
  | .z | .im .. | .mu .. | .sv .. => some false
  | _=>none
 | .pt,d=>match d with
  | .np=>some true
  | .hp .. | .ap .. | .ip .. | .aa .. => some false
  | _=>none
 | .mp,d=>match d with
  | .mnil=>some true
  | .mp _=>some false
  | _=>none
 | .fn,d=>match d with
  | .nf=>some true
  | .fn .. => some false
  | _=>none
 | .ifc,d=>match d with
  | .ni=>some true
  | .ifc .. => some false
  | _=>none
 | _,_=>none
def deq (k:EK) (x y:D):Option Bool :=
 match k with
 | .b=>match x,y with
  | .b x,.b y=>some (x==y)
  | _,_=>none
 | .st sh=>match x,y with
  | .ag xs,.ag ys=>cellsEq sh xs ys
  | _,_=>none
 | k => match k,x,y with
  | .pt,.hp a i,.hp b j=>if a=b /\ i=j then some true else none
  | k,x,y=>match eqNil k y with
   | some true=>eqNil k x
   | some false=>match eqNil k x with
    | some true=>some false
    | _=>none
   | none=>none
def eqvD (neg:Bool) (k:EK) (x y:D):Option D :=
 match deq k x y with
 | some e=>some (.b (e != neg))
 | none=>none
def bytesLess:List UInt8 -> List UInt8 -> Bool
 | _,[]=>false
 | [],_::_=>true
 | a::x,b::y=>a<b||(a==b&&bytesLess x y)
def binI (op:BinOp) (k:IntKind) (x y:Int):Option D :=
 match op with
 | .add=>some (.i k (k.wrap (x+y)))
 | .sub=>some (.i k (k.wrap (x-y)))
 | .mul=>some (.i k (k.wrap (x*y)))
 | .quo=>if y=0 then none else some (.i k (k.wrap (x.tdiv y)))
 | .rem=>if y=0 then none else some (.i k (x.tmod y))
 | .and=>some (.i k (k.wrap (BitVec.ofInt k.bits x &&& BitVec.ofInt k.bits y).toNat))
 | .or=>some (.i k (k.wrap (BitVec.ofInt k.bits x ||| BitVec.ofInt k.bits y).toNat))
 | .xor=>some (.i k (k.wrap (BitVec.ofInt k.bits x ^^^ BitVec.ofInt k.bits y).toNat))
 | .andNot=>some (.i k (k.wrap (BitVec.ofInt k.bits x &&& ~~~(BitVec.ofInt k.bits y)).toNat))
 | .eql=>some (.b (x==y))
 | .neq=>some (.b (x != y))
 | .lss=>some (.b (decide (x<y)))
 | .leq=>some (.b (decide (x <= y)))
 | .gtr=>some (.b (decide (x>y)))
 | .geq=>some (.b (decide (x >= y)))
 | _=>none
def shiftI (op:BinOp) (k:IntKind) (x y:Int):Option D :=
 if y<0 then none else
 match op with
 | .shl=>some (.i k (k.wrap (x*2 ^ (min y.toNat k.bits))))
 | .shr=>some (.i k (x.fdiv (2 ^ (min y.toNat k.bits))))
 | _=>none
def maxText:Nat:=70368744177664
def maxCat:Nat:=4611686018427387904
def binS (op:BinOp) (x y:List UInt8):Option D :=
 match op with
 | .add=>if x.length+y.length <= maxCat then some (.s (x++y))else none
 | .eql=>some (.b (x==y))
 | .neq=>some (.b (!(x==y)))
 | .lss=>some (.b (bytesLess x y))
 | .leq=>some (.b (bytesLess x y||x==y))
 | .gtr=>some (.b (!(bytesLess x y||x==y)))
 | .geq=>some (.b (!(bytesLess x y)))
 | _=>none
def bin (op:BinOp) (x y:D):Option D :=
 match x,y with
 | .i k a,.i k' c=>match op with
  | .shl | .shr=>shiftI op k a c
  | _=>if k=k' then binI op k a c else none
 | .s a,.s c=>binS op a c
 | _,_=>none
def un (op:UnOp) (x:D):Option D :=
 match op,x with
 | .neg,.i k n=>some (.i k (k.wrap (0-n)))
 | .xor,.i k n=>some (.i k (k.wrap (BitVec.ofInt k.bits (if k.signed then -1 else k.max) ^^^ BitVec.ofInt k.bits n).toNat))
 | .not,.b x=>some (.b (!x))
 | _,_=>none
def ixOf (d:D) (len:Nat):Option Nat :=
 match d with
 | .i _ j=>if 0 <= j /\ j<len then some j.toNat else none
 | _=>none
def bdOf (d:D) (top:Nat):Option Nat :=
 match d with
 | .i _ j=>if 0 <= j /\ j <= top then some j.toNat else none
 | _=>none
def arr (H:Heap) (a n:Nat):Option (Nat×List (List D)×Option Nat×Bool×Bool) :=
 match H[a]? with
 | some (.ar w rows cap p lk)=>if rows.length=n then some (w,rows,cap,p,lk)else none
 | _=>none
def ldAt (H:Heap) (x:D) (n:Nat):Option (List D) :=
 match x with
 | .hp b off=>match H[b]? with
  | some (.hb _ cs)=>cut cs off n
  | _=>none
 | .ap a m i off=>match arr H a m with
  | some (_,rows,_,_,_)=>match rows[i]? with
   | some r=>cut r off n
   | none=>none
  | none=>none
 | .aa a=>match H[a]? with
  | some (.ar w rows (some _) _ _)=>if n=w*rows.length then some rows.flatten else none
  | _=>none
 | .ip cs=>cut cs 0 n
 | _=>none
def ldhD (H:Heap) (x:D) (n:Nat):Option (List D) :=
 match x with
 | .hp b off=>ldAt H (.hp b off) n
 | _=>none
theorem ldhD_inv {H:Heap} {x:D} {n:Nat} {r:List D} (h:ldhD H x n=some r):ldAt H x n=some r /\ ∃ b off,x = .hp b off:=by
 cases x<;>first|exact⟨h,_,_,rfl⟩|cases h
def mapH {α:Type} (f:Heap -> α -> Option (α×Heap)):Heap -> List α -> Option (List α×Heap)
 | H,[]=>some ([],H)
 | H,d::ds=>match f H d with
  | some (d',H')=>match mapH f H' ds with
   | some (ds',H'')=>some (d'::ds',H'')
   | none=>none
  | none=>none
def frzD (fD:Heap -> D -> Option (D×Heap)) (fL:Heap -> List D -> Option (List D×Heap)) (fLL:Heap -> List (List D) -> Option (List (List D)×Heap)) (H:Heap) (d:D):Option (D×Heap) :=
 match d with
  | .b _ | .i _ _ | .s _ | .nil | .z | .im _ _ | .np | .mnil | .nf | .ni=>some (d,H)
  | .fn _ [] []=>some (d,H)
  | .mu a n off len=>match arr H a n with
   | some (w,rows,cap,true,_)=>if off+len <= n then some (.im w ((rows.drop off).take len),H.set a (.ar w rows cap true true))else none
   | _=>none
  | .sv w rows=>match fLL H rows with
   | some (rows',H')=>some (.im w rows',H')
   | none=>none
  | .ifc t v=>match fD H v with
   | some (v',H')=>some (.ifc t v',H')
   | none=>none
  | .ag cs=>match fL H cs with
   | some (cs',H')=>some (.ag cs',H')
   | none=>none
  | _=>none
def frz:Nat -> (Heap -> D -> Option (D×Heap))×(Heap -> List D -> Option (List D×Heap))×(Heap -> List (List D) -> Option (List (List D)×Heap))
 | 0=>(fun _ _=>none,fun H ds=>match ds with|[]=>some ([],H)|_::_=>none,fun H rs=>match rs with|[]=>some ([],H)|_::_=>none)
 | m+1=>(frzD (frz m).1 (frz m).2.1 (frz m).2.2,mapH (frz m).1,mapH (frz m).2.1)
def freeze (m:Nat) (H:Heap) (d:D):Option (D×Heap):=(frz m).1 H d
def freezeL (m:Nat) (H:Heap) (ds:List D):Option (List D×Heap):=(frz m).2.1 H ds
def freezeLL (m:Nat) (H:Heap) (rs:List (List D)):Option (List (List D)×Heap):=(frz m).2.2 H rs
theorem freeze_zero (H:Heap) (d:D):freeze 0 H d=none:=rfl
theorem freeze_succ (m:Nat) (H:Heap) (d:D):freeze (m+1) H d=match d with
  | .b _ | .i _ _ | .s _ | .nil | .z | .im _ _ | .np | .mnil | .nf | .ni=>some (d,H)
  | .fn _ [] []=>some (d,H)
  | .mu a n off len=>match arr H a n with
   | some (w,rows,cap,true,_)=>if off+len <= n then some (.im w ((rows.drop off).take len),H.set a (.ar w rows cap true true))else none
   | _=>none
  | .sv w rows=>match freezeLL m H rows with
   | some (rows',H')=>some (.im w rows',H')
   | none=>none
  | .ifc t v=>match freeze m H v with
   | some (v',H')=>some (.ifc t v',H')
   | none=>none
  | .ag cs=>match freezeL m H cs with
   | some (cs',H')=>some (.ag cs',H')
   | none=>none
  | _=>none:=rfl
theorem freezeL_nil (m:Nat) (H:Heap):freezeL m H []=some ([],H):=by cases m<;>rfl
theorem freezeL_zero (H:Heap) (d:D) (ds:List D):freezeL 0 H (d::ds)=none:=rfl
theorem freezeL_cons (m:Nat) (H:Heap) (d:D) (ds:List D):freezeL (m+1) H (d::ds)=match freeze m H d with
  | some (d',H')=>match freezeL (m+1) H' ds with
   | some (ds',H'')=>some (d'::ds',H'')
   | none=>none
  | none=>none:=by
 have e1:freeze m H d=(frz m).1 H d:=rfl
 have e2 : ∀ H',freezeL (m+1) H' ds=mapH (frz m).1 H' ds:=fun _=>rfl
 simp only[e1,e2]
 show mapH (frz m).1 H (d::ds)=_
 rw[mapH]
 cases(frz m).1 H d with
 | none=>rfl
 | some p =>
  obtain⟨d',H'⟩:=p
  simp only
  cases mapH (frz m).1 H' ds<;>rfl
theorem freezeLL_nil (m:Nat) (H:Heap):freezeLL m H []=some ([],H):=by cases m<;>rfl
theorem freezeLL_zero (H:Heap) (d:List D) (ds:List (List D)):freezeLL 0 H (d::ds)=none:=rfl
theorem freezeLL_cons (m:Nat) (H:Heap) (r:List D) (rs:List (List D)):freezeLL (m+1) H (r::rs)=match freezeL m H r with
  | some (r',H')=>match freezeLL (m+1) H' rs with
   | some (rs',H'')=>some (r'::rs',H'')
   | none=>none
  | none=>none:=by
 have e1:freezeL m H r=(frz m).2.1 H r:=rfl
 have e2 : ∀ H',freezeLL (m+1) H' rs=mapH (frz m).2.1 H' rs:=fun _=>rfl
 simp only[e1,e2]
 show mapH (frz m).2.1 H (r::rs)=_
 rw[mapH]
 cases(frz m).2.1 H r with
 | none=>rfl
 | some p =>
  obtain⟨d',H'⟩:=p
  simp only
  cases mapH (frz m).2.1 H' rs<;>rfl
def deep:Nat:=12
def freezeRows (H:Heap) (rows:List (List D)):Option (List (List D)×Heap):=freezeLL deep H rows
def putRow (H:Heap) (a m i off:Nat) (vs:List D):Option Heap :=
 match arr H a m with
 | some (w,rows,cap,p,false)=>match rows[i]? with
  | some r=>match put r off vs with
   | some r'=>some (H.set a (.ar w (rows.set i r') cap p false))
   | none=>none
  | none=>none
 | _=>none
def stAt (H:Heap) (x:D) (vs:List D):Option Heap :=
 match x with
 | .hp b off=>match H[b]? with
  | some (.hb t cs)=>match put cs off vs with
   | some cs'=>some (H.set b (.hb t cs'))
   | none=>none
  | _=>none
 | .ap a m i off=>match arr H a m with
  | some (_,_,_,true,_)=>match freezeL deep H vs with
   | some (vs',H')=>match arr H' a m with
    | some (_,_,_,true,_)=>putRow H' a m i off vs'
    | _=>none
   | none=>none
  | some (_,_,_,false,_)=>putRow H a m i off vs
  | none=>none
 | _=>none
def rowsOf (H:Heap) (w:Nat) (x:D):Option (List (List D)) :=
 match x with
 | .nil | .z=>some []
 | .im w' rows | .sv w' rows=>if w'=w then some rows else none
 | .mu a n off len=>match arr H a n with
  | some (w',rows,_,_,_)=>if w'=w /\ off+len <= n then some ((rows.drop off).take len)else none
  | none=>none
 | .s l=>if w=1 then some (l.map fun c=>[.i .u8 c.toNat])else none
 | _=>none
def room (n bytes:Nat):Bool:=decide (n*bytes <= 140737488355328 /\ n <= 140737488355328)
def appEmp (H:Heap) (x:D) (new:List (List D)) (w bytes:Nat) (p:Bool):Option (D×Heap) :=
 match new with
 | []=>some (x,H)
 | _::_=>if room new.length bytes then some (.mu H.length new.length 0 new.length,H++[.ar w new none p false])else none
def appLit (H:Heap) (x:D) (new:List (List D)) (w' w:Nat):Option (D×Heap) :=
 match new with
 | []=>if w'=w then some (x,H)else none
 | _::_=>none
def appIn (H:Heap) (a off len:Nat) (rows new:List (List D)) (w:Nat) (cap:Option Nat) (p lk:Bool):Option (D×Heap) :=
 match lk with
 | true=>none
 | false =>
  let rows':=rows.take (off+len)++new++rows.drop (off+len+new.length)
  some (.mu a rows'.length off (len+new.length),H.set a (.ar w rows' cap p false))
def appMu (H:Heap) (a n off len:Nat) (new:List (List D)) (w bytes:Nat) (p:Bool):Option (D×Heap) :=
 match arr H a n with
 | some (w',rows,cap,p',lk) =>
  if w'=w /\ p'=p /\ off+len <= n /\ room (off+len+new.length) bytes then
   match new with
   | []=>some (.mu a n off len,H)
   | _ :: _=>match cap with
    | none=>match off with
     | 0=>appIn H a 0 len rows new w none p lk
     | _+1=>none
    | some c=>if off+len+new.length <= c then appIn H a off len rows new w (some c) p lk else
      let rows':=(rows.drop off).take len++new
      some (.mu H.length rows'.length 0 rows'.length,H++[.ar w rows' none p false])
  else none
 | none=>none
def appTo (H:Heap) (x:D) (new:List (List D)) (w bytes:Nat) (p:Bool):Option (D×Heap) :=
 match x with
 | .nil | .z=>appEmp H x new w bytes p
 | .mu a n off len=>appMu H a n off len new w bytes p
 | .im w' _ | .sv w' _=>appLit H x new w' w
 | _=>none
def keyEq (kk:KK) (x y:D):Option Bool :=
 match kk with
 | .c n=>match kindIs n x with
  | true=>cellEq x y
  | false=>none
 | .st sh=>match x,y with
  | .ag xs,.ag ys=>cellsEq sh xs ys
  | _,_=>none
def shapeIs:List Nat -> List D -> Bool
 | [],[]=>true
 | n::sh,x::xs=>kindIs n x&&shapeIs sh xs
 | _,_=>false
def keyOk (kk:KK) (x:D):Bool :=
 match kk with
 | .c n=>kindIs n x
 | .st sh=>match x with
  | .ag xs=>shapeIs sh xs
  | _=>false
def findKey (kk:KK) (k:D):List (D×D) -> Option (Option D)
 | []=>some none
 | (k',v)::es=>match keyEq kk k k' with
  | some true=>some (some v)
  | some false=>findKey kk k es
  | none=>none
def setKey (kk:KK) (k v:D):List (D×D) -> Option (List (D×D))
 | []=>some [(k,v)]
 | (k',v')::es=>match keyEq kk k k' with
  | some true=>some ((k,v)::es)
  | some false=>(setKey kk k v es).map ((k',v') :: ·)
  | none=>none
def bytesOf:List (List D) -> Option (List UInt8)
 | []=>some []
 | [.i .u8 n]::rs=>(bytesOf rs).map (UInt8.ofNat n.toNat :: ·)
 | _=>none
def max2:D -> D -> Option D
 | .i k x,.i k' y=>if k=k' then some (.i k (if y>x then y else x))else none
 | _,_=>none
def min2:D -> D -> Option D
 | .i k x,.i k' y=>if k=k' then some (.i k (if y<x then y else x))else none
 | _,_=>none
def foldO (f:D -> D -> Option D):D -> List D -> Option D
 | d,[]=>some d
 | d,e::es=>match f d e with
  | some x=>foldO f x es
  | none=>none
def fillC:List D -> List (Nat×Nat×D) -> Option (List D)
 | cs,[]=>some cs
 | cs,(off,n,v)::ps=>match v.cellsN n with
  | some vs=>match put cs off vs with
   | some cs'=>fillC cs' ps
   | none=>none
  | none=>none
def fillR:List (List D) -> Nat -> List (Nat×D) -> Option (List (List D))
 | rs,_,[]=>some rs
 | rs,w,(i,v)::ps=>match v.cellsN w with
  | some vs=>if i<rs.length then fillR (rs.set i vs) w ps else none
  | none=>none
mutual
def eqD:D -> D -> Bool
 | .b x,.b y=>x==y
 | .i k n,.i k' n'=>decide (k=k')&&decide (n=n')
 | .s l,.s l'=>l==l'
 | .nil,.nil=>true
 | .z,.z=>true
 | .im w r,.im w' r'=>w==w'&&eqLL r r'
 | .sv w r,.sv w' r'=>w==w'&&eqLL r r'
 | .ow w r,.ow w' r'=>w==w'&&eqLL r r'
 | .mu a n o l,.mu a' n' o' l'=>a==a'&&n==n'&&o==o'&&l==l'
 | .np,.np=>true
 | .lp k o,.lp k' o'=>k==k'&&o==o'
 | .hp k o,.hp k' o'=>k==k'&&o==o'
 | .ap a n i o,.ap a' n' i' o'=>a==a'&&n==n'&&i==i'&&o==o'
 | .aa a,.aa a'=>a==a'
 | .ip c,.ip c'=>eqL c c'
 | .mnil,.mnil=>true
 | .mp m,.mp m'=>m==m'
 | .fn f a b,.fn f' a' b'=>decide (f=f')&&eqL a a'&&eqL b b'
 | .nf,.nf=>true
 | .ni,.ni=>true
 | .ifc t v,.ifc t' v'=>t==t'&&eqD v v'
 | .it r,.it r'=>r==r'
 | .ag c,.ag c'=>eqL c c'
 | .tu c,.tu c'=>eqL c c'
 | .bx c,.bx c'=>eqL c c'
 | .yb a n,.yb a' n'=>a==a'&&n==n'
 | .yl a,.yl a'=>a==a'
 | .u,.u=>true
 | _,_=>false
termination_by structural x=>x
def eqL:List D -> List D -> Bool
 | [],[]=>true
 | x::xs,y::ys=>eqD x y&&eqL xs ys
 | _,_=>false
termination_by structural x=>x
def eqLL:List (List D) -> List (List D) -> Bool
 | [],[]=>true
 | x::xs,y::ys=>eqL x y&&eqLL xs ys
 | _,_=>false
termination_by structural x=>x
end
mutual
theorem eqD_eq : ∀ (x y:D),eqD x y=true↔x=y
 | .b x,y=>by cases y<;>simp[eqD]
 | .i k n,y=>by cases y<;>simp[eqD]
 | .s l,y=>by cases y<;>simp[eqD]
 | .nil,y=>by cases y<;>simp[eqD]
 | .z,y=>by cases y<;>simp[eqD]
 | .im w r,y=>by cases y<;>simp[eqD,eqLL_eq r]
 | .sv w r,y=>by cases y<;>simp[eqD,eqLL_eq r]
 | .ow w r,y=>by cases y<;>simp[eqD,eqLL_eq r]
 | .mu a n o l,y=>by cases y<;>simp[eqD,and_assoc]
 | .np,y=>by cases y<;>simp[eqD]
 | .lp k o,y=>by cases y<;>simp[eqD]
 | .hp k o,y=>by cases y<;>simp[eqD]
 | .ap a n i o,y=>by cases y<;>simp[eqD,and_assoc]
 | .aa a,y=>by cases y<;>simp[eqD]
 | .ip c,y=>by cases y<;>simp[eqD,eqL_eq c]
 | .mnil,y=>by cases y<;>simp[eqD]
 | .mp m,y=>by cases y<;>simp[eqD]
 | .fn f a b,y=>by cases y<;>simp[eqD,eqL_eq a,eqL_eq b,and_assoc]
 | .nf,y=>by cases y<;>simp[eqD]
 | .ni,y=>by cases y<;>simp[eqD]
 | .ifc t v,y=>by cases y<;>simp[eqD,eqD_eq v]
 | .it r,y=>by cases y<;>simp[eqD]
 | .ag c,y=>by cases y<;>simp[eqD,eqL_eq c]
 | .tu c,y=>by cases y<;>simp[eqD,eqL_eq c]
 | .bx c,y=>by cases y<;>simp[eqD,eqL_eq c]
 | .yb a n,y=>by cases y<;>simp[eqD]
 | .yl a,y=>by cases y<;>simp[eqD]
 | .u,y=>by cases y<;>simp[eqD]
theorem eqL_eq : ∀ (x y:List D),eqL x y=true↔x=y
 | [],y=>by cases y<;>simp[eqL]
 | x::xs,y=>by cases y<;>simp[eqL,eqD_eq x,eqL_eq xs]
theorem eqLL_eq : ∀ (x y:List (List D)),eqLL x y=true↔x=y
 | [],y=>by cases y<;>simp[eqLL]
 | x::xs,y=>by cases y<;>simp[eqLL,eqL_eq x,eqLL_eq xs]
end
def eqB:Blk -> Blk -> Bool
 | .hb t c,.hb t' c'=>t==t'&&eqL c c'
 | .ar w r c p l,.ar w' r' c' p' l'=>w==w'&&eqLL r r'&&c==c'&&p==p'&&l==l'
 | .mp es,.mp es'=>eqL (es.map (·.1)) (es'.map (·.1))&&eqL (es.map (·.2)) (es'.map (·.2))
 | .si l p,.si l' p'=>l==l'&&p==p'
 | .yt t l k,.yt t' l' k'=>t==t'&&l==l'&&k==k'
 | .df,.df=>true
 | .yh f p j n t x s,.yh f' p' j' n' t' x' s'=>f==f'&&p==p'&&j==j'&&n==n'&&t==t'&&eqL x x'&&decide (s=s')
 | .no,.no=>true
 | _,_=>false
theorem pairs_eq {α β:Type} : ∀ (x y:List (α×β)),x.map (·.1)=y.map (·.1) -> x.map (·.2)=y.map (·.2) -> x=y
 | [],[],_,_=>rfl
 | [],_::_,h,_=>by simp at h
 | _::_,[],h,_=>by simp at h
 | (a,b)::x,(c,d)::y,h,h'=>by
  simp only[List.map_cons,List.cons.injEq]at h h'
  rw[h.1,h'.1,pairs_eq x y h.2 h'.2]
theorem eqB_eq (x y:Blk):eqB x y=true↔x=y:=by
 cases x<;>cases y<;>simp[eqB,eqL_eq,eqLL_eq,and_assoc]
 exact⟨fun h=>pairs_eq _ _ h.1 h.2,fun h=>by rw[h];exact⟨rfl,rfl⟩⟩
def extH:Heap -> Heap -> Bool
 | [],_=>true
 | b::bs,b'::bs'=>eqB b b'&&extH bs bs'
 | _::_,[]=>false
def lkB (b b':Blk):Bool :=
 match b,b' with
 | .ar w r c p _,.ar w' r' c' p' _=>eqB (.ar w r c p true) (.ar w' r' c' p' true)
 | b,b'=>eqB b b'
def growH:Heap -> Heap -> Bool
 | [],_=>true
 | b::bs,b'::bs'=>lkB b b'&&growH bs bs'
 | _::_,[]=>false
theorem extH_iff : ∀ (H H':Heap),extH H H'=true ↔ ∃ t,H'=H++t
 | [],H'=>⟨fun _=>⟨H',rfl⟩,fun _=>rfl⟩
 | b::bs,[]=>by simp[extH]
 | b::bs,b'::bs'=>by
  simp only[extH,Bool.and_eq_true,eqB_eq,extH_iff bs bs',List.cons_append,List.cons.injEq]
  exact⟨fun⟨h,t,ht⟩=>⟨t,h.symm,ht⟩,fun⟨t,h,ht⟩=>⟨h.symm,t,ht⟩⟩
mutual
def freeD:D -> Bool
 | .b _ | .i _ _ | .s _ | .nil | .z | .im _ _ | .np | .mnil | .nf | .ni=>true
 | .fn _ [] []=>true
 | .ifc _ v=>freeD v
 | .ag cs=>freeL cs
 | _=>false
termination_by structural x=>x
def freeL:List D -> Bool
 | []=>true
 | d::ds=>freeD d&&freeL ds
termination_by structural x=>x
end
def O.ev (loc sl:List D):O -> D
 | .l i=>loc.getD i .u
 | .s k=>sl.getD k .u
 | .c d=>d
def AB.ev (loc sl:List D):AB -> Option (Nat×Nat)
 | .sl k=>match sl[k]? with
  | some (.bx _)=>some (k,0)
  | _=>none
 | .lo i=>match loc[i]? with
  | some (.lp k off)=>some (k,off)
  | _=>none
inductive R where
 | v (d:D) (st:St)
 | p (d:D) (hp:Heap)
 | bad
 deriving Inhabited
inductive CR where
 | ret (d:D) (hp:Heap)
 | pan (d:D) (hp:Heap)
 | bad
 deriving Inhabited
def CR.toR (sl:List D):CR -> R
 | .ret d hp => .v d ⟨sl,hp⟩
 | .pan d hp => .p d hp
 | .bad => .bad
def panD:D -> Heap -> R
 | .ifc t d,H => .p (.ifc t d) H
 | _,_ => .bad
def adds (H:Heap):CR -> CR
 | .ret d H'=>if extH H H' then .ret d H' else .bad
 | _ => .bad
def gros (H:Heap):CR -> CR
 | .ret d H'=>if growH H H' then .ret d H' else .bad
 | _ => .bad
def rets:CR -> CR
 | .ret d H => .ret d H
 | _ => .bad
def ofO (st:St):Option D -> R
 | some d => .v d st
 | none => .bad
def boxAt (st:St) (k:Nat):Option (List D) :=
 match st.sl[k]? with
 | some (.bx cs)=>some cs
 | _=>none
def bound (o:Option D) (dflt top:Nat):Option Nat :=
 match o with
 | none=>some dflt
 | some d=>bdOf d top
def bounds (lo hi:Option D) (len cap:Nat):Option (Nat×Nat) :=
 match bound hi len cap with
 | some h=>match bound lo 0 h with
  | some k=>some (k,h)
  | none=>none
 | none=>none
def sliceS (x:D) (lo hi mx:Option D):Option D :=
 match x,mx with
 | .s l,none=>match bounds lo hi l.length l.length with
  | some (k,h)=>some (.s ((l.drop k).take (h-k)))
  | none=>none
 | _,_=>none
def sliceD (H:Heap) (w:Nat) (x:D) (lo hi mx:Option D):Option D :=
 match mx with
 | none=>match x with
  | .nil=>match bounds lo hi 0 0 with
   | some _=>some .nil
   | none=>none
  | .z=>match bounds lo hi 0 0 with
   | some _=>some .z
   | none=>none
  | .im w' rows=>match decide (w'=w),bounds lo hi rows.length rows.length with
   | true,some (k,h)=>some (.im w' ((rows.drop k).take (h-k)))
   | _,_=>none
  | .sv w' rows=>match decide (w'=w),bounds lo hi rows.length rows.length with
   | true,some (k,h)=>some (.sv w' ((rows.drop k).take (h-k)))
   | _,_=>none
  | .mu a n off len=>match arr H a n with
   | some (w',_,_,_,_)=>match decide (w'=w),bounds lo hi len (n-off)with
    | true,some (k,h)=>some (.mu a n (off+k) (h-k))
    | _,_=>none
   | none=>none
  | _=>none
 | some m=>match bdOf m 0,hi with
  | some _,some hi=>match bounds lo (some hi) 0 0 with
   | some _=>match x with
    | .nil=>some .nil
    | .z | .im .. | .sv .. | .mu .. => some .z
    | _=>none
   | none=>none
  | _,_=>none
def sliceA (H:Heap) (x:D) (n w:Nat) (lo hi:Option D):Option D :=
 match x with
 | .aa a=>match H[a]? with
  | some (.ar w' rows (some c) _ false)=>if w'=w /\ rows.length=n /\ c=n then
    match bounds lo hi n n with
    | some (k,h)=>some (.mu a n k (h-k))
    | none=>none
   else none
  | _=>none
 | _=>none
abbrev Bs:=Nat×List Nat
def Bs.un (base:Bs) (a:Nat):Bool:=decide (a<base.1) && !base.2.contains a
def Bs.ov (base:Bs) (a:Nat):Bool:=decide (base.1 <= a)||base.2.contains a
def D.under (base:Bs):D -> Bool
 | .mu a _ _ _ | .hp a _ | .ap a _ _ _ | .aa a | .mp a=>base.un a
 | _=>true
def D.over (base:Bs):D -> Bool
 | .mu a _ _ _ | .hp a _ | .ap a _ _ _ | .aa a | .mp a=>base.ov a
 | _=>true
def D.blk:D -> List Nat
 | .mu a _ _ _ | .hp a _ | .ap a _ _ _ | .aa a | .mp a=>[a]
 | _=>[]
def fadD (x:D) (off:Nat):Option D :=
 match x with
 | .hp b o=>some (.hp b (o+off))
 | .ap a n i o=>some (.ap a n i (o+off))
 | .ip cs=>if off <= cs.length then some (.ip (cs.drop off))else none
 | _=>none
def iadD (H:Heap) (x ix:D) (w:Nat):Option D :=
 match x with
 | .im w' rows | .sv w' rows=>match ixOf ix rows.length with
  | some j=>match rows[j]? with
   | some r=>if w'=w then some (.ip r)else none
   | none=>none
  | none=>none
 | .mu a n off len=>match arr H a n with
  | some (w',_,_,_,_)=>match ixOf ix len with
   | some j=>if w'=w then some (.ap a n (off+j) 0)else none
   | none=>none
  | none=>none
 | _=>none
def iarD (H:Heap) (x ix:D) (n w:Nat):Option D :=
 match ixOf ix n with
 | some j=>match x with
  | .hp b o=>some (.hp b (o+j*w))
  | .ap a m i o=>some (.ap a m i (o+j*w))
  | .ip cs=>if j*w <= cs.length then some (.ip (cs.drop (j*w)))else none
  | .aa a=>match H[a]? with
   | some (.ar w' rows (some _) _ _)=>if w'=w /\ rows.length=n then some (.ap a n j 0)else none
   | _=>none
  | _=>none
 | none=>none
def lenD (H:Heap) (k:Nat) (x:D):Option D :=
 match k with
 | 0=>match x with
  | .s l=>some (.i .i64 l.length)
  | _=>none
 | 1=>match x with
  | .nil | .z=>some (.i .i64 0)
  | .im _ rows | .sv _ rows=>some (.i .i64 rows.length)
  | .mu _ _ _ len=>some (.i .i64 len)
  | _=>none
 | _=>match x with
  | .mnil=>some (.i .i64 0)
  | .mp m=>match H[m]? with
   | some (.mp es)=>some (.i .i64 es.length)
   | _=>none
  | _=>none
def capD (H:Heap) (x:D):Option D :=
 match x with
 | .nil | .z=>some (.i .i64 0)
 | .mu a n off _=>match arr H a n with
  | some (_,_,some c,_,_)=>some (.i .i64 (c-off:Nat))
  | _=>none
 | _=>none
def pickD (c a b:D):Option D :=
 match c with
 | .b true=>some a
 | .b false=>some b
 | _=>none
def cviD (k:IntKind) (x:D):Option D :=
 match x with
 | .i _ n=>some (.i k (k.wrap n))
 | _=>none
def cvsD (x:D):Option D :=
 match x with
 | .s l=>some (.s l)
 | _=>none
def cbsD (H:Heap) (x:D):Option D :=
 match x with
 | .s _=>none
 | x=>match rowsOf H 1 x with
  | some rows=>match bytesOf rows with
   | some l=>some (.s l)
   | none=>none
  | none=>none
def ixsD (x ix:D):Option D :=
 match x with
 | .s l=>match ixOf ix l.length with
  | some j=>match l[j]? with
   | some c=>some (.i .u8 c.toNat)
   | none=>none
  | none=>none
 | _=>none
def fldD (x:D) (off n:Nat) (agg:Bool):Option D :=
 match x with
 | .ag cs=>match cut cs off n with
  | some r=>val agg r
  | none=>none
 | _=>none
def extD (x:D) (j:Nat):Option D :=
 match x with
 | .tu vs=>vs[j]?
 | _=>none
def entsD (H:Heap) (m:D):Option (List (D×D)) :=
 match m with
 | .mnil=>some []
 | .mp m=>match H[m]? with
  | some (.mp es)=>some es
  | _=>none
 | _=>none
def lkD (H:Heap) (kk:KK) (m k:D) (ok:Bool) (zero:D):Option D :=
 match keyOk kk k with
 | true=>match entsD H m with
  | some es=>match findKey kk k es with
   | some r=>match ok with
    | true=>some (.tu [r.getD zero,.b r.isSome])
    | false=>some (r.getD zero)
   | none=>none
  | none=>none
 | false=>none
def tasD (x:D) (t:TypeId) (ok:Bool) (zero:D):Option D :=
 match x with
 | .ifc t' v=>match decide (t'=t),ok with
  | true,true=>some (.tu [v,.b true])
  | true,false=>some v
  | false,true=>some (.tu [zero,.b false])
  | false,false=>none
 | .ni=>match ok with
  | true=>some (.tu [zero,.b false])
  | false=>none
 | _=>none
def nckD (x:D):Option D :=
 match x with
 | .hp b o=>some (.hp b o)
 | .ap a n i o=>some (.ap a n i o)
 | .aa a=>some (.aa a)
 | .ip cs=>some (.ip cs)
 | _=>none
def giaD (q:Option (Nat×List (List D))) (ix:D) (n w:Nat):Option D :=
 match q with
 | some (w',rows)=>match ixOf ix n with
  | some j=>match rows[j]? with
   | some r=>if w'=w then some (.ip r)else none
   | none=>none
  | none=>none
 | none=>none
def ixaD (x ix:D) (n w:Nat) (agg:Bool):Option D :=
 match x with
 | .ag cs=>match ixOf ix n with
  | some j=>match cut cs (j*w) w with
   | some r=>val agg r
   | none=>none
  | none=>none
 | _=>none
def foldD (f:D -> D -> Option D):List D -> Option D
 | d::ds=>foldO f d ds
 | []=>none
def bsvD (w len:Nat) (zs:List D) (parts:List (Nat×D)):Option D :=
 match len with
 | 0=>some .z
 | _+1=>(fillR (List.replicate len zs) w parts).map fun rows => .sv w rows
def bslD (H:Heap) (w len:Nat) (zs:List D) (parts:List (Nat×D)) (p:Bool):Option (D×Heap) :=
 match len with
 | 0=>some (.z,H)
 | _ + 1=>match fillR (List.replicate len zs) w parts with
  | some rows=>match p with
   | true=>match freezeRows H rows with
    | some (rows',H')=>some (.mu H'.length len 0 len,H'++[.ar w rows' (some len) true false])
    | none=>none
   | false=>some (.mu H.length len 0 len,H++[.ar w rows (some len) false false])
  | none=>none
def csbD (x:D):Option D :=
 match x with
 | .s l=>if l.length <= maxText then some (.im 1 (l.map fun c=>[.i .u8 c.toNat]))else none
 | _=>none
def appD (H:Heap) (x y:D) (w bytes:Nat) (p:Bool):Option (D×Heap) :=
 match rowsOf H w y with
 | some new=>match p with
  | true=>match freezeRows H new with
   | some (new',H')=>appTo H' x new' w bytes true
   | none=>none
  | false=>appTo H x new w bytes false
 | none=>none
def cpyD (H:Heap) (x y:D) (w:Nat):Option (D×Heap) :=
 match x with
 | .mu a n off len=>match rowsOf H w y with
  | some src=>match freezeRows H (src.take len)with
   | some (new,H')=>match arr H' a n with
    | some (w',rows,cap,p,false) =>
     if w'=w /\ off+len <= n then some (.i .i64 new.length,H'.set a (.ar w (rows.take off++new++rows.drop (off+new.length)) cap p false))else none
    | _=>none
   | none=>none
  | none=>none
 | .nil | .z=>match rowsOf H w y with
  | some _=>some (.i .i64 0,H)
  | none=>none
 | _=>none
def mksD (H:Heap) (l c:D) (w bytes:Nat) (zs:List D) (p:Bool):Option (D×Heap) :=
 match bdOf c 140737488355328 with
 | some cn=>match bdOf l cn with
  | some ln=>if room cn bytes then some (.mu H.length cn 0 ln,H++[.ar w (List.replicate cn zs) (some cn) p false])else none
  | none=>none
 | none=>none
def mupD (H:Heap) (kk:KK) (m k v:D):Option Heap :=
 match keyOk kk k with
 | true=>match m with
  | .mp m=>match H[m]? with
   | some (.mp es)=>match setKey kk k v es with
    | some es'=>some (H.set m (.mp es'))
    | none=>none
   | _=>none
  | _=>none
 | false=>none
def ofP (st:St):Option (D×Heap) -> R
 | some (d,H) => .v d ⟨st.sl,H⟩
 | none => .bad
def ofH (st:St):Option Heap -> R
 | some H => .v .u ⟨st.sl,H⟩
 | none => .bad
def yF:FuncId:=4294967295
def step (V:VProg) (cl:FuncId -> List D -> Heap -> CR) (loc:List D) (st:St):VOp -> R :=
 let ev:=O.ev loc st.sl
 fun
 | .mov x => .v (ev x) st
 | .pick c a b=>ofO st (pickD (ev c) (ev a) (ev b))
 | .lal zs => .v (.bx zs) st
 | .lbx x n=>ofO st (((ev x).cellsN n).map .bx)
 | .hal t zs => .v (.hp st.hp.length 0) ⟨st.sl,st.hp++[.hb t zs]⟩
 | .hbx t x n=>ofP st (((ev x).cellsN n).map fun cs=>(.hp st.hp.length 0,st.hp++[.hb t cs]))
 | .haa w zs p => .v (.aa st.hp.length) ⟨st.sl,st.hp++[.ar w zs (some zs.length) p false]⟩
 | .lfa a off=>match a.ev loc st.sl with
  | some (k,o) => .v (.lp k (o+off)) st
  | none => .bad
 | .lia a ix n w=>match a.ev loc st.sl with
  | some (k,o)=>match ixOf (ev ix) n with
   | some j => .v (.lp k (o+j*w)) st
   | none => .bad
  | none => .bad
 | .lld a n agg=>match a.ev loc st.sl with
  | some (k,o)=>match boxAt st k with
   | some cs=>match cut cs o n with
    | some r=>ofO st (val agg r)
    | none => .bad
   | none => .bad
  | none => .bad
 | .lst a x n=>match a.ev loc st.sl with
  | some (k,o)=>match boxAt st k with
   | some cs=>match (ev x).cellsN n with
    | some vs=>match put cs o vs with
     | some cs' => .v .u ⟨st.sl.set k (.bx cs'),st.hp⟩
     | none => .bad
    | none => .bad
   | none => .bad
  | none => .bad
 | .fad x off=>ofO st (fadD (ev x) off)
 | .iad x ix w=>ofO st (iadD st.hp (ev x) (ev ix) w)
 | .iar x ix n w=>ofO st (iarD st.hp (ev x) (ev ix) n w)
 | .ld x n agg=>match ldAt st.hp (ev x) n with
  | some r=>ofO st (val agg r)
  | none => .bad
 | .ldh x n agg=>match ldhD st.hp (ev x) n with
  | some r=>ofO st (val agg r)
  | none => .bad
 | .ldq x n agg=>match ldAt st.hp (ev x) n with
  | some r=>ofO st (val agg r)
  | none => .bad
 | .st x v n=>match (ev v).cellsN n with
  | some vs=>ofH st (stAt st.hp (ev x) vs)
  | none => .bad
 | .bin op x y=>ofO st (bin op (ev x) (ev y))
 | .eqv neg k x y=>ofO st (eqvD neg k (ev x) (ev y))
 | .un op x=>ofO st (un op (ev x))
 | .cvi k x=>ofO st (cviD k (ev x))
 | .cvs x=>ofO st (cvsD (ev x))
 | .cbs x=>ofO st (cbsD st.hp (ev x))
 | .csb x=>ofO st (csbD (ev x))
 | .agc zs parts=>ofO st ((fillC zs (parts.map fun(off,n,x)=>(off,n,ev x))).map .ag)
 | .bsl w len zs parts p=>ofP st (bslD st.hp w len zs (parts.map fun(i,x)=>(i,ev x)) p)
 | .bsv w len zs parts=>ofO st (bsvD w len zs (parts.map fun(i,x)=>(i,ev x)))
 | .len k x=>ofO st (lenD st.hp k (ev x))
 | .cap x=>ofO st (capD st.hp (ev x))
 | .app x y w bytes p=>ofP st (appD st.hp (ev x) (ev y) w bytes p)
 | .cpy x y w=>ofP st (cpyD st.hp (ev x) (ev y) w)
 | .mks l c w bytes zs p=>ofP st (mksD st.hp (ev l) (ev c) w bytes zs p)
 | .sli str w x lo hi mx=>ofO st (match str with
  | true=>sliceS (ev x) (lo.map ev) (hi.map ev) (mx.map ev)
  | false=>sliceD st.hp w (ev x) (lo.map ev) (hi.map ev) (mx.map ev))
 | .sla x n w lo hi=>ofO st (sliceA st.hp (ev x) n w (lo.map ev) (hi.map ev))
 | .ixs x ix=>ofO st (ixsD (ev x) (ev ix))
 | .fld x off n agg=>ofO st (fldD (ev x) off n agg)
 | .ext x j=>ofO st (extD (ev x) j)
 | .mkf f first captured => .v (.fn f (first.map ev) (captured.map ev)) st
 | .mkm => .v (.mp st.hp.length) ⟨st.sl,st.hp++[.mp []]⟩
 | .lk kk m k ok zero=>ofO st (lkD st.hp kk (ev m) (ev k) ok zero)
 | .mup kk m k v=>ofH st (mupD st.hp kk (ev m) (ev k) (ev v))
 | .mki t x => .v (.ifc t (ev x)) st
 | .tas x t ok zero=>ofO st (tasD (ev x) t ok zero)
 | .nck x=>ofO st (nckD (ev x))
 | .mx xs=>ofO st (foldD max2 (xs.map ev))
 | .mn xs=>ofO st (foldD min2 (xs.map ev))
 | .call f args=>(cl f (args.map ev) st.hp).toR st.sl
 | .calv x args=>match ev x with
  | .fn (.func f) first captured=>if f=yF then .bad else(cl f (first++args.map ev++captured) st.hp).toR st.sl
  | .yl y=>(cl yF (.yl y::args.map ev) st.hp).toR st.sl
  | _ => .bad
 | .inv x m args=>match ev x with
  | .ifc t v=>match V.meth t m with
   | some f=>(cl f (v::args.map ev) st.hp).toR st.sl
   | none => .bad
  | _ => .bad
 | .pan x=>panD (ev x) st.hp
 | .stk => .bad
 | .ixa x ix n w agg=>ofO st (ixaD (ev x) (ev ix) n w agg)
 | .cpl f args=>match V.fn f with
  | some vf=>match vf.pure && !vf.own&&freeL (args.map ev)with
   | true=>(rets (cl f (args.map ev) st.hp)).toR st.sl
   | false => .bad
  | none => .bad
 | .gia g ix n w=>ofO st (giaD (V.glob g) (ev ix) n w)
 | .calx f args=>(adds st.hp (cl f (args.map ev) st.hp)).toR st.sl
 | .calvx x args=>match ev x with
  | .fn (.func f) first captured=>if f=yF then .bad else(gros st.hp (cl f (first++args.map ev++captured) st.hp)).toR st.sl
  | _ => .bad
 | .callp f args=>(cl f (args.map ev) st.hp).toR st.sl
def setSl (sl:List D) (keep:Option Nat) (d:D):List D :=
 match keep with
 | none=>sl
 | some k=>sl.set k d
def VOper.wants (o:VOper) (loc sl:List D):Option Bool :=
 match o.guard with
 | none=>some true
 | some (x,want)=>match x.ev loc sl with
  | .b y=>some (y==want)
  | .u=>some false
  | _=>none
inductive Ex where
 | nm
 | ex (id:Nat)
 | rt
 | pn (d:D)
 | bad
 deriving Inhabited
def VOp.reads:VOp -> List O
 | .len 0 _ | .len 1 _=>[]
 | .ld x _ _ | .iad x _ _ | .iar x _ _ _ | .len _ x | .cap x | .sli _ _ x _ _ _ | .sla x _ _ _ _ | .lk _ x _ _ _=>[x]
 | _=>[]
def VOp.writes:VOp -> List O
 | .st x _ _ | .app x _ _ _ _ | .cpy x _ _ | .mup _ x _ _=>[x]
 | _=>[]
def VOp.fits (dr:Option (Bs×Bool)) (op:VOp) (loc sl:List D):Bool :=
 match dr with
 | none=>true
 | some (base,false)=>op.reads.all fun x=>(x.ev loc sl).under base
 | some (base,true)=>(op.reads.all fun x=>(x.ev loc sl).under base)&&op.writes.all fun x=>(x.ev loc sl).over base
def ownIds (os:List VOper) (sl:List D):List Nat:=os.flatMap fun o=>o.op.writes.flatMap fun | .s k=>(sl.getD k .u).blk|_=>[]
def bsOf (b:Bool) (os:List VOper) (sl:List D) (H:Heap):Bs:=(H.length,match b with|true=>ownIds os sl|false=>[])
def ops (V:VProg) (cl:FuncId -> List D -> Heap -> CR) (dr:Option (Bs×Bool)):List VOper -> List D -> St -> Ex×St
 | [],_,st=>(.nm,st)
 | o :: os,loc,st=>match o.wants loc st.sl with
  | some true=>match o.op.fits dr loc st.sl with
   | true=>match step V cl loc st o.op with
    | .v d st'=>ops V cl dr os (loc++[d]) ⟨setSl st'.sl o.keep d,st'.hp⟩
    | .p d hp=>match dr.isNone||o.op.pans with
     | true=>(.pn d,⟨st.sl,hp⟩)
     | false=>(.bad,st)
    | .bad=>(.bad,st)
   | false=>(.bad,st)
  | some false=>ops V cl dr os (loc++[.u]) ⟨setSl st.sl o.keep .u,st.hp⟩
  | none=>(.bad,st)
def iter (body:St -> Ex×St):Nat -> St -> Ex×St
 | 0,st=>(.bad,st)
 | n+1,st=>match body st with
  | (.nm,st')=>iter body n st'
  | r=>r
def rngK (sl:List D) (y:Nat) (st:St):CR -> Ex×St
 | .ret _ H=>match H[y]? with
  | some (.yh _ _ _ _ _ _ .rd)=>(.nm,⟨sl,H.set y .no⟩)
  | some (.yh _ _ _ _ _ _ .dr)=>(.rt,⟨sl,H.set y .no⟩)
  | some (.yh _ _ _ _ _ _ (.dx id))=>(.ex id,⟨sl,H.set y .no⟩)
  | _=>(.bad,st)
 | _=>(.bad,st)
def exec (V:VProg) (cl:FuncId -> List D -> Heap -> CR) (n:Nat):VCode -> St -> Ex×St
 | .skip,st=>(.nm,st)
 | .reg os draw,st=>ops V cl (match draw with|some b=>some (bsOf b os st.sl st.hp,b)|none=>none) os [] st
 | .seq a b,st=>match exec V cl n a st with
  | (.nm,st')=>exec V cl n b st'
  | r=>r
 | .cond c t e,st=>match c.ev [] st.sl with
  | .b true=>exec V cl n t st
  | .b false=>exec V cl n e st
  | _=>(.bad,st)
 | .block id c,st=>match exec V cl n c st with
  | (.ex id',st')=>if id'=id then(.nm,st')else(.ex id',st')
  | r=>r
 | .loop c,st=>iter (exec V cl n c) n st
 | .exit id,st=>(.ex id,st)
 | .ret,st=>(.rt,st)
 | .stuck,st=>(.bad,st)
 | .rng j x,st=>match V.rnd j with
  | some r=>match x.ev [] st.sl with
   | .fn (.func g) [] cap=>if g=yF then(.bad,st)else rngK st.sl (st.hp.length+1) st (cl g (.yl (st.hp.length+1)::cap) (st.hp++[.df,.yh r.f r.path j r.nt r.tm st.sl .rd]))
   | _=>(.bad,st)
  | none=>(.bad,st)
def setPs:List D -> List Nat -> List D -> List D
 | sl,k::ks,d::ds=>setPs (sl.set k d) ks ds
 | sl,_,_=>sl
def rndEnd (y:Nat):Ex×St -> CR
 | (.nm,st)=>match st.hp[y]? with
  | some (.yh f p j nt tm x .bz) => .ret (.b true) (st.hp.set y (.yh f p j nt tm x .rd))
  | _ => .bad
 | (.rt,st)=>match st.hp[y]? with
  | some (.yh f p j nt tm x .bz) => .ret (.b false) (st.hp.set y (.yh f p j nt tm x .dr))
  | _ => .bad
 | (.ex id,st)=>match st.hp[y]? with
  | some (.yh f p j nt tm x .bz) => .ret (.b false) (st.hp.set y (.yh f p j nt tm x (.dx id)))
  | _ => .bad
 | _ => .bad
def roundB (V:VProg) (cl:FuncId -> List D -> Heap -> CR) (n:Nat) (y:Nat) (b:VCode):Ex×St -> CR
 | (.nm,st)=>match st.hp[y]? with
  | some (.yh f p j nt tm x .rd)=>rndEnd y (exec V cl n b ⟨st.sl,st.hp.set y (.yh f p j nt tm x .bz)⟩)
  | _ => .bad
 | _ => .bad
def roundR (V:VProg) (cl:FuncId -> List D -> Heap -> CR) (n:Nat) (args:List D) (H:Heap):CR :=
 match args with
 | .yl y::az=>match H[y]? with
  | some (.yh f p j nt tm x .rd)=>match V.rnd j with
   | some r=>if r.f=f /\ r.path=p /\ r.nt=nt /\ r.tm=tm /\ r.ps.length=az.length then roundB V cl n y r.b (exec V cl n r.a ⟨setPs x r.ps az,H⟩)else .bad
   | none => .bad
  | _ => .bad
 | _ => .bad
def RSpec.ev (st:St):RSpec -> Option D
 | .s k=>st.sl[k]?
 | .bx k n agg=>match boxAt st k with
  | some cs=>if cs.length=n then val agg cs else none
  | none=>none
 | .hb k n agg=>match st.sl[k]? with
  | some d=>match ldAt st.hp d n with
   | some cs=>val agg cs
   | none=>none
  | none=>none
def resAll (st:St):List RSpec -> Option (List D)
 | []=>some []
 | r::rs=>match r.ev st with
  | some d=>match resAll st rs with
   | some ds=>some (d::ds)
   | none=>none
  | none=>none
def oneOr:List D -> D
 | [d]=>d
 | ds => .tu ds
def settleC (H:Heap):D -> Option D
 | .mu a n off len=>match arr H a n with
  | some (w,rows,_,true,lk)=>if off+len <= n then some (match lk with|false => .ow w ((rows.drop off).take len)|true => .im w ((rows.drop off).take len))else none
  | _=>none
 | .b x=>some (.b x)
 | .i k n=>some (.i k n)
 | .s l=>some (.s l)
 | .nil=>some .nil
 | .z=>some .z
 | .im w rows=>some (.im w rows)
 | .np=>some .np
 | .mnil=>some .mnil
 | .fn f [] []=>some (.fn f [] [])
 | .nf=>some .nf
 | .ni=>some .ni
 | _=>none
def mapO {α β:Type} (f:α -> Option β):List α -> Option (List β)
 | []=>some []
 | x::xs=>match f x with
  | some y=>match mapO f xs with
   | some ys=>some (y::ys)
   | none=>none
  | none=>none
def settle1 (H:Heap):D -> Option D
 | .ag cs=>(mapO (settleC H) cs).map .ag
 | d=>settleC H d
def settle (H:Heap):D -> Option D
 | .tu ds=>(mapO (settle1 H) ds).map .tu
 | d=>settle1 H d
def muOf:D -> List Nat
 | .mu a _ _ _=>[a]
 | _=>[]
def mus1:D -> List Nat
 | .ag cs=>cs.flatMap muOf
 | d=>muOf d
def mus:D -> List Nat
 | .tu ds=>ds.flatMap mus1
 | d=>mus1 d
def apart:List Nat -> Bool
 | []=>true
 | x::xs => !xs.contains x&&apart xs
def placeC:D -> Heap -> D×Heap
 | .ow w rows,H=>(.mu H.length rows.length 0 rows.length,H++[.ar w rows none true false])
 | d,H=>(d,H)
def placeL:List D -> Heap -> List D×Heap
 | [],H=>([],H)
 | d::ds,H =>
  let r:=placeC d H
  let q:=placeL ds r.2
  (r.1::q.1,q.2)
def place1:D -> Heap -> D×Heap
 | .ag cs,H=>((.ag (placeL cs H).1),(placeL cs H).2)
 | d,H=>placeC d H
def placeL1:List D -> Heap -> List D×Heap
 | [],H=>([],H)
 | d::ds,H =>
  let r:=place1 d H
  let q:=placeL1 ds r.2
  (r.1::q.1,q.2)
def place:D -> Heap -> D×Heap
 | .tu ds,H=>((.tu (placeL1 ds H).1),(placeL1 ds H).2)
 | d,H=>place1 d H
def frz1 (H:Heap) (d:D):Option D:=match freeze deep H d with
 | some (d',_)=>some d'
 | none=>none
def frzR (H:Heap):D -> Option D
 | .tu ds=>match freezeL deep H ds with
  | some (ds',_)=>some (.tu ds')
  | none=>none
 | d=>frz1 H d
def settleO (own:Bool) (H:Heap) (d:D):Option D :=
 match own with
 | true=>if apart (mus d)then settle H d else none
 | false=>frzR H d
def placeO (own:Bool) (d:D) (H:Heap):D×Heap :=
 match own with
 | true=>place d H
 | false=>(d,H)
inductive PR where
 | ret (d:D)
 | pan (d:D)
 | bad
 deriving Inhabited
def enter (V:VProg) (cl:FuncId -> List D -> Heap -> CR) (n:Nat) (vf:VFunc) (args:List D) (H:Heap):CR :=
 if args.length=vf.npar then
  match exec V cl n vf.body ⟨args++List.replicate (vf.nsl-vf.npar) .u,H⟩with
  | (.nm,st)|(.rt,st)=>match resAll st vf.res with
   | some ds => .ret (oneOr ds) st.hp
   | none => .bad
  | (.pn d,st) => .pan d st.hp
  | _ => .bad
 else .bad
def unmark (base:Nat) (H:Heap):Heap:=H.take base++(H.drop base).map fun | .df => .no|b=>b
def enterR (V:VProg) (cl:FuncId -> List D -> Heap -> CR) (n:Nat) (vf:VFunc) (args:List D) (H:Heap):CR :=
 if args.length=vf.npar then
  match exec V cl n vf.body ⟨args++List.replicate (vf.nsl-vf.npar) .u,H⟩with
  | (.nm,st)|(.rt,st)=>match resAll ⟨st.sl,unmark H.length st.hp⟩ vf.res with
   | some ds => .ret (oneOr ds) (unmark H.length st.hp)
   | none => .bad
  | _ => .bad
 else .bad
def leaveD (V:VProg) (cl:FuncId -> List D -> Heap -> CR) (n:Nat) (vf:VFunc) (q:Dfr) (base:Nat) (cs:List D) (x:D) (st:St):CR :=
 match exec V cl n q.body ⟨(cs++List.replicate (q.ns-cs.length) D.u).set q.rk x,st.hp⟩with
 | (.nm,st3)|(.rt,st3)=>if base <= st3.hp.length then(match resAll ⟨st.sl,st3.hp⟩ vf.res with
  | some ds => .ret (oneOr ds) st3.hp
  | none => .bad)else .bad
 | _ => .bad
def D.noBx:D -> Bool
 | .bx _=>false
 | _=>true
def enterD (V:VProg) (cl:FuncId -> List D -> Heap -> CR) (n:Nat) (vf:VFunc) (q:Dfr) (args:List D) (H:Heap):CR :=
 if args.length=vf.npar then
  match exec V cl n q.pre ⟨args++List.replicate (vf.nsl-vf.npar) .u,H⟩with
  | (.nm,st1)=>if st1.sl.all D.noBx=false then .bad else match exec V cl n vf.body st1 with
   | (.nm,st2)=>leaveD V cl n vf q H.length ((q.caps.map O.s).map (O.ev [] st1.sl)) .ni st2
   | (.rt,st2)=>leaveD V cl n vf q H.length ((q.caps.map O.s).map (O.ev [] st1.sl)) .ni st2
   | (.pn x,st2)=>leaveD V cl n vf q H.length ((q.caps.map O.s).map (O.ev [] st1.sl)) x st2
   | _ => .bad
  | _ => .bad
 else .bad
def enterF (V:VProg) (cl:FuncId -> List D -> Heap -> CR) (n:Nat) (vf:VFunc) (args:List D) (H:Heap):CR :=
 match vf.dfr with
 | none=>match vf.rg with
  | none=>enter V cl n vf args H
  | some _=>enterR V cl n vf args H
 | some q=>enterD V cl n vf q args H
def pureRun (V:VProg) (cl:FuncId -> List D -> Heap -> CR) (n:Nat) (vf:VFunc) (args:List D):PR :=
 match enterF V cl n vf args []with
 | .ret d H=>match settleO vf.own H d with
   | some d' => .ret d'
   | none => .bad
 | .pan d H=>match freeze deep H d with
  | some (d',_) => .pan d'
  | none => .bad
 | .bad => .bad
def pureR (V:VProg) (cl:FuncId -> List D -> Heap -> CR) (n:Nat) (f:FuncId) (vf:VFunc) (ds:List D):PR :=
 match V.pext f ds with
 | some d => .ret d
 | none=>pureRun V cl n vf ds
def D.bare:D -> Bool
 | .b _ | .i _ _ | .s _=>true
 | _=>false
def backH (fre:Bool) (d:D) (H H':Heap):Heap:=match fre&&d.bare with
 | true=>H
 | false=>H'
def call (V:VProg):Nat -> FuncId -> List D -> Heap -> CR
 | 0,_,_,_ => .bad
 | n + 1,f,args,H=>match V.fn f with
  | none=>if f=yF then roundR V (call V n) n args H else match V.ext f args H with
   | some (d,H') => .ret d H'
   | none => .bad
  | some vf=>match vf.pure with
   | false=>match V.ext f args H with
    | some (d,H') => .ret d H'
    | none=>enterF V (call V n) n vf args H
   | true=>match freezeL deep H args with
    | none => .bad
    | some (ds,H')=>match pureR V (call V n) n f vf ds with
     | .ret d => .ret (placeO vf.own d (backH vf.fre d H H')).1 (placeO vf.own d (backH vf.fre d H H')).2
     | .pan d => .pan d H'
     | .bad => .bad
def pcall (V:VProg) (n:Nat) (f:FuncId) (ds:List D):PR :=
 match n with
 | 0 => .bad
 | n+1=>match V.fn f with
  | some vf=>pureR V (call V n) n f vf ds
  | none => .bad
noncomputable def thisP:Program:=Go.Proofs.Tryz.prog
def codeAt:List Bool -> Code -> Option Code
 | [],c=>some c
 | false::p,.seq a _=>codeAt p a
 | true::p,.seq _ b=>codeAt p b
 | false::p,.block _ c=>codeAt p c
 | _::_,_=>none
def loopAt (P:Program) (f:Nat) (path:List Bool):Option (Array Tmp×Code×Code) :=
 match P.funcs[f]? with
 | some fn=>match fn.body with
  | some c=>match codeAt path c with
   | some (.rangeFunc _ ps a b)=>some (ps,a,b)
   | _=>none
  | none=>none
 | none=>none
inductive HC where
 | n|r|a|d|q|h|w
 deriving DecidableEq
def VOp.hc (V:VProg) (strict:Bool):VOp -> HC
 | .len 0 _ | .len 1 _ => .n
 | .ld .. | .iad .. | .iar .. | .len .. | .cap .. | .sli .. | .lk .. => .r
 | .hal .. | .hbx .. | .haa .. | .mks .. | .mkm | .bsl .. | .sla .. => .a
 | .call f _=>match V.fn f with
  | some vf=>if vf.pure then .a else .d
  | none => .d
 | .app .. => if strict then .a else .w
 | .st .. | .cpy .. | .mup .. => if strict then .a else .d
 | .calv .. | .inv .. | .pan .. | .callp .. => .d
 | .calx .. | .calvx .. => .a
 | .ldq .. | .cbs .. => .q
 | .ldh .. => .h
 | _ => .n
def O.locs:O -> List Nat
 | .l i=>[i]
 | _=>[]
def O.slots:O -> List Nat
 | .s k=>[k]
 | _=>[]
def AB.locs:AB -> List Nat
 | .lo i=>[i]
 | _=>[]
def rootOf (rt:List (Option Nat)):AB -> List Nat
 | .sl k=>[k]
 | .lo i=>(rt[i]?).join.toList
def VOp.args:VOp -> List O
 | .mov x | .lbx x _ | .hbx _ x _ | .fad x _ | .ld x _ _ | .ldq x _ _ | .ldh x _ _ | .un _ x | .cvi _ x | .cvs x | .cbs x | .csb x | .len _ x | .cap x | .fld x _ _ _ | .ext x _
 | .mki _ x | .tas x _ _ _ | .nck x | .pan x=>[x]
 | .pick a b c=>[a,b,c]
 | .lal _ | .hal .. | .haa .. | .lfa .. | .lld .. | .mkm | .stk=>[]
 | .lia _ ix _ _ | .gia _ ix _ _=>[ix]
 | .lst _ x _=>[x]
 | .iad x y _ | .iar x y _ _ | .st x y _ | .bin _ x y | .eqv _ _ x y | .app x y _ _ _ | .cpy x y _ | .mks x y _ _ _ _ | .ixs x y | .lk _ x y _ _ | .ixa x y _ _ _=>[x,y]
 | .agc _ ps=>ps.map fun p=>p.2.2
 | .bsl _ _ _ ps _ | .bsv _ _ _ ps=>ps.map fun p=>p.2
 | .sli _ _ x a b c=>[x]++a.toList++b.toList++c.toList
 | .sla x _ _ a b=>[x]++a.toList++b.toList
 | .mkf _ a b=>a++b
 | .mup _ a b c=>[a,b,c]
 | .mx l | .mn l | .call _ l | .cpl _ l | .calx _ l | .callp _ l=>l
 | .calv x l | .calvx x l | .inv x _ l=>x::l
def VOp.base:VOp -> List AB
 | .lfa a _ | .lia a _ _ _ | .lld a _ _ | .lst a _ _=>[a]
 | _=>[]
def VOper.locR (o:VOper):List Nat :=
 o.op.args.flatMap O.locs++o.op.base.flatMap AB.locs++(match o.guard with|some (x,_)=>x.locs|none=>[])
def VOper.slR (rt:List (Option Nat)) (o:VOper):List Nat :=
 o.op.args.flatMap O.slots++o.op.base.flatMap (rootOf rt)++(match o.guard with|some (x,_)=>x.slots|none=>[])
def VOper.slW (rt:List (Option Nat)) (o:VOper):List Nat :=
 o.keep.toList++(match o.op with | .lst a _ _=>rootOf rt a|_=>[])
def meet (a b:List Nat):Bool:=a.any b.contains
def HC.free:HC -> HC -> Bool
 | .n,_|_,.n | .r,.r | .r,.a | .a,.r | .q,.r | .r,.q | .q,.q | .h,.h | .h,.r | .r,.h | .h,.q | .q,.h | .h,.w | .w,.h=>true
 | _,_=>false
def indep (V:VProg) (strict:Bool) (rt:List (Option Nat)) (vos:List VOper) (i j:Nat):Bool :=
 match vos[i]?,vos[j]? with
 | some x,some y =>
  !y.locR.contains i && !x.locR.contains j &&
  !meet (x.slW rt) (y.slR rt++y.slW rt) && !meet (x.slR rt) (y.slW rt) &&
  (x.op.hc V strict).free (y.op.hc V strict) && !x.op.pans && !y.op.pans
 | _,_=>false
def drawOk (V:VProg) (strict:Bool) (rt:List (Option Nat)) (before:Array Nat) (vos:List VOper):Bool :=
 (List.range vos.length).all fun j=>(List.range j).all fun i=>(before.getD j 0).testBit i||indep V strict rt vos i j
def rootStep (rt:List (Option Nat)) (o:VOper):Option Nat :=
 let base:AB -> Option Nat:=fun
  | .sl k=>some k
  | .lo j=>(rt[j]?).join
 match o.op with
 | .lfa a _=>base a
 | .lia a _ _ _=>base a
 | _=>none
def rootsOf (vos:List VOper):List (Option Nat):=vos.foldl (fun acc o=>acc++[rootStep acc o]) []
structure CX where
 P:Program
 V:VProg
 nt:Nat
 tm:List Nat
 bs:List Nat
 ops:Array Oper
 vos:List VOper
 rt:List (Option Nat)
def VOp.isAddr:VOp -> Bool
 | .lfa .. | .lia .. => true
 | _=>false
def VOp.isBox:VOp -> Bool
 | .lal .. | .lbx .. => true
 | _=>false
def cellOk:D -> Value -> Bool
 | .b x,.bool y=>x==y
 | .i k n,.int k' n'=>decide (k=k')&&decide (n=n')
 | .s l,.string s=>l==s.data.toList
 | .nil,.slice none 0 0=>true
 | .np,.pointer none=>true
 | .mnil,.map none=>true
 | .nf,.nilFunc=>true
 | .ni,.nilIface=>true
 | _,_=>false
def cellsOk:List D -> List Value -> Bool
 | [],[]=>true
 | d::ds,v::vs=>cellOk d v&&cellsOk ds vs
 | _,_=>false
def constOk:D -> Value -> Bool
 | .ag cs,.agg vs=>cellsOk cs vs.toList
 | .fn (.func f) [] [],.func (.func g) x y=>f==g&&x.isEmpty&&y.isEmpty
 | .u,.tuple vs=>vs.isEmpty
 | d,v=>cellOk d v
def okO (c:CX) (i:Nat) (x:O) (y:Operand):Bool :=
 match x,y with
 | .l j,.tmp t=>decide (j<i)&&(match c.ops[j]?,c.vos[j]? with
  | some o,some vo=>o.dst==some t&&vo.keep==none && !vo.op.isAddr && !vo.op.isBox
  | _,_=>false)
 | .s k,.tmp t=>c.tm[k]?==some t && !c.bs.contains k
 | .c d,.const v=>constOk d v
 | .c (.fn (.func f) [] []),.func g=>f==g
 | _,_=>false
def okA (c:CX) (i:Nat) (x:AB) (y:Operand):Bool :=
 match x,y with
 | .sl k,.tmp t=>c.tm[k]?==some t&&c.bs.contains k
 | .lo j,.tmp t=>decide (j<i)&&(match c.ops[j]?,c.vos[j]? with
  | some o,some vo=>o.dst==some t&&vo.keep==none&&vo.op.isAddr
  | _,_=>false)
 | _,_=>false
def okOs (c:CX) (i:Nat):List O -> List Operand -> Bool
 | [],[]=>true
 | x::xs,y::ys=>okO c i x y&&okOs c i xs ys
 | _,_=>false
def okOo (c:CX) (i:Nat):Option O -> Option Operand -> Bool
 | none,none=>true
 | some x,some y=>okO c i x y
 | _,_=>false
def zeroOk (P:Program) (t:TypeId) (zs:List D):Bool :=
 match P.info? t with
 | some i=>(match i.zero with
  | some z=>cellsOk zs z.cells.toList&&zs.length==i.size
  | none=>false)
 | none=>false
def sizeIs (P:Program) (t:TypeId) (n:Nat):Bool :=
 match P.info? t with
 | some i=>i.size==n
 | none=>false
def bytesIs (P:Program) (t:TypeId) (n:Nat):Bool :=
 match P.info? t with
 | some i=>i.bytes==n
 | none=>false
def aggIs (P:Program) (t:TypeId) (agg:Bool):Bool :=
 match P.underlying t with
 | some (.struct _)|some (.array _ _)=>agg
 | some _ => !agg
 | none=>false
def fieldOk (P:Program) (s:TypeId) (f off:Nat):Bool :=
 match P.underlying s with
 | some (.struct fs)=>(match fs[f]? with
  | some fd=>fd.offset==off&&(match P.info? fd.type with
   | some i=>i.size != 0
   | none=>false)
  | none=>false)
 | _=>false
def sliceElem (P:Program) (t:TypeId):Option TypeId :=
 match P.underlying t with
 | some (.slice e)=>some e
 | _=>none
def arrayElem (P:Program) (t:TypeId):Option (Nat×TypeId) :=
 match P.underlying t with
 | some (.array n e)=>some (n,e)
 | _=>none
def shapeF (g:TypeId -> Option (List Nat)):Nat -> List Field -> Option (List Nat)
 | _,[]=>some []
 | off,f::fs=>if f.offset=off&&f.name != "_" then match g f.type with
   | some a=>match shapeF g (off+a.length) fs with
    | some b=>some (a++b)
    | none=>none
   | none=>none
  else none
def shp (P:Program):Nat -> (TypeId -> Option (List Nat))×(Nat -> List Field -> Option (List Nat))
 | 0=>(fun _=>none,fun _ fs=>match fs with|[]=>some []|_::_=>none)
 | n+1=>(fun t=>match P.underlying t with
  | some .bool=>if P.cellsOf t=1 then some [0]else none
  | some (.int _)=>if P.cellsOf t=1 then some [1]else none
  | some .string=>if P.cellsOf t=1 then some [2]else none
  | some (.struct fs)=>if P.stoodInHeld t then none else match (shp P n).2 0 fs.toList with
   | some sh=>if P.cellsOf t=sh.length then some sh else none
   | none=>none
  | _=>none,shapeF (shp P n).1)
def shapeOf (P:Program) (n:Nat) (t:TypeId):Option (List Nat):=(shp P n).1 t
def shapesOf (P:Program) (n off:Nat) (fs:List Field):Option (List Nat):=(shp P n).2 off fs
theorem shapeOf_zero (P:Program) (t:TypeId):shapeOf P 0 t=none:=rfl
theorem shapeOf_succ (P:Program) (n:Nat) (t:TypeId):shapeOf P (n+1) t=match P.underlying t with
  | some .bool=>if P.cellsOf t=1 then some [0]else none
  | some (.int _)=>if P.cellsOf t=1 then some [1]else none
  | some .string=>if P.cellsOf t=1 then some [2]else none
  | some (.struct fs)=>if P.stoodInHeld t then none else match shapesOf P n 0 fs.toList with
   | some sh=>if P.cellsOf t=sh.length then some sh else none
   | none=>none
  | _=>none:=rfl
theorem shapesOf_nil (P:Program) (n off:Nat):shapesOf P n off []=some []:=by cases n<;>rfl
theorem shapesOf_zero (P:Program) (off:Nat) (f:Field) (fs:List Field):shapesOf P 0 off (f::fs)=none:=rfl
theorem shapesOf_cons (P:Program) (n off:Nat) (f:Field) (fs:List Field):shapesOf P (n+1) off (f::fs)=if f.offset=off&&f.name != "_" then match shapeOf P n f.type with
   | some a=>match shapesOf P (n+1) (off+a.length) fs with
    | some b=>some (a++b)
    | none=>none
   | none=>none
  else none:=by
 have e1:shapeOf P n f.type=(shp P n).1 f.type:=rfl
 have e2 : ∀ o,shapesOf P (n+1) o fs=shapeF (shp P n).1 o fs:=fun _=>rfl
 simp only[e1,e2]
 show shapeF (shp P n).1 off (f::fs)=_
 rw[shapeF]
def eqKindOk (P:Program) (t:TypeId) (k:EK):Bool :=
 match k,P.underlying t with
 | .b,some .bool=>true
 | .st sh,some (.struct _)=>shapeOf P 8 t==some sh && !P.eqGuardType P.depth t
 | .sl,some (.slice _)=>true
 | .pt,some (.pointer e)=>(P.info? e).isSome
 | .mp,some (.map _ _)=>true
 | .fn,some (.func ..)=>true
 | .ifc,some (.interface _)=>true
 | _,_=>false
def keyKindOk (P:Program) (t:TypeId) (k:KK):Bool :=
 match k,P.underlying t with
 | .c 0,some .bool=>true
 | .c 1,some (.int _)=>true
 | .c 2,some .string=>true
 | .st sh,some (.struct _)=>shapeOf P 8 t==some sh
 | _,_=>false
def agcOk (c:CX) (i:Nat) (place:Nat -> Option (Nat×Nat)):List (Nat×Nat×O) -> List (Nat×Operand) -> Bool
 | [],[]=>true
 | (off,n,x)::ps,(j,y)::qs=>place j==some (off,n)&&okO c i x y&&agcOk c i place ps qs
 | _,_=>false
def bslOk (c:CX) (i:Nat):List (Nat×O) -> List (Nat×Operand) -> Bool
 | [],[]=>true
 | (j,x)::ps,(k,y)::qs=>j==k&&okO c i x y&&bslOk c i ps qs
 | _,_=>false
def placesOf (P:Program) (fs:Array Field) (j:Nat):Option (Nat×Nat) :=
 match fs[j]? with
 | some f=>match P.info? f.type with
  | some i=>some (f.offset,i.size)
  | none=>none
 | none=>none
def callOk (c:CX) (f:FuncId):Bool :=
 match c.P.funcs[f]? with
 | some fn=>fn.body.isSome&&fn.name != "runtime.NumGoroutine"
 | none=>false
def isNilC:O -> Bool
 | .c .nil | .c .np | .c .mnil | .c .nf | .c .ni=>true
 | _=>false
def okZ (P:Program) (e w bytes:Nat) (y:O) (y':Operand):Bool :=
 match y,y' with
 | .c (.im w' rows),.const (.int .i64 n)=>decide (w'=w)&&decide (n=rows.length)&&decide (rows.length*bytes <= 140737488355328 /\ rows.length <= 140737488355328)&&rows.all (zeroOk P e)
 | _,_=>false
def okOp (c:CX) (i:Nat) (o:Oper) (vo:VOper):Bool :=
 match vo.op with
 | .mov x=>(match o.op with
  | .move y | .assign y=>okO c i x y
  | _=>false)
 | .pick a b d=>(match o.op with
  | .pick a' b' d'=>okO c i a a'&&okO c i b b'&&okO c i d d'
  | _=>false)
 | .lal zs=>(match o.op with
  | .alloc t=>zeroOk c.P t zs
  | _=>false)
 | .lbx x n=>(match o.op with
  | .box t y=>okO c i x y&&sizeIs c.P t n
  | _=>false)
 | .hal kt zs=>(match o.op with
  | .alloc t=>zeroOk c.P t zs&&kt==t
  | _=>false)
 | .hbx kt x n=>(match o.op with
  | .box t y=>okO c i x y&&sizeIs c.P t n&&kt==t
  | _=>false)
 | .haa w zs _=>(match o.op with
  | .alloc t=>(match arrayElem c.P t with
   | some (n,_)=>n==zs.length&&zs.all (fun r=>r.length==w)&&zeroOk c.P t zs.flatten
   | none=>false)
  | _=>false)
 | .lfa a off=>(match o.op with
  | .fieldAddr s y f=>okA c i a y&&fieldOk c.P s f off
  | _=>false)
 | .lia a ix n w=>(match o.op with
  | .indexAddr t y k=>okA c i a y&&okO c i ix k&&(match arrayElem c.P t with
   | some (m,e)=>m==n&&sizeIs c.P e w
   | none=>false)
  | _=>false)
 | .lld a n agg=>(match o.op with
  | .load t y=>okA c i a y&&sizeIs c.P t n&&aggIs c.P t agg
  | _=>false)
 | .lst a x n=>(match o.op with
  | .store t y z=>okA c i a y&&okO c i x z&&sizeIs c.P t n
  | _=>false)
 | .fad x off=>(match o.op with
  | .fieldAddr s y f=>okO c i x y&&fieldOk c.P s f off
  | _=>false)
 | .iad x ix w=>(match o.op with
  | .indexAddr t y k=>okO c i x y&&okO c i ix k&&(match sliceElem c.P t with
   | some e=>sizeIs c.P e w
   | none=>false)
  | _=>false)
 | .iar x ix n w=>(match o.op with
  | .indexAddr t y k=>okO c i x y&&okO c i ix k&&(match arrayElem c.P t with
   | some (m,e)=>m==n&&sizeIs c.P e w
   | none=>false)
  | _=>false)
 | .ld x n agg=>(match o.op with
  | .load t y=>okO c i x y&&sizeIs c.P t n&&aggIs c.P t agg
  | _=>false)
 | .ldh x n agg | .ldq x n agg=>(match o.op with
  | .load t y=>okO c i x y&&sizeIs c.P t n&&aggIs c.P t agg
  | _=>false)
 | .st x v n=>(match o.op with
  | .store t y z=>okO c i x y&&okO c i v z&&sizeIs c.P t n
  | _=>false)
 | .bin op x y=>(match o.op with
  | .binOp op' _ x' y' _=>decide (op=op')&&okO c i x x'&&okO c i y y'
  | _=>false)
 | .eqv neg k x y=>(match o.op with
  | .binOp op' t x' y' _=>decide (op'=(match neg with|true => .neq|false => .eql))&&okO c i x x'&&okO c i y y'&&eqKindOk c.P t k&&(match k with
   | .ifc=>isNilC x||isNilC y
   | _=>true)
  | _=>false)
 | .un op x=>(match o.op with
  | .unOp op' _ y=>decide (op=op')&&okO c i x y
  | _=>false)
 | .cvi k x=>(match o.op with
  | .convert s t y=>okO c i x y&&(c.P.underlying s).isSome&&(match c.P.underlying t with
   | some (.int k')=>decide (k=k')
   | _=>false)
  | _=>false)
 | .cvs x=>(match o.op with
  | .convert s t y=>okO c i x y&&(match c.P.underlying s,c.P.underlying t with
   | some .string,some .string=>true
   | _,_=>false)
  | _=>false)
 | .cbs x=>(match o.op with
  | .convert s t y=>okO c i x y&&(match sliceElem c.P s,c.P.underlying t with
   | some e,some .string=>(match c.P.underlying e with
    | some (.int .u8)=>true
    | _=>false)
   | _,_=>false)
  | _=>false)
 | .csb x=>(match o.op with
  | .convert s t y=>okO c i x y&&(match c.P.underlying s,sliceElem c.P t with
   | some .string,some e=>(match c.P.underlying e with
    | some (.int .u8)=>true
    | _=>false)
   | _,_=>false)
  | _=>false)
 | .agc zs ps=>(match o.op with
  | .build t qs=>zeroOk c.P t zs&&(match c.P.underlying t with
   | some (.struct fs)=>fs.toList.all (fun f=>(c.P.info? f.type).isSome)&&agcOk c i (placesOf c.P fs) ps qs.toList
   | some (.array _ e)=>(match c.P.info? e with
    | some inf=>agcOk c i (fun j=>some (j*inf.size,inf.size)) ps qs.toList
    | none=>false)
   | _=>false)
  | _=>false)
 | .bsl w n zs ps _=>(match o.op with
  | .buildSlice t m qs=>n==m&&(n != 0||ps.isEmpty)&&decide (n*w <= 2 ^ 24)&&(match sliceElem c.P t with
   | some e=>sizeIs c.P e w&&zeroOk c.P e zs&&decide (0<w)&&bslOk c i ps qs.toList
   | none=>false)
  | _=>false)
 | .bsv w n zs ps=>(match o.op with
  | .buildSlice t m qs=>n==m&&(n != 0||ps.isEmpty)&&decide (n*w <= 2 ^ 24)&&(match sliceElem c.P t with
   | some e=>sizeIs c.P e w&&zeroOk c.P e zs&&decide (0<w)&&bslOk c i ps qs.toList
   | none=>false)
  | _=>false)
 | .len k x=>(match o.op with
  | .call { callee := .builtin .len,args,argTypes }=>(match args.toList,argTypes[0]? with
   | [y],some t=>okO c i x y&&(match c.P.underlying t,k with
    | some .string,0|some (.slice _),1|some (.map _ _),2=>true
    | _,_=>false)
   | _,_=>false)
  | _=>false)
 | .cap x=>(match o.op with
  | .call { callee := .builtin .cap,args,argTypes }=>(match args.toList,argTypes[0]? with
   | [y],some t=>okO c i x y&&(sliceElem c.P t).isSome
   | _,_=>false)
  | _=>false)
 | .app x y w bytes _=>(match o.op with
  | .call { callee := .builtin .append,args,argTypes }=>(match args.toList,argTypes.toList with
   | [x',y'],[t,u]=>okO c i x x'&&(match sliceElem c.P t with
    | some e=>sizeIs c.P e w&&bytesIs c.P e bytes&&decide (0<w)&&(match c.P.info? e with
      | some inf=>(match inf.zero with
       | some z=>z.cells.size==w
       | none=>false)
      | none=>false)&&(match c.P.underlying u with
     | some (.slice e')=>okO c i y y'&&sizeIs c.P e' w
     | some .string=>okO c i y y'&&w==1
     | some (.int _)=>okZ c.P e w bytes y y'
     | _=>false)
    | none=>false)
   | _,_=>false)
  | _=>false)
 | .cpy x y w=>(match o.op with
  | .call { callee := .builtin .copy,args,argTypes }=>(match args.toList,argTypes.toList with
   | [x',y'],[t,_]=>okO c i x x'&&okO c i y y'&&(match sliceElem c.P t with
    | some e=>sizeIs c.P e w&&decide (0<w)
    | none=>false)
   | _,_=>false)
  | _=>false)
 | .mks l cp w bytes zs _=>(match o.op with
  | .makeSlice t l' cp'=>okO c i l l'&&okO c i cp cp'&&(match sliceElem c.P t with
   | some e=>sizeIs c.P e w&&bytesIs c.P e bytes&&zeroOk c.P e zs&&decide (0<w)
   | none=>false)
  | _=>false)
 | .sli str w x lo hi mx=>(match o.op with
  | .slice t y lo' hi' mx'=>okO c i x y&&okOo c i lo lo'&&okOo c i hi hi'&&okOo c i mx mx'&&(match c.P.underlying t,str with
   | some .string,true=>true
   | some (.slice e),false=>sizeIs c.P e w
   | _,_=>false)
  | _=>false)
 | .sla x n w lo hi=>(match o.op with
  | .slice t y lo' hi' none=>okO c i x y&&okOo c i lo lo'&&okOo c i hi hi'&&(match arrayElem c.P t with
   | some (m,e)=>m==n&&sizeIs c.P e w
   | none=>false)
  | _=>false)
 | .ixs x ix=>(match o.op with
  | .index t y k=>okO c i x y&&okO c i ix k&&(match c.P.underlying t with
   | some .string=>true
   | _=>false)
  | _=>false)
 | .fld x off n agg=>(match o.op with
  | .field t y f=>okO c i x y&&(match c.P.underlying t with
   | some (.struct fs)=>(match fs[f]? with
    | some fd=>fd.offset==off&&sizeIs c.P fd.type n&&aggIs c.P fd.type agg
    | none=>false)
   | _=>false)
  | _=>false)
 | .ext x j=>(match o.op with
  | .extract y k=>okO c i x y&&j==k
  | _=>false)
 | .mkf f a b=>(match o.op with
  | .makeFunc g a' b'=>decide (f=g)&&okOs c i a a'.toList&&okOs c i b b'.toList
  | _=>false)
 | .mkm=>(match o.op with
  | .makeMap _ none=>true
  | _=>false)
 | .lk kk m k ok zero=>(match o.op with
  | .lookup t m' k' ok'=>okO c i m m'&&okO c i k k'&&ok==ok'&&(match c.P.underlying t with
   | some (.map kt et)=>keyKindOk c.P kt kk&&(match c.P.info? et with
    | some inf=>(match inf.zero with
     | some zv=>constOk zero zv
     | none=>false)
    | none=>false)
   | _=>false)
  | _=>false)
 | .mup kk m k v=>(match o.op with
  | .mapUpdate t m' k' v' | .insert t m' k' v'=>okO c i m m'&&okO c i k k'&&okO c i v v'&&(match c.P.underlying t with
   | some (.map kt _)=>keyKindOk c.P kt kk
   | _=>false)
  | _=>false)
 | .mki t x=>(match o.op with
  | .makeInterface t' y=>t==t'&&okO c i x y&&(match c.P.underlying t with
   | some (.interface _)=>false
   | some _=>true
   | none=>false)
  | _=>false)
 | .tas x t ok zero=>(match o.op with
  | .typeAssert y _ t' ok'=>okO c i x y&&t==t'&&ok==ok'&&(match c.P.underlying t with
   | some (.interface _)=>false
   | some _=>(match c.P.info? t with
    | some inf=>(match inf.zero with
     | some zv=>constOk zero zv
     | none=>false)
    | none=>false)
   | none=>false)
  | _=>false)
 | .nck x=>(match o.op with
  | .nilCheck y=>okO c i x y
  | _=>false)
 | .mx xs=>(match o.op with
  | .call { callee := .builtin .max,args,.. }=>okOs c i xs args.toList
  | _=>false)
 | .mn xs=>(match o.op with
  | .call { callee := .builtin .min,args,.. }=>okOs c i xs args.toList
  | _=>false)
 | .call f xs=>(match o.op with
  | .call { callee := .value (.func g),args,.. }=>f==g&&okOs c i xs args.toList&&callOk c f
  | _=>false)
 | .calv x xs | .calvx x xs=>(match o.op with
  | .call { callee := .value y,args,.. }=>okO c i x y&&okOs c i xs args.toList
  | _=>false)
 | .inv x m xs=>(match o.op with
  | .call { callee := .invoke y m',args,.. }=>okO c i x y&&m==m'&&okOs c i xs args.toList
  | _=>false)
 | .pan x=>(match o.op with
  | .panic y=>okO c i x y
  | _=>false)
 | .stk=>true
 | .gia g ix n w=>(match o.op with
  | .indexAddr t (.global g') k=>g==g'&&okO c i ix k&&(match arrayElem c.P t with
   | some (m,e)=>m==n&&sizeIs c.P e w
   | none=>false)
  | _=>false)
 | .ixa x ix n w agg=>(match o.op with
  | .index t y k=>okO c i x y&&okO c i ix k&&(match arrayElem c.P t with
   | some (m,e)=>m==n&&sizeIs c.P e w&&aggIs c.P e agg
   | none=>false)
  | _=>false)
 | .cpl f xs | .calx f xs | .callp f xs=>(match o.op with
  | .call { callee := .value (.func g),args,.. }=>f==g&&okOs c i xs args.toList&&callOk c f
  | _=>false)
def okOper (c:CX) (i:Nat) (o:Oper) (vo:VOper):Bool :=
  okOp c i o vo &&
  (match o.dst with
   | none=>vo.keep==none && !vo.op.isAddr && !vo.op.isBox
   | some t=>(match vo.keep with
     | some k=>c.tm[k]?==some t&&(c.bs.contains k==vo.op.isBox) && !vo.op.isAddr
     | none => !c.tm.contains t && !vo.op.isBox&&decide (t<c.nt))) &&
  (match vo.guard,o.guard with
   | none,none=>true
   | some (x,b),some (j,b')=>b==b'&&(match (c.ops[j]?).bind (·.dst)with
     | some t=>okO c i x (.tmp t)
     | none=>false)
   | _,_=>false)
def freshDsts (tm:List Nat):List Oper -> List Nat -> Bool
 | [],_=>true
 | o::os,seen=>match o.dst with
  | none=>freshDsts tm os seen
  | some t=>if tm.contains t then freshDsts tm os seen else !seen.contains t&&freshDsts tm os (t::seen)
def boxesFirst (vos:List VOper) (rt:List (Option Nat)):Bool :=
 (List.range vos.length).all fun j=>match vos[j]? with
  | some o => !o.op.isBox||(match o.keep with
   | some k=>(List.range j).all fun i=>rt[i]? != some (some k)
   | none=>true)
  | none=>true
def edgesBack (ops:Array Oper):Bool :=
 (List.range ops.size).all fun i=>match ops[i]? with
  | some o=>o.after.toList.all fun e => !Region.binds .any e||decide (e.on<i)
  | none=>true
def okReg0 (P:Program) (V:VProg) (nt:Nat) (tm bs:List Nat) (ops:Array Oper) (vos:List VOper):Bool :=
 let rt:=rootsOf vos
 let c:CX:={ P,V,nt,tm,bs,ops,vos,rt }
 ops.size==vos.length&&rt.length==vos.length &&
 ((List.range vos.length).all fun i=>match ops[i]?,vos[i]? with
  | some o,some vo=>okOper c i o vo&&(rt[i]?==some (rootStep rt vo))&&vo.locR.all (fun j=>decide (j<i))
  | _,_=>false) &&
 freshDsts tm ops.toList []&&boxesFirst vos rt
def VOp.isHal:VOp -> Bool
 | .hal .. => true
 | _=>false
def isHalAt (vos:List VOper) (i:Nat):Bool:=match vos[i]? with
 | some y=>y.op.isHal
 | none=>false
def halSlots (vos:List VOper):List Nat:=vos.flatMap fun o=>if o.op.isHal then o.keep.toList else[]
def allHal (before:Array Nat) (vos:List VOper) (j:Nat):Bool:=(List.range vos.length).all fun i => !isHalAt vos i||(before.getD j 0).testBit i
def fstOf (before:Array Nat) (vos:List VOper) (i:Nat):Bool:=isHalAt vos i || !allHal before vos i
def halOne (f:Bool) (o:VOper):VOper :=
 match f with
 | true=>(match o.op with
  | .hal _ zs=>⟨.lal zs,o.keep,o.guard⟩
  | _=>o)
 | false=>⟨.stk,none,none⟩
def halTurn (F:Nat -> Bool) (vos:List VOper):List VOper:=vos.zipIdx.map fun q=>halOne (F q.2) q.1
def halPair (V:VProg) (strict:Bool) (rt:List (Option Nat)) (before:Array Nat) (vos:List VOper) (j:Nat) (y:VOper) (i:Nat):Bool :=
 match vos[i]? with
 | none=>false
 | some x=>match x.op.isHal,y.op.isHal with
  | true,true => !meet (x.slW rt) (y.slW rt)
  | false,false=>(before.getD j 0).testBit i||indep V strict rt vos i j
  | _,_=>indep V strict rt vos i j
def halLate (V:VProg) (strict:Bool) (rt:List (Option Nat)) (before:Array Nat) (vos:List VOper) (j:Nat) (i:Nat):Bool :=
 isHalAt vos i||((before.getD j 0).testBit i||indep V strict rt vos i j)
def halOp (V:VProg) (strict:Bool) (rt:List (Option Nat)) (hb:List Nat) (y:VOper):Bool :=
 match y.op.isHal with
 | true=>y.guard.isNone&&y.keep.isSome
 | false=>(y.op.hc V strict == .n||y.op.hc V strict == .r) && !y.op.isBox && !y.op.isAddr && !meet (y.slR rt++y.slW rt) hb
def halOrd (V:VProg) (ops:Array Oper) (strict:Bool) (vos:List VOper) (bs:List Nat):Bool :=
 let rt:=rootsOf vos
 let before:=Region.before ops
 edgesBack ops&&rt.all (·.isNone) &&
 (List.range vos.length).all fun j=>match vos[j]? with
  | none=>false
  | some y => !y.op.pans&&(match fstOf before vos j with
   | false=>(List.range j).all (halLate V strict rt before vos j)
   | true=>halOp V strict rt (halSlots vos++bs) y&&(List.range j).all (halPair V strict rt before vos j y))
def halOk (P:Program) (V:VProg) (nt:Nat) (tm bs:List Nat) (ops:Array Oper) (strict:Bool) (vos:List VOper):Bool :=
 okReg0 P V nt tm (halSlots vos++bs) ops (halTurn (fstOf (Region.before ops) vos) vos)&&halOrd V ops strict vos bs
def okRegion (P:Program) (V:VProg) (nt:Nat) (tm bs:List Nat) (ops:Array Oper) (draw:Option Bool) (vos:List VOper):Bool :=
  okReg0 P V nt tm bs ops vos &&
  (match draw with
   | none=>true
   | some strict=>(drawOk V strict (rootsOf vos) (Region.before ops) vos&&edgesBack ops)||halOk P V nt tm bs ops strict vos)
def okCode (P:Program) (V:VProg) (nt:Nat) (tm bs:List Nat):Code -> VCode -> Bool
 | .skip,.skip=>true
 | .region _ ops draw,.reg vos draw'=>draw==draw'.isSome&&okRegion P V nt tm bs ops draw' vos
 | .seq a b,.seq x y=>okCode P V nt tm bs a x&&okCode P V nt tm bs b y
 | .cond c a b,.cond d x y=>okO { P,V,nt,tm,bs,ops := #[],vos:=[],rt:=[] } 0 d c&&okCode P V nt tm bs a x&&okCode P V nt tm bs b y
 | .block i a,.block j x=>i==j&&okCode P V nt tm bs a x
 | .loop a,.loop x=>okCode P V nt tm bs a x
 | .exit i,.exit j=>i==j
 | .ret,.ret=>true
 | _,.stuck=>true
 | _,_=>false
def nodup:List Nat -> Bool
 | []=>true
 | x::xs => !xs.contains x&&nodup xs
def okRnd (P:Program) (V:VProg) (ps:Array Tmp) (a b:Code) (r:Rnd):Bool :=
 r.ps.length==ps.size&&((List.range ps.size).all fun i=>match r.ps[i]?,ps[i]? with
  | some k,some t=>r.tm[k]?==some t
  | _,_=>false)&&okCode P V r.nt r.tm [] a r.a&&okCode P V r.nt r.tm [] b r.b
def okRndP (P:Program) (V:VProg) (r:Rnd):Bool :=
 match loopAt P r.f r.path with
 | some (ps,a,b)=>okRnd P V ps a b r&&nodup r.tm&&r.tm.all fun t=>decide (t<r.nt)
 | none=>false
def okSpine (P:Program) (V:VProg) (f nt:Nat) (tm:List Nat):List Bool -> Code -> VCode -> Bool
 | path,.seq a b,.seq x y=>okSpine P V f nt tm (path++[false]) a x&&okSpine P V f nt tm (path++[true]) b y
 | path,.block id c,.block id' x=>id==id'&&okSpine P V f nt tm (path++[false]) c x
 | path,.rangeFunc g ps a b,.rng j x=>match V.rnd j with
  | some r=>r.f==f&&r.path==path&&r.nt==nt&&r.tm==tm&&okO { P,V,nt,tm,bs:=[],ops := #[],vos:=[],rt:=[] } 0 x g
  | none=>false
 | _,c,v=>okCode P V nt tm [] c v
def okRes (P:Program) (tm bs:List Nat):List ResultVar -> List RSpec -> Bool
 | [],[]=>true
 | .tmp t::rs,.s k::qs=>tm[k]?==some t && !bs.contains k&&okRes P tm bs rs qs
 | .cell a t::rs,.bx k n agg::qs=>tm[k]?==some a&&bs.contains k&&sizeIs P t n&&aggIs P t agg&&okRes P tm bs rs qs
 | .cell a t::rs,.hb k n agg::qs=>tm[k]?==some a && !bs.contains k&&sizeIs P t n&&aggIs P t agg&&okRes P tm bs rs qs
 | _,_=>false
def okDfr (P:Program) (V:VProg) (nt:Nat) (tm bs:List Nat) (q:Dfr) (ops:Array Oper):Bool :=
 match ops.toList with
 | [o1,o2]=>(match o1.op,o1.dst,o2.op with
  | .makeFunc (.func g) fs cs,some t,.defer { callee := .value (.tmp t'),args:=az,argTypes:=_ }=>g==q.g&&fs.isEmpty&&az.isEmpty&&t'==t && !tm.contains t&&decide (t<nt)&&okOs { P,V,nt,tm,bs,ops := #[],vos:=[],rt:=[] } 0 (q.caps.map O.s) cs.toList
  | _,_,_=>false)&&o1.guard.isNone&&o2.guard.isNone&&o2.dst.isNone
 | _=>false
def okClo (P:Program) (V:VProg) (q:Dfr):Bool :=
 match P.funcs[q.g]? with
 | some fg=>(match fg.body with
  | some (.seq (.region _ ops false) c2)=>(match ops.toList with
   | [o1,o2]=>(match o1.op,o1.dst,o2.op,o2.dst with
    | .call { callee := .builtin .recover,args:=_,argTypes:=_ },some t3,.assign (.tmp t),some t2=>t==t3 && !q.tm.contains t3&&decide (t3<fg.ntmps)&&q.tm[q.rk]?==some t2 && !q.bs.contains q.rk
    | _,_,_,_=>false)&&o1.guard.isNone&&o2.guard.isNone
   | _=>false)&&okCode P V fg.ntmps q.tm q.bs c2 q.body
  | _=>false)&&fg.results.isEmpty&&fg.params.isEmpty&&fg.nfree==q.caps.length&&decide (q.caps.length <= q.tm.length)&&q.ns==q.tm.length &&
  ((List.range q.caps.length).all fun k=>q.tm[k]?==some k)&&q.tm.all (fun t=>decide (t<fg.ntmps))&&nodup q.tm&&q.bs.all (fun k=>decide (q.caps.length <= k))&&decide (q.caps.length <= fg.ntmps)&&decide (q.caps.length <= q.rk)&&fg.name != "runtime.NumGoroutine"
 | none=>false
def okFn (P:Program) (V:VProg) (fn:Func) (vf:VFunc) (tm bs:List Nat):Bool :=
  (match vf.dfr,fn.body with
   | none,some c=>match vf.rg with
     | none=>okCode P V fn.ntmps tm bs c vf.body
     | some f=>bs.isEmpty&&okSpine P V f fn.ntmps tm [] c vf.body
   | some q,some (.seq c0 (.seq (.region _ ops false) c1))=>okCode P V fn.ntmps tm bs c0 q.pre&&okDfr P V fn.ntmps tm bs q ops&&okCode P V fn.ntmps tm bs c1 vf.body&&okClo P V q
   | _,_=>false) &&
  vf.npar==fn.params.size+fn.nfree&&decide (vf.npar <= tm.length)&&vf.nsl==tm.length &&
  ((List.range vf.npar).all fun k=>tm[k]?==some k)&&tm.all (fun t=>decide (t<fn.ntmps))&&nodup tm&&bs.all (fun k=>decide (vf.npar <= k)) &&
  decide (vf.npar <= fn.ntmps)&&okRes P tm bs fn.results.toList vf.res
def GoodP (P:Program) (V:VProg) (g:FuncId) (v:VFunc):Prop := ∃ (fn:Func) (tm bs:List Nat),P.funcs[g]?=some fn /\ okFn P V fn v tm bs=true /\ fn.name≠"runtime.NumGoroutine" /\ (v.rg=none \/ v.rg=some g)
structure Loc where
 blk:Nat
 off:Nat
 size:Nat
abbrev Mu:=Nat -> Option Loc
abbrev Kn:=Nat -> Nat -> Option Value
def mu0:Mu:=fun _=>none
def Blk.isY:Blk -> Bool
 | .yh .. | .no=>true
 | _=>false
inductive VR (K:Kn):Mu -> Heap -> D -> Value -> Prop
 | b (μ H) (x:Bool):VR K μ H (.b x) (.bool x)
 | i (μ H) (k:IntKind) (n:Int):VR K μ H (.i k n) (.int k n)
 | s (μ H) (l:List UInt8):VR K μ H (.s l) (.string ⟨l.toArray⟩)
 | nil (μ H):VR K μ H .nil (.slice none 0 0)
 | z (μ H) (ad:Addr):VR K μ H .z (.slice (some ad) 0 0)
 | im (μ H) (w:Nat) (rows:List (List D)) (blk off cap:Nat) (f:Nat -> Nat -> Value) (hc:rows.length <= cap)
   (hw : ∀ (i:Nat) (r:List D),rows[i]?=some r -> r.length=w)
   (hk : ∀ (i:Nat) (r:List D) (j:Nat) (d:D),rows[i]?=some r -> r[j]?=some d -> K blk (off+(i*w+j))=some (f i j))
   (h1 : ∀ (i:Nat) (r:List D) (j:Nat) (d:D),rows[i]?=some r -> r[j]?=some d -> (f i j).oneCell'=true)
   (hr : ∀ (i:Nat) (r:List D) (j:Nat) (d:D),rows[i]?=some r -> r[j]?=some d -> VR K mu0 [] d (f i j)) :
   VR K μ H (.im w rows) (.slice (some ⟨blk,off,none⟩) rows.length cap)
 | sv (μ H) (w:Nat) (rows:List (List D)) (blk off cap:Nat) (f:Nat -> Nat -> Value) (hc:rows.length <= cap)
   (hw : ∀ (i:Nat) (r:List D),rows[i]?=some r -> r.length=w)
   (hk : ∀ (i:Nat) (r:List D) (j:Nat) (d:D),rows[i]?=some r -> r[j]?=some d -> K blk (off+(i*w+j))=some (f i j))
   (h1 : ∀ (i:Nat) (r:List D) (j:Nat) (d:D),rows[i]?=some r -> r[j]?=some d -> (f i j).oneCell'=true)
   (hr : ∀ (i:Nat) (r:List D) (j:Nat) (d:D),rows[i]?=some r -> r[j]?=some d -> VR K μ H d (f i j)) :
   VR K μ H (.sv w rows) (.slice (some ⟨blk,off,none⟩) rows.length cap)
 | mu (μ H) (a n off len cap blk o:Nat) (l:Loc) (w:Nat) (rows:List (List D)) (kc:Option Nat) (p lk:Bool) (hm:μ a=some l) (hH:H[a]?=some (.ar w rows kc p lk)) (hn:n <= rows.length)
   (h:rows.length=n -> (cap=0 \/ (blk=l.blk /\ o=l.off+off*w)) /\ off+len <= n /\ len <= cap /\ n <= off+cap /\ l.off+(off+cap)*w <= l.size /\ (∀ c,kc=some c -> off+cap=c)) :
   VR K μ H (.mu a n off len) (.slice (some ⟨blk,o,none⟩) len cap)
 | np (μ H):VR K μ H .np (.pointer none)
 | hp (μ H) (b off:Nat) (l:Loc) (t:Nat) (cs:List D) (hm:μ b=some l) (hH:H[b]?=some (.hb t cs)):VR K μ H (.hp b off) (.pointer (some ⟨l.blk,off,none⟩))
 | ap (μ H) (a n i off blk o:Nat) (l:Loc) (w:Nat) (rows:List (List D)) (kc:Option Nat) (p lk:Bool) (hm:μ a=some l) (hH:H[a]?=some (.ar w rows kc p lk)) (hn:n <= rows.length)
   (h:rows.length=n -> blk=l.blk /\ o=l.off+i*w+off) :
   VR K μ H (.ap a n i off) (.pointer (some ⟨blk,o,none⟩))
 | aa (μ H) (a:Nat) (l:Loc) (w:Nat) (rows:List (List D)) (c:Nat) (p lk:Bool) (hm:μ a=some l) (hH:H[a]?=some (.ar w rows (some c) p lk)) :
   VR K μ H (.aa a) (.pointer (some ⟨l.blk,l.off,none⟩))
 | ip (μ H) (cs:List D) (blk off:Nat) (f:Nat -> Value)
   (hk : ∀ (j:Nat) (d:D),cs[j]?=some d -> K blk (off+j)=some (f j))
   (h1 : ∀ (j:Nat) (d:D),cs[j]?=some d -> (f j).oneCell'=true)
   (hr : ∀ (j:Nat) (d:D),cs[j]?=some d -> VR K μ H d (f j)) :
   VR K μ H (.ip cs) (.pointer (some ⟨blk,off,none⟩))
 | mnil (μ H):VR K μ H .mnil (.map none)
 | mp (μ H) (m:Nat) (l:Loc) (es:List (D×D)) (hm:μ m=some l) (hH:H[m]?=some (.mp es)):VR K μ H (.mp m) (.map (some l.blk))
 | fn (μ H) (f:Fn) (a b:List D) (va vb:List Value) (la:a.length=va.length) (lb:b.length=vb.length)
   (ha : ∀ (j:Nat) (d:D) (v:Value),a[j]?=some d -> va[j]?=some v -> VR K μ H d v)
   (hb : ∀ (j:Nat) (d:D) (v:Value),b[j]?=some d -> vb[j]?=some v -> VR K μ H d v) :
   VR K μ H (.fn f a b) (.func f va.toArray vb.toArray)
 | nf (μ H):VR K μ H .nf .nilFunc
 | ni (μ H):VR K μ H .ni .nilIface
 | ifc (μ H) (t:TypeId) (d:D) (v:Value) (h:VR K μ H d v):VR K μ H (.ifc t d) (.iface t v)
 | ag (μ H) (cs:List D) (vs:List Value) (hl:cs.length=vs.length)
   (h1 : ∀ v,v∈vs -> v.oneCell'=true)
   (hr : ∀ (j:Nat) (d:D) (v:Value),cs[j]?=some d -> vs[j]?=some v -> VR K μ H d v) :
   VR K μ H (.ag cs) (.agg vs.toArray)
 | tu (μ H) (ds:List D) (vs:List Value) (hl:ds.length=vs.length)
   (hr : ∀ (j:Nat) (d:D) (v:Value),ds[j]?=some d -> vs[j]?=some v -> VR K μ H d v) :
   VR K μ H (.tu ds) (.tuple vs.toArray)
 | yb (μ H) (a n cap blk:Nat) (l:Loc) (t:Nat) (bs:List UInt8) (lk:Bool) (hm:μ a=some l) (hH:H[a]?=some (.yt t bs lk)) (hn:n <= bs.length) (h:bs.length=n -> blk=l.blk /\ n <= cap /\ cap=l.size) :
   VR K μ H (.yb a n) (.slice (some ⟨blk,0,none⟩) n cap)
 | yl (μ H) (y:Nat) (l:Loc) (b:Blk) (hm:μ y=some l) (hH:H[y]?=some b) (hb:b.isY=true):VR K μ H (.yl y) (.func (.yield l.blk) #[] #[])
 | u (μ H):VR K μ H .u (.tuple #[])
def VRs (K:Kn) (μ:Mu) (H:Heap) (ds:List D) (vs:List Value):Prop :=
 ds.length=vs.length /\ ∀ (j:Nat) (d:D) (v:Value),ds[j]?=some d -> vs[j]?=some v -> VR K μ H d v
def CRs (K:Kn) (μ:Mu) (H:Heap) (ds:List D) (vs:List Value):Prop :=
 VRs K μ H ds vs /\ ∀ v,v∈vs -> v.oneCell'=true
inductive BE:Loc -> Blk -> Loc -> Blk -> Prop
 | hb (l:Loc) (t:Nat) (cs cs':List D):BE l (.hb t cs) l (.hb t cs')
 | mp (l:Loc) (es es':List (D×D)):BE l (.mp es) l (.mp es')
 | si (l:Loc) (s s':List UInt8) (n n':Nat):BE l (.si s n) l (.si s' n')
 | no (l:Loc):BE l .no l .no
 | df (l:Loc):BE l .df l .df
 | yh (l:Loc) (f:Nat) (p:List Bool) (j nt:Nat) (tm:List Nat) (x:List D) (s s':RS):BE l (.yh f p j nt tm x s) l (.yh f p j nt tm x s')
 | yn (l:Loc) (f:Nat) (p:List Bool) (j nt:Nat) (tm:List Nat) (x:List D) (s:RS):BE l (.yh f p j nt tm x s) l .no
 | yt (l l':Loc) (t:Nat) (bs bs':List UInt8) (lk lk':Bool) (hn:bs.length <= bs'.length) (hs:bs.length=bs'.length -> l=l'):BE l (.yt t bs lk) l' (.yt t bs' lk')
 | ar (l l':Loc) (w:Nat) (rows rows':List (List D)) (kc kc':Option Nat) (p lk lk':Bool)
   (hn:rows.length <= rows'.length) (hs:rows.length=rows'.length -> l=l' /\ kc=kc') (hc : ∀ c,kc=some c -> l=l' /\ kc'=some c) :
   BE l (.ar w rows kc p lk) l' (.ar w rows' kc' p lk')
theorem BE.refl (l:Loc) (b:Blk):BE l b l b:=by
 cases b with
 | hb t cs=>exact .hb ..
 | ar w rows kc p lk=>exact .ar _ _ _ _ _ _ _ _ _ _ (Nat.le_refl _) (fun _=>⟨rfl,rfl⟩) (fun _ h=>⟨rfl,h⟩)
 | mp es=>exact .mp ..
 | si s n=>exact .si ..
 | no=>exact .no ..
 | df=>exact .df ..
 | yh=>exact .yh ..
 | yt t bs lk=>exact .yt _ _ _ _ _ _ _ (Nat.le_refl _) (fun _=>rfl)
theorem BE.trans {l1 l2 l3:Loc} {b1 b2 b3:Blk} (h:BE l1 b1 l2 b2) (h':BE l2 b2 l3 b3):BE l1 b1 l3 b3:=by
 cases h with
 | hb=>cases h';exact .hb ..
 | mp=>cases h';exact .mp ..
 | si=>cases h';exact .si ..
 | no=>cases h';exact .no ..
 | df=>cases h';exact .df ..
 | yh=>cases h'<;>first|exact .yh .. | exact .yn ..
 | yn=>cases h';exact .yn ..
 | yt l' t bs bs' lk lk' hn hs =>
  cases h' with
  | yt l'' t bs' bs'' lk' lk'' hn' hs'=>exact .yt _ _ _ _ _ _ _ (Nat.le_trans hn hn') (fun e=>(hs (by omega)).trans (hs' (by omega)))
 | ar l' w rows rows' kc kc' p lk lk' hn hs hc =>
  cases h' with
  | ar l'' w rows' rows'' kc' kc'' p lk' lk'' hn' hs' hc' =>
   refine .ar _ _ _ _ _ _ _ _ _ _ (Nat.le_trans hn hn') (fun e => ?_) (fun c hcc => ?_)
   ·obtain⟨a1,a2⟩:=hs (by omega)
    obtain⟨b1,b2⟩:=hs' (by omega)
    exact⟨a1.trans b1,a2.trans b2⟩
   ·obtain⟨a1,a2⟩:=hc c hcc
    obtain⟨b1,b2⟩:=hc' c a2
    exact⟨a1.trans b1,b2⟩
structure Ext (K:Kn) (μ:Mu) (H:Heap) (K':Kn) (μ':Mu) (H':Heap):Prop where
 k : ∀ b o v,K b o=some v -> K' b o=some v
 m : ∀ id l b,μ id=some l -> H[id]?=some b -> ∃ l' b',μ' id=some l' /\ H'[id]?=some b' /\ BE l b l' b'
theorem Ext.refl (K:Kn) (μ:Mu) (H:Heap):Ext K μ H K μ H:=⟨fun _ _ _ h=>h,fun _ l b h h'=>⟨l,b,h,h',.refl l b⟩⟩
theorem Ext.trans {K K' K'':Kn} {μ μ' μ'':Mu} {H H' H'':Heap} (h:Ext K μ H K' μ' H') (h':Ext K' μ' H' K'' μ'' H''):Ext K μ H K'' μ'' H'' :=
 ⟨fun b o v e=>h'.k b o v (h.k b o v e),fun id l b e e'=>by
  obtain⟨l1,b1,e1,e1',be1⟩:=h.m id l b e e'
  obtain⟨l2,b2,e2,e2',be2⟩:=h'.m id l1 b1 e1 e1'
  exact⟨l2,b2,e2,e2',be1.trans be2⟩⟩
theorem Ext.zero {K K':Kn} (h : ∀ b o v,K b o=some v -> K' b o=some v):Ext K mu0 [] K' mu0 [] :=
 ⟨h,fun _ _ _ e=>by cases e⟩
theorem VR.ext {K K':Kn} {μ μ':Mu} {H H':Heap} {d:D} {v:Value} (h:VR K μ H d v) (e:Ext K μ H K' μ' H'):VR K' μ' H' d v:=by
 induction h generalizing μ' H' with
 | b=>exact .b ..
 | i=>exact .i ..
 | s=>exact .s ..
 | nil=>exact .nil ..
 | z=>exact .z ..
 | im μ H w rows blk off cap f hc hw hk h1 hr ih =>
  exact .im _ _ w rows blk off cap f hc hw (fun i r j d a b=>e.k _ _ _ (hk i r j d a b)) h1 (fun i r j d a b=>ih i r j d a b (Ext.zero e.k))
 | sv μ H w rows blk off cap f hc hw hk h1 hr ih =>
  exact .sv _ _ w rows blk off cap f hc hw (fun i r j d a b=>e.k _ _ _ (hk i r j d a b)) h1 (fun i r j d a b=>ih i r j d a b e)
 | mu μ H a n off len cap blk o l w rows kc p lk hm hH hn h =>
  obtain⟨l',b',hm',hH',be⟩:=e.m a l _ hm hH
  cases be with
  | ar l' w rows rows' kc kc' p lk lk' hle hs hc =>
   refine .mu _ _ a n off len cap blk o l' w rows' kc' p lk' hm' hH' (Nat.le_trans hn hle) (fun he => ?_)
   obtain⟨rfl,rfl⟩:=hs (by omega)
   exact h (by omega)
 | np=>exact .np ..
 | hp μ H b off l t cs hm hH =>
  obtain⟨l',b',hm',hH',be⟩:=e.m b l _ hm hH
  cases be
  exact .hp _ _ b off l _ _ hm' hH'
 | ap μ H a n i off blk o l w rows kc p lk hm hH hn h =>
  obtain⟨l',b',hm',hH',be⟩:=e.m a l _ hm hH
  cases be with
  | ar l' w rows rows' kc kc' p lk lk' hle hs hc =>
   refine .ap _ _ a n i off blk o l' w rows' kc' p lk' hm' hH' (Nat.le_trans hn hle) (fun he => ?_)
   obtain⟨rfl,rfl⟩:=hs (by omega)
   exact h (by omega)
 | aa μ H a l w rows c p lk hm hH =>
  obtain⟨l',b',hm',hH',be⟩:=e.m a l _ hm hH
  cases be with
  | ar l' w rows rows' kc kc' p lk lk' hle hs hc =>
   obtain⟨rfl,rfl⟩:=hc c rfl
   exact .aa _ _ a l w _ c p _ hm' hH'
 | ip μ H cs blk off f hk h1 hr ih =>
  exact .ip _ _ cs blk off f (fun j d a=>e.k _ _ _ (hk j d a)) h1 (fun j d a=>ih j d a e)
 | mnil=>exact .mnil ..
 | mp μ H m l es hm hH =>
  obtain⟨l',b',hm',hH',be⟩:=e.m m l _ hm hH
  cases be
  exact .mp _ _ m l _ hm' hH'
 | fn μ H f a b va vb la lb ha hb iha ihb=>exact .fn _ _ f a b va vb la lb (fun j d v x y=>iha j d v x y e) (fun j d v x y=>ihb j d v x y e)
 | nf=>exact .nf ..
 | ni=>exact .ni ..
 | ifc μ H t d v h ih=>exact .ifc _ _ t d v (ih e)
 | ag μ H cs vs hl h1 hr ih=>exact .ag _ _ cs vs hl h1 (fun j d v x y=>ih j d v x y e)
 | tu μ H ds vs hl hr ih=>exact .tu _ _ ds vs hl (fun j d v x y=>ih j d v x y e)
 | yb μ H a n cap blk l t bs lk hm hH hn h =>
  obtain⟨l',b',hm',hH',be⟩:=e.m a l _ hm hH
  cases be with
  | yt l' t bs bs' lk lk' hle hs =>
   refine .yb _ _ a n cap blk l' t bs' lk' hm' hH' (Nat.le_trans hn hle) (fun he => ?_)
   obtain rfl:=hs (by omega)
   exact h (by omega)
 | yl μ H y l b hm hH hb =>
  obtain⟨l',b',hm',hH',be⟩:=e.m y l _ hm hH
  cases be<;>first|(cases hb;done)|exact .yl _ _ y _ _ hm' hH' rfl
 | u=>exact .u ..
theorem VRs.ext {K K':Kn} {μ μ':Mu} {H H':Heap} {ds:List D} {vs:List Value} (h:VRs K μ H ds vs) (e:Ext K μ H K' μ' H'):VRs K' μ' H' ds vs :=
 ⟨h.1,fun j d v a b=>(h.2 j d v a b).ext e⟩
theorem CRs.ext {K K':Kn} {μ μ':Mu} {H H':Heap} {ds:List D} {vs:List Value} (h:CRs K μ H ds vs) (e:Ext K μ H K' μ' H'):CRs K' μ' H' ds vs :=
 ⟨h.1.ext e,h.2⟩
theorem VR.pure {K:Kn} {μ:Mu} {H:Heap} {d:D} {v:Value} (h:VR K mu0 [] d v):VR K μ H d v :=
 h.ext ⟨fun _ _ _ a=>a,fun _ _ _ a=>by cases a⟩
def Blk.live:Blk -> Bool
 | .ar _ _ _ _ true=>false
 | .yt _ _ true=>false
 | .no=>false
 | _=>true
def Cell (K:Kn) (μ:Mu) (H:Heap) (p:Bool) (d:D) (v:Value):Prop :=
 v.oneCell'=true /\ match p with
  | true=>VR K mu0 [] d v
  | false=>VR K μ H d v
theorem Cell.vr {K:Kn} {μ:Mu} {H:Heap} {p:Bool} {d:D} {v:Value} (h:Cell K μ H p d v):VR K μ H d v:=by
 obtain⟨_,h⟩:=h
 cases p with
 | true=>exact VR.pure h
 | false=>exact h
theorem Cell.ext {K K':Kn} {μ μ':Mu} {H H':Heap} {p:Bool} {d:D} {v:Value} (h:Cell K μ H p d v) (e:Ext K μ H K' μ' H'):Cell K' μ' H' p d v:=by
 obtain⟨h1,h⟩:=h
 refine⟨h1, ?_⟩
 cases p with
 | true=>exact VR.ext h (Ext.zero e.k)
 | false=>exact VR.ext h e
def RowsAt (K:Kn) (μ:Mu) (H:Heap) (p:Bool) (w:Nat) (rows:List (List D)) (off:Nat) (at_:Nat -> Option Value):Prop :=
 ∀ (i:Nat) (r:List D) (j:Nat) (d:D),rows[i]?=some r -> r[j]?=some d -> ∃ v,at_ (off+(i*w+j))=some v /\ Cell K μ H p d v
def Wide (w:Nat) (rows:List (List D)):Prop := ∀ (i:Nat) (r:List D),rows[i]?=some r -> r.length=w
def LoopSt:RS -> LoopState -> Option Code -> Prop
 | .rd,st,pe=>st = .ready /\ pe=none
 | .bz,st,pe=>st = .busy /\ pe=none
 | .dr,st,pe=>st = .done /\ pe=some .ret
 | .dx id,st,pe=>st = .done /\ pe=some (.exit id)
def TmR (K:Kn) (μ:Mu) (H:Heap) (tm:List Nat) (x:List D) (tmps:Array Value):Prop :=
 x.length=tm.length /\ ∀ (k t:Nat),tm[k]?=some t -> ∃ d v,x[k]?=some d /\ tmps[t]?=some v /\ VR K μ H d v
theorem TmR.ext {K K':Kn} {μ μ':Mu} {H H':Heap} {tm:List Nat} {x:List D} {tmps:Array Value} (h:TmR K μ H tm x tmps) (e:Ext K μ H K' μ' H'):TmR K' μ' H' tm x tmps :=
 ⟨h.1,fun k t a=>let ⟨d,v,h1,h2,h3⟩:=h.2 k t a;⟨d,v,h1,h2,h3.ext e⟩⟩
structure Born (mes:Array MapEntry) (clock:Nat):Prop where
 lt : ∀ e∈mes.toList,e.born<clock
 nd:(mes.toList.map (·.born)).Nodup
theorem Born.push {mes:Array MapEntry} {clock:Nat} (h:Born mes clock) {e:MapEntry} (he:e.born=clock):Born (mes.push e) (clock+1) where
 lt:=fun x hx=>by
  simp only[Array.toList_push,List.mem_append,List.mem_singleton]at hx
  rcases hx with hx|rfl
  ·have:=h.lt x hx;omega
  ·omega
 nd:=by
  simp only[Array.toList_push,List.map_append,List.map_cons,List.map_nil]
  refine List.nodup_append.2 ⟨h.nd,by simp,fun a ha b hb => ?_⟩
  simp only[List.mem_singleton]at hb
  obtain⟨x,hx,rfl⟩:=List.mem_map.1 ha
  have:=h.lt x hx
  omega
theorem Born.modify {mes:Array MapEntry} {clock:Nat} (h:Born mes clock) {i:Nat} {f:MapEntry -> MapEntry} (hf : ∀ e,(f e).born=e.born):Born (mes.modify i f) clock:=by
 have e:((mes.modify i f).toList.map (·.born))=mes.toList.map (·.born):=by
  refine List.ext_getElem? fun j => ?_
  simp only[List.getElem?_map,Array.getElem?_toList,Array.getElem?_modify]
  split
  ·cases mes[j]? with
   | none=>rfl
   | some x=>simp[hf]
  ·rfl
 refine⟨fun x hx => ?_,by rw[e];exact h.nd⟩
 have hm:x.born∈(mes.modify i f).toList.map (·.born):=List.mem_map.2 ⟨x,hx,rfl⟩
 rw[e]at hm
 obtain⟨y,hy,e2⟩:=List.mem_map.1 hm
 rw[<- e2];exact h.lt y hy
def BlkR (K:Kn) (μ:Mu) (H:Heap) (W:World) (l:Loc):Blk -> Prop
 | .hb t cs=>l.off=0 /\ ∃ vs,W.heap[l.blk]?=some (.cells vs t (0,0)) /\ vs.size=l.size /\ CRs K μ H cs vs.toList
 | .ar w rows kc p false=>Wide w rows /\ (∀ c,kc=some c -> rows.length <= c) /\ l.off+rows.length*w <= l.size /\
   ∃ vs ty,W.heap[l.blk]?=some (.cells vs ty (0,0)) /\ vs.size=l.size /\ RowsAt K μ H p w rows l.off (fun o=>vs[o]?)
 | .ar w rows kc p true=>p=true /\ Wide w rows /\ (∀ c,kc=some c -> rows.length <= c) /\ RowsAt K μ H true w rows l.off (fun o=>K l.blk o)
 | .mp es => ∃ (mes:Array MapEntry) (clock:Nat),Born mes clock /\ W.heap[l.blk]?=some (.map mes clock) /\ es.length=mes.size /\
   ∀ (j:Nat) (k v:D) (e:MapEntry),es[j]?=some (k,v) -> mes[j]?=some e -> VR K mu0 [] k e.key /\ VR K μ H v e.val
 | .si s pos=>W.heap[l.blk]?=some (.stringIter ⟨s.toArray⟩ pos)
 | .yt t bs false=>l.off=0 /\ ∃ vs,W.heap[l.blk]?=some (.cells vs t (0,0)) /\ vs.size=l.size /\ l.size <= maxLen /\ vs.toList.take bs.length=bs.map fun c=>Value.int .u8 c.toNat
 | .yt _ _ true=>True
 | .df=>W.heap[l.blk]?=some (.deferred (some []))
 | .yh f p _ nt tm x s => ∃ rec:Loop,W.heap[l.blk]?=some (.loop rec) /\ loopAt thisP f p=some (rec.params,rec.assign,rec.body) /\ rec.tmps.size=nt /\ LoopSt s rec.state rec.pending /\ TmR K μ H tm x rec.tmps
 | .no=>True
theorem BlkR.ext {K K':Kn} {μ μ':Mu} {H H':Heap} {W W':World} {l:Loc} {b:Blk} (h:BlkR K μ H W l b) (e:Ext K μ H K' μ' H')
  (hw:b.live=true -> W'.heap[l.blk]?=W.heap[l.blk]?):BlkR K' μ' H' W' l b:=by
 cases b with
 | hb t cs=>obtain⟨h0,vs,h1,h2,h3⟩:=h;exact⟨h0,vs,by rw[hw rfl];exact h1,h2,h3.ext e⟩
 | ar w rows kc p lk =>
  cases lk with
  | false =>
   obtain⟨h0,hc,hl,vs,ty,h1,h2,h3⟩:=h
   refine⟨h0,hc,hl,vs,ty,by rw[hw rfl];exact h1,h2,fun i r j d a b => ?_⟩
   obtain⟨v,hv,hc⟩:=h3 i r j d a b
   exact⟨v,hv,hc.ext e⟩
  | true =>
   obtain⟨hp,h0,hc,h3⟩:=h
   refine⟨hp,h0,hc,fun i r j d a b => ?_⟩
   obtain⟨v,hv,hc⟩:=h3 i r j d a b
   exact⟨v,e.k _ _ _ hv,hc.ext e⟩
 | mp es =>
  obtain⟨mes,clock,h0,h1,h2,h3⟩:=h
  refine⟨mes,clock,h0,by rw[hw rfl];exact h1,h2,fun j k v en a b => ?_⟩
  obtain⟨x,y⟩:=h3 j k v en a b
  exact⟨x.ext (Ext.zero e.k),y.ext e⟩
 | si s pos=>show _=_;rw[hw rfl];exact h
 | yt t bs lk =>
  cases lk with
  | false=>obtain⟨h0,vs,h1,h2⟩:=h;exact⟨h0,vs,by rw[hw rfl];exact h1,h2⟩
  | true=>trivial
 | df=>show _=_;rw[hw rfl];exact h
 | yh f p j nt tm x s=>obtain⟨rec,h1,h2,h3,h4,h5⟩:=h;exact⟨rec,by rw[hw rfl];exact h1,h2,h3,h4,h5.ext e⟩
 | no=>trivial
def Own (μ:Mu) (H:Heap) (r:Nat):Prop := ∃ id l b,μ id=some l /\ H[id]?=some b /\ b.live=true /\ l.blk=r
structure HR (K:Kn) (μ:Mu) (H:Heap) (W:World):Prop where
 dom : ∀ id l,μ id=some l -> id<H.length
 tot : ∀ id,id<H.length -> ∃ l,μ id=some l
 blk : ∀ id l b,μ id=some l -> H[id]?=some b -> BlkR K μ H W l b
 lt : ∀ id l,μ id=some l -> l.blk<W.heap.size
 inj : ∀ id id' l l' b b',μ id=some l -> μ id'=some l' -> H[id]?=some b -> H[id']?=some b' -> b.live=true -> b'.live=true -> l.blk=l'.blk -> id=id'
 kn : ∀ b o v,K b o=some v -> W.cell? ⟨b,o,none⟩=some v
 kf : ∀ b o v,K b o=some v -> ¬ Own μ H b
theorem HR.klt {K:Kn} {μ:Mu} {H:Heap} {W:World} (h:HR K μ H W) {b o:Nat} {v:Value} (hk:K b o=some v):b<W.heap.size :=
 World.block_lt_of_cell? W ⟨b,o,none⟩ (h.kn b o v hk)
structure Nx (K:Kn) (μ:Mu) (H:Heap) (W:World) (K':Kn) (μ':Mu) (H':Heap) (W':World):Prop where
 ext:Ext K μ H K' μ' H'
 os:W'.os=W.os
 tape:W'.tape=W.tape
 output:W'.output=W.output
 size:W.heap.size <= W'.heap.size
 keep : ∀ r,r<W.heap.size -> ¬ Own μ H r -> W'.heap[r]?=W.heap[r]?
 og : ∀ r,Own μ' H' r -> Own μ H r \/ W.heap.size <= r
 kg : ∀ b o v,K' b o=some v -> K b o=some v \/ Own μ H b \/ W.heap.size <= b
theorem Nx.refl (K:Kn) (μ:Mu) (H:Heap) (W:World):Nx K μ H W K μ H W :=
 ⟨.refl _ _ _,rfl,rfl,rfl,Nat.le_refl _,fun _ _ _=>rfl,fun _ h => .inl h,fun _ _ _ h => .inl h⟩
theorem Nx.trans {K K' K'':Kn} {μ μ' μ'':Mu} {H H' H'':Heap} {W W' W'':World} (h:Nx K μ H W K' μ' H' W') (h':Nx K' μ' H' W' K'' μ'' H'' W'') :
  Nx K μ H W K'' μ'' H'' W'' where
 ext:=h.ext.trans h'.ext
 os:=h'.os.trans h.os
 tape:=h'.tape.trans h.tape
 output:=h'.output.trans h.output
 size:=Nat.le_trans h.size h'.size
 keep:=fun r hr ho=>by
  rw[h'.keep r (Nat.lt_of_lt_of_le hr h.size) (fun o=>(h.og r o).elim ho (fun x=>by omega)),h.keep r hr ho]
 og:=fun r o=>by
  rcases h'.og r o with x|x
  ·exact h.og r x
  ·exact .inr (Nat.le_trans h.size x)
 kg := fun b o v e=>by
  rcases h'.kg b o v e with x|x|x
  ·exact h.kg b o v x
  ·rcases h.og b x with y|y
   ·exact .inr (.inl y)
   ·exact .inr (.inr y)
  ·exact .inr (.inr (Nat.le_trans h.size x))
theorem Nx.drew (K:Kn) (μ:Mu) (H:Heap) (W:World):Nx K μ H W K μ H W.drew :=
 ⟨.refl _ _ _,rfl,rfl,rfl,Nat.le_refl _,fun _ _ _=>rfl,fun _ h => .inl h,fun _ _ _ h => .inl h⟩
theorem HR.drew {K:Kn} {μ:Mu} {H:Heap} {W:World} (h:HR K μ H W):HR K μ H W.drew where
 dom:=h.dom
 tot:=h.tot
 blk:=fun id l b a c=>(h.blk id l b a c).ext (.refl _ _ _) (fun _=>rfl)
 lt:=h.lt
 inj:=h.inj
 kn:=h.kn
 kf:=h.kf
def Mu.upd (μ:Mu) (id:Nat) (l:Loc):Mu:=fun j=>if j=id then some l else μ j
theorem HR.lit {K:Kn} {μ:Mu} {H:Heap} {W:World} (h:HR K μ H W) (vs:Array Value) (ty:TypeId) (fr:Nat×Nat) :
  HR (fun b o=>if b=W.heap.size then vs[o]? else K b o) μ H (W.alloc (.cells vs ty fr)) /\
  Nx K μ H W (fun b o=>if b=W.heap.size then vs[o]? else K b o) μ H (W.alloc (.cells vs ty fr)):=by
 have hk : ∀ b o v,K b o=some v -> (if b=W.heap.size then vs[o]? else K b o)=some v:=fun b o v e=>by
  have:=h.klt e
  rw[if_neg (by omega)];exact e
 have he:Ext K μ H (fun b o=>if b=W.heap.size then vs[o]? else K b o) μ H :=
  ⟨hk,fun id l b a c=>⟨l,b,a,c,.refl _ _⟩⟩
 refine ⟨⟨h.dom,h.tot,fun id l b a c=>(h.blk id l b a c).ext he (fun _=>heap_alloc_old W _ _ (h.lt id l a)),fun id l a => ?_,h.inj,fun b o v e => ?_,fun b o v e ho => ?_⟩,
  ⟨he,rfl,rfl,rfl,by simp,fun r hr _=>heap_alloc_old W _ r hr,fun _ h => .inl h,fun b o v e => ?_⟩⟩
 ·have:=h.lt id l a;simp;omega
 ·skip
  split at e
  ·rename_i hb;subst hb
   rw[cell_of_row _ _ _ vs ty fr (heap_alloc_new W _)];exact e
  ·rw[World.cell?_alloc_lt _ _ _ (h.klt e)];exact h.kn b o v e
 ·skip
  split at e
  ·rename_i hb
   obtain⟨id,l,b',a1,a2,a3,a4⟩:=ho
   have:=h.lt id l a1;omega
  ·exact h.kf b o v e ho
 ·skip
  split at e
  ·rename_i hb;exact .inr (.inr (by omega))
  ·exact .inl e
theorem HR.loc {K:Kn} {μ:Mu} {H:Heap} {W:World} (h:HR K μ H W) (o:Obj) :
  HR K μ H (W.alloc o) /\ Nx K μ H W K μ H (W.alloc o):=by
 refine ⟨⟨h.dom,h.tot,fun id l b a c=>(h.blk id l b a c).ext (.refl _ _ _) (fun _=>heap_alloc_old W _ _ (h.lt id l a)),fun id l a => ?_,h.inj,fun b o v e => ?_,h.kf⟩,
  ⟨.refl _ _ _,rfl,rfl,rfl,by simp,fun r hr _=>heap_alloc_old W _ r hr,fun _ h => .inl h,fun _ _ _ e => .inl e⟩⟩
 ·have:=h.lt id l a;simp;omega
 ·rw[World.cell?_alloc_lt _ _ _ (h.klt e)];exact h.kn b o v e
theorem Ext.push {K:Kn} {μ:Mu} {H:Heap} (hd : ∀ id l,μ id=some l -> id<H.length) (l:Loc) (b:Blk):Ext K μ H K (μ.upd H.length l) (H++[b]) :=
 ⟨fun _ _ _ e=>e,fun id l' b' a c=>⟨l',b',by have:=hd id l' a;simp only[Mu.upd];rw[if_neg (by omega)];exact a,
  by rw[List.getElem?_append_left (hd id l' a)];exact c,.refl _ _⟩⟩
theorem HR.push {K:Kn} {μ:Mu} {H:Heap} {W:World} (h:HR K μ H W) (o:Obj) (l:Loc) (b:Blk) (hl:l.blk=W.heap.size)
  (hb:BlkR K (μ.upd H.length l) (H++[b]) (W.alloc o) l b) :
  HR K (μ.upd H.length l) (H++[b]) (W.alloc o) /\ Nx K μ H W K (μ.upd H.length l) (H++[b]) (W.alloc o):=by
 have he:=Ext.push (K:=K) h.dom l b
 have cas : ∀ id l' b',(μ.upd H.length l) id=some l' -> (H++[b])[id]?=some b' -> (id=H.length /\ l'=l /\ b'=b) \/ (id<H.length /\ μ id=some l' /\ H[id]?=some b'):=by
  intro id l' b' a c
  simp only[Mu.upd]at a
  split at a
  ·rename_i hid;subst hid
   left
   have:b=b':=by simpa using c
   exact⟨rfl,by simpa using a.symm,this.symm⟩
  ·have hlt:=h.dom id l' a
   rw[List.getElem?_append_left hlt]at c
   exact .inr ⟨hlt,a,c⟩
 have lt' : ∀ id l',(μ.upd H.length l) id=some l' -> (id=H.length /\ l'=l) \/ (id<H.length /\ μ id=some l'):=by
  intro id l' a
  simp only[Mu.upd]at a
  split at a
  ·rename_i hid;exact .inl ⟨hid,by simpa using a.symm⟩
  ·exact .inr ⟨h.dom id l' a,a⟩
 have og : ∀ r,Own (μ.upd H.length l) (H++[b]) r -> Own μ H r \/ W.heap.size <= r:=by
  rintro r ⟨id,l',b',a,c,e,f⟩
  rcases cas id l' b' a c with⟨_,rfl,_⟩|⟨_,a',c'⟩
  ·right;omega
  ·exact .inl ⟨id,l',b',a',c',e,f⟩
 refine ⟨⟨fun id l' a => ?_,fun id hid => ?_,fun id l' b' a c => ?_,fun id l' a => ?_,fun id id' l1 l2 b1 b2 a1 a2 c1 c2 e1 e2 e => ?_,fun b' o' v e => ?_,fun b' o' v e ho => ?_⟩,
  ⟨he,rfl,rfl,rfl,by simp,fun r hr _=>heap_alloc_old W _ r hr,og,fun _ _ _ e => .inl e⟩⟩
 ·rcases lt' id l' a with⟨rfl,_⟩|⟨x,_⟩<;>simp<;>omega
 ·simp only[List.length_append,List.length_singleton]at hid
  by_cases hi:id=H.length
  ·exact⟨l,by simp[Mu.upd,hi]⟩
  ·obtain⟨l',hl'⟩:=h.tot id (by omega)
   exact⟨l',by simp[Mu.upd,hi,hl']⟩
 ·rcases cas id l' b' a c with⟨_,rfl,rfl⟩|⟨_,a',c'⟩
  ·exact hb
  ·exact(h.blk id l' b' a' c').ext he (fun _=>heap_alloc_old W _ _ (h.lt id l' a'))
 ·rcases lt' id l' a with⟨_,rfl⟩|⟨_,a'⟩
  ·simp;omega
  ·have:=h.lt id l' a';simp;omega
 ·rcases cas id l1 b1 a1 c1 with⟨x1,y1,_⟩|⟨x1,a1',c1'⟩<;>rcases cas id' l2 b2 a2 c2 with⟨x2,y2,_⟩|⟨x2,a2',c2'⟩
  ·omega
  ·have:=h.lt id' l2 a2';subst y1;omega
  ·have:=h.lt id l1 a1';subst y2;omega
  ·exact h.inj id id' l1 l2 b1 b2 a1' a2' c1' c2' e1 e2 e
 ·rw[World.cell?_alloc_lt _ _ _ (h.klt e)];exact h.kn b' o' v e
 ·rcases og b' ho with x|x
  ·exact h.kf b' o' v e x
  ·have:=h.klt e;omega
theorem HR.put0 {K:Kn} {μ:Mu} {H:Heap} {W W':World} (h:HR K μ H W) (id:Nat) (l l':Loc) (b b':Blk) (hm:μ id=some l) (hb:H[id]?=some b)
  (hlive:b.live=true) (be:BE l b l' b')
  (hos:W'.os=W.os) (htape:W'.tape=W.tape) (hout:W'.output=W.output) (hsize:W.heap.size <= W'.heap.size)
  (hkeep : ∀ r,r<W.heap.size -> r≠l.blk -> W'.heap[r]?=W.heap[r]?)
  (hl:l'.blk=l.blk \/ W.heap.size <= l'.blk) (hl':l'.blk<W'.heap.size)
  (hnew:BlkR K (μ.upd id l') (H.set id b') W' l' b') :
  HR K (μ.upd id l') (H.set id b') W' /\ Nx K μ H W K (μ.upd id l') (H.set id b') W':=by
 have hid:=h.dom id l hm
 have he:Ext K μ H K (μ.upd id l') (H.set id b'):=by
  refine⟨fun _ _ _ e=>e,fun j lj bj a c => ?_⟩
  by_cases hj:j=id
  ·subst hj
   rw[hm]at a;rw[hb]at c
   cases a;cases c
   exact⟨l',b',by simp[Mu.upd],by simp[hid],be⟩
  ·exact⟨lj,bj,by simp[Mu.upd,hj,a],by rw[List.getElem?_set_ne (Ne.symm hj)];exact c,.refl _ _⟩
 have cas : ∀ j lj bj,(μ.upd id l') j=some lj -> (H.set id b')[j]?=some bj -> (j=id /\ lj=l' /\ bj=b') \/ (j≠id /\ μ j=some lj /\ H[j]?=some bj):=by
  intro j lj bj a c
  by_cases hj:j=id
  ·subst hj
   left
   simp only[Mu.upd,if_true]at a
   simp[hid]at c
   exact⟨rfl,by simpa using a.symm,c.symm⟩
  ·simp only[Mu.upd,if_neg hj]at a
   rw[List.getElem?_set_ne (Ne.symm hj)]at c
   exact .inr ⟨hj,a,c⟩
 have og : ∀ r,Own (μ.upd id l') (H.set id b') r -> Own μ H r \/ W.heap.size <= r:=by
  rintro r ⟨j,lj,bj,a,c,e,f⟩
  rcases cas j lj bj a c with⟨rfl,rfl,rfl⟩|⟨_,a',c'⟩
  ·rcases hl with hl|hl
   ·exact .inl ⟨j,l,b,hm,hb,hlive,by omega⟩
   ·right;omega
  ·exact .inl ⟨j,lj,bj,a',c',e,f⟩
 have keep' : ∀ r,r<W.heap.size -> ¬ Own μ H r -> W'.heap[r]?=W.heap[r]?:=fun r hr ho=>hkeep r hr (fun e=>ho ⟨id,l,b,hm,hb,hlive,e.symm⟩)
 refine ⟨⟨fun j lj a => ?_,fun j hj => ?_,fun j lj bj a c => ?_,fun j lj a => ?_,fun j j' l1 l2 b1 b2 a1 a2 c1 c2 e1 e2 e => ?_,fun bb o v e => ?_,fun bb o v e ho => ?_⟩,
  ⟨he,hos,htape,hout,hsize,keep',og,fun _ _ _ e => .inl e⟩⟩
 ·simp only[Mu.upd]at a
  rw[List.length_set]
  split at a
  ·omega
  ·exact h.dom j lj a
 ·rw [List.length_set]at hj
  by_cases hi:j=id
  ·exact⟨l',by simp[Mu.upd,hi]⟩
  ·obtain⟨lj,hlj⟩:=h.tot j hj
   exact⟨lj,by simp[Mu.upd,hi,hlj]⟩
 ·rcases cas j lj bj a c with⟨rfl,rfl,rfl⟩|⟨hne,a',c'⟩
  ·exact hnew
  ·refine(h.blk j lj bj a' c').ext he (fun hlv=>hkeep _ (h.lt j lj a') (fun e=>hne (h.inj j id lj l bj b a' hm c' hb hlv hlive e)))
 ·simp only[Mu.upd]at a
  split at a
  ·cases a;exact hl'
  ·have:=h.lt j lj a;omega
 ·rcases cas j l1 b1 a1 c1 with⟨x1,y1,z1⟩|⟨x1,a1',c1'⟩<;>rcases cas j' l2 b2 a2 c2 with⟨x2,y2,z2⟩|⟨x2,a2',c2'⟩
  ·omega
  ·subst y1
   have:=h.lt j' l2 a2'
   rcases hl with hl|hl
   ·exact absurd (h.inj j' id l2 l b2 b a2' hm c2' hb e2 hlive (by omega)) x2
   ·omega
  ·subst y2
   have:=h.lt j l1 a1'
   rcases hl with hl|hl
   ·exact absurd (h.inj j id l1 l b1 b a1' hm c1' hb e1 hlive (by omega)) x1
   ·omega
  ·exact h.inj j j' l1 l2 b1 b2 a1' a2' c1' c2' e1 e2 e
 ·have hc:=h.kn bb o v e
  have hne:bb≠l.blk:=fun x=>h.kf bb o v e ⟨id,l,b,hm,hb,hlive,x.symm⟩
  have hlt:=h.klt e
  rw[World.cell?_of_block (w:=W) (w':=W') (a:=⟨bb,o,none⟩) (hkeep bb hlt hne)]
  exact hc
 ·rcases og bb ho with x|x
  ·exact h.kf bb o v e x
  ·have:=h.klt e;omega
theorem HR.put {K:Kn} {μ:Mu} {H:Heap} {W W':World} (h:HR K μ H W) (id:Nat) (l l':Loc) (b b':Blk) (hm:μ id=some l) (hb:H[id]?=some b)
  (hlive:b.live=true) (hlive':b'.live=true) (be:BE l b l' b')
  (hos:W'.os=W.os) (htape:W'.tape=W.tape) (hout:W'.output=W.output) (hsize:W.heap.size <= W'.heap.size)
  (hkeep : ∀ r,r<W.heap.size -> r≠l.blk -> W'.heap[r]?=W.heap[r]?)
  (hl:l'.blk=l.blk \/ W.heap.size <= l'.blk) (hl':l'.blk<W'.heap.size)
  (hnew:BlkR K (μ.upd id l') (H.set id b') W' l' b') :
  HR K (μ.upd id l') (H.set id b') W' /\ Nx K μ H W K (μ.upd id l') (H.set id b') W' :=
 have _:=hlive'
 h.put0 id l l' b b' hm hb hlive be hos htape hout hsize hkeep hl hl' hnew
theorem arr_eq {H:Heap} {a n w:Nat} {rows:List (List D)} {kc:Option Nat} {p lk:Bool} (h:arr H a n=some (w,rows,kc,p,lk)) :
  H[a]?=some (.ar w rows kc p lk) /\ rows.length=n:=by
 unfold arr at h
 split at h
 ·rename_i hH
  split at h
  ·rename_i hn;cases h;exact⟨hH,hn⟩
  ·cases h
 ·cases h
theorem HR.lock {K:Kn} {μ:Mu} {H:Heap} {W:World} (h:HR K μ H W) {a w:Nat} {rows:List (List D)} {kc:Option Nat} {lk:Bool} {l:Loc}
  (hm:μ a=some l) (hH:H[a]?=some (.ar w rows kc true lk)) :
  ∃ K',HR K' μ (H.set a (.ar w rows kc true true)) W /\ Nx K μ H W K' μ (H.set a (.ar w rows kc true true)) W /\
   RowsAt K' mu0 [] true w rows l.off (fun o=>K' l.blk o):=by
 have hid:=h.dom a l hm
 cases lk with
 | true =>
  have hset:H.set a (.ar w rows kc true true)=H:=by
   rw[List.getElem?_eq_getElem hid]at hH
   have:H[a] = .ar w rows kc true true:=by simpa using hH
   rw[<- this];exact List.set_getElem_self hid
  rw[hset]
  refine⟨K,h,.refl _ _ _ _,fun i r j d x y => ?_⟩
  obtain⟨v,hv,hc⟩:=(h.blk a l _ hm hH).2.2.2 i r j d x y
  exact⟨v,hv,hc⟩
 | false =>
  obtain⟨hwd,hkc,hfit,vs,ty,hb,hsz,hrows⟩:=h.blk a l _ hm hH
  have hown:Own μ H l.blk:=⟨a,l,_,hm,hH,rfl,rfl⟩
  have hKn : ∀ b o v,K b o=some v -> (if b=l.blk then vs[o]? else K b o)=some v:=fun b o v e=>by
   have hne:b≠l.blk:=fun x=>by subst x;exact h.kf _ o v e hown
   rw[if_neg hne];exact e
  have hext:Ext K μ H (fun b o=>if b=l.blk then vs[o]? else K b o) μ (H.set a (.ar w rows kc true true)):=by
   refine⟨hKn,fun j lj bj x y => ?_⟩
   by_cases hj:j=a
   ·subst hj
    rw[hm]at x;rw[hH]at y;cases x;cases y
    exact⟨l,.ar w rows kc true true,hm,by simp[hid],.ar _ _ _ _ _ _ _ _ _ _ (Nat.le_refl _) (fun _=>⟨rfl,rfl⟩) (fun _ e=>⟨rfl,e⟩)⟩
   ·exact⟨lj,bj,x,by rw[List.getElem?_set_ne (Ne.symm hj)];exact y,.refl _ _⟩
  have hrows' : ∀ (K':Kn) (μ':Mu) (H':Heap),Ext K mu0 [] K' μ' H' -> RowsAt K' μ' H' true w rows l.off (fun o=>(fun b o=>if b=l.blk then vs[o]? else K b o) l.blk o):=by
   intro K' μ' H' e i r j d x y
   obtain⟨v,hv,h1,hc⟩:=hrows i r j d x y
   exact⟨v,by simpa using hv,h1,VR.ext hc (Ext.zero e.k)⟩
  have cas : ∀ j bj,(H.set a (.ar w rows kc true true))[j]?=some bj -> bj.live=true -> j≠a /\ H[j]?=some bj:=by
   intro j bj x hl
   by_cases hj:j=a
   ·subst hj
    simp[hid]at x;subst x;simp[Blk.live]at hl
   ·rw[List.getElem?_set_ne (Ne.symm hj)]at x;exact⟨hj,x⟩
  have og : ∀ r,Own μ (H.set a (.ar w rows kc true true)) r -> Own μ H r /\ r≠l.blk:=by
   rintro r ⟨j,lj,bj,x,y,z,e⟩
   obtain⟨hj,y'⟩:=cas j bj y z
   refine⟨⟨j,lj,bj,x,y',z,e⟩,fun e'=>hj (h.inj j a lj l bj _ x hm y' hH z rfl (by omega))⟩
  refine ⟨fun b o=>if b=l.blk then vs[o]? else K b o,⟨fun j lj x=>by rw[List.length_set];exact h.dom j lj x,fun j hj=>h.tot j (by rwa [List.length_set]at hj),fun j lj bj x y => ?_,h.lt, ?_,fun b o v e => ?_,fun b o v e ho => ?_⟩,
   ⟨hext,rfl,rfl,rfl,Nat.le_refl _,fun _ _ _=>rfl,fun r ho => .inl (og r ho).1,fun b o v e => ?_⟩,hrows' _ _ _ (Ext.zero hKn)⟩
  ·by_cases hj:j=a
   ·subst hj
    rw[hm]at x;cases x
    simp[hid]at y;subst y
    exact⟨rfl,hwd,hkc,hrows' _ _ _ ⟨hKn,fun _ _ _ e=>by cases e⟩⟩
   ·rw[List.getElem?_set_ne (Ne.symm hj)]at y
    exact(h.blk j lj bj x y).ext hext (fun _=>rfl)
  ·intro j j' l1 l2 b1 b2 x1 x2 y1 y2 z1 z2 e
   exact h.inj j j' l1 l2 b1 b2 x1 x2 (cas j b1 y1 z1).2 (cas j' b2 y2 z2).2 z1 z2 e
  ·split at e
   ·rename_i hbl;subst hbl;rw[cell_of_row W l.blk o vs ty _ hb];exact e
   ·exact h.kn b o v e
  ·obtain⟨o1,o2⟩:=og b ho
   rw[if_neg o2]at e
   exact h.kf b o v e o1
  ·split at e
   ·rename_i hbl;subst hbl;exact .inr (.inl hown)
   ·exact .inl e
theorem part_get {α:Type} (rows:List α) (off len i:Nat) (r:α) (h:((rows.drop off).take len)[i]?=some r):rows[off+i]?=some r /\ i<len:=by
 rw[List.getElem?_take]at h
 split at h
 ·rename_i hlt
  rw[List.getElem?_drop]at h
  exact⟨h,hlt⟩
 ·cases h
theorem part_length {α:Type} (rows:List α) (off len n:Nat) (hn:rows.length=n) (h:off+len <= n):((rows.drop off).take len).length=len:=by
 rw[List.length_take,List.length_drop];omega
theorem VR.part {K:Kn} {w:Nat} {rows:List (List D)} {l:Loc} (hwd:Wide w rows) (hr:RowsAt K mu0 [] true w rows l.off (fun o=>K l.blk o))
  {off len cap blk o n:Nat} (hn:rows.length=n) (hfit:off+len <= n) (hcap:len <= cap) (hadr:cap=0 \/ (blk=l.blk /\ o=l.off+off*w)) (μ:Mu) (H:Heap) :
  VR K μ H (.im w ((rows.drop off).take len)) (.slice (some ⟨blk,o,none⟩) len cap):=by
 have hlen:=part_length rows off len n hn hfit
 have hchoice : ∀ i j, ∃ v, ∀ r d,((rows.drop off).take len)[i]?=some r -> r[j]?=some d -> K blk (o+(i*w+j))=some v /\ Cell K mu0 [] true d v:=by
  intro i j
  cases hri:((rows.drop off).take len)[i]? with
  | none=>exact⟨.tuple #[],fun r d e _=>by cases e⟩
  | some r =>
   cases hdj:r[j]? with
   | none=>exact⟨.tuple #[],fun r' d e e'=>by cases e;rw[hdj]at e';cases e'⟩
   | some d =>
    obtain⟨hri',hi⟩:=part_get rows off len i r hri
    obtain⟨v,hv,hc⟩:=hr (off+i) r j d hri' hdj
    refine⟨v,fun r' d' e e' => ?_⟩
    cases e;rw[hdj]at e';cases e'
    rcases hadr with h0|⟨rfl,rfl⟩
    ·omega
    ·refine⟨?_,hc⟩
     rw[show l.off+off*w+(i*w+j)=l.off+((off+i)*w+j)by rw[Nat.add_mul];omega]
     exact hv
 have key:=VR.im (K:=K) μ H w ((rows.drop off).take len) blk o cap (fun i j=>Classical.choose (hchoice i j)) (by omega) (fun i r e=>hwd _ r (part_get rows off len i r e).1)
  (fun i r j d e e'=>(Classical.choose_spec (hchoice i j) r d e e').1) (fun i r j d e e'=>(Classical.choose_spec (hchoice i j) r d e e').2.1)
  (fun i r j d e e'=>(Classical.choose_spec (hchoice i j) r d e e').2.2)
 rw[hlen]at key
 exact key
theorem freeze_all (m:Nat) :
  (∀ (H H':Heap) (d d':D) (K:Kn) (μ:Mu) (W:World) (v:Value),freeze m H d=some (d',H') -> HR K μ H W -> VR K μ H d v ->
   ∃ K',HR K' μ H' W /\ Nx K μ H W K' μ H' W /\ VR K' mu0 [] d' v) /\
  (∀ (ds:List D) (H H':Heap) (ds':List D) (K:Kn) (μ:Mu) (W:World) (f:Nat -> Value),freezeL m H ds=some (ds',H') -> HR K μ H W -> (∀ (j:Nat) (d:D),ds[j]?=some d -> VR K μ H d (f j)) ->
   ∃ K',HR K' μ H' W /\ Nx K μ H W K' μ H' W /\ ds'.length=ds.length /\ ∀ (j:Nat) (d:D),ds'[j]?=some d -> VR K' mu0 [] d (f j)) /\
  (∀ (rs:List (List D)) (H H':Heap) (rs':List (List D)) (K:Kn) (μ:Mu) (W:World) (f:Nat -> Nat -> Value),freezeLL m H rs=some (rs',H') -> HR K μ H W ->
   (∀ (i:Nat) (r:List D) (j:Nat) (d:D),rs[i]?=some r -> r[j]?=some d -> VR K μ H d (f i j)) ->
   ∃ K',HR K' μ H' W /\ Nx K μ H W K' μ H' W /\ rs'.length=rs.length /\ (∀ (i:Nat) (r r':List D),rs[i]?=some r -> rs'[i]?=some r' -> r'.length=r.length) /\
    ∀ (i:Nat) (r:List D) (j:Nat) (d:D),rs'[i]?=some r -> r[j]?=some d -> VR K' mu0 [] d (f i j)):=by
 induction m with
 | zero =>
  refine⟨fun H H' d d' K μ W v h=>by simp[freeze_zero]at h,fun ds H H' ds' K μ W f h hr hd => ?_,fun rs H H' rs' K μ W f h hr hd => ?_⟩
  ·cases ds with
   | nil=>simp[freezeL_nil]at h;obtain⟨rfl,rfl⟩:=h;exact⟨K,hr,.refl _ _ _ _,rfl,fun j d e=>by simp at e⟩
   | cons x xs=>simp[freezeL_zero]at h
  ·cases rs with
   | nil=>simp[freezeLL_nil]at h;obtain⟨rfl,rfl⟩:=h;exact⟨K,hr,.refl _ _ _ _,rfl,fun i r r' e=>by simp at e,fun i r j d e=>by simp at e⟩
   | cons x xs=>simp[freezeLL_zero]at h
 | succ m ih =>
  obtain⟨ih1,ih2,ih3⟩:=ih
  have first : ∀ (H H':Heap) (d d':D) (K:Kn) (μ:Mu) (W:World) (v:Value),freeze (m+1) H d=some (d',H') -> HR K μ H W -> VR K μ H d v ->
    ∃ K',HR K' μ H' W /\ Nx K μ H W K' μ H' W /\ VR K' mu0 [] d' v:=by
   intro H H' d d' K μ W v h hr hv
   cases hv with
   | b=>simp only[freeze_succ,Option.some.injEq,Prod.mk.injEq]at h;obtain⟨rfl,rfl⟩:=h;exact⟨K,hr,.refl _ _ _ _,.b ..⟩
   | i=>simp only[freeze_succ,Option.some.injEq,Prod.mk.injEq]at h;obtain⟨rfl,rfl⟩:=h;exact⟨K,hr,.refl _ _ _ _,.i ..⟩
   | s=>simp only[freeze_succ,Option.some.injEq,Prod.mk.injEq]at h;obtain⟨rfl,rfl⟩:=h;exact⟨K,hr,.refl _ _ _ _,.s ..⟩
   | nil=>simp only[freeze_succ,Option.some.injEq,Prod.mk.injEq]at h;obtain⟨rfl,rfl⟩:=h;exact⟨K,hr,.refl _ _ _ _,.nil ..⟩
   | z=>simp only[freeze_succ,Option.some.injEq,Prod.mk.injEq]at h;obtain⟨rfl,rfl⟩:=h;exact⟨K,hr,.refl _ _ _ _,.z ..⟩
   | np=>simp only[freeze_succ,Option.some.injEq,Prod.mk.injEq]at h;obtain⟨rfl,rfl⟩:=h;exact⟨K,hr,.refl _ _ _ _,.np ..⟩
   | mnil=>simp only[freeze_succ,Option.some.injEq,Prod.mk.injEq]at h;obtain⟨rfl,rfl⟩:=h;exact⟨K,hr,.refl _ _ _ _,.mnil ..⟩
   | nf=>simp only[freeze_succ,Option.some.injEq,Prod.mk.injEq]at h;obtain⟨rfl,rfl⟩:=h;exact⟨K,hr,.refl _ _ _ _,.nf ..⟩
   | ni=>simp only[freeze_succ,Option.some.injEq,Prod.mk.injEq]at h;obtain⟨rfl,rfl⟩:=h;exact⟨K,hr,.refl _ _ _ _,.ni ..⟩
   | yl=>simp[freeze_succ]at h
   | im _ _ w rows blk off cap f hc hw hk h1 hrr =>
    simp only[freeze_succ,Option.some.injEq,Prod.mk.injEq]at h;obtain⟨rfl,rfl⟩:=h
    exact⟨K,hr,.refl _ _ _ _,.im _ _ w rows blk off cap f hc hw hk h1 hrr⟩
   | fn _ _ f a b va vb la lb ha hb =>
    cases a with
    | cons x xs=>simp[freeze_succ]at h
    | nil =>
     cases b with
     | cons x xs=>simp[freeze_succ]at h
     | nil =>
      simp only[freeze_succ,Option.some.injEq,Prod.mk.injEq]at h;obtain⟨rfl,rfl⟩:=h
      exact⟨K,hr,.refl _ _ _ _,.fn _ _ f [] [] va vb la lb (fun j d v e=>by simp at e) (fun j d v e=>by simp at e)⟩
   | mu _ _ a n off len cap blk o l w rows kc p lk hm hH hn hcond =>
    simp only[freeze_succ]at h
    split at h
    ·rename_i w' rows' kc' lk' harr
     obtain⟨hH',hn'⟩:=arr_eq harr
     rw[hH]at hH';cases hH'
     split at h
     ·rename_i hfit
      cases h
      obtain⟨K',hr',nx,hrows⟩:=hr.lock hm hH
      obtain⟨hadr,h2,h3,h4,h5,h6⟩:=hcond hn'
      have hwd:Wide w rows:=by
       have:=hr.blk a l _ hm hH
       cases lk with
       | false=>exact this.1
       | true=>exact this.2.1
      exact⟨K',hr',nx,VR.part hwd hrows hn' hfit h3 hadr _ _⟩
     ·cases h
    ·cases h
   | sv _ _ w rows blk off cap f hc hw hk h1 hrr =>
    simp only[freeze_succ]at h
    split at h
    ·rename_i rows' H1 hll
     cases h
     obtain⟨K',hr',nx,hlen,hwid,hpt⟩:=ih3 rows H H' rows' K μ W f hll hr hrr
     have get : ∀ i r,rows'[i]?=some r -> ∃ r0,rows[i]?=some r0:=fun i r e=>by
      have:i<rows'.length:=by
       rcases Nat.lt_or_ge i rows'.length with x|x
       ·exact x
       ·rw[List.getElem?_eq_none x]at e;cases e
      exact⟨rows[i]'(by omega),List.getElem?_eq_getElem (by omega)⟩
     have get2 : ∀ i r j d,rows'[i]?=some r -> r[j]?=some d -> ∃ r0 d0,rows[i]?=some r0 /\ r0[j]?=some d0:=fun i r j d e e'=>by
      obtain⟨r0,h0⟩:=get i r e
      have hl:=hwid i r0 r h0 e
      have:j<r.length:=by
       rcases Nat.lt_or_ge j r.length with x|x
       ·exact x
       ·rw[List.getElem?_eq_none x]at e';cases e'
      exact⟨r0,r0[j]'(by omega),h0,List.getElem?_eq_getElem (by omega)⟩
     refine⟨K',hr',nx, ?_⟩
     rw[<- hlen]
     refine .im _ _ w rows' blk off cap f (by omega) (fun i r e => ?_) (fun i r j d e e' => ?_) (fun i r j d e e' => ?_) hpt
     ·obtain⟨r0,h0⟩:=get i r e
      rw[hwid i r0 r h0 e];exact hw i r0 h0
     ·obtain⟨r0,d0,x,y⟩:=get2 i r j d e e'
      exact nx.ext.k _ _ _ (hk i r0 j d0 x y)
     ·obtain⟨r0,d0,x,y⟩:=get2 i r j d e e'
      exact h1 i r0 j d0 x y
    ·cases h
   | ifc _ _ t d v hv =>
    simp only[freeze_succ]at h
    split at h
    ·rename_i d1 H1 hf
     cases h
     obtain⟨K',hr',nx,hv'⟩:=ih1 H H' d d1 K μ W v hf hr hv
     exact⟨K',hr',nx,.ifc _ _ t d1 v hv'⟩
    ·cases h
   | ag _ _ cs vs hl h1 hrr =>
    simp only[freeze_succ]at h
    split at h
    ·rename_i cs1 H1 hf
     cases h
     obtain ⟨K',hr',nx,hlen,hpt⟩:=ih2 cs H H' cs1 K μ W (fun j=>vs.getD j (.tuple #[])) hf hr (fun j d e=>by
      have:j<vs.length:=by
       rcases Nat.lt_or_ge j cs.length with x|x
       ·omega
       ·rw[List.getElem?_eq_none x]at e;cases e
      exact hrr j d _ e (by rw[List.getElem?_eq_getElem this,List.getD_eq_getElem?_getD,List.getElem?_eq_getElem this];rfl))
     refine⟨K',hr',nx,.ag _ _ cs1 vs (by omega) h1 (fun j d v e e' => ?_)⟩
     have:=hpt j d e
     rwa [List.getD_eq_getElem?_getD,e',Option.getD_some]at this
    ·cases h
   | hp=>simp[freeze_succ]at h
   | ap=>simp[freeze_succ]at h
   | aa=>simp[freeze_succ]at h
   | ip=>simp[freeze_succ]at h
   | mp=>simp[freeze_succ]at h
   | yb=>simp[freeze_succ]at h
   | tu=>simp[freeze_succ]at h
   | u=>simp[freeze_succ]at h
  refine⟨first, ?_, ?_⟩
  ·intro ds
   induction ds with
   | nil =>
    intro H H' ds' K μ W f h hr hd
    simp[freezeL_nil]at h;obtain⟨rfl,rfl⟩:=h;exact⟨K,hr,.refl _ _ _ _,rfl,fun j d e=>by simp at e⟩
   | cons x xs ihl =>
    intro H H' ds' K μ W f h hr hd
    simp only[freezeL_cons]at h
    split at h
    ·rename_i d1 H1 hf
     split at h
     ·rename_i ds1 H2 hf2
      cases h
      obtain⟨K1,hr1,nx1,hv1⟩:=ih1 H H1 x d1 K μ W (f 0) hf hr (hd 0 x rfl)
      obtain⟨K2,hr2,nx2,hlen,hpt⟩:=ihl H1 H' ds1 K1 μ W (fun j=>f (j+1)) hf2 hr1 (fun j d e=>(hd (j+1) d (by simpa using e)).ext nx1.ext)
      refine⟨K2,hr2,nx1.trans nx2,by simp[hlen],fun j d e => ?_⟩
      cases j with
      | zero=>simp at e;subst e;exact hv1.ext (Ext.zero nx2.ext.k)
      | succ j=>exact hpt j d (by simpa using e)
     ·cases h
    ·cases h
  ·intro rs
   induction rs with
   | nil =>
    intro H H' rs' K μ W f h hr hd
    simp[freezeLL_nil]at h;obtain⟨rfl,rfl⟩:=h;exact⟨K,hr,.refl _ _ _ _,rfl,fun i r r' e=>by simp at e,fun i r j d e=>by simp at e⟩
   | cons x xs ihl =>
    intro H H' rs' K μ W f h hr hd
    simp only[freezeLL_cons]at h
    split at h
    ·rename_i r1 H1 hf
     split at h
     ·rename_i rs1 H2 hf2
      cases h
      obtain⟨K1,hr1,nx1,hlen1,hv1⟩:=ih2 x H H1 r1 K μ W (f 0) hf hr (fun j d e=>hd 0 x j d rfl e)
      obtain⟨K2,hr2,nx2,hlen,hwid,hpt⟩:=ihl H1 H' rs1 K1 μ W (fun i=>f (i+1)) hf2 hr1 (fun i r j d e e'=>(hd (i+1) r j d (by simpa using e) e').ext nx1.ext)
      refine⟨K2,hr2,nx1.trans nx2,by simp[hlen],fun i r r' e e' => ?_,fun i r j d e e' => ?_⟩
      ·cases i with
       | zero=>simp at e e';subst e;subst e';exact hlen1
       | succ i=>exact hwid i r r' (by simpa using e) (by simpa using e')
      ·cases i with
       | zero=>simp at e;subst e;exact(hv1 j d e').ext (Ext.zero nx2.ext.k)
       | succ i=>exact hpt i r j d (by simpa using e) e'
     ·cases h
    ·cases h
end Go.Dm
