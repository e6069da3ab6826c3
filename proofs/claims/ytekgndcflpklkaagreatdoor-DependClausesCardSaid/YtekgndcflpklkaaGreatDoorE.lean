/-
  Part of the proof.
-/
import Derived.Test.YtekgndcflpklkaaGreatDoorD
import Derived.IntWalk
import Derived.Lib.IndexMore
import Derived.Sort.AssemblyPlain
import Derived.Lib.Small
import Derived.Lib.BitFns
import Derived.KernelRfl
set_option linter.all false
namespace Go.Dm
section
@[go_sem]theorem cZ{x:Bool}:(D.b x).flat=true:=rfl
@[go_sem]theorem jR{k:IntKind}{x:Int}:(D.i k x).flat=true:=rfl
@[go_sem]def nh{x:List UInt8}:(D.s x).flat=true:=rfl
@[go_sem]def av7:D.nil.flat=true:=rfl
@[go_sem]def av8:D.z.flat=true:=rfl
@[go_sem]def av9{w:Nat}{r:List (List D)}:(D.im w r).flat=true:=rfl
@[go_sem]def awa:D.np.flat=true:=rfl
@[go_sem]def awb:D.mnil.flat=true:=rfl
@[go_sem]def awc:D.nf.flat=true:=rfl
@[go_sem]def awd:D.ni.flat=true:=rfl
def Sl.flat{w:Nat}{rows:List (List D)}{x:D}(h:Sl w rows x):x.flat=true:=by cases h<;>rfl
theorem ah{d:D}(h:d.flat=true)(m:Nat)(H:ab):bC (m+1) H d=some (d,H):=by
 cases d<;>first|rfl|(cases h;done)|skip
 rename_i f a b;cases a with|cons=>cases h|nil=>cases b with|cons=>cases h|nil=>rfl
theorem vQ(m:Nat)(H:ab):∀{ds:List D},(∀d∈ds,d.flat=true)->aX (m+2) H ds=some (ds,H)|[],_=>k9 _ _|d::ds,h=>by rw[gK,ah (h d N2)];simp;rw[vQ m H (λe a=>h e (K2 _ a))]
def O7(m:Nat)(H:ab):∀{a:List (List D)},(∀r∈a,∀d∈r,d.flat=true)->g9 (m+3) H a=some (a,H)|[],_=>sF _ _|r::a,h=>by rw[uW,vQ m H (h r N2)];simp;rw[O7 m H (λe b=>h e (K2 _ b))]
variable{a:List (List D)}
def nj(H:ab)(h:∀r∈a,∀d∈r,d.flat=true):ja H a=some (a,H):=O7 9 H h
def DW(m:Nat)(ds:List D):Option (D×ab)->Option (List D×ab)
 |some (a,H')=>match aX (m+1) H' ds with|some (b,c)=>some (a::b,c)|none=>none
 |none=>none
def O8(a:D):Option (List D×ab)->Option (List D×ab)|some (b,c)=>some (a::b,c)|none=>none
section
variable{H:ab}
@[go_sem]def awe:bE=12:=rfl
@[go_sem]def awf{m:Nat}:aX m H []=some ([],H):=k9 _ _
@[go_sem]def awg{m:Nat}{d:D}{ds:List D}:aX (m+1) H (d::ds)=DW m ds (bC m H d):=by rw[gK];cases bC m H d with|none=>rfl|some q=>rfl
@[go_sem]def awh{m:Nat}{a:D}{ds:List D}:DW m ds (some (a,H))=O8 a (aX (m+1) H ds):=by simp[DW];cases aX _ H ds<;>rfl
@[go_sem]def awi{a:D}{ds:List D}:O8 a (some (ds,H))=some (a::ds,H):=rfl
@[go_sem]def awj{m:Nat}{x:Bool}:bC (m+1) H (.b x)=some ((.b x),H):=rfl
@[go_sem]def awk{m:Nat}{k:IntKind}{x:Int}:bC (m+1) H (.i k x)=some ((.i k x),H):=rfl
@[go_sem]def awl{m:Nat}{x:List UInt8}:bC (m+1) H (.s x)=some ((.s x),H):=rfl
@[go_sem]def awm{m:Nat}:bC (m+1) H .nil=some (.nil,H):=rfl
@[go_sem]def awn{m:Nat}:bC (m+1) H .z=some (.z,H):=rfl
@[go_sem]def awo{m:Nat}{w:Nat}{r:List (List D)}:bC (m+1) H (.im w r)=some ((.im w r),H):=rfl
@[go_sem]def awp{m:Nat}:bC (m+1) H .np=some (.np,H):=rfl
@[go_sem]def awq{m:Nat}:bC (m+1) H .mnil=some (.mnil,H):=rfl
@[go_sem]def awr{m:Nat}:bC (m+1) H .nf=some (.nf,H):=rfl
@[go_sem]def aws{m:Nat}:bC (m+1) H .ni=some (.ni,H):=rfl
@[go_sem]def awt{m:Nat}{f:Fn}:bC (m+1) H (.fn f [] [])=some (.fn f [] [],H):=rfl
def O9:Option (List D×ab)->Option (D×ab)|some (ds,H)=>some (.ag ds,H)|none=>none
variable{y:List D}
@[go_sem]def awu{m:Nat}:bC (m+1) H (.ag y)=O9 (aX m H y):=by rw[gJ];simp;cases aX m H y<;>rfl
@[go_sem]def awv{ds:List D}:O9 (some (ds,H))=some (.ag ds,H):=rfl
def vS(H:ab)(a off len:Nat):Option (Nat×List (List D)×Option Nat×Bool×Bool)->Option (D×ab)|some (w,rows,cap,true,_)=>if off+len<=rows.length then some (.im w ((rows.drop off).take len),H.set a (.ar w rows cap true true))else none|_=>none
@[go_sem]theorem Pa{m a n off len:Nat}:bC (m+1) H (.mu a n off len)=vS H a off len (aK H a n):=by grind[gJ,aK,vS]
@[go_sem]def aww{a off len w:Nat}{rows:List (List D)}{cap:Option Nat}{lk:Bool}:vS H a off len (some (w,rows,cap,true,lk))=if off+len<=rows.length then some (.im w ((rows.drop off).take len),H.set a (.ar w rows cap true true))else none:=rfl
def vT:Option (D×ab)->Option D|some (d,_)=>some d|none=>none
def DX:Option (List D×ab)->Option D|some (ds,_)=>some (.tu ds)|none=>none
def zt{d:D}:qE H d=vT (bC 12 H d):=by grind[qE,vT,bE]
@[go_sem]def awx{d:D}:vT (some (d,H))=some d:=rfl
@[go_sem]def awy{d:List D}:DX (some (d,H))=some (.tu d):=rfl
@[go_sem]def awz{ds:List D}:dN H (.tu ds)=DX (aX 12 H ds):=by grind[dN,DX,bE]
def lF{d:D}(h:d.flat=true):dN H d=some d:=by
 have:dN H d=qE H d:=by cases d<;>first|rfl|cases h
 rw[this,zt,ah h];rfl
@[go_sem]def awA{x:Bool}:dN H (.b x)=some (.b x):=rfl
@[go_sem]def awB{k:IntKind}{x:Int}:dN H (.i k x)=some (.i k x):=rfl
@[go_sem]def awC{x:List UInt8}:dN H (.s x)=some (.s x):=rfl
@[go_sem]def awD:dN H .nil=some .nil:=rfl
@[go_sem]def awE:dN H .z=some .z:=rfl
@[go_sem]def awF{w:Nat}{r:List (List D)}:dN H (.im w r)=some (.im w r):=rfl
@[go_sem]def awG:dN H .np=some .np:=rfl
@[go_sem]def awH:dN H .mnil=some .mnil:=rfl
@[go_sem]def awI:dN H .nf=some .nf:=rfl
@[go_sem]def awJ:dN H .ni=some .ni:=rfl
@[go_sem]def awK:dN H (.ag y)=vT (bC 12 H (.ag y)):=zt
@[go_sem]def awL{a n off len:Nat}:dN H (.mu a n off len)=vT (bC 12 H (.mu a n off len)):=zt
def Pb(t:TypeId):Option (D×ab)->Option (D×ab)|some (d,H)=>some (.ifc t d,H)|none=>none
@[go_sem]def awM{m:Nat}{t:TypeId}{d:D}:bC (m+1) H (.ifc t d)=Pb t (bC m H d):=by rw[gJ];simp;cases bC m H d<;>rfl
@[go_sem]def awN{t:TypeId}{d:D}:Pb t (some (d,H))=some (.ifc t d,H):=rfl
@[go_sem]def awO{d:D}:m7 false H d=dN H d:=rfl
@[go_sem]def awP{d:D}:m7 true H d=if eM (jf d)then ia H d else none:=rfl
@[go_sem]def zu{d:D}:dV false d H=(d,H):=rfl
@[go_sem]def awQ{d:D}:dV true d H=place d H:=rfl
theorem afO{d:D}(h:d.flat=true):place d H=(d,H):=by cases d<;>first|rfl|(cases h;done)
end
section
variable{V:au}{H:ab}{f:FuncId}{vf:aH}{K:CR->Prop}
def fX(a:V.fn f=some vf)(b:vf.pure=true){args ds:List D}{H1:ab}{d:D}(h:ai V f ds d)(c:aX bE H args=some (ds,H1))(e:vf.fre=false:=by first|rfl|assumption):ac V f args H K↔K (.ret (dV vf.own d H1).1 (dV vf.own d H1).2):=by grind[cC,bI.pure]
def D.plain:D->Bool|.ag ds=>ds.all D.flat|d=>d.flat
def Sl.pl{w:Nat}{rows:List (List D)}{x:D}(h:Sl w rows x):x.plain=true:=by cases h<;>rfl
@[go_sem]def jm{x:Bool}:(D.b x).plain=true:=rfl
@[go_sem]theorem aV{k:IntKind}{x:Int}:(D.i k x).plain=true:=rfl
@[go_sem]def nq{x:List UInt8}:(D.s x).plain=true:=rfl
@[go_sem]def awR:D.nil.plain=true:=rfl
@[go_sem]theorem cE{l:List D}:(D.ag l).plain=l.all D.flat:=rfl
def Pc{d:D}(h:d.plain=true)(m:Nat)(H:ab):bC (m+6) H d=some (d,H):=by grind[D.plain,gJ,vQ,ah]
def nw{H:ab}:∀{ds:List D},(∀d∈ds,d.plain=true)->aX bE H ds=some (ds,H)|[],_=>k9 _ _|d::ds,h=>by have b:bC 11 H d=some _:=Pc (h d N2) 5 H;have c:aX 12 H ds=some _:=nw λe a=>h e (K2 _ a);show aX 12 H _=_;grind[gK]
theorem ai.c{ds:List D}{d:D}(h:ai V f ds d)(b:V.fn f=some vf)(c:vf.pure=true)(e:ds.all D.plain=true)(a:vf.own=false\/d.flat=true):ac V f ds H K↔K (.ret d H):=by
 rw[cC (bI.pure0 b c (nw (by grind)) h),OI];rcases a with a|a;·rw[a];rfl
 cases g:vf.own<;>grind[dV,afO]
end
theorem wr{x:Int}(a:-9223372036854775808<=x)(b:x<9223372036854775808):IntKind.i64.wrap x=x:=IntWalk.i64_in _ (by omega)
@[go_sem]def awS{i:Nat}:((i:Int)-1).toNat=i-1:=by omega
@[go_sem]def awT{i:Nat}:((i:Int)+1).toNat=i+1:=by omega
@[go_sem]def awU{i j:Nat}:((i:Int)+j).toNat=i+j:=by omega
attribute[go_sem]Int.toNat_natCast Int.toNat_zero Int.toNat_one Int.natCast_add List.length_map List.length_append List.length_set List.length_replicate List.length_singleton Int.sub_zero Int.add_zero Int.zero_add Nat.sub_zero St.mk.injEq List.cons.injEq D.i.injEq D.b.injEq D.s.injEq D.ag.injEq D.bx.injEq D.mu.injEq D.im.injEq CR.ret.injEq PR.ret.injEq true_and and_true exists_eq_left exists_eq_right exists_eq_left' exists_eq_right' exists_eq exists_eq' exists_and_left exists_and_right
section
variable{V:au}{Q:Ex->St->Prop}{dr:Option (Bs×Bool)}{os:List ae}{keep:Option Nat}{loc sl sl':List D}{H H':ab}{w:Nat}{α:Type}[Inhabited α]{enc:α->List D}{l:List α}{d:D}{k:IntKind}{x:Int}
def Sl.q(h:Sl w (l.map enc) d):aD V dr os keep loc sl Q (aA ⟨sl',H⟩ (cJ H' d (.i k x) w))↔(0<=x/\x<l.length)/\aD V dr os keep loc sl Q (.v (.ip (enc l[x.toNat]!)) ⟨sl',H⟩):=by
 have a:∀{d},cJ H' d (.i k x) w=none->¬(0<=x/\x<l.length)->(aD V dr os keep loc sl Q (aA ⟨sl',H⟩ (cJ H' d _ w))↔(0<=x/\x<l.length)/\aD V dr os keep loc sl Q (.v (.ip (enc l[x.toNat]!)) ⟨sl',H⟩)):=λ{d}e b=>by rw[e];exact⟨λh=>h.elim,λh=>(b h.1).elim⟩
 cases h with|nil h=>
 have:l=[]:=by simp_all
 subst this;exact a rfl (by simp)|z h=>
 have:l=[]:=by simp_all
 subst this;exact a rfl (by simp)|im=>grind[cJ,eG,OO]
omit[Inhabited α]in theorem Sl.n(h:Sl w (l.map enc) d):dj H 1 d=some (.i .i64 l.length):=by rw[h.len,S2]
def Sl.c1{rows:List (List D)}(h:Sl w rows d):d.cellsN 1=some [d]:=by cases h<;>rfl
end
def DY(n:Nat):Option an->Option (Nat×List (List D)×Option Nat×Bool×Bool)|some (.ar w rows cap p lk)=>if rows.length=n then some (w,rows,cap,p,lk)else none|_=>none
@[go_sem]theorem afP{H:ab}{a n:Nat}:aK H a n=DY n H[a]?:=by grind[aK,DY]
@[go_sem]theorem afQ{n w:Nat}{rows:List (List D)}{cap:Option Nat}{p lk:Bool}:DY n (some (.ar w rows cap p lk))=if rows.length=n then some (w,rows,cap,p,lk)else none:=rfl
def zw(a n off len w:Nat)(b:D):Option (Nat×List (List D)×Option Nat×Bool×Bool)->Option D
 |some (w',_,_,_,_)=>match eG b len with|some j=>if w'=w then some (.ap a n (off+j) 0)else none|none=>none
 |none=>none
@[go_sem]def awV{H:ab}{a n off len w:Nat}{b:D}:cJ H (.mu a n off len) b w=zw a n off len w b (aK H a n):=by grind[cJ,zw]
def zx(off k:Nat)(i:Nat):Option (Nat×List (List D)×Option Nat×Bool×Bool)->Option (List D)
 |some (_,rows,_,_,_)=>match rows[i]? with|some r=>dS r off k|none=>none
 |none=>none
def zy(off k:Nat):Option (List D)->Option (List D)|some r=>dS r off k|none=>none
@[go_sem]def awW{H:ab}{a n i off k:Nat}:cN H (.ap a n i off) k=zx off k i (aK H a n):=by grind[cN,zx]
@[go_sem]def awX{off k i w:Nat}{rows:List (List D)}{cap:Option Nat}{p lk:Bool}:zx off k i (some (w,rows,cap,p,lk))=zy off k rows[i]?:=by simp[zx];cases rows[i]?<;>rfl
@[go_sem]def awY{off k:Nat}{r:List D}:zy off k (some r)=dS r off k:=rfl
def DZ(H:ab)(a n i off:Nat)(vs:List D):Option (Nat×List (List D)×Option Nat×Bool×Bool)->Option ab
 |some (w,rows,cap,true,lk)=>match aX bE H vs with
  |some (b,H')=>match aK H' a n with|some (_,_,_,true,_)=>lf H' a n i off b|_=>none
  |none=>none
 |some (_,_,_,false,_)=>lf H a n i off vs|none=>none
def afR{H:ab}{a n i off:Nat}{vs:List D}:fR H (.ap a n i off) vs=DZ H a n i off vs (aK H a n):=by grind[fR,DZ]
def ny(H:ab)(a w:Nat)(rows:List (List D))(i off:Nat)(vs:List D)(cap:Option Nat)(p:Bool):Option (List D)->Option ab
 |some r=>match cA r off vs with|some b=>some (H.set a (.ar w (rows.set i b) cap p false))|none=>none
 |none=>none
def zA(H:ab)(a w:Nat)(rows:List (List D))(i:Nat)(cap:Option Nat)(p:Bool):Option (List D)->Option ab|some b=>some (H.set a (.ar w (rows.set i b) cap p false))|none=>none
theorem afS{H:ab}{a n i off w:Nat}{rows:List (List D)}{cap:Option Nat}{p:Bool}{vs:List D}(h:aK H a n=some (w,rows,cap,p,false)):lf H a n i off vs=ny H a w rows i off vs cap p rows[i]?:=by grind[lf,ny]
@[go_sem]theorem afT{H:ab}{a w:Nat}{rows:List (List D)}{i off:Nat}{vs r:List D}{cap:Option Nat}{p:Bool}:ny H a w rows i off vs cap p (some r)=zA H a w rows i cap p (cA r off vs):=by simp[ny];cases cA r off vs<;>rfl
@[go_sem]def awZ{H:ab}{a w:Nat}{rows:List (List D)}{i:Nat}{r:List D}{cap:Option Nat}{p:Bool}:zA H a w rows i cap p (some r)=some (H.set a (.ar w (rows.set i r) cap p false)):=rfl
def Pd{H:ab}{a n i off:Nat}{vs:List D}{w:Nat}{rows:List (List D)}{cap:Option Nat}{p:Bool}(b:vs.all D.flat=true)(h:aK H a n=some (w,rows,cap,p,false)):fR H (.ap a n i off) vs=ny H a w rows i off vs cap p rows[i]?:=by rw[afR,h];cases p<;>grind[DZ,afS,bE,vQ]
def zB:=fR
def zC(H:ab)(a n i off:Nat)(vs:List D):Option an->Option ab|some (.ar w rows cap p false)=>if rows.length=n then(if vs.all D.flat then ny H a w rows i off vs cap p rows[i]? else zB H (.ap a n i off) vs)else none|_=>zB H (.ap a n i off) vs
@[go_sem]theorem afU{H:ab}{a n i off:Nat}{vs:List D}:fR H (.ap a n i off) vs=zC H a n i off vs H[a]?:=by cases h:H[a]? with|none=>rfl|some b=>cases b with
 |ar w rows cap p lk=>cases lk with|true=>rfl|false=>
 simp only[zC];split
 ·rename_i c;split;·rename_i d;exact Pd d (by simp[aK,h,c])
  rfl
 rename_i c;simp[fR,aK,h,c]|_=>rfl
@[go_sem]def aw0{H:ab}{a n i off w:Nat}{vs:List D}{rows:List (List D)}{cap:Option Nat}{p:Bool}:zC H a n i off vs (some (.ar w rows cap p false))=if rows.length=n then(if vs.all D.flat then ny H a w rows i off vs cap p rows[i]? else zB H (.ap a n i off) vs)else none:=rfl
section
variable{V:au}{Q:Ex->St->Prop}{dr:Option (Bs×Bool)}{os:List ae}{keep:Option Nat}{loc sl sl':List D}{H H':ab}{w w':Nat}{α:Type}[Inhabited α]{enc:α->List D}{l:List α}{d:D}{k:IntKind}{x:Int}
@[go_sem]def aw1{a n off len:Nat}{rows:List (List D)}{cap:Option Nat}{p lk:Bool}:aD V dr os keep loc sl Q (aA ⟨sl',H⟩ (zw a n off len w (.i k x) (some (w,rows,cap,p,lk))))↔(0<=x/\x<len)/\aD V dr os keep loc sl Q (.v (.ap a n (off+x.toNat) 0) ⟨sl',H⟩):=by grind[zw,eG,aA,aD]
@[go_sem]def aw2{a:Bool}{i off n:Nat}:aD V dr os keep loc sl Q (lE ⟨sl',H⟩ a (zy off n (l.map enc)[i]?))↔i<l.length/\aD V dr os keep loc sl Q (lE ⟨sl',H⟩ a (dS (enc l[i]!) off n)):=by grind[zy,lE,aD]
@[go_sem]def afV{a i off:Nat}{vs:List D}{cap:Option Nat}{p:Bool}:aD V dr os keep loc sl Q (hZ ⟨sl',H⟩ (ny H' a w (l.map enc) i off vs cap p (l.map enc)[i]?))↔i<l.length/\aD V dr os keep loc sl Q (hZ ⟨sl',H⟩ (zA H' a w (l.map enc) i cap p (cA (enc l[i]!) off vs))):=by grind[afT,ny,hZ,aD]
end
def Pe(a:List (List D))(w i:Nat)(b:List (Nat×D)):Option (List D)->Option (List (List D))|some vs=>if i<a.length then jc (a.set i vs) w b else none|none=>none
@[go_sem]def aw3{w:Nat}:jc a w []=some a:=rfl
variable{z:List (Nat×D)}
@[go_sem]def aw4{w i:Nat}{v:D}:jc a w ((i,v)::z)=Pe a w i z (v.cellsN w):=by rw[jc];cases v.cellsN w<;>rfl
@[go_sem]def aw5{w i:Nat}{vs:List D}:Pe a w i z (some vs)=if i<a.length then jc (a.set i vs) w z else none:=rfl
def zz(a:List D):Nat->List (List D)|0=>[]|n+1=>a::zz a n
def Pf(a:List D):∀n,List.replicate n a=zz a n|0=>rfl|n+1=>by rw[AA3,Pf a n];rfl
variable{y:List D}
@[go_sem]def aw6:zz y 0=[]:=rfl
@[go_sem]def aw7{n:Nat}:zz y (n+1)=y::zz y n:=rfl
@[go_sem]def aw8{w:Nat}{a:List (Nat×D)}:oA w 0 y a=some .z:=rfl
@[go_sem]def aw9{w n:Nat}:oA w (n+1) y z=(jc (zz y (n+1)) w z).map λrows=>.sv w rows:=by rw[<-Pf];rfl
@[go_sem]def axa{H:ab}{w:Nat}{a:List (Nat×D)}{p:Bool}:mY H w 0 y a p=some (.z,H):=rfl
section
variable{V:au}{Q:Ex->St->Prop}{dr:Option (Bs×Bool)}{os:List ae}{keep:Option Nat}{loc sl sl':List D}{H H':ab}
@[go_sem]def axb{k a:IntKind}{x c:Int}{w bytes:Nat}{p:Bool}:aD V dr os keep loc sl Q (gk ⟨sl',H'⟩ (mZ H (.i k x) (.i a c) w bytes y p))↔((0<=c/\c<=140737488355328)/\(0<=x/\x<=c)/\c.toNat*bytes<=140737488355328)/\aD V dr os keep loc sl Q (.v (.mu H.length c.toNat 0 x.toNat) ⟨sl',H++[.ar w (List.replicate c.toNat y) (some c.toNat) p false]⟩):=by grind[mZ,fw,eI,gk,aD]
end
def bD(H0:ab)(x0:D)(rows:List (List D)):D:=match rows with|[]=>x0|_::_=>.mu H0.length rows.length 0 rows.length
def bH(H0:ab)(w:Nat)(rows:List (List D)):ab:=match rows with|[]=>H0|_::_=>H0++[.ar w rows none true false]
def iN(x0:D)(w:Nat)(rows:List (List D)):D:=match rows with|[]=>x0|_::_=>.im w rows
def kF(x0:D):Bool:=match x0 with|.nil|.z=>true|_=>false
@[go_sem]def axc:kF .nil=true:=rfl
@[go_sem]def axd:kF .z=true:=rfl
def qV{x0:D}(a:kF x0=true)(w:Nat)(rows:List (List D)):Sl w rows (iN x0 w rows):=by cases rows with
 |nil=>cases x0<;>first|exact .nil rfl|exact .z rfl|cases a
 |cons r rows=>exact .im
theorem vU{n b:Nat}(h:n*b<=140737488355328)(a:n<=140737488355328):eI n b=true:=by grind[eI]
section
variable{H0:ab}{x0:D}{w bytes:Nat}{rows:List (List D)}{r:List D}
theorem afW(a:kF x0=true)(b:r.all D.flat=true)(c:eI (rows.length+1) bytes=true):bu (bH H0 w rows) (bD H0 x0 rows) (.sv w [r]) w bytes true=some (bD H0 x0 (rows++[r]),bH H0 w (rows++[r])):=by
 have d:∀H,ja H [r]=some _:=λH=>nj H (λq f=>by grind)
 cases rows with|nil=>
 have e:fe H0 x0 [r] w bytes true=iA H0 x0 [r] w bytes true:=by cases x0<;>first|rfl|cases a
 grind[bH,bD,bu,eZ,iA]|cons u g=>simp_all[aK,bH,bu,bD,eZ,fe,kq,iB]
def D1{α:Type}{enc:α->List D}{l:List α}(a:kF x0=true)(b:r.all D.flat=true)(c:(l.length+1)*bytes<=140737488355328)(d:l.length<140737488355328):bu (bH H0 w (l.map enc)) (bD H0 x0 (l.map enc)) (.sv w [r]) w bytes true=some (bD H0 x0 (l.map enc++[r]),bH H0 w (l.map enc++[r])):=by grind[afW,vU]
def afX:=bu
def vV{α:Type}{enc:α->List D}{l:List α}{y x0:D}(c:kF x0=true)(d:Sl w (l.map enc) y)(g:∀a,(enc a).all D.flat=true)(h:l.length*bytes<=140737488355328)(i:l.length<=140737488355328){H:ab}:bu H x0 y w bytes true=some (bD H x0 (l.map enc),bH H w (l.map enc)):=by
 have f:ja H (l.map enc)=some _:=nj H (λq j=>by grind);have e:∀b,fe H x0 b w bytes true=iA H x0 b w bytes true:=λb=>by cases x0<;>first|rfl|cases c
 simp[bu,d.cont,f,e];cases l<;>grind[eI,iA,bD,bH]
def nz{α:Type}{enc:α->List D}{l:List α}(a:(l.length+1)*bytes<=140737488355328)(b:l.length<140737488355328):bu (bH H0 w (l.map enc)) (bD H0 .nil (l.map enc)) (.sv w [r]) w bytes true=if r.all D.flat then some (bD H0 .nil (l.map enc++[r]),bH H0 w (l.map enc++[r]))else afX (bH H0 w (l.map enc)) (bD H0 .nil (l.map enc)) (.sv w [r]) w bytes true:=by
 split;·rename_i c;exact D1 rfl c a b
 rfl
def afY(a:kF x0=true){H:ab}:dj H 1 (bD H0 x0 rows)=some (.i .i64 rows.length):=by cases rows with
 |nil=>cases x0<;>first|rfl|cases a
 |cons r rows=>rfl
def afZ(a:kF x0=true):(bD H0 x0 rows).cellsN 1=some [bD H0 x0 rows]:=by cases rows with
 |nil=>cases x0<;>first|rfl|cases a
 |cons r rows=>rfl
def af0(a:kF x0=true):(bD H0 x0 rows).under ((bH H0 w rows).length,[])=true:=by cases rows with
 |nil=>cases x0<;>first|rfl|cases a
 |cons r rows=>grind[bD,bH,D.under,Bs.un]
def af1(a:kF x0=true)(m:Nat):∃H',bC (m+1) (bH H0 w rows) (bD H0 x0 rows)=some (iN x0 w rows,H')/\H'.length=(bH H0 w rows).length/\∀b,b<H0.length->H'[b]?=H0[b]?:=by cases rows with
 |nil=>cases x0<;>first|exact⟨H0,rfl,rfl,λ_ _=>rfl⟩|cases a
 |cons r rows=>grind[bH,Pa,bD,aK,vS,iN]
def D2(a:kF x0=true):dN (bH H0 w rows) (bD H0 x0 rows)=some (iN x0 w rows):=by
 obtain⟨H',e,_⟩:=af1 (H0:=H0) (w:=w) (rows:=rows) a 11;have:dN (bH H0 w rows) (bD H0 x0 rows)=qE (bH H0 w rows) (bD H0 x0 rows):=by cases rows with
 |nil=>cases x0<;>first|rfl|cases a
 |cons r rows=>rfl
 rw[this,zt,e];rfl
def af2{i:Nat}(hi:i<rows.length){k:IntKind}:cJ (bH H0 w rows) (bD H0 x0 rows) (.i k i) w=some (.ap H0.length rows.length i 0):=by cases rows<;>grind[aK,bH,bD,cJ,eG]
theorem Pg(hr:rows≠[]):aK (bH H0 w rows) H0.length rows.length=some (w,rows,none,true,false):=by cases rows<;>grind[bH,aK]
theorem af3(hr:rows≠[]){i:Nat}:(bH H0 w rows).set H0.length (.ar w (rows.set i r) none true false)=bH H0 w (rows.set i r):=by cases rows with|nil=>grind|cons q rows=>cases i<;>simp[bH]
end
def bP(H0:ab)(n i off:Nat):D:=.ap H0.length n i off
def D3(H0:ab)(w:Nat)(rows:List (List D))(i:Nat):Option (List D)->Option ab|some r=>some (bH H0 w (rows.set i r))|none=>none
theorem tK{H0:ab}{x0:D}{rows rows':List (List D)}(h:rows.length=rows'.length):bD H0 x0 rows=bD H0 x0 rows':=by cases rows with|nil=>grind|cons=>cases rows'<;>grind[bD]
section
variable{V:au}{Q:Ex->St->Prop}{dr:Option (Bs×Bool)}{os:List ae}{keep:Option Nat}{loc sl sl':List D}{H0 H H':ab}{w n i o off:Nat}{α:Type}{enc:α->List D}{l:List α}{k:IntKind}{x:Int}{rows:List (List D)}
@[go_sem]def axe:dj H 1 (bD H0 .nil (l.map enc))=some (.i .i64 l.length):=by rw[afY rfl,S2]
@[go_sem]def axf:(bD H0 .nil rows).cellsN 1=some [bD H0 .nil rows]:=afZ rfl
@[go_sem]def axg:(bD H0 .nil rows).under ((bH H0 w rows).length,[])=true:=af0 rfl
@[go_sem]def axh:mV (bP H0 n i o) off=some (bP H0 n i (o+off)):=rfl
@[go_sem]def axi:(bP H0 n i o).under ((bH H0 w (l.map enc)).length,[])=decide (0<l.length):=by cases l<;>simp[bP,bH,D.under,Bs.un]
@[go_sem]def axj{b:an}:(bH (b::H0) w rows)[0]?=some b:=by cases rows<;>rfl
@[go_sem]def axk:aD V dr os keep loc sl Q (aA ⟨sl',H'⟩ (cJ (bH H0 w (l.map enc)) (bD H0 .nil (l.map enc)) (.i k x) w))↔(0<=x/\x<l.length)/\aD V dr os keep loc sl Q (.v (bP H0 l.length x.toNat 0) ⟨sl',H'⟩):=by
 by_cases a:0<=x/\x<l.length
 ·obtain⟨i,rfl⟩:=xt a.1;have hi:i<(l.map enc).length:=by grind
  rw[af2 hi];simp[a,true_and,aA,da,S2];rfl
 have:cJ (bH H0 w (l.map enc)) (bD H0 .nil (l.map enc)) (.i k x) w=none:=by cases l<;>grind[bD,cJ,eG]
 grind[aA,aD]
@[go_sem]def axl[Inhabited α]{a:Bool}:aD V dr os keep loc sl Q (lE ⟨sl',H'⟩ a (cN (bH H0 w (l.map enc)) (bP H0 l.length i off) n))↔i<l.length/\aD V dr os keep loc sl Q (lE ⟨sl',H'⟩ a (dS (enc l[i]!) off n)):=by cases l<;>grind[cN,bP,aK,lE,aD,Pg]
@[go_sem]def axm[Inhabited α]{vs:List D}:aD V dr os keep loc sl Q (hZ ⟨sl',H'⟩ (fR (bH H0 w (l.map enc)) (bP H0 l.length i off) vs))↔if vs.all D.flat then i<l.length/\aD V dr os keep loc sl Q (hZ ⟨sl',H'⟩ (D3 H0 w (l.map enc) i (cA (enc l[i]!) off vs)))else aD V dr os keep loc sl Q (hZ ⟨sl',H'⟩ (zB (bH H0 w (l.map enc)) (bP H0 l.length i off) vs)):=by
 split;·rename_i b;cases l with|nil=>grind[fR,bH,bP,aK,hZ,aD]|cons a l=>
  have c:aK (bH H0 w ((a::l).map enc)) H0.length (a::l).length=some (w,(a::l).map enc,none,true,false):=by grind[Pg]
  unfold bP;rw[Pd b c,afV];grind[cA,zA,D3,af3]
 exact dG
@[go_sem]def axn{r:List D}:D3 H0 w rows i (some r)=some (bH H0 w (rows.set i r)):=rfl
@[go_sem]def axo:dN (bH H0 w rows) (bD H0 .nil rows)=some (iN .nil w rows):=D2 rfl
def bL(H0:ab)(w:Nat)(rows:List (List D)):ab:=match rows with|[]=>H0|_::_=>H0++[.ar w rows none true true]
@[go_sem]def axp{m:Nat}:bC (m+1) (bH H0 w rows) (bD H0 .nil rows)=some (iN .nil w rows,bL H0 w rows):=by cases rows with|nil=>rfl|cons r rows=>grind[Pa,bD,bH,aK,vS,iN,bL]
theorem lG[Inhabited α](h:l≠[]):bH H0 w (l.map enc)=H0++[.ar w (l.map enc) none true false]/\bD H0 .nil (l.map enc)=.mu H0.length l.length 0 l.length:=by cases l with|nil=>grind|cons a l=>exact⟨rfl,by simp[bD]⟩
end
section
variable{V:au}{H:ab}{f:FuncId}{vf:aH}{K:CR->Prop}
def af4(K:CR->Prop):PR->Prop|.ret d=>∀H,K (.ret d H)|.pan d=>∀H,K (.pan d H)|.bad=>False
def ac.fz(b:V.fn f=some vf)(c:vf.pure=true)(e:vf.own=false){args ds:List D}(a:∃H1,aX bE H args=some (ds,H1))(h:aE V f ds (af4 K)):ac V f args H K:=by obtain⟨H1,a⟩:=a;refine ac.pure0 b c a (h.mono λr hr=>?_);cases r with|ret d=>simp[DU,e];exact hr _|pan d=>exact hr H1|bad=>exact hr
def ac.pl(a:V.fn f=some vf)(b:vf.pure=true)(c:vf.own=false){ds:List D}(e:ds.all D.plain=true)(h:aE V f ds (λr=>match r with|.ret d=>K (.ret d H)|.pan d=>K (.pan d H)|.bad=>False)):ac V f ds H K:=by refine ac.pure0 a b (nw (by grind)) (h.mono λr hr=>?_);cases r with|ret d=>simp[DU,c,OI];exact hr|pan d=>exact hr|bad=>exact hr
end
end
section
section
variable{α:Type}[Inhabited α]{p:α->Bool}{l:List α}{i:Nat}
structure qL(p:α->Bool)(l:List α)(i:Nat):Prop where h:∀k,k<i->p l[k]! =false
def CZ:qL p l 0:=⟨λk a=>by omega⟩
def C0:qL p l (i+1)↔qL p l i/\p l[i]! =false:=by
 refine⟨λh=>⟨⟨λk a=>h.h k (by omega)⟩,h.h i (by omega)⟩,λh=>⟨λk a=>?_⟩⟩;by_cases e:k=i;·grind
 exact h.1.h k (by omega)
theorem ZB(hi:i<l.length)(h:p l[i]! =true):l.any p=true:=by grind
theorem C1(h:qL p l l.length):l.any p=false:=by rw[ABD];intro x a;obtain⟨k,b,rfl⟩:=kh.1 a;have:=h.h k b;grind
end
section
variable{α β:Type}[Inhabited α]
def tf(p:α->Bool)(g:α->β)(l:List α)(i:Nat):List β:=((l.take i).filter p).map g
end
def yK(w:Nat)(agg:Bool):aQ:=(.seq (.reg [⟨.bin .lss (.s 5) (.s 6),some 3,none⟩] none) (.seq (.cond (.s 3) .skip (.exit 0)) (.seq (.block 1 (.seq (.reg [⟨.mov (.s 5),none,none⟩,⟨.mov (.l 0),some 7,none⟩] none) (.seq (.reg [⟨.mov (.s 1),none,none⟩,⟨.mov (.s 0),none,none⟩,⟨.mov (.s 7),none,none⟩,⟨.iad (.l 1) (.l 2) w,none,none⟩,⟨.ld (.l 3) w agg,none,none⟩,⟨.calv (.l 0) [(.l 4)],some 4,none⟩] none) (.cond (.s 4) (.seq (.reg [⟨.mov (.s 7),none,none⟩,⟨.mov (.l 0),some 2,none⟩] none) .ret) .skip)))) (.reg [⟨.bin .add (.s 5) (.c (.i .i64 1)),none,none⟩,⟨.mov (.l 0),some 5,none⟩] none))))
def sX(w:Nat)(agg:Bool):aH:=⟨2,8,[.s 2],(.seq (.reg [⟨.mov (.c (.i .i64 0)),some 2,none⟩] none) (.seq (.seq (.reg [⟨.mov (.s 0),none,none⟩,⟨.len 1 (.l 0),some 6,none⟩,⟨.mov (.c (.i .i64 0)),some 5,none⟩] none) (.block 0 (.loop (yK w agg)))) (.seq (.reg [⟨.mov (.c (.i .i64 (-1))),some 2,none⟩] none) .ret))),false,false,none,false,none⟩
def yL(g:FuncId):aH:=⟨2,3,[.s 2],(.seq (.reg [⟨.mov (.c (.b false)),some 2,none⟩] none) (.seq (.reg [⟨.mov (.s 0),none,none⟩,⟨.mov (.s 1),none,none⟩,⟨.call g [(.l 0),(.l 1)],none,none⟩,⟨.bin .geq (.l 2) (.c (.i .i64 0)),none,none⟩,⟨.mov (.l 3),some 2,none⟩] none) .ret)),false,false,none,false,none⟩
section
variable{α:Type}[Inhabited α]{V:au}{f h g:FuncId}{w:Nat}{agg:Bool}{enc:α->List D}{key:α->D}{l:List α}{x:D}{H:ab}{cp:List D}{p:α->Bool}
def ZC(j:V.fn f=some (sX w agg))(c:Sl w (l.map enc) x)(v:l.length<4611686018427387904)(k:∀a,(enc a).length=w)(m:∀a,val agg (enc a)=some (key a))(y:g<4294967295)(n:∀a K,ac V g (key a::cp) H K↔K (.ret (.b (p a)) H))(o:V.ext f [x,.fn (.func g) [] cp] H=none:=by first|rfl|assumption):ac V f [x,.fn (.func g) [] cp] H (λr=>∃i:Int,r=.ret (.i .i64 i) H/\decide (0<=i)=l.any p):=by refine .body j rfl rfl ?_ o;simp[go_sem,sX,c.n];refine ak.up (λi s=>qL p l i/\∃d e h,s=⟨[x,.fn _ [] cp,.i .i64 0,d,e,.i .i64 i,.i .i64 _,h],H⟩) l.length ⟨CZ,.u,.u,.u,rfl⟩ ?_;rintro i s hi⟨q,d,e,h,rfl⟩;have t:∀a,(enc a).take w=enc a:=λa=>E4 (by grind);simp(disch:=omega)only[go_sem,Int.reduceLE,yK,c.q,k,t,m,n,wr,C0,q];grind[C1,ZB]
def mj(c:V.fn f=some (yL h))(d:V.fn h=some (sX w agg))(e:Sl w (l.map enc) x)(j:l.length<4611686018427387904)(k:∀a,(enc a).length=w)(m:∀a,val agg (enc a)=some (key a))(n:g<4294967295)(o:∀a K,ac V g (key a::cp) H K↔K (.ret (.b (p a)) H))(q:V.ext f [x,.fn (.func g) [] cp] H=none:=by first|rfl|assumption)(s:V.ext h [x,.fn (.func g) [] cp] H=none:=by first|rfl|assumption){K:CR->Prop}:ac V f [x,.fn (.func g) [] cp] H K↔K (.ret (.b (l.any p)) H):=by refine cC (bI.iff_q.2 (.body c rfl rfl ?_ q));simp[go_sem,yL];refine(ZC d e j k m n o s).mono ?_;rintro r⟨i,rfl,hi⟩;simp[go_sem,hi]
end
end
section
def ds(B n:Nat):List Nat:=if h:n=0\/B<2 then[]else n%B::ds B (n/B)termination_by n decreasing_by exact ABS (by omega) (by omega)
def vl(B:Nat):List Nat->Nat|[]=>0|a::l=>a+B*vl B l
def lm(B:Nat)(l:List Nat):Prop:=∀a∈l,a<B
def tp(l:List Nat):Prop:=l≠[]->l[l.length-1]!≠0
section
variable{B:Nat}
theorem cz:ds B 0=[]:=by grind[ds]
theorem kU{n:Nat}(a:2<=B)(h:n≠0):ds B n=n%B::ds B (n/B):=by grind[ds]
theorem bX(a:2<=B)(n:Nat):vl B (ds B n)=n:=by induction n using Nat.strongRecOn with|ind n b=>
 by_cases h:n=0;·rw[h,cz];rfl
 rw[kU a h,vl,b _ (ABS (by omega) (by omega))];exact vd n B
theorem l9:lm B []:=λ_ h=>by cases h
def mP{a:Nat}{l:List Nat}:lm B (a::l)↔a<B/\lm B l:=List.forall_mem_cons
def cH(a:2<=B)(n:Nat):lm B (ds B n):=by induction n using Nat.strongRecOn with|ind n b=>
 by_cases h:n=0;·grind[cz,l9]
 rw[kU a h,mP];exact⟨ma _ (by omega),b _ (ABS (by omega) (by omega))⟩
def Co{l m:List Nat}:lm B (l++m)↔lm B l/\lm B m:=List.forall_mem_append
theorem fN{l:List Nat}(h:lm B l)(i:Nat):lm B (l.take i):=λa b=>h a (AAW b)
def xW{l:List Nat}(h:lm B l)(i:Nat):lm B (l.drop i):=λa b=>h a (AAX b)
variable{x:Nat}
def gZ{l:List Nat}(h:lm B l){v:Nat}(d:v<B):lm B (l.set x v):=λa c=>by
 rcases List.mem_or_eq_of_mem_set c with b|b;·exact h a b
 omega
def cI{l:List Nat}(h:lm B l){i:Nat}(hi:i<l.length):l[i]!<B:=by rw[K0 l i hi];exact h _ (kv hi)
def p9{k v:Nat}(b:v<B):lm B (List.replicate k v):=λa c=>by grind
def dv(b:2<=B):∀{l:List Nat},lm B l->vl B l<B^l.length|[],_=>by simp[vl]|a::l,h=>by have c:=mP.1 h;have d:=dv b c.2;rw[vl,fD,me];have:B*(vl B l+1)<=B*B^l.length:=eu _ d;grind
theorem sk{l m:List Nat}:vl B (l++m)=vl B l+B^l.length*vl B m:=by induction l with|nil=>simp[vl]|cons a l b=>grind[vl]
theorem uL(k:Nat):vl B (List.replicate k 0)=0:=by induction k<;>grind[vl]
theorem eC(l:List Nat)(i:Nat)(hi:i<=l.length):vl B l=vl B (l.take i)+B^i*vl B (l.drop i):=by have:=sk (B:=B) (l:=l.take i) (m:=l.drop i);simp_all
theorem xX{l:List Nat}{i:Nat}(hi:i<l.length):l.drop i=l[i]!::l.drop (i+1):=by simp_all
theorem ft{l:List Nat}{i:Nat}(hi:i<l.length):vl B (l.take (i+1))=vl B (l.take i)+B^i*l[i]!:=by rw[za hi,sk,fL,vn (by omega),K0 l i hi];simp[vl]
theorem dw{l:List Nat}(hi:x<l.length):vl B (l.drop x)=l[x]!+B*vl B (l.drop (x+1)):=by rw[xX hi,vl]
theorem jC{l:List Nat}{i v:Nat}(hi:i<l.length):vl B (l.set i v)+B^i*l[i]! =vl B l+B^i*v:=by
 have a:l.set i v=l.take i++v::l.drop (i+1):=by rw[ABH,G1 hi]
 grind[xX,vl,sk,eC,dw]
def so(e:2<=B){l:List Nat}{k c:Nat}(h:vl B l<B^k*c)(b:k<l.length):l[k]!<c:=by have d:=eC (B:=B) l k (by omega);rw[dw b]at d;have f:B^k*l[k]!<=B^k*(l[k]!+B*vl B (l.drop (k+1))):=eu _ (by omega);exact AAY (a:=B^k) (by omega)
theorem uM(c:2<=B):∀{l:List Nat},lm B l->tp l->ds B (vl B l)=l
 |[],_,_=>by rw[vl,cz]|a::l,h,g=>by
  have d:=mP.1 h;have i:tp l:=λm=>by have:=g (by simp);grind
  have j:=uM c d.2 i;have k:vl B (a::l)≠0:=by rw[vl];cases l with|nil=>have:=g (by simp);grind|cons b l=>
   intro e;have n:vl B (b::l)=0:=by
    rcases wN (vl B (b::l))with f|f;·exact f
    have:=oz (c) f;omega
   grind[cz]
  rw[kU c k,vl,AA4,oa d.1,AAG _ _ (by omega),AAe d.1,i4,j]
theorem kV{n:Nat}(a:2<=B)(h:n≠0):ds B n≠[]:=by grind[kU]
def sq(c:2<=B)(n:Nat):tp (ds B n):=by induction n using Nat.strongRecOn with|ind n f=>
 by_cases h:n=0;·rw[h,cz];exactλh=>absurd rfl h
 rw[kU c h];intro _;by_cases d:n/B=0
 ·rw[d,cz];have:n<B:=by
   rcases hM n B with b|b;·exact b
   have:=ACW b (by omega);omega
  simpa[oa this]using h
 have b:=f _ (ABS (by omega) (by omega)) (kV c d);cases e:ds B _ with|nil=>exact absurd e (kV c d)|cons a l=>rw[e]at b;simpa using b
def mQ(a:2<=B){n k:Nat}:(ds B n).length<=k↔n<B^k:=by
 constructor;·intro h;have:=dv a (cH a n);rw[bX a]at this;exact em this (nG (by omega) h)
 intro h;rcases hM k (ds B n).length with b|b;·have f:=sq a n (λe=>by rw[e]at b;simp at b);have c:=bX a n;have d:=eC (B:=B) (ds B n) ((ds B n).length-1) (by omega);rw[c,dw (by omega)]at d;have g:B^k<=B^((ds B n).length-1):=nG (by omega) (by omega);have i:B^((ds B n).length-1)*1<=B^((ds B n).length-1)*((ds B n)[(ds B n).length-1]!+B*vl B ((ds B n).drop ((ds B n).length-1+1))):=eu _ (by omega);omega
 exact b
def kj(a:2<=B){m n:Nat}(h:m<=n):(ds B m).length<=(ds B n).length:=(mQ a).2 (hO h ((mQ a).1 (Hk _)))
theorem uN(a:2<=B){m n:Nat}(h:ds B m=ds B n):m=n:=by grind[bX]
def xY(a:2<=B){l:List Nat}{k:Nat}(h:lm B l)(b:k<=l.length)(c:vl B (l.drop k)=0)(d:tp (l.take k)):ds B (vl B l)=l.take k:=by grind[eC,uM,fN]
def Mi(a:2<=B){l m:List Nat}(b:lm B l)(hi:x<l.length)(f:l.length=m.length)(c:l.drop (x+1)=m.drop (x+1))(h:l[x]!<m[x]!):vl B l<vl B m:=by
 have d:=eC (B:=B) l x (by omega);have e:=eC (B:=B) m x (by omega);rw[dw hi]at d;rw[dw (by omega),<-c]at e;have g:vl B (l.take x)<B^x:=by have:=dv a (fN b x);grind
 have i:B^x*(l[x]!+1)<=B^x*m[x]!:=eu _ h;grind
end
def Mj{B:Nat}:∀{l:List Nat},(∀a∈l,a=0)->vl B l=0|[],_=>rfl|a::l,h=>by rw[vl,h a N2,Mj (λb c=>h b (K2 _ c))];omega
theorem Yv{B c:Nat}{l:List Nat}(h:∀k,c<=k->k<l.length->l[k]! =0):vl B (l.drop c)=0:=Mj λa b=>by obtain⟨i,hi,rfl⟩:=kh.1 b;simp_all
def u32(a:Nat):List D:=[.i .u32 (a:Int)]
def aJ(a:Nat):List D:=[.i .u16 (a:Int)]
structure bc(n:Nat)(x:D):Prop where sl:Sl 1 ((ds 4294967296 n).map u32) x
structure eL(n:Nat)(x:D):Prop where sl:Sl 1 ((ds 65536 n).map aJ) x
def ay:2<=4294967296:=by omega
def bY:2<=65536:=by omega
end
section
def kW(d:D)(lo hi:Nat):D:=match d with|.im w rows=>.im w ((rows.drop lo).take (hi-lo))|d=>d
def Sl.slC{w:Nat}{rows:List (List D)}{d:D}(h:Sl w rows d)(lo hi:Nat):Sl w ((rows.drop lo).take (hi-lo)) (kW d lo hi):=by cases h with|nil h=>subst h;exact .nil (by simp)|z h=>subst h;exact .z (by simp)|im=>exact .im
def Sl.slM{α:Type}{enc:α->List D}{l:List α}{w:Nat}{d:D}(h:Sl w (l.map enc) d)(lo hi:Nat):Sl w (((l.drop lo).take (hi-lo)).map enc) (Dm.kW d lo hi):=by have:=h.slC lo hi;simp_all
def Sl.slT{α:Type}{enc:α->List D}{l:List α}{w:Nat}{d:D}(h:Sl w (l.map enc) d)(hi:Nat):Sl w ((l.take hi).map enc) (Dm.kW d 0 hi):=by have:=h.slM 0 hi;grind
section
variable{V:au}{Q:Ex->St->Prop}{dr:Option (Bs×Bool)}{os:List ae}{keep:Option Nat}{loc sl sl':List D}{H H':ab}{w:Nat}{α:Type}{enc:α->List D}{l:List α}{d:D}{k k':IntKind}{x y:Int}
def Sl.sD(h:Sl w (l.map enc) d){lo hi:Option D}{a b:Nat}(c:db lo hi l.length l.length=some (a,b)):dc H w d lo hi none=some (Dm.kW d a b):=by
 cases h with|nil h=>
 have:l=[]:=by simpa using h
 subst this;simp only[kx]at c;simp only[dc,c,Dm.kW]|z h=>
 have:l=[]:=by simpa using h
 subst this;simp only[kx]at c;simp only[dc,c,Dm.kW]|im=>simp only[dc,S2,c,decide_true,Dm.kW]
def Sl.sN(h:Sl w (l.map enc) d){lo hi:Option D}(a:db lo hi l.length l.length=none):dc H w d lo hi none=none:=by
 cases h with|nil h=>
 have:l=[]:=by simpa using h
 subst this;simp only[kx]at a;simp only[dc,a]|z h=>
 have:l=[]:=by simpa using h
 subst this;simp only[kx]at a;simp only[dc,a]|im=>simp only[dc,S2,a,decide_true]
def Sl.hi(h:Sl w (l.map enc) d):aD V dr os keep loc sl Q (aA ⟨sl',H⟩ (dc H' w d none (some (.i k x)) none))↔(0<=x/\x<=l.length)/\aD V dr os keep loc sl Q (.v (Dm.kW d 0 x.toNat) ⟨sl',H⟩):=by
 by_cases c:0<=x/\x<=l.length;·rw[h.sD (a:=0) (b:=x.toNat) (by grind[db,gM,fw])];grind[aA]
 rw[h.sN (by grind[db,gM,fw])];grind[aA,aD]
end
@[go_sem]def asK:(true !=false)=true:=rfl
@[go_sem]def asL:(false !=false)=false:=rfl
@[go_sem]def asM:(true !=true)=false:=rfl
@[go_sem]def asN:(false !=true)=true:=rfl
@[go_sem]def asO:(true==false)=false:=rfl
@[go_sem]def asP:(false==false)=true:=rfl
@[go_sem]def asQ:(true==true)=true:=rfl
@[go_sem]def asR:(false==true)=false:=rfl
@[go_sem]def asS{a:Nat}:eM [a]=true:=rfl
@[go_sem]def asT:fS []=.tu []:=rfl
def qc(a n off len w:Nat)(lo hi:Option D):Option (Nat×List (List D)×Option Nat×Bool×Bool)->Option D
 |some (w',_,_,_,_)=>match decide (w'=w),db lo hi len (n-off)with|true,some (k,h)=>some (.mu a n (off+k) (h-k))|_,_=>none
 |none=>none
@[go_sem]def asU{H:ab}{w a n off len:Nat}{lo hi:Option D}:dc H w (.mu a n off len) lo hi none=qc a n off len w lo hi (aK H a n):=by simp[dc,qc];grind
section
variable{V:au}{Q:Ex->St->Prop}{dr:Option (Bs×Bool)}{os:List ae}{keep:Option Nat}{loc sl sl':List D}{H:ab}{a n off len w:Nat}{k k':IntKind}{x y:Int}{rows:List (List D)}{cap:Option Nat}{p lk:Bool}
@[go_sem]def asV:aD V dr os keep loc sl Q (aA ⟨sl',H⟩ (qc a n off len w none (some (.i k x)) (some (w,rows,cap,p,lk))))↔(0<=x/\x<=(n-off:Nat))/\aD V dr os keep loc sl Q (.v (.mu a n off x.toNat) ⟨sl',H⟩):=by
 by_cases b:0<=x/\x<=(n-off:Nat);·simp_all[db,gM,fw,qc,aA]
 grind[db,gM,fw,qc,aA,aD]
@[go_sem]def asW:aD V dr os keep loc sl Q (aA ⟨sl',H⟩ (qc a n off len w (some (.i k x)) (some (.i k' y)) (some (w,rows,cap,p,lk))))↔(0<=x/\x<=y/\y<=(n-off:Nat))/\aD V dr os keep loc sl Q (.v (.mu a n (off+x.toNat) (y.toNat-x.toNat)) ⟨sl',H⟩):=by grind[db,gM,fw,qc,aA,aD]
end
def xZ(a n w:Nat)(b:D):Option an->Option D
 |some (.ar w' rows (some _) _ _)=>match eG b n with|some j=>if w'=w/\rows.length=n then some (.ap a n j 0)else none|none=>none
 |_=>none
@[go_sem]def asX{H:ab}{a n w:Nat}{c:D}:mg H (.aa a) c n w=xZ a n w c H[a]?:=by simp[mg];cases d:eG c n<;>cases h:H[a]? with|none=>rfl|some b=>cases b with|ar w' rows cap p lk=>cases cap<;>simp[xZ,d]|_=>rfl
def x7(a n w:Nat)(lo hi:Option D):Option an->Option D|some (.ar w' rows (some c) _ false)=>if w'=w/\rows.length=n/\c=n then match db lo hi n n with|some (k,h)=>some (.mu a n k (h-k))|none=>none else none|_=>none
@[go_sem]def asY{H:ab}{a n w:Nat}{lo hi:Option D}:qC H (.aa a) n w lo hi=x7 a n w lo hi H[a]?:=by grind[qC,x7]
section
variable{V:au}{Q:Ex->St->Prop}{dr:Option (Bs×Bool)}{os:List ae}{keep:Option Nat}{loc sl sl':List D}{H:ab}{a n w c:Nat}{k:IntKind}{x:Int}{rows:List (List D)}{p lk:Bool}
@[go_sem]def asZ:aD V dr os keep loc sl Q (aA ⟨sl',H⟩ (xZ a n w (.i k x) (some (.ar w rows (some c) p lk))))↔rows.length=n/\(0<=x/\x<n)/\aD V dr os keep loc sl Q (.v (.ap a n x.toNat 0) ⟨sl',H⟩):=by grind[xZ,eG,aA,aD]
@[go_sem]def as0:aD V dr os keep loc sl Q (aA ⟨sl',H⟩ (x7 a n w none (some (.i k x)) (some (.ar w rows (some c) p false))))↔(rows.length=n/\c=n)/\(0<=x/\x<=n)/\aD V dr os keep loc sl Q (.v (.mu a n 0 x.toNat) ⟨sl',H⟩):=by grind[db,gM,fw,x7,aA,aD]
end
section
variable{V:au}{f:FuncId}{args:List D}
def aE.ex{P:D->Prop}(h:aE V f args (λr=>∃d,r=.ret d/\P d)):∃d,ai V f args d/\P d:=by obtain⟨n,c,d,a,b⟩:=h;exact⟨d,⟨n,a⟩,b⟩
def ac.fzr{a:aH}(b:V.fn f=some a)(c:a.pure=true)(e:a.own=false){H:ab}{K:CR->Prop}{ds:List D}{d:D}(h:ai V f ds d)(g:∃H1,aX bE H args=some (ds,H1))(i:∀H',K (.ret d H')):ac V f args H K:=ac.fz b c e g ((ai.iff_q.1 h).mono (λr hr=>by subst hr;exact i))
end
end
end Go.Dm
namespace Go.Proofs.YtekgndcflpklkaaGreatDoor.Dv
section
open Go.Dm
set_option maxRecDepth 10000
def lX:List D->Bool|.s _::.s _::.i .i64 _::.i .i64 _::.i .i64 _::.b _::r=>r.length==18|_=>false
def tI:List D->List UInt8|.s n::_=>n|_=>[]
def rV:List D->List UInt8|_::.s n::_=>n|_=>[]
def LN:List D->Int|_::_::.i _ n::_=>n|_=>0
def LO:List D->Int|_::_::_::.i _ n::_=>n|_=>0
def B1:List D->Int|_::_::_::_::.i _ n::_=>n|_=>0
def jx:List D->Bool|_::_::_::_::_::.b x::_=>x|_=>false
def pT(b:List UInt8)(a c:Int)(r:List D):Bool:=tI r==b&&decide (LN r<=a)&&decide (a<LO r)&&decide (B1 r<=c)
def jy(l:List UInt8):List (List UInt8×Nat)->Option Nat|[]=>none|(k,i)::m=>if l=k then some i else jy l m
def iw(l:List UInt8)(i:Nat):List (List UInt8×Nat)->List (List UInt8×Nat)|[]=>[(l,i)]|(k,j)::m=>if l=k then(l,i)::m else(k,j)::iw l i m
def iy(rows:List (List D))(a:List UInt8)(b c:Int)(m:List (List UInt8×Nat))(i:Nat):List (List UInt8×Nat):=if pT a b c rows[i]! then match jy (rV rows[i]!) m with|none=>iw (rV rows[i]!) i m|some j=>if B1 rows[j]!<=B1 rows[i]! then iw (rV rows[i]!) i m else m else m
def cr(rows:List (List D))(a:List UInt8)(b c:Int):Nat->List (List UInt8×Nat)|0=>[]|n+1=>iy rows a b c (cr rows a b c n) n
def kQ(x:Int):List Int->List Int|[]=>[x]|y::l=>if x<=y then x::y::l else y::kQ x l
def cG:List Int->List Int|[]=>[]|x::l=>kQ x (cG l)
def aW(x:Int):List D:=[.i .i64 x]
def eV(rows:List (List D))(a:List UInt8)(b c:Int):List Int:=cG (((cr rows a b c rows.length).filter λq=>!jx rows[q.2]!).map λq=>(q.2:Int))
def du(w:Nat)(rows:List (List D)):D:=match rows with|[]=>.nil|r::a=>.im w (r::a)
def rW(rows:List (List D))(a:List UInt8)(b c:Int):Option D:=if rows.all lX=true/\rows.length<1099511627776 then some (du 1 ((eV rows a b c).map aW))else none
def eW:D->Bool|.s _=>true|.nil=>true|.z=>true|.im _ _=>true|_=>false
def xy:List D->Option D|[.ag [e,f,g,c],.s a,.i .i64 b,.i .i64 d]=>if eW e&&eW f&&eW g then match c with|.nil=>rW [] a b d|.z=>rW [] a b d|.im w rows=>if w=24 then rW rows a b d else none|_=>none else none|_=>none
def nX:List (List D)->Option (List Int)
 |[]=>some []|[.i .i64 x]::r=>match nX r with|some l=>some (x::l)|none=>none
 |_=>none
def rX(a n b len:Nat)(H:ab):Option (D×ab):=match aK H a n with|some (1,rows,cap,p,false)=>if b=0/\len=n/\0<n/\n<1099511627776 then match nX rows with|some l=>some (.tu [],H.set a (.ar 1 ((cG l).map aW) cap p false))|none=>none else none|_=>none
def bZ:List Int->List Int|[]=>[]|x::l=>match bZ l with|[]=>[x]|y::r=>if x=y then y::r else x::y::r
def xz(a n b len:Nat)(H:ab):Option (D×ab):=match aK H a n with|some (1,rows,cap,p,false)=>if b=0/\len=n/\0<n/\n<1099511627776 then match nX rows with|some l=>some (.mu a n 0 (bZ l).length,H.set a (.ar 1 ((bZ l++List.replicate (n-(bZ l).length) 0).map aW) cap p false))|none=>none else none|_=>none
def axx(a n b len:Nat)(H:ab):Option (D×ab):=match aK H a n with|some (11,rows,_,true,true)=>if b=0/\len=n/\0<n/\n<70368744177664 then some (.mu H.length n 0 n,H++[.ar 11 rows (some n) true true])else none|_=>none
def bB(p:Int×Int):List D:=[.i .i64 p.1,.i .i64 p.2]
def xA:List D->Option (Int×Int)|[.i .i64 a,.i .i64 b]=>some (a,b)|_=>none
def B2(x y:Int×Int):Int:=Lib.compareInt x.1 y.1
def uB(x y:Int×Int):Bool:=decide (B2 x y<0)
def nY(d:Array (Int×Int)):Array (Int×Int):=Go.Sort.pdq uB d 0 d.size (Lib.bitLen d.size) true true
def j8(l:List (Int×Int)):List (Int×Int):=(nY l.toArray).toList
def B3(a n b len:Nat)(H:ab):Option (D×ab):=match aK H a n with|some (2,rows,cap,true,false)=>if b=0/\len=n/\0<n/\n<4611686018427387904 then match je xA rows with|some l=>some (.tu [],H.set a (.ar 2 ((j8 l).map bB) cap true false))|none=>none else none|_=>none
def LQ:Nat:=1000000000
def xB(s t:List UInt8)(H:ab):Option (D×ab):=if s.length<LQ then some (.tu [.s (Lib.cut s t).1,.s (Lib.cut s t).2.1,.b (Lib.cut s t).2.2],H)else none
def pU(f:FuncId)(args:List D)(H:ab):Option (D×ab):=if f=150 then match args with|[.s s,.s t]=>xB s t H|_=>none else if f=149 then match args with|[.nil]=>some (.tu [],H)|[.mu a n b len]=>rX a n b len H|_=>none else if f=305 then match args with|[.nil]=>some (.nil,H)|[.mu a n b len]=>xz a n b len H|_=>none else if f=88 then match args with|[.nil,.fn (.func 89) [] []]=>some (.tu [],H)|[.mu a n b len,.fn (.func 89) [] []]=>B3 a n b len H|_=>none else none
def V1:au:=Vx pU (λ_ _=>none)
def LS(f:FuncId)(ds:List D):Option D:=if f=103 then xy ds else none
def VS:au:=Vx pU LS
theorem uC(x y:Int×Int):uB x y=decide (x.1<y.1):=by
 unfold uB B2 Lib.compareInt;by_cases a:x.1<y.1;·simp[a]
 by_cases b:y.1<x.1<;>simp[a,b]
def aqV(d:Array (Int×Int)):Go.Sort.PermIn 0 d.size d (nY d)/\Go.Sort.SortedIn uB 0 d.size (nY d):=Go.Sort.pdq_sorts uB ⟨λx=>by simp[uC],λx y q a b=>by simp[uC]at*;omega,λx y q a b=>by simp[uC]at*;omega⟩ d 0 d.size (Lib.bitLen d.size) true true (AAs _) (Hk _) (Or.inl rfl)
def XP:∀l:List (Int×Int),je xA (l.map bB)=some l|[]=>rfl|(a,b)::l=>by have:=XP l;simp only[fA,je,bB,xA]at this⊢;simp only[this]
def B4(l:List (Int×Int)):(j8 l).Perm l:=by
 obtain⟨b,_,a⟩:=(aqV l.toArray).1;have c:(nY l.toArray).extract 0 l.toArray.size=nY l.toArray:=by rw[<-b];simp
 have d:l.toArray.extract 0 l.toArray.size=l.toArray:=by simp
 rw[c,d]at a;exact a
end
section
open Go.Dm
def fn3:VS.fn 3=some v3:=by kernel_rfl
def fn4:VS.fn 4=some v4:=by kernel_rfl
def fn5:VS.fn 5=some v5:=by kernel_rfl
def vY:VS.fn 7=some v7:=by kernel_rfl
def D4:VS.fn 8=some v8:=by kernel_rfl
def vZ:VS.fn 9=some v9:=by kernel_rfl
def qW:VS.fn 10=some xb:=by kernel_rfl
def D5:VS.fn 11=some GH:=by kernel_rfl
def zD:VS.fn 12=some GI:=by kernel_rfl
def D6:VS.fn 13=some GJ:=by kernel_rfl
def D7:VS.fn 14=some GK:=by kernel_rfl
def Po:VS.fn 16=some GM:=by kernel_rfl
def Pp:VS.fn 17=some GS:=by kernel_rfl
def Pq:VS.fn 18=some GT:=by kernel_rfl
def D8:VS.fn 19=some Bc:=by kernel_rfl
def Pr:VS.fn 22=some UU:=by kernel_rfl
def Pt:VS.fn 23=some GV:=by kernel_rfl
def Pu:VS.fn 24=some GW:=by kernel_rfl
def agf:VS.fn 25=some GX:=by kernel_rfl
def agh:VS.fn 26=some GY:=by kernel_rfl
def agi:VS.fn 27=some G0:=by kernel_rfl
def agj:VS.fn 28=some G4:=by kernel_rfl
def Pv:VS.fn 29=some G5:=by kernel_rfl
def agk:VS.fn 30=some G6:=by kernel_rfl
def agl:VS.fn 31=some UX:=by kernel_rfl
def agm:VS.fn 32=some G7:=by kernel_rfl
def Pw:VS.fn 33=some G8:=by kernel_rfl
def Px:VS.fn 34=some G9:=by kernel_rfl
def agn:VS.fn 35=some U6:=by kernel_rfl
def ago:VS.fn 36=some Ha:=by kernel_rfl
def agp:VS.fn 37=some Hd:=by kernel_rfl
def agq:VS.fn 38=some U8:=by kernel_rfl
def agr:VS.fn 39=some He:=by kernel_rfl
def ags:VS.fn 40=some Va:=by kernel_rfl
def agt:VS.fn 41=some Hf:=by kernel_rfl
def Py:VS.fn 42=some Vb:=by kernel_rfl
def agu:VS.fn 43=some Hg:=by kernel_rfl
def v6:VS.fn 44=some Hh:=by kernel_rfl
def Pz:VS.fn 45=some Be:=by kernel_rfl
def PB:VS.fn 46=some Hj:=by kernel_rfl
def PC:VS.fn 48=some Hl:=by kernel_rfl
def PD:VS.fn 51=some Hm:=by kernel_rfl
def PE:VS.fn 52=some Hn:=by kernel_rfl
def zE:VS.fn 53=some Ho:=by kernel_rfl
def D9:VS.fn 54=some Hp:=by kernel_rfl
def zF:VS.fn 55=some Hu:=by kernel_rfl
def PF:VS.fn 56=some Hv:=by kernel_rfl
def PG:VS.fn 57=some Hw:=by kernel_rfl
def PH:VS.fn 58=some Vj:=by kernel_rfl
def PI:VS.fn 59=some Hz:=by kernel_rfl
def wb:VS.fn 60=some HD:=by kernel_rfl
def zG:VS.fn 61=some pJ:=by kernel_rfl
def agv:VS.fn 62=some HI:=by kernel_rfl
def PJ:VS.fn 64=some HJ:=by kernel_rfl
def agw:VS.fn 65=some HK:=by kernel_rfl
def agx:VS.fn 66=some HL:=by kernel_rfl
def agy:VS.fn 67=some Vn:=by kernel_rfl
def PL:VS.fn 68=some HM:=by kernel_rfl
def agz:VS.fn 69=some Vo:=by kernel_rfl
def agA:VS.fn 70=some Vp:=by kernel_rfl
def agB:VS.fn 71=some Vq:=by kernel_rfl
def PM:VS.fn 72=some Vr:=by kernel_rfl
def agC:VS.fn 73=some HO:=by kernel_rfl
def agD:VS.fn 74=some HP:=by kernel_rfl
def PN:VS.fn 75=some HQ:=by kernel_rfl
def PO:VS.fn 76=some HS:=by kernel_rfl
def agE:VS.fn 77=some HT:=by kernel_rfl
def PP:VS.fn 78=some HU:=by kernel_rfl
def Ea:VS.fn 79=some HV:=by kernel_rfl
def nB:VS.fn 82=some HX:=by kernel_rfl
def PQ:VS.fn 83=some HZ:=by kernel_rfl
def Eb:VS.fn 84=some H8:=by kernel_rfl
def Ec:VS.fn 85=some Ia:=by kernel_rfl
def agF:VS.fn 86=some Ib:=by kernel_rfl
def PT:VS.fn 87=some Id:=by kernel_rfl
def PU:VS.fn 90=some Ie:=by kernel_rfl
def PV:VS.fn 91=some If:=by kernel_rfl
def agG:VS.fn 92=some Ig:=by kernel_rfl
def agH:VS.fn 93=some Ih:=by kernel_rfl
def qX:VS.fn 94=some Ij:=by kernel_rfl
def Ed:VS.fn 95=some Ik:=by kernel_rfl
def PW:VS.fn 96=some Il:=by kernel_rfl
def PX:VS.fn 97=some Im:=by kernel_rfl
def PY:VS.fn 99=some In:=by kernel_rfl
def Ee:VS.fn 102=some Io:=by kernel_rfl
theorem PZ:VS.fn 103=some Bj:=by kernel_rfl
def agI:VS.fn 104=some Ip:=by kernel_rfl
def oZ:VS.fn 105=some Iq:=by kernel_rfl
def P0:VS.fn 106=some Ir:=by kernel_rfl
def agJ:VS.fn 107=some Is:=by kernel_rfl
def jn:VS.fn 108=some It:=by kernel_rfl
def P1:VS.fn 109=some Iv:=by kernel_rfl
def Ef:VS.fn 110=some Iw:=by kernel_rfl
def tM:VS.fn 111=some Iy:=by kernel_rfl
def Eg:VS.fn 112=some IA:=by kernel_rfl
def Eh:VS.fn 113=some IB:=by kernel_rfl
def zH:VS.fn 114=some ID:=by kernel_rfl
def wc:VS.fn 124=some rR:=by kernel_rfl
def P2:VS.fn 126=some IE:=by kernel_rfl
def agK:VS.fn 128=some VT:=by kernel_rfl
def P3:VS.fn 129=some II:=by kernel_rfl
def agL:VS.fn 130=some IK:=by kernel_rfl
def P4:VS.fn 131=some IL:=by kernel_rfl
def P5:VS.fn 132=some IM:=by kernel_rfl
def agM:VS.fn 133=some IN:=by kernel_rfl
def we:VS.fn 134=some IO:=by kernel_rfl
def zI:VS.fn 135=some IP:=by kernel_rfl
def nC:VS.fn 136=some IQ:=by kernel_rfl
def qY:VS.fn 137=some IS:=by kernel_rfl
def P6:VS.fn 138=some IT:=by kernel_rfl
def zJ:VS.fn 139=some IU:=by kernel_rfl
def o5:VS.fn 140=some IV:=by kernel_rfl
def P7:VS.fn 141=some IX:=by kernel_rfl
def wg:VS.fn 142=some Bn:=by kernel_rfl
def P8:VS.fn 143=some IY:=by kernel_rfl
def agN:VS.fn 151=some IZ:=by kernel_rfl
def agO:VS.fn 152=some I1:=by kernel_rfl
def agP:VS.fn 153=some I2:=by kernel_rfl
def P9:VS.fn 154=some I3:=by kernel_rfl
def agQ:VS.fn 155=some I5:=by kernel_rfl
def agR:VS.fn 156=some I6:=by kernel_rfl
def tN:VS.fn 157=some I7:=by kernel_rfl
def tO:VS.fn 158=some I9:=by kernel_rfl
def Qa:VS.fn 159=some Ja:=by kernel_rfl
def zK:VS.fn 160=some ut:=by kernel_rfl
def Qb:VS.fn 161=some Jc:=by kernel_rfl
def qZ:VS.fn 162=some Je:=by kernel_rfl
def nD:VS.fn 163=some Jf:=by kernel_rfl
def wh:VS.fn 164=some Bp:=by kernel_rfl
def o6:VS.fn 165=some Jh:=by kernel_rfl
def q8:VS.fn 166=some Ji:=by kernel_rfl
def zL:VS.fn 167=some xm:=by kernel_rfl
def nE:VS.fn 168=some Jk:=by kernel_rfl
def Ei:VS.fn 169=some Jl:=by kernel_rfl
def Ej:VS.fn 170=some Jm:=by kernel_rfl
def zM:VS.fn 171=some Jn:=by kernel_rfl
def zN:VS.fn 172=some Jo:=by kernel_rfl
def Qc:VS.fn 173=some Jp:=by kernel_rfl
def mw:VS.fn 174=some Jq:=by kernel_rfl
def Qd:VS.fn 175=some Br:=by kernel_rfl
def lI:VS.fn 176=some Js:=by kernel_rfl
def Qe:VS.fn 180=some Bt:=by kernel_rfl
def Qf:VS.fn 181=some Bu:=by kernel_rfl
def wi:VS.fn 182=some Bv:=by kernel_rfl
def Qg:VS.fn 183=some Jt:=by kernel_rfl
def agS:VS.fn 184=some Ju:=by kernel_rfl
def Qh:VS.fn 185=some Jv:=by kernel_rfl
def Qi:VS.fn 186=some Jw:=by kernel_rfl
def q9:VS.fn 187=some By:=by kernel_rfl
def Qj:VS.fn 188=some Jy:=by kernel_rfl
def Qk:VS.fn 189=some JA:=by kernel_rfl
def agT:VS.fn 190=some Bz:=by kernel_rfl
def agU:VS.fn 191=some JB:=by kernel_rfl
def Ql:VS.fn 192=some BA:=by kernel_rfl
def agV:VS.fn 193=some JC:=by kernel_rfl
def Ek:VS.fn 194=some JD:=by kernel_rfl
def agW:VS.fn 195=some JE:=by kernel_rfl
def zO:VS.fn 196=some JF:=by kernel_rfl
def agX:VS.fn 197=some JG:=by kernel_rfl
def agY:VS.fn 198=some BD:=by kernel_rfl
def El:VS.fn 199=some JH:=by kernel_rfl
def Em:VS.fn 200=some JI:=by kernel_rfl
def Qm:VS.fn 201=some JK:=by kernel_rfl
def Eo:VS.fn 202=some JL:=by kernel_rfl
def gQ:VS.fn 203=some JM:=by kernel_rfl
def Ep:VS.fn 204=some JN:=by kernel_rfl
def Eq:VS.fn 205=some JO:=by kernel_rfl
def tP:VS.fn 206=some JP:=by kernel_rfl
def tQ:VS.fn 207=some JQ:=by kernel_rfl
def agZ:VS.fn 208=some JR:=by kernel_rfl
def o7:VS.fn 209=some JS:=by kernel_rfl
def re:VS.fn 210=some JT:=by kernel_rfl
def Er:VS.fn 211=some JU:=by kernel_rfl
def Qn:VS.fn 212=some JV:=by kernel_rfl
def kG:VS.fn 213=some JW:=by kernel_rfl
def wj:VS.fn 214=some JX:=by kernel_rfl
def Qo:VS.fn 215=some J0:=by kernel_rfl
def zP:VS.fn 216=some J1:=by kernel_rfl
def wk:VS.fn 217=some J3:=by kernel_rfl
def Es:VS.fn 218=some J4:=by kernel_rfl
def Qp:VS.fn 219=some J5:=by kernel_rfl
def Qq:VS.fn 230=some BI:=by kernel_rfl
def Et:VS.fn 231=some xr:=by kernel_rfl
def Qr:VS.fn 232=some WJ:=by kernel_rfl
def Qs:VS.fn 233=some Ka:=by kernel_rfl
def Qt:VS.fn 234=some Kb:=by kernel_rfl
def Qu:VS.fn 235=some Kc:=by kernel_rfl
def Qv:VS.fn 236=some Kd:=by kernel_rfl
def Qw:VS.fn 237=some Ke:=by kernel_rfl
def ag0:VS.fn 238=some Kf:=by kernel_rfl
def ag1:VS.fn 239=some Kg:=by kernel_rfl
def ag2:VS.fn 240=some Kh:=by kernel_rfl
def Qx:VS.fn 241=some Ki:=by kernel_rfl
def ag3:VS.fn 242=some Kk:=by kernel_rfl
def Qy:VS.fn 243=some Kl:=by kernel_rfl
def ag4:VS.fn 244=some Ko:=by kernel_rfl
def ag5:VS.fn 245=some Kq:=by kernel_rfl
def Qz:VS.fn 246=some Kr:=by kernel_rfl
def ag6:VS.fn 247=some WR:=by kernel_rfl
def QA:VS.fn 248=some Ks:=by kernel_rfl
def QB:VS.fn 249=some Kt:=by kernel_rfl
def zQ:VS.fn 250=some Ku:=by kernel_rfl
def QC:VS.fn 251=some Kw:=by kernel_rfl
def QD:VS.fn 252=some Kx:=by kernel_rfl
def QE:VS.fn 253=some Ky:=by kernel_rfl
def QF:VS.fn 254=some Kz:=by kernel_rfl
def QG:VS.fn 255=some KA:=by kernel_rfl
def QH:VS.fn 256=some KB:=by kernel_rfl
def QI:VS.fn 257=some KD:=by kernel_rfl
def zR:VS.fn 258=some KF:=by kernel_rfl
def Eu:VS.fn 259=some KH:=by kernel_rfl
def Ev:VS.fn 260=some KI:=by kernel_rfl
def o8:VS.fn 261=some mL:=by kernel_rfl
def QJ:VS.fn 262=some KJ:=by kernel_rfl
def QK:VS.fn 263=some BM:=by kernel_rfl
def ag7:VS.fn 264=some BN:=by kernel_rfl
def QL:VS.fn 265=some KN:=by kernel_rfl
def ag8:VS.fn 266=some KO:=by kernel_rfl
def ag9:VS.fn 274=some KP:=by kernel_rfl
def aha:VS.fn 275=some KQ:=by kernel_rfl
def QM:VS.fn 276=some BO:=by kernel_rfl
def QN:VS.fn 277=some KS:=by kernel_rfl
def QO:VS.fn 278=some KT:=by kernel_rfl
def QP:VS.fn 279=some KU:=by kernel_rfl
def QQ:VS.fn 280=some Xa:=by kernel_rfl
def ahb:VS.fn 281=some BP:=by kernel_rfl
def QR:VS.fn 282=some KV:=by kernel_rfl
def ahc:VS.fn 283=some KX:=by kernel_rfl
def QS:VS.fn 284=some KY:=by kernel_rfl
def QT:VS.fn 285=some KZ:=by kernel_rfl
def ahd:VS.fn 286=some K8:=by kernel_rfl
def ahe:VS.fn 287=some K9:=by kernel_rfl
def ahf:VS.fn 288=some Xe:=by kernel_rfl
def wl:VS.fn 289=some La:=by kernel_rfl
def QU:VS.fn 290=some Lb:=by kernel_rfl
def Ew:VS.fn 291=some BR:=by kernel_rfl
def zS:VS.fn 292=some Ld:=by kernel_rfl
def zT:VS.fn 293=some Le:=by kernel_rfl
def ahg:VS.fn 294=some Lg:=by kernel_rfl
def QW:VS.fn 295=some Lh:=by kernel_rfl
def QX:VS.fn 296=some Li:=by kernel_rfl
def ahh:VS.fn 297=some Lj:=by kernel_rfl
def ahi:VS.fn 301=some Ll:=by kernel_rfl
def ahj:VS.fn 302=some BU:=by kernel_rfl
def QY:VS.fn 303=some Lm:=by kernel_rfl
def QZ:VS.fn 304=some Ln:=by kernel_rfl
def Ey:VS.fn 306=some Lo:=by kernel_rfl
def ahk:VS.fn 307=some Lp:=by kernel_rfl
def ahl:VS.fn 308=some Lq:=by kernel_rfl
def Q0:VS.fn 309=some Ls:=by kernel_rfl
def ahm:VS.fn 310=some Lt:=by kernel_rfl
def ahn:VS.fn 311=some Lu:=by kernel_rfl
def Q1:VS.fn 312=some Lw:=by kernel_rfl
def Ez:VS.fn 313=some xv:=by kernel_rfl
def aho:VS.fn 314=some LC:=by kernel_rfl
def ahp:VS.fn 315=some LD:=by kernel_rfl
def ahq:VS.fn 331=some LE:=by kernel_rfl
def ahr:VS.fn 332=some LF:=by kernel_rfl
def Q2:VS.rnd 0=some r0:=by kernel_rfl
def Q3:VS.rnd 1=some r1:=by kernel_rfl
def Q4:VS.rnd 2=some r2:=by kernel_rfl
def EA:VS.rnd 3=some r3:=by kernel_rfl
def Q5:VS.rnd 4=some r4:=by kernel_rfl
def tR:VS.fn yF=none:=by kernel_rfl
end
section
open Go.Dm
set_option maxRecDepth 10000
structure aqW(l:List Nat)(k:Nat)(s:St):Prop where
 le:k<=l.length
 z:vl 4294967296 (l.drop k)=0
 h:∃y a,Sl 1 ((l.take k).map u32) y/\s=⟨[y,.nil,a],[]⟩
def LT{l:List Nat}{k:Nat}(a:k<l.length)(h:l[k]!≠0):tp (l.take (k+1)):=λ_=>by grind
def lY{l:List Nat}{x:D}(h:Sl 1 (l.map u32) x)(f:lm 4294967296 l)(o:l.length<1099511627776):∃d,ai VS 213 [x] d/\bc (vl 4294967296 l) d:=by
 refine aE.ex (.body kG rfl ?_);simp[go_sem,BH];refine ak.loop (aqW l) _ ⟨Hk _,by rw[ez (Hk _)];rfl,x,.u,by grind,rfl⟩ ?_;rintro k s⟨g,c,y,a,b,rfl⟩;have i:(l.take k).length=k:=by grind
 rcases k with _|k;·simp[go_sem,simprocAttr,Wy,b.n];refine⟨y,lF b.flat,⟨?_⟩⟩;rw[xY ay f (AAs _) c (λe=>absurd rfl e)];exact b
 have j:(l.take (k+1))[k]! =l[k]!:=by rw[K0 _ k (by omega),ABw,<-getElem!_pos l k (by omega)]
 have e:((k:Int)+1-1)=k:=by omega
 have m:(0:Int)<k+1:=by omega
 simp(disch:=omega)only[go_sem,Wy,b.n,b.q,b.hi,i,m,e,wr,u32,j];refine⟨⟨by omega,by omega⟩,λn=>⟨⟨by omega,by omega⟩,k,by omega,by omega,?_,_,_,?_,rfl⟩,λn=>⟨y,lF b.flat,⟨?_⟩⟩⟩;·rw[dw (by omega),c];omega
 ·have:=b.slT k;rwa[List.take_take,vn (by omega)]at this
 rw[xY ay f g c (LT (by omega) (by omega))];exact b
structure aqX(l m:List Nat)(x y:D)(k:Nat)(s:St):Prop where
 le:k<=l.length
 z:l.drop k=m.drop k
 h:∃a b c,s=⟨[x,y,.i .i64 0,.b false,a,b,c,.u,.i .i64 ((k:Int)-1)],[]⟩
def gW(a b:Nat):Int:=if a<b then-1 else if a=b then 0 else 1
def xC{a b:Nat}(h:a<b):gW a b=-1:=G1 h
theorem xD{a b:Nat}(h:b<a):gW a b=1:=by grind[gW]
theorem B5{a b:Nat}(h:a=b):gW a b=0:=by grind[gW]
def XQ{a b:Nat}(h:(ds 4294967296 a).length<(ds 4294967296 b).length):a<b:=by
 rcases hM a b with c|c;·exact c
 have:=kj ay c;omega
def B6{a b:Nat}{x y:D}(n:bc a x)(o:bc b y)(q:(ds 4294967296 a).length<1099511627776)(r:(ds 4294967296 b).length<1099511627776):ai VS 214 [x,y] (.i .i64 (gW a b)):=by
 have c:=n.sl;have d:=o.sl;refine .body wj rfl ?_;by_cases f:(ds 4294967296 a).length=(ds 4294967296 b).length
 ·simp(disch:=omega)[go_sem,JY,c.n,d.n,f,wr];refine ak.loop (aqX (ds 4294967296 a) (ds 4294967296 b) x y) _ ⟨Hk _,?_,.u,.u,.u,?_⟩ ?_;·rw[ez (Hk _),ez (by omega)]
  ·rw[f]
  rintro k s⟨t,j,v,w,z,rfl⟩;rcases k with _|k;·have:=uN ay (by simpa using j);simp[go_sem,simprocAttr,WA,B5 this]
  have e:((k:Int)+1-1)=k:=by omega
  simp(disch:=omega)only[go_sem,WA,c.q,d.q,wr,u32,e,c.under,d.under];have g1:=λh=>by have:=Mi ay (cH ay a) (by omega) f j h;rwa[bX ay,bX ay]at this
  have p:=λh=>by have:=Mi ay (cH ay b) (by omega) f.symm j.symm h;rwa[bX ay,bX ay]at this
  refine⟨λ_=>⟨⟨by omega,by omega⟩,⟨by omega,by omega⟩,λA=>⟨⟨by omega,by omega⟩,⟨by omega,by omega⟩,λg=>(xC (g1 (by omega))).symm,λg=>(xD (p (by omega))).symm⟩,λB=>⟨k,by omega,by omega,?_,_,_,_,rfl⟩⟩,λh=>absurd (by omega) h⟩;rw[xX (by omega),xX (i:=k) (by omega),j];congr 1;omega
 have m:((ds 4294967296 a).length:Int)≠((ds 4294967296 b).length):=by omega
 rcases ABl f with g|g
 ·have l:((ds 4294967296 a).length:Int)<((ds 4294967296 b).length):=by omega
  simp[go_sem,JY,c.n,d.n,xC (XQ g),m,l]
 have l:¬((ds 4294967296 a).length:Int)<((ds 4294967296 b).length):=by omega
 simp[go_sem,JY,c.n,d.n,xD (XQ g),m,l]
end
end Go.Proofs.YtekgndcflpklkaaGreatDoor.Dv
namespace Go.Dm
section
structure jj{κ:Type}[DecidableEq κ](kk:KK)(ek:κ->D):Prop where
 ok:∀a,iC kk (ek a)=true
 eq:∀a b,kr kk (ek a) (ek b)=some (decide (a=b))
section
variable{κ β:Type}[DecidableEq κ]{kk:KK}{ek:κ->D}{ev:β->D}
def de(ek:κ->D)(ev:β->D)(m:List (κ×β)):List (D×D):=m.map λp=>(ek p.1,ev p.2)
def aZ(k:κ)(v:β):List (κ×β)->List (κ×β)|[]=>[(k,v)]|p::m=>if k=p.1 then(k,v)::m else p::aZ k v m
def M5(h:jj kk ek)(k:κ):∀m:List (κ×β),qt kk (ek k) (de ek ev m)=some ((m.lookup k).map ev)|[]=>rfl|(a,v)::m=>by have b:=M5 h k m;simp[de,fA,qt,h.eq]at b⊢;grind
def M6(h:jj kk ek)(k:κ)(v:β):∀m:List (κ×β),oo kk (ek k) (ev v) (de ek ev m)=some (de ek ev (aZ k v m))|[]=>rfl|(a,u)::m=>by have b:=M6 h k v m;simp[de,fA,oo,h.eq]at b⊢;grind[aZ]
theorem C3(k b:κ)(v:β):∀m:List (κ×β),(aZ k v m).lookup b=if b=k then some v else m.lookup b
 |[]=>by grind[aZ]|(a,u)::m=>by
  have d:=C3 k b v m;by_cases e:k=a
  ·subst e;by_cases c:b=k;·simp[aZ,List.lookup,c]
   have:(b==k)=false:=by simpa using c
   simp[aZ,List.lookup,this,c]
  rw[aZ,E1 (by simpa using e)];by_cases c:b=a;·subst c;have:b≠k:=λx=>e x.symm;simp[List.lookup,this]
  have:(b==a)=false:=by simpa using c
  simp only[List.lookup,this,d]
end
def eP(kk:KK)(k:D)(a:Bool)(zero:D):Option an->Option D
 |some (.mp c)=>match iC kk k with
  |true=>match qt kk k c with
   |some r=>match a with|true=>some (.tu [r.getD zero,.b r.isSome])|false=>some (r.getD zero)
   |none=>none
  |false=>none
 |_=>none
@[go_sem]def as7{H:ab}{kk:KK}{a:Nat}{k:D}{b:Bool}{zero:D}:mh H kk (.mp a) k b zero=eP kk k b zero H[a]?:=by simp[mh,ou,eP];grind
def sY{κ β:Type}[DecidableEq κ]{kk:KK}{ek:κ->D}{ev:β->D}(h:jj kk ek)(k:κ)(m:List (κ×β))(a:Bool)(zero:D):eP kk (ek k) a zero (some (.mp (de ek ev m)))=match a with|true=>some (.tu [((m.lookup k).map ev).getD zero,.b (m.lookup k).isSome])|false=>some (((m.lookup k).map ev).getD zero):=by simp only[eP,h.ok,M5 h];grind
def jN(H:ab)(kk:KK)(a:Nat)(k v:D):Option an->Option ab
 |some (.mp b)=>match iC kk k with
  |true=>match oo kk k v b with|some c=>some (H.set a (.mp c))|none=>none
  |false=>none
 |_=>none
@[go_sem]def as8{H:ab}{kk:KK}{a:Nat}{k v:D}:m4 H kk (.mp a) k v=jN H kk a k v H[a]?:=by simp[m4,jN];grind
theorem oJ{κ β:Type}[DecidableEq κ]{H:ab}{kk:KK}{ek:κ->D}{ev:β->D}(h:jj kk ek)(a:Nat)(k:κ)(v:β)(m:List (κ×β)):jN H kk a (ek k) (ev v) (some (.mp (de ek ev m)))=some (H.set a (.mp (de ek ev (aZ k v m)))):=by simp[jN,h.ok,M6 h]
theorem C4(x y:List UInt8):fP (.s x) (.s y)=some (decide (x=y)):=by grind[fP]
def C5(k:IntKind)(x y:Int):fP (.i k x) (.i k y)=some (decide (x=y)):=by grind[fP]
def yM:jj (.c 2) (λs:List UInt8=>D.s s):=⟨λ_=>rfl,λa b=>by grind[kr,fQ,C4]⟩
section
variable{H0:ab}{w:Nat}{rows:List (List D)}{b b':an}
end
section
variable{α:Type}[DecidableEq α]
def gq(b:List α)(a:α):List α:=if a∈b then b else b++[a]
def iJ(b:List α):List (α×Bool):=b.map λa=>(a,true)
def C6(a:α):∀b:List α,(iJ b).lookup a=if a∈b then some true else none|[]=>rfl|u::b=>by have c:=C6 a b;grind[iJ]
def M7(a:α):∀b:List α,a∉b->aZ a true (iJ b)=iJ (b++[a])|[],_=>rfl|u::b,h=>by have c:=M7 a b (λx=>h (K2 _ x));grind[iJ,aZ]
def M8(b:List α)(a:α):(gq b a).length<=b.length+1:=by grind[gq]
end
end
section
section
variable{H:ab}{k:IntKind}{x y:Int}
@[go_sem]def as9:bin .quo (.i k x) (.i k y)=if y=0 then none else some (.i k (k.wrap (x.tdiv y))):=by simp[bin,i9]
@[go_sem]def ZE:bin .rem (.i k x) (.i k y)=if y=0 then none else some (.i k (x.tmod y)):=by simp[bin,i9]
def ZF(a b:List UInt8):Option D:=if a.length+b.length<=CJ then some (.s (a++b))else none
@[go_sem]def ata{a b:List UInt8}:bin .add (.s a) (.s b)=ZF a b:=rfl
def C7(H:ab)(b a:Nat)(vs:List D):Option an->Option ab
 |some (.hb t c)=>match cA c a vs with|some d=>some (H.set b (.hb t d))|none=>none
 |_=>none
def M9(H:ab)(b t:Nat):Option (List D)->Option ab|some a=>some (H.set b (.hb t a))|none=>none
@[go_sem]def atb{b a:Nat}{vs:List D}:fR H (.hp b a) vs=C7 H b a vs H[b]?:=by grind[fR,C7]
variable{z:List D}
@[go_sem]def atc{b a t:Nat}{vs:List D}:C7 H b a vs (some (.hb t z))=M9 H b t (cA z a vs):=by constructor<;>grind
@[go_sem]def atd{b t:Nat}:M9 H b t (some z)=some (H.set b (.hb t z)):=rfl
variable{a:Bool}
@[go_sem]def ate{t c:TypeId}{v:D}{zero:D}:sO (.ifc c v) t a zero=match decide (c=t),a with|true,true=>some (.tu [v,.b true])|true,false=>some v|false,true=>some (.tu [zero,.b false])|false,false=>none:=rfl
@[go_sem]def atf{t:TypeId}{v:D}:eF a .ifc (.ifc t v) .ni=some (.b (false !=a)):=rfl
@[go_sem]def atg:eF a .ifc .ni .ni=some (.b (true !=a)):=rfl
def Na(w:Nat):Option (List (List D)×ab)->Option (D×ab)|some (rows,H)=>some (.im w rows,H)|none=>none
@[go_sem]def ath{m w:Nat}{rows:List (List D)}:bC (m+1) H (.sv w rows)=Na w (g9 m H rows):=by constructor<;>grind
@[go_sem]def ati{w:Nat}{rows:List (List D)}:Na w (some (rows,H))=some (.im w rows,H):=rfl
def Nb(m:Nat)(a:List (List D)):Option (List D×ab)->Option (List (List D)×ab)
 |some (b,H')=>match g9 (m+1) H' a with|some (c,d)=>some (b::c,d)|none=>none
 |none=>none
def Nc(a:List D):Option (List (List D)×ab)->Option (List (List D)×ab)|some (b,c)=>some (a::b,c)|none=>none
@[go_sem]def atj{m:Nat}:g9 m H []=some ([],H):=sF _ _
variable{b:List (List D)}
@[go_sem]def atk{m:Nat}:g9 (m+1) H (z::b)=Nb m b (aX m H z):=by rw[uW];constructor<;>grind
@[go_sem]def atl{m:Nat}:Nb m b (some (z,H))=Nc z (g9 (m+1) H b):=by constructor<;>grind
@[go_sem]def atm:Nc z (some (b,H))=some (z::b,H):=rfl
@[go_sem]def atn{t:TypeId}{v:D}:(D.ifc t v).cellsN 1=some [.ifc t v]:=rfl
@[go_sem]def ato:D.ni.cellsN 1=some [.ni]:=rfl
end
section
variable{V:au}{Q:Ex->St->Prop}{dr:Option (Bs×Bool)}{os:List ae}{keep:Option Nat}{loc sl sl':List D}{H H':ab}{l:List UInt8}{k k':IntKind}{x y:Int}
@[go_sem]def atp:aD V dr os keep loc sl Q (aA ⟨sl',H⟩ (qD (.s l) (.i k x)))↔(0<=x/\x<l.length)/\aD V dr os keep loc sl Q (.v (.i .u8 l[x.toNat]!.toNat) ⟨sl',H⟩):=by grind[qD,eG,aA,aD]
@[go_sem]def atq{x:O}:aU V dr os keep loc ⟨sl,H⟩ Q (.pan x)↔aD V dr os keep loc sl Q (qB (x.ev loc sl) H):=by rw[bJ rfl];exact dG
@[go_sem]def atr{t:TypeId}{d:D}:aD V dr os keep loc sl Q (qB (.ifc t d) H)↔aD V dr os keep loc sl Q (.p (.ifc t d) H):=dG
end
attribute[go_sem]not_true_eq_false not_false_eq_true
end
section
def bc.pl{n:Nat}{x:D}(h:bc n x):x.plain=true:=h.sl.pl
def eL.pl{n:Nat}{x:D}(h:eL n x):x.plain=true:=h.sl.pl
def eL.p1{n:Nat}{x:D}(h:eL n x):[x].all D.plain=true:=by simp[h.pl]
def Yw{n:Nat}(h:n<65536):IntKind.wrap .u16 (n:Int)=(n:Int):=by have e:IntKind.wrap .u16 _=n%65536:=rfl;omega
theorem Ml{n:Nat}:IntKind.wrap .u16 (n:Int)=((n%65536:Nat):Int):=by have e:IntKind.wrap .u16 _=n%65536:=rfl;omega
def kX{n:Nat}(h:n<4294967296):IntKind.wrap .u32 (n:Int)=(n:Int):=by have e:IntKind.wrap .u32 _=n%4294967296:=rfl;omega
def jD{n:Nat}:IntKind.wrap .u32 (n:Int)=((n%4294967296:Nat):Int):=by have e:IntKind.wrap .u32 _=n%4294967296:=rfl;omega
theorem Mm{x:Int}:IntKind.wrap .u32 x=x%4294967296:=rfl
theorem dR{x:Int}:IntKind.wrap .u64 x=x%18446744073709551616:=rfl
def bG{n:Nat}(h:n<18446744073709551616):IntKind.wrap .u64 (n:Int)=(n:Int):=by have e:IntKind.wrap .u64 _=n%18446744073709551616:=rfl;omega
def w8{n:Nat}(h:n<256):IntKind.wrap .u8 (n:Int)=(n:Int):=by have e:IntKind.wrap .u8 _=n%256:=rfl;omega
def Cp{a b:Nat}:Int.tdiv (a:Int) (b:Int)=((a/b:Nat):Int):=rfl
def x8{a b:Nat}:Int.tmod (a:Int) (b:Int)=((a%b:Nat):Int):=rfl
def Yx{a:Nat}:Int.tdiv (a:Int) 2=((a/2:Nat):Int):=rfl
def Yy{a:Nat}:Int.tmod (a:Int) 2=((a%2:Nat):Int):=rfl
def Yz{a:Nat}:Int.tdiv ((a:Int)+1) 2=(((a+1)/2:Nat):Int):=rfl
def eE{k b:IntKind}{a s:Nat}(hs:s<k.bits):bin .shr (.i k (a:Int)) (.i b (s:Int))=some (.i k ((a/2^s:Nat):Int)):=by grind[bin,uU]
def sr{k b:IntKind}{a s:Nat}(hs:s<k.bits):bin .shl (.i k (a:Int)) (.i b (s:Int))=some (.i k (k.wrap ((a*2^s:Nat):Int))):=by grind[bin,uU]
def Mn{a b:Nat}(c:a<4294967296)(d:b<4294967296):bin .or (.i .u32 (a:Int)) (.i .u32 (b:Int))=some (.i .u32 ((a|||b:Nat):Int)):=by have e:bin .or (.i .u32 a) (.i .u32 b)=some (.i .u32 (IntKind.wrap .u32 (((BitVec.ofInt 32 _|||BitVec.ofInt 32 b).toNat:Nat):Int))):=rfl;rw[e,kX (ABI _),nr,nr,BitVec.toNat_or,AA6,AA6,oa c,oa d]
def ya{a b:Nat}(c:a<18446744073709551616)(d:b<18446744073709551616):bin .or (.i .u64 (a:Int)) (.i .u64 (b:Int))=some (.i .u64 ((a|||b:Nat):Int)):=by have e:bin .or (.i .u64 a) (.i .u64 b)=some (.i .u64 (IntKind.wrap .u64 (((BitVec.ofInt 64 _|||BitVec.ofInt 64 b).toNat:Nat):Int))):=rfl;rw[e,bG (ABI _),nr,nr,BitVec.toNat_or,AA6,AA6,oa c,oa d]
variable{x:Nat}
theorem Cq{a b:Nat}(h:a<2^x):a|||b*2^x=a+b*2^x:=by have:=Nat.two_pow_add_eq_or_of_lt h b;grind
def yc{a b:Nat}(h:a<2^x):b*2^x|||a=a+b*2^x:=by grind[Cq]
def gg{l:List Nat}{v:Nat}:(l.map u32).set x [.i .u32 (v:Int)]=(l.set x v).map u32:=by rw[AAH];rfl
def Mo{l:List Nat}{v:Nat}:(l.map aJ).set x [.i .u16 (v:Int)]=(l.set x v).map aJ:=by rw[AAH];rfl
def ss{n:Nat}:List.replicate n [D.i .u32 0]=(List.replicate n 0).map u32:=by rw[ABj];rfl
def YA{n:Nat}:List.replicate n [D.i .u16 0]=(List.replicate n 0).map aJ:=by rw[ABj];rfl
end
end Go.Dm
namespace Go.Proofs.YtekgndcflpklkaaGreatDoor.Dv
section
open Go.Dm
set_option maxRecDepth 10000
structure aqY(l:List Nat)(x:D)(i:Nat)(s:St):Prop where h:∃ws a2 a7 a8,ws.length=(l.length+1)/2/\lm 4294967296 ws/\vl 4294967296 ws=vl 65536 (l.take i)/\s=⟨[x,.nil,a2,.i .i64 i,.i .i64 l.length,x,.mu 0 ((l.length+1)/2) 0 ((l.length+1)/2),a7,a8],[.ar 1 (ws.map u32) (some ((l.length+1)/2)) true false]⟩
theorem XR(i:Nat):65536^i=4294967296^(i/2)*(if i%2=0 then 1 else 65536):=by
 rw[show 4294967296=65536^2 from rfl,<-Nat.pow_mul];split;·grind
 rw[<-Nat.pow_succ];grind
def mM{n:Nat}{x:D}(h:eL n x)(q:(ds 65536 n).length<1099511627776):∃d,ai VS 176 [x] d/\bc n d:=by
 generalize b:ds 65536 n=l at q;have hs:=h.sl;rw[b]at hs;have m:lm 65536 l:=b▸cH bY n;have o:=b▸bX bY n;have r:tp l:=b▸sq bY n;refine aE.ex (.body lI rfl ?_);simp(disch:=omega)only[go_sem,simprocAttr,apk,hs.n,wr,Yz,ss];refine⟨⟨⟨by omega,by omega⟩,⟨by omega,by omega⟩,by omega⟩,ak.up (aqY l x) l.length ⟨_,_,_,_,by simp,p9 (by omega),by rw[uL];rfl,rfl⟩ ?_⟩;rintro i s hi⟨a,M,N,P,j,c,f,rfl⟩;by_cases t:i<l.length
 ·have u:(i:Int)<(l.length:Int):=by omega
  have Q:=cI m t;have p:i/2<a.length:=by omega
  have w:vl 4294967296 a<4294967296^(i/2)*(if i%2=0 then 1 else 65536):=by rw[f,<-XR];have:=dv bY (fN m i);grind
  have S:=so ay w p;have y:a[i/2]!<2^(16*(i%2)):=by grind
  have g:l[i]!*2^(16*(i%2))<4294967296/\a[i/2]!+l[i]!*2^(16*(i%2))<4294967296:=by grind
  have z:bin .shl (.i .u32 l[i]!) (.i .i64 (16*((i%2:Nat))))=some (.i .u32 ((l[i]!*2^(16*(i%2)):Nat))):=by rw[show 16*((i%2:Nat))=((16*(i%2):Nat):Int)by omega,sr (by show 16*(i%2)<32;omega),kX g.1]
  have k:=Mn (cI c p) g.1;rw[Cq y]at k;obtain⟨v,A⟩:∃v,v=a[i/2]!+l[i]!*2^(16*(i%2)):=⟨_,rfl⟩;rw[<-A]at k g;simp(disch:=omega)only[go_sem,simprocAttr,Wk,hs.q,u,aJ,wr,Yx,Yy,u32,j,kX,z,k,gg];repeat' first|(refine And.intro ?_ ?_)|intro _
  all_goals try omega
  refine⟨a.set _ v,_,_,_,by grind,gZ c g.2,?_,rfl⟩;grind[jC,ft,XR]
 have C:i=l.length:=by omega
 subst C;rw[E4 (Hk _),o]at f;have E:(a.map u32).take ((l.length+1)/2)=a.map u32:=E4 (by grind);simp[go_sem,Wk,j,E,qb];refine⟨?_⟩;rw[<-f,uM ay c];·exact .im
 intro F;have U:=V2.2 F;have G:a.length-1<a.length:=by omega
 intro H;have I:l≠[]:=by intro e;rw[e,kx]at j;omega
 have:=r I;have g1:=eC (B:=4294967296) a (a.length-1) (by omega);rw[dw G,H,ez (by omega),vl,nu,k0]at g1;have J:=dv ay (fN c (a.length-1));rw[fL,vn (by omega),<-g1,f,<-o]at J;have K:=eC (B:=65536) l (l.length-1) (by omega);have L:l.length-1<l.length:=by omega
 rw[dw L]at K;have V:4294967296^(a.length-1)<=65536^(l.length-1):=by rw[show 4294967296=65536^2 from rfl,<-Nat.pow_mul];exact nG (by omega) (by omega)
 have W:65536^(l.length-1)*1<=65536^(l.length-1)*(l[l.length-1]!+65536*vl 65536 (l.drop (l.length-1+1))):=eu _ (by omega);omega
end
section
open Go.Dm
set_option maxRecDepth 10000
structure Wh(z:Int)(d:D):Prop where h:∃y,d=.ag [.b (decide (z<0)),y]/\eL z.natAbs y
structure UnI(l:List Nat)(neg:Bool)(y:D)(i:Nat)(s:St):Prop where h:∃ws a4 a10 a11,ws.length=2*l.length/\lm 65536 ws/\vl 65536 ws=vl 4294967296 (l.take i)/\s=⟨[.b neg,y,.bx [.b false,.nil],.b false,a4,.u,.mu 0 (2*l.length) 0 (2*l.length),.i .i64 i,.i .i64 l.length,y,a10,a11],[.ar 1 (ws.map aJ) (some (2*l.length)) true false]⟩
theorem nZ{B n:Nat}(a:2<=B)(h:n≠0):0<(ds B n).length:=by grind[kV]
def pY{l:List Nat}{x:D}{neg:Bool}(p:Sl 1 (l.map u32) x)(q:lm 4294967296 l)(r:l.length<1099511627776):∃d,ai VS 174 [.b neg,x] d/\Wh (if neg then-(vl 4294967296 l:Int)else vl 4294967296 l) d:=by
 obtain⟨y,I,t⟩:=lY p q r;have u:=λ{H K}=>I.c (H:=H) (K:=K) kG rfl (by simp[p.pl]) (.inl rfl);have J:=(mQ ay).2 (dv ay q);generalize vl 4294967296 l=n at t J;have hs:=t.sl;have w:=cH ay n;have z:=bX ay n;have L:=sq ay n;by_cases c:n=0
 ·rw[c,cz]at hs;refine aE.ex (.body mw rfl ?_);simp[go_sem,We,u,hs.n];subst c;refine⟨⟨.nil,by simp_all,⟨?_⟩⟩⟩;have:(if neg=true then-((0:Nat):Int)else((0:Nat))).natAbs=0:=by omega
  rw[this,cz];exact .nil rfl
 have hp:=nZ ay c;have M:=kV ay c;generalize ds 4294967296 n=l at*;refine aE.ex (.body mw rfl ?_);have N:¬((l.length:Int)=0):=by omega
 have P:2*l.length=((2*l.length:Nat):Int):=by omega
 simp(disch:=omega)only[go_sem,We,u,hs.n,wr,N,P,YA];refine⟨⟨⟨by omega,by omega⟩,⟨by omega,by omega⟩,by omega⟩,ak.up (UnI l neg y) l.length ⟨_,_,_,_,by simp,p9 (by omega),by rw[uL];rfl,rfl⟩ ?_⟩;rintro i s hi⟨a,a4,ah,aj,o,g,h,rfl⟩;by_cases A:i<l.length
 ·have Q:(i:Int)<(l.length:Int):=by omega
  have hd:=cI w A;have C:bin .shr _ (.i .u64 16)=some (.i .u32 ((l[i]!/65536:Nat))):=eE (by decide);obtain⟨j,S⟩:∃j,j=2*i:=⟨_,rfl⟩;have U:2*(i:Int)=j:=by omega
  obtain⟨e,am⟩:∃e,e=l[i]!%65536:=⟨_,rfl⟩;obtain⟨f,V⟩:∃f,f=l[i]!/65536:=⟨_,rfl⟩;have W:IntKind.u16.wrap l[i]! =e:=by grind[Ml]
  rw[<-V]at C;simp(disch:=omega)only[go_sem,Wc,hs.q,Q,U,u32,aJ,wr,o,W,Yw,C,Mo];have X:65536^j=4294967296^i:=by rw[S,ABK]
  have E:vl 65536 a<65536^j*1:=by have:=dv ay (fN w i);grind
  have z1:=so bY E (by omega);have z2:=so bY (k:=j+1) (em E (N3 _ (nG (by omega) (by omega)))) (by omega);repeat' first|(refine And.intro ?_ ?_)|intro _
  all_goals try omega
  refine⟨(a.set j e).set _ f,_,_,_,by grind,gZ (gZ g (by omega)) (by omega),?_,rfl⟩;have g1:=jC (B:=65536) (l:=a) (i:=j) (v:=e) (by omega);have Y:=jC (B:=65536) (l:=a.set j e) (i:=j+1) (v:=f) (by grind);have g3:(a.set j e)[j+1]! =a[j+1]!:=by grind
  rw[ft A,<-h,<-X,show l[i]! =e+65536*f by omega];grind
 have Z:i=l.length:=by omega
 subst Z;rw[E4 (Hk _),z]at h;simp(disch:=omega)only[go_sem,simprocAttr,Wc,o,aJ,qb,wr];have m:(if neg=true then-(n:Int)else n).natAbs=n:=by omega
 have F:decide ((if neg=true then-(n:Int)else n)<0)=neg:=by grind
 have aa:∀k,k<a.length->65536^k<=n->vl 65536 (a.drop _)=0->a[k]!≠0:=λk hk r m c=>by have g1:=eC (B:=65536) a k (by omega);rw[dw hk,c,m]at g1;have Y:=dv bY (fN g k);grind
 have ao:vl 65536 (a.drop (2*l.length-1+1))=0:=by rw[ez (by omega)];rfl
 refine⟨⟨by omega,by omega⟩,by omega,λc=>⟨⟨by omega,by omega⟩,?_⟩,λc=>⟨⟨_,by rw[F],⟨?_⟩⟩⟩⟩
 ·rw[G1 (by omega)];refine⟨_,rfl,⟨_,by rw[F],⟨?_⟩⟩⟩;have G:vl 65536 (a.drop (2*l.length-1))=0:=by grind[dw]
  have hb:65536^(2*l.length-2)<=n:=by
   have g1:=eC (B:=4294967296) l (l.length-1) (by omega);rw[z,dw (by omega)]at g1;have:=L M;have g5:4294967296^(l.length-1)*1<=4294967296^(l.length-1)*(l[l.length-1]!+4294967296*vl 4294967296 (l.drop (l.length-1+1))):=eu _ (by omega);have g6:65536^(2*l.length-2)=4294967296^(l.length-1):=by rw[show 4294967296=65536^2 from rfl,<-Nat.pow_mul];congr 1;omega
   omega
  have ad:=aa _ (by omega) hb (by rw[show 2*l.length-2+1=2*l.length-1 by omega];exact G);have:=xY bY g (by omega) G (by have:=LT (by omega) ad;rwa[show 2*l.length-2+1=2*l.length-1 by omega]at this);rw[m,<-h,this,ABM];exact .im
 have ae:(a.map aJ).take (2*l.length)=a.map aJ:=E4 (by rw[S2];omega);have:=uM bY g (λ_=>by rw[o];omega);rw[m,<-h,this,ae];exact .im
end
section
open Go.Dm
set_option maxRecDepth 10000
def aq0{H:ab}{a n w bytes:Nat}{A:List (List D)}{b r:List D}(c:H[a]?=some (.ar w (A++List.replicate (n-A.length) b) (some n) true false))(d:A.length<n)(e:(A.length+1)*bytes<=140737488355328)(f:A.length<140737488355328)(g:r.all D.flat=true):bu H (.mu a n 0 A.length) (.sv w [r]) w bytes true=some (.mu a n 0 (A.length+1),H.set a (.ar w (A++[r]++List.replicate (n-(A++[r]).length) b) (some n) true false)):=by
 have h:∀H,ja H [r]=some _:=λH=>nj H (λq i=>by grind);have j:aK H a n=some (w,A++List.replicate (n-A.length) b,some n,true,false):=by grind[afP,afQ]
 have k:eI (0+A.length+1) bytes=true:=vU (by grind) (by omega);have l:(A++List.replicate (n-A.length) b).drop (0+A.length+1)=List.replicate (n-(A++[r]).length) b:=by simp_all<;>omega
 have m:(A++[r]++List.replicate (n-(A++[r]).length) b).length=n:=by grind
 have o:0+A.length<=n:=by omega
 have p:0+A.length+1<=n:=by omega
 simp_all[bu,eZ,fe,kq,iB]
def rY(A:List Nat)(n:Nat):an:=.ar 1 (A.map u32++List.replicate (n-(A.map u32).length) (u32 0)) (some n) true false
def cHp(A:List Nat)(n c:Nat):ab:=[rY A n,.hb 254 [.mu 0 n 0 (A.map u32).length],.hb 375 [.hp 1 0],.hb 201 [.i .u64 (c:Int)]]
def LU{A:List Nat}{n s c:Nat}(g:A.length<n)(h:n<1099511627776)(hs:s+c<18446744073709551616):ac VS 311 [.i .u64 (s:Int),.hp 3 0,.hp 2 0] (cHp A n c) (λr=>r=.ret (.tu []) (cHp (A++[(s+c)%4294967296]) n ((s+c)/4294967296))):=by
 obtain⟨v,b⟩:∃v,v=s+c:=⟨_,rfl⟩;have d:s+(c:Int)=v:=by omega
 have e:bin .shr _ (.i .u64 32)=some (.i .u64 ((v/4294967296:Nat))):=eE (by decide);rw[<-b]at hs⊢;have f:bu [rY A n,.hb 254 [.mu 0 n 0 A.length],.hb 375 [.hp 1 0],.hb 201 [.i .u64 c]] (.mu 0 n 0 A.length) (.sv 1 [[.i .u32 ((v%4294967296:Nat))]]) 1 4 true=some (.mu 0 n 0 (A.length+1),[rY (A++[v%4294967296]) n,.hb 254 [.mu 0 n 0 A.length],.hb 375 [.hp 1 0],.hb 201 [.i .u64 c]]):=by have:=aq0 (H:=[rY A n,.hb 254 [.mu 0 n 0 A.length],.hb 375 [.hp 1 0],.hb 201 [.i .u64 c]]) (a:=0) (bytes:=4) (r:=[.i .u32 ((v%4294967296:Nat))]) rfl (by grind) (by grind) (by grind) rfl;rw[S2]at this;rw[this];simp only[rY,hI,Rp,S2];rfl
 refine .body ahn rfl rfl ?_;simp(disch:=omega)only[go_sem,simprocAttr,aqv,cHp,d,bG,jD,e,f]
def aq1{a b:an}:ac VS 308 [.hp 1 0] [a,b] (λr=>r=.ret (.fn (.func 311) [] [.hp 3 0,.hp 2 0]) [a,b,.hb 375 [.hp 1 0],.hb 201 [.i .u64 0]]):=by refine .body ahl rfl rfl ?_;simp[go_sem,aqs]
def B7:aQ:=match BR.body with|.seq _ (.seq _ r)=>r|_=>.skip
structure aq2(l m:List Nat)(x y:D)(i:Nat)(s:St):Prop where h:∃A c a3 a4 a5 a10 a11 a12,A.length=i/\lm 4294967296 A/\c<=1/\vl 4294967296 A+4294967296^i*c=vl 4294967296 (l.take i)+vl 4294967296 (m.take i)/\s=⟨[x,y,.nil,a3,a4,a5,.hp 1 0,.i .i64 i,.i .i64 l.length,x,a10,a11,a12,.fn (.func 311) [] [.hp 3 0,.hp 2 0]],cHp A (l.length+1) c⟩
def XS{a b:Nat}{x y a3:D}(B:bc a x)(C:bc b y)(E:(ds 4294967296 b).length<=(ds 4294967296 a).length)(V:(ds 4294967296 a).length<1000000000){P:D->Prop}(F:∀d,bc (a+b) d->P d):ak VS B7 ⟨[x,y,.nil,a3,.u,.u,.u,.u,.u,.u,.u,.u,.u,.u],[]⟩ (dh [.s 2] (fG false (λr=>∃d,r=.ret d/\P d))):=by
 have h:=B.sl;have n:=C.sl;have G:=cH ay a;have H:=cH ay b;have I:=bX ay a;have J:=bX ay b;generalize ds 4294967296 a=l at*;generalize ds 4294967296 b=m at*;simp(disch:=omega)[go_sem,simprocAttr,B7,uz,h.n,wr];refine⟨⟨⟨by omega,by omega⟩,by omega,by omega⟩,aq1.mono ?_⟩;rintro r rfl;simp[go_sem,h.n];refine ak.up (aq2 l m x y) l.length ⟨[],0,_,_,_,_,_,_,rfl,l9,by omega,rfl,rfl⟩ ?_;rintro i s hi⟨A,c,a3,W,X,Y,Z,aa,f,o,hc,p,rfl⟩;by_cases g:i<l.length
 ·have t:(i:Int)<l.length:=by omega
  have hd:=cI G g;by_cases w:i<m.length
  ·have q:(i:Int)<m.length:=by omega
   have j:=cI H w;obtain⟨v,ae⟩:∃v,v=l[i]!+m[i]!:=⟨_,rfl⟩;have K:l[i]!+(m[i]!:Int)=v:=by omega
   simp(disch:=omega)only[go_sem,Lc,h.q,n.n,n.q,t,q,u32,bG,K];refine⟨by omega,by omega,(gP (by decide)).2 ((LU (by omega) (by omega) (by omega)).mono ?_)⟩;rintro r rfl;simp(disch:=omega)only[go_sem,wr];refine⟨g,_,_,_,_,_,_,_,_,by grind,Co.2 ⟨o,mP.2 ⟨ma _ (by omega),l9⟩⟩,by omega,?_,rfl⟩;rw[sk,f,ft g,ft w,me];simp only[vl,nu,k0];have:=vd (v+c) 4294967296;grind
  have q:¬(i:Int)<m.length:=by omega
  simp(disch:=omega)only[go_sem,Lc,h.q,n.n,t,q,u32,bG];refine⟨by omega,(gP (by decide)).2 ((LU (by omega) (by omega) (by omega)).mono ?_)⟩;rintro r rfl;simp(disch:=omega)only[go_sem,wr];refine⟨g,_,_,_,_,_,_,_,_,by simp[f],Co.2 ⟨o,mP.2 ⟨ma _ (by omega),l9⟩⟩,by omega,?_,rfl⟩;rw[sk,f,ft g,me];rw[E4 (l:=m) (by omega)]at p⊢;simp only[vl,nu,k0];have:=vd (l[i]!+c) 4294967296;grind
 have L:i=l.length:=by omega
 subst L;rw[E4 (Hk _),E4 E,I,J]at p;simp(disch:=omega)[go_sem,Lc,qb];refine(gP (by decide)).2 ((LU (s:=0) (by omega) (by omega) (by omega)).mono ?_);rintro r rfl;obtain⟨e,k⟩:∃e,e=A++[(0+c)%4294967296]:=⟨_,rfl⟩;have z:e.length=l.length+1:=by rw[k];simp[f]
 have M:lm 4294967296 e:=by rw[k];exact Co.2 ⟨o,mP.2 ⟨ma _ (by omega),l9⟩⟩
 have N:vl 4294967296 e=a+b:=by rw[k,sk,f,<-p,i4,oa (by omega)];simp[vl]
 rw[<-k];have Q:rY e (l.length+1)=.ar 1 (e.map u32) (some (l.length+1)) true false:=by simp[rY,z]
 have S:(e.map u32).take (l.length+1)=e.map u32:=E4 (by rw[S2];omega);obtain⟨d,U,j⟩:=lY .im M (by omega);rw[N]at j;simp only[go_sem,cHp,Q];refine ac.fzr kG rfl rfl U ⟨_,by simp only[go_sem,simprocAttr,z,S];rfl⟩ (λH'=>?_);simp[go_sem];exact⟨d,lF j.sl.flat,F d j⟩
def XT{a b:Nat}{x y:D}(c:bc a x)(e:bc b y)(j:(ds 4294967296 a).length<1000000000)(k:(ds 4294967296 b).length<1000000000):∃d,ai VS 291 [x,y] d/\bc (a+b) d:=by
 have f:=c.sl;have g:=e.sl;refine aE.ex (.body Ew rfl ?_);by_cases l:(ds 4294967296 a).length<(ds 4294967296 b).length
 ·have i:((ds 4294967296 a).length:Int)<((ds 4294967296 b).length):=by omega
  have:=XS (a3:=.b true) e c (by omega) k (λd h=>by rwa[Nat.add_comm]at h);simp[go_sem,simprocAttr,B7,uz,g.n]at this;simp[go_sem,simprocAttr,uz,f.n,g.n,i];exact this
 have i:¬((ds 4294967296 a).length:Int)<((ds 4294967296 b).length):=by omega
 have:=XS (a3:=.b false) c e (by omega) j (λd h=>h);simp[go_sem,simprocAttr,B7,uz,f.n]at this;simp[go_sem,simprocAttr,uz,f.n,g.n,i];exact this
end
section
open Go.Dm
set_option maxRecDepth 10000
variable{x:BitVec 32}
def aq3{v:BitVec 32}:bin .and (.i .u32 (x.toNat:Int)) (.i .u32 (v.toNat:Int))=some (.i .u32 ((x&&&v).toNat:Int)):=by have e:bin .and (.i .u32 _) (.i .u32 _)=some (.i .u32 (IntKind.wrap .u32 (((BitVec.ofInt 32 x.toNat&&&BitVec.ofInt 32 v.toNat).toNat:Nat):Int))):=rfl;rw[e,kX (ABI _),nr,nr,AAC,AAC,AAD,AAD]
def aq4{v:BitVec 32}:bin .or (.i .u32 (x.toNat:Int)) (.i .u32 (v.toNat:Int))=some (.i .u32 ((x|||v).toNat:Int)):=by have e:bin .or (.i .u32 _) (.i .u32 _)=some (.i .u32 (IntKind.wrap .u32 (((BitVec.ofInt 32 x.toNat|||BitVec.ofInt 32 v.toNat).toNat:Nat):Int))):=rfl;rw[e,kX (ABI _),nr,nr,AAC,AAC,AAD,AAD]
def aq5{v:BitVec 32}:bin .xor (.i .u32 (x.toNat:Int)) (.i .u32 (v.toNat:Int))=some (.i .u32 ((x^^^v).toNat:Int)):=by have e:bin .xor (.i .u32 _) (.i .u32 _)=some (.i .u32 (IntKind.wrap .u32 (((BitVec.ofInt 32 x.toNat^^^BitVec.ofInt 32 v.toNat).toNat:Nat):Int))):=rfl;rw[e,kX (ABI _),nr,nr,AAC,AAC,AAD,AAD]
def aq6:un .xor (.i .u32 (x.toNat:Int))=some (.i .u32 ((~~~x).toNat:Int)):=by
 have e:un .xor (.i .u32 _)=some (.i .u32 (IntKind.wrap .u32 (((BitVec.ofInt 32 4294967295^^^BitVec.ofInt 32 x.toNat).toNat:Nat):Int))):=rfl;have a:BitVec.ofInt 32 4294967295=BitVec.allOnes 32:=by decide
 rw[e,kX (ABI _),nr,AAC,AAD,a,BitVec.xor_comm,BitVec.xor_allOnes]
theorem aq7{w:BitVec 32}:w.toNat/2147483648=(w.getLsbD 31).toNat:=by
 rw[BitVec.getLsbD,Nat.testBit,Nat.shiftRight_eq_div_pow];have:w.toNat/2^31=0\/w.toNat/2^31=1:=by omega
 rcases this with e|e<;>rw[e]<;>rfl
theorem aq8{x:Nat}(h:x<4294967296):(BitVec.ofNat 32 x).getLsbD 31=decide (2147483648<=x):=by grind
def aq9{x y b d:Nat}(a:x<4294967296)(c:y<4294967296)(e:b<=1)(f:d=(x+8589934592-y-b)%4294967296):((~~~(BitVec.ofNat 32 x)&&&BitVec.ofNat 32 y)|||(~~~(BitVec.ofNat 32 x^^^BitVec.ofNat 32 y)&&&BitVec.ofNat 32 d)).toNat/2147483648=if x<y+b then 1 else 0:=by grind[aq7,aq8]
def ara{x y b:Nat}(e:x<4294967296)(f:y<4294967296)(g:b<=1):ai VS 265 [.i .u32 (x:Int),.i .u32 (y:Int),.i .u32 (b:Int)] (.tu [.i .u32 (((x+8589934592-y-b)%4294967296:Nat):Int),.i .u32 ((if x<y+b then 1 else 0:Nat):Int)]):=by
 obtain⟨d,c⟩:∃d,d=(x+8589934592-y-b)%4294967296:=⟨_,rfl⟩;rw[<-aq9 e f g c,<-c];have a:IntKind.u32.wrap (IntKind.u32.wrap (x-y)-b)=d:=by grind[Mm]
 have h:x=((BitVec.ofNat 32 x).toNat:Int):=by grind
 have j:y=((BitVec.ofNat 32 y).toNat:Int):=by grind
 have k:d=((BitVec.ofNat 32 d).toNat:Int):=by grind
 refine .body QL rfl ?_;rw[h,j]at a⊢;rw[k]at a⊢;generalize BitVec.ofNat 32 x=X at*;generalize BitVec.ofNat 32 y=Y at*;generalize BitVec.ofNat 32 d=Z at*;have l:∀w:BitVec 32,bin .shr _ (.i .u64 31)=some (.i .u32 ((w.toNat/2147483648:Nat))):=λw=>eE (by decide);simp only[ap3,go_sem,a,l,aq3,aq4,aq5,aq6]
def LV{x y b:Nat}(a:x<4294967296)(d:y<4294967296)(e:b<=1){H:ab}{K:CR->Prop}:ac VS 265 [.i .u32 (x:Int),.i .u32 (y:Int),.i .u32 (b:Int)] H K↔K (.ret (.tu [.i .u32 (((x+8589934592-y-b)%4294967296:Nat):Int),.i .u32 ((if x<y+b then 1 else 0:Nat):Int)]) H):=(ara a d e).c QL rfl rfl (.inl rfl)
def XU{l:List Nat}(i:l≠[])(j:l.length<1000000000){H:ab}{K:CR->Prop}:ac VS 261 [.im 1 (l.map u32)] H K↔K (.ret (.mu H.length l.length 0 l.length) (H++[.ar 1 (l.map u32) none true false])):=by
 have c:=vV (enc:=u32) (w:=1) (bytes:=4) (l:=l) (x0:=.z) rfl .im (λ_=>rfl) (by omega) (by omega) (H:=[]);obtain⟨d,e⟩:bD [] .z (l.map u32)=.mu 0 l.length 0 l.length/\bH [] 1 (l.map u32)=[.ar 1 (l.map u32) none true false]:=by cases l with|nil=>grind|cons a l=>exact⟨by simp[bD],rfl⟩
 rw[d,e]at c;have f:(l.map u32).take l.length=l.map u32:=E4 (by grind);have h:ai VS 261 [.im 1 (l.map u32)] (.ow 1 (l.map u32)):=by refine .body o8 rfl ?_;have g:eF false .sl (.im 1 (l.map u32)) .nil=some (.b false):=rfl;simp[go_sem,BL,g,c,ff,f]
 rw[fX o8 rfl h (nw (by simp[D.plain,D.flat]))];have:dV mL.own (.ow 1 (l.map u32)) H=(.mu H.length l.length 0 l.length,H++[.ar 1 (l.map u32) none true false]):=by show(D.mu _ _ 0 _,_)=_;grind
 grind
def XV{x:D}(h:Sl 1 [] x):∃d,Sl 1 [] d/\∀(H:ab)(K:CR->Prop),ac VS 261 [x] H K↔K (.ret d H):=by cases h with|nil=>refine⟨.nil,.nil rfl,λH K=>ai.c (vf:=mL) ?_ o8 rfl rfl (.inr rfl)⟩;refine .body (vf:=mL) o8 rfl ?_;have a:eF false .sl .nil .nil=some (.b true):=rfl;simp(disch:=omega)only[go_sem,simprocAttr,BL,a]|z=>refine⟨.z,.z rfl,λH K=>ai.c (vf:=mL) ?_ o8 rfl rfl (.inr rfl)⟩;refine .body (vf:=mL) o8 rfl ?_;have a:eF false .sl .z .nil=some (.b false):=rfl;have c:bu [] .z .z 1 4 true=some (.z,[]):=rfl;simp(disch:=omega)only[go_sem,simprocAttr,BL,a,c]|im=>refine⟨.z,.z rfl,λH K=>ai.c (vf:=mL) ?_ o8 rfl rfl (.inr rfl)⟩;refine .body (vf:=mL) o8 rfl ?_;have a:eF false .sl (.im 1 []) .nil=some (.b false):=rfl;have c:bu [] .z (.im 1 []) 1 4 true=some (.z,[]):=rfl;simp(disch:=omega)only[go_sem,simprocAttr,BL,a,c]
structure arb(l m:List Nat)(x y:D)(i:Nat)(s:St):Prop where h:∃ws b a3 a4 a9 a10,ws.length=l.length/\lm 4294967296 ws/\b<=1/\(∀j,i<=j->j<l.length->ws[j]! =l[j]!)/\vl 4294967296 (ws.take i)+vl 4294967296 (m.take i)=vl 4294967296 (l.take i)+4294967296^i*b/\s=⟨[x,y,.nil,a3,a4,.i .u32 (b:Int),.mu 0 l.length 0 l.length,.i .i64 i,.i .i64 l.length,a9,a10],[.ar 1 (ws.map u32) none true false]⟩
def LW{a f:Nat}{x y:D}(S:bc a x)(U:bc f y)(V:f<=a)(W:(ds 4294967296 a).length<1000000000):∃d,ai VS 292 [x,y] d/\bc (a-f) d:=by
 have r:=S.sl;have t:=U.sl;refine aE.ex (.body zS rfl ?_);by_cases u:a=0
 ·have G:f=0:=by omega
  rw[u,cz]at r;obtain⟨X,I,Y⟩:=XV r;have J:Sl 1 ([].map u32) X:=I;obtain⟨d,w,g⟩:=lY J l9 (by simp);have Z:=λ{H K}=>w.c (H:=H) (K:=K) kG rfl (by simp[I.pl]) (.inl rfl);simp[go_sem,Xl,Y,J.n];rw[bv];simp[go_sem,simprocAttr,BS,Z];exact⟨d,lF g.sl.flat,by rw[u,Nat.zero_sub];exact g⟩
 have aa:=kj ay V;have A:=kV ay u;have m1:=cH ay a;have m2:=cH ay f;have q1:=bX ay a;have q2:=bX ay f;generalize ds 4294967296 a=l at*;generalize ds 4294967296 f=m at*;have ag:x=.im 1 (l.map u32):=by cases r with|nil h=>simp at h;exact absurd h A|z h=>simp at h;exact absurd h A|im=>rfl
 subst ag;have e0:((0:Nat):Int)=0:=rfl;simp[go_sem,Xl,XU A W];refine ak.up (arb l m _ y) l.length ⟨l,0,_,_,_,_,rfl,m1,by omega,λ_ _ _=>rfl,rfl,rfl⟩ ?_;rintro i s hi⟨c,b,a3,a4,a9,ar,k,o,L,B,q,rfl⟩;by_cases e:i<l.length
 ·have M:(i:Int)<l.length:=by omega
  have N:c[i]!<4294967296:=cI o (by omega);have P:=B i (Hk _) e;by_cases Q:i<m.length
  ·have C:(i:Int)<m.length:=by omega
   have g:=cI m2 Q;have n:=λ{H K}=>LV (H:=H) (K:=K) N g L;obtain⟨v,E⟩:∃v,v=(c[i]!+8589934592-m[i]!-b)%4294967296:=⟨_,rfl⟩;rw[<-E]at n;simp(disch:=omega)only[go_sem,BS,t.n,t.q,M,C,u32,wr,k,n,gg];refine⟨by omega,by omega,e,by omega,e,e,c.set i v,_,_,_,_,_,by simp[k],gZ o (by omega),by split<;>omega,λj h3 F=>?_,?_,rfl⟩;·rw[K0 _ _ (by rw[eh];omega),y3 (by omega),<-getElem!_pos c j (by omega)];exact B j (by omega) F
   rw[ft (by rw[eh];omega),AAh (Hk _),ft Q,ft e,K0 _ _ (by rw[eh];omega),AAS,<-P,me];by_cases p:c[i]!<m[i]!+b
   ·rw[G1 p];have:v+m[i]!+b=c[i]!+4294967296:=by omega
    grind
   rw[E1 p];have:v+m[i]!+b=c[i]!:=by omega
   grind
  have C:¬(i:Int)<m.length:=by omega
  have n:=λ{H K}=>LV (H:=H) (K:=K) N (show 0<4294967296 by omega) L;obtain⟨v,E⟩:∃v,v=(c[i]!+8589934592-0-b)%4294967296:=⟨_,rfl⟩;rw[<-E,i4]at n;simp only[Int.natCast_zero]at n;simp(disch:=omega)only[go_sem,BS,t.n,M,C,u32,wr,k,n,gg];refine⟨by omega,e,by omega,e,e,c.set i v,_,_,_,_,_,by simp[k],gZ o (by omega),by split<;>omega,λj h3 F=>?_,?_,rfl⟩;·rw[K0 _ _ (by rw[eh];omega),y3 (by omega),<-getElem!_pos c j (by omega)];exact B j (by omega) F
  rw[E4 (l:=m) (by omega)]at q⊢;rw[ft (by rw[eh];omega),AAh (Hk _),ft e,K0 _ _ (by rw[eh];omega),AAS,<-P,me];by_cases p:c[i]!<b
  ·rw[G1 p];have:v+b=c[i]!+4294967296:=by omega
   grind
  rw[E1 p];have:v+b=c[i]!:=by omega
  grind
 have aj:i=l.length:=by omega
 subst aj;rw[E4 (by omega),E4 aa,E4 (Hk _),q1,q2]at q;have al:vl 4294967296 c=a-f:=by
  have e:=dv ay o;rw[k]at e;rcases hM b 1 with G|G;·rw[show b=0 by omega,nu]at q;omega
  rw[show b=1 by omega,AAP]at q;omega
 obtain⟨d,w,g⟩:=lY .im o (by omega);rw[al]at g;have am:(c.map u32).take l.length=c.map u32:=E4 (by rw[S2];omega);simp[go_sem,BS,qb];refine ac.fzr kG rfl rfl w ⟨_,by simp only[go_sem,simprocAttr,k,am];rfl⟩ (λH'=>?_);simp[go_sem];exact⟨d,lF g.sl.flat,g⟩
end
section
open Go.Dm
set_option maxRecDepth 10000
structure arc(l m:List Nat)(x y:D)(i:Nat)(s:St):Prop where h:∃ws a3 a4 a8 a9 a10 a11 a12 a13 a15 a16 a17,ws.length=l.length+m.length/\lm 4294967296 ws/\vl 4294967296 ws=vl 4294967296 (l.take i)*vl 4294967296 m/\s=⟨[x,y,.nil,a3,a4,.i .i64 i,.i .i64 l.length,x,a8,a9,a10,a11,a12,a13,.mu 0 (l.length+m.length) 0 (l.length+m.length),a15,a16,a17],[.ar 1 (ws.map u32) (some (l.length+m.length)) true false]⟩
structure ard(l m:List Nat)(x y:D)(i j:Nat)(s:St):Prop where h:∃ws c a4 a13 a16 a17,ws.length=l.length+m.length/\lm 4294967296 ws/\c<4294967296/\ws[i+m.length]! =0/\vl 4294967296 ws+4294967296^(i+j)*c=vl 4294967296 (l.take i)*vl 4294967296 m+4294967296^i*l[i]!*vl 4294967296 (m.take j)/\s=⟨[x,y,.nil,.b true,a4,.i .i64 i,.i .i64 l.length,x,.i .u64 c,.i .i64 j,.i .i64 m.length,y,.i .u32 l[i]!,a13,.mu 0 (l.length+m.length) 0 (l.length+m.length),.i .i64 i,a16,a17],[.ar 1 (ws.map u32) (some (l.length+m.length)) true false]⟩
def are{a b:Nat}{x y:D}(C:bc a x)(E:bc b y)(ha:(ds 4294967296 a).length<1000000000)(hb:(ds 4294967296 b).length<1000000000):∃d,ai VS 290 [x,y] d/\bc (a*b) d:=by
 have t:=C.sl;have k:=E.sl;refine aE.ex (.body QU rfl ?_);have u:=cH ay a;have w:=cH ay b;have F:=bX ay a;have G:=bX ay b;generalize ds 4294967296 a=l at*;generalize ds 4294967296 b=m at*;have tn:((l.length:Int)+(m.length:Int)).toNat=l.length+m.length:=by omega
 simp(disch:=omega)only[go_sem,aqi,t.n,k.n,wr,ss];refine⟨⟨⟨by omega,by omega⟩,⟨by omega,by omega⟩,by omega⟩,ak.up (arc l m x y) l.length ⟨_,_,_,_,_,_,_,_,_,_,_,_,by simp,p9 (by omega),by grind[uL,vl],rfl⟩ ?_⟩;rintro i s hi⟨e,a3,H,a8,a9,ah,aj,al,I,am,J,K,f,g,h,rfl⟩;by_cases o:i<l.length
 ·have L:(i:Int)<l.length:=by omega
  have hd:=cI u o;have q:e[i+m.length]! =0:=by
   have g1:=dv ay (fN u i);rw[fL,vn hi]at g1;have z:=dv ay w;have:vl 4294967296 e<4294967296^(i+m.length)*1:=by rw[h,sm,AAP];exact Nat.mul_lt_mul'' g1 z
   have:=so ay this (by omega);omega
  simp only[go_sem,Xi,t.q,k.n,L,u32];refine⟨by omega,ak.up (ard l m x y i) m.length ⟨e,0,_,_,_,_,f,g,by omega,q,by rw[h];simp[vl],rfl⟩ ?_⟩;rintro j s hj⟨e,c,H,I,J,K,f,g,M,q,h,rfl⟩;by_cases r:j<m.length
  ·have N:(j:Int)<m.length:=by omega
   have n:=cI w r;have A:i+j<e.length:=by omega
   have ap:=cI g A;have aq:l[i]!*m[j]!<=4294967295*4294967295:=oz (by omega) (by omega);obtain⟨p,P⟩:∃p,p=l[i]!*m[j]!:=⟨_,rfl⟩;obtain⟨s,hs⟩:∃s,s=p+e[i+j]!+c:=⟨_,rfl⟩;have Q:l[i]!*(m[j]!:Int)=p:=by rw[P];simp
   have e2:IntKind.u64.wrap (p:Int)=(p:Int):=bG (by omega);have S:IntKind.u64.wrap (p+(e[i+j]!))=p+(e[i+j]!):=by rw[dR];omega
   have U:IntKind.u64.wrap (p+(e[i+j]!)+c)=s:=by rw[dR];omega
   have V:bin .shr _ (.i .u64 32)=some (.i .u64 ((s/4294967296:Nat))):=eE (by decide);simp(disch:=omega)only[go_sem,Xg,k.q,N,u32,bG,wr,f,Q,S,U,V,jD,gg];refine⟨by omega,⟨by omega,by omega⟩,by omega,⟨by omega,by omega⟩,by omega,r,e.set _ _,s/4294967296,_,_,_,_,by simp[f],gZ g (ma _ (by omega)),by omega,?_,?_,rfl⟩;·rw[K0 _ _ (by rw[eh];omega),y3 (by omega),<-getElem!_pos e _ (by omega)];exact q
   have g1:=jC (B:=4294967296) (v:=s%4294967296) A;rw[ft r,<-Nat.add_assoc,me];have z:=vd s 4294967296;grind
  have W:j=m.length:=by omega
  subst W;simp(disch:=omega)only[go_sem,Xg,qb,k.n,u32,wr,f,kX,gg];refine⟨⟨by omega,by omega⟩,by omega,o,e.set _ c,_,_,_,_,_,_,_,_,_,_,_,by simp[f],gZ g M,?_,rfl⟩;have g1:=jC (B:=4294967296) (v:=c) (l:=e) (i:=i+m.length) (by omega);rw[ft o];grind
 have X:i=l.length:=by omega
 subst X;rw[E4 (Hk _),F,G]at h;obtain⟨d,Y,n⟩:=lY .im g (by omega);rw[h]at n;have Z:(e.map u32).take (l.length+m.length)=e.map u32:=E4 (by rw[S2];omega);simp[go_sem,Xi,qb];refine ac.fzr kG rfl rfl Y ⟨_,by simp only[go_sem,simprocAttr,f,Z];rfl⟩ (λH'=>?_);simp[go_sem];exact⟨d,lF n.sl.flat,n⟩
def arf{h l y:Nat}(k:h<y)(c:y<4294967296)(m:l<4294967296):ai VS 295 [.i .u32 (h:Int),.i .u32 (l:Int),.i .u32 (y:Int)] (.tu [.i .u32 (((l+4294967296*h)/y:Nat):Int),.i .u32 (((l+4294967296*h)%y:Nat):Int)]):=by
 obtain⟨n,d⟩:∃n,n=l+4294967296*h:=⟨_,rfl⟩;have o:n/y<4294967296:=by rw[AAE (by omega)];omega
 have hr:n%y<4294967296:=Nat.lt_trans (ma _ (by omega)) c;have e:¬((y:Int)=0):=by omega
 have f:¬((y:Int)<=h):=by omega
 have a:bin .shl (.i .u64 h) (.i .u64 32)=some (.i .u64 ((h*4294967296:Nat))):=by rw[show bin .shl _ (.i .u64 32)=some _ from sr (s:=32) (by decide),bG (by omega)]
 obtain⟨g,b⟩:∃g,g=h*4294967296:=⟨_,rfl⟩;have j:bin .or (.i .u64 g) (.i .u64 l)=some (.i .u64 n):=by rw[ya (by omega) (by omega),b,show h*4294967296=h*2^32 from rfl,yc (by omega)];grind
 rw[<-d];rw[<-b]at a;refine .body QW rfl ?_;simp(disch:=omega)only[go_sem,aqj,bG,e,f,a,j,Cp,x8,kX]
def arg{h l y:Nat}(a:h<y)(b:y<4294967296)(d:l<4294967296){H:ab}{K:CR->Prop}:ac VS 295 [.i .u32 (h:Int),.i .u32 (l:Int),.i .u32 (y:Int)] H K↔K (.ret (.tu [.i .u32 (((l+4294967296*h)/y:Nat):Int),.i .u32 (((l+4294967296*h)%y:Nat):Int)]) H):=(arf a b d).c QW rfl rfl (.inl rfl)
structure arh(l:List Nat)(v:Nat)(x:D)(k:Nat)(s:St):Prop where h:∃ws r a4,k<=l.length/\ws.length=l.length/\lm 4294967296 ws/\r<v/\vl 4294967296 (l.drop k)=v*vl 4294967296 (ws.drop k)+r/\s=⟨[x,.i .u32 v,.nil,.i .u32 0,a4,.i .u32 r,.i .i64 ((k:Int)-1),.mu 0 l.length 0 l.length],[.ar 1 (ws.map u32) (some l.length) true false]⟩
def ari{a v:Nat}{x:D}(A:bc a x)(f:0<v)(B:v<4294967296)(N:(ds 4294967296 a).length<1000000000):∃d,ai VS 262 [x,.i .u32 (v:Int)] (.tu [d,.i .u32 ((a%v:Nat):Int)])/\bc (a/v) d:=by
 have p:=A.sl;have C:=cH ay a;have E:=bX ay a;generalize ds 4294967296 a=l at*;obtain⟨j,h,d,P,q⟩:∃j,ai VS 262 [x,.i .u32 v] j/\∃d,j=.tu [d,.i .u32 ((a%v:Nat))]/\bc (a/v) d:=by
  refine aE.ex (.body QJ rfl ?_);simp(disch:=omega)only[go_sem,ap1,p.n,wr,ss];refine⟨⟨⟨by omega,by omega⟩,by omega⟩,ak.loop (arh l v x) _ ⟨_,0,_,Hk _,by simp,p9 (by omega),f,by rw[ez (Hk _),ez (by simp)];rfl,rfl⟩ ?_⟩;rintro k s⟨b,r,Q,S,n,t,hr,g,rfl⟩;rcases k with _|k
  ·rw[AAd,AAd,E]at g;obtain⟨d,F,G⟩:=lY .im t (by omega);have U:vl 4294967296 b=a/v:=by rw[g,Nat.mul_add_div f,AAe hr,k0]
   have V:a%v=r:=by rw[g,Nat.mul_add_mod,oa hr]
   have I:(b.map u32).take l.length=b.map u32:=E4 (by grind);simp only[go_sem,simprocAttr,WT];refine ac.fzr kG rfl rfl F ⟨_,by simp only[go_sem,simprocAttr,n,I];rfl⟩ (λW=>?_);have J:=λm H=>ah G.sl.flat m H;simp only[go_sem,J];grind
  have e:((k:Int)+1-1)=k:=by omega
  have q:l[k]!<4294967296:=cI C (by omega);have L:(0:Int)<=(k:Int):=by omega
  have u:=λ{H K}=>arg (H:=H) (K:=K) hr B q;obtain⟨c,w⟩:∃c,c=(l[k]!+4294967296*r)/v:=⟨_,rfl⟩;obtain⟨o,y⟩:∃o,o=(l[k]!+4294967296*r)%v:=⟨_,rfl⟩;have g1:=vd (l[k]!+4294967296*r) v;have z:=ma (l[k]!+4294967296*r) f;rw[<-w,<-y]at g1 u;rw[<-y]at z;have M:c<4294967296:=by rw[w,AAE f];omega
  simp(disch:=omega)only[go_sem,WT,p.q,u32,wr,n,e,L,u,gg];repeat' first|(refine And.intro ?_ ?_)|intro _
  all_goals try omega
  refine⟨k,by omega,b.set k c,o,_,by omega,by simp[n],gZ t M,z,?_,rfl⟩;rw[dw (by omega),dw (l:=b.set k c) (by rw[eh];omega),g,ABf (by omega),K0 (b.set k c) k (by rw[eh];omega),AAS];grind
 grind
end
end Go.Proofs.YtekgndcflpklkaaGreatDoor.Dv
namespace Go.Dm
section
variable{x y z:Nat}
def Mp{v P d:Nat}(a:y<P)(h:x<d*z):x*P+y<d*(z*P+v):=by have b:(x+1)*P<=d*z*P:=N3 _ h;grind
def YB{v P d B:Nat}(a:v<P)(b:d<=B)(c:B<=z)(h:d*z<=x):(d-1)*(z*P+v)<=x*P+y:=by
 rcases d with _|d;·simp
 have e:d*v<=z*P:=oz (by omega) (by omega);have f:(d+1)*z*P<=x*P:=N3 _ h;grind
structure qe(B U V u2 u1 u0 v1 v2 P:Nat):Prop where
 hu:∃u,u<P/\U=((u2*B+u1)*B+u0)*P+u
 hv:∃v,v<P/\V=(v1*B+v2)*P+v
 n:B<=2*v1
 b1:u1<B
 b0:u0<B
 b2:v2<B
 lt:U<V*B
 pB:2<=B
section
variable{B U V u2 u1 u0 v1 v2 P:Nat}
def qe.head(h:qe B U V u2 u1 u0 v1 v2 P):u2*B+u1<=v1*B+v2:=by
 obtain⟨u,a,b⟩:=h.hu;obtain⟨v,d,e⟩:=h.hv;have f:=h.lt;rcases hM (v1*B+v2) (u2*B+u1)with c|c;·exfalso;have g:(v1*B+v2+1)*B*P<=((u2*B+u1)*B+u0)*P:=N3 _ (by have:(v1*B+v2+1)*B<=(u2*B+u1)*B:=N3 _ c;omega);have i:((v1*B+v2)*P+v)*B<=(v1*B+v2+1)*P*B:=N3 _ (by grind);grind
 omega
structure gh(B U V u2 u1 u0 v1 v2 P d r:Nat):Prop where
 e:d*v1+r=u2*B+u1
 hi:U<(d+1)*V
def gh.start(h:qe B U V u2 u1 u0 v1 v2 P):gh B U V u2 u1 u0 v1 v2 P ((u2*B+u1)/v1) ((u2*B+u1)%v1):=by obtain⟨u,c,d⟩:=h.hu;obtain⟨v,f,e⟩:=h.hv;have g:=h.n;have i:=h.b0;refine⟨by rw[AAv];exact AAR _ _,?_⟩;rw[d,e];refine Mp c ?_;have g1:=Nat.lt_div_mul_add (a:=u2*B+u1) (b:=v1) (by omega);have j:(u2*B+u1+1)*B<=((u2*B+u1)/v1*v1+v1)*B:=N3 _ (by omega);grind
def gh.less{d:Nat}(h:qe B U V u2 u1 u0 v1 v2 P)(i:gh B U V u2 u1 u0 v1 v2 P d x)(c:B<=d\/x*B+u0<d*v2):d≠0/\gh B U V u2 u1 u0 v1 v2 P (d-1) (x+v1):=by
 have g:=h.pB;have a:d≠0:=by grind
 refine⟨a,?_,?_⟩
 ·have:=i.e;have j:d*v1=(d-1)*v1+v1:=by rw[<-Nat.succ_mul];grind
  omega
 rw[Nat.sub_add_cancel (by omega)];rcases c with c|c;·refine em h.lt ?_;rw[AAv V];exact N3 _ c
 obtain⟨u,b,e⟩:=h.hu;obtain⟨v,k,f⟩:=h.hv;rw[e,f];refine Mp b ?_;have:=i.e;have l:(d*v1+x)*B=d*v1*B+x*B:=by grind
 grind
def gh.stop{d:Nat}(h:qe B U V u2 u1 u0 v1 v2 P)(i:gh B U V u2 u1 u0 v1 v2 P d x)(a:d<B)(c:d*v2<=x*B+u0):(d-1)*V<=U:=by
 obtain⟨u,g,b⟩:=h.hu;obtain⟨v,e,f⟩:=h.hv;have j:=h.n;rw[b,f];have k:=i.e;refine YB e (AB3 a) ?_ ?_;·have:B*1<=B*v1:=eu _ (by omega);grind
 have l:(d*v1+x)*B=d*v1*B+x*B:=by grind
 grind
def gh.brk{d:Nat}(h:qe B U V u2 u1 u0 v1 v2 P)(i:gh B U V u2 u1 u0 v1 v2 P d x)(hr:B<=x):d<B/\d*v2<=x*B+u0:=by
 have b:=h.head;have e:=h.b2;have f:=i.e;have a:d<B:=by
  rcases hM d B with c|c;·exact c
  have:B*v1<=d*v1:=N3 _ c;grind
 refine⟨a,?_⟩;have g:d*v2<=B*B:=oz (by omega) (by omega);have j:B*B<=x*B:=N3 _ hr;omega
end
end
end Go.Dm
namespace Go.Proofs.YtekgndcflpklkaaGreatDoor.Dv
section
open Go.Dm
set_option maxRecDepth 10000
set_option maxRecDepth 100000
def arj{x y b:Nat}(f:x<4294967296)(g:y<4294967296)(h:b<=1):ai VS 296 [.i .u32 (x:Int),.i .u32 (y:Int),.i .u32 (b:Int)] (.tu [.i .u32 (((x+y+b)%4294967296:Nat):Int),.i .u32 (((x+y+b)/4294967296:Nat):Int)]):=by
 obtain⟨s,hs⟩:∃s,s=x+y+b:=⟨_,rfl⟩;have a:IntKind.u64.wrap (x+y)=x+y:=by grind[dR]
 have c:IntKind.u64.wrap (x+y+b)=s:=by grind[dR]
 have d:bin .shr _ (.i .u64 32)=some (.i .u64 ((s/4294967296:Nat))):=eE (by decide);have e:s/4294967296%4294967296=s/4294967296:=by omega
 rw[<-hs];refine .body QX rfl ?_;simp(disch:=omega)only[go_sem,aqk,bG,a,c,d,e,jD]
def ark{x y b:Nat}(a:x<4294967296)(d:y<4294967296)(e:b<=1){H:ab}{K:CR->Prop}:ac VS 296 [.i .u32 (x:Int),.i .u32 (y:Int),.i .u32 (b:Int)] H K↔K (.ret (.tu [.i .u32 (((x+y+b)%4294967296:Nat):Int),.i .u32 (((x+y+b)/4294967296:Nat):Int)]) H):=(arj a d e).c QX rfl rfl (.inl rfl)
structure rZ(j n:Nat)(us ws:List Nat):Prop where
 len:ws.length=us.length
 lo:ws.take j=us.take j
 hi:ws.drop (j+n+1)=us.drop (j+n+1)lm:lm 4294967296 ws
variable{x y z a b c d:Nat}{e f:List Nat}
def rZ.set{j n v:Nat}(h:rZ j n e f)(hi:x<=n)(a:v<4294967296):rZ j n e (f.set (j+x) v)where
 len:=by rw[eh,h.len]
 lo:=by rw[AAh (by omega),h.lo]
 hi:=by rw[ABf (by omega),h.hi]
 lm:=gZ h.lm a
def dH(a vs:List Nat)(b c:Option Nat)(d:Bool)(e:an):ab:=[.ar 1 (vs.map u32) c true d,.ar 1 (a.map u32) b true false,e]
def LY{l:List Nat}{j:Nat}(h:x=j):l[x]! =l[j]!:=by rw[h]
def kn0{vs:List Nat}{j n:Nat}(a:lm 4294967296 e)(b:lm 4294967296 vs)(o:2<=n)(p:vs.length=n+1)(q:j+n+1<=e.length)(r:2147483648<=vs[n-1]!)(s:vl 4294967296 (e.drop (j+1))<vl 4294967296 (vs.take n)):qe 4294967296 (vl 4294967296 (e.drop j)) (vl 4294967296 (vs.take n)) e[j+n]! e[j+n-1]! e[j+n-2]! vs[n-1]! vs[n-2]! (4294967296^(n-2)):=by
 have h:(vs.take n).length=n:=by rw[fL];omega
 have k:=dv ay (fN b n);rw[h]at k;have m:vl 4294967296 (e.drop (j+n+1))=0:=by
  have g:=eC (B:=4294967296) (e.drop (j+1)) n (by rw[l3];omega);rw[AAc,show j+1+n=j+n+1 by omega]at g;rcases wN (vl 4294967296 (e.drop (j+n+1)))with c|c;·exact c
  have:=eu (4294967296^n) c;omega
 refine⟨⟨vl 4294967296 ((e.drop j).take (n-2)),?_,?_⟩,⟨vl 4294967296 (vs.take (n-2)),?_,?_⟩,by omega,cI a (by omega),cI a (by omega),cI b (by omega),?_,ay⟩;·have:=dv ay (fN (xW a j) (n-2));rwa[fL,l3,vn (by omega)]at this
 ·have g:=eC (B:=4294967296) (e.drop j) (n-2) (by rw[l3];omega);rw[AAc]at g;rw[g,dw (by omega),dw (by omega),dw (by omega),show j+(n-2)+1+1+1=j+n+1 by omega,m,LY (show j+(n-2)=j+n-2 by omega),LY (show j+(n-2)+1=j+n-1 by omega),LY (show j+(n-2)+1+1=j+n by omega)];grind
 ·have:=dv ay (fN b (n-2));rwa[fL,vn (by omega)]at this
 ·have d:=ft (B:=4294967296) (l:=vs) (i:=n-1) (by omega);have f:=ft (B:=4294967296) (l:=vs) (i:=n-2) (by omega);rw[show n-1+1=n by omega]at d;rw[show n-2+1=n-1 by omega]at f;rw[d,f,show n-1=n-2+1 by omega,me];grind
 rw[dw (by omega)];have:=cI a (i:=j) (by omega);omega
structure arm(us vs:List Nat)(j n N:Nat)(cu cv:Option Nat)(lv:Bool)(bq:an)(d:Nat)(s:St):Prop where h:∃r a3 a4 a9,r<4294967296/\d<8589934592/\gh 4294967296 (vl 4294967296 (us.drop j)) (vl 4294967296 (vs.take n)) us[j+n]! us[j+n-1]! us[j+n-2]! vs[n-1]! vs[n-2]! (4294967296^(n-2)) d r/\s=⟨[.mu 1 N j (n+1),.mu 0 (n+1) 0 n,.i .u32 0,a3,a4,.u,.u,.u,.i .i64 n,a9,.i .u64 (vs[n-1]!:Int),.i .u64 (d:Int),.i .u64 (r:Int),.u,.u,.u,.u,.u,.u,.u,.u,.u,.u,.u,.u,.u,.u,.u,.u],dH us vs cu cv lv bq⟩
def uD{v:Nat}(h:v<4294967296):bin .shl (.i .u64 (v:Int)) (.i .u64 32)=some (.i .u64 ((4294967296*v:Nat):Int)):=by rw[show bin .shl _ (.i .u64 32)=some _ from sr (s:=32) (by decide),bG (by omega),AAv]
def xE{v a:Nat}(h:v<4294967296)(b:a<4294967296):bin .or (.i .u64 ((4294967296*v:Nat):Int)) (.i .u64 (a:Int))=some (.i .u64 ((a+4294967296*v:Nat):Int)):=by rw[ya (by omega) (by omega),show 4294967296*v=v*2^32 by omega,yc (by omega)]
def LZ:aQ:=match BN.body with|.seq _ (.seq _ (.seq _ (.seq _ (.seq _ (.seq _ r)))))=>r|_=>.skip
structure arn(us vs:List Nat)(j n N d:Nat)(cu cv:Option Nat)(lv:Bool)(bq:an)(x9 x10 x12:D)(i:Nat)(s:St):Prop where h:∃ws c b a3 a4 a5 a18 a19 a20 a21,rZ j n us ws/\c<4294967296/\b<=1/\(∀k,i<=k->k<=n->ws[j+k]! =us[j+k]!)/\vl 4294967296 ws+4294967296^j*(d*vl 4294967296 (vs.take i))=vl 4294967296 us+4294967296^(j+i)*(c+b)/\s=⟨[.mu 1 N j (n+1),.mu 0 (n+1) 0 n,.i .u32 0,a3,a4,a5,.u,.u,.i .i64 n,x9,x10,.i .u64 (d:Int),x12,.i .u64 (c:Int),.i .u64 (b:Int),.i .i64 i,.i .i64 n,.mu 0 (n+1) 0 n,a18,a19,a20,a21,.u,.u,.u,.u,.u,.u,.u],dH ws vs cu cv lv bq⟩
structure aro(us w0 vs:List Nat)(j n N d:Nat)(cu cv:Option Nat)(lv:Bool)(bq:an)(i:Nat)(s:St):Prop where h:∃ws up b3 b4 b5 b6 b7 b9 b10 b12 b13 b14 b15 b16 b17 b18 b19 b20 b21 b22 b27 b28,rZ j n us ws/\up<=1/\(∀k,i<=k->k<=n->ws[j+k]! =w0[j+k]!)/\vl 4294967296 ws+4294967296^(j+i)*up=vl 4294967296 w0+4294967296^j*vl 4294967296 (vs.take i)/\s=⟨[.mu 1 N j (n+1),.mu 0 (n+1) 0 n,.i .u32 0,b3,b4,b5,b6,b7,.i .i64 n,b9,b10,.i .u64 (d:Int),b12,b13,b14,b15,b16,b17,b18,b19,b20,b21,b22,.i .u32 (up:Int),.i .i64 i,.i .i64 n,.mu 0 (n+1) 0 n,b27,b28],dH ws vs cu cv lv bq⟩
def arp{T P B x y up V e d:Nat}(f:z+P*c*x=b+P*c*y)(g:b+P*c*up=a+P*V)(t1:a+P*((d+1)*V)=T+P*c*B)(h:y+B*e=x+up):z+P*c*B*e+P*(d*V)=T+P*c*B:=by grind
def arq{vs:List Nat}{j n:Nat}(a:lm 4294967296 vs)(f:vs.length=n+1)(h:j+n+1<=e.length)(i:vl 4294967296 (e.drop (j+1))<vl 4294967296 (vs.take n)):vl 4294967296 (e.drop (j+n+1))=0:=by
 have b:(vs.take n).length=n:=by grind
 have d:=dv ay (fN a n);rw[b]at d;have g:=eC (B:=4294967296) (e.drop (j+1)) n (by grind);rw[AAc,show j+1+n=j+n+1 by omega]at g;rcases wN (vl 4294967296 (e.drop (j+n+1)))with c|c;·exact c
 have:=eu (4294967296^n) c;omega
theorem rZ.val{j n:Nat}(h:rZ j n e f)(c:j+n+1<=e.length)(a:vl 4294967296 (e.drop (j+n+1))=0):vl 4294967296 f=vl 4294967296 (e.take j)+4294967296^j*vl 4294967296 (f.drop j)/\vl 4294967296 (f.drop j)<4294967296^(n+1):=by have d:=h.len;have g1:=eC (B:=4294967296) f j (by omega);rw[h.lo]at g1;refine⟨g1,?_⟩;have b:=eC (B:=4294967296) (f.drop j) (n+1) (by grind);rw[AAc,<-Nat.add_assoc,h.hi,a]at b;have g:=dv ay (fN (xW h.lm j) (n+1));grind
variable{g h i j k:D}
def L0{vs:List Nat}{j n d:Nat}{J L:Option Nat}{M:Bool}{N:an}{ar au:D}(a7:lm 4294967296 e)(aa:lm 4294967296 vs)(hn:2<=n)(ab:vs.length=n+1)(hN:e.length=x)(ad:j+n+1<=e.length)(b1:e.length<2000000000)(hU:vl 4294967296 (e.drop (j+1))<vl 4294967296 (vs.take n))(hd:d<4294967296)(h1:vl 4294967296 (e.drop j)<(d+1)*vl 4294967296 (vs.take n))(h2:(d-1)*vl 4294967296 (vs.take n)<=vl 4294967296 (e.drop j)):ak VS LZ ⟨[.mu 1 x j (n+1),.mu 0 (n+1) 0 n,.i .u32 0,g,h,.u,.u,.u,.i .i64 n,i,ar,.i .u64 (d:Int),au,.u,.u,.u,.u,.u,.u,.u,.u,.u,.u,.u,.u,.u,.u,.u,.u],dH e vs J L M N⟩ (dh [.s 2] (λr=>∃a,a.length=x/\lm 4294967296 a/\vl 4294967296 a+4294967296^j*(vl 4294967296 (e.drop j)/vl 4294967296 (vs.take n)*vl 4294967296 (vs.take n))=vl 4294967296 e/\vl 4294967296 (a.drop j)<vl 4294967296 (vs.take n)/\r=.ret (.i .u32 ((vl 4294967296 (e.drop j)/vl 4294967296 (vs.take n):Nat):Int)) (dH a vs J L M N))):=by
 have hz:=arq aa ab ad hU;simp only[go_sem,LZ,W8,dH];refine ak.up (arn e vs j n x d J L M N i ar au) n ⟨e,0,0,_,_,_,_,_,_,_,⟨rfl,rfl,rfl,a7⟩,by omega,by omega,λ_ _ _=>rfl,by simp[vl],rfl⟩ ?_;rintro f s hi⟨a,c,b,g,h,a5,b4,b5,b6,b7,q,hc,hb,hw,hv,rfl⟩;have t:=q.len;rw[hN]at t;have I:=q.lm;by_cases a8:f<n
 ·have c1:(f:Int)<(n:Int):=by omega
  have ay:vs[f]!<4294967296:=cI aa (by omega);have P:a[j+f]!<4294967296:=cI I (by omega);have cb:d*vs[f]!<=4294967295*4294967295:=oz (by omega) (by omega);obtain⟨E,a9⟩:∃E,E=d*vs[f]!:=⟨_,rfl⟩;obtain⟨p,hp⟩:∃p,p=E+c:=⟨_,rfl⟩;have e1:d*(vs[f]!:Int)=E:=by rw[a9];simp
  have e2:IntKind.u64.wrap (E:Int)=(E:Int):=bG (by omega);have e3:IntKind.u64.wrap (E+c)=p:=by rw[dR];omega
  have e4:bin .shr _ (.i .u64 32)=some (.i .u64 ((p/4294967296:Nat))):=eE (by decide);obtain⟨lo,bd⟩:∃lo,lo=p%4294967296:=⟨_,rfl⟩;have e5:IntKind.u32.wrap p=lo:=by rw[jD,bd]
  obtain⟨df,bf⟩:∃df,df=(a[j+f]!+18446744073709551616-lo-b)%18446744073709551616:=⟨_,rfl⟩;have Q:IntKind.u64.wrap (IntKind.u64.wrap ((a[j+f]!)-lo)-b)=df:=by rw[dR,dR];omega
  have z:bin .shr _ (.i .u64 63)=some (.i .u64 ((df/9223372036854775808:Nat))):=eE (by decide);obtain⟨o,ah⟩:∃o,o=df/9223372036854775808:=⟨_,rfl⟩;obtain⟨y,hy⟩:∃y,y=df%4294967296:=⟨_,rfl⟩;have S:IntKind.u32.wrap df=y:=by rw[jD,hy]
  rw[<-ah]at z;have key:o<=1/\y+lo+b=a[j+f]!+4294967296*o:=by
   rcases hM a[j+f]! (lo+b)with hq|hq
   ·have:df=a[j+f]!+18446744073709551616-lo-b:=by omega
    omega
   have:df=a[j+f]!-lo-b:=by omega
   omega
  have w1:IntKind.u64.wrap (lo:Int)=(lo:Int):=bG (by omega);simp(disch:=omega)only[go_sem,KM,dH,c1,u32,wr,bG,t,ab,e1,e3,e4,e5,Q,z,S,gg];repeat' first|(refine And.intro ?_ ?_)|intro _
  all_goals try omega
  refine⟨a.set _ y,p/4294967296,o,_,_,_,_,_,_,_,q.set (by omega) (by omega),by omega,by omega,λk h3 h4=>?_,?_,rfl⟩;·rw[K0 _ _ (by rw[eh];omega),y3 (by omega),<-getElem!_pos a _ (by omega)];exact hw k (by omega) h4
  have g1:=jC (B:=4294967296) (v:=y) (l:=a) (i:=j+f) (by omega);rw[ft (by omega),<-Nat.add_assoc,me];have g2:=vd p 4294967296;grind
 have bi:f=n:=by omega
 subst bi;have P:a[j+f]!<4294967296:=cI I (by omega);obtain⟨df,bf⟩:∃df,df=(a[j+f]!+18446744073709551616-c-b)%18446744073709551616:=⟨_,rfl⟩;have Q:IntKind.u64.wrap (IntKind.u64.wrap ((a[j+f]!)-c)-b)=df:=by rw[dR,dR];omega
 have z:bin .shr _ (.i .u64 63)=some (.i .u64 ((df/9223372036854775808:Nat))):=eE (by decide);obtain⟨o,ah⟩:∃o,o=df/9223372036854775808:=⟨_,rfl⟩;obtain⟨y,hy⟩:∃y,y=df%4294967296:=⟨_,rfl⟩;have S:IntKind.u32.wrap df=y:=by rw[jD,hy]
 rw[<-ah]at z;have W:=q.set (v:=y) (by omega) (by omega);obtain⟨q1,q2⟩:=W.val ad hz;have q3:=eC (B:=4294967296) e j (by omega);have g1:=jC (B:=4294967296) (v:=y) (l:=a) (i:=j+f) (by omega);have g3:4294967296^(j+f)=4294967296^j*4294967296^f:=sm ..;have X:0<4294967296^j:=td (by omega);rcases hM a[j+f]! (c+b)with hq|hq
 ·have bk:df=a[j+f]!+18446744073709551616-c-b:=by omega
  have bl:o=1:=by omega
  have cf:¬((1:Int)=0):=by omega
  rw[bl]at z;have key:y+c+b=a[j+f]!+4294967296:=by omega
  have t1:vl 4294967296 (a.set (j+f) y)+4294967296^j*(d*vl 4294967296 (vs.take f))=vl 4294967296 e+4294967296^j*4294967296^f*4294967296:=by grind
  simp(disch:=omega)only[go_sem,simprocAttr,KM,qb,dH,u32,bG,t,Q,z,S,gg];obtain⟨F,bm⟩:∃F,F=a.set (j+f) y:=⟨_,rfl⟩;rw[<-bm]at W t1 q1 q2⊢;refine⟨⟨by omega,by omega⟩,by omega,⟨by omega,by omega⟩,by omega,ak.up (aro e F vs j f x d J L M N) f ⟨F,0,_,_,_,_,_,_,_,_,_,_,_,_,_,_,_,_,_,_,_,_,W,by omega,λ_ _ _=>rfl,by simp[vl],rfl⟩ ?_⟩;rintro k s hk⟨a,Y,b3,ci,cj,ck,cl,b9,cn,co,cp,cq,cr,cs,ct,cu,cv,cw,cx,cy,cz,c0,q,bo,hw,a0,rfl⟩;have t:=q.len;rw[hN]at t;have I:=q.lm;by_cases a8:k<f
  ·have c1:(k:Int)<f:=by omega
   have ay:vs[k]!<4294967296:=cI aa (by omega);have P:a[j+k]!<4294967296:=cI I (by omega);have es:=λ{H K}=>ark (H:=H) (K:=K) P ay bo;obtain⟨s,hs⟩:∃s,s=a[j+k]!+vs[k]!+Y:=⟨_,rfl⟩;rw[<-hs]at es;simp(disch:=omega)only[go_sem,WZ,dH,c1,u32,wr,t,ab,es,gg];repeat' first|(refine And.intro ?_ ?_)|intro _
   all_goals try omega
   refine⟨a.set _ _,s/4294967296,_,_,_,_,_,_,_,_,_,_,_,_,_,_,_,_,_,_,_,_,q.set (by omega) (by omega),by omega,λm h3 h4=>?_,?_,rfl⟩;·rw[K0 _ _ (by rw[eh];omega),y3 (by omega),<-getElem!_pos a _ (by omega)];exact hw m (by omega) h4
   have g1:=jC (B:=4294967296) (v:=s%4294967296) (l:=a) (i:=j+k) (by omega);rw[ft (by omega),<-Nat.add_assoc,me];have g2:=vd s 4294967296;have g3:4294967296^(j+k)=4294967296^j*4294967296^k:=sm ..;grind
  have bp:k=f:=by omega
  subst bp;have P:a[j+k]!<4294967296:=cI I (by omega);obtain⟨s,hs⟩:∃s,s=a[j+k]!+Y:=⟨_,rfl⟩;obtain⟨A,c2⟩:∃A,A=s%4294967296:=⟨_,rfl⟩;have e9:IntKind.u32.wrap ((a[j+k]!)+Y)=A:=by rw[Mm];omega
  have Z:=q.set (v:=A) (by omega) (by omega);obtain⟨p1,p2⟩:=Z.val ad hz;have f1:=jC (B:=4294967296) (v:=A) (l:=a) (i:=j+k) (by omega);obtain⟨C,he,c4⟩:∃C,A+4294967296*C=s/\C<=1:=⟨s/4294967296,by omega,by omega⟩;obtain⟨G,a3⟩:∃G,G=a.set (j+k) A:=⟨_,rfl⟩;rw[<-a3]at Z p1 p2 f1;obtain⟨V,hV⟩:∃V,V=vl 4294967296 (vs.take k):=⟨_,rfl⟩;obtain⟨U,a4⟩:∃U,U=vl 4294967296 (e.drop j):=⟨_,rfl⟩;rw[<-hV]at hU h1 h2 t1;rw[<-a4]at h1 h2 q3;have c5:d≠0:=by rintro rfl;rw[AB4,nu,k0,q1,q3]at t1;have:vl 4294967296 (F.drop j)=U+4294967296^(k+1):=AAb X (by rw[me];grind);omega
  obtain⟨w,rfl⟩:∃w,d=w+1:=⟨d-1,by omega⟩;rw[ABn]at h2;rw[g3]at f1;rw[g3,<-hV]at a0;have t2:=arp f1 a0 t1 (show A+4294967296*C=a[j+k]!+Y by omega);have t3:vl 4294967296 (G.drop j)+4294967296^(k+1)*C+w*V=U+4294967296^(k+1):=AAb X (by rw[me];grind);have t4:vl 4294967296 (F.drop j)+(w+1)*V=U+4294967296^(k+1):=AAb X (by rw[me];grind);have bt:C=1:=by
   rcases hM C 1 with c|c;·rw[show C=0 by omega,nu]at t3;omega
   omega
  subst bt;have t5:vl 4294967296 (G.drop j)+w*V=U:=by omega
  have t6:(w+1)*V=w*V+V:=AA7 ..;have t7:vl 4294967296 (G.drop j)<V:=by omega
  have t8:=ACQ (by omega) (by omega);have bx:IntKind.u64.wrap ((w+1)-1)=w:=by rw[dR];omega
  rw[<-hV,<-a4,t8];simp(disch:=omega)only[go_sem,WZ,qb,dH,u32,kX,t,e9,bx,gg];repeat' first|(refine And.intro ?_ ?_)|intro _
  all_goals try omega
  refine⟨G,by rw[Z.len,hN],Z.lm,?_,t7,by rw[a3]⟩;rw[p1,q3,<-t5];grind
 have bk:df=a[j+f]!-c-b:=by omega
 have bz:o=0:=by omega
 rw[bz]at z;have key:y+c+b=a[j+f]!:=by omega
 have t1:vl 4294967296 (a.set (j+f) y)+4294967296^j*(d*vl 4294967296 (vs.take f))=vl 4294967296 e:=by grind
 have t2:vl 4294967296 ((a.set (j+f) y).drop j)+d*vl 4294967296 (vs.take f)=vl 4294967296 (e.drop j):=AAb X (by grind);have t3:(d+1)*vl 4294967296 _=d*vl 4294967296 (vs.take f)+vl 4294967296 _:=AA7 ..;have t4:vl 4294967296 (e.drop j)/vl 4294967296 (vs.take f)=d:=ACQ (by omega) (by omega);rw[t4];simp(disch:=omega)only[go_sem,KM,qb,dH,u32,bG,kX,t,Q,z,S,gg];exact⟨⟨by omega,by omega⟩,by omega,⟨by omega,by omega⟩,by omega,a.set _ y,by rw[eh,t],W.lm,t1,by omega,rfl⟩
variable{l m:Option Nat}
def ars{vs:List Nat}{j n:Nat}{z:Bool}{A:an}(g:lm 4294967296 e)(h:lm 4294967296 vs)(t:2<=n)(c:vs.length=n+1)(f:e.length=x)(u:j+n+1<=e.length)(B:e.length<2000000000)(S:2147483648<=vs[n-1]!)(v:vl 4294967296 (e.drop (j+1))<vl 4294967296 (vs.take n)):ac VS 264 [.mu 1 x j (n+1),.mu 0 (n+1) 0 n] (dH e vs l m z A) (λr=>∃k,k.length=x/\lm 4294967296 k/\vl 4294967296 k+4294967296^j*(vl 4294967296 (e.drop j)/vl 4294967296 (vs.take n)*vl 4294967296 (vs.take n))=vl 4294967296 e/\vl 4294967296 (k.drop j)<vl 4294967296 (vs.take n)/\r=.ret (.i .u32 ((vl 4294967296 (e.drop j)/vl 4294967296 (vs.take n):Nat):Int)) (dH k vs l m z A)):=by
 have a:=kn0 g h t c u S v;have U:=cI g (i:=j+n) (by omega);have V:=a.b1;have W:=a.b0;have af:=cI h (i:=n-1) (by omega);have ag:=a.b2;have C:=gh.start a;have i1:((n:Int)-1).toNat=n-1:=by omega
 have M:((n:Int)-2).toNat=n-2:=by omega
 have X:j+(n-1)=j+n-1:=by omega
 have N:j+(n-2)=j+n-2:=by omega
 have Y:¬((vs[n-1]!:Int)=0):=by omega
 have Z:e[j+n]!*4294967296+e[j+n-1]! =e[j+n-1]!+4294967296*e[j+n]!:=by omega
 rw[Z]at C;obtain⟨w,P⟩:∃w,w=e[j+n-1]!+4294967296*e[j+n]!:=⟨_,rfl⟩;have Q:=xE U V;rw[<-P]at Q;have E:w/vs[n-1]!<8589934592:=by rw[AAE (by omega)];omega
 have hr:=ma w (show 0<vs[n-1]! by omega);rw[<-P]at C;refine .body ag7 rfl rfl ?_;rw[W8];show ak VS (.seq _ (.seq _ (.seq _ (.seq _ (.seq _ (.seq _ LZ)))))) _ _;simp(disch:=omega)only[go_sem,dH,c,f,u32,wr,bG,X,uD,Q,Cp,x8,Y];refine⟨⟨by omega,by omega⟩,by omega,⟨by omega,by omega⟩,by omega,⟨by omega,by omega⟩,?_⟩;refine ak.loop (arm e vs j n x l m z A) _ ⟨_,_,_,_,by omega,E,C,rfl⟩ ?_;rintro d s⟨r,a3,a4,a9,hr,am,hi,rfl⟩;have F:=xE hr W;by_cases aa:4294967296<=d
 ·have y:(4294967296:Int)<=d:=by omega
  obtain⟨ab,b⟩:=gh.less a hi (.inl aa);have G:IntKind.u64.wrap (d-1)=((d-1:Nat)):=by rw[dR];omega
  have H:IntKind.u64.wrap (r+(vs[n-1]!))=((r+vs[n-1]!:Nat)):=by rw[dR];omega
  obtain⟨o,ad⟩:∃o,o=r+vs[n-1]!:=⟨_,rfl⟩;simp only[go_sem,simprocAttr,KL,dH,y,G,H];refine⟨λI=>?_,λI=>⟨d-1,by omega,_,_,_,_,by omega,by omega,b,rfl⟩⟩;obtain⟨g1,J⟩:=gh.brk a b (by omega);exact L0 g h t c f u B v g1 b.hi (gh.stop a b g1 J)
 have y:¬(4294967296:Int)<=d:=by omega
 have hm:d*vs[n-2]!<=4294967295*4294967295:=oz (by omega) (by omega);have K:IntKind.u64.wrap (d*(vs[n-2]!))=((d*vs[n-2]!:Nat)):=by exact bG (by omega)
 obtain⟨p,hp⟩:∃p,p=d*vs[n-2]!:=⟨_,rfl⟩;obtain⟨q,E⟩:∃q,q=e[j+n-2]!+4294967296*r:=⟨_,rfl⟩;rw[<-hp]at K;rw[<-E]at F;by_cases ap:q<p
 ·have L:(q:Int)<p:=by omega
  obtain⟨ab,b⟩:=gh.less a hi (.inr (by omega));have G:IntKind.u64.wrap (d-1)=((d-1:Nat)):=by rw[dR];omega
  have H:IntKind.u64.wrap (r+(vs[n-1]!))=((r+vs[n-1]!:Nat)):=by rw[dR];omega
  obtain⟨o,ad⟩:∃o,o=r+vs[n-1]!:=⟨_,rfl⟩;simp(disch:=omega)only[go_sem,simprocAttr,KL,dH,c,f,u32,wr,bG,M,N,uD,y,L,K,G,H,F];refine⟨⟨by omega,by omega⟩,⟨by omega,by omega⟩,by omega,λI=>?_,λI=>⟨d-1,by omega,_,_,_,_,by omega,by omega,b,rfl⟩⟩;obtain⟨g1,J⟩:=gh.brk a b (by omega);exact L0 g h t c f u B v g1 b.hi (gh.stop a b g1 J)
 have L:¬(q:Int)<p:=by omega
 simp(disch:=omega)only[go_sem,KL,dH,c,f,u32,wr,bG,M,N,uD,y,L,K,F];refine⟨⟨by omega,by omega⟩,⟨by omega,by omega⟩,by omega,?_⟩;exact L0 g h t c f u B v (by omega) hi.hi (gh.stop a hi (by omega) (by omega))
end
section
open Go.Dm
set_option maxRecDepth 10000
def n7:List UInt8:=[0,1,2,2,3,3,3,3,4,4,4,4,4,4,4,4,5,5,5,5,5,5,5,5,5,5,5,5,5,5,5,5,6,6,6,6,6,6,6,6,6,6,6,6,6,6,6,6,6,6,6,6,6,6,6,6,6,6,6,6,6,6,6,6,7,7,7,7,7,7,7,7,7,7,7,7,7,7,7,7,7,7,7,7,7,7,7,7,7,7,7,7,7,7,7,7,7,7,7,7,7,7,7,7,7,7,7,7,7,7,7,7,7,7,7,7,7,7,7,7,7,7,7,7,7,7,7,7,8,8,8,8,8,8,8,8,8,8,8,8,8,8,8,8,8,8,8,8,8,8,8,8,8,8,8,8,8,8,8,8,8,8,8,8,8,8,8,8,8,8,8,8,8,8,8,8,8,8,8,8,8,8,8,8,8,8,8,8,8,8,8,8,8,8,8,8,8,8,8,8,8,8,8,8,8,8,8,8,8,8,8,8,8,8,8,8,8,8,8,8,8,8,8,8,8,8,8,8,8,8,8,8,8,8,8,8,8,8,8,8,8,8,8,8,8,8,8,8,8,8,8,8,8,8,8,8]
def B8:([0,1,2,2,3,3,3,3,4,4,4,4,4,4,4,4,5,5,5,5,5,5,5,5,5,5,5,5,5,5,5,5,6,6,6,6,6,6,6,6,6,6,6,6,6,6,6,6,6,6,6,6,6,6,6,6,6,6,6,6,6,6,6,6,7,7,7,7,7,7,7,7,7,7,7,7,7,7,7,7,7,7,7,7,7,7,7,7,7,7,7,7,7,7,7,7,7,7,7,7,7,7,7,7,7,7,7,7,7,7,7,7,7,7,7,7,7,7,7,7,7,7,7,7,7,7,7,7,8,8,8,8,8,8,8,8,8,8,8,8,8,8,8,8,8,8,8,8,8,8,8,8,8,8,8,8,8,8,8,8,8,8,8,8,8,8,8,8,8,8,8,8,8,8,8,8,8,8,8,8,8,8,8,8,8,8,8,8,8,8,8,8,8,8,8,8,8,8,8,8,8,8,8,8,8,8,8,8,8,8,8,8,8,8,8,8,8,8,8,8,8,8,8,8,8,8,8,8,8,8,8,8,8,8,8,8,8,8,8,8,8,8,8,8,8,8,8,8,8,8,8,8,8,8,8,8]:List UInt8)=n7:=rfl
def art:∀x:Fin 256,x.val<2^n7[x.val]!.toNat/\(x.val≠0->2^n7[x.val]!.toNat<=2*x.val)/\n7[x.val]!.toNat<=8:=by decide+kernel
def B9:n7.length=256:=by decide
def aru{x:Nat}(p:x<4294967296)(q:x≠0):∃n:Nat,ai VS 124 [.i .u32 (x:Int)] (.i .i64 (n:Int))/\x<2^n/\2^n<=2*x/\n<=32:=by
 have e:∀y:Nat,bin .shr (.i .u32 (y:Int)) (.i .u64 16)=some (.i .u32 ((y/65536:Nat):Int)):=λy=>eE (s:=16) (by decide);have f:∀y:Nat,bin .shr (.i .u32 (y:Int)) (.i .u64 8)=some (.i .u32 ((y/256:Nat):Int)):=λy=>eE (s:=8) (by decide);have key:∀(y s:Nat),y<256->y≠0->s<=24->y=x/2^s->x<2^(s+n7[y]!.toNat)/\2^(s+n7[y]!.toNat)<=2*x/\s+n7[y]!.toNat<=32:=λy s g j hs k=>by obtain⟨g1,a,b⟩:=art ⟨y,g⟩;simp only at g1 a b;have l:0<2^s:=td (by omega);have m:=AAR x (2^s);have r:=ma x l;rw[<-k]at m;have t:=eu (2^s) (a j);have u:2^s*(y+1)<=2^s*2^n7[y]!.toNat:=eu _ g1;rw[sm];refine⟨by grind,by grind,by omega⟩
 have d:∀y:Nat,y<256->IntKind.u8.wrap (y:Int)=(y:Int):=λy h=>w8 h;by_cases v:65536<=x
 ·have d1:(65536:Int)<=(x:Int):=by omega
  by_cases o:256<=x/65536
  ·have d2:(256:Int)<=((x/65536:Nat):Int):=by omega
   obtain⟨g1,a,b⟩:=key (x/65536/256) 24 (by omega) (by omega) (by omega) (by omega);refine⟨_,?_,g1,a,b⟩;have c:=d (x/65536/256) (by omega);refine .body (vf:=rR) wc rfl ?_;simp(disch:=omega)only[go_sem,simprocAttr,Bl,e,f,d1,d2,c,B8,B9];refine⟨⟨by omega,by omega⟩,?_⟩;simp(disch:=omega)only[wr]
  have d2:¬(256:Int)<=((x/65536:Nat):Int):=by omega
  obtain⟨g1,a,b⟩:=key (x/65536) 16 (by omega) (by omega) (by omega) (by omega);refine⟨_,?_,g1,a,b⟩;have c:=d (x/65536) (by omega);refine .body (vf:=rR) wc rfl ?_;simp(disch:=omega)only[go_sem,simprocAttr,Bl,e,d1,d2,c,B8,B9];refine⟨⟨by omega,by omega⟩,?_⟩;simp(disch:=omega)only[wr]
 have d1:¬(65536:Int)<=(x:Int):=by omega
 by_cases o:256<=x
 ·have d2:(256:Int)<=(x:Int):=by omega
  obtain⟨g1,a,b⟩:=key (x/256) 8 (by omega) (by omega) (by omega) (by omega);refine⟨_,?_,g1,a,b⟩;have c:=d (x/256) (by omega);refine .body (vf:=rR) wc rfl ?_;simp(disch:=omega)only[go_sem,simprocAttr,Bl,f,d1,d2,c,B8,B9];refine⟨⟨by omega,by omega⟩,?_⟩;simp(disch:=omega)only[wr]
 have d2:¬(256:Int)<=(x:Int):=by omega
 obtain⟨g1,a,b⟩:=key (x) 0 (by omega) (by omega) (by omega) (by omega);refine⟨_,?_,g1,a,b⟩;have c:=d (x) (by omega);refine .body (vf:=rR) wc rfl ?_;simp(disch:=omega)only[go_sem,simprocAttr,Bl,d1,d2,c,B8,B9];refine⟨⟨by omega,by omega⟩,?_⟩;simp(disch:=omega)only[wr]
def XW{x:Nat}(a:x<4294967296)(b:x≠0):∃s:Nat,ai VS 259 [.i .u32 (x:Int)] (.i .i64 (s:Int))/\s<32/\2147483648<=x*2^s/\x*2^s<4294967296:=by
 obtain⟨n,c,g1,d,h⟩:=aru a b;have j:1<=n:=by
  rcases n with _|n;·omega
  omega
 have e:2^n*2^(32-n)=4294967296:=by rw[<-Nat.pow_add,show n+(32-n)=32 by omega]
 have k:0<2^(32-n):=td (by omega);have l:=N3 (2^(32-n)) d;have m:=N3 (2^(32-n)) g1;have o:2*x*2^(32-n)=2*(x*2^(32-n)):=by grind
 have p:x.succ*2^(32-n)=x*2^(32-n)+2^(32-n):=AA7 ..;refine⟨32-n,?_,by omega,by omega,by omega⟩;have f:=λ{H K}=>c.c (H:=H) (K:=K) wc rfl rfl (.inl rfl);have g:32-n=((32-n:Nat):Int):=by omega
 refine .body Eu rfl ?_;simp(disch:=omega)[go_sem,apZ,f,wr,g]
structure arv(l:List Nat)(x:D)(s:Nat)(i:Nat)(st:St):Prop where h:∃ws a3 a7 a9 a10,ws.length=l.length+1/\lm 4294967296 ws/\vl 4294967296 ws=vl 4294967296 (l.take i)*2^s/\st=⟨[x,.i .i64 (s:Int),.nil,a3,.i .i64 i,.i .i64 l.length,x,a7,.mu 0 (l.length+1) 0 (l.length+1),a9,a10],[.ar 1 (ws.map u32) (some (l.length+1)) true false]⟩
def XX{l:List Nat}{x:D}{s:Nat}(e:Sl 1 (l.map u32) x)(f:lm 4294967296 l)(F:l.length<1000000000)(hs:s<32):∃a,a.length=l.length+1/\lm 4294967296 a/\vl 4294967296 a=vl 4294967296 l*2^s/\ai VS 263 [x,.i .i64 (s:Int)] (.ow 1 (a.map u32)):=by
 obtain⟨d,G,a,H,I,J,K⟩:∃d,ai VS 263 [x,.i .i64 s] d/\∃a,a.length=l.length+1/\lm 4294967296 a/\vl 4294967296 a=vl 4294967296 l*2^s/\d=.ow 1 (a.map u32):=by
  refine aE.ex (.body QK rfl ?_);simp(disch:=omega)only[go_sem,ap2,e.n,wr,ss];refine⟨⟨⟨by omega,by omega⟩,by omega,by omega⟩,ak.up (arv l x s) l.length ⟨_,_,_,_,_,by simp,p9 (by omega),by grind[uL,vl],rfl⟩ ?_⟩;rintro i L hi⟨a,M,N,P,Q,h,o,p,rfl⟩;by_cases j:i<l.length
  ·have q:(i:Int)<(l.length:Int):=by omega
   have S:=cI f j;have U:0<2^s:=td (by omega);have r:2^(32-s)*2^s=4294967296:=by rw[<-Nat.pow_add,show 32-s+s=32 by omega]
   have t:2^s<=2^31:=nG (by omega) (by omega);have k:vl 4294967296 a<4294967296^i*2^s:=by have g:=dv ay (fN f i);simp_all
   have u:=so ay k (by omega);have V:a[i+1]! =0:=by
    have:vl 4294967296 a<4294967296^(i+1)*1:=by refine em k ?_;rw[me,AAP];exact eu _ (by omega)
    have:=so ay this (by omega);omega
   have W:l[i]!*2^s<=4294967295*2147483648:=oz (by omega) t;obtain⟨b,m⟩:∃b,b=l[i]!*2^s:=⟨_,rfl⟩;have w:bin .shl (.i .u64 l[i]!) (.i .i64 s)=some (.i .u64 b):=by rw[sr (by show s<64;omega),bG (by omega),m]
   have y:bin .shr _ (.i .u64 32)=some (.i .u64 ((b/4294967296:Nat))):=eE (by decide);have z:b%4294967296=(l[i]!%2^(32-s))*2^s:=by rw[m,<-r,ACL]
   have X:b%4294967296+2^s<=4294967296:=by have:=ma l[i]! (show 0<2^(32-s)from td (by omega));have:=N3 (2^s) this;grind
   have n:bin .or (.i .u32 a[i]!) (.i .u32 ((b%4294967296:Nat)))=some (.i .u32 ((a[i]!+b%4294967296:Nat))):=by rw[Mn (by omega) (by omega),z,Cq u]
   obtain⟨c,A⟩:∃c,c=a[i]!+b%4294967296:=⟨_,rfl⟩;rw[<-A]at n;simp(disch:=omega)only[go_sem,WV,e.q,q,u32,wr,h,bG,w,y,n,jD,gg];repeat' first|(refine And.intro ?_ ?_)|intro _
   all_goals try omega
   refine⟨(a.set i c).set _ _,_,_,_,_,by grind,gZ (gZ o (by omega)) (by omega),?_,rfl⟩;have g1:=jC (B:=4294967296) (l:=a) (i:=i) (v:=c) (by omega);have Y:=jC (B:=4294967296) (l:=a.set i c) (i:=i+1) (v:=b/4294967296%4294967296) (by grind);have Z:(a.set i c)[i+1]! =a[i+1]!:=by grind
   rw[ft j,il,<-p];have g4:=vd b 4294967296;have g5:b/4294967296%4294967296=b/4294967296:=by omega
   grind
  have C:i=l.length:=by omega
  subst C;have E:(a.map u32).take (l.length+1)=a.map u32:=E4 (by grind);simp only[go_sem,WV,qb,ff,h,E];grind
 grind
end
section
open Go.Dm
set_option maxRecDepth 10000
def r6{l:List Nat}{x:D}(h:Sl 1 (l.map u32) x)(a:l≠[]):x=.im 1 (l.map u32):=by cases h<;>simp_all
variable{x y:Nat}
def XY{l:List Nat}{a:List Nat}(h:ai VS 263 [.im 1 (l.map u32),.i .i64 (x:Int)] (.ow 1 (a.map u32))){H:ab}{K:CR->Prop}:ac VS 263 [.im 1 (l.map u32),.i .i64 (x:Int)] H K↔K (.ret (.mu H.length a.length 0 a.length) (H++[.ar 1 (a.map u32) none true false])):=by
 rw[fX QK rfl h (nw (by simp[D.plain,D.flat]))];have:dV BM.own (.ow 1 (a.map u32)) H=(.mu H.length a.length 0 a.length,H++[.ar 1 (a.map u32) none true false]):=by show(D.mu _ _ 0 _,_)=_;grind
 grind
structure arw(A V:Nat)(vs:List Nat)(n N Q:Nat)(x y:D)(sh:D)(k:Nat)(s:St):Prop where h:∃us qs a4 a5 a6,k<=Q/\us.length=N/\lm 4294967296 us/\qs.length=Q/\lm 4294967296 qs/\vl 4294967296 (us.drop k)<V/\vl 4294967296 us+4294967296^k*(V*vl 4294967296 (qs.drop k))=A/\s=⟨[x,y,.nil,.nil,a4,a5,a6,.u,.u,.u,.i .i64 n,sh,.mu 2 Q 0 Q,.i .i64 ((k:Int)-1),.mu 1 N 0 N,.mu 0 (n+1) 0 n,.u,.u,.u],dH us vs none none false (.ar 1 (qs.map u32) (some Q) true false)⟩
structure arx(us vs qs:List Nat)(R:Nat)(n N Q:Nat)(x y:D)(sh:D)(i:Nat)(s:St):Prop where h:∃ws a4 a5 a6 a7 a13 a18,ws.length=N/\lm 4294967296 ws/\vl 4294967296 (ws.take i)=R%4294967296^i/\(∀k,i<=k->k<N->ws[k]! =us[k]!)/\s=⟨[x,y,.nil,.nil,a4,a5,a6,a7,.u,.u,.i .i64 n,sh,.mu 2 Q 0 Q,a13,.mu 1 N 0 N,.mu 0 (n+1) 0 n,.i .i64 i,.i .i64 n,a18],dH ws vs none none false (.ar 1 (qs.map u32) (some Q) true false)⟩
def ary{a:List Nat}(hs:x<32)(c:lm 4294967296 a)(hi:y+1<a.length):((a[y]!+4294967296*a[y+1]!)/2^x)%4294967296=vl 4294967296 a/2^x/4294967296^y%4294967296:=by
 have h:2^x*2^(32-x)=4294967296:=by rw[<-Nat.pow_add,show x+(32-x)=32 by omega]
 have d:0<2^x:=td (by omega);have g1:=eC (B:=4294967296) a y (by omega);rw[dw (by omega),dw hi]at g1;have b:=dv ay (fN c y);rw[fL,vn (by omega)]at b;have e:0<4294967296^y:=td (by omega);rw[ABL,AAv (2^x),<-Nat.div_div_eq_div_mul];generalize vl 4294967296 (a.drop _)=X at g1;have f:vl 4294967296 a/4294967296^y=a[y]!+4294967296*(a[y+1]!+4294967296*X):=by rw[g1,AAG _ _ e,AAe b,i4]
 have g:a[y]!+4294967296*(a[y+1]!+4294967296*X)=a[y]!+4294967296*a[y+1]!+2^x*(4294967296*(2^(32-x)*X)):=by grind
 rw[f,g,AAG _ _ d,AA4]
def L4{a b:Nat}{x y:D}(G:bc a x)(U:bc b y)(hb:b≠0)(ha:(ds 4294967296 a).length<1000000000)(cl:(ds 4294967296 b).length<1000000000):∃d e,ai VS 216 [x,y] (.tu [d,e])/\bc (a/b) d/\bc (a%b) e:=by
 obtain⟨W,hD,d,e,rfl,j,h3⟩:∃W,ai VS 216 [x,y] W/\∃d e,W=.tu [d,e]/\bc (a/b) d/\bc (a%b) e:=by
  have q:=G.sl;have j:=U.sl;have M:=λ{H K}=>(B6 G U (by omega) (by omega)).c (H:=H) (K:=K) wj rfl (by simp[G.pl,U.pl]) (.inl rfl);refine aE.ex (.body zP rfl ?_);by_cases o:a<b
  ·simp[go_sem,simprocAttr,J2,M,xC o];rw[AAe o,oa o];have w0:bc 0 .nil:=⟨by rw[cz];exact .nil rfl⟩;by_cases h0:a=0;·subst h0;rw[cz]at q;obtain⟨z0,hz,hc⟩:=XV q;have I:=λm H=>ah hz.flat m H;simp only[go_sem,hc,I];exact⟨_,_,rfl,w0,⟨by grind[cz]⟩⟩
   have a0:=kV ay h0;rw[r6 q a0];have bp:((ds 4294967296 a).map u32).take (ds 4294967296 a).length=(ds 4294967296 a).map u32:=E4 (by grind);simp only[go_sem,XU a0 ha,bp];exact⟨_,_,rfl,w0,⟨.im⟩⟩
  have hs:¬gW a b<0:=by grind[xD,B5]
  by_cases bq:(ds 4294967296 b).length=1
  ·have a1:b<4294967296:=by have:=(mQ ay (n:=b) (k:=1)).1 (by omega);omega
   have Y:ds 4294967296 b=[b]:=by simp_all[kU,ay,cz]
   rw[Y]at j;obtain⟨d,Z,J⟩:=ari G (show 0<b by omega) a1 ha;have e2:=λ{H K}=>Z.c (H:=H) (K:=K) QJ rfl (by simp[G.pl,aV]) (.inl rfl);have hr:a%b<4294967296:=Nat.lt_trans (ma _ (by omega)) a1;obtain⟨r,br⟩:∃r,r=a%b:=⟨_,rfl⟩;rw[<-br]at hr e2⊢;obtain⟨e,aa,z⟩:=lY (l:=[r]) .im (mP.2 ⟨hr,l9⟩) (by simp);rw[show vl 4294967296 [r]=r by simp[vl]]at z;have e3:=λ{H K}=>fX (args:=[.sv 1 [[.i .u32 r]]]) (H:=H) (K:=K) kG rfl aa (by constructor<;>grind);have I:=λm H=>ah J.sl.flat m H;have eg:=λm H=>ah z.sl.flat m H;have c0:[b][0]! =b:=rfl;simp only[go_sem,simprocAttr,J2,M,hs,j.n,j.q,c0,u32,e2,e3,BH,I,eg];grind
  have a3:¬((ds 4294967296 b).length:Int)=1:=by omega
  have bt:(ds 4294967296 b).length<=(ds 4294967296 a).length:=kj ay (by omega);have N:=kV ay hb;have ae:ds 4294967296 a≠[]:=kV ay (by omega);have cn:=nZ ay hb;have m1:=cH ay a;have m2:=cH ay b;have q1:=bX ay a;have q2:=bX ay b;have tb:=sq ay b N;generalize ds 4294967296 a=l at*;generalize ds 4294967296 b=m at*;obtain⟨n,hn⟩:∃n,n=m.length:=⟨_,rfl⟩;rw[r6 q ae,r6 j N];rw[r6 q ae,r6 j N]at M;rw[<-hn]at tb bq a3 bt;have bu:=cI m2 (i:=n-1) (by omega);obtain⟨s,bv,al,bw,co⟩:=XW bu tb;have e3:=λ{H K}=>bv.c (H:=H) (K:=K) Eu rfl rfl (.inl rfl);obtain⟨vs,am,a7,a8,a9⟩:=XX j m2 (by omega) al;obtain⟨f,A,C,ba,bb⟩:=XX q m1 (by omega) al;rw[r6 q ae]at bb;rw[r6 j N]at a9;have e4:=λ{H K}=>XY a9 (H:=H) (K:=K);have e5:=λ{H K}=>XY bb (H:=H) (K:=K);rw[<-hn]at am;rw[A]at e5;rw[q2]at a8;rw[q1]at ba;have t:0<2^s:=td (by omega);have bz:b<4294967296^(n-1)*(m[n-1]!+1):=by have g1:=eC (B:=4294967296) m (n-1) (by omega);rw[dw (by omega),ez (by omega),vl,nu,k0,q2]at g1;have h:=dv ay (fN m2 (n-1));rw[fL,vn (by omega)]at h;rw[ACY,AAP];omega
  have b0:4294967296^(n-1)*m[n-1]!<=b:=by have g1:=eC (B:=4294967296) m (n-1) (by omega);rw[dw (by omega),ez (by omega),vl,nu,k0,q2]at g1;omega
  have cp:4294967296^n=4294967296^(n-1)*4294967296:=by rw[<-Nat.pow_succ];congr 1;omega
  have cq:b*2^s<4294967296^n:=by
   have b1:2^(32-s)*2^s=4294967296:=by rw[<-Nat.pow_add,show 32-s+s=32 by omega]
   have g1:m[n-1]!<2^(32-s):=AA2 (a:=2^s) (by omega);have h:=AAx bz t;have L:4294967296^(n-1)*(m[n-1]!+1)*2^s<=4294967296^(n-1)*2^(32-s)*2^s:=N3 _ (eu _ g1);rw[wy,wy,b1]at L;rw[wy]at h;omega
  have an:=by
   have g1:=eC (B:=4294967296) vs n (by omega);have h:vl 4294967296 (vs.drop n)=0:=by
    rcases wN (vl 4294967296 (vs.drop n))with c|c;·exact c
    have:=eu (4294967296^n) c;omega
   rw[h,nu,k0,a8]at g1;exact g1.symm
  have b2:2147483648<=vs[n-1]!:=by
   have g1:=ft (B:=4294967296) (l:=vs) (i:=n-1) (by omega);rw[show n-1+1=n by omega,an]at g1;have h:=dv ay (fN a7 (n-1));rw[fL,vn (by omega)]at h;have L:=N3 (2^s) b0;have g4:4294967296^(n-1)*2147483648<=4294967296^(n-1)*(m[n-1]!*2^s):=eu _ bw;rw[wy]at L;have g5:4294967296^(n-1)*2147483648<4294967296^(n-1)*(vs[n-1]!+1):=by rw[ACY,AAP];omega
   have:=AAY g5;omega
  obtain⟨Q,hQ⟩:∃Q,Q=l.length-n+1:=⟨_,rfl⟩;have b3:vl 4294967296 (f.drop Q)<b*2^s:=by
   have g1:=eC (B:=4294967296) f Q (by omega);have h:a<4294967296^l.length:=by rw[<-q1];exact dv ay m1
   have L:=AAx h t;have g4:4294967296^l.length=4294967296^Q*4294967296^(n-1):=by rw[<-Nat.pow_add];congr 1;omega
   have g5:4294967296^Q*vl 4294967296 (f.drop Q)<4294967296^Q*(4294967296^(n-1)*2^s):=by rw[g4,wy]at L;omega
   have g6:=AAY g5;have g7:4294967296^(n-1)*1<=4294967296^(n-1)*m[n-1]!:=eu _ (by omega);have g8:4294967296^(n-1)*2^s<=b*2^s:=N3 _ (by omega);omega
  have b4:l.length-(n:Int)+1=Q:=by omega
  have cv:((n:Int)-1).toNat=n-1:=by omega
  have cw:=Sl.im (w:=1) (rows:=l.map u32);have b5:=Sl.im (w:=1) (rows:=m.map u32);simp(disch:=omega)only[go_sem,simprocAttr,J2,M,hs,b5.q,<-hn,a3,u32,wr,e3,e4,e5,b4,ss,am];refine⟨⟨by omega,by omega⟩,⟨by omega,by omega⟩,⟨⟨by omega,by omega⟩,by omega,by omega⟩,?_⟩;refine ak.loop (arw (a*2^s) _ vs n _ Q _ _ _) Q ⟨f,_,_,_,_,Hk _,A,C,by simp,p9 (by omega),b3,by rw[ez (by simp),ba];simp[vl],rfl⟩ ?_;rintro k st⟨f,p,a4,a5,a6,hk,A,C,ap,bf,o,P,rfl⟩;rcases k with _|k
  ·rw[Nat.one_mul,AAd]at P;rw[AAd]at o;have ca:0<b*2^s:=ACG (by omega) t;have hq:vl 4294967296 p=a/b:=by rw[<-Nat.mul_div_mul_right a b t,<-P,AAG _ _ ca,AAe o,i4]
   have hr:vl 4294967296 f/2^s=a%b:=by
    have g1:vl 4294967296 f=(a%b)*2^s:=by rw[<-Nat.mul_mod_mul_right,<-P,AA4,oa o]
    rw[g1,Nat.mul_div_cancel _ t]
   obtain⟨R,hR⟩:∃R,R=a%b:=⟨_,rfl⟩;have cc:R<4294967296^n:=by have:=ma a (show 0<b by omega);have:b*1<=b*2^s:=eu _ t;omega
   rw[<-hR]at hr⊢;simp[go_sem,simprocAttr,WD];refine ak.up (arx f vs p R n _ Q _ _ _) n ⟨f,_,_,_,_,_,_,A,C,by rw[Nat.mod_one];rfl,λ_ _ _=>rfl,rfl⟩ ?_;rintro i st hi⟨g,a4,a5,a6,cy,c2,c3,E,F,u,hw,rfl⟩;by_cases cd:i<n
   ·have c1:(i:Int)<n:=by omega
    have d0:g[i]!<4294967296:=cI F (by omega);have d1:g[i+1]!<4294967296:=cI F (by omega);have o1:=xE d1 d0;obtain⟨w,bh⟩:∃w,w=g[i]!+4294967296*g[i+1]!:=⟨_,rfl⟩;rw[<-bh]at o1;have e8:bin .shr (.i .u64 w) (.i .i64 _)=some _:=eE (by show s<64;omega);simp(disch:=omega)only[go_sem,WF,dH,wr,c1,E,u32,bG,uD,o1,e8,jD,gg];obtain⟨v,bi⟩:∃v,v=w/2^s%4294967296:=⟨_,rfl⟩;have cf:v=R/4294967296^i%4294967296:=by rw[bi,bh,hw i (Hk _) (by omega),hw _ (by omega) (by omega),ary al C (by omega),hr]
    rw[<-bi];refine⟨⟨by omega,by omega⟩,by omega,⟨by omega,by omega⟩,⟨by omega,by omega⟩,cd,g.set i v,_,_,_,_,_,_,by rw[eh,E],gZ F (by omega),?_,λk h3 h4=>?_,rfl⟩;·rw[ft (by rw[eh];omega),AAh (Hk _),K0 _ _ (by rw[eh];omega),AAS,u,cf,Nat.mod_pow_succ]
    rw[K0 _ _ (by rw[eh];omega),y3 (by omega),<-getElem!_pos g _ (by omega)];exact hw k (by omega) h4
   have ch:i=n:=by omega
   subst ch;rw[oa cc]at u;obtain⟨dq,Z,J⟩:=lY .im bf (by omega);obtain⟨dr,aa,z⟩:=lY .im (fN F i) (by rw[fL];omega);rw[hq]at J;rw[u]at z;have ci:(p.map u32).take Q=p.map u32:=E4 (by rw[S2];omega);have I:=λm H=>ah J.sl.flat m H;have eg:=λm H=>ah z.sl.flat m H;have e6:=λ{K}=>fX (args:=[.mu 2 Q 0 Q]) (H:=[.ar 1 (vs.map u32) none true false,.ar 1 (g.map u32) none true false,.ar 1 (p.map u32) (some Q) true false]) (H1:=[.ar 1 (vs.map u32) none true false,.ar 1 (g.map u32) none true false,.ar 1 (p.map u32) (some Q) true true]) (K:=K) kG rfl Z (by simp[go_sem,ap,ci]);simp only[go_sem,simprocAttr,WF,dH,qb,e6,BH,E];refine⟨⟨by omega,by omega⟩,ac.fzr kG rfl rfl aa ⟨_,by simp(disch:=omega)only[go_sem,simprocAttr,E,ABM,G1];rfl⟩ (λH'=>?_)⟩;simp only[go_sem,I,eg];exact⟨_,_,rfl,J,z⟩
  have e:((k:Int)+1-1)=k:=by omega
  have c1:(0:Int)<=k:=by omega
  have tk:((k:Int)+n+1).toNat-k=n+1:=by omega
  simp(disch:=omega)only[go_sem,WD,dH,wr,e,c1,A,tk];refine⟨⟨by omega,by omega⟩,(ars C a7 (by omega) am A (by omega) (by omega) b2 (by rw[an];exact o)).mono ?_⟩;rintro r⟨g,E,F,u,bj,rfl⟩;rw[an]at u bj⊢;obtain⟨S,bk⟩:∃S,S=vl 4294967296 (f.drop k)/(b*2^s):=⟨_,rfl⟩;have Y:S<4294967296:=by rw[bk,AAE (ACG (by omega) t),dw (by omega)];have:=cI C (i:=k) (by omega);omega
  rw[<-bk]at u⊢;simp(disch:=omega)only[go_sem,dH,wr,ap,u32,gg];repeat' first|(refine And.intro ?_ ?_)|intro _
  all_goals try omega
  refine⟨k,by omega,g,p.set k S,_,_,_,by omega,E,F,by simp[ap],gZ bf Y,bj,?_,rfl⟩;rw[dw (by rw[eh];omega),ABf (show k<k+1 by omega),K0 _ k (by rw[eh];omega),AAS];rw[<-P,<-u,me];generalize vl 4294967296 (p.drop _)=X;generalize b*2^s=V;grind
 grind
end
end Go.Proofs.YtekgndcflpklkaaGreatDoor.Dv
namespace Go.Dm
section
section
variable{V:au}{Q:Ex->St->Prop}{H:ab}
def nA(a:List D)(y:Nat)(Q:Ex->St->Prop):CR->Prop
 |.ret _ H=>match H[y]? with|some (.yh _ _ _ _ _ _ .rd)=>Q .nm ⟨a,H.set y .no⟩|some (.yh _ _ _ _ _ _ .dr)=>Q .rt ⟨a,H.set y .no⟩|some (.yh _ _ _ _ _ _ (.dx id))=>Q (.ex id) ⟨a,H.set y .no⟩|_=>False
 |_=>False
variable{y:List D}
def vW{j:Nat}{x:O}{r:Rnd}{g:FuncId}{cap:List D}(hr:V.rnd j=some r)(a:x.ev [] y=.fn (.func g) [] cap)(b:g<4294967295):ak V (.rng j x) ⟨y,H⟩ Q↔ac V g (.yl (H.length+1)::cap) (H++[.df,.yh r.f r.path j r.nt r.tm y .rd]) (nA y (H.length+1) Q):=by refine exists_congr λn=>?_;simp only[aC,hr,a,E1 (OK b)];generalize call V n g _ _=c;cases c<;>grind[oB,nA]
variable{z:Nat}{a:List Nat}
def tL{b:List D}{y:Nat}{d:D}{f:Nat}{p:List Bool}{j:Nat}{x:List D}(h:H[y]?=some (.yh f p j z a x .rd)):nA b y Q (.ret d H)↔Q .nm ⟨b,H.set y .no⟩:=by grind[nA]
def Pi{b:List D}{y:Nat}{d:D}{f:Nat}{p:List Bool}{j:Nat}{x:List D}(h:H[y]?=some (.yh f p j z a x .dr)):nA b y Q (.ret d H)↔Q .rt ⟨b,H.set y .no⟩:=by grind[nA]
def vX(y:Nat)(K:CR->Prop):Ex->St->Prop|.nm,a=>∃f p j c d x,a.hp[y]?=some (.yh f p j c d x .bz)/\K (.ret (.b true) (a.hp.set y (.yh f p j c d x .rd)))|.rt,a=>∃f p j c d x,a.hp[y]?=some (.yh f p j c d x .bz)/\K (.ret (.b false) (a.hp.set y (.yh f p j c d x .dr)))|.ex id,a=>∃f p j c d x,a.hp[y]?=some (.yh f p j c d x .bz)/\K (.ret (.b false) (a.hp.set y (.yh f p j c d x (.dx id))))|_,_=>False
@[go_sem]def axq{y:Nat}{K:CR->Prop}{a:St}:vX y K .nm a↔∃f p j c d x,a.hp[y]?=some (.yh f p j c d x .bz)/\K (.ret (.b true) (a.hp.set y (.yh f p j c d x .rd))):=dG
@[go_sem]def axr{y:Nat}{K:CR->Prop}{a:St}:vX y K .rt a↔∃f p j c d x,a.hp[y]?=some (.yh f p j c d x .bz)/\K (.ret (.b false) (a.hp.set y (.yh f p j c d x .dr))):=dG
@[go_sem]def axs{y:Nat}{K:CR->Prop}{a:St}:vX y K (.ex z) a↔∃f p j c d x,a.hp[y]?=some (.yh f p j c d x .bz)/\K (.ret (.b false) (a.hp.set y (.yh f p j c d x (.dx z)))):=dG
def Pj(V:au)(y:Nat)(b:aQ)(K:CR->Prop):Ex->St->Prop|.nm,a=>∃f p j c d x,a.hp[y]?=some (.yh f p j c d x .rd)/\ak V b ⟨a.sl,a.hp.set y (.yh f p j c d x .bz)⟩ (vX y K)|_,_=>False
@[go_sem]def axt{y:Nat}{b:aQ}{K:CR->Prop}{a:St}:Pj V y b K .nm a↔∃f p j c d x,a.hp[y]?=some (.yh f p j c d x .rd)/\ak V b ⟨a.sl,a.hp.set y (.yh f p j c d x .bz)⟩ (vX y K):=dG
def ac.round(l:V.fn yF=none){r:Rnd}{y:Nat}{b:List D}{f:Nat}{p:List Bool}{j:Nat}{x:List D}{K:CR->Prop}(o:H[y]?=some (.yh f p j z a x .rd))(hr:V.rnd j=some r)(t:r.f=f/\r.path=p/\r.nt=z/\r.tm=a/\r.ps.length=b.length)(h:ak V r.a ⟨gl x r.ps b,H⟩ (Pj V y r.b K)):ac V yF (.yl y::b) H K:=by obtain⟨n,u,d⟩:=h;cases v:aC V (call V n) n r.a ⟨gl x r.ps b,H⟩with|mk g st1=>rw[v]at u d;cases g with
 |nm=>
 obtain⟨B,C,E,F,G,I,w,m,i,c⟩:=d;have J:(aC V (call V n) n r.a ⟨gl x r.ps b,H⟩).1≠.bad:=by grind
 have g:aC V (call V (max n m)) (max n m) r.a ⟨gl x r.ps b,H⟩=(.nm,st1):=by grind[vO]
 have A:=vO (AAz n m) i;refine⟨max n m+1,?_⟩;simp only[call,l,if_true,ku,o,hr,G1 t,g,m6,w,A];generalize aC V _ m r.b _=q at i c;obtain⟨e,s⟩:=q;cases e with|nm=>obtain⟨_,_,_,_,_,_,g1,k⟩:=c;grind[m5]|rt=>obtain⟨_,_,_,_,_,_,g1,k⟩:=c;grind[m5]|ex id=>obtain⟨_,_,_,_,_,_,g1,k⟩:=c;grind[m5]|_=>exact c.elim
 |_=>exact d.elim
def lH(a:List cU)(base:Nat)(K:CR->Prop):Ex->St->Prop|.nm,s|.rt,s=>∃ds,cW ⟨s.sl,dJ base s.hp⟩ a=some ds/\K (.ret (fS ds) (dJ base s.hp))|_,_=>False
variable{x:St}
@[go_sem]def axu{a:List cU}{base:Nat}{K:CR->Prop}:lH a base K .nm x↔∃ds,cW ⟨x.sl,dJ base x.hp⟩ a=some ds/\K (.ret (fS ds) (dJ base x.hp)):=dG
@[go_sem]def Pk{a:List cU}{base:Nat}{K:CR->Prop}:lH a base K .rt x↔∃ds,cW ⟨x.sl,dJ base x.hp⟩ a=some ds/\K (.ret (fS ds) (dJ base x.hp)):=dG
def Pm{a:aH}{args:List D}{K:CR->Prop}(c:args.length=a.npar)(h:ak V a.body ⟨args++uu (a.nsl-a.npar),H⟩ (lH a.res H.length K)):∃n,iF V (call V n) n a args H≠.bad/\K (iF V (call V n) n a args H):=by rw[<-vL]at h;obtain⟨n,d,b⟩:=h;refine⟨n,?_⟩;unfold iF;rw[G1 c];generalize aC V _ n _ _=q at d b;obtain⟨e,s⟩:=q;cases e with|nm=>obtain⟨ds,g1,g2⟩:=b;grind|rt=>obtain⟨ds,g1,g2⟩:=b;grind|_=>exact b.elim
def ac.bodyR{f g:FuncId}{vf:aH}(b:V.fn f=some vf)(c:vf.pure=false){args:List D}{K:CR->Prop}(a:args.length=vf.npar)(d:vf.rg=some g)(h:ak V vf.body ⟨args++uu (vf.nsl-vf.npar),H⟩ (lH vf.res H.length K))(e:V.ext f args H=none:=by first|rfl|assumption)(i:vf.dfr=none:=by first|rfl|assumption):ac V f args H K:=by obtain⟨n,j,k⟩:=Pm a h;exact⟨n+1,by grind[call,cX]⟩
def aE.bodyR{f g:FuncId}{vf:aH}(a:V.fn f=some vf){ds:List D}{K:PR->Prop}(b:ds.length=vf.npar)(d:vf.rg=some g)(h:ak V vf.body ⟨ds++uu (vf.nsl-vf.npar),[]⟩ (lH vf.res 0 (fG vf.own K)))(c:V.pext f ds=none:=by first|rfl|assumption)(i:vf.dfr=none:=by first|rfl|assumption):aE V f ds K:=by
 obtain⟨n,j,k⟩:=Pm b h;refine⟨n+1,?_⟩;simp only[iH,a,iG,c];have e:cX V (call V n) n vf ds []=iF V (call V n) n vf ds []:=by grind[cX]
 grind[O6]
end
end
end Go.Dm
namespace Go.Proofs.YtekgndcflpklkaaGreatDoor.Dv
section
open Go.Dm
set_option maxRecDepth 10000
structure XZ(n y c t:Nat)(x:D)(I:Nat->ab->Prop)(k:Nat)(s:St):Prop where
 le:k<=n
 h:∃a2 a3 H',s=⟨[.yl y,.hp c 0,a2,a3,.i .i64 ((k:Int)-1)],H'⟩/\I k H'
def arz{l:List Nat}{x:D}(f:Sl 1 (l.map u32) x)(p:l.length<1099511627776){y c:Nat}{I:Nat->ab->Prop}(g:∀i H,I i H->H[c]?=some (.hb 254 [x]))(hs:∀i H,i<l.length->I (i+1) H->ac VS yF [.yl y,.i .u32 (l[i]!:Int)] H (λr=>∃a,r=.ret (.b true) a/\I i a)){H:ab}(j:I l.length H):ac VS 297 [.yl y,.hp c 0] H (λr=>∃d a,r=.ret d a/\I 0 a):=by
 refine .body ahh rfl rfl ?_;simp[go_sem,aql,g _ _ j,f.n];refine ak.loop (XZ _ y c 261 x I) _ ⟨Hk _,.u,.u,H,by grind[wr],j⟩ ?_;rintro k s⟨q,t,v,a,rfl,m⟩;rcases k with _|k;·simp[go_sem,simprocAttr,Xo];grind
 have e:(((k+1:Nat):Int)-1)=k:=by omega
 rw[e];simp only[go_sem,Xo,g _ _ m,f.q,u32];refine⟨λ_=>⟨⟨by omega,by omega⟩,(hs k a (by omega) m).mono ?_⟩,λh=>absurd (by omega) h⟩;rintro r⟨n,rfl,o⟩;simp(disch:=omega)only[go_sem,wr];exact⟨k,by omega,by omega,_,_,n,rfl,o⟩
def arA{x:D}{H:ab}{rows:List (List D)}(a:Sl 1 rows x):ac VS 266 [x] H (λr=>r=.ret (.fn (.func 297) [] [.hp H.length 0]) (H++[.hb 254 [x]])):=by refine .body ag8 rfl rfl ?_;simp[go_sem,ap4,a.c1]
def X1{l:List Nat}{x:D}(a:Sl 1 (l.map u32) x)(g:l.length<=2)(b:lm 4294967296 l):ai VS 218 [x] (.i .u64 (vl 4294967296 l:Int)):=by
 refine ai.iff_q.2 (.bodyR Es rfl rfl ?_);simp[go_sem,apH];refine(arA a).mono ?_;rintro r rfl;simp[go_sem];rw[vW Q4 rfl (by decide)];refine(arz a (by omega) (I:=λk H=>H=[.hb 201 [.i .u64 (vl 4294967296 (l.drop k))],.hb 254 [x],.df,.yh r2.f r2.path 2 r2.nt r2.tm [x,.i .u64 0,.fn (.func 297) [] [.hp 1 0],.u,.hp 0 0,.u] .rd]) (λi H h=>by grind) ?_ ?_).mono ?_
 ·rintro i H hi rfl;refine ac.round tR rfl Q4 ⟨rfl,rfl,rfl,rfl,rfl⟩ ?_;simp only[go_sem,simprocAttr,apG,gl];have j:=cI b hi;have m:vl 4294967296 (l.drop (i+1))<4294967296:=by
   have c:(l.drop (i+1)).length<=1:=by grind
   have:=dv ay (xW b (i+1));have:4294967296^(l.drop _).length<=4294967296^1:=nG (by omega) c;omega
  have e:=dw (B:=4294967296) hi;refine⟨_,_,_,_,_,_,rfl,?_⟩;have f:IntKind.u64.wrap _=l[i]!:=bG (by omega);simp(disch:=omega)only[go_sem,uD,xE,f,e];grind
 ·rw[ez (Hk _)];rfl
 rintro r⟨d,n,rfl,rfl⟩;rw[tL rfl];simp[go_sem,simprocAttr]
def arB{v:Nat}(g:v<18446744073709551616):∃d,ai VS 219 [.i .u64 (v:Int)] d/\bc v d:=by
 have b:bin .shr _ (.i .u64 32)=some (.i .u64 ((v/4294967296:Nat))):=eE (by decide);obtain⟨d,c,a⟩:=lY (l:=[v%4294967296,v/4294967296]) .im (mP.2 ⟨by omega,mP.2 ⟨by omega,l9⟩⟩) (by simp);rw[show vl 4294967296 [v%4294967296,v/4294967296]=v by grind[vl]]at a;have e:=λ{H K}=>fX (args:=[.sv 1 [[.i .u32 ((v%4294967296:Nat))],[.i .u32 ((v/4294967296:Nat))]]]) (H:=H) (H1:=H) (K:=K) kG rfl c (by simp[go_sem,u32]);have f:v/4294967296%4294967296=v/4294967296:=by omega
 refine aE.ex (.body Qp rfl ?_);simp only[go_sem,simprocAttr,apI,b,jD,f,e,BH,lF a.sl.flat];omega
end
end Go.Proofs.YtekgndcflpklkaaGreatDoor.Dv
namespace Go.Dm
section
def sg(e:Bool):Int:=if e then-1 else 1
theorem YC(e:Bool):sg (!e)=-sg e:=by cases e<;>rfl
def tv(A B:Nat)(e:Bool)(u v:Nat):Int:=sg e*((u:Int)*A-v*B)
def jE(A B:Nat)(e:Bool)(u v:Nat):tv A B (!e) u v=-tv A B e u v:=by grind[tv,YC]
structure jF(A B x y:Nat)(e:Bool)(a1 a2 u1 v1 u2 v2:Nat):Prop where
 t1:(a1:Int)=tv x y e u1 v1
 t2:(a2:Int)=-tv x y e u2 v2
 c1:u2<=v2
 c2:u1+u2<=v1+v2
 c3:v1<=v2
 c4:1<=v2
 xe:x=v2*a1+v1*a2
 le:a2<=a1
 g:Int.gcd (tv A B e u1 v1) (-tv A B e u2 v2)=Nat.gcd A B
 d:v1=0/\-tv A B e u2 v2=B\/v1≠0/\u1<=v1/\tv A B e u1 v1<=B
structure oe(A B:Nat)(e:Bool)(u0 v0 u1 v1:Nat):Prop where
 p0:0<=-tv A B e u0 v0
 p1:0<=tv A B e u1 v1
 lt:tv A B e u1 v1<B
 ord:tv A B e u1 v1<=-tv A B e u0 v0
 p2:-tv A B e u0 v0<=B
 g:Int.gcd (-tv A B e u0 v0) (tv A B e u1 v1)=Nat.gcd A B
 b0:u0<4294967296/\v0<4294967296/\u1<4294967296/\v1<4294967296
section
variable{A B x y K ra rb:Nat}{e:Bool}{a1 a2 u1 v1 u2 v2:Nat}
def jF.start(h:y<=x):jF A B x y false x y 1 0 0 1:=by constructor<;>first|omega|(simp[tv,sg];done)|skip
def Cr(e:Bool)(A B x y K ra rb u v:Nat)(a:A=x*K+ra)(b:B=y*K+rb):tv A B e u v=tv x y e u v*K+tv ra rb e u v:=by subst a b;grind[tv]
def Mq{ra rb K:Nat}(c:ra<K)(d:rb<K)(e:Bool){u v w:Nat}(a:u<=w)(b:v<=w):-((w:Int)*K)<=tv ra rb e u v/\tv ra rb e u v<=(w:Int)*K:=by
 have f:u*ra<=w*K:=oz a (by omega);have g:v*rb<=w*K:=oz b (by omega);have h:u*ra=((u*ra:Nat):Int):=by simp
 have i:v*rb=((v*rb:Nat):Int):=by simp
 have j:w*K=((w*K:Nat):Int):=by simp
 unfold tv;cases e<;>simp[sg,if_false]<;>omega
def YD{ra rb K:Nat}(a:ra<K)(b:rb<K)(e:Bool){u v w:Nat}(d:u<=w)(f:v<=w)(g:1<=w):-((w:Int)*K)<tv ra rb e u v:=by
 have h:u*ra<w*K:=by
  rcases wN u with c|c;·rw[c,AB4];exact ACG g (by omega)
  exact em (ABo a c) (N3 _ d)
 have i:v*rb<w*K:=by
  rcases wN v with c|c;·grind
  exact em (ABo b c) (N3 _ f)
 have j:u*ra=((u*ra:Nat):Int):=by simp
 have k:v*rb=((v*rb:Nat):Int):=by simp
 have l:w*K=((w*K:Nat):Int):=by simp
 unfold tv;cases e<;>simp[sg,if_false]<;>omega
def yd(A B:Nat)(e:Bool)(u v a b:Nat):tv A B e (u+a) (v+b)=tv A B e u v+tv A B e a b:=by grind[tv]
def Mr(A B:Nat)(e:Bool)(u v q:Nat):tv A B e (q*u) (q*v)=q*tv A B e u v:=by grind[tv]
def jF.cond(h:jF A B x y e a1 a2 u1 v1 u2 v2)(a:A=x*K+ra)(b:B=y*K+rb)(c:ra<K)(d:rb<K)(k:v2<=a2)(l:v1+v2<=a1-a2):0<=tv A B e u1 v1/\0<=-tv A B e u2 v2/\-tv A B e u2 v2<tv A B e u1 v1:=by
 have m:=h.c1;have n:=h.c2;have c3:=h.c3;have o:=h.c4;have g:=Cr e A B x y K ra rb u1 v1 a b;have i:=Cr e A B x y K ra rb u2 v2 a b;have f:=Cr e A B x y K ra rb (u1+u2) (v1+v2) a b;have p:=Mq c d e (u:=u1) (v:=v1) (w:=a1) (by omega) (by omega);have q:=Mq c d e (u:=u2) (w:=a2) (by omega) (by omega);have r:=YD c d e (u:=u1+u2) (w:=a1-a2) (by omega) (by omega) (by omega);have t1:=h.t1;have s:=h.t2;rw[yd x y,yd A B]at f;have j:tv x y e u1 v1+tv x y e u2 v2=((a1-a2:Nat)):=by omega
 rw[j]at f;rw[<-t1]at g;rw[show tv x y e u2 v2=-a2 by omega]at i;refine⟨by omega,?_,by omega⟩;have:-(a2:Int)*K=-(a2*K):=by grind
 omega
def jF.small(h:jF A B x y e a1 a2 u1 v1 u2 v2)(a:x<18446744073709551616)(b:v2<=a2)(d:v1+v2<=a1-a2):v2<4294967296:=by
 have f:=h.xe;rcases hM v2 4294967296 with c|c;·exact c
 have:4294967296*4294967296<=v2*a1:=oz c (by omega);omega
def jF.sum_small(h:jF A B x y e a1 a2 u1 v1 u2 v2)(a:x<18446744073709551616)(b:v2<=a2):v1+v2<18446744073709551616:=by
 have d:=h.xe;have c3:=h.c3;have le:=h.le;rcases hM v2 4294967296 with c|c;·omega
 have:4294967296*4294967296<=v2*a1:=oz c (by omega);omega
theorem jF.step(h:jF A B x y e a1 a2 u1 v1 u2 v2)(o:x<18446744073709551616)(p:A=x*K+ra)(s:B=y*K+rb)(t:ra<K)(u:rb<K)(j:v2<=a2)(k:v1+v2<=a1-a2):jF A B x y (!e) a2 (a1%a2) u2 v2 (u1+a1/a2*u2) (v1+a1/a2*v2)/\(v1=0\/oe A B (!e) u1 v1 u2 v2)/\v1+a1/a2*v2<18446744073709551616/\u1+a1/a2*u2<18446744073709551616:=by
 obtain⟨E,F,G⟩:=h.cond p s t u j k;have hs:=h.small o j k;have b:=h.c1;have H:=h.c2;have c3:=h.c3;have I:=h.c4;have le:=h.le;have c:0<a2:=by omega
 have l:1<=a1/a2:=ACW le c;have f:=AAR a1 a2;have hr:=ma a1 c;obtain⟨q,g⟩:∃q,q=a1/a2:=⟨_,rfl⟩;obtain⟨r,i⟩:∃r,r=a1%a2:=⟨_,rfl⟩;rw[<-g,<-i]at f;rw[<-i]at hr;rw[<-g]at l;rw[<-g,<-i];have J:q*u2<=q*v2:=eu _ b;have L:v2<=q*v2:=by have:=N3 v2 l;omega
 have v:u1+q*u2<=v1+q*v2:=by obtain⟨a,rfl⟩:∃a,q=a+1:=⟨q-1,by omega⟩;have m:(a+1)*u2=a*u2+u2:=AA7 ..;have M:(a+1)*v2=a*v2+v2:=AA7 ..;have N:a*u2<=a*v2:=eu _ b;omega
 have w:x=(v1+q*v2)*a2+v2*r:=by rw[h.xe,<-f];grind
 have z:v1+q*v2<18446744073709551616:=by have:(v1+q*v2)*1<=(v1+q*v2)*a2:=eu _ c;omega
 have C:(a1:Int)-q*a2=r:=by
  have:(a1:Int)=((a2*q+r:Nat):Int):=by rw[f]
  rw[this];simp only[Int.natCast_add,x4];grind
 refine⟨⟨?_,?_,v,by omega,by omega,by omega,w,by omega,?_,.inr ⟨by omega,b,?_⟩⟩,?_,z,by omega⟩;·rw[jE,<-h.t2]
 ·rw[jE,yd,Mr,<-h.t1,<-C,h.t2];grind
 ·rw[jE,jE,ACX,yd,Mr];have:=h.g;rw[Int.gcd_comm]at this;rw[<-this];have m:tv A B e u1 v1+q*tv A B e u2 v2=tv A B e u1 v1-q*(-tv A B e u2 v2):=by grind
  rw[m,Int.gcd_sub_mul_right_right]
 ·rw[jE];rcases h.d with⟨_,d⟩|⟨_,_,d⟩<;>omega
 by_cases n:v1=0;·exact .inl n
 right;obtain⟨P,Q⟩:u1<=v1/\tv A B e u1 v1<=B:=by
  rcases h.d with⟨d,_⟩|⟨_,d⟩;·exact absurd d n
  exact d
 refine⟨by rw[jE];omega,by rw[jE];omega,by rw[jE];omega,by rw[jE,jE];omega,by rw[jE];omega,by rw[jE,jE,ACX];exact h.g,by omega,by omega,by omega,by omega⟩
end
section
variable{A B u0 v0 u1 v1:Nat}
def oe.odd(h:oe A B false u0 v0 u1 v1):u0*A<=v0*B/\v1*B<=u1*A/\u1*A-v1*B<B/\u1*A-v1*B<=v0*B-u0*A/\v0*B-u0*A<=B/\Nat.gcd (v0*B-u0*A) (u1*A-v1*B)=Nat.gcd A B:=by have a:=h.p1;have lt:=h.lt;have b:=h.ord;have c:=h.p2;have g:=h.g;simp only[tv,sg,if_false,zv,Int.one_mul]at*;refine⟨by omega,by omega,by omega,by omega,by omega,?_⟩;rw[<-g,show-(u0*A-v0*B)=((v0*B-u0*A:Nat):Int)by omega,show u1*A-v1*B=((u1*A-v1*B:Nat):Int)by omega,ACE]
def oe.even(h:oe A B true u0 v0 u1 v1):v0*B<=u0*A/\u1*A<=v1*B/\v1*B-u1*A<B/\v1*B-u1*A<=u0*A-v0*B/\u0*A-v0*B<=B/\Nat.gcd (u0*A-v0*B) (v1*B-u1*A)=Nat.gcd A B:=by have a:=h.p1;have lt:=h.lt;have b:=h.ord;have c:=h.p2;have g:=h.g;simp only[tv,sg,if_true,Int.neg_mul,Int.one_mul]at*;refine⟨by omega,by omega,by omega,by omega,by omega,?_⟩;rw[<-g,show- -(u0*A-v0*B)=((u0*A-v0*B:Nat):Int)by omega,show-(u1*A-v1*B)=((v1*B-u1*A:Nat):Int)by omega,ACE]
end
end
end Go.Dm
namespace Go.Proofs.YtekgndcflpklkaaGreatDoor.Dv
section
open Go.Dm
set_option maxRecDepth 10000
def gd(l:List Nat)(i:Nat):Nat:=if i<l.length then l[i]! else 0
def xF{l:List Nat}(h:lm 4294967296 l)(i:Nat):gd l i<4294967296:=by
 unfold gd;split;·exact cI h (by omega)
 omega
def arD{l:List Nat}{x:D}{i:Nat}(a:Sl 1 (l.map u32) x)(c:lm 4294967296 l):ac VS 294 [.i .i64 (i:Int),.hp 0 0] [.hb 254 [x]] (·=.ret (.i .u64 (gd l i:Int)) [.hb 254 [x]]):=by
 refine .body ahg rfl rfl ?_;by_cases h:i<l.length
 · have b:¬(l.length:Int)<=(i:Int):=by omega
   have d:=cI c h;simp(disch:=omega)only[go_sem,Xm,a.n,a.q,b,u32,bG,gd,h];omega
 have b:(l.length:Int)<=i:=by omega
 simp[go_sem,Xm,a.n,gd,h]
def xG(l:List Nat)(i:Nat):vl 4294967296 (l.drop i)=gd l i+4294967296*vl 4294967296 (l.drop (i+1)):=by
 unfold gd;split;·grind[dw]
 rw[ez (by omega),ez (by omega)];rfl
def X2(l:List Nat)(i:Nat):vl 4294967296 l=vl 4294967296 (l.take i)+4294967296^i*vl 4294967296 (l.drop i):=by
 rcases hM l.length i with h|h;·rw[E4 (by omega),ez (by omega)];simp[vl]
 grind[eC]
def arE{l:List Nat}{n:Nat}(c:3<=n)(d:l.length<=n)(b:lm 4294967296 l):vl 4294967296 l/4294967296^(n-3)=gd l (n-3)+4294967296*(gd l (n-2)+4294967296*gd l (n-1)):=by have a:=X2 l (n-3);have e:=dv ay (fN b (n-3));have f:4294967296^(l.take (n-3)).length<=4294967296^(n-3):=nG (by omega) (by grind);rw[xG,xG l _,xG l _,ez (by omega),show n-3+1+1=n-1 by omega,show n-3+1=n-2 by omega]at a;rw[a,AAG _ _ (td (by omega)),AAe (by omega)];simp[vl]
variable{x y:Nat}
def X3{l:List Nat}{x:D}{n:Nat}(j:Sl 1 (l.map u32) x)(d:lm 4294967296 l)(q:3<=n)(r:l.length<=n)(L:n<1000000000)(hs:y<32)(M:vl 4294967296 l*2^y<4294967296^n):ai VS 260 [x,.i .i64 (n:Int),.i .i64 (y:Int)] (.i .u64 ((vl 4294967296 l/(4294967296^(n-3)*2^(32-y)):Nat):Int)):=by
 have e:=λ{i K}=>cC (K:=K) (bI.iff_q.2 (arD (i:=i) j d));have g0:=xF d (n-3);have g1:=xF d (n-2);have k:=xF d (n-1);have s:=arE q r d;have m:2^y*2^(32-y)=4294967296:=by rw[<-Nat.pow_add,show y+(32-y)=32 by omega]
 rw[<-Nat.div_div_eq_div_mul,s];have f:(gd l (n-2)+4294967296*gd l (n-1))*2^y<18446744073709551616:=by
  have g:=X2 l (n-2);rw[xG,xG l _,ez (by omega),show n-2+1=n-1 by omega,vl,k0]at g;have h:4294967296^(n-2)*(gd l (n-2)+4294967296*gd l (n-1))*2^y<=vl 4294967296 l*2^y:=N3 _ (by omega);have N:4294967296^n=4294967296^(n-2)*18446744073709551616:=by rw[show 18446744073709551616=4294967296^2 from rfl,<-Nat.pow_add];congr 1;omega
  rw[wy]at h;exact AAY (a:=4294967296^(n-2)) (by omega)
 obtain⟨c,o⟩:∃w,w=gd l (n-3):=⟨_,rfl⟩;obtain⟨t,g⟩:∃w,w=gd l (n-2):=⟨_,rfl⟩;obtain⟨u,h⟩:∃w,w=gd l (n-1):=⟨_,rfl⟩;have v:n-3=((n-3:Nat):Int):=by omega
 have z:n-2=((n-2:Nat):Int):=by omega
 have A:n-1=((n-1:Nat):Int):=by omega
 have B:32-y=((32-y:Nat):Int):=by omega
 rw[<-o]at g0⊢;rw[<-g]at g1 f⊢;rw[<-h]at k f⊢;have p:=xE k g1;obtain⟨w,C⟩:∃w,w=t+4294967296*u:=⟨_,rfl⟩;rw[<-C]at f p⊢;have E:bin .shl (.i .u64 w) (.i .i64 y)=some (.i .u64 ((w*2^y:Nat))):=by rw[sr (by show y<64;omega),bG f]
 have F:bin .shr (.i .u64 c) (.i .i64 _)=some _:=eE (by show 32-y<64;omega);have G:c/2^(32-y)<2^y:=by rw[AAE (td (by omega)),m];exact g0
 have I:bin .or (.i .u64 ((w*2^y:Nat))) (.i .u64 ((c/2^(32-y):Nat)))=some (.i .u64 (((c+4294967296*w)/2^(32-y):Nat))):=by have:2^y<=2^31:=nG (by omega) (by omega);rw[ya f (by omega),yc G];congr 3;rw[<-m,show c+2^y*2^(32-y)*w=c+2^(32-y)*(w*2^y)by grind,AAG _ _ (td (by omega))]
 refine .body Ev rfl ?_;have J:∀{args:List D}{H:ab}{K:CR->Prop}{a b:List D},zq VS args H K _↔ac VS 294 (a++args++b) H K:=gP (by decide);simp(disch:=omega)only[go_sem,ap0,j.c1,J,wr,A,z,v,B,e,<-o,<-g,<-h,uD,p,E,F,I]
structure arF(A B x0 y0:Nat)(x y n sh:D)(k:Nat)(s:St):Prop where h:∃(e:Bool)(a1 u0 v0 u1 v1 u2 v2:Nat)(c r q:D),jF A B x0 y0 e a1 k u1 v1 u2 v2/\(v0=0\/oe A B e u0 v0 u1 v1)/\u2<18446744073709551616/\v2<18446744073709551616/\s=⟨[x,y,.bx [.i .u64 0,.i .u64 0,.i .u64 0,.i .u64 0,.b false],c,n,sh,.i .u64 a1,.i .u64 k,.i .u64 u2,.i .u64 v2,.bx [.i .u64 u0,.i .u64 u1,.i .u64 v0,.i .u64 v1,.b e],r,q],[]⟩
def arG{A B:Nat}{x y:D}(hx:bc A x)(hy:bc B y)(J:B<=A)(v:3<=(ds 4294967296 A).length)(L:(ds 4294967296 A).length<1000000000):∃p g j d:Nat,∃e:Bool,ai VS 215 [x,y] (.ag [.i .u64 p,.i .u64 g,.i .u64 j,.i .u64 d,.b e])/\(j=0\/oe A B e p j g d):=by
 obtain⟨M,hD,p,g,j,d,e,rfl,hk⟩:∃M,ai VS 215 [x,y] M/\∃p g j d:Nat,∃e:Bool,M=.ag [.i .u64 p,.i .u64 g,.i .u64 j,.i .u64 d,.b e]/\(j=0\/oe A B e p j g d):=by
  have N:=hx.sl;have h2:=hy.sl;have ae:=kj ay J;have P:=cH ay A;have m2:=cH ay B;have Q:=bX ay A;have q2:=bX ay B;have E:=sq ay A;generalize ds 4294967296 A=l at*;generalize ds 4294967296 B=m at*;obtain⟨n,ah⟩:∃n,n=l.length:=⟨_,rfl⟩;have E:=E (by intro e;rw[e]at v;simp at v);have aj:=cI P (i:=l.length-1) (by omega);obtain⟨s,al,am,ax,az⟩:=XW aj E;rw[<-ah]at ae v L aj E al ax az;have hp:0<2^s:=td (by omega);have F:A*2^s<4294967296^n:=by
   have S:2^(32-s)*2^s=4294967296:=by rw[<-Nat.pow_add,show 32-s+s=32 by omega]
   have g1:=eC (B:=4294967296) l (n-1) (by omega);rw[dw (by omega),ez (by omega),vl,k0,Q]at g1;have t:=dv ay (fN P (n-1));rw[fL,vn (by omega)]at t;have g3:A<4294967296^(n-1)*(l[n-1]!+1):=by rw[ACY,AAP];omega
   have g4:l[n-1]!<2^(32-s):=AA2 (a:=2^s) (by omega);have g5:=AAx g3 hp;have g6:4294967296^(n-1)*(l[n-1]!+1)*2^s<=4294967296^(n-1)*2^(32-s)*2^s:=N3 _ (eu _ g4);have bu:4294967296^n=4294967296^(n-1)*4294967296:=by rw[<-Nat.pow_succ];congr 1;omega
   rw[wy,wy,S]at g6;rw[wy]at g5;omega
  have hB:=hO (N3 _ J) F;have U:=X3 N P v (by omega) L am (by rw[Q];exact F);have V:=X3 h2 m2 v ae L am (by rw[q2];exact hB);rw[Q]at U;rw[q2]at V;obtain⟨K,W⟩:∃K,K=4294967296^(n-3)*2^(32-s):=⟨_,rfl⟩;have X:0<K:=by rw[W];exact ACG (td (by omega)) (td (by omega))
  rw[<-W]at U V;have an:A/K<18446744073709551616:=by
   rw[AAE X,W];have Y:18446744073709551616*(4294967296^(n-3)*2^(32-s))*2^s=4294967296^n:=by
    have S:2^(32-s)*2^s=4294967296:=by rw[<-Nat.pow_add,show 32-s+s=32 by omega]
    rw[wy,wy,S,show 18446744073709551616*(4294967296^(n-3)*4294967296)=4294967296^(n-3)*4294967296^3 by grind,<-Nat.pow_add];congr 1;omega
   rw[<-Y]at F;exact AA2 F
  have Y:=λ{H K}=>U.c (H:=H) (K:=K) Ev rfl (by simp[hx.pl,aV]) (.inl rfl);have e2:=λ{H K}=>V.c (H:=H) (K:=K) Ev rfl (by simp[hy.pl,aV]) (.inl rfl);have e3:=λ{H K}=>al.c (H:=H) (K:=K) Eu rfl rfl (.inl rfl);have a8:B/K<=A/K:=Nat.div_le_div_right J;have a9:A=A/K*K+A%K:=by rw[AAv];exact(AAR A K).symm
  have ba:B=B/K*K+B%K:=by rw[AAv];exact(AAR B K).symm
  have bb:=ma A X;have bd:=ma B X;refine aE.ex (.body Qo rfl ?_);simp(disch:=omega)only[go_sem,simprocAttr,apE,N.n,N.q,<-ah,u32,wr,Y,e2,e3];refine⟨⟨by omega,by omega⟩,?_⟩;refine ak.loop (arF A B _ _ x y _ _) _ ⟨false,A/K,0,0,1,0,0,1,_,_,_,jF.start a8,.inl rfl,by omega,by omega,rfl⟩ ?_;rintro k st⟨e,f,p,j,g,d,Z,h,c,r,q,hL,ao,hu,hv,rfl⟩;by_cases c1:h<=k
  ·have bz:=hL.sum_small an c1;have b0:=hL.le;have b1:=hL.xe;have b2:f<18446744073709551616:=by have:1*f<=h*f:=N3 _ hL.c4;omega
   have e4:IntKind.u64.wrap (f-k)=((f-k:Nat)):=by rw[dR];omega
   have e5:IntKind.u64.wrap (d+h)=((d+h:Nat)):=by rw[dR];omega
   obtain⟨df,be⟩:∃df,df=f-k:=⟨_,rfl⟩;obtain⟨w,bf⟩:∃w,w=d+h:=⟨_,rfl⟩;rw[<-be]at e4;rw[<-bf]at e5;have d1:(h:Int)<=k:=by omega
   by_cases c2:w<=df
   ·have d2:(w:Int)<=df:=by omega
    obtain⟨u,bg,g1,t⟩:=hL.step an a9 ba bb bd c1 (by omega);have bh:¬((k:Int)=0):=by have:=hL.c4;omega
    have bi:=ma f (show 0<k by omega);obtain⟨o,aq⟩:∃o,o=f/k:=⟨_,rfl⟩;rw[<-aq]at u g1 t;obtain⟨z,ar⟩:∃z,z=o*Z:=⟨_,rfl⟩;obtain⟨C,au⟩:∃C,C=o*h:=⟨_,rfl⟩;have f1:IntKind.u64.wrap (o*Z)=z:=by rw[<-Int.natCast_mul,<-ar];exact bG (by omega)
    have f2:IntKind.u64.wrap (o*h)=C:=by rw[<-Int.natCast_mul,<-au];exact bG (by omega)
    rw[<-ar]at u t;rw[<-au]at u g1;obtain⟨G,bl⟩:∃G,G=g+z:=⟨_,rfl⟩;obtain⟨I,bm⟩:∃I,I=d+C:=⟨_,rfl⟩;have f3:IntKind.u64.wrap (g+z)=G:=by rw[dR];omega
    have f4:IntKind.u64.wrap (d+C)=I:=by rw[dR];omega
    rw[<-bl]at u t;rw[<-bm]at u g1;have f5:IntKind.u64.wrap _=o:=bG (by have:=Nat.div_le_self f k;omega);have tq:Int.tdiv (f:Int) (k:Int)=o:=by rw[Cp,aq]
    simp only[go_sem,simprocAttr,JZ,d1,d2,e4,e5,bh,tq,x8,f1,f2,f3,f4,f5];exact⟨f%k,bi,!e,k,g,d,Z,h,G,I,_,_,_,u,bg,t,g1,rfl⟩
   have d2:¬(w:Int)<=df:=by omega
   simp only[go_sem,simprocAttr,JZ,d1,d2,e4,e5];exact⟨_,_,_,_,_,⟨rfl,rfl,rfl,rfl,rfl⟩,ao⟩
  have d1:¬(h:Int)<=k:=by omega
  simp only[go_sem,JZ,d1];exact⟨_,_,_,_,_,⟨rfl,rfl,rfl,rfl,rfl⟩,ao⟩
 grind
end
section
open Go.Dm
set_option maxRecDepth 10000
set_option maxRecDepth 100000
structure X4(l m:List Nat)(u v N:Nat)(x y:D)(i:Nat)(s:St):Prop where h:∃ws cx cy bw a5 a6 a7 a14,ws.length=N/\lm 4294967296 ws/\cx<4294967296/\cy<4294967296/\bw<=1/\(l.length<i->cx=0)/\(m.length<i->cy=0)/\(∀k,i<=k->k<N->ws[k]! =0)/\vl 4294967296 ws+v*vl 4294967296 (m.take i)+4294967296^i*cx=u*vl 4294967296 (l.take i)+4294967296^i*(cy+bw)/\s=⟨[.i .u64 u,x,.i .u64 v,y,.nil,a5,a6,a7,.i .u64 cx,.i .u64 cy,.i .u32 bw,.mu 0 N 0 N,.i .i64 i,.i .i64 N,a14],[.ar 1 (ws.map u32) (some N) true false]⟩
def X5(l:List Nat)(i:Nat):vl 4294967296 (l.take (i+1))=vl 4294967296 (l.take i)+4294967296^i*gd l i:=by
 unfold gd;split;·grind[ft]
 rw[E4 (by omega),E4 (by omega)];omega
variable{x y z a b c d e:Nat}
def arH{P v C X f i d g h j:Nat}(k:x+v*C+P*e=a*b+P*(f+i))(l:X=e+a*g)(m:c=f+v*h)(n:y=x+P*d)(o:d+c%z+i=X%z+z*j):y+v*(C+P*h)+P*z*(X/z)=a*(b+P*g)+P*z*(c/z+j):=by have p:=vd X z;have q:=vd c z;grind
def Ca{C v:Nat}{x y:D}(hx:bc z x)(hy:bc C y)(hu:a<4294967296)(hv:v<4294967296)(ha:(ds 4294967296 z).length<1000000000)(hc:(ds 4294967296 C).length<1000000000)(a9:v*C<=a*z):∃d,ai VS 217 [.i .u64 a,x,.i .u64 v,y] d/\bc (a*z-v*C) d:=by
 have f:=hx.sl;have g:=hy.sl;have m1:=cH ay z;have m2:=cH ay C;have q1:=bX ay z;have q2:=bX ay C;generalize ds 4294967296 z=l at*;generalize ds 4294967296 C=m at*;obtain⟨N,hN⟩:∃N,N=max l.length m.length+1:=⟨_,rfl⟩;refine aE.ex (.body wk rfl ?_);have eN:max (l.length:Int) m.length+1=N:=by omega
 simp(disch:=omega)only[go_sem,apF,f.n,g.n,wr,ss,eN];refine⟨⟨⟨by omega,by omega⟩,⟨by omega,by omega⟩,by omega⟩,ak.up (X4 l m a v N x y) N ⟨_,0,0,0,_,_,_,_,by simp,p9 (by omega),by omega,by omega,by omega,λ_=>rfl,λ_=>rfl,λk _ hk=>by rw[K0 _ _ (by simpa using hk)];simp,by rw[uL];simp[vl],rfl⟩ ?_⟩;rintro i s hi⟨h,V,I,o,a5,a6,a7,bf,j,J,bg,bh,ap,aq,au,W,r,rfl⟩;by_cases av:i<N
 ·have E:(i:Int)<N:=by omega
  have bi:=xF m1 i;have bj:=xF m2 i;have bk:a*gd l i<=4294967295*4294967295:=oz (by omega) (by omega);have bl:v*gd m i<=4294967295*4294967295:=oz (by omega) (by omega);obtain⟨X,t⟩:∃X,X=V+a*gd l i:=⟨_,rfl⟩;obtain⟨Y,e⟩:∃Y,Y=I+v*gd m i:=⟨_,rfl⟩;have u:=λ{H K}=>LV (H:=H) (K:=K) (x:=X%4294967296) (y:=Y%4294967296) (by omega) (by omega) ap;obtain⟨d,hd⟩:∃d,d=(X%4294967296+8589934592-Y%4294967296-o)%4294967296:=⟨_,rfl⟩;obtain⟨p,Z⟩:∃p,p=(if X%4294967296<Y%4294967296+o then 1 else 0):=⟨_,rfl⟩;have aa:d+Y%4294967296+o=X%4294967296+4294967296*p/\p<=1:=by rw[Z];split<;>omega
  rw[<-hd,<-Z]at u;have F:bin .shr _ (.i .u64 32)=some (.i .u64 ((X/4294967296:Nat))):=eE (by decide);have G:bin .shr _ (.i .u64 32)=some (.i .u64 ((Y/4294967296:Nat))):=eE (by decide);have q:X4 l m a v N x y (i+1) ⟨[.i .u64 a,x,.i .u64 v,y,.nil,.b true,.b (decide (i<(l.length:Int))),.b (decide (i<(m.length:Int))),.i .u64 ((X/4294967296:Nat)),.i .u64 ((Y/4294967296:Nat)),.i .u32 p,.mu 0 N 0 N,.i .i64 (i+1),.i .i64 N,.i .i64 i],[.ar 1 ((h.set i d).map u32) (some N) true false]⟩:=by
   refine⟨h.set i d,X/4294967296,Y/4294967296,p,_,_,_,_,by simp[j],gZ J (by omega),by omega,by omega,aa.2,λhh=>?_,λhh=>?_,λk h3 h4=>?_,?_,rfl⟩;·rw[t,gd,E1 (by omega),nu,k0];omega
   ·rw[e,gd,E1 (by omega),nu,k0];omega
   ·rw[K0 _ _ (by rw[eh];omega),y3 (by omega),<-getElem!_pos h k (by omega)];exact W k (by omega) h4
   have g1:=jC (B:=4294967296) (l:=h) (i:=i) (v:=d) (by omega);rw[W i (Hk _) av,nu,k0]at g1;rw[X5,X5,me];exact arH r t e g1 aa.1
  by_cases c2:i<l.length
  ·have d2:(i:Int)<l.length:=by omega
   have g1:gd l i=l[i]!:=G1 c2;have L:IntKind.u64.wrap (a*l[i]!)=((a*gd l i:Nat)):=by rw[g1,<-Int.natCast_mul];exact bG (by rw[<-g1];omega)
   obtain⟨M,a0⟩:∃M,M=a*gd l i:=⟨_,rfl⟩;rw[<-a0]at L t;have e2:IntKind.u64.wrap (V+M)=X:=by rw[dR];omega
   have e0:IntKind.u64.wrap _=l[i]!:=bG (by omega);simp only[d2,decide_true]at q;by_cases c3:i<m.length
   ·have d3:(i:Int)<m.length:=by omega
    have w:gd m i=m[i]!:=G1 c3;have A:IntKind.u64.wrap (v*m[i]!)=((v*gd m i:Nat)):=by rw[w,<-Int.natCast_mul];exact bG (by rw[<-w];omega)
    obtain⟨n,P⟩:∃n,n=v*gd m i:=⟨_,rfl⟩;rw[<-P]at A e;have Q:IntKind.u64.wrap (I+n)=Y:=by rw[dR];omega
    have S:IntKind.u64.wrap _=m[i]!:=bG (by omega);simp only[d3,decide_true]at q;simp(disch:=omega)only[go_sem,xq,f.n,f.q,g.n,g.q,E,d2,d3,u32,wr,e0,L,e2,A,Q,S,jD,u,F,G,j,gg];repeat' first|(refine And.intro ?_ ?_)|intro _
    all_goals first|omega
   have d3:¬(i:Int)<m.length:=by omega
   rw[show gd m i=0 from E1 c3,nu,k0]at e;subst e;simp only[d3,decide_false]at q;simp(disch:=omega)only[go_sem,xq,f.n,f.q,g.n,E,d2,d3,u32,wr,e0,L,e2,jD,u,F,G,j,gg];repeat' first|(refine And.intro ?_ ?_)|intro _
   all_goals first|omega
  have d2:¬(i:Int)<l.length:=by omega
  rw[show gd l i=0 from E1 c2,nu,k0]at t;subst t;simp only[d2,decide_false]at q;by_cases c3:i<m.length
  ·have d3:(i:Int)<m.length:=by omega
   have w:gd m i=m[i]!:=G1 c3;have A:IntKind.u64.wrap (v*m[i]!)=((v*gd m i:Nat)):=by rw[w,<-Int.natCast_mul];exact bG (by rw[<-w];omega)
   obtain⟨n,P⟩:∃n,n=v*gd m i:=⟨_,rfl⟩;rw[<-P]at A e;have Q:IntKind.u64.wrap (I+n)=Y:=by rw[dR];omega
   have S:IntKind.u64.wrap _=m[i]!:=bG (by omega);simp only[d3,decide_true]at q;simp(disch:=omega)only[go_sem,xq,f.n,g.n,g.q,E,d2,d3,u32,wr,A,Q,S,jD,u,F,G,j,gg];repeat' first|(refine And.intro ?_ ?_)|intro _
   all_goals first|omega
  have d3:¬(i:Int)<m.length:=by omega
  rw[show gd m i=0 from E1 c3,nu,k0]at e;subst e;simp only[d3,decide_false]at q;simp(disch:=omega)only[go_sem,xq,f.n,g.n,E,d2,d3,u32,wr,jD,u,F,G,j,gg];repeat' first|(refine And.intro ?_ ?_)|intro _
  all_goals first|omega
 have a1:i=N:=by omega
 subst a1;rw[E4 (by omega),E4 (by omega),q1,q2]at r;have a2:vl 4294967296 h=a*z-v*C:=by
  have g1:=dv ay J;rw[j]at g1;rw[aq (by omega),au (by omega),nu,k0,i4]at r;rcases hM o 1 with c|c;·rw[show o=0 by omega,nu,k0]at r;omega
  rw[show o=1 by omega,AAP]at r;omega
 obtain⟨d,a3,U⟩:=lY .im J (by omega);rw[a2]at U;have a4:(h.map u32).take i=h.map u32:=E4 (by rw[S2];omega);simp[go_sem,xq,qb];refine ac.fzr kG rfl rfl a3 ⟨_,by simp only[go_sem,simprocAttr,j,a4];rfl⟩ (λH'=>?_);simp[go_sem];exact⟨d,lF U.sl.flat,U⟩
structure arI(g:Nat)(B:Nat)(s:St):Prop where h:∃A P Q a3 a4 a5 a6 a10 a11,bc A P/\bc B Q/\B<=A/\(ds 4294967296 A).length<1000000000/\Nat.gcd A B=g/\s=⟨[P,Q,.nil,a3,a4,a5,a6,.u,.u,.u,a10,a11,.u,.u,.u],[]⟩
def uE:aQ:=match Br.body with|.seq _ (.seq _ (.seq _ r))=>r|_=>.skip
def L5:aQ:=match uE with|.seq _ (.seq _ r)=>r|_=>.skip
structure arJ(g:Nat)(P Q:D)(a3 a4 a5 a6 a7 a8 a10 a11 a12:D)(y:Nat)(s:St):Prop where h:∃x a9,x<18446744073709551616/\y<18446744073709551616/\Nat.gcd x y=g/\s=⟨[P,Q,.nil,a3,a4,a5,a6,a7,a8,a9,a10,a11,a12,.i .u64 (x:Int),.i .u64 (y:Int)],[]⟩
variable{f g h i j k:D}
def X6{P e l m n:D}(o:bc z P)(p:bc a f)(q:(ds 4294967296 z).length<=2)(t:(ds 4294967296 a).length<=2){K:D->Prop}(B:∀d,bc (Nat.gcd z a) d->K d):ak VS L5 ⟨[P,f,.nil,g,h,i,j,k,e,.u,l,m,n,.u,.u],[]⟩ (dh [.s 2] (fG false λr=>∃d,r=.ret d/\K d)):=by
 have v:=λ{H K}=>(X1 o.sl q (cH ay z)).c (H:=H) (K:=K) Es rfl (by simp[o.pl]) (.inl rfl);have w:=λ{H K}=>(X1 p.sl t (cH ay a)).c (H:=H) (K:=K) Es rfl (by simp[p.pl]) (.inl rfl);rw[bX ay]at v w;have C:=(mQ ay).1 q;have E:=(mQ ay).1 t;simp[go_sem,L5,uE,Wi,v,w];refine ak.loop (arJ _ P f g h i j k e l m n) a ⟨z,.u,C,E,rfl,rfl⟩ ?_;rintro y s⟨x,M,F,N,b,rfl⟩;by_cases G:y=0;·subst G;rw[ACV]at b;subst b;obtain⟨d,I,A⟩:=arB F;have J:=λ{H K}=>I.c (H:=H) (K:=K) Qp rfl rfl (.inl rfl);simp[go_sem,Wg,J];exact⟨d,lF A.sl.flat,B d A⟩
 have L:¬(y:Int)=0:=by omega
 simp only[go_sem,Wg,L,x8];have:=ma x (show 0<y by omega);exact⟨x%y,by omega,y,_,by omega,by omega,by rw[<-b,AAw x,ACZ y x,AAw],rfl⟩
def arK{P t:D}(a:bc x P)(b:bc y f)(v:(ds 4294967296 x).length<1000000000)(m:(ds 4294967296 y).length<=2){K:D->Prop}(c:∀d,bc (Nat.gcd x y) d->K d):ak VS uE ⟨[P,f,.nil,g,h,i,j,.u,.u,.u,k,t,.u,.u,.u],[]⟩ (dh [.s 2] (fG false λr=>∃d,r=.ret d/\K d)):=by
 have n:=a.sl;have l:=b.sl;rw[rd uE];show ak VS (.seq _ (.seq _ L5)) _ _;by_cases o:y=0;·subst o;rw[ACV]at c;rw[cz]at l;simp[go_sem,l.n,kx];exact⟨P,lF n.flat,c P a⟩
 have E:=nZ ay o;have q:¬((ds 4294967296 y).length:Int)=0:=by omega
 by_cases w:(ds 4294967296 x).length<=2
 ·have p:¬2<((ds 4294967296 x).length:Int):=by omega
  simp only[go_sem,l.n,n.n,q,p];exact X6 a b w m c
 have p:2<((ds 4294967296 x).length:Int):=by omega
 obtain⟨d,e,z,A,B⟩:=L4 a b o v (by omega);have C:=λ{H K}=>z.c (H:=H) (K:=K) zP rfl (by simp[a.pl,b.pl]) (.inl rfl);simp only[go_sem,l.n,n.n,q,p,C];refine X6 b B m ?_ (λd A=>c d ?_);·exact gp (kj ay (AB3 (ma _ (by omega)))) m
 rwa[AAw x,ACZ y x,AAw]
def arL{a b:Nat}{x y:D}(n:bc a x)(o:bc b y)(ha:(ds 4294967296 a).length<1000000000)(hb:(ds 4294967296 b).length<1000000000):∃d,ai VS 175 [x,y] d/\bc (Nat.gcd a b) d:=by
 have U:=λ{H K}=>(B6 n o (by omega) (by omega)).c (H:=H) (K:=K) wj rfl (by simp[n.pl,o.pl]) (.inl rfl);refine aE.ex (.body Qd rfl ?_);have key:∀{A B:Nat}{P Q p:D},bc A P->bc B Q->B<=A->(ds 4294967296 A).length<1000000000->Nat.gcd A B=Nat.gcd a b->ak VS (.loop Jr) ⟨[P,Q,.nil,p,.u,.u,.u,.u,.u,.u,.u,.u,.u,.u,.u],[]⟩ (mt 0 (kD VS uE (dh [.s 2] (fG false λr=>∃d,r=.ret d/\bc (Nat.gcd a b) d)))):=by
  intro A B P Q p g f i h j;refine ak.loop (arI _) B ⟨A,P,Q,p,_,_,_,_,_,g,f,i,h,j,rfl⟩ ?_;rintro B s⟨A,P,Q,p,a4,a5,a6,ap,aq,g,f,i,h,j,rfl⟩;have q:=f.sl;have ar:=kj ay i;by_cases v:(ds 4294967296 B).length<=2
  ·have k:¬2<((ds 4294967296 B).length:Int):=by omega
   simp[go_sem,Bq,q.n,k];exact arK g f h v (λd V=>by rwa[j]at V)
  have k:2<((ds 4294967296 B).length:Int):=by omega
  have ae:B≠0:=by rintro rfl;rw[cz]at v;simp at v
  obtain⟨u0,W,w,X,e,hs,l⟩:=arG g f i (by omega) h;have z:=λ{H K}=>hs.c (H:=H) (K:=K) Qo rfl (by simp[g.pl,f.pl]) (.inl rfl);by_cases h0:w=0
  ·have t:(w:Int)=0:=by omega
   obtain⟨d,e',ag,V,he⟩:=L4 g f ae h (by omega);have m:=λ{H K}=>ag.c (H:=H) (K:=K) zP rfl (by simp[g.pl,f.pl]) (.inl rfl);simp[go_sem,simprocAttr,Bq,q.n,k,z,t,m];have hm:=ma A (show 0<B by omega);exact⟨A%B,hm,B,_,_,_,_,_,_,_,_,f,he,by omega,by omega,by rw[<-j,AAw A,ACZ B A,AAw],rfl⟩
  have t:¬(w:Int)=0:=by omega
  have l:=l.resolve_left h0;obtain⟨Y,Z,b3,b4⟩:=l.b0;cases e with|true=>obtain⟨C,E,F,G,I,J⟩:=l.even;obtain⟨d1,L,g1⟩:=Ca g f Y Z h (by omega) C;obtain⟨d2,M,N⟩:=Ca f g b4 b3 (by omega) h E;have m:=λ{H K}=>L.c (H:=H) (K:=K) wk rfl (by simp[g.pl,f.pl,aV]) (.inl rfl);have S:=λ{H K}=>M.c (H:=H) (K:=K) wk rfl (by simp[g.pl,f.pl,aV]) (.inl rfl);simp only[go_sem,simprocAttr,Bq,q.n,k,z,t,m,S];exact⟨X*B-W*A,F,_,_,_,_,_,_,_,_,_,g1,N,G,hO (kj ay (gp I i)) h,by rw[J,j],rfl⟩|false=>obtain⟨C,E,F,G,I,J⟩:=l.odd;obtain⟨d1,L,g1⟩:=Ca f g Z Y (by omega) h C;obtain⟨d2,M,N⟩:=Ca g f b3 b4 h (by omega) E;have m:=λ{H K}=>L.c (H:=H) (K:=K) wk rfl (by simp[g.pl,f.pl,aV]) (.inl rfl);have S:=λ{H K}=>M.c (H:=H) (K:=K) wk rfl (by simp[g.pl,f.pl,aV]) (.inl rfl);simp only[go_sem,simprocAttr,Bq,q.n,k,z,t,m,S];exact⟨W*A-X*B,F,_,_,_,_,_,_,_,_,_,g1,N,G,hO (kj ay (gp I i)) h,by rw[J,j],rfl⟩
 rw[Wi];show ak VS (.seq _ (.seq _ (.seq _ uE))) _ _;by_cases al:a<b;·simp[go_sem,simprocAttr,U,xC al];exact key o n (by omega) hb (AAw _ _)
 have hs:¬gW a b<0:=by
  rcases hM b a with c|c;·rw[xD c];omega
  rw[B5 (by omega)];omega
 simp[go_sem,U,hs];exact key n o (by omega) ha rfl
end
section
open Go.Dm
set_option maxRecDepth 10000
def cap(k:Nat):Nat:=65536^k
def iZ{n k:Nat}:(ds 65536 n).length<=k↔n<cap k:=mQ bY
theorem mN{j k:Nat}(h:j<=k):cap j<=cap k:=nG (by omega) h
def jz{a b j k n:Nat}(c:a<cap j)(d:b<cap k)(e:j+k<=n):a*b<cap n:=by refine em ?_ (mN e);unfold cap;rw[sm];exact Nat.mul_lt_mul'' c d
def Cb{a b k n:Nat}(d:a<cap k)(f:b<cap k)(c:k+1<=n):a+b<cap n:=by refine em ?_ (mN c);have e:cap (k+1)=cap k*65536:=me ..;omega
def aN{a j k:Nat}(h:a<cap j)(b:j<=k):a<cap k:=em h (mN b)
def X7{n k:Nat}(h:n<cap (2*k)):(ds 4294967296 n).length<=k:=by rw[mQ ay,show 4294967296=65536^2 from rfl,<-Nat.pow_mul];exact h
def gX{n k:Nat}(h:n<cap k)(a:k<=4096):(ds 4294967296 n).length<1000000000:=by have:=X7 (k:=2048) (em h (mN (by omega)));omega
theorem lZ{n k:Nat}(h:n<cap k)(a:k<=4096):(ds 65536 n).length<1099511627776:=by have:=iZ.2 (em h (mN a));omega
def l7{n k:Nat}(h:n<cap k)(a:k<=4096):(ds 65536 n).length<70368744177665:=by grind[lZ]
def j9(neg:Bool)(l:List Nat):Bool:=match l with|[]=>!neg|_::_=>decide (l.length<=1024)&&decide (l[l.length-1]!≠0)
def L8{neg:Bool}{l:List Nat}{x:D}(h:Sl 1 (l.map aJ) x)(i:l.length<70368744177665):ai VS 111 [.ag [.b neg,x]] (.b (j9 neg l)):=by refine .body tM rfl ?_;cases l with|nil=>simp[go_sem,simprocAttr,Iz,h.n,j9]|cons a l=>
 generalize f:a::l=m at*;have j:m.length≠0:=by grind
 have d:¬(m.length:Int)=0:=by omega
 have g:j9 neg m=(decide (m.length<=1024)&&decide (m[m.length-1]!≠0)):=by subst f;rfl
 rw[g];by_cases e:m.length<=1024
 ·have c:(m.length:Int)<=1024:=by omega
  have k:((m.length:Int)-1).toNat=m.length-1:=by omega
  simp(disch:=omega)only[go_sem,Iz,h.n,h.q,d,c,e,wr,aJ];grind
 have c:¬(m.length:Int)<=1024:=by omega
 simp only[go_sem,Iz,h.n,d,c,e]
def xH{neg:Bool}{n:Nat}(g:n<cap 1024)(h:n=0->neg=false):j9 neg (ds 65536 n)=true:=by
 by_cases c:n=0;·rw[c,cz,h c];rfl
 have b:=kV bY c;have d:=sq bY n b;have e:=iZ.2 g;cases f:ds 65536 n with|nil=>exact absurd f b|cons a l=>rw[f]at d e;simp only[j9,D0,Hq];exact⟨e,d⟩
def ke(neg:Bool)(l:List Nat):Int:=if neg then-(vl 65536 l:Int)else vl 65536 l
def Cc{neg:Bool}{l:List Nat}{x:D}(h:Sl 1 (l.map aJ) x)(d:lm 65536 l)(e:j9 neg l=true):Wh (ke neg l) (.ag [.b neg,x])/\(ke neg l).natAbs<cap 1024/\(ke neg l).natAbs=vl 65536 l/\ds 65536 (vl 65536 l)=l:=by
 have a:(ke neg l).natAbs=vl 65536 l:=by grind[ke]
 have c:=uM bY d (λf=>by cases l<;>grind[j9]);refine⟨⟨x,?_,⟨by grind⟩⟩,?_,a,c⟩;·unfold ke;cases neg with|false=>simp|true=>
  have:vl 65536 l≠0:=by grind[cz,j9]
  simp;omega
 rw[a,<-iZ,c];cases l<;>grind[j9]
def Wh.pl{z:Int}{d:D}(h:Wh z d):d.plain=true:=by obtain⟨y,rfl,a⟩:=h.h;simp[cE,cZ,a.sl.flat]
def L9{z:Int}{y:D}(h:eL z.natAbs y)(a:z.natAbs<cap 1024):ai VS 111 [.ag [.b (decide (z<0)),y]] (.b true):=by have:=L8 (neg:=decide (z<0)) h.sl (l7 a (by omega));simp_all[xH]
variable{x y:D}
def arM{z1 z2:Int}(a:eL z1.natAbs x)(d:eL z2.natAbs y)(e:z1.natAbs<cap 1024)(f:z2.natAbs<cap 1024):ai VS 173 [.im 2 [[.b (decide (z1<0)),x],[.b (decide (z2<0)),y]]] (.b true):=by have g:=λ{H K}=>(L9 a e).c (H:=H) (K:=K) tM rfl (by simp[cE,cZ,a.sl.flat]) (.inl rfl);have h:=λ{H K}=>(L9 d f).c (H:=H) (K:=K) tM rfl (by simp[cE,cZ,d.sl.flat]) (.inl rfl);have j:cJ [] (.im 2 [[.b (decide (z1<0)),x],[.b (decide (z2<0)),y]]) (.i .i64 0) 2=some _:=rfl;have k:cJ [] (.im 2 [[.b (decide (z1<0)),x],[.b (decide (z2<0)),y]]) (.i .i64 1) 2=some _:=rfl;refine .body Qc rfl ?_;simp[go_sem,apj];rw[bv];simp[go_sem,simprocAttr,api,j,g,wr];rw[bv];simp[go_sem,simprocAttr,k,h,wr];rw[bv];simp[go_sem,simprocAttr]
def xI{z1 z2:Int}(a:eL z1.natAbs x)(c:eL z2.natAbs y)(d:z1.natAbs<cap 1024)(e:z2.natAbs<cap 1024){H:ab}{K:CR->Prop}:ac VS 173 [.sv 2 [[.b (decide (z1<0)),x],[.b (decide (z2<0)),y]]] H K↔K (.ret (.b true) H):=by have f:=λm H=>ah a.sl.flat m H;have g:=λm H=>ah c.sl.flat m H;rw[fX (H1:=H) Qc rfl (arM a c d e) (by simp[go_sem,f,g])];exact dG
end
section
open Go.Dm
set_option maxRecDepth 10000
def Cd{neg:Bool}{n:Nat}{x:D}(c:bc n x)(e:n<cap 1024):∃d,ai VS 289 [.b neg,x] (.tu [d,.i .i64 0])/\Wh (if neg then-(n:Int)else n) d:=by
 have o:=gX e (by omega);obtain⟨d,h,f⟩:=pY (neg:=neg) c.sl (cH ay n) (by omega);rw[bX ay]at f;have j:=λ{H K}=>h.c (H:=H) (K:=K) mw rfl (by simp[c.pl,jm]) (.inl rfl);obtain⟨y,rfl,a⟩:=f.h;have g:(if neg=true then-(n:Int)else n).natAbs=n:=by cases neg<;>simp
 rw[g]at a;have p:=iZ.2 e;have k:¬1024<((ds 65536 n).length:Int):=by omega
 have l:=λm H=>ah a.sl.flat m H;refine⟨_,.body wl rfl ?_,⟨y,rfl,by rw[g];exact a⟩⟩;simp[go_sem,aqh,j,a.sl.n,k,l]
def arN(z1 z2:Int):(if((decide (z1<0)==decide (z2<0))!=true)=true then-((z1.natAbs*z2.natAbs:Nat):Int)else((z1.natAbs*z2.natAbs:Nat):Int))=z1*z2:=by grind
def arO{z1 z2:Int}{d1 d2:D}(h:Wh z1 d1)(j:Wh z2 d2)(a:z1.natAbs<cap 512)(b:z2.natAbs<cap 512):∃d,ai VS 249 [d1,d2] (.tu [d,.i .i64 0])/\Wh (z1*z2) d:=by obtain⟨x,rfl,g1⟩:=h.h;obtain⟨z,rfl,c⟩:=j.h;have k:=aN a (show 512<=1024 by omega);have l:=aN b (show 512<=1024 by omega);have n:=λ{H K}=>xI g1 c k l (H:=H) (K:=K);obtain⟨A,o,f⟩:=mM g1 (lZ a (by omega));obtain⟨r1,r2,r3⟩:=mM c (lZ b (by omega));have p:=λ{H K}=>o.c (H:=H) (K:=K) lI rfl g1.p1 (.inl rfl);have q:=λ{H K}=>r2.c (H:=H) (K:=K) lI rfl c.p1 (.inl rfl);obtain⟨t1,r,g⟩:=are f r3 (gX a (by omega)) (gX b (by omega));have s:=λ{H K}=>r.c (H:=H) (K:=K) QU rfl (by simp[f.pl,r3.pl]) (.inl rfl);obtain⟨B,t,e⟩:=Cd (neg:=(decide (z1<0)==decide (z2<0))!=true) g (jz a b (by omega));have u:=λ{H K}=>t.c (H:=H) (K:=K) wl rfl (by simp[g.pl,jm]) (.inl rfl);have hs:=arN z1 z2;rw[hs]at e;obtain⟨y,rfl,v⟩:=e.h;have w:=λm H=>ah v.sl.flat m H;refine⟨_,.body QB rfl ?_,e⟩;simp only[go_sem,simprocAttr,apT,n,p,q,s,u,w]
def arP{z1 z2:Int}{v w:D}(g1:bc z1.natAbs v)(f:bc z2.natAbs w)(s:z1.natAbs<cap 1023)(t:z2.natAbs<cap 1023):∃d,ai VS 293 [.b (decide (z1<0)),v,.b (decide (z2<0)),w] (.tu [d,.i .i64 0])/\Wh (z1+z2) d:=by
 have x:=gX s (by omega);have z:=gX t (by omega);by_cases hs:decide (z1<0)=decide (z2<0)
 ·obtain⟨t1,j,g⟩:=XT g1 f x z;have k:=λ{H K}=>j.c (H:=H) (K:=K) Ew rfl (by simp[g1.pl,f.pl]) (.inl rfl);obtain⟨A,l,e⟩:=Cd (neg:=decide (z1<0)) g (Cb s t (by omega));have n:=λ{H K}=>l.c (H:=H) (K:=K) wl rfl (by simp[g.pl,jm]) (.inl rfl);have o:(if decide (z1<0)=true then-((z1.natAbs+z2.natAbs:Nat):Int)else((z1.natAbs+z2.natAbs:Nat)))=z1+z2:=by grind
  rw[o]at e;obtain⟨y,rfl,p⟩:=e.h;have q:=λm H=>ah p.sl.flat m H;have r:(decide (z1<0)==decide (z2<0))=true:=by grind
  refine⟨_,.body zT rfl ?_,e⟩;simp[go_sem,Lf,r,k,n,q]
 have r:(decide (z1<0)==decide (z2<0))=false:=by simpa using hs
 have E:¬(z1<0↔z2<0):=λh=>hs (decide_eq_decide.2 h);have B:=λ{H K}=>(B6 g1 f (by omega) (by omega)).c (H:=H) (K:=K) wj rfl (by simp[g1.pl,f.pl]) (.inl rfl);by_cases C:z2.natAbs<=z1.natAbs
 ·have u:0<=gW z1.natAbs z2.natAbs:=by
   rcases hM z2.natAbs z1.natAbs with c|c;·rw[xD c];omega
   rw[B5 (by omega)];omega
  obtain⟨t1,j,g⟩:=LW g1 f C x;have k:=λ{H K}=>j.c (H:=H) (K:=K) zS rfl (by simp[g1.pl,f.pl]) (.inl rfl);obtain⟨A,l,e⟩:=Cd (neg:=decide (z1<0)) g (hO (ACN _ _) (aN s (by omega)));have n:=λ{H K}=>l.c (H:=H) (K:=K) wl rfl (by simp[g.pl,jm]) (.inl rfl);have o:(if decide (z1<0)=true then-((z1.natAbs-z2.natAbs:Nat):Int)else((z1.natAbs-z2.natAbs:Nat)))=z1+z2:=by by_cases a:z1<0<;>simp<;>omega
  rw[o]at e;obtain⟨y,rfl,p⟩:=e.h;have q:=λm H=>ah p.sl.flat m H;refine⟨_,.body zT rfl ?_,e⟩;simp[go_sem,Lf,r,B,u,k,n,q]
 have u:¬0<=gW z1.natAbs z2.natAbs:=by rw[xC (by omega)];omega
 obtain⟨t1,j,g⟩:=LW f g1 (by omega) z;have k:=λ{H K}=>j.c (H:=H) (K:=K) zS rfl (by simp[g1.pl,f.pl]) (.inl rfl);obtain⟨A,l,e⟩:=Cd (neg:=decide (z2<0)) g (hO (ACN _ _) (aN t (by omega)));have n:=λ{H K}=>l.c (H:=H) (K:=K) wl rfl (by simp[g.pl,jm]) (.inl rfl);have o:(if decide (z2<0)=true then-((z2.natAbs-z1.natAbs:Nat):Int)else((z2.natAbs-z1.natAbs:Nat)))=z1+z2:=by by_cases a:z2<0<;>simp<;>omega
 rw[o]at e;obtain⟨y,rfl,p⟩:=e.h;have q:=λm H=>ah p.sl.flat m H;refine⟨_,.body zT rfl ?_,e⟩;simp[go_sem,Lf,r,B,u,k,n,q]
def arQ{z1 z2:Int}{d1 d2:D}(g:Wh z1 d1)(h:Wh z2 d2)(a:z1.natAbs<cap 1023)(b:z2.natAbs<cap 1023):∃d,ai VS 251 [d1,d2] (.tu [d,.i .i64 0])/\Wh (z1+z2) d:=by obtain⟨u,rfl,g1⟩:=g.h;obtain⟨v,rfl,c⟩:=h.h;have j:=aN a (show 1023<=1024 by omega);have k:=aN b (show 1023<=1024 by omega);have l:=λ{H K}=>xI g1 c j k (H:=H) (K:=K);obtain⟨w,n,e⟩:=mM g1 (lZ a (by omega));obtain⟨r1,r2,r3⟩:=mM c (lZ b (by omega));have o:=λ{H K}=>n.c (H:=H) (K:=K) lI rfl g1.p1 (.inl rfl);have p:=λ{H K}=>r2.c (H:=H) (K:=K) lI rfl c.p1 (.inl rfl);obtain⟨x,q,f⟩:=arP e r3 a b;have r:=λ{H K}=>q.c (H:=H) (K:=K) zT rfl (by simp[e.pl,r3.pl,jm]) (.inl rfl);obtain⟨y,rfl,s⟩:=f.h;have t:=λm H=>ah s.sl.flat m H;refine⟨_,.body QC rfl ?_,f⟩;simp[go_sem,simprocAttr,apU,l,o,p,r,t]
def arR{z1 z2:Int}{d1 d2:D}(h:Wh z1 d1)(j:Wh z2 d2)(a:z1.natAbs<cap 1024)(b:z2.natAbs<cap 1024):∃d,ai VS 143 [d1,d2] (.tu [d,.i .i64 0])/\Wh (Nat.gcd z1.natAbs z2.natAbs:Nat) d:=by
 obtain⟨w,rfl,g1⟩:=h.h;obtain⟨x,rfl,c⟩:=j.h;have k:=λ{H K}=>xI g1 c a b (H:=H) (K:=K);obtain⟨z,l,f⟩:=mM g1 (lZ a (by omega));obtain⟨r1,r2,r3⟩:=mM c (lZ b (by omega));have n:=λ{H K}=>l.c (H:=H) (K:=K) lI rfl g1.p1 (.inl rfl);have o:=λ{H K}=>r2.c (H:=H) (K:=K) lI rfl c.p1 (.inl rfl);obtain⟨t1,p,g⟩:=arL f r3 (gX a (by omega)) (gX b (by omega));have q:=λ{H K}=>p.c (H:=H) (K:=K) Qd rfl (by simp[f.pl,r3.pl]) (.inl rfl);have A:(ds 4294967296 (Nat.gcd z1.natAbs z2.natAbs)).length<1000000000:=by
  by_cases r:z1.natAbs=0;·rw[r,Nat.gcd_zero_left];exact gX b (by omega)
  exact hO (kj ay (Nat.gcd_le_left _ (by omega))) (gX a (by omega))
 obtain⟨B,s,e⟩:=pY (neg:=false) g.sl (cH ay _) (by omega);rw[bX ay]at e;have t:=λ{H K}=>s.c (H:=H) (K:=K) mw rfl (by simp[g.pl,jm]) (.inl rfl);obtain⟨y,rfl,u⟩:=e.h;have v:=λm H=>ah u.sl.flat m H;refine⟨_,.body P8 rfl ?_,e⟩;simp[go_sem,simprocAttr,ao7,k,n,o,q,t,v]
def arS{z1:Int}{a:Nat}{d1 d2:D}(h1:Wh z1 d1)(h2:Wh (a:Int) d2)(h0:a≠0)(o:z1.natAbs<cap 1023)(j:a<cap 1024):∃d e,ai VS 250 [d1,d2] (.tu [d,e,.i .i64 0])/\Wh (z1/a) d/\Wh (z1%a) e:=by
 obtain⟨y1,rfl,g1⟩:=h1.h;obtain⟨y2,rfl,g⟩:=h2.h;have l:=λ{H K}=>xI g1 g (aN o (by omega)) j (H:=H) (K:=K);obtain⟨p1,p2,U⟩:=mM g1 (lZ o (by omega));obtain⟨r1,r2,r3⟩:=mM g (lZ j (by omega));have G:=λ{H K}=>p2.c (H:=H) (K:=K) lI rfl g1.p1 (.inl rfl);have I:=λ{H K}=>r2.c (H:=H) (K:=K) lI rfl g.p1 (.inl rfl);have nn:((a:Int)).natAbs=a:=rfl;have F:decide ((a:Int)<0)=false:=by simp
 rw[nn]at r3 g;rw[F]at l;have J:¬((ds 65536 a).length:Int)=0:=by grind[nZ]
 obtain⟨q,r,t2,h,hr⟩:=L4 U r3 h0 (gX o (by omega)) (gX j (by omega));have L:=λ{H K}=>t2.c (H:=H) (K:=K) zP rfl (by simp[U.pl,r3.pl]) (.inl rfl);have M:=AAR z1.natAbs a;have V:=ma z1.natAbs (show 0<a by omega);have N:z1.natAbs/a<=z1.natAbs:=Nat.div_le_self _ _;have W:=hO (kj ay N) (gX o (by omega));have al:=hO (kj ay (AB3 V)) (gX j (by omega));obtain⟨Q,P⟩:∃Q,Q=z1.natAbs/a:=⟨_,rfl⟩;obtain⟨R,hR⟩:∃R,R=z1.natAbs%a:=⟨_,rfl⟩;rw[<-P,<-hR]at M;rw[<-P]at h W N;rw[<-hR]at hr al V;by_cases X:z1<0
 ·have d1:decide (z1<0)=true:=by simp[X]
  rw[d1]at l;rw[d1];by_cases p:R=0
  ·obtain⟨Y,s,c⟩:=pY (neg:=true) h.sl (cH ay _) (by omega);obtain⟨t1,t,f⟩:=pY (neg:=false) hr.sl (cH ay _) (by omega);rw[bX ay]at c f;have u:=λ{H K}=>s.c (H:=H) (K:=K) mw rfl (by simp[h.pl,jm]) (.inl rfl);have v:=λ{H K}=>t.c (H:=H) (K:=K) mw rfl (by simp[hr.pl,jm]) (.inl rfl);have w:(if true=true then-(Q:Int)else Q)=z1/a:=by
    have:z1=a*(-Q):=by
     have:(z1.natAbs:Int)=a*Q:=by rw[<-M,p];simp
     grind
    rw[this,ACC _ (by omega)];simp
   have x:(if false=true then-(R:Int)else R)=z1%a:=by
    have:z1=a*(-Q):=by
     have:(z1.natAbs:Int)=a*Q:=by rw[<-M,p];simp
     grind
    rw[this,Int.mul_emod_right,p];simp
   rw[w]at c;rw[x]at f;obtain⟨Z,rfl,z⟩:=c.h;obtain⟨w2,rfl,A⟩:=f.h;have B:=λm H=>ah z.sl.flat m H;have C:=λm H=>ah A.sl.flat m H;have S:((ds 4294967296 R).length:Int)=0:=by rw[p,cz];rfl
   refine⟨_,_,.body zQ rfl ?_,c,f⟩;simp only[go_sem,simprocAttr,Kv,l,G,I,L,g.sl.n,hr.sl.n,J,S,F,u,v,B,C]
  obtain⟨a1,a2,a3⟩:=XT h (b:=1) (y:=.im 1 [[.i .u32 1]]) ⟨by rw[kU ay (by omega)];simp only[Nat.reduceMod,Nat.reduceDiv,cz];exact .im⟩ W (by rw[kU ay (by omega)];simp only[Nat.reduceMod,Nat.reduceDiv,cz];simp);have e6:=λ{H K}=>fX (args:=[q,.sv 1 [[.i .u32 1]]]) (H:=H) (H1:=H) (K:=K) Ew rfl a2 (by have eq:=λm H=>ah h.sl.flat m H;simp[go_sem,eq]);obtain⟨m1,m2,m3⟩:=LW r3 hr (by omega) (gX j (by omega));have e7:=λ{H K}=>m2.c (H:=H) (K:=K) zS rfl (by simp[r3.pl,hr.pl]) (.inl rfl);obtain⟨Y,s,c⟩:=pY (neg:=true) a3.sl (cH ay _) (by have:=X7 (k:=4096) (aN (Cb (n:=1024) (hO N o) (em (show 1<65536^1 by omega) (mN (show 1<=1023 by omega))) (by omega)) (by omega));omega);obtain⟨t1,t,f⟩:=pY (neg:=false) m3.sl (cH ay _) (by have:=kj ay (ACN a R);have:=gX j (by omega);omega);rw[bX ay]at c f;have u:=λ{H K}=>s.c (H:=H) (K:=K) mw rfl (by simp[a3.pl,jm]) (.inl rfl);have v:=λ{H K}=>t.c (H:=H) (K:=K) mw rfl (by simp[m3.pl,jm]) (.inl rfl);have E:z1=((a-R:Nat))+a*(-(Q+1)):=by grind
  have w:(if true=true then-((Q+1:Nat):Int)else((Q+1:Nat)))=z1/a:=by rw[E,Int.add_mul_ediv_left _ _ (by omega),Int.ediv_eq_zero_of_lt (by omega) (by omega)];simp
  have x:(if false=true then-((a-R:Nat):Int)else((a-R:Nat)))=z1%a:=by
   conv=>rhs;rw[E]
   rw[Int.add_mul_emod_self_left,Int.emod_eq_of_lt (by omega) (by omega)];simp
  rw[w]at c;rw[x]at f;obtain⟨Z,rfl,z⟩:=c.h;obtain⟨w2,rfl,A⟩:=f.h;have B:=λm H=>ah z.sl.flat m H;have C:=λm H=>ah A.sl.flat m H;have S:0<((ds 4294967296 R).length:Int):=by have:=nZ ay p;omega
  refine⟨_,_,.body zQ rfl ?_,c,f⟩;simp only[go_sem,simprocAttr,Kv,l,G,I,L,g.sl.n,hr.sl.n,J,S,F,uz,e6,e7,u,v,B,C]
 have d1:decide (z1<0)=false:=by simp[X]
 rw[d1]at l;rw[d1];obtain⟨Y,s,c⟩:=pY (neg:=false) h.sl (cH ay _) (by omega);obtain⟨t1,t,f⟩:=pY (neg:=false) hr.sl (cH ay _) (by omega);rw[bX ay]at c f;have u:=λ{H K}=>s.c (H:=H) (K:=K) mw rfl (by simp[h.pl,jm]) (.inl rfl);have v:=λ{H K}=>t.c (H:=H) (K:=K) mw rfl (by simp[hr.pl,jm]) (.inl rfl);have E:z1=(z1.natAbs:Int):=by omega
 have w:(if false=true then-(Q:Int)else Q)=z1/a:=by rw[E,P];simp
 have x:(if false=true then-(R:Int)else R)=z1%a:=by rw[E,hR];simp
 rw[w]at c;rw[x]at f;obtain⟨Z,rfl,z⟩:=c.h;obtain⟨w2,rfl,A⟩:=f.h;have B:=λm H=>ah z.sl.flat m H;have C:=λm H=>ah A.sl.flat m H;refine⟨_,_,.body zQ rfl ?_,c,f⟩;simp only[go_sem,simprocAttr,Kv,l,G,I,L,g.sl.n,J,F,u,v,B,C]
end
section
open Go.Dm
set_option maxRecDepth 10000
def cP (a b:Int):Int:=if a<b then -1 else if a=b then 0 else 1
theorem X8 {z1 z2:Int} {d1 d2:D} (h1:Wh z1 d1) (h2:Wh z2 d2) (b1:z1.natAbs<cap 1024) (b2:z2.natAbs<cap 1024):ai VS 202 [d1,d2] (.i .i64 (cP z1 z2)):=by
 obtain⟨y1,rfl,g1⟩:=h1.h
 obtain⟨y2,rfl,g2⟩:=h2.h
 have e0:=fun{H K}=>xI g1 g2 b1 b2 (H:=H) (K:=K)
 obtain⟨p1,p2,p3⟩:=mM g1 (lZ b1 (by omega))
 obtain⟨r1,r2,r3⟩:=mM g2 (lZ b2 (by omega))
 have e1:=fun{H K}=>p2.c (H:=H) (K:=K) lI rfl g1.p1 (.inl rfl)
 have e2:=fun{H K}=>r2.c (H:=H) (K:=K) lI rfl g2.p1 (.inl rfl)
 have l1:=gX b1 (by omega)
 have l2:=gX b2 (by omega)
 have ec:=fun{H K}=>(B6 p3 r3 (by omega) (by omega)).c (H:=H) (K:=K) wj rfl (by simp[p3.pl,r3.pl]) (.inl rfl)
 refine .body Eo rfl ?_
 rcases AB8 z1 0 with a|a<;>rcases AB8 z2 0 with b|b
 ·have d1:decide (z1<0)=true:=by simp[a]
  have d2:decide (z2<0)=true:=by simp[b]
  rw[d1,d2]at e0
  have hi:cP z1 z2 = - gW z1.natAbs z2.natAbs:=by grind[cP,gW]
  have hw:IntKind.i64.wrap (0-gW z1.natAbs z2.natAbs) = - gW z1.natAbs z2.natAbs:=by
   grind[gW,wr]
  rw[hi]
  simp  only[go_sem,simprocAttr,BF,d1,d2,e0,e1,e2,ec,hw]
 ·have d1:decide (z1<0)=true:=by simp[a]
  have d2:decide (z2<0)=false:=by grind
  rw[d1,d2]at e0
  have hi:cP z1 z2 = -1:=by grind[cP]
  rw[hi]
  simp  [go_sem,simprocAttr,BF,d1,d2,e0]
 ·have d1:decide (z1<0)=false:=by grind
  have d2:decide (z2<0)=true:=by simp[b]
  rw[d1,d2]at e0
  have hi:cP z1 z2=1:=by grind[cP]
  rw[hi]
  simp  [go_sem,simprocAttr,BF,d1,d2,e0]
 ·have d1:decide (z1<0)=false:=by grind
  have d2:decide (z2<0)=false:=by grind
  rw[d1,d2]at e0
  have hi:cP z1 z2=gW z1.natAbs z2.natAbs:=by grind[cP,gW]
  rw[hi]
  simp  [go_sem,simprocAttr,BF,d1,d2,e0,e1,e2,ec]
theorem p6 {l:List Nat} {x:D} (h:Sl 1 (l.map aJ) x) (hn:l.length<70368744177665) : ∃ d,ai VS 82 [x] d /\ Sl 1 (l.map aJ) d:=by
 refine aE.ex (.body nB rfl ?_)
 have ea:=vV (bytes:=2) (x0 := .z) rfl h (fun _=>rfl) (by omega) (by omega) (H:=[])
 have hs:Sl 1 (l.map aJ) (iN .z 1 _):=qV rfl 1 _
 have hf:dN (bH [] 1 (l.map aJ)) _=some (iN .z 1 _):=D2 rfl
 by_cases hx:x = .nil
 ·subst hx
  have e1:eF false .sl .nil .nil=some (.b true):=rfl
  simp  [go_sem,Vy,e1]
  exact h
 ·have e1:eF false .sl x .nil=some (.b false):=by
   cases h with
   | nil=>grind
   | z=>rfl
   | im=>rfl
  simp  [go_sem,Vy,e1,ea,hf]
  exact hs
structure arT (S:Nat) (n:Int) (a2:D) (i:Nat) (s:St):Prop where
 h : ∃ ws c a3 a4 a8,ws.length=4 /\ lm 65536 ws /\ c <= i /\ i <= 4 /\ vl 65536 ws=S%65536 ^ i /\ (∀ k,c <= k -> k<4 -> ws[k]! = 0) /\ (c≠0 -> ws[c-1]! ≠ 0) /\
  s=⟨[.i .i64 n,.bx [.b false,.nil],a2,a3,a4,.i .u64 (S:Int),.i .i64 (c:Int),.i .i64 (i:Int),a8,.aa 0],[.ar 1 (ws.map aJ) (some 4) true false]⟩
theorem arU {S i:Nat} (hi:i<4):bin .shr (.i .u64 (S:Int)) (.i .i64 (16*(i:Int)))=some (.i .u64 ((S/65536 ^ i:Nat):Int)):=by
 rw[show 16*i=((16*i:Nat):Int)by omega,eE (by show 16*i<64;omega),ABK]
theorem xJ {n:Int} (hn : -9223372036854775808 <= n /\ n<9223372036854775808) : ∃ d,ai VS 162 [.i .i64 n] d /\ Wh n d:=by
  obtain⟨S,hS⟩ : ∃ S,S=n.natAbs:=⟨_,rfl⟩
  have key : ∀ {a2:D},ak VS (.loop Jd) ⟨[.i .i64 n,.bx [.b false,.nil],a2,.u,.u,.i .u64 (S:Int),.i .i64 0,.i .i64 0,.u,.aa 0],[.ar 1 [[.i .u16 0],[.i .u16 0],[.i .u16 0],[.i .u16 0]] (some 4) true false]⟩ (mt 0 (kD VS (.seq (.reg [⟨.mov (.s 0),none,none⟩,
 ⟨.bin .lss (.l 0) (.c (.i .i64 0)),none,none⟩,
 ⟨.mov (.s 6),none,none⟩,
 ⟨.sla (.s 9) 4 1 none (some (.l 2)),none,none⟩,
 ⟨.call 82 [(.l 3)],none,none⟩,
 ⟨.agc [(.b false),.nil] [(0,1,(.l 1)),(1,1,(.l 4))],none,none⟩,
 ⟨.lst (.sl 1) (.l 5) 2,none,none⟩] none) .ret) (dh [.bx 1 2 true] (fG false fun r => ∃ d,r = .ret d /\ Wh n d)))):=by
    intro a2
    refine ak.up (arT S n a2) 4 ⟨[0,0,0,0],0,_,_,_,rfl,by intro a ha;grind,by omega,by omega,by rw[Nat.mod_one];rfl,fun k _ hk=>by
      grind,fun h=>absurd rfl h,rfl⟩ ?_
    rintro i s hi ⟨ws,c,a3,a4,a8,hwl,hwm,hc,hi4,hv,hz,ht,rfl⟩
    by_cases hlt:i<4
    · have c1:(i:Int)<4:=by omega
      obtain⟨v,hv'⟩ : ∃ v,v=S/65536 ^ i%65536:=⟨_,rfl⟩
      have e1:=arU (S:=S) hlt
      have e2:IntKind.u16.wrap ((S/65536 ^ i:Nat))=v:=by grind[Ml]
      have hvl:v<65536:=by omega
      have g1:=jC (B:=65536) (l:=ws) (i:=i) (v:=v) (by omega)
      rw[hz i hc hlt,nu,k0]at g1
      have gget:(ws.set i v)[i]! = v:=by grind
      have gne : ∀ k,k≠i -> k<4 -> (ws.set i v)[k]! = ws[k]! := fun k hk hk4=>by
        grind
      have hv2:vl 65536 (ws.set i v)=S%65536 ^ (i+1):=by rw[g1,hv,hv',Nat.mod_pow_succ]
      simp(disch:=omega) only[go_sem,V6,c1,wr,e1,e2,aJ,hwl,Mo,gget]
      by_cases h0:v=0
      · have d1:(v:Int)=0:=by omega
        simp  only[go_sem,d1]
        repeat' first|(refine And.intro ?_ ?_)|intro _
        all_goals try omega
        refine⟨ws.set i v,c,_,_,_,by grind,gZ hwm hvl,by omega,by omega,hv2,fun k h3 h4 => ?_,fun hc0 => ?_,by rfl⟩
        · by_cases hk:k=i
          · rw[hk,gget,h0]
          · rw[gne k hk h4];exact hz k h3 h4
        · rw[gne (c-1) (by omega) (by omega)];exact ht hc0
      · have d1 : ¬ (v:Int)=0:=by omega
        simp  only[go_sem,d1]
        repeat' first|(refine And.intro ?_ ?_)|intro _
        all_goals try omega
        refine⟨ws.set i v,i+1,_,_,_,by grind,gZ hwm hvl,by omega,by omega,hv2,fun k h3 h4 => ?_,fun hc0 => ?_,rfl⟩
        · rw[gne k (by omega) h4];exact hz k (by omega) h4
        · rw[ABn,gget];exact h0
    · have hi4':i=4:=by omega
      subst hi4'
      have hSb:S<65536 ^ 4:=by omega
      rw[oa hSb]at hv
      have hds:ds 65536 S=ws.take c:=by
        rw[<- hv]
        refine xY bY hwm (by omega) ?_ ?_
        · grind[Yv]
        · by_cases hc0:c=0
          · rw[hc0];exact fun h=>absurd rfl h
          · have:=LT (by omega) (ht hc0)
            grind
      have hcl:(ws.take c).length=c:=by grind
      obtain⟨d,hd1,hd2⟩:=p6 (l:=ws.take c) .im (by omega)
      simp  only[go_sem,simprocAttr,V6,hwl]
      refine⟨⟨by omega,by omega⟩,ac.fzr nB rfl rfl hd1 ⟨_,by simp  only[go_sem,simprocAttr,hwl,hc,ABM];rfl⟩ (fun H' => ?_)⟩
      have ef:=fun m H=>ah hd2.flat m H
      simp  [go_sem,simprocAttr,hd2.c1,ef]
      exact⟨d,rfl,⟨by grind⟩⟩
  refine aE.ex (.body qZ rfl ?_)
  by_cases h0:n<0
  · have e1:IntKind.u64.wrap (0-IntKind.u64.wrap n)=S:=by grind[dR]
    have:=key (a2 := .b true)
    simp  only[go_sem,simprocAttr,V7,h0,e1]
    omega
  · have e1:IntKind.u64.wrap n=S:=by grind[dR]
    have:=key (a2 := .b false)
    simp  [go_sem,simprocAttr,V7,h0,e1]
    omega
end
section
open Go.Dm
set_option maxRecDepth 10000
def arV{l m:List Nat}{x y:D}(a:Sl 1 (l.map aJ) x)(c:Sl 1 (m.map aJ) y)(r:l.length<70368744177665)(t:m.length<70368744177665):ai VS 126 [x,y] (.b (decide (l=m))):=by
 refine .body P2 rfl ?_;by_cases f:l.length=m.length
 ·have d:(l.length:Int)=m.length:=by omega
  simp[go_sem,VQ,a.n,c.n,d];rw[<-d];refine ak.up (λi s=>∃g h j,(∀k,k<i->l[k]! =m[k]!)/\s=⟨[x,y,.b false,.b false,g,h,.i .i64 i,.i .i64 _,j],[]⟩) l.length ⟨_,_,_,λk u=>by omega,rfl⟩ ?_;rintro i s hi⟨g,h,j,v,rfl⟩;by_cases w:i<l.length
  ·have n:(i:Int)<(l.length:Int):=by omega
   simp(disch:=omega)only[go_sem,VP,a.q,c.q,a.under,c.under,aJ,wr,n];grind
  have o:i=l.length:=by omega
  subst o;have p:=by refine ACA f λk z A=>?_;grind
  simp[go_sem,VP,qb,p]
 have d:¬(l.length:Int)=m.length:=by omega
 have q:l≠m:=λe=>f (by rw[e]);simp[go_sem,VQ,a.n,c.n,d,q]
def X9{n1 n2:Bool}{l m:List Nat}{x y:D}(a:Sl 1 (l.map aJ) x)(d:Sl 1 (m.map aJ) y)(e:l.length<70368744177665)(f:m.length<70368744177665):ai VS 102 [.ag [.b n1,x],.ag [.b n2,y]] (.b ((n1==n2)&&decide (l=m))):=by have g:=λ{H K}=>(arV a d e f).c (H:=H) (K:=K) P2 rfl (by simp[a.pl,d.pl]) (.inl rfl);refine .body Ee rfl ?_;cases n1<;>cases n2<;>simp[go_sem,aoX,g]
def arW{l:List Nat}{x:D}{t:Nat}(f:Sl 1 (l.map aJ) x)(p:l.length<1099511627776){y c:Nat}{I:Nat->ab->Prop}(g:∀i H,I i H->H[c]?=some (.hb t [x]))(hs:∀i H,i<l.length->I (i+1) H->ac VS yF [.yl y,.i .u16 (l[i]!:Int)] H (λr=>∃a,r=.ret (.b true) a/\I i a)){H:ab}(j:I l.length H):ac VS 245 [.yl y,.hp c 0] H (λr=>∃d a,r=.ret d a/\I 0 a):=by
 refine .body ag5 rfl rfl ?_;simp[go_sem,apR,g _ _ j,f.n];refine ak.loop (XZ _ y c 261 x I) _ ⟨Hk _,.u,.u,H,by grind[wr],j⟩ ?_;rintro k s⟨q,v,w,a,rfl,m⟩;rcases k with _|k;·simp[go_sem,simprocAttr,WQ];grind
 have e:(((k+1:Nat):Int)-1)=k:=by omega
 rw[e];simp only[go_sem,WQ,g _ _ m,f.q,aJ];refine⟨λ_=>⟨⟨by omega,by omega⟩,(hs k a (by omega) m).mono ?_⟩,λh=>absurd (by omega) h⟩;rintro r⟨n,rfl,o⟩;simp(disch:=omega)only[go_sem,wr];exact⟨k,by omega,by omega,_,_,n,rfl,o⟩
def arX{x:D}{H:ab}{rows:List (List D)}(a:Sl 1 rows x):ac VS 197 [x] H (λr=>r=.ret (.fn (.func 245) [] [.hp H.length 0]) (H++[.hb 28 [x]])):=by refine .body agX rfl rfl ?_;simp[go_sem,apu,a.c1]
def arY{x:Int}:IntKind.wrap .i64 x=if 9223372036854775808<=x%18446744073709551616 then x%18446744073709551616-18446744073709551616 else x%18446744073709551616:=by have e:IntKind.wrap .i64 x=if(true&&decide (x%18446744073709551616>=9223372036854775808))=true then x%18446744073709551616-18446744073709551616 else x%18446744073709551616:=rfl;grind
def gH(z:Int):Bool:=decide (-9223372036854775808<=z/\z<9223372036854775808)
def arZ{l:List Nat}(h:lm 65536 l)(a:l.length<=4):vl 65536 l<18446744073709551616:=by have:=dv bY h;have:65536^l.length<=65536^4:=nG (by omega) a;omega
def ar0{z:Int}{d:D}(h:Wh z d)(w:z.natAbs<cap 1024):ai VS 161 [d] (.tu [.i .i64 (if gH z then z else 0),.i .i64 (if gH z then 0 else 3)]):=by
 obtain⟨y,rfl,j⟩:=h.h;have hs:=j.sl;have e:=cH bY z.natAbs;have m:=bX bY z.natAbs;have n:=λ{H K}=>(L9 j w).c (H:=H) (K:=K) tM rfl (by simp[cE,cZ,hs.flat]) (.inl rfl);refine ai.iff_q.2 (.bodyR Qb rfl rfl ?_);by_cases o:(ds 65536 z.natAbs).length<=4
 ·have p:=arZ e o;rw[m]at p;generalize ds 65536 _=l at*;have f:¬(4:Int)<l.length:=by omega
  simp[go_sem,V5,n,hs.n,f];refine(arX hs).mono ?_;rintro r rfl;simp[go_sem,simprocAttr];rw[vW Q3 rfl (by decide)];refine(arW hs (by omega) (I:=λk H=>H=[.hb 30 [.b (decide (z<0)),y],.hb 201 [.i .u64 (vl 65536 (l.drop k))],.hb 28 [y],.df,.yh r1.f r1.path 1 r1.nt r1.tm [.ag [.b (decide (z<0)),y],.i .i64 0,.i .i64 0,.b false,.b false,.fn (.func 245) [] [.hp 2 0],.u,.u,.u,.u,.hp 0 0,.hp 1 0,.u] .rd]) (λi H h=>by rw[h];rfl) ?_ ?_).mono ?_
  ·rintro i H hi rfl;refine ac.round tR rfl Q3 ⟨rfl,rfl,rfl,rfl,rfl⟩ ?_;simp only[go_sem,simprocAttr,apc,gl];have J:=cI e hi;have L:vl 65536 (l.drop (i+1))<281474976710656:=by have:=dv bY (xW e (i+1));have:65536^(l.drop (i+1)).length<=65536^3:=nG (by omega) (by rw[l3];omega);omega
   have x:=dw (B:=65536) hi;obtain⟨v,A⟩:∃v,v=vl 65536 (l.drop (i+1)):=⟨_,rfl⟩;have C:bin .shl (.i .u64 v) (.i .u64 16)=some (.i .u64 ((v*65536:Nat))):=by rw[show bin .shl _ (.i .u64 16)=some _ from sr (s:=16) (by decide),bG (by omega)]
   have E:bin .or (.i .u64 ((v*65536:Nat))) (.i .u64 l[i]!)=some (.i .u64 ((l[i]!+65536*v:Nat))):=by rw[ya (by omega) (by omega),show v*65536=v*2^16 from rfl,yc (by omega)];congr 2;omega
   refine⟨_,_,_,_,_,_,rfl,?_⟩;have F:IntKind.u64.wrap _=l[i]!:=bG (by omega);simp only[go_sem,<-A,C,E,F,x];exact⟨_,_,_,_,_,_,rfl,rfl⟩
  ·rw[ez (Hk _)];rfl
  rintro r⟨d,M,rfl,rfl⟩;rw[tL rfl];rw[AAd,m];obtain⟨S,G⟩:∃S,S=z.natAbs:=⟨_,rfl⟩;rw[<-G]at p⊢;by_cases q:z<0
  ·have d1:decide (z<0)=true:=by simp[q]
   rw[d1];by_cases t:9223372036854775808<S
   ·have a:(9223372036854775808:Int)<S:=by omega
    have hi:gH z=false:=by simp[gH];omega
    simp[go_sem,simprocAttr,a,hi]
   have a:¬(9223372036854775808:Int)<S:=by omega
   have hi:gH z=true:=by simp[gH];omega
   have g:IntKind.i64.wrap (IntKind.u64.wrap (0-S))=z:=by rw[dR,arY];omega
   simp only[go_sem,simprocAttr,a,hi,g]
  have d1:decide (z<0)=false:=by simp[q]
  rw[d1];by_cases t:9223372036854775808<=S
  ·have a:(9223372036854775808:Int)<=S:=by omega
   have hi:gH z=false:=by simp[gH];omega
   simp[go_sem,simprocAttr,a,hi]
  have a:¬(9223372036854775808:Int)<=S:=by omega
  have hi:gH z=true:=by simp[gH];omega
  have g:IntKind.i64.wrap S=z:=by rw[wr (by omega) (by omega)];omega
  simp[go_sem,simprocAttr,a,hi,g]
 have f:4<((ds 65536 z.natAbs).length:Int):=by omega
 have t:18446744073709551616<=z.natAbs:=by
  rcases hM z.natAbs 18446744073709551616 with c|c;·exact absurd ((mQ bY).2 c) o
  exact c
 have hi:gH z=false:=by simp[gH];omega
 simp[go_sem,V5,n,hs.n,f,hi]
end
section
open Go.Dm
set_option maxRecDepth 10000
def i5{z1 z2:Int}{d1 d2:D}(a:Wh z1 d1)(b:Wh z2 d2)(e:z1.natAbs<cap 512)(f:z2.natAbs<cap 512):∃d,ai VS 203 [d1,d2] d/\Wh (z1*z2) d:=by obtain⟨d,g1,c⟩:=arO a b e f;have g:=λ{H K}=>g1.c (H:=H) (K:=K) QB rfl (by simp[a.pl,b.pl]) (.inl rfl);obtain⟨j,rfl,k⟩:=a.h;obtain⟨l,rfl,n⟩:=b.h;obtain⟨y,rfl,h⟩:=c.h;have i:=λm H=>ah h.sl.flat m H;refine⟨_,.body gQ rfl ?_,c⟩;simp[go_sem,apy,g,i]
def Ce{z1 z2:Int}{d1 d2:D}(a:Wh z1 d1)(b:Wh z2 d2)(e:z1.natAbs<cap 1023)(f:z2.natAbs<cap 1023):∃d,ai VS 207 [d1,d2] d/\Wh (z1+z2) d:=by obtain⟨d,g1,c⟩:=arQ a b e f;have g:=λ{H K}=>g1.c (H:=H) (K:=K) QC rfl (by simp[a.pl,b.pl]) (.inl rfl);obtain⟨j,rfl,k⟩:=a.h;obtain⟨l,rfl,n⟩:=b.h;obtain⟨y,rfl,h⟩:=c.h;have i:=λm H=>ah h.sl.flat m H;refine⟨_,.body tQ rfl ?_,c⟩;simp[go_sem,apB,g,i]
def Ma{z1 z2:Int}{d1 d2:D}(a:Wh z1 d1)(b:Wh z2 d2)(e:z1.natAbs<cap 1024)(f:z2.natAbs<cap 1024):∃d,ai VS 114 [d1,d2] d/\Wh (Nat.gcd z1.natAbs z2.natAbs:Nat) d:=by obtain⟨d,g1,c⟩:=arR a b e f;have g:=λ{H K}=>g1.c (H:=H) (K:=K) P8 rfl (by simp[a.pl,b.pl]) (.inl rfl);obtain⟨j,rfl,k⟩:=a.h;obtain⟨l,rfl,n⟩:=b.h;obtain⟨y,rfl,h⟩:=c.h;have i:=λm H=>ah h.sl.flat m H;refine⟨_,.body zH rfl ?_,c⟩;simp[go_sem,ao2,g,i]
def xK{z1:Int}{a:Nat}{d1 d2:D}(b:Wh z1 d1)(c:Wh (a:Int) d2)(h:a≠0)(i:z1.natAbs<cap 1023)(j:a<cap 1024):∃d e,ai VS 206 [d1,d2] (.tu [d,e])/\Wh (z1/a) d/\Wh (z1%a) e:=by obtain⟨d,e,g1,f,g⟩:=arS b c h i j;have k:=λ{H K}=>g1.c (H:=H) (K:=K) zQ rfl (by simp[b.pl,c.pl]) (.inl rfl);obtain⟨q,rfl,r⟩:=b.h;obtain⟨s,rfl,t⟩:=c.h;obtain⟨y,rfl,l⟩:=f.h;obtain⟨w,rfl,n⟩:=g.h;have o:=λm H=>ah l.sl.flat m H;have p:=λm H=>ah n.sl.flat m H;refine⟨_,_,.body tP rfl ?_,f,g⟩;simp[go_sem,apA,k,o,p]
def Mb{z:Int}{d:D}(h:Wh z d)(b:z.natAbs<cap 1024):∃e,ai VS 258 [d] e/\Wh (-z) e:=by
 obtain⟨y,rfl,a⟩:=h.h;have p:=iZ.2 b;obtain⟨c,k,f⟩:=p6 a.sl (by omega);have g:=λ{H K}=>k.c (H:=H) (K:=K) nB rfl (by simp[a.pl]) (.inl rfl);have i:=λm H=>ah f.flat m H;have l:(-z).natAbs=z.natAbs:=by omega
 refine⟨.ag [.b _,c],.body zR rfl ?_,⟨c,rfl,⟨by rw[l];exact f⟩⟩⟩;rcases AB8 z 0 with j|j
 ·have d1:decide (z<0)=true:=by simp[j]
  have d2:decide (-z<0)=false:=by simp;omega
  simp only[go_sem,simprocAttr,KG,d1,d2,g,i,f.c1]
 have d1:decide (z<0)=false:=by simp;omega
 by_cases o:z=0
 ·have d2:decide (-z<0)=false:=by simp;omega
  have c3:¬0<((ds 65536 z.natAbs).length:Int):=by rw[o];simp[cz]
  simp only[go_sem,simprocAttr,KG,d1,d2,a.sl.n,c3,g,i,f.c1]
 have d2:decide (-z<0)=true:=by simp;omega
 have c3:0<((ds 65536 z.natAbs).length:Int):=by have:=nZ bY (n:=z.natAbs) (by omega);omega
 simp only[go_sem,simprocAttr,KG,d1,d2,a.sl.n,c3,g,i,f.c1]
def Ya{s:Bool}{l:List Nat}{x:D}(h:Sl 1 (l.map aJ) x):ai VS 113 [.ag [.b s,x]] (.b (!s&&decide (l=[1]))):=by refine .body Eh rfl ?_;cases s with|true=>simp[go_sem,simprocAttr,IC]|false=>
 by_cases c:l.length=1;·match l,c with|[a],_=>have g:([a]:List Nat)[0]! =a:=rfl;simp only[go_sem,simprocAttr,IC,h.n,h.q,aJ,g];grind
 have d:¬(l.length:Int)=1:=by omega
 have e:l≠[1]:=by grind
 simp[go_sem,simprocAttr,IC,h.n,d,e]
def Yb{s t:Bool}{l m:List Nat}{x y:D}(h:Sl 1 (l.map aJ) x)(d:Sl 1 (m.map aJ) y):ai VS 110 [.ag [.b s,x,.b t,y]] (.b (decide (256<l.length)||decide (256<m.length))):=by
 refine .body Ef rfl ?_;by_cases e:256<l.length
 ·have a:(256:Int)<l.length:=by omega
  simp[go_sem,simprocAttr,Ix,h.n,a,e,ACD]
 have a:¬(256:Int)<l.length:=by omega
 by_cases f:256<m.length
 ·have c:(256:Int)<m.length:=by omega
  simp[go_sem,simprocAttr,Ix,h.n,d.n,c,f,AAU]
 have c:¬(256:Int)<m.length:=by omega
 simp[go_sem,simprocAttr,Ix,h.n,d.n,a,e,c,f,AAU]
def Yc{s t:Bool}{l m:List Nat}{x y:D}(h:Sl 1 (l.map aJ) x)(a:Sl 1 (m.map aJ) y):ai VS 112 [.ag [.b s,x,.b t,y]] (.b (!t&&decide (m=[1]))):=by have d:=λ{H K}=>(Ya (s:=t) a).c (H:=H) (K:=K) Eh rfl (by simp[cE,cZ,a.flat]) (.inl rfl);refine .body Eg rfl ?_;simp[go_sem,ao1,d]
def fq(s:Bool)(l:List Nat)(t:Bool)(m:List Nat):Bool:=decide (l.length<=256)&&decide (m.length<=256)&&j9 s l&&j9 t m&&!t&&decide (m≠[])&&(Nat.gcd (vl 65536 l) (vl 65536 m)==1)
def ar2{s t:Bool}{l m:List Nat}{x y:D}(h:Sl 1 (l.map aJ) x)(d:Sl 1 (m.map aJ) y)(C:lm 65536 l)(E:lm 65536 m)(F:l.length<70368744177665)(I:m.length<70368744177665):ai VS 75 [.ag [.b s,x,.b t,y]] (.b (fq s l t m)):=by
 have q:([.ag [.b s,x,.b t,y]]).all D.plain=true:=by simp[cE,cZ,h.flat,d.flat]
 have e:=λ{H K}=>(Yb h d).c (H:=H) (K:=K) Ef rfl q (.inl rfl);have f:=λ{H K}=>(L8 (neg:=s) h F).c (H:=H) (K:=K) tM rfl (by grind[cE,cZ]) (.inl rfl);have i:=λ{H K}=>(L8 (neg:=t) d I).c (H:=H) (K:=K) tM rfl (by grind[cE,cZ]) (.inl rfl);have j:=λ{H K}=>(Yc h d).c (H:=H) (K:=K) Eg rfl q (.inl rfl);have key:ai VS 96 [.ag [.b s,x,.b t,y]] (.b (fq s l t m)):=by
  refine .body PW rfl ?_;by_cases hL:(decide (256<l.length)||decide (256<m.length))=true
  ·have a:fq s l t m=false:=by grind[fq]
   rw[hL]at e;simp[go_sem,rQ,e,a]
  have r:(decide (256<l.length)||decide (256<m.length))=false:=by grind
  rw[r]at e;simp[AAa,p5,Nat.not_lt]at r
  obtain⟨J,L⟩:=r;cases k:j9 s l with|false=>
 have a:fq s l t m=false:=by grind[fq]
 rw[k]at f;simp[go_sem,simprocAttr,rQ,e,f,a]|true=>rw[k]at f;cases n:j9 t m with
 |false=>
 have a:fq s l t m=false:=by grind[fq]
 rw[n]at i;simp[go_sem,simprocAttr,rQ,e,f,i,a]
 |true=>rw[n]at i;cases t with|true=>
  have a:fq s l true m=false:=by grind[fq]
  simp[go_sem,simprocAttr,rQ,e,f,i,a]|false=>
  by_cases u:m=[]
  ·have a:fq s l false m=false:=by grind[fq]
   have o:(m.length:Int)=0:=by grind
   simp[go_sem,simprocAttr,rQ,e,f,i,d.n,o,a]
  have o:¬(m.length:Int)=0:=by have:=V2.2 u;omega
  obtain⟨M,N,P,Y⟩:=Cc h C k;obtain⟨Q,S,u3,Z⟩:=Cc d E n;obtain⟨g,g1,v⟩:=Ma M Q N S;rw[P,u3]at v;have w:=λ{H K}=>g1.c (H:=H) (K:=K) zH rfl (by simp[cE,cZ,h.flat,d.flat]) (.inl rfl);obtain⟨yg,rfl,z⟩:=v.h;have A:=λ{H K}=>(Ya (s:=decide (((Nat.gcd (vl 65536 l) (vl 65536 m)):Int)<0)) z.sl).c (H:=H) (K:=K) Eh rfl (by simp[cE,cZ,z.sl.flat]) (.inl rfl);obtain⟨G,p⟩:∃G,G=Nat.gcd (vl 65536 l) (vl 65536 m):=⟨_,rfl⟩;have B:decide ((G:Int)<0)=false:=by simp
  have U:((G:Int)).natAbs=G:=rfl;have V:(!false&&decide (ds 65536 G=[1]))=decide (G=1):=by
   have:ds 65536 G=[1]↔G=1:=by
    constructor;·intro h;have:=bX bY G;rw[h]at this;simpa[vl]using this.symm
    intro h;rw[h,kU bY (by omega)];simp[cz]
   simp[this]
  rw[<-p,B,U,V]at A;rw[<-p,B]at w;have a:fq s l false m=decide (G=1):=by unfold fq;rw[k,n,<-p];simp[J,L,u];rfl
  rw[a];by_cases hi:m=[1]
  ·have W:G=1:=by rw[p,hi];simp[vl]
   rw[show(!false&&decide _)=true by simp[hi]]at j;simp only[go_sem,simprocAttr,rQ,e,f,i,d.n,o,j,W]
  rw[show(!false&&decide _)=false by simp[hi]]at j;simp only[go_sem,simprocAttr,rQ,e,f,i,d.n,o,j,w,A]
 have X:=λ{H K}=>key.c (H:=H) (K:=K) PW rfl q (.inl rfl);refine .body PN rfl ?_;simp[go_sem,aoL,X]
end
section
open Go.Dm
set_option maxRecDepth 10000
structure Fr(n:Int)(m:Nat)(d:D):Prop where h:∃x y,d=.ag [.b (decide (n<0)),x,.b false,y]/\eL n.natAbs x/\eL m y
structure dP(n:Int)(m:Nat):Prop where
 z:m≠0
 g:Nat.gcd n.natAbs m=1
 bn:n.natAbs<cap 256
 bm:m<cap 256
def Fr.pl{n:Int}{m:Nat}{d:D}(h:Fr n m d):d.plain=true:=by obtain⟨x,y,rfl,a,b⟩:=h.h;simp[cE,cZ,a.sl.flat,b.sl.flat]
def dQ{n:Int}{x:D}(h:eL n.natAbs x):Wh n (.ag [.b (decide (n<0)),x]):=⟨x,rfl,h⟩
def ct{m:Nat}{y:D}(h:eL m y):Wh (m:Int) (.ag [.b false,y]):=⟨y,by simp,h⟩
def n8(m:Nat):decide ((m:Int)<0)=false:=by simp
def xL{a:Int}{m:Nat}{d1 d2:D}(f:Wh a d1)(c:Wh (m:Int) d2)(t:m≠0)(k:a.natAbs<cap 1023)(h:m<cap 1023):∃d,ai VS 209 [d1,d2] d/\Fr (a/(Nat.gcd a.natAbs m:Nat)) (m/Nat.gcd a.natAbs m) d:=by
 obtain⟨E,rfl,F⟩:=f.h;obtain⟨I,rfl,J⟩:=c.h;rw[n8]at c⊢;obtain⟨g,g1,b⟩:=Ma f c (aN k (by omega)) (aN h (by omega));have u:((m:Int)).natAbs=m:=rfl;rw[u]at b;obtain⟨G,i⟩:∃G,G=Nat.gcd a.natAbs m:=⟨_,rfl⟩;have l:G≠0:=by rw[i];exactλe=>t (ABN e)
 have n:G<=m:=by rw[i];exact Nat.gcd_le_right _ (by omega)
 rw[<-i]at b⊢;obtain⟨L,r1,v,w,_⟩:=xK f b l k (hO n (aN h (by omega)));obtain⟨M,r2,x,o,_⟩:=xK c b l h (hO n (aN h (by omega)));have p:=λ{H K}=>g1.c (H:=H) (K:=K) zH rfl (by simp[f.pl,c.pl]) (.inl rfl);have q:=λ{H K}=>v.c (H:=H) (K:=K) tP rfl (by simp[f.pl,b.pl]) (.inl rfl);have j:=λ{H K}=>x.c (H:=H) (K:=K) tP rfl (by simp[c.pl,b.pl]) (.inl rfl);obtain⟨N,rfl,P⟩:=b.h;obtain⟨y,rfl,r⟩:=w.h;have z:m/G=((m/G:Nat):Int):=by simp
 rw[z]at o;obtain⟨A,rfl,s⟩:=o.h;rw[n8]at j;rw[n8]at p q j;have B:=λm H=>ah r.sl.flat m H;have C:=λm H=>ah s.sl.flat m H;refine⟨_,.body o7 rfl ?_,⟨y,A,rfl,r,s⟩⟩;simp[go_sem,simprocAttr,Wv,p,q,j,B,C]
structure RF where
 s:Bool
 x:D
 t:Bool
 y:D
 l:List Nat
 m:List Nat
 hx:Sl 1 (l.map aJ) x
 hy:Sl 1 (m.map aJ) y
 hl:lm 65536 l
 hm:lm 65536 m
 nl:l.length<70368744177665
 nm:m.length<70368744177665
def RF.cells(r:RF):List D:=[.b r.s,r.x,.b r.t,r.y]
def RF.d(r:RF):D:=.ag r.cells
def RF.v(r:RF):Bool:=fq r.s r.l r.t r.m
instance:Inhabited RF:=⟨⟨false,.nil,false,.nil,[],[],.nil rfl,.nil rfl,l9,l9,by simp,by simp⟩⟩
def RF.pl(r:RF):r.d.plain=true:=by simp[RF.d,RF.cells,cE,cZ,r.hx.flat,r.hy.flat]
def RF.valid_c(r:RF){H:ab}{K:CR->Prop}:ac VS 75 [r.d] H K↔K (.ret (.b r.v) H):=(ar2 r.hx r.hy r.hl r.hm r.nl r.nm).c PN rfl (by simp[show(D.ag [.b r.s,r.x,.b r.t,r.y]).plain=true from r.pl]) (.inl rfl)
def ar3(r:RF){H:ab}{K:CR->Prop}:ac VS 248 (r.d::[]) H K↔K (.ret (.b (!r.v)) H):=by have a:=λ{H K}=>r.valid_c (H:=H) (K:=K);refine ai.c ?_ QA rfl (by simp[r.pl]) (.inl rfl);refine .body QA rfl ?_;simp only[RF.d,RF.cells]at a⊢;simp[go_sem,apS,a]
def ar4(r1 r2:RF):ai VS 201 [.im 4 [r1.cells,r2.cells]] (.b (r1.v&&r2.v)):=by have e:=λ{H K}=>mj (agg:=true) (l:=[r1,r2]) (x:=.im 4 [r1.cells,r2.cells]) (H:=H) (K:=K) (ag6.trans (by kernel_rfl)) (ahf.trans (by kernel_rfl)) .im (by simp) (λ_=>rfl) (λ_=>rfl) (by decide) (λa K=>ar3 a);refine .body Qm rfl ?_;simp only[go_sem,apx,e];grind
def uF(r1 r2:RF){H:ab}{K:CR->Prop}:ac VS 201 [.sv 4 [r1.cells,r2.cells]] H K↔K (.ret (.b (r1.v&&r2.v)) H):=by have a:=λm H=>ah r1.hx.flat m H;have c:=λm H=>ah r1.hy.flat m H;have d:=λm H=>ah r2.hx.flat m H;have e:=λm H=>ah r2.hy.flat m H;rw[fX (H1:=H) Qm rfl (ar4 r1 r2) (by simp[go_sem,RF.cells,a,c,d,e])];exact dG
def Fr.rf{n:Int}{m:Nat}{d:D}(h:Fr n m d)(c:dP n m):∃r:RF,r.d=d/\r.v=true/\r.s=decide (n<0)/\r.t=false/\eL n.natAbs r.x/\eL m r.y:=by obtain⟨x,y,rfl,a,b⟩:=h.h;refine⟨⟨decide _,x,false,y,ds 65536 _,ds 65536 m,a.sl,b.sl,cH bY _,cH bY _,l7 c.bn (by omega),l7 c.bm (by omega)⟩,rfl,?_,rfl,rfl,a,b⟩;have i:=iZ.2 c.bn;have j:=iZ.2 c.bm;have e:=xH (neg:=decide (n<0)) (aN c.bn (show 256<=1024 by omega)) (λf=>by grind);have g:=xH (aN c.bm (show 256<=1024 by omega)) (λf=>rfl);have k:=kV bY c.z;show fq _ _ _ _=true;unfold fq;rw[e,g,bX bY,bX bY,c.g];grind
def RF.fr(r:RF)(h:r.v=true):Fr (ke r.s r.l) (vl 65536 r.m) r.d/\dP (ke r.s r.l) (vl 65536 r.m):=by
 have b:fq r.s r.l r.t r.m=true:=h;unfold fq at b;simp only[D0,Hq,hY,U3]at b;obtain⟨⟨⟨⟨⟨⟨i,j⟩,k⟩,f⟩,g⟩,l⟩,s⟩:=b;obtain⟨m,t,n,o⟩:=Cc r.hx r.hl k;rw[g]at f;obtain⟨u,v,w,a⟩:=Cc r.hy r.hm f;obtain⟨x,c,p⟩:=m.h;injection c with c;injection c with d e;injection e with e _;subst e;refine⟨⟨r.x,r.y,?_,p,⟨by rw[a];exact r.hy⟩⟩,⟨?_,by grind,?_,?_⟩⟩;·simp only[RF.d,RF.cells,g];injection d with d;rw[<-d]
 ·intro q;rw[q,cz]at a;exact l a.symm
 ·rw[n,<-iZ,o];exact i
 rw[<-iZ,a];exact j
def n9:D:=.ag [.b false,.nil,.b false,.nil]
structure gf(a:Int)(b:Nat)(r:D):Prop where h:∃d,((a/(Nat.gcd a.natAbs b:Nat)).natAbs<cap 256/\b/Nat.gcd a.natAbs b<cap 256/\r=.tu [d,.i .i64 0]/\Fr (a/(Nat.gcd a.natAbs b:Nat)) (b/Nat.gcd a.natAbs b) d)\/(¬((a/(Nat.gcd a.natAbs b:Nat)).natAbs<cap 256/\b/Nat.gcd a.natAbs b<cap 256)/\r=.tu [n9,.i .i64 3])
def p7(n:Int)(m:Nat)(d:D):D:=if n.natAbs<cap 256/\m<cap 256 then .tu [d,.i .i64 0]else .tu [n9,.i .i64 3]
def xM{n:Int}{m:Nat}{d:D}(h:Fr n m d):ai VS 210 [d] (p7 n m d):=by
 unfold p7;obtain⟨x,y,rfl,a,b⟩:=h.h;have f:=λ{H K}=>(Yb (s:=decide (n<0)) (t:=false) a.sl b.sl).c (H:=H) (K:=K) Ef rfl (by simp[cE,cZ,a.sl.flat,b.sl.flat]) (.inl rfl);have g:=λm H=>ah a.sl.flat m H;have i:=λm H=>ah b.sl.flat m H;refine .body re rfl ?_;by_cases e:n.natAbs<cap 256/\m<cap 256;·rw[G1 e];have j:=iZ.2 e.1;have k:=iZ.2 e.2;rw[show(decide _||decide _)=false by simp;omega]at f;simp[go_sem,Ww,f,g,i]
 rw[E1 e];rw[<-iZ,<-iZ]at e;rw[show(decide _||decide _)=true by simp;omega]at f;simp[go_sem,Ww,f,n9]
def gf.of{a:Int}{b:Nat}{d:D}(h:Fr (a/(Nat.gcd a.natAbs b:Nat)) (b/Nat.gcd a.natAbs b) d):gf a b (p7 (a/(Nat.gcd a.natAbs b:Nat)) (b/Nat.gcd a.natAbs b) d):=by unfold p7;refine⟨d,?_⟩;grind
def gf.pl{a:Int}{b:Nat}{r:D}(h:gf a b r):∃c f c3 g e,r=.tu [.ag [c,f,c3,g],.i .i64 e]/\c.flat=true/\f.flat=true/\c3.flat=true/\g.flat=true:=by
 obtain⟨d,⟨_,_,rfl,j⟩|⟨_,rfl⟩⟩:=h.h;·obtain⟨x,y,rfl,k,l⟩:=j.h;exact⟨_,_,_,_,_,rfl,rfl,k.sl.flat,rfl,l.sl.flat⟩
 exact⟨_,_,_,_,_,rfl,rfl,rfl,rfl,rfl⟩
section
variable{n1 n2:Int}{m1 m2:Nat}{d1 d2:D}
def Yd(s:Fr n1 m1 d1)(t:Fr n2 m2 d2)(a:dP n1 m1)(b:dP n2 m2):∃r,ai VS 169 [d1,d2] r/\gf (n1*n2) (m1*m2) r:=by obtain⟨r1,rfl,u,v,t1,g,h⟩:=s.rf a;obtain⟨r2,rfl,w,x,y,i,j⟩:=t.rf b;have d:=λ{H K}=>uF r1 r2 (H:=H) (K:=K);rw[u,w]at d;obtain⟨p,z,l⟩:=i5 (dQ g) (dQ i) (aN a.bn (by omega)) (aN b.bn (by omega));obtain⟨q,A,n⟩:=i5 (ct h) (ct j) (aN a.bm (by omega)) (aN b.bm (by omega));have B:=λ{H K}=>z.c (H:=H) (K:=K) gQ rfl (by simp[(dQ g).pl,(dQ i).pl]) (.inl rfl);have C:=λ{H K}=>A.c (H:=H) (K:=K) gQ rfl (by simp[(ct h).pl,(ct j).pl]) (.inl rfl);obtain⟨k,E,f⟩:=xL l n (by exact pa a.z b.z) (by rw[uA];exact jz a.bn b.bn (by omega)) (jz a.bm b.bm (by omega));have F:=λ{H K}=>E.c (H:=H) (K:=K) o7 rfl (by simp[l.pl,n.pl]) (.inl rfl);have o:=λ{H K}=>(xM f).c (H:=H) (K:=K) re rfl (by simp[f.pl]) (.inl rfl);have hr:=gf.of f;generalize p7 _ _ _=r at o hr;obtain⟨S,U,c3,V,e,rfl,G,I,J,L⟩:=hr.pl;refine⟨_,.body Ei rfl ?_,hr⟩;have M:=λm H=>ah G m H;have N:=λm H=>ah I m H;have P:=λm H=>ah J m H;have Q:=λm H=>ah L m H;simp only[RF.d,RF.cells,v,t1,x,y]at d⊢;simp[go_sem,simprocAttr,apg,d,B,C,F,o,M,N,P,Q]
def Ye(y:Fr n1 m1 d1)(z:Fr n2 m2 d2)(a:dP n1 m1)(b:dP n2 m2):∃r,ai VS 194 [d1,d2] r/\gf (n1*m2+n2*m1) (m1*m2) r:=by
 obtain⟨r1,rfl,A,B,t1,i,d⟩:=y.rf a;obtain⟨r2,rfl,C,E,F,j,f⟩:=z.rf b;have g:=λ{H K}=>uF r1 r2 (H:=H) (K:=K);rw[A,C]at g;obtain⟨p,G,l⟩:=i5 (dQ i) (ct f) (aN a.bn (by omega)) (aN b.bm (by omega));obtain⟨o,I,n⟩:=i5 (dQ j) (ct d) (aN b.bn (by omega)) (aN a.bm (by omega));obtain⟨q,J,s⟩:=i5 (ct d) (ct f) (aN a.bm (by omega)) (aN b.bm (by omega));have u:(n1*m2).natAbs<cap 512:=by rw[uA];exact jz a.bn b.bm (by omega)
 have v:(n2*m1).natAbs<cap 512:=by rw[uA];exact jz b.bn a.bm (by omega)
 obtain⟨t,L,w⟩:=Ce l n (aN u (by omega)) (aN v (by omega));have M:=λ{H K}=>G.c (H:=H) (K:=K) gQ rfl (by simp[(dQ i).pl,(ct f).pl]) (.inl rfl);have N:=λ{H K}=>I.c (H:=H) (K:=K) gQ rfl (by simp[(dQ j).pl,(ct d).pl]) (.inl rfl);have P:=λ{H K}=>J.c (H:=H) (K:=K) gQ rfl (by simp[(ct d).pl,(ct f).pl]) (.inl rfl);have Q:=λ{H K}=>L.c (H:=H) (K:=K) tQ rfl (by simp[l.pl,n.pl]) (.inl rfl);have S:(n1*m2+n2*m1).natAbs<cap 513:=hO (Int.natAbs_add_le _ _) (Cb u v (by omega));obtain⟨k,U,h⟩:=xL w s (pa a.z b.z) (aN S (by omega)) (jz a.bm b.bm (by omega));have V:=λ{H K}=>U.c (H:=H) (K:=K) o7 rfl (by simp[w.pl,s.pl]) (.inl rfl);have x:=λ{H K}=>(xM h).c (H:=H) (K:=K) re rfl (by simp[h.pl]) (.inl rfl);have hr:=gf.of h;generalize p7 _ _ _=r at x hr;obtain⟨c1,c2,c3,c4,e,rfl,W,X,Y,Z⟩:=hr.pl;refine⟨_,.body Ek rfl ?_,hr⟩;have aa:=λm H=>ah W m H;have ab:=λm H=>ah X m H;have ac:=λm H=>ah Y m H;have ad:=λm H=>ah Z m H;simp only[RF.d,RF.cells,B,t1,E,F]at g⊢;simp[go_sem,simprocAttr,apt,g,M,N,V,x,P,Q,aa,ab,ac,ad]
def ar5(B:Fr n1 m1 d1)(C:Fr n2 m2 d2)(a:dP n1 m1)(b:dP n2 m2):∃r,ai VS 212 [d1,d2] r/\gf (n1*m2+-(n2*m1)) (m1*m2) r:=by
 obtain⟨r1,rfl,E,F,t1,i,d⟩:=B.rf a;obtain⟨r2,rfl,G,I,J,j,f⟩:=C.rf b;have g:=λ{H K}=>uF r1 r2 (H:=H) (K:=K);rw[E,G]at g;obtain⟨p,L,l⟩:=i5 (dQ i) (ct f) (aN a.bn (by omega)) (aN b.bm (by omega));obtain⟨o,M,n⟩:=i5 (dQ j) (ct d) (aN b.bn (by omega)) (aN a.bm (by omega));obtain⟨q,N,s⟩:=i5 (ct d) (ct f) (aN a.bm (by omega)) (aN b.bm (by omega));have u:(n1*m2).natAbs<cap 512:=by rw[uA];exact jz a.bn b.bm (by omega)
 have v:(n2*m1).natAbs<cap 512:=by rw[uA];exact jz b.bn a.bm (by omega)
 obtain⟨w,P,x⟩:=Mb n (aN v (by omega));have y:(-(n2*m1)).natAbs<cap 512:=by rw[ABi];exact v
 obtain⟨t,Q,z⟩:=Ce l x (aN u (by omega)) (aN y (by omega));have S:=λ{H K}=>L.c (H:=H) (K:=K) gQ rfl (by simp[(dQ i).pl,(ct f).pl]) (.inl rfl);have U:=λ{H K}=>M.c (H:=H) (K:=K) gQ rfl (by simp[(dQ j).pl,(ct d).pl]) (.inl rfl);have V:=λ{H K}=>N.c (H:=H) (K:=K) gQ rfl (by simp[(ct d).pl,(ct f).pl]) (.inl rfl);have W:=λ{H K}=>P.c (H:=H) (K:=K) zR rfl (by simp[n.pl]) (.inl rfl);have X:=λ{H K}=>Q.c (H:=H) (K:=K) tQ rfl (by simp[l.pl,x.pl]) (.inl rfl);have Y:(n1*m2+-(n2*m1)).natAbs<cap 513:=hO (Int.natAbs_add_le _ _) (Cb u y (by omega));obtain⟨k,Z,h⟩:=xL z s (pa a.z b.z) (aN Y (by omega)) (jz a.bm b.bm (by omega));have e3:=λ{H K}=>Z.c (H:=H) (K:=K) o7 rfl (by simp[z.pl,s.pl]) (.inl rfl);have A:=λ{H K}=>(xM h).c (H:=H) (K:=K) re rfl (by simp[h.pl]) (.inl rfl);have hr:=gf.of h;generalize p7 _ _ _=r at A hr;obtain⟨c1,c2,c3,c4,e,rfl,f1,f2,f3,f4⟩:=hr.pl;refine⟨_,.body Qn rfl ?_,hr⟩;have af:=λm H=>ah f1 m H;have ag:=λm H=>ah f2 m H;have aj:=λm H=>ah f3 m H;have ak:=λm H=>ah f4 m H;simp only[RF.d,RF.cells,F,t1,I,J]at g⊢;simp[go_sem,simprocAttr,apD,g,S,U,e3,A,V,X,W,af,ag,aj,ak]
def uG(l:Fr n1 m1 d1)(m:Fr n2 m2 d2)(a:dP n1 m1)(b:dP n2 m2):ai VS 166 [d1,d2] (.i .i64 (cP (n1*m2) (n2*m1))):=by
 obtain⟨r1,rfl,n,q,t1,e,f⟩:=l.rf a;obtain⟨r2,rfl,r,s,t,g,h⟩:=m.rf b;have d:=λ{H K}=>uF r1 r2 (H:=H) (K:=K);rw[n,r]at d;obtain⟨p,u,j⟩:=i5 (dQ e) (ct h) (aN a.bn (by omega)) (aN b.bm (by omega));obtain⟨o,v,k⟩:=i5 (dQ g) (ct f) (aN b.bn (by omega)) (aN a.bm (by omega));have w:(n1*m2).natAbs<cap 512:=by rw[uA];exact jz a.bn b.bm (by omega)
 have x:(n2*m1).natAbs<cap 512:=by rw[uA];exact jz b.bn a.bm (by omega)
 have y:=λ{H K}=>u.c (H:=H) (K:=K) gQ rfl (by simp[(dQ e).pl,(ct h).pl]) (.inl rfl);have z:=λ{H K}=>v.c (H:=H) (K:=K) gQ rfl (by simp[(dQ g).pl,(ct f).pl]) (.inl rfl);have A:=λ{H K}=>(X8 j k (aN w (by omega)) (aN x (by omega))).c (H:=H) (K:=K) Eo rfl (by simp[j.pl,k.pl]) (.inl rfl);refine .body q8 rfl ?_;simp only[RF.d,RF.cells,q,t1,s,t]at d⊢;simp[go_sem,simprocAttr,apf,d,y,z,A]
def Mc{n:Int}(f:-9223372036854775808<=n/\n<9223372036854775808):∃d,ai VS 137 [.i .i64 n] d/\Fr n 1 d:=by obtain⟨a,g,h⟩:=xJ f;obtain⟨b,j,k⟩:=xJ (n:=1) (by omega);have l:=λ{H K}=>g.c (H:=H) (K:=K) qZ rfl rfl (.inl rfl);have o:=λ{H K}=>j.c (H:=H) (K:=K) qZ rfl rfl (.inl rfl);obtain⟨x,rfl,c⟩:=h.h;obtain⟨y,rfl,e⟩:=k.h;have p:=λm H=>ah c.sl.flat m H;have q:=λm H=>ah e.sl.flat m H;have d1:decide ((1:Int)<0)=false:=rfl;refine⟨_,.body qY rfl ?_,⟨x,y,rfl,c,e⟩⟩;simp[go_sem,simprocAttr,ao6,l,o,p,q]
def Yf{n:Int}{m:Nat}{d:D}(h:Fr n m d)(l:dP n m):ai VS 134 [d] (.tu (if m=1 then[.i .i64 (if gH n then n else 0),.i .i64 (if gH n then 0 else 3)]else[.i .i64 0,.i .i64 22])):=by
 obtain⟨r,rfl,v,k,t1,a,b⟩:=h.rf l;have e:=λ{H K}=>r.valid_c (H:=H) (K:=K);rw[v]at e;simp[RF.d,RF.cells,k,t1]at e⊢;have f:=λ{H K}=>(Yc (s:=decide (n<0)) (t:=false) a.sl b.sl).c (H:=H) (K:=K) Eg rfl (by simp[cE,cZ,a.sl.flat,b.sl.flat]) (.inl rfl);have o:=λ{H K}=>(ar0 (dQ a) (aN l.bn (by omega))).c (H:=H) (K:=K) Qb rfl (by simp[(dQ a).pl]) (.inl rfl);have j:ds 65536 m=[1]↔m=1:=by
  constructor;·intro h;have:=bX bY m;rw[h]at this;simpa[vl]using this.symm
  intro h;rw[h,kU bY (by omega)];simp[cz]
 refine .body we rfl ?_;by_cases g:m=1;·rw[show(!false&&decide _)=true by rw[R2 (j.2 g)];rfl]at f;rw[G1 g];simp[go_sem,simprocAttr,VX,e,f,o]
 rw[show(!false&&decide _)=false by rw[R1 (λh=>g (j.1 h))];rfl]at f;rw[E1 g];simp[go_sem,VX,e,f]
end
def ar6(r1 r2:RF):ai VS 90 [r1.d,r2.d] (.b (((r1.s==r2.s)&&decide (r1.l=r2.l))&&((r1.t==r2.t)&&decide (r1.m=r2.m)))):=by have a:=λ{H K}=>(X9 (n1:=r1.s) (n2:=r2.s) r1.hx r2.hx r1.nl r2.nl).c (H:=H) (K:=K) Ee rfl (by simp[cE,cZ,r1.hx.flat,r2.hx.flat]) (.inl rfl);have d:=λ{H K}=>(X9 (n1:=r1.t) (n2:=r2.t) r1.hy r2.hy r1.nm r2.nm).c (H:=H) (K:=K) Ee rfl (by simp[cE,cZ,r1.hy.flat,r2.hy.flat]) (.inl rfl);refine .body PU rfl ?_;simp only[RF.d,RF.cells];cases e:((r1.s==r2.s)&&decide (r1.l=r2.l))<;>rw[e]at a<;>simp[go_sem,aoR,a,d,y5]
end
section
open Go.Dm
set_option maxRecDepth 10000
def ar7{a:Int}{m:Nat}{d1 d2:D}(i:Wh a d1)(j:Wh (-(m:Int)) d2)(x:m≠0)(k:a.natAbs<cap 1023)(c:m<cap 1023):∃d,ai VS 209 [d1,d2] d/\Fr ((-a)/(Nat.gcd a.natAbs m:Nat)) (m/Nat.gcd a.natAbs m) d:=by
 obtain⟨Q,y,h⟩:=Mb i (aN k (by omega));obtain⟨S,z,f⟩:=Mb j (by rw[ABi];exact aN c (by omega));rw[ACX]at f;have q:(-a).natAbs<cap 1023:=by rw[ABi];exact k
 obtain⟨g,g1,b⟩:=Ma h f (aN q (by omega)) (aN c (by omega));have A:((m:Int)).natAbs=m:=rfl;rw[A,ABi]at b;obtain⟨G,l⟩:∃G,G=Nat.gcd a.natAbs m:=⟨_,rfl⟩;have r:G≠0:=by rw[l];exactλe=>x (ABN e)
 have s:G<=m:=by rw[l];exact Nat.gcd_le_right _ (by omega)
 rw[<-l]at b⊢;obtain⟨U,r1,B,C,_⟩:=xK h b r q (hO s (aN c (by omega)));obtain⟨V,r2,E,t,_⟩:=xK f b r c (hO s (aN c (by omega)));have n:=λ{H K}=>g1.c (H:=H) (K:=K) zH rfl (by simp[h.pl,f.pl]) (.inl rfl);have u:=λ{H K}=>B.c (H:=H) (K:=K) tP rfl (by simp[h.pl,b.pl]) (.inl rfl);have o:=λ{H K}=>E.c (H:=H) (K:=K) tP rfl (by simp[f.pl,b.pl]) (.inl rfl);have F:=λ{H K}=>y.c (H:=H) (K:=K) zR rfl (by simp[i.pl]) (.inl rfl);have p:=λ{H K}=>z.c (H:=H) (K:=K) zR rfl (by simp[j.pl]) (.inl rfl);obtain⟨W,rfl,X⟩:=i.h;obtain⟨Y,rfl,Z⟩:=j.h;obtain⟨u1,rfl,k⟩:=h.h;obtain⟨u2,rfl,c⟩:=f.h;obtain⟨yg,rfl,hg⟩:=b.h;obtain⟨I,rfl,v⟩:=C.h;have J:m/G=((m/G:Nat):Int):=by simp
 rw[J]at t;obtain⟨L,rfl,w⟩:=t.h;have M:decide (-(m:Int)<0)=true:=by simp;omega
 rw[n8]at n u o;rw[n8,n8]at o;rw[M]at p⊢;rw[n8]at n p;have N:=λm H=>ah v.sl.flat m H;have P:=λm H=>ah w.sl.flat m H;refine⟨_,.body o7 rfl ?_,⟨I,L,rfl,v,w⟩⟩;simp only[go_sem,simprocAttr,Wv,n,u,o,F,p,N,P]
section
variable{n1 n2:Int}{m1 m2:Nat}{d1 d2:D}
def Yg{n:Int}{m:Nat}{d:D}(h:Fr n m d):ai VS 204 [d] (.b (decide (n=0))):=by
 obtain⟨x,y,rfl,a,b⟩:=h.h;refine .body Ep rfl ?_;by_cases e:n=0
 ·subst e;have c:((ds 65536 (Int.natAbs 0)).length:Int)=0:=by simp[cz]
  simp only[go_sem,Nat.reduceLeDiff,Wu,a.sl.n,c]
 have c:¬((ds 65536 n.natAbs).length:Int)=0:=by grind[nZ]
 simp only[go_sem,simprocAttr,Wu,a.sl.n,c,e]
def Yh{n:Int}{m:Nat}{d:D}(h:Fr n m d):ai VS 205 [d] (.b (decide (n<0))):=by obtain⟨x,y,rfl,a,b⟩:=h.h;refine .body Eq rfl ?_;simp[go_sem,simprocAttr,apz]
def r7(n1 n2:Int)(m2:Nat):Int:=if n2<0 then-(n1*m2)else n1*m2
def Yi(s:Fr n1 m1 d1)(g:Fr n2 m2 d2)(a:dP n1 m1)(b:dP n2 m2)(t:n2≠0):∃r,ai VS 170 [d1,d2] r/\gf (r7 n1 n2 m2) (m1*n2.natAbs) r:=by
 have z:=Yg g;obtain⟨r1,rfl,u,v,t1,h,i⟩:=s.rf a;obtain⟨r2,rfl,w,x,y,j,l⟩:=g.rf b;have d:=λ{H K}=>uF r1 r2 (H:=H) (K:=K);rw[u,w]at d;obtain⟨p,A,B⟩:=i5 (dQ h) (ct l) (aN a.bn (by omega)) (aN b.bm (by omega));obtain⟨q,C,E⟩:=i5 (ct i) (dQ j) (aN a.bm (by omega)) (aN b.bn (by omega));have F:=λ{H K}=>A.c (H:=H) (K:=K) gQ rfl (by simp[(dQ h).pl,(ct l).pl]) (.inl rfl);have G:=λ{H K}=>C.c (H:=H) (K:=K) gQ rfl (by simp[(ct i).pl,(dQ j).pl]) (.inl rfl);rw[R1 t]at z;have n:=λ{H K}=>z.c (H:=H) (K:=K) Ep rfl (by simp[r2.pl]) (.inl rfl);have X:m1*n2.natAbs≠0:=pa a.z (by omega);have Y:(n1*m2).natAbs<cap 1023:=by rw[uA];exact jz a.bn b.bm (by omega)
 have Z:m1*n2.natAbs<cap 1023:=jz a.bm b.bn (by omega);have key:∃k,ai VS 209 [p,q] k/\Fr (r7 n1 n2 m2/(Nat.gcd (r7 n1 n2 m2).natAbs (m1*n2.natAbs))) (m1*n2.natAbs/Nat.gcd (r7 n1 n2 m2).natAbs (m1*n2.natAbs)) k:=by
  unfold r7;by_cases I:n2<0
  ·have:m1*n2=-((m1*n2.natAbs:Nat)):=by grind
   simp_all[ar7]
  rw[E1 I];have:m1*n2=((m1*n2.natAbs:Nat)):=by grind
  simp_all[xL]
 obtain⟨k,J,f⟩:=key;have L:=λ{H K}=>J.c (H:=H) (K:=K) o7 rfl (by simp[B.pl,E.pl]) (.inl rfl);have o:=λ{H K}=>(xM f).c (H:=H) (K:=K) re rfl (by simp[f.pl]) (.inl rfl);have hr:=gf.of f;generalize p7 _ _ _=r at o hr;obtain⟨c1,c2,c3,c4,e,rfl,M,N,P,Q⟩:=hr.pl;refine⟨_,.body Ej rfl ?_,hr⟩;have S:=λm H=>ah M m H;have U:=λm H=>ah N m H;have V:=λm H=>ah P m H;have W:=λm H=>ah Q m H;simp only[RF.d,RF.cells,v,t1,x,y]at d n⊢;simp[go_sem,simprocAttr,aph,d,F,G,L,o,n,S,U,V,W]
def gY(mode:Nat)(neg b:Bool)(a:Int):Bool:=match mode with|1=>neg|2=>!neg|3=>false|4=>true|5=>decide (a>0)||(decide (a=0)&&!neg)|_=>decide (a>0)||(decide (a=0)&&b)
def mO(mode:Nat)(x:Int)(b:Nat):Int:=if x%b=0 then x/b else if gY mode (decide (x<0)) (decide ((x/b).natAbs%2=1)) (cP (x%b+x%b) b)then x/b+1 else x/b
def ar8{mode:Nat}(e:1<=mode/\mode<=6){neg odd:Bool}{a:Int}:ai VS (251+mode) [.ag [.b neg,.b odd,.i .i64 a]] (.b (gY mode neg odd a)):=by
 obtain rfl|rfl|rfl|rfl|rfl|rfl:mode=1\/mode=2\/mode=3\/mode=4\/mode=5\/mode=6:=by omega
 ·refine .body QD rfl ?_;simp[go_sem,simprocAttr,apV,gY]
 ·refine .body QE rfl ?_;simp[go_sem,simprocAttr,apW,gY]
 ·refine .body QF rfl ?_;simp[go_sem,apX,gY]
 ·refine .body QG rfl ?_;simp[go_sem,apY,gY]
 ·refine .body QH rfl ?_;by_cases c:0<a;·simp[go_sem,KC,gY,c,ACD]
  by_cases d:a=0;·simp only[go_sem,Nat.reduceLeDiff,Int.reduceLT,KC,gY];simp_all
  simp[go_sem,KC,gY,d,AAU]
 refine .body QI rfl ?_;by_cases c:0<a;·simp[go_sem,KE,gY,c,ACD]
 by_cases d:a=0;·simp only[go_sem,Nat.reduceLeDiff,Int.reduceLT,KE,gY];grind
 simp[go_sem,KE,gY,d,AAU]
end
end
section
open Go.Dm
set_option maxRecDepth 10000
theorem Yj(a b:Nat):cap (a+b)=cap a*cap b:=sm 65536 a b
def Yk{a b:Nat}(c:a<cap 256)(d:b<cap 256):a*b+1<cap 512:=by have e:a*b<=(cap 256-1)*(cap 256-1):=oz (by omega) (by omega);grind[cap,Yj,mN]
def ar9{x:Int}{b:Nat}:(x/(b:Int)).natAbs<=x.natAbs:=AB2 x b
def asa{k:Nat}(h:k≠0):(ds 65536 k)[0]!%2=k%2:=by simp_all[kU,bY]
def Cf{V:au}{f:FuncId}{args:List D}{H:ab}{r:CR}(h:ac V f args H (·=r)){K:CR->Prop}:ac V f args H K↔K r:=by
 constructor;·rintro⟨n,a,b⟩;obtain⟨m,c,d⟩:=h;grind[OZ]
 intro e;exact h.mono λq g=>by grind
def Yl{H:ab}{K:CR->Prop}:ac VS 208 [] H K↔K (.ret (.ag [.fn (.func 252) [] [],.fn (.func 253) [] [],.fn (.func 254) [] [],.fn (.func 255) [] [],.fn (.func 256) [] [],.fn (.func 257) [] []]) H):=by refine Cf (.body agZ rfl rfl ?_);simp[go_sem,simprocAttr,apC]
def asb{mode:Nat}(a:1<=mode/\mode<=6):ox (.ag [.fn (.func 252) [] [],.fn (.func 253) [] [],.fn (.func 254) [] [],.fn (.func 255) [] [],.fn (.func 256) [] [],.fn (.func 257) [] []]) (.i .u8 (IntKind.u8.wrap ((mode:Int)-1))) 6 1 false=some (.fn (.func (251+mode)) [] []):=by
 obtain rfl|rfl|rfl|rfl|rfl|rfl:mode=1\/mode=2\/mode=3\/mode=4\/mode=5\/mode=6:=by omega
 all_goals rfl
def asc{mode:Nat}(c:1<=mode/\mode<=6){neg odd:Bool}{a:Int}{H:ab}{K:CR->Prop}:ac VS (251+mode) [.ag [.b neg,.b odd,.i .i64 a]] H K↔K (.ret (.b (gY mode neg odd a)) H):=by
 have h:=@ar8 mode c neg odd a;obtain rfl|rfl|rfl|rfl|rfl|rfl:mode=1\/mode=2\/mode=3\/mode=4\/mode=5\/mode=6:=by omega
 ·exact h.c QD rfl rfl (.inl rfl)
 ·exact h.c QE rfl rfl (.inl rfl)
 ·exact h.c QF rfl rfl (.inl rfl)
 ·exact h.c QG rfl rfl (.inl rfl)
 ·exact h.c QH rfl rfl (.inl rfl)
 exact h.c QI rfl rfl (.inl rfl)
section
variable{n1 n2:Int}{m1 m2:Nat}{d1 d2:D}
def Ym(h1:Fr n1 m1 d1)(h2:Fr n2 m2 d2)(q:dP n1 m1)(d:dP n2 m2)(h0:0<n2){mode:Nat}(hm:1<=mode/\mode<=6):∃r,ai VS 167 [d1,d2,.i .u8 mode] r/\gf (mO mode (n1*m2) (m1*n2.natAbs)*n2) m2 r:=by
 have z:=Yg h2;have ng:=Yh h2;have bl:=Yh h1;obtain⟨r1,rfl,v1,s1,t1,bb,b1⟩:=h1.rf q;obtain⟨r2,rfl,v2,s2,s,a2,G⟩:=h2.rf d;have u:=λ{H K}=>uF r1 r2 (H:=H) (K:=K);rw[v1,v2]at u;obtain⟨a,hN⟩:∃N:Nat,n2=N:=⟨n2.natAbs,by omega⟩;subst hN;have br:a≠0:=by omega
 have v:=dQ a2;rw[show decide ((a:Int)<0)=false by simp]at s2 v;have S:a<cap 256:=d.bn;obtain⟨bt,q1,f⟩:=i5 (ct b1) v (aN q.bm (by omega)) (aN S (by omega));obtain⟨p,p1,p2⟩:=i5 (dQ bb) (ct G) (aN q.bn (by omega)) (aN d.bm (by omega));rw[<-Int.natCast_mul]at f;have bd:m1*a≠0:=pa q.z br;have bp:(n1*(m2:Int)).natAbs+1<cap 512:=by rw[uA];exact Yk q.bn d.bm
 have bq:m1*a+1<cap 512:=Yk q.bm S;obtain⟨kd,rd,k1,k2,k3⟩:=xK p2 f bd (aN (show _<cap 512 by omega) (by omega)) (aN (show _<cap 512 by omega) (by omega));have nN:((a:Int)).natAbs=a:=rfl;rw[nN];obtain⟨X,hX⟩:∃X,X=n1*(m2:Int):=⟨_,rfl⟩;obtain⟨B,hB⟩:∃B,B=m1*a:=⟨_,rfl⟩;rw[<-hX]at p2 bp k2 k3⊢;rw[<-hB]at f bq k2 k3 bd⊢;have bz:decide (X<0)=decide (n1<0):=by
  have:m2≠0:=d.z;rw[hX];by_cases c:n1<0;·rw[R2 c,R2];exact Int.mul_neg_of_neg_of_pos c (by omega)
  rw[R1 c,R1];exact ABa.2 (Int.mul_nonneg (by omega) (by omega))
 have hk:(X/(B:Int)).natAbs+1<cap 512:=by have:=@ar9 X B;omega
 have co:=Int.emod_nonneg X (show(B:Int)≠0 by omega);have b2:=Int.emod_lt_of_pos X (show(0:Int)<(B:Int)by omega);obtain⟨R,hR⟩:∃R:Nat,X%(B:Int)=R:=⟨(X%(B:Int)).toNat,by omega⟩;obtain⟨Q,hQ⟩:∃Q,Q=X/(B:Int):=⟨_,rfl⟩;rw[hR]at b2 k3;rw[<-hQ]at hk k2;have e1:=λ{H K}=>q1.c (H:=H) (K:=K) gQ rfl (by simp[(ct b1).pl,v.pl]) (.inl rfl);have e2:=λ{H K}=>p1.c (H:=H) (K:=K) gQ rfl (by simp[(dQ bb).pl,(ct G).pl]) (.inl rfl);have e3:=λ{H K}=>k1.c (H:=H) (K:=K) tP rfl (by simp[p2.pl,f.pl]) (.inl rfl);rw[R1 (show¬(a:Int)=0 by omega)]at z;rw[R1 (show¬(a:Int)<0 by omega)]at ng;have I:=λ{H K}=>z.c (H:=H) (K:=K) Ep rfl (by simp[r2.pl]) (.inl rfl);have J:=λ{H K}=>ng.c (H:=H) (K:=K) Eq rfl (by simp[r2.pl]) (.inl rfl);have U:=λ{H K}=>bl.c (H:=H) (K:=K) Eq rfl (by simp[r1.pl]) (.inl rfl);have bf:∀{k:Int}{g:D},Wh k g->k.natAbs<cap 512->∃t,ai VS 203 [g,.ag [.b false,r2.x]] t/\Wh (k*a) t/\∃L r,ai VS 209 [t,.ag [.b false,r2.y]] L/\ai VS 210 [L] r/\gf (k*a) m2 r/\t.plain=true/\L.plain=true:=by intro k g hw j;obtain⟨t,t1,s⟩:=i5 hw v j (aN S (by omega));obtain⟨L,M,l⟩:=xL s (ct G) d.z (by rw[uA];exact jz j S (by omega)) (aN d.bm (by omega));exact⟨t,t1,s,L,_,M,xM l,gf.of l,s.pl,l.pl⟩
 obtain⟨rx,rfl,V⟩:=k3.h;obtain⟨bx,rfl,hbx⟩:=f.h;rw[n8]at*;rw[n8]at*;have cR:((R:Int)).natAbs=R:=rfl;rw[cR]at V;have ao:¬(mode:Int)<1:=by omega
 have ap:¬6<(mode:Int):=by omega
 obtain⟨g,rfl,x⟩:=k2.h;by_cases bg:R=0
 ·have W:mO mode X B=Q:=by unfold mO;rw[G1 (by rw[hR];omega),hQ]
  obtain⟨t,aq,ar,u',r,M,l,u3,u4,u5⟩:=bf k2 (by omega);have Y:=λ{H K}=>aq.c (H:=H) (K:=K) gQ rfl (by simp[k2.pl,v.pl]) (.inl rfl);have Z:=λ{H K}=>M.c (H:=H) (K:=K) o7 rfl (by simp[u4,(ct G).pl]) (.inl rfl);have y:=λ{H K}=>l.c (H:=H) (K:=K) re rfl (by simp[u5]) (.inl rfl);obtain⟨c1,c2,c3,c4,e,rfl,f1,f2,f3,f4⟩:=u3.pl;rw[<-W]at u3;refine⟨_,.body (vf:=xm) zL rfl ?_,u3⟩;have A:=λm H=>ah f1 m H;have C:=λm H=>ah f2 m H;have E:=λm H=>ah f3 m H;have F:=λm H=>ah f4 m H;obtain⟨tx,rfl,ca⟩:=ar.h;have c0:¬(0:Int)<((ds 65536 R).length:Int):=by rw[bg];simp[cz]
  simp only[RF.d,RF.cells,s1,t1,s2,s]at u I J U⊢;simp(disch:=omega)only[go_sem,simprocAttr,Jj,u,e1,e2,e3,I,J,Y,Z,y,A,C,E,F,ao,ap,V.sl.n,c0]
 have c0:(0:Int)<((ds 65536 R).length:Int):=by have:=nZ bY bg;omega
 obtain⟨w,w1,w2⟩:=Ce k3 k3 (by show R<_;exact aN (show R<cap 512 by omega) (by omega)) (by show R<_;exact aN (show R<cap 512 by omega) (by omega));have Y:=λ{H K}=>w1.c (H:=H) (K:=K) tQ rfl (by simp[k3.pl]) (.inl rfl);have Z:=λ{H K}=>(X8 w2 f (aN (show _<cap 513 by have q5:cap 513=cap 512*cap 1:=Yj 512 1;have q6:cap 1=65536:=rfl;rw[q6]at q5;omega) (by omega)) (aN (show B<cap 512 by omega) (by omega))).c (H:=H) (K:=K) Eo rfl (by simp[w2.pl,f.pl]) (.inl rfl);have a0:=λ{H K}=>@asc mode hm (decide (n1<0)) (decide (Q.natAbs%2=1)) (cP ((R:Int)+R) B) H K;have bi:=asb hm;have cr:251+mode<4294967295:=by omega
 have W:mO mode X B=if gY mode (decide (n1<0)) (decide (Q.natAbs%2=1)) (cP ((R:Int)+R) B)then Q+1 else Q:=by unfold mO;rw[E1 (by rw[hR];omega),hR,<-hQ,bz]
 have bj:∀{k:Int}{P:D},mO mode X B=k->Wh k P->k.natAbs<cap 512->(∀b:Bool,b=gY mode (decide (n1<0)) (decide (Q.natAbs%2=1)) (cP ((R:Int)+R) B)->(b=false->P=.ag [.b (decide (Q<0)),g])/\(b=true->∃one,ai VS 162 [.i .i64 1] one/\ai VS 207 [.ag [.b (decide (Q<0)),g],one] P/\one.plain=true))->∃r,ai VS 167 [r1.d,r2.d,D.i IntKind.u8 ↑mode] r/\gf (mO mode X B*↑a) m2 r:=by
  intro k P cd ab ce a1;obtain⟨t,aq,ar,u',r,M,l,u3,u4,u5⟩:=bf ab ce;have ac:=λ{H K}=>aq.c (H:=H) (K:=K) gQ rfl (by simp[ab.pl,v.pl]) (.inl rfl);have ad:=λ{H K}=>M.c (H:=H) (K:=K) o7 rfl (by simp[u4,(ct G).pl]) (.inl rfl);have y:=λ{H K}=>l.c (H:=H) (K:=K) re rfl (by simp[u5]) (.inl rfl);obtain⟨c1,c2,c3,c4,e,rfl,f1,f2,f3,f4⟩:=u3.pl;rw[<-cd]at u3;refine⟨_,.body (vf:=xm) zL rfl ?_,u3⟩;have A:=λm H=>ah f1 m H;have C:=λm H=>ah f2 m H;have E:=λm H=>ah f3 m H;have F:=λm H=>ah f4 m H;obtain⟨tx,rfl,ca⟩:=ar.h;simp only[RF.d,RF.cells,s1,t1,s2,s]at u I J U⊢;by_cases bk:Q=0
  ·have d0:¬(0:Int)<((ds 65536 Q.natAbs).length:Int):=by rw[bk];simp[cz]
   rw[show decide (Q.natAbs%2=1)=false by rw[bk];rfl]at a0 a1;simp(disch:=omega)only[go_sem,simprocAttr,Jj,u,e1,e2,e3,I,J,U,Y,Z,ao,ap,V.sl.n,c0,d0,x.sl.n,Yl,bi,a0];obtain⟨hf,ht⟩:=a1 _ rfl;refine⟨λo=>?_,λo=>?_⟩;·obtain⟨one,o1,o2,o3⟩:=ht o;have a4:=λ{H K}=>o1.c (H:=H) (K:=K) qZ rfl rfl (.inl rfl);have a5:=λ{H K}=>o2.c (H:=H) (K:=K) tQ rfl (by simp[cE,cZ,x.sl.flat,o3]) (.inl rfl);obtain⟨cf,rfl,cg⟩:=ab.h;simp(disch:=omega)only[go_sem,simprocAttr,a4,a5,ac,ad,y,A,C,E,F]
   have:=hf o;subst this;simp(disch:=omega)only[go_sem,simprocAttr,ac,ad,y,A,C,E,F]
  have d0:(0:Int)<((ds 65536 Q.natAbs).length:Int):=by have:=nZ bY (n:=Q.natAbs) (by omega);omega
  have cs:=asa (k:=Q.natAbs) (by omega);have ch:(0:Int)<=0/\(0:Int)<((ds 65536 Q.natAbs).length:Int):=⟨by omega,d0⟩;have ci:decide ((↑((ds 65536 Q.natAbs)[0]!):Int).tmod 2=1)=decide (Q.natAbs%2=1):=by
   rw[Int.tmod_eq_emod_of_nonneg (by omega)];by_cases c:Q.natAbs%2=1;·rw[R2 c,R2];omega
   rw[R1 c,R1];omega
  have cj:D.under (0,[]) g=true:=x.sl.under _;simp(disch:=omega)only[go_sem,simprocAttr,Jj,u,e1,e2,e3,I,J,U,Y,Z,ao,ap,V.sl.n,c0,d0,x.sl.n,x.sl.q,aJ,ch,cj,ZE,ci,Yl,bi,a0];obtain⟨hf,ht⟩:=a1 _ rfl;refine⟨λo=>?_,λo=>?_⟩;·obtain⟨one,o1,o2,o3⟩:=ht o;have a4:=λ{H K}=>o1.c (H:=H) (K:=K) qZ rfl rfl (.inl rfl);have a5:=λ{H K}=>o2.c (H:=H) (K:=K) tQ rfl (by simp[cE,cZ,x.sl.flat,o3]) (.inl rfl);obtain⟨cf,rfl,cg⟩:=ab.h;simp(disch:=omega)only[go_sem,simprocAttr,a4,a5,ac,ad,y,A,C,E,F]
  have:=hf o;subst this;simp(disch:=omega)only[go_sem,simprocAttr,ac,ad,y,A,C,E,F]
 have ck:(Q+1).natAbs<cap 512:=by omega
 by_cases j:gY mode (decide (n1<0)) (decide (Q.natAbs%2=1)) (cP ((R:Int)+R) B)=true;·obtain⟨one,o1,o2⟩:=xJ (n:=1) (by omega);obtain⟨P,z1,z2⟩:=Ce k2 o2 (aN (show _<cap 512 by omega) (by omega)) (by show 1<_;exact em (show 1<cap 1 by decide) (mN (by omega)));exact bj (by rw[W,G1 j]) z2 ck λb a6=>⟨λh=>absurd (a6.symm.trans h|>.symm.trans j|>.symm) (by simp),λ_=>⟨one,o1,z1,o2.pl⟩⟩
 exact bj (by rw[W,E1 j]) k2 (by omega) λb a6=>⟨λ_=>rfl,λh=>absurd (a6▸h) j⟩
end
end
section
open Go.Dm
set_option maxRecDepth 10000
def asd{n:Int}{m g:Nat}(a:g=Nat.gcd n.natAbs m)(j:m≠0):g≠0/\n.tdiv g=n/g/\Nat.gcd (n/(g:Int)).natAbs (m/g)=1/\m/g≠0/\(n/(g:Int)).natAbs<=n.natAbs/\g<=m:=by
 have d:0<g:=by grind
 have e:g∣m:=by rw[a];exact Nat.gcd_dvd_right _ _
 have f:(g:Int)∣n:=Int.ofNat_dvd_left.2 (by rw[a];exact Nat.gcd_dvd_left _ _);obtain⟨c,b⟩:=f;have h:n/g=c:=by rw[b];exact ACC _ (by omega)
 have i:n.natAbs=g*c.natAbs:=by rw[b,uA];rfl
 refine⟨by omega,Int.tdiv_eq_ediv_of_dvd ⟨c,b⟩,?_,?_,?_,Nat.le_of_dvd (by omega) e⟩
 ·rw[h];have:c.natAbs=n.natAbs/g:=by rw[i];exact(Nat.mul_div_cancel_left _ d).symm
  rw[this,a];exact Nat.gcd_div_gcd_div_gcd_of_pos_right (by omega)
 ·have:=ACW (Nat.le_of_dvd (by omega) e) d;omega
 exact AB2 _ _
def ase{l m:List Nat}{x y:D}(a:Sl 1 (l.map aJ) x)(c:Sl 1 (m.map aJ) y)(u:l.length<70368744177665)(v:m.length<70368744177665):ai VS 109 [x,y] (.b (decide (l=m))):=by
 refine .body P1 rfl ?_;by_cases n:l.length=m.length
 ·have f:(l.length:Int)=m.length:=by omega
  simp[go_sem,VN,a.n,c.n,f];refine ak.up (λi s=>∃o p,(∀j,j<i->l[j]! =m[j]!)/\s=⟨[x,y,.b false,.b false,o,p,.i .i64 i],[]⟩) l.length ⟨_,_,λj w=>by omega,rfl⟩ ?_;rintro i s hi⟨o,p,hs,rfl⟩;by_cases z:i<l.length
  ·have d:(i:Int)<l.length:=by omega
   have c3:(i:Int)<m.length:=by omega
   have q:(0:Int)<=i:=by omega
   have r:D.under (0,[]) x=true:=a.under _;have t:D.under (0,[]) y=true:=c.under _;by_cases g:l[i]! =m[i]!
   ·have h:(l[i]!:Int)=(m[i]!:Int):=by omega
    simp(disch:=omega)only[go_sem,Iu,a.n,a.q,c.q,q,d,c3,r,t,aJ,h,wr];grind
   have h:¬(l[i]!:Int)=m[i]!:=by omega
   have k:l≠m:=λe=>g (by rw[e]);simp only[go_sem,Iu,a.n,a.q,c.q,q,d,c3,r,t,aJ,h,k]
  have d:¬(i:Int)<l.length:=by omega
  have g:=ACA n λj A B=>by grind
  subst g;simp[go_sem,Iu,a.n,d]
 have f:¬(l.length:Int)=m.length:=by omega
 have k:l≠m:=λe=>n (by rw[e]);simp[go_sem,VN,a.n,c.n,f,k]
structure Vl where
 k:Nat
 f:RF
 i:Int
instance:Inhabited Vl:=⟨⟨0,default,0⟩⟩
def Vl.cells(v:Vl):List D:=[.i .u8 v.k,.b v.f.s,v.f.x,.b v.f.t,v.f.y,.i .i64 v.i]
def Vl.d(v:Vl):D:=.ag v.cells
def RF.eq(a b:RF):Bool:=((a.s==b.s)&&decide (a.l=b.l))&&((a.t==b.t)&&decide (a.m=b.m))
def Vl.eq(a b:Vl):Bool:=(decide (a.k=b.k)&&a.f.eq b.f)&&decide (a.i=b.i)
def Vl.pl(v:Vl):v.d.plain=true:=by simp[Vl.d,Vl.cells,cE,jR,cZ,v.f.hx.flat,v.f.hy.flat]
end
section
open Go.Dm
set_option maxRecDepth 10000
inductive Zs where|n|z|i deriving Inhabited,DecidableEq
def Zs.d(w:Nat):Zs->D|.n=>.nil|.z=>.z|.i=>.im w []
def Cg(w:Nat)(y:Zs)(rows:List (List D)):D:=match rows with|[]=>y.d w|r::a=>.im w (r::a)
def asf(w:Nat)(y:Zs)(rows:List (List D)):Sl w rows (Cg w y rows):=by cases rows with
 |nil=>cases y<;>first|exact .nil rfl|exact .z rfl|exact .im
 |cons r a=>exact .im
inductive Ex where|mk(op:Nat)(name:List UInt8)(v:Vl)(y:Zs)(args:List Ex)
instance:Inhabited Ex:=⟨.mk 0 [] default .n []⟩
def Ex.op:Ex->Nat|.mk o _ _ _ _=>o
def Ex.name:Ex->List UInt8|.mk _ n _ _ _=>n
def Ex.v:Ex->Vl|.mk _ _ v _ _=>v
def Ex.z:Ex->Zs|.mk _ _ _ y _=>y
def Ex.args:Ex->List Ex|.mk _ _ _ _ a=>a
mutual def Ex.row:Ex->List D|.mk o n v y a=>[.i .u8 o,.s n,.i .u8 v.k,.b v.f.s,v.f.x,.b v.f.t,v.f.y,.i .i64 v.i,Cg 9 y (xN a)]def xN:List Ex->List (List D)|[]=>[]|e::l=>e.row::xN l end
def Md:∀l:List Ex,xN l=l.map Ex.row|[]=>by simp[xN]|e::l=>by rw[xN,Md l];rfl
def Ex.sl(e:Ex):D:=Cg 9 e.z (e.args.map Ex.row)
theorem Ex.row_eq(e:Ex):e.row=[.i .u8 e.op,.s e.name,.i .u8 e.v.k,.b e.v.f.s,e.v.f.x,.b e.v.f.t,e.v.f.y,.i .i64 e.v.i,e.sl]:=by cases e;rw[Ex.row,Md];rfl
def Ex.hsl(e:Ex):Sl 9 (e.args.map Ex.row) e.sl:=asf 9 _ _
def Ex.d(e:Ex):D:=.ag e.row
def Ex.pl(e:Ex):e.d.plain=true:=by simp[Ex.d,Ex.row_eq,cE,jR,cZ,nh,e.v.f.hx.flat,e.v.f.hy.flat,e.hsl.flat]
mutual def Ex.ind'{P:Ex->Prop}(h:∀e:Ex,(∀a∈e.args,P a)->P e):∀e:Ex,P e|.mk o n v y a=>h _ (Ex.indL h a)def Ex.indL{P:Ex->Prop}(h:∀e:Ex,(∀a∈e.args,P a)->P e):∀l:List Ex,∀a∈l,P a
 |[],_,b=>by cases b|e::l,a,b=>by
  rcases dA.1 b with q|q;·exact q▸Ex.ind' h e
  exact Ex.indL h l a q end
mutual def jA:Ex->Nat->Nat->Bool×Nat|.mk _ _ _ _ a,d,p=>if 200<p+1\/24<d then(false,p+1)else i6 a (d+1) (p+1)def i6:List Ex->Nat->Nat->Bool×Nat|[],_,p=>(true,p)|e::l,d,p=>match jA e d p with|(true,q)=>i6 l d q|(false,q)=>(false,q)end
def Ch(e:Ex)(d p:Nat):jA e d p=if 200<p+1\/24<d then(false,p+1)else i6 e.args (d+1) (p+1):=by cases e;rfl
def r8(e:Ex):Bool:=(jA e 1 0).1
def ob(p:Nat):ab:=[.hb 3 [.i .i64 (p:Int)],.hb 121 [.fn (.func 86) [] [.hp 0 0,.hp 1 0]]]
def Yn:∀e:Ex,∀d p,p<=200->(jA e d p).1=true->(jA e d p).2<=200:=by
 refine Ex.ind' λe b d p c h=>?_;rw[Ch]at h⊢;split at h;·cases h
 rename_i f;have:∀l,(∀a∈l,a∈e.args)->∀q,q<=200->(i6 l (d+1) q).1=true->(i6 l (d+1) q).2<=200:=by intro l;induction l<;>grind[i6,jA]
 grind
def asg:∀e:Ex,∀d p,p+1<=(jA e d p).2:=by
 refine Ex.ind' λe b d p=>?_;rw[Ch];split;·omega
 have:∀l,(∀a∈l,a∈e.args)->∀q,q<=(i6 l (d+1) q).2:=by intro l;induction l<;>grind[i6,jA]
 grind
def ash:∀e:Ex,∀(d p:Nat),p<=200->d<=25->ac VS 86 [e.d,.i .i64 (d:Int),.hp 0 0,.hp 1 0] (ob p) (λr=>r=.ret (.b (jA e d p).1) (ob (jA e d p).2)):=by
 refine Ex.ind' λe j d p I J=>?_;rw[Ch];refine .body agF rfl rfl ?_;have g0:∀q,(ob q)[0]?=some _:=λ_=>rfl;have g1:∀q,(ob q)[1]?=some _:=λ_=>rfl;have f:∀q x,(ob q).set 0 _=ob x:=λ_ _=>rfl;obtain⟨q,w⟩:∃q,q=p+1:=⟨_,rfl⟩;obtain⟨k,y⟩:∃k,k=d+1:=⟨_,rfl⟩;rw[<-w,<-y];have g:IntKind.i64.wrap (p+1)=q:=by grind[wr]
 have z:IntKind.i64.wrap (d+1)=k:=by grind[wr]
 simp only[Ex.d,Ex.row_eq]at j⊢;by_cases A:200<q
 ·have d1:(200:Int)<q:=by omega
  rw[G1 (.inl A)];simp[go_sem,Ic,g0,g,f,d1]
 have d1:¬(200:Int)<q:=by omega
 by_cases B:24<d
 ·have d2:(24:Int)<d:=by omega
  rw[G1 (.inr B)];simp[go_sem,Ic,g0,g,f,d2]
 have d2:¬(24:Int)<d:=by omega
 rw[E1 (by omega)];simp[go_sem,Ic,g0,g,f,d1,d2,e.hsl.n];refine ak.up (λi s=>∃l m n r,i6 e.args k q=i6 (e.args.drop i) k r/\(i<=r/\r<=200)/\s=⟨[.ag [.i .u8 e.op,.s _,.i .u8 e.v.k,.b _,e.v.f.x,.b _,e.v.f.y,.i .i64 e.v.i,e.sl],.i .i64 d,.hp 0 0,.hp 1 0,.b false,.b false,l,m,.bx [.i .u8 e.op,.s _,.i .u8 e.v.k,.b _,e.v.f.x,.b _,e.v.f.y,.i .i64 e.v.i,e.sl],.i .i64 i,.i .i64 _,e.sl,n],ob r⟩) e.args.length ⟨_,_,_,q,rfl,⟨by omega,by omega⟩,rfl⟩ ?_;rintro i s hi⟨l,m,n,r,hr,⟨L,o⟩,rfl⟩;by_cases c:i<e.args.length
 ·have c3:(i:Int)<e.args.length:=by omega
  have C:(0:Int)<=i:=by omega
  obtain⟨a,h⟩:∃a,a=e.args[i]!:=⟨_,rfl⟩;have E:a∈e.args:=by rw[h,K0 _ i c];exact kv _
  have F:e.args.drop i=a::e.args.drop (i+1):=by rw[h,K0 _ i c];exact mm c
  rw[F,i6]at hr;have G:=λ{K}=>Cf (j a E k r o (by omega)) (K:=K);have u:=Yn a k r o;have v:=asg a k r;simp(disch:=omega)only[go_sem,VG,e.hsl.q,C,c3,<-h,Ex.row_eq,g1,z];rw[gP (by decide)];simp[W0,T1];rw[G];cases H:jA a k r with|mk b t=>rw[H]at hr u v;cases b with|false=>rw[hr];simp[go_sem]|true=>simp(disch:=omega)[go_sem,wr];exact⟨c,_,_,_,t,hr,⟨by show i+1<=t;have:r+1<=t:=v;omega,u rfl⟩,⟨rfl,rfl,rfl⟩,rfl⟩
 have c3:¬(i:Int)<e.args.length:=by omega
 rw[dm (by omega),i6]at hr;rw[hr];simp[go_sem,VG,c3]
def asi(e:Ex):ai VS 56 [e.d] (.b (r8 e)):=by have a:=λ{K}=>Cf (ash e 1 0 (by omega) (by omega)) (K:=K);have g1:(ob 0)[1]?=some _:=rfl;refine .body PF rfl ?_;have c:[an.hb 3 [.i .i64 0],.hb 121 [.fn (.func 86) [] [.hp 0 0,.hp 1 0]]]=ob 0:=rfl;simp only[Ex.d,Ex.row_eq]at a⊢;simp(disch:=omega)[go_sem,aow,c,g1];rw[gP (by decide)];refine a.2 ?_;simp[go_sem];rfl
end
section
open Go.Dm
set_option maxRecDepth 10000
theorem RF.same_c (a b:RF) {H:ab} {K:CR -> Prop}:ac VS 90 [a.d,b.d] H K↔K (.ret (.b (a.eq b)) H) :=
 (ar6 a b).c PU rfl (by simp[a.pl,b.pl]) (.inl rfl)
def RF.zero (a:RF):Bool:=a.eq default
theorem RF.zero_c (a:RF) {H:ab} {K:CR -> Prop}:ac VS 90 [.ag [.b a.s,a.x,.b a.t,a.y],.ag [.b false,.nil,.b false,.nil]] H K↔K (.ret (.b a.zero) H):=RF.same_c a default
theorem RF.vc (a:RF) {H:ab} {K:CR -> Prop}:ac VS 75 [.ag [.b a.s,a.x,.b a.t,a.y]] H K↔K (.ret (.b a.v) H):=a.valid_c
def Vl.valid (v:Vl):Bool :=
 if v.k=2 \/ v.k=3 then decide (v.i=0)&&v.f.v
 else if v.k=1 then v.f.zero&&decide (0 <= v.i /\ v.i <= 1)
 else if v.k=4 then v.f.zero&&decide (0 <= v.i /\ v.i<65536)
 else if v.k=5 \/ v.k=6 then v.f.zero&&decide (-1048576 <= v.i /\ v.i <= 1048576)
 else false
theorem Me (v:Vl):ai VS 61 [v.d] (.b v.valid):=by
  have e1:=fun{H K}=>v.f.vc (H:=H) (K:=K)
  have e2:=fun{H K}=>v.f.zero_c (H:=H) (K:=K)
  refine .body zG rfl ?_
  unfold Vl.valid
  simp only[Vl.d,Vl.cells]
  by_cases k2:v.k=2
  · by_cases c:v.i=0<;>simp  [go_sem,kO,e1,k2,c,y5]
  by_cases k3:v.k=3
  · by_cases c:v.i=0<;>simp  [go_sem,kO,e1,k3,c,y5]
  have n2 : ¬ (v.k:Int)=2:=by omega
  have n3 : ¬ (v.k:Int)=3:=by omega
  rw[E1 (by omega)]
  by_cases k1:v.k=1
  · cases hz:v.f.zero with
    | false=>rw[hz]at e2;simp  [go_sem,simprocAttr,kO,e2,k1]
    | true =>
      rw[hz]at e2
      by_cases c:0 <= v.i
      · simp  [go_sem,simprocAttr,kO,e2,k1,c]
      · simp  [go_sem,simprocAttr,kO,e2,k1,c,false_and]
  have n1 : ¬ (v.k:Int)=1:=by omega
  rw[E1 k1]
  by_cases k4:v.k=4
  · cases hz:v.f.zero with
    | false=>rw[hz]at e2;simp  [go_sem,simprocAttr,kO,e2,k4]
    | true =>
      rw[hz]at e2
      by_cases c:0 <= v.i
      · simp  [go_sem,simprocAttr,kO,e2,k4,c]
      · simp  [go_sem,simprocAttr,kO,e2,k4,c,false_and]
  have n4 : ¬ (v.k:Int)=4:=by omega
  rw[E1 k4]
  have go56:(v.k=5 \/ v.k=6) -> ak VS pJ.body ⟨[.ag [.i .u8 v.k,.b v.f.s,v.f.x,.b v.f.t,v.f.y,.i .i64 v.i]]++uu (pJ.nsl-pJ.npar),[]⟩ (dh pJ.res (fG pJ.own (· = .ret (.b (v.f.zero&&decide (-1048576 <= v.i /\ v.i <= 1048576)))))):=by
    intro hk
    cases hz:v.f.zero with
    | false =>
      rw[hz]at e2
      rcases hk with k|k<;>simp  [go_sem,kO,e2,k]
    | true =>
      rw[hz]at e2
      by_cases c : -1048576 <= v.i
      · rcases hk with k|k<;>simp  [go_sem,kO,e2,k,c]
      · rcases hk with k|k<;>simp  [go_sem,kO,e2,k,c,false_and]
  by_cases k5:v.k=5 \/ v.k=6
  · grind
  · have n5 : ¬ (v.k:Int)=5:=by omega
    have n6 : ¬ (v.k:Int)=6:=by omega
    rw[E1 k5]
    simp  [go_sem,simprocAttr,kO,n1,n2,n3,n4,n5,n6]
end
end Go.Proofs.YtekgndcflpklkaaGreatDoor.Dv
