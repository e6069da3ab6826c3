/-
  Whole numbers: trim,compare,pack,unpack,plus.
-/
import Derived.Test.YtgefdialaemelaaGreatDoorA
import Derived.Test.YtgefdialaemelaaGreatDoorDi
namespace Go.Proofs.YtgefdialaemelaaGreatDoor.Dv
open Go.Dm
structure TrimI (l:List Nat) (k:Nat) (s:St):Prop where
 le:k <= l.length
 z:vl 4294967296 (l.drop k)=0
 h : ∃ y a,Sl 1 ((l.take k).map u32) y /\ s=⟨[y,.nil,a],[]⟩
theorem dgt_tp {l:List Nat} {k:Nat} (hk:k<l.length) (h:l[k]! ≠ 0):tp (l.take (k+1)):=fun _=>by
 have hl:(l.take (k+1)).length=k+1:=by rw[List.length_take];omega
 have hk':k<(l.take (k+1)).length:=by omega
 rw[hl,Nat.add_sub_cancel,getElem!_pos _ k hk',List.getElem_take, <- getElem!_pos l k hk]
 exact h
theorem trim_q {l:List Nat} {x:D} (h:Sl 1 (l.map u32) x) (hm:lm 4294967296 l) (hn:l.length<1099511627776) : ∃ d,PRet VS 129 [x] d /\ W32 (vl 4294967296 l) d:=by
 refine PurQ.ex (.body (vf:=v129) fn129 rfl ?_)
 simp only[go_sem,Nat.reduceSub,v129]
 refine Run.loop (TrimI l) l.length ⟨Nat.le_refl _,by rw[List.drop_of_length_le (Nat.le_refl _)];rfl,x,.u,by rw[List.take_of_length_le (Nat.le_refl _)];exact h,rfl⟩ ?_
 rintro k s ⟨hk,hz,y,a,hy,rfl⟩
 have hl:(l.take k).length=k:=by rw[List.length_take];omega
 rcases k with _|k
 ·simp(disch:=omega) only[go_sem,Int.reduceLT,v129l0,hy.n,Int.natCast_zero]
  refine⟨y,frzR_flat hy.flat,⟨?_⟩⟩
  rw[ds_drop h32 hm (Nat.zero_le _) hz (fun e=>absurd rfl e)]
  exact hy
 ·have hg:(l.take (k+1))[k]! = l[k]! := by rw[getElem!_pos _ k (by omega),List.getElem_take, <- getElem!_pos l k (by omega)]
  have e:((k:Int)+1-1)=(k:Int):=by omega
  have c1:(0:Int)<(k:Int)+1:=by omega
  simp(disch:=omega) only[go_sem,v129l0,hy.n,hy.q,hy.hi,hl,c1,e,wr,u32,hg]
  refine⟨⟨by omega,by omega⟩,fun h0=>⟨⟨by omega,by omega⟩,k,by omega,by omega, ?_,_,_, ?_,rfl⟩,fun h0=>⟨y,frzR_flat hy.flat,⟨?_⟩⟩⟩
  ·rw[vl_drop (by omega),hz];omega
  ·have:=hy.slT k
   rwa [List.take_take,Nat.min_eq_left (by omega)]at this
  ·rw[ds_drop h32 hm hk hz (dgt_tp (by omega) (by omega))]
   exact hy
structure CmpI (l m:List Nat) (x y:D) (k:Nat) (s:St):Prop where
 le:k <= l.length
 z:l.drop k=m.drop k
 h : ∃ a b c,s=⟨[x,y,.i .i64 0,.b false,a,b,c,.u,.i .i64 ((k:Int)-1)],[]⟩
def sgn (a b:Nat):Int:=if a<b then -1 else if a=b then 0 else 1
theorem sgn_lt {a b:Nat} (h:a<b):sgn a b = -1:=if_pos h
theorem sgn_gt {a b:Nat} (h:b<a):sgn a b=1:=by rw[sgn,if_neg (by omega),if_neg (by omega)]
theorem sgn_eq {a b:Nat} (h:a=b):sgn a b=0:=by rw[sgn,if_neg (by omega),if_pos h]
theorem len_lt {a b:Nat} (h:(ds 4294967296 a).length<(ds 4294967296 b).length):a<b:=by
 rcases Nat.lt_or_ge a b with h1|h1
 ·exact h1
 ·have:=ds_mono h32 h1;omega
theorem compare_q {a b:Nat} {x y:D} (hx:W32 a x) (hy:W32 b y) (ha:(ds 4294967296 a).length<1099511627776) (hb:(ds 4294967296 b).length<1099511627776):PRet VS 61 [x,y] (.i .i64 (sgn a b)):=by
 have h1:=hx.sl
 have h2:=hy.sl
 refine .body (vf:=v61) fn61 rfl ?_
 by_cases hlt:(ds 4294967296 a).length=(ds 4294967296 b).length
 ·simp (disch:=omega) only[go_sem,Nat.reduceSub,Int.reduceNeg,v61,h1.n,h2.n,hlt,wr]
  refine Run.loop (CmpI (ds 4294967296 a) (ds 4294967296 b) x y) (ds 4294967296 a).length ⟨Nat.le_refl _, ?_,.u,.u,.u, ?_⟩ ?_
  ·rw[List.drop_of_length_le (Nat.le_refl _),List.drop_of_length_le (by omega)]
  ·rw[hlt]
  rintro k s ⟨hk,hz,a1,a2,a3,rfl⟩
  rcases k with _|k
  ·have:a=b:=ds_inj h32 (by simpa using hz)
   simp(disch:=omega) only[go_sem,Int.reduceLE,Int.reduceNeg,Int.reduceSub,v61l0,Int.natCast_zero,sgn_eq this]
  ·have e:((k:Int)+1-1)=(k:Int):=by omega
   simp(disch:=omega) only[go_sem,Int.reduceNeg,v61l0,h1.q,h2.q,wr,u32,e,h1.under,h2.under]
   have g1:(ds 4294967296 a)[k]! < (ds 4294967296 b)[k]! -> a<b:=fun h=>by
    have:=vl_cmp h32 (lm_ds h32 a) (by omega) hlt hz h
    rwa [vl_ds h32,vl_ds h32]at this
   have g2:(ds 4294967296 b)[k]! < (ds 4294967296 a)[k]! -> b<a:=fun h=>by
    have:=vl_cmp h32 (lm_ds h32 b) (by omega) hlt.symm hz.symm h
    rwa [vl_ds h32,vl_ds h32]at this
   refine⟨fun _=>⟨⟨by omega,by omega⟩,⟨by omega,by omega⟩,fun hne=>⟨⟨by omega,by omega⟩,⟨by omega,by omega⟩,fun hl=>(sgn_lt (g1 (by omega))).symm,fun hl=>(sgn_gt (g2 (by omega))).symm⟩,fun he=>⟨k,by omega,by omega, ?_,_,_,_,rfl⟩⟩,fun h=>absurd (by omega) h⟩
   rw[drop_get (by omega),drop_get (i:=k) (by omega),hz]
   congr 1;omega
 ·have c1:((ds 4294967296 a).length:Int)≠((ds 4294967296 b).length:Int):=by omega
  rcases Nat.lt_or_gt_of_ne hlt with hl|hl
  ·have c2:((ds 4294967296 a).length:Int)<((ds 4294967296 b).length:Int):=by omega
   simp(disch:=omega) only[go_sem,Nat.reduceSub,Int.reduceNeg,v61,h1.n,h2.n,sgn_lt (len_lt hl),c1,c2]
  ·have c2 : ¬ ((ds 4294967296 a).length:Int)<((ds 4294967296 b).length:Int):=by omega
   simp(disch:=omega) only[go_sem,Nat.reduceSub,Int.reduceNeg,v61,h1.n,h2.n,sgn_gt (len_lt hl),c1,c2]
end Go.Proofs.YtgefdialaemelaaGreatDoor.Dv
namespace Go.Dm
theorem W32.pl {n:Nat} {x:D} (h:W32 n x):x.plain=true:=h.sl.pl
theorem W16.pl {n:Nat} {x:D} (h:W16 n x):x.plain=true:=h.sl.pl
theorem W16.p1 {n:Nat} {x:D} (h:W16 n x):[x].all D.plain=true:=by simp[h.pl]
theorem w16 {n:Nat} (h:n<65536):IntKind.wrap .u16 (n:Int)=(n:Int):=by
 have e:IntKind.wrap .u16 (n:Int)=(n:Int)%65536:=rfl
 rw[e];omega
theorem w16m {n:Nat}:IntKind.wrap .u16 (n:Int)=((n%65536:Nat):Int):=by
 have e:IntKind.wrap .u16 (n:Int)=(n:Int)%65536:=rfl
 rw[e];omega
theorem w32 {n:Nat} (h:n<4294967296):IntKind.wrap .u32 (n:Int)=(n:Int):=by
 have e:IntKind.wrap .u32 (n:Int)=(n:Int)%4294967296:=rfl
 rw[e];omega
theorem w32m {n:Nat}:IntKind.wrap .u32 (n:Int)=((n%4294967296:Nat):Int):=by
 have e:IntKind.wrap .u32 (n:Int)=(n:Int)%4294967296:=rfl
 rw[e];omega
theorem w32i {x:Int}:IntKind.wrap .u32 x=x%4294967296:=rfl
theorem w64i {x:Int}:IntKind.wrap .u64 x=x%18446744073709551616:=rfl
theorem w64 {n:Nat} (h:n<18446744073709551616):IntKind.wrap .u64 (n:Int)=(n:Int):=by
 have e:IntKind.wrap .u64 (n:Int)=(n:Int)%18446744073709551616:=rfl
 rw[e];omega
theorem w8 {n:Nat} (h:n<256):IntKind.wrap .u8 (n:Int)=(n:Int):=by
 have e:IntKind.wrap .u8 (n:Int)=(n:Int)%256:=rfl
 rw[e];omega
theorem tdivN {a b:Nat}:Int.tdiv (a:Int) (b:Int)=((a/b:Nat):Int):=rfl
theorem tmodN {a b:Nat}:Int.tmod (a:Int) (b:Int)=((a%b:Nat):Int):=rfl
theorem tdiv2 {a:Nat}:Int.tdiv (a:Int) 2=((a/2:Nat):Int):=rfl
theorem tmod2 {a:Nat}:Int.tmod (a:Int) 2=((a%2:Nat):Int):=rfl
theorem tdivS2 {a:Nat}:Int.tdiv ((a:Int)+1) 2=(((a+1)/2:Nat):Int):=rfl
theorem bin_shrN {k k':IntKind} {a s:Nat} (hs:s<k.bits):bin .shr (.i k (a:Int)) (.i k' (s:Int))=some (.i k ((a/2 ^ s:Nat):Int)):=by
 have h0 : ¬ ((s:Int)<0):=by omega
 have h1:min s k.bits=s:=by omega
 simp only[bin,shiftI,h0,if_false,Int.toNat_natCast,h1]
 rw[Int.fdiv_eq_ediv_of_nonneg _ (by exact Int.le_of_lt (Int.pow_pos (by omega)))]
 simp
theorem bin_shlN {k k':IntKind} {a s:Nat} (hs:s<k.bits):bin .shl (.i k (a:Int)) (.i k' (s:Int))=some (.i k (k.wrap ((a*2 ^ s:Nat):Int))):=by
 have h0 : ¬ ((s:Int)<0):=by omega
 have h1:min s k.bits=s:=by omega
 simp only[bin,shiftI,h0,if_false,Int.toNat_natCast,h1]
 simp
theorem bin_or32 {a b:Nat} (ha:a<4294967296) (hb:b<4294967296):bin .or (.i .u32 (a:Int)) (.i .u32 (b:Int))=some (.i .u32 ((a ||| b:Nat):Int)):=by
 have e:bin .or (.i .u32 (a:Int)) (.i .u32 (b:Int))=some (.i .u32 (IntKind.wrap .u32 (((BitVec.ofInt 32 (a:Int) ||| BitVec.ofInt 32 (b:Int)).toNat:Nat):Int))):=rfl
 rw[e,w32 (BitVec.isLt _),BitVec.ofInt_natCast,BitVec.ofInt_natCast,BitVec.toNat_or,BitVec.toNat_ofNat,BitVec.toNat_ofNat,Nat.mod_eq_of_lt ha,Nat.mod_eq_of_lt hb]
theorem bin_or64 {a b:Nat} (ha:a<18446744073709551616) (hb:b<18446744073709551616):bin .or (.i .u64 (a:Int)) (.i .u64 (b:Int))=some (.i .u64 ((a ||| b:Nat):Int)):=by
 have e:bin .or (.i .u64 (a:Int)) (.i .u64 (b:Int))=some (.i .u64 (IntKind.wrap .u64 (((BitVec.ofInt 64 (a:Int) ||| BitVec.ofInt 64 (b:Int)).toNat:Nat):Int))):=rfl
 rw[e,w64 (BitVec.isLt _),BitVec.ofInt_natCast,BitVec.ofInt_natCast,BitVec.toNat_or,BitVec.toNat_ofNat,BitVec.toNat_ofNat,Nat.mod_eq_of_lt ha,Nat.mod_eq_of_lt hb]
theorem or_shl {a b s:Nat} (h:a<2 ^ s):a ||| b*2 ^ s=a+b*2 ^ s:=by
 have:=Nat.two_pow_add_eq_or_of_lt (i:=s) (b:=a) h b
 rw[Nat.mul_comm b,Nat.or_comm, <- this,Nat.add_comm]
theorem shl_or {a b s:Nat} (h:a<2 ^ s):b*2 ^ s ||| a=a+b*2 ^ s:=by rw[Nat.or_comm,or_shl h]
theorem set32 {l:List Nat} {i v:Nat}:(l.map u32).set i [.i .u32 (v:Int)]=(l.set i v).map u32:=by rw[List.map_set];rfl
theorem set16 {l:List Nat} {i v:Nat}:(l.map u16).set i [.i .u16 (v:Int)]=(l.set i v).map u16:=by rw[List.map_set];rfl
theorem rep32 {n:Nat}:List.replicate n [D.i .u32 0]=(List.replicate n 0).map u32:=by rw[List.map_replicate];rfl
theorem rep16 {n:Nat}:List.replicate n [D.i .u16 0]=(List.replicate n 0).map u16:=by rw[List.map_replicate];rfl
end Go.Dm
namespace Go.Proofs.YtgefdialaemelaaGreatDoor.Dv
open Go.Dm
structure PackI (l:List Nat) (x:D) (i:Nat) (s:St):Prop where
 h : ∃ ws a2 a7 a8,ws.length=(l.length+1)/2 /\ lm 4294967296 ws /\ vl 4294967296 ws=vl 65536 (l.take i) /\ s=⟨[x,.nil,a2,.i .i64 i,.i .i64 l.length,x,.mu 0 ((l.length+1)/2) 0 ((l.length+1)/2),a7,a8],[.ar 1 (ws.map u32) (some ((l.length+1)/2)) true false]⟩
theorem pow16 (i:Nat):65536 ^ i=4294967296 ^ (i/2)*(if i%2=0 then 1 else 65536):=by
 rw[show(4294967296:Nat)=65536 ^ 2 from rfl, <- Nat.pow_mul]
 split
 ·rw[Nat.mul_one];congr 1;omega
 ·rw[<- Nat.pow_succ];congr 1;omega
theorem pack_q {n:Nat} {x:D} (h:W16 n x) (hn:(ds 65536 n).length<1099511627776) : ∃ d,PRet VS 62 [x] d /\ W32 n d:=by
 generalize hl:ds 65536 n=l at hn
 have hs:=h.sl
 rw[hl]at hs
 have hm:lm 65536 l:=hl▸lm_ds h16 n
 have hv:vl 65536 l=n:=hl▸vl_ds h16 n
 have ht:tp l:=hl▸tp_ds h16 n
 refine PurQ.ex (.body (vf:=v62) fn62 rfl ?_)
 simp(disch:=omega) only[go_sem,Nat.reduceSub,Int.reduceEq,v62,hs.n,wr,tdivS2,rep32]
 refine⟨⟨⟨by omega,by omega⟩,⟨by omega,by omega⟩,by omega⟩,Run.up (PackI l x) l.length ⟨_,_,_,_,by simp,lm_rep (by omega),by rw[vl_rep];rfl,rfl⟩ ?_⟩
 rintro i s hi ⟨ws,a2,a7,a8,hwl,hwm,hwv,rfl⟩
 by_cases hlt:i<l.length
 ·have c1:(i:Int)<(l.length:Int):=by omega
  have hd:l[i]! < 65536:=lm_get hm hlt
  have hk:i/2<ws.length:=by omega
  have hw:vl 4294967296 ws<4294967296 ^ (i/2)*(if i%2=0 then 1 else 65536):=by
   rw[hwv, <- pow16]
   have:=vl_lt h16 (lm_take hm i)
   rwa [List.length_take,Nat.min_eq_left hi]at this
  have hb:=vl_dig h32 hw hk
  have hc:(i%2=0 /\ 2 ^ (16*(i%2))=1) \/ (i%2=1 /\ 2 ^ (16*(i%2))=65536):=by
   rcases Nat.mod_two_eq_zero_or_one i with e|e<;>rw[e]
   ·exact .inl ⟨rfl,rfl⟩
   ·exact .inr ⟨rfl,rfl⟩
  have hb2:ws[i/2]! < 2 ^ (16*(i%2)):=by
   rcases hc with⟨e1,e2⟩|⟨e1,e2⟩
   ·rw[if_pos e1]at hb;omega
   ·rw[if_neg (by omega)]at hb;omega
  have hmul:l[i]! * 2 ^ (16*(i%2))<4294967296 /\ ws[i/2]! + l[i]! * 2 ^ (16*(i%2))<4294967296:=by
   rcases hc with⟨e1,e2⟩|⟨e1,e2⟩<;>rw[e2]at hb2 ⊢ <;> omega
  have e1:bin .shl (.i .u32 (l[i]! : Int)) (.i .i64 (16*((i%2:Nat):Int)))=some (.i .u32 ((l[i]! * 2 ^ (16*(i%2)):Nat):Int)):=by
   rw[show 16*((i%2:Nat):Int)=((16*(i%2):Nat):Int)by omega,bin_shlN (by show 16*(i%2)<32;omega),w32 hmul.1]
  have e2:=bin_or32 (show ws[i/2]! < 4294967296 from lm_get hwm hk) hmul.1
  rw[or_shl hb2]at e2
  obtain⟨v,hv'⟩ : ∃ v,v=ws[i/2]! + l[i]! * 2 ^ (16*(i%2)):=⟨_,rfl⟩
  rw[<- hv']at e2 hmul
  simp(disch:=omega) only[go_sem,Nat.reduceLT,Int.reduceEq,v62l0,hs.q,c1,u16,wr,tdiv2,tmod2,u32,hwl,w32,e1,e2,set32]
  repeat' first|(refine And.intro ?_ ?_)|intro _
  all_goals try omega
  refine⟨ws.set (i/2) v,_,_,_,by rw[List.length_set,hwl],lm_set hwm hmul.2, ?_,rfl⟩
  have g1:=vl_set (B:=4294967296) (v:=v) hk
  have g2:=vl_take_succ (B:=65536) hlt
  have g3:=pow16 i
  rw[hv']at g1 ⊢
  rw[g2, <- hwv,g3]
  rcases hc with⟨e1,e2⟩|⟨e1,e2⟩
  ·rw[e2]at g1;rw[if_pos e1,e2];grind
  ·rw[e2]at g1;rw[if_neg (by omega),e2];grind
 ·have hil:i=l.length:=by omega
  subst hil
  rw[List.take_of_length_le (Nat.le_refl _),hv]at hwv
  have htk:(ws.map u32).take ((l.length+1)/2)=ws.map u32:=List.take_of_length_le (by rw[List.length_map];omega)
  simp(disch:=omega) only[go_sem,v62l0,hwl,htk,Int.lt_irrefl]
  refine⟨?_⟩
  rw[<- hwv,ds_vl h32 hwm]
  ·exact .im
  ·intro hne
   have hp:0<ws.length:=List.length_pos_iff.2 hne
   have hn0:ws.length-1<ws.length:=by omega
   intro h0
   have hl0:l≠[]:=by intro e;rw[e,List.length_nil]at hwl;omega
   have:=ht hl0
   have g1:=vl_split (B:=4294967296) ws (ws.length-1) (by omega)
   rw[vl_drop hn0,h0,List.drop_of_length_le (by omega),vl,Nat.mul_zero,Nat.add_zero]at g1
   have g2:=vl_lt h32 (lm_take hwm (ws.length-1))
   rw[List.length_take,Nat.min_eq_left (by omega), <- g1,hwv, <- hv]at g2
   have g3:=vl_split (B:=65536) l (l.length-1) (by omega)
   have hl1:l.length-1<l.length:=by have:=List.length_pos_iff.2 hl0;omega
   rw[vl_drop hl1]at g3
   have g4:4294967296 ^ (ws.length-1) <= 65536 ^ (l.length-1):=by
    rw[show(4294967296:Nat)=65536 ^ 2 from rfl, <- Nat.pow_mul]
    exact Nat.pow_le_pow_right (by omega) (by omega)
   have g5:65536 ^ (l.length-1)*1 <= 65536 ^ (l.length-1)*(l[l.length-1]! + 65536*vl 65536 (l.drop (l.length-1+1))):=Nat.mul_le_mul_left _ (by omega)
   omega
open Go.Dm
structure Wh (z:Int) (d:D):Prop where
 h : ∃ y,d = .ag [.b (decide (z<0)),y] /\ W16 z.natAbs y
structure UnI (l:List Nat) (neg:Bool) (y:D) (i:Nat) (s:St):Prop where
 h : ∃ ws a4 a10 a11,ws.length=2*l.length /\ lm 65536 ws /\ vl 65536 ws=vl 4294967296 (l.take i) /\ s=⟨[.b neg,y,.bx [.b false,.nil],.b false,a4,.u,.mu 0 (2*l.length) 0 (2*l.length),.i .i64 i,.i .i64 l.length,y,a10,a11],[.ar 1 (ws.map u16) (some (2*l.length)) true false]⟩
theorem ds_pos {B n:Nat} (hB:2 <= B) (h:n≠0):0<(ds B n).length:=List.length_pos_iff.2 (ds_ne hB h)
theorem unpack_q {l:List Nat} {x:D} {neg:Bool} (hx:Sl 1 (l.map u32) x) (hm:lm 4294967296 l) (hn:l.length<1099511627776) : ∃ d,PRet VS 105 [.b neg,x] d /\ Wh (if neg then -(vl 4294967296 l:Int)else vl 4294967296 l) d:=by
 obtain⟨y,hy,hw⟩:=trim_q hx hm hn
 have e1:=fun{H K}=>hy.c (H:=H) (K:=K) fn129 rfl (by simp[hx.pl]) (.inl rfl)
 have hln:(ds 4294967296 (vl 4294967296 l)).length <= l.length:=(ds_len h32).2 (vl_lt h32 hm)
 generalize vl 4294967296 l=n at hw hln
 clear hx hy hm
 have hs:=hw.sl
 have hlm:=lm_ds h32 n
 have hv:=vl_ds h32 n
 have ht:=tp_ds h32 n
 by_cases h0:n=0
 ·rw[h0,ds_zero]at hs
  refine PurQ.ex (.body (vf:=v105) fn105 rfl ?_)
  simp(disch:=omega) only[go_sem,Nat.reduceAdd,Nat.reduceSub,v105,e1,hs.n,List.length_nil]
  subst h0
  refine⟨⟨.nil,by cases neg<;>rfl,⟨?_⟩⟩⟩
  have:(if neg=true then -((0:Nat):Int)else((0:Nat):Int)).natAbs=0:=by cases neg<;>rfl
  rw[this,ds_zero];exact .nil rfl
 ·have hp:=ds_pos h32 h0
  have hne:=ds_ne h32 h0
  generalize ds 4294967296 n=l at *
  refine PurQ.ex (.body (vf:=v105) fn105 rfl ?_)
  have c0 : ¬ ((l.length:Int)=0):=by omega
  have cc:2*(l.length:Int)=((2*l.length:Nat):Int):=by omega
  simp(disch:=omega) only[go_sem,Nat.reduceSub,v105,e1,hs.n,wr,c0,cc,rep16]
  refine⟨⟨⟨by omega,by omega⟩,⟨by omega,by omega⟩,by omega⟩,Run.up (UnI l neg y) l.length ⟨_,_,_,_,by simp,lm_rep (by omega),by rw[vl_rep];rfl,rfl⟩ ?_⟩
  rintro i s hi ⟨ws,a4,a10,a11,hwl,hwm,hwv,rfl⟩
  by_cases hlt:i<l.length
  ·have c1:(i:Int)<(l.length:Int):=by omega
   have hd:l[i]! < 4294967296:=lm_get hlm hlt
   have e2:bin .shr (.i .u32 (l[i]! : Int)) (.i .u64 16)=some (.i .u32 ((l[i]! / 65536:Nat):Int)):=bin_shrN (s:=16) (by decide)
   obtain⟨j,hj⟩ : ∃ j,j=2*i:=⟨_,rfl⟩
   have c2:2*(i:Int)=(j:Int):=by omega
   obtain⟨v1,hv1⟩ : ∃ v1,v1=l[i]! % 65536:=⟨_,rfl⟩
   obtain⟨v2,hv2⟩ : ∃ v2,v2=l[i]! / 65536:=⟨_,rfl⟩
   have w1:IntKind.u16.wrap (l[i]! : Int)=(v1:Int):=by rw[w16m,hv1]
   rw[<- hv2]at e2
   simp(disch:=omega) only[go_sem,v105l0,hs.q,c1,c2,u32,u16,wr,hwl,w1,w16,e2,set16]
   have hp0:65536 ^ j=4294967296 ^ i:=by rw[hj,Nat.pow_mul]
   have hw0:vl 65536 ws<65536 ^ j*1:=by
    rw[hwv,hp0,Nat.mul_one]
    have:=vl_lt h32 (lm_take hlm i)
    rwa [List.length_take,Nat.min_eq_left hi]at this
   have z1:=vl_dig h16 hw0 (by omega)
   have z2:=vl_dig h16 (k:=j+1) (c:=1) (Nat.lt_of_lt_of_le hw0 (Nat.mul_le_mul_right _ (Nat.pow_le_pow_right (by omega) (by omega)))) (by omega)
   repeat' first|(refine And.intro ?_ ?_)|intro _
   all_goals try omega
   refine⟨(ws.set j v1).set (j+1) v2,_,_,_,by simp[hwl],lm_set (lm_set hwm (by omega)) (by omega), ?_,rfl⟩
   have g1:=vl_set (B:=65536) (l:=ws) (i:=j) (v:=v1) (by omega)
   have g2:=vl_set (B:=65536) (l:=ws.set j v1) (i:=j+1) (v:=v2) (by rw[List.length_set];omega)
   have g3:(ws.set j v1)[j+1]! = ws[j+1]! := by
    rw[getElem!_pos _ _ (by rw[List.length_set];omega),getElem!_pos _ _ (by omega),List.getElem_set_ne (by omega)]
   rw[g3,show ws[j+1]! = 0 by omega]at g2
   rw[show ws[j]! = 0 by omega]at g1
   rw[vl_take_succ hlt, <- hwv, <- hp0,show l[i]! = v1+65536*v2 by omega]
   rw[Nat.pow_succ]at g2
   grind
  ·have hil:i=l.length:=by omega
   subst hil
   rw[List.take_of_length_le (Nat.le_refl _),hv]at hwv
   simp(disch:=omega) only[go_sem,Nat.reduceAdd,Nat.reduceLeDiff,v105l0,hwl,u16,Int.lt_irrefl,wr]
   have hz:(if neg=true then -(n:Int)else(n:Int)).natAbs=n:=by cases neg<;>simp
   have hs':decide ((if neg=true then -(n:Int)else(n:Int))<0)=neg:=by
    cases neg
    ·simp
    ·simp;omega
   have hm0:2*l.length-1<ws.length:=by omega
   have top : ∀ k,k<ws.length -> 65536 ^ k <= n -> vl 65536 (ws.drop (k+1))=0 -> ws[k]! ≠ 0:=fun k hk hn hz h0=>by
    have g1:=vl_split (B:=65536) ws k (by omega)
    rw[vl_drop hk,h0,hz]at g1
    simp only[Nat.mul_zero,Nat.add_zero,hwv]at g1
    have g2:=vl_lt h16 (lm_take hwm k)
    rw[List.length_take,Nat.min_eq_left (by omega)]at g2
    omega
   have hlast:vl 65536 (ws.drop (2*l.length-1+1))=0:=by rw[List.drop_of_length_le (by omega)];rfl
   refine⟨⟨by omega,by omega⟩,by omega,fun h0=>⟨⟨by omega,by omega⟩, ?_⟩,fun h0=>⟨⟨_,by rw[hs'],⟨?_⟩⟩⟩⟩
   ·rw [if_pos (by omega)]
    refine⟨_,rfl,⟨_,by rw[hs'],⟨?_⟩⟩⟩
    have hz1:vl 65536 (ws.drop (2*l.length-1))=0:=by rw[vl_drop hm0,hlast];omega
    have hb:65536 ^ (2*l.length-2) <= n:=by
     have g1:=vl_split (B:=4294967296) l (l.length-1) (by omega)
     rw[hv,vl_drop (by omega)]at g1
     have:=ht hne
     have g5:4294967296 ^ (l.length-1)*1 <= 4294967296 ^ (l.length-1)*(l[l.length-1]! + 4294967296*vl 4294967296 (l.drop (l.length-1+1))):=Nat.mul_le_mul_left _ (by omega)
     have g6:65536 ^ (2*l.length-2)=4294967296 ^ (l.length-1):=by
      rw[show(4294967296:Nat)=65536 ^ 2 from rfl, <- Nat.pow_mul];congr 1;omega
     omega
    have ht2:=top (2*l.length-2) (by omega) hb (by rw[show 2*l.length-2+1=2*l.length-1 by omega];exact hz1)
    have:=ds_drop h16 (k:=2*l.length-1) hwm (by omega) hz1 (by
     have:=dgt_tp (l:=ws) (k:=2*l.length-2) (by omega) ht2
     rwa [show 2*l.length-2+1=2*l.length-1 by omega]at this)
    rw[hz, <- hwv,this,List.map_take]
    exact .im
   ·have htk:(ws.map u16).take (2*l.length)=ws.map u16:=List.take_of_length_le (by rw[List.length_map];omega)
    have:=ds_vl h16 hwm (fun _=>by rw[hwl];omega)
    rw[hz, <- hwv,this,htk]
    exact .im
open Go.Dm
theorem app_at {H:Heap} {a n w bytes:Nat} {A:List (List D)} {zs r:List D} (hg:H[a]?=some (.ar w (A++List.replicate (n-A.length) zs) (some n) true false)) (hA:A.length<n) (hn:(A.length+1)*bytes <= 140737488355328) (hb:A.length<140737488355328) (hf:r.all D.flat=true) :
  appD H (.mu a n 0 A.length) (.sv w [r]) w bytes true=some (.mu a n 0 (A.length+1),H.set a (.ar w (A++[r]++List.replicate (n-(A++[r]).length) zs) (some n) true false)):=by
 have hfr : ∀ H,freezeRows H [r]=some ([r],H):=fun H=>flat_freezeRows H (fun q hq=>by rw[List.mem_singleton.1 hq];simpa using hf)
 have hl:(A++List.replicate (n-A.length) zs).length=n:=by simp;omega
 have ha:arr H a n=some (w,A++List.replicate (n-A.length) zs,some n,true,false):=by rw[arr_g,hg,arrB_s,if_pos hl]
 have hroom:room (0+A.length+1) bytes=true:=room_ok (by rw[Nat.zero_add];exact hn) (by omega)
 have ht:(A++List.replicate (n-A.length) zs).take (0+A.length)=A:=by rw[List.take_append_of_le_length (by simp),List.take_of_length_le (by simp)]
 have hd:(A++List.replicate (n-A.length) zs).drop (0+A.length+1)=List.replicate (n-(A++[r]).length) zs:=by
  rw[List.drop_append,List.drop_eq_nil_of_le (by simp),List.nil_append,List.drop_replicate]
  congr 1
  simp;omega
 have hl2:(A++[r]++List.replicate (n-(A++[r]).length) zs).length=n:=by simp;omega
 have c1:0+A.length <= n:=by omega
 have c2:0+A.length+1 <= n:=by omega
 simp only[appD,rowsOf,if_true,hfr,appTo,appMu,ha,List.length_singleton,hroom,and_true,c1,c2,appIn,ht,hd,hl2]
def arC (A:List Nat) (n:Nat):Blk := .ar 1 (A.map u32++List.replicate (n-(A.map u32).length) (u32 0)) (some n) true false
def cHp (A:List Nat) (n c:Nat):Heap:=[arC A n,.hb 126 [.mu 0 n 0 (A.map u32).length],.hb 212 [.hp 1 0],.hb 22 [.i .u64 (c:Int)]]
theorem coll_q {A:List Nat} {n s c:Nat} (hA:A.length<n) (hn:n<1099511627776) (hs:s+c<18446744073709551616):CallQ VS 160 [.i .u64 (s:Int),.hp 3 0,.hp 2 0] (cHp A n c) (fun r=>r = .ret (.tu []) (cHp (A++[(s+c)%4294967296]) n ((s+c)/4294967296))):=by
 obtain⟨v,hv⟩ : ∃ v,v=s+c:=⟨_,rfl⟩
 have ev:(s:Int)+(c:Int)=(v:Int):=by omega
 have e2:bin .shr (.i .u64 (v:Int)) (.i .u64 32)=some (.i .u64 ((v/4294967296:Nat):Int)):=bin_shrN (s:=32) (by decide)
 rw[<- hv]at hs ⊢
 have ea:appD [arC A n,.hb 126 [.mu 0 n 0 A.length],.hb 212 [.hp 1 0],.hb 22 [.i .u64 (c:Int)]] (.mu 0 n 0 A.length) (.sv 1 [[.i .u32 ((v%4294967296:Nat):Int)]]) 1 4 true=some (.mu 0 n 0 (A.length+1),[arC (A++[v%4294967296]) n,.hb 126 [.mu 0 n 0 A.length],.hb 212 [.hp 1 0],.hb 22 [.i .u64 (c:Int)]]):=by
  have:=app_at (H:=[arC A n,.hb 126 [.mu 0 n 0 A.length],.hb 212 [.hp 1 0],.hb 22 [.i .u64 (c:Int)]]) (a:=0) (n:=n) (w:=1) (bytes:=4) (A:=A.map u32) (zs:=u32 0) (r:=[.i .u32 ((v%4294967296:Nat):Int)]) rfl (by simpa using hA) (by simp;omega) (by simp;omega) rfl
  rw[List.length_map]at this
  rw[this]
  simp only[arC,List.map_append,List.length_append,List.length_map];rfl
 refine .body (vf:=v160) fn160 rfl rfl ?_
 simp(disch:=omega) only[go_sem,Nat.reduceAdd,Nat.reduceSub,Nat.reduceLT,v160,cHp,ev,w64,w32m,e2,ea]
theorem collect_q {b0 b1:Blk}:CallQ VS 135 [.hp 1 0] [b0,b1] (fun r=>r = .ret (.fn (.func 160) [] [.hp 3 0,.hp 2 0]) [b0,b1,.hb 212 [.hp 1 0],.hb 22 [.i .u64 0]]):=by
 refine .body (vf:=v135) fn135 rfl rfl ?_
 simp(disch:=omega) only[go_sem,Nat.reduceAdd,Nat.reduceSub,v135]
def v103r:VCode:=match v103.body with
 | .seq _ (.seq _ r)=>r
 | _ => .skip
structure PlusI (l m:List Nat) (x y:D) (i:Nat) (s:St):Prop where
 h : ∃ A c a3 a4 a5 a10 a11 a12,A.length=i /\ lm 4294967296 A /\ c <= 1 /\ vl 4294967296 A+4294967296 ^ i*c=vl 4294967296 (l.take i)+vl 4294967296 (m.take i) /\
  s=⟨[x,y,.nil,a3,a4,a5,.hp 1 0,.i .i64 i,.i .i64 l.length,x,a10,a11,a12,.fn (.func 160) [] [.hp 3 0,.hp 2 0]],cHp A (l.length+1) c⟩
theorem plus_r {a b:Nat} {x y a3:D} (hx:W32 a x) (hy:W32 b y) (hl:(ds 4294967296 b).length <= (ds 4294967296 a).length) (hn:(ds 4294967296 a).length<1000000000) {P:D -> Prop} (hP : ∀ d,W32 (a+b) d -> P d):Run VS v103r ⟨[x,y,.nil,a3,.u,.u,.u,.u,.u,.u,.u,.u,.u,.u],[]⟩ (ResQ [.s 2] (PurK false (fun r => ∃ d,r = .ret d /\ P d))):=by
 have h1:=hx.sl
 have h2:=hy.sl
 have m1:=lm_ds h32 a
 have m2:=lm_ds h32 b
 have q1:=vl_ds h32 a
 have q2:=vl_ds h32 b
 generalize ds 4294967296 a=l at *
 generalize ds 4294967296 b=m at *
 simp(disch:=omega) only[go_sem,Int.reduceLE,v103r,v103,h1.n,wr]
 refine⟨⟨⟨by omega,by omega⟩,by omega,by omega⟩,collect_q.mono ?_⟩
 rintro r rfl
 simp(disch:=omega) only[go_sem,h1.n]
 refine Run.up (PlusI l m x y) l.length ⟨[],0,_,_,_,_,_,_,rfl,lm_nil,by omega,rfl,rfl⟩ ?_
 rintro i s hi ⟨A,c,a3,a4,a5,a10,a11,a12,hA,hAm,hc,hv,rfl⟩
 have g3:(cHp A (l.length+1) c)=[arC A (l.length+1),.hb 126 [.mu 0 (l.length+1) 0 (A.map u32).length],.hb 212 [.hp 1 0],.hb 22 [.i .u64 (c:Int)]]:=rfl
 by_cases hlt:i<l.length
 ·have c1:(i:Int)<(l.length:Int):=by omega
  have hd:l[i]! < 4294967296:=lm_get m1 hlt
  by_cases hlm:i<m.length
  ·have c2:(i:Int)<(m.length:Int):=by omega
   have hd2:m[i]! < 4294967296:=lm_get m2 hlm
   obtain⟨v,hv0⟩ : ∃ v,v=l[i]! + m[i]! := ⟨_,rfl⟩
   have ev:(l[i]! : Int)+(m[i]! : Int)=(v:Int):=by omega
   simp(disch:=omega) only[go_sem,v103l0,h1.q,h2.n,h2.q,c1,c2,u32,w64,ev]
   refine⟨by omega,by omega,(CalQ_f (by decide)).2 ((coll_q (by omega) (by omega) (by omega)).mono ?_)⟩
   rintro r rfl
   simp(disch:=omega) only[go_sem,wr]
   refine⟨hlt,_,_,_,_,_,_,_,_,by simp[hA],lm_app.2 ⟨hAm,lm_cons.2 ⟨Nat.mod_lt _ (by omega),lm_nil⟩⟩,by omega, ?_,rfl⟩
   rw[vl_app,hA,vl_take_succ hlt,vl_take_succ hlm,Nat.pow_succ]
   simp only[vl,Nat.mul_zero,Nat.add_zero]
   have:=Nat.mod_add_div (v+c) 4294967296
   grind
  ·have c2 : ¬ (i:Int)<(m.length:Int):=by omega
   simp(disch:=omega) only[go_sem,v103l0,h1.q,h2.n,c1,c2,u32,w64]
   refine⟨by omega,(CalQ_f (by decide)).2 ((coll_q (by omega) (by omega) (by omega)).mono ?_)⟩
   rintro r rfl
   simp(disch:=omega) only[go_sem,wr]
   refine⟨hlt,_,_,_,_,_,_,_,_,by simp[hA],lm_app.2 ⟨hAm,lm_cons.2 ⟨Nat.mod_lt _ (by omega),lm_nil⟩⟩,by omega, ?_,rfl⟩
   rw[vl_app,hA,vl_take_succ hlt,Nat.pow_succ]
   rw[List.take_of_length_le (l:=m) (by omega)]at hv ⊢
   simp only[vl,Nat.mul_zero,Nat.add_zero]
   have:=Nat.mod_add_div (l[i]! + c) 4294967296
   grind
 ·have hil:i=l.length:=by omega
  subst hil
  rw[List.take_of_length_le (Nat.le_refl _),List.take_of_length_le hl,q1,q2]at hv
  simp(disch:=omega) only[go_sem,v103l0,Int.lt_irrefl]
  refine(CalQ_f (by decide)).2 ((coll_q (s:=0) (by omega) (by omega) (by omega)).mono ?_)
  rintro r rfl
  obtain⟨A',hA'⟩ : ∃ A',A'=A++[(0+c)%4294967296]:=⟨_,rfl⟩
  have hl':A'.length=l.length+1:=by rw[hA'];simp[hA]
  have hm':lm 4294967296 A':=by rw[hA'];exact lm_app.2 ⟨hAm,lm_cons.2 ⟨Nat.mod_lt _ (by omega),lm_nil⟩⟩
  have hv':vl 4294967296 A'=a+b:=by
   rw[hA',vl_app,hA, <- hv,Nat.zero_add,Nat.mod_eq_of_lt (by omega)];simp[vl]
  rw[<- hA']
  have hz:arC A' (l.length+1) = .ar 1 (A'.map u32) (some (l.length+1)) true false:=by simp[arC,hl']
  have htk:(A'.map u32).take (l.length+1)=A'.map u32:=List.take_of_length_le (by rw[List.length_map];omega)
  obtain⟨d,hd1,hd2⟩:=trim_q (l:=A') (x := .im 1 (A'.map u32)) .im hm' (by omega)
  rw[hv']at hd2
  simp(disch:=omega) only[go_sem,cHp,hz]
  refine CallQ.fzr (vf:=v129) fn129 rfl rfl hd1 ⟨_,by simp only[go_sem,Nat.reduceAdd,hl',htk];rfl⟩ (fun H' => ?_)
  simp(disch:=omega) only[go_sem]
  exact⟨d,frzR_flat hd2.sl.flat,hP d hd2⟩
theorem plus_q {a b:Nat} {x y:D} (hx:W32 a x) (hy:W32 b y) (ha:(ds 4294967296 a).length<1000000000) (hb:(ds 4294967296 b).length<1000000000) : ∃ d,PRet VS 103 [x,y] d /\ W32 (a+b) d:=by
 have h1:=hx.sl
 have h2:=hy.sl
 refine PurQ.ex (.body (vf:=v103) fn103 rfl ?_)
 by_cases hlt:(ds 4294967296 a).length<(ds 4294967296 b).length
 ·have c1:((ds 4294967296 a).length:Int)<((ds 4294967296 b).length:Int):=by omega
  have:=plus_r (a3 := .b true) hy hx (by omega) hb (P:=W32 (a+b)) (fun d h=>by rwa [Nat.add_comm]at h)
  simp(disch:=omega) only[go_sem,Int.reduceLE,v103r,v103,h2.n]at this
  simp(disch:=omega) only[go_sem,Nat.reduceSub,Int.reduceLE,v103,h1.n,h2.n,c1]
  exact this
 ·have c1 : ¬ ((ds 4294967296 a).length:Int)<((ds 4294967296 b).length:Int):=by omega
  have:=plus_r (a3 := .b false) hx hy (by omega) ha (P:=W32 (a+b)) (fun d h=>h)
  simp(disch:=omega) only[go_sem,Int.reduceLE,v103r,v103,h1.n]at this
  simp(disch:=omega) only[go_sem,Nat.reduceSub,Int.reduceLE,v103,h1.n,h2.n,c1]
  exact this
end Go.Proofs.YtgefdialaemelaaGreatDoor.Dv
