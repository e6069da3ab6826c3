/-
  Whole numbers: minus,times,a short division;Knuth's digit.
-/
import Derived.Test.YtgefdialaemelaaGreatDoorB
namespace Go.Proofs.YtgefdialaemelaaGreatDoor.Dv
open Go.Dm
theorem and32 {u v:BitVec 32}:bin .and (.i .u32 (u.toNat:Int)) (.i .u32 (v.toNat:Int))=some (.i .u32 ((u &&& v).toNat:Int)):=by
 have e:bin .and (.i .u32 (u.toNat:Int)) (.i .u32 (v.toNat:Int))=some (.i .u32 (IntKind.wrap .u32 (((BitVec.ofInt 32 (u.toNat:Int) &&& BitVec.ofInt 32 (v.toNat:Int)).toNat:Nat):Int))):=rfl
 rw[e,w32 (BitVec.isLt _),BitVec.ofInt_natCast,BitVec.ofInt_natCast,BitVec.ofNat_toNat,BitVec.ofNat_toNat,BitVec.setWidth_eq,BitVec.setWidth_eq]
theorem orv32 {u v:BitVec 32}:bin .or (.i .u32 (u.toNat:Int)) (.i .u32 (v.toNat:Int))=some (.i .u32 ((u ||| v).toNat:Int)):=by
 have e:bin .or (.i .u32 (u.toNat:Int)) (.i .u32 (v.toNat:Int))=some (.i .u32 (IntKind.wrap .u32 (((BitVec.ofInt 32 (u.toNat:Int) ||| BitVec.ofInt 32 (v.toNat:Int)).toNat:Nat):Int))):=rfl
 rw[e,w32 (BitVec.isLt _),BitVec.ofInt_natCast,BitVec.ofInt_natCast,BitVec.ofNat_toNat,BitVec.ofNat_toNat,BitVec.setWidth_eq,BitVec.setWidth_eq]
theorem xor32 {u v:BitVec 32}:bin .xor (.i .u32 (u.toNat:Int)) (.i .u32 (v.toNat:Int))=some (.i .u32 ((u ^^^ v).toNat:Int)):=by
 have e:bin .xor (.i .u32 (u.toNat:Int)) (.i .u32 (v.toNat:Int))=some (.i .u32 (IntKind.wrap .u32 (((BitVec.ofInt 32 (u.toNat:Int) ^^^ BitVec.ofInt 32 (v.toNat:Int)).toNat:Nat):Int))):=rfl
 rw[e,w32 (BitVec.isLt _),BitVec.ofInt_natCast,BitVec.ofInt_natCast,BitVec.ofNat_toNat,BitVec.ofNat_toNat,BitVec.setWidth_eq,BitVec.setWidth_eq]
theorem not32 {u:BitVec 32}:un .xor (.i .u32 (u.toNat:Int))=some (.i .u32 ((~~~u).toNat:Int)):=by
 have e:un .xor (.i .u32 (u.toNat:Int))=some (.i .u32 (IntKind.wrap .u32 (((BitVec.ofInt 32 4294967295 ^^^ BitVec.ofInt 32 (u.toNat:Int)).toNat:Nat):Int))):=rfl
 have e2:BitVec.ofInt 32 4294967295=BitVec.allOnes 32:=by decide
 rw[e,w32 (BitVec.isLt _),BitVec.ofInt_natCast,BitVec.ofNat_toNat,BitVec.setWidth_eq,e2,BitVec.xor_comm,BitVec.xor_allOnes]
theorem top32 {w:BitVec 32}:w.toNat/2147483648=(w.getLsbD 31).toNat:=by
 have h:=w.isLt
 rw[BitVec.getLsbD,Nat.testBit,Nat.shiftRight_eq_div_pow]
 have:w.toNat/2 ^ 31=0 \/ w.toNat/2 ^ 31=1:=by omega
 rcases this with e|e<;>rw[e]<;>rfl
theorem bit31 {x:Nat} (h:x<4294967296):(BitVec.ofNat 32 x).getLsbD 31=decide (2147483648 <= x):=by
 have h1:=top32 (w:=BitVec.ofNat 32 x)
 rw[BitVec.toNat_ofNat,Nat.mod_eq_of_lt h]at h1
 cases hb:(BitVec.ofNat 32 x).getLsbD 31<;>rw[hb]at h1<;>simp at h1<;>simp<;>omega
theorem borrow32 {x y b d:Nat} (hx:x<4294967296) (hy:y<4294967296) (hb:b <= 1) (hd:d=(x+8589934592-y-b)%4294967296) :
  ((~~~(BitVec.ofNat 32 x) &&& BitVec.ofNat 32 y) ||| (~~~(BitVec.ofNat 32 x ^^^ BitVec.ofNat 32 y) &&& BitVec.ofNat 32 d)).toNat/2147483648=if x<y+b then 1 else 0:=by
 rw[top32]
 simp only[BitVec.getLsbD_or,BitVec.getLsbD_and,BitVec.getLsbD_not,BitVec.getLsbD_xor,bit31 hx,bit31 hy,bit31 (show d<4294967296 by omega)]
 by_cases h1:2147483648 <= x<;>by_cases h2:2147483648 <= y<;>by_cases h3:2147483648 <= d<;>by_cases h4:x<y+b<;>simp[h1,h2,h3,h4]<;>omega
theorem sub32_q {x y b:Nat} (hx:x<4294967296) (hy:y<4294967296) (hb:b <= 1):PRet VS 136 [.i .u32 (x:Int),.i .u32 (y:Int),.i .u32 (b:Int)] (.tu [.i .u32 (((x+8589934592-y-b)%4294967296:Nat):Int),.i .u32 ((if x<y+b then 1 else 0:Nat):Int)]):=by
 obtain⟨d,hd⟩ : ∃ d,d=(x+8589934592-y-b)%4294967296:=⟨_,rfl⟩
 rw[<- borrow32 hx hy hb hd, <- hd]
 have e1:IntKind.u32.wrap (IntKind.u32.wrap ((x:Int)-(y:Int))-(b:Int))=(d:Int):=by rw[w32i,w32i];omega
 have vx:(x:Int)=((BitVec.ofNat 32 x).toNat:Int):=by rw[BitVec.toNat_ofNat,Nat.mod_eq_of_lt hx]
 have vy:(y:Int)=((BitVec.ofNat 32 y).toNat:Int):=by rw[BitVec.toNat_ofNat,Nat.mod_eq_of_lt hy]
 have vd:(d:Int)=((BitVec.ofNat 32 d).toNat:Int):=by rw[BitVec.toNat_ofNat,Nat.mod_eq_of_lt (by omega)]
 refine .body (vf:=v136) fn136 rfl ?_
 rw[vx,vy]at e1 ⊢
 rw[vd]at e1 ⊢
 generalize BitVec.ofNat 32 x=X at *
 generalize BitVec.ofNat 32 y=Y at *
 generalize BitVec.ofNat 32 d=Z at *
 have e2 : ∀ w:BitVec 32,bin .shr (.i .u32 (w.toNat:Int)) (.i .u64 31)=some (.i .u32 ((w.toNat/2147483648:Nat):Int)):=fun w=>bin_shrN (s:=31) (by decide)
 simp(disch:=omega) only[v136,go_sem,Nat.reduceAdd,Nat.reduceSub,e1,e2,and32,orv32,xor32,not32]
theorem sub32_c {x y b:Nat} (hx:x<4294967296) (hy:y<4294967296) (hb:b <= 1) {H:Heap} {K:CR -> Prop}:CallQ VS 136 [.i .u32 (x:Int),.i .u32 (y:Int),.i .u32 (b:Int)] H K↔K (.ret (.tu [.i .u32 (((x+8589934592-y-b)%4294967296:Nat):Int),.i .u32 ((if x<y+b then 1 else 0:Nat):Int)]) H) :=
 (sub32_q hx hy hb).c (vf:=v136) fn136 rfl rfl (.inl rfl)
theorem clone_q {l:List Nat} (hl:l≠[]) (hn:l.length<1000000000) {H:Heap} {K:CR -> Prop}:CallQ VS 130 [.im 1 (l.map u32)] H K↔K (.ret (.mu H.length l.length 0 l.length) (H++[.ar 1 (l.map u32) none true false])):=by
 have ea:=app_all (enc:=u32) (w:=1) (bytes:=4) (l:=l) (y := .im 1 (l.map u32)) (x0 := .z) rfl .im (fun _=>rfl) (by omega) (by omega) (H:=[])
 obtain ⟨b1,b2⟩:bD [] .z (l.map u32) = .mu 0 l.length 0 l.length /\ bH [] 1 (l.map u32)=[.ar 1 (l.map u32) none true false]:=by
  cases l with
  | nil=>exact absurd rfl hl
  | cons a l=>exact⟨by simp[bD],rfl⟩
 rw[b1,b2]at ea
 have htk:(l.map u32).take l.length=l.map u32:=List.take_of_length_le (by rw[List.length_map];omega)
 have h:PRet VS 130 [.im 1 (l.map u32)] (.ow 1 (l.map u32)):=by
  refine .body (vf:=v130) fn130 rfl ?_
  have e1:eqvD false .sl (.im 1 (l.map u32)) .nil=some (.b false):=rfl
  simp(disch:=omega) only[go_sem,Nat.reduceSub,v130,e1,ea,settleC,htk]
 rw[CallQ_p fn130 rfl h (plain_freezeL (by simp[D.plain,D.flat]))]
 have:placeO v130.own (.ow 1 (l.map u32)) H=(.mu H.length l.length 0 l.length,H++[.ar 1 (l.map u32) none true false]):=by
  show(D.mu H.length (l.map u32).length 0 (l.map u32).length,_)=_
  rw[List.length_map]
 rw[this]
theorem clone_e {x:D} (h:Sl 1 [] x) : ∃ w0,Sl 1 [] w0 /\ ∀ (H:Heap) (K:CR -> Prop),CallQ VS 130 [x] H K↔K (.ret w0 H):=by
 cases h with
 | nil =>
  refine⟨.nil,.nil rfl,fun H K=>PRet.c (vf:=v130) ?_ fn130 rfl rfl (.inr rfl)⟩
  refine .body (vf:=v130) fn130 rfl ?_
  have e1:eqvD false .sl .nil .nil=some (.b true):=rfl
  simp(disch:=omega) only[go_sem,Nat.reduceSub,v130,e1]
 | z =>
  refine⟨.z,.z rfl,fun H K=>PRet.c (vf:=v130) ?_ fn130 rfl rfl (.inr rfl)⟩
  refine .body (vf:=v130) fn130 rfl ?_
  have e1:eqvD false .sl .z .nil=some (.b false):=rfl
  have e2:appD [] .z .z 1 4 true=some (.z,[]):=rfl
  simp(disch:=omega) only[go_sem,Nat.reduceSub,v130,e1,e2]
 | im =>
  refine⟨.z,.z rfl,fun H K=>PRet.c (vf:=v130) ?_ fn130 rfl rfl (.inr rfl)⟩
  refine .body (vf:=v130) fn130 rfl ?_
  have e1:eqvD false .sl (.im 1 []) .nil=some (.b false):=rfl
  have e2:appD [] .z (.im 1 []) 1 4 true=some (.z,[]):=rfl
  simp(disch:=omega) only[go_sem,Nat.reduceSub,v130,e1,e2]
structure MinI (l m:List Nat) (x y:D) (i:Nat) (s:St):Prop where
 h : ∃ ws b a3 a4 a9 a10,ws.length=l.length /\ lm 4294967296 ws /\ b <= 1 /\ (∀ j,i <= j -> j<l.length -> ws[j]! = l[j]!) /\ vl 4294967296 (ws.take i)+vl 4294967296 (m.take i)=vl 4294967296 (l.take i)+4294967296 ^ i*b /\
  s=⟨[x,y,.nil,a3,a4,.i .u32 (b:Int),.mu 0 l.length 0 l.length,.i .i64 i,.i .i64 l.length,a9,a10],[.ar 1 (ws.map u32) none true false]⟩
theorem minus_q {a b':Nat} {x y:D} (hx:W32 a x) (hy:W32 b' y) (hab:b' <= a) (hn:(ds 4294967296 a).length<1000000000) : ∃ d,PRet VS 104 [x,y] d /\ W32 (a-b') d:=by
 have h1:=hx.sl
 have h2:=hy.sl
 refine PurQ.ex (.body (vf:=v104) fn104 rfl ?_)
 by_cases h0:a=0
 ·have hb0:b'=0:=by omega
  rw[h0,ds_zero]at h1
  obtain⟨w0,hz,hc⟩:=clone_e h1
  have hz':Sl 1 (([]:List Nat).map u32) w0:=hz
  obtain⟨d,hd1,hd2⟩:=trim_q hz' lm_nil (by simp)
  have e1:=fun{H K}=>hd1.c (H:=H) (K:=K) fn129 rfl (by simp[hz.pl]) (.inl rfl)
  simp(disch:=omega) only[go_sem,Nat.reduceSub,v104,hc,hz'.n,List.length_nil]
  rw[Run_loop]
  simp(disch:=omega) only[go_sem,v104l0,e1,Int.lt_irrefl]
  exact⟨d,frzR_flat hd2.sl.flat,by rw[h0,Nat.zero_sub];exact hd2⟩
 ·have hml:(ds 4294967296 b').length <= (ds 4294967296 a).length:=ds_mono h32 hab
  have hne:=ds_ne h32 h0
  have m1:=lm_ds h32 a
  have m2:=lm_ds h32 b'
  have q1:=vl_ds h32 a
  have q2:=vl_ds h32 b'
  generalize ds 4294967296 a=l at *
  generalize ds 4294967296 b'=m at *
  have hxe:x = .im 1 (l.map u32):=by
   cases h1 with
   | nil h=>simp at h;exact absurd h hne
   | z h=>simp at h;exact absurd h hne
   | im=>rfl
  subst hxe
  have e0:((0:Nat):Int)=0:=rfl
  simp(disch:=omega) only[go_sem,Nat.reduceSub,v104,clone_q hne hn,len_mu]
  refine Run.up (MinI l m (.im 1 (l.map u32)) y) l.length ⟨l,0,_,_,_,_,rfl,m1,by omega,fun _ _ _=>rfl,rfl,rfl⟩ ?_
  rintro i s hi ⟨ws,b,a3,a4,a9,a10,hwl,hwm,hb,hw,hv,rfl⟩
  by_cases hlt:i<l.length
  ·have c1:(i:Int)<(l.length:Int):=by omega
   have hd:ws[i]! < 4294967296:=lm_get hwm (by omega)
   have hwi:=hw i (Nat.le_refl _) hlt
   by_cases hlm:i<m.length
   ·have c2:(i:Int)<(m.length:Int):=by omega
    have hd2:m[i]! < 4294967296:=lm_get m2 hlm
    have es:=fun{H K}=>sub32_c (H:=H) (K:=K) hd hd2 hb
    obtain⟨v,hv0⟩ : ∃ v,v=(ws[i]! + 8589934592-m[i]! - b)%4294967296:=⟨_,rfl⟩
    rw[<- hv0]at es
    simp(disch:=omega) only[go_sem,v104l0,h2.n,h2.q,c1,c2,u32,wr,hwl,es,set32]
    refine⟨by omega,by omega,hlt,by omega,hlt,hlt,ws.set i v,_,_,_,_,_,by simp[hwl],lm_set hwm (by omega),by split<;>omega,fun j h3 h4 => ?_, ?_,rfl⟩
    ·rw[getElem!_pos _ _ (by rw[List.length_set];omega),List.getElem_set_ne (by omega), <- getElem!_pos ws j (by omega)]
     exact hw j (by omega) h4
    ·rw [vl_take_succ (l:=ws.set i v) (by rw[List.length_set];omega),List.take_set_of_le (Nat.le_refl _),vl_take_succ hlm,vl_take_succ hlt,getElem!_pos _ _ (by rw[List.length_set];omega),List.getElem_set_self, <- hwi,Nat.pow_succ]
     by_cases hq:ws[i]! < m[i]! + b
     ·rw[if_pos hq]
      have:v+m[i]! + b=ws[i]! + 4294967296:=by omega
      grind
     ·rw[if_neg hq]
      have:v+m[i]! + b=ws[i]! := by omega
      grind
   ·have c2 : ¬ (i:Int)<(m.length:Int):=by omega
    have es:=fun{H K}=>sub32_c (H:=H) (K:=K) hd (show 0<4294967296 by omega) hb
    obtain⟨v,hv0⟩ : ∃ v,v=(ws[i]! + 8589934592-0-b)%4294967296:=⟨_,rfl⟩
    rw[<- hv0,Nat.zero_add]at es
    simp only[Int.natCast_zero]at es
    simp(disch:=omega) only[go_sem,v104l0,h2.n,c1,c2,u32,wr,hwl,es,set32]
    refine⟨by omega,hlt,by omega,hlt,hlt,ws.set i v,_,_,_,_,_,by simp[hwl],lm_set hwm (by omega),by split<;>omega,fun j h3 h4 => ?_, ?_,rfl⟩
    ·rw[getElem!_pos _ _ (by rw[List.length_set];omega),List.getElem_set_ne (by omega), <- getElem!_pos ws j (by omega)]
     exact hw j (by omega) h4
    ·rw [List.take_of_length_le (l:=m) (by omega)]at hv ⊢
     rw[vl_take_succ (l:=ws.set i v) (by rw[List.length_set];omega),List.take_set_of_le (Nat.le_refl _),vl_take_succ hlt,getElem!_pos _ _ (by rw[List.length_set];omega),List.getElem_set_self, <- hwi,Nat.pow_succ]
     by_cases hq:ws[i]! < b
     ·rw[if_pos hq]
      have:v+b=ws[i]! + 4294967296:=by omega
      grind
     ·rw[if_neg hq]
      have:v+b=ws[i]! := by omega
      grind
  ·have hil:i=l.length:=by omega
   subst hil
   rw[List.take_of_length_le (by omega),List.take_of_length_le hml,List.take_of_length_le (Nat.le_refl _),q1,q2]at hv
   have hws:vl 4294967296 ws=a-b':=by
    have hlt:=vl_lt h32 hwm
    rw[hwl]at hlt
    rcases Nat.lt_or_ge b 1 with hb0|hb0
    ·rw[show b=0 by omega,Nat.mul_zero]at hv;omega
    ·rw[show b=1 by omega,Nat.mul_one]at hv
     omega
   obtain⟨d,hd1,hd2⟩:=trim_q (l:=ws) (x := .im 1 (ws.map u32)) .im hwm (by omega)
   rw[hws]at hd2
   have htk:(ws.map u32).take l.length=ws.map u32:=List.take_of_length_le (by rw[List.length_map];omega)
   simp(disch:=omega) only[go_sem,v104l0,Int.lt_irrefl]
   refine CallQ.fzr (vf:=v129) fn129 rfl rfl hd1 ⟨_,by simp only[go_sem,Nat.reduceAdd,hwl,htk];rfl⟩ (fun H' => ?_)
   simp(disch:=omega) only[go_sem]
   exact⟨d,frzR_flat hd2.sl.flat,hd2⟩
open Go.Dm
structure TimI (l m:List Nat) (x y:D) (i:Nat) (s:St):Prop where
 h : ∃ ws a3 a4 a8 a9 a10 a11 a12 a13 a15 a16 a17,ws.length=l.length+m.length /\ lm 4294967296 ws /\ vl 4294967296 ws=vl 4294967296 (l.take i)*vl 4294967296 m /\
  s=⟨[x,y,.nil,a3,a4,.i .i64 i,.i .i64 l.length,x,a8,a9,a10,a11,a12,a13,.mu 0 (l.length+m.length) 0 (l.length+m.length),a15,a16,a17],[.ar 1 (ws.map u32) (some (l.length+m.length)) true false]⟩
structure TinI (l m:List Nat) (x y:D) (i j:Nat) (s:St):Prop where
 h : ∃ ws c a4 a13 a16 a17,ws.length=l.length+m.length /\ lm 4294967296 ws /\ c<4294967296 /\ ws[i+m.length]! = 0 /\ vl 4294967296 ws+4294967296 ^ (i+j)*c=vl 4294967296 (l.take i)*vl 4294967296 m+4294967296 ^ i*l[i]! * vl 4294967296 (m.take j) /\
  s=⟨[x,y,.nil,.b true,a4,.i .i64 i,.i .i64 l.length,x,.i .u64 c,.i .i64 j,.i .i64 m.length,y,.i .u32 l[i]!,a13,.mu 0 (l.length+m.length) 0 (l.length+m.length),.i .i64 i,a16,a17],[.ar 1 (ws.map u32) (some (l.length+m.length)) true false]⟩
theorem times_q {a b:Nat} {x y:D} (hx:W32 a x) (hy:W32 b y) (ha:(ds 4294967296 a).length<1000000000) (hb:(ds 4294967296 b).length<1000000000) : ∃ d,PRet VS 101 [x,y] d /\ W32 (a*b) d:=by
 have h1:=hx.sl
 have h2:=hy.sl
 refine PurQ.ex (.body (vf:=v101) fn101 rfl ?_)
 have m1:=lm_ds h32 a
 have m2:=lm_ds h32 b
 have q1:=vl_ds h32 a
 have q2:=vl_ds h32 b
 generalize ds 4294967296 a=l at *
 generalize ds 4294967296 b=m at *
 have tn:((l.length:Int)+(m.length:Int)).toNat=l.length+m.length:=by omega
 simp(disch:=omega) only[go_sem,Nat.reduceSub,v101,h1.n,h2.n,wr,rep32,tn]
 refine⟨⟨⟨by omega,by omega⟩,⟨by omega,by omega⟩,by omega⟩,Run.up (TimI l m x y) l.length ⟨_,_,_,_,_,_,_,_,_,_,_,_,by simp,lm_rep (by omega),by rw[vl_rep];simp[vl],rfl⟩ ?_⟩
 rintro i s hi ⟨ws,a3,a4,a8,a9,a10,a11,a12,a13,a15,a16,a17,hwl,hwm,hv,rfl⟩
 by_cases hlt:i<l.length
 ·have c1:(i:Int)<(l.length:Int):=by omega
  have hd:l[i]! < 4294967296:=lm_get m1 hlt
  have hz:ws[i+m.length]! = 0:=by
   have g1:=vl_lt h32 (lm_take m1 i)
   rw[List.length_take,Nat.min_eq_left hi]at g1
   have g2:=vl_lt h32 m2
   have:vl 4294967296 ws<4294967296 ^ (i+m.length)*1:=by
    rw[hv,Nat.pow_add,Nat.mul_one]
    exact Nat.mul_lt_mul'' g1 g2
   have:=vl_dig h32 this (by omega)
   omega
  simp(disch:=omega) only[go_sem,v101l1,h1.q,h2.n,c1,u32]
  refine⟨by omega,Run.up (TinI l m x y i) m.length ⟨ws,0,_,_,_,_,hwl,hwm,by omega,hz,by rw[hv];simp[vl],rfl⟩ ?_⟩
  rintro j s hj ⟨ws,c,a4,a13,a16,a17,hwl,hwm,hc,hz,hv,rfl⟩
  by_cases hjt:j<m.length
  ·have c2:(j:Int)<(m.length:Int):=by omega
   have hd2:m[j]! < 4294967296:=lm_get m2 hjt
   have hk:i+j<ws.length:=by omega
   have hd3:ws[i+j]! < 4294967296:=lm_get hwm hk
   have hxy:l[i]! * m[j]! <= 4294967295*4294967295:=Nat.mul_le_mul (by omega) (by omega)
   obtain⟨p,hp⟩ : ∃ p,p=l[i]! * m[j]! := ⟨_,rfl⟩
   rw[<- hp]at hxy
   obtain⟨s,hs⟩ : ∃ s,s=p+ws[i+j]! + c:=⟨_,rfl⟩
   have e1:(l[i]! : Int)*(m[j]! : Int)=(p:Int):=by rw[hp];simp
   have e2:IntKind.u64.wrap (p:Int)=(p:Int):=w64 (by omega)
   have e3:IntKind.u64.wrap ((p:Int)+(ws[i+j]! : Int))=(p:Int)+(ws[i+j]! : Int):=by rw[w64i];omega
   have e4:IntKind.u64.wrap ((p:Int)+(ws[i+j]! : Int)+(c:Int))=(s:Int):=by rw[w64i];omega
   have e5:bin .shr (.i .u64 (s:Int)) (.i .u64 32)=some (.i .u64 ((s/4294967296:Nat):Int)):=bin_shrN (s:=32) (by decide)
   simp(disch:=omega) only[go_sem,v101l0,h2.q,c2,u32,w64,wr,hwl,e1,e2,e3,e4,e5,w32m,set32]
   refine⟨by omega,⟨by omega,by omega⟩,by omega,⟨by omega,by omega⟩,by omega,hjt,ws.set (i+j) (s%4294967296),s/4294967296,_,_,_,_,by simp[hwl],lm_set hwm (Nat.mod_lt _ (by omega)),by omega, ?_, ?_,rfl⟩
   ·rw[getElem!_pos _ _ (by rw[List.length_set];omega),List.getElem_set_ne (by omega), <- getElem!_pos ws _ (by omega)]
    exact hz
   ·have g1:=vl_set (B:=4294967296) (v:=s%4294967296) hk
    rw[vl_take_succ hjt, <- Nat.add_assoc,Nat.pow_succ]
    have g2:=Nat.mod_add_div s 4294967296
    have g3:4294967296 ^ (i+j)=4294967296 ^ i*4294967296 ^ j:=Nat.pow_add ..
    grind
  ·have hjl:j=m.length:=by omega
   subst hjl
   simp(disch:=omega) only[go_sem,Nat.reduceEqDiff,reduceCtorEq,v101l0,Int.lt_irrefl,h2.n,u32,wr,hwl,w32,set32]
   refine⟨⟨by omega,by omega⟩,by omega,hlt,ws.set (i+m.length) c,_,_,_,_,_,_,_,_,_,_,_,by simp[hwl],lm_set hwm hc, ?_,rfl⟩
   have g1:=vl_set (B:=4294967296) (v:=c) (l:=ws) (i:=i+m.length) (by omega)
   rw[List.take_of_length_le (Nat.le_refl _)]at hv
   rw[vl_take_succ hlt]
   rw[hz]at g1
   grind
 ·have hil:i=l.length:=by omega
  subst hil
  rw[List.take_of_length_le (Nat.le_refl _),q1,q2]at hv
  obtain⟨d,hd1,hd2⟩:=trim_q (l:=ws) (x := .im 1 (ws.map u32)) .im hwm (by omega)
  rw[hv]at hd2
  have htk:(ws.map u32).take (l.length+m.length)=ws.map u32:=List.take_of_length_le (by rw[List.length_map];omega)
  simp(disch:=omega) only[go_sem,v101l1,Int.lt_irrefl]
  refine CallQ.fzr (vf:=v129) fn129 rfl rfl hd1 ⟨_,by simp only[go_sem,Nat.reduceAdd,hwl,htk];rfl⟩ (fun H' => ?_)
  simp(disch:=omega) only[go_sem]
  exact⟨d,frzR_flat hd2.sl.flat,hd2⟩
theorem div32_q {h l y:Nat} (hy:h<y) (hb:y<4294967296) (hl:l<4294967296):PRet VS 157 [.i .u32 (h:Int),.i .u32 (l:Int),.i .u32 (y:Int)] (.tu [.i .u32 (((l+4294967296*h)/y:Nat):Int),.i .u32 (((l+4294967296*h)%y:Nat):Int)]):=by
 obtain⟨n,hn⟩ : ∃ n,n=l+4294967296*h:=⟨_,rfl⟩
 have hq:n/y<4294967296:=by
  rw[Nat.div_lt_iff_lt_mul (by omega)]
  have:4294967296*(h+1) <= 4294967296*y:=Nat.mul_le_mul_left _ hy
  omega
 have hr:n%y<4294967296:=Nat.lt_trans (Nat.mod_lt _ (by omega)) hb
 have c1 : ¬ ((y:Int)=0):=by omega
 have c2 : ¬ ((y:Int) <= (h:Int)):=by omega
 have e1:bin .shl (.i .u64 (h:Int)) (.i .u64 32)=some (.i .u64 ((h*4294967296:Nat):Int)):=by
  rw[show bin .shl (.i .u64 (h:Int)) (.i .u64 32)=some (.i .u64 (IntKind.u64.wrap ((h*2 ^ 32:Nat):Int)))from bin_shlN (s:=32) (by decide),w64 (by omega)]
 obtain⟨g,hg⟩ : ∃ g,g=h*4294967296:=⟨_,rfl⟩
 have e2:bin .or (.i .u64 (g:Int)) (.i .u64 (l:Int))=some (.i .u64 (n:Int)):=by
  rw[bin_or64 (by omega) (by omega),hg,show h*4294967296=h*2 ^ 32 from rfl,shl_or (by omega)]
  rw[hn];congr 2;omega
 rw[<- hn]
 rw[<- hg]at e1
 refine .body (vf:=v157) fn157 rfl ?_
 simp(disch:=omega) only[go_sem,Nat.reduceAdd,Nat.reduceSub,v157,w64,c1,c2,e1,e2,tdivN,tmodN,w32]
theorem div32_c {h l y:Nat} (hy:h<y) (hb:y<4294967296) (hl:l<4294967296) {H:Heap} {K:CR -> Prop}:CallQ VS 157 [.i .u32 (h:Int),.i .u32 (l:Int),.i .u32 (y:Int)] H K↔K (.ret (.tu [.i .u32 (((l+4294967296*h)/y:Nat):Int),.i .u32 (((l+4294967296*h)%y:Nat):Int)]) H) :=
 (div32_q hy hb hl).c (vf:=v157) fn157 rfl rfl (.inl rfl)
structure DshI (l:List Nat) (v:Nat) (x:D) (k:Nat) (s:St):Prop where
 h : ∃ ws r a4,k <= l.length /\ ws.length=l.length /\ lm 4294967296 ws /\ r<v /\ vl 4294967296 (l.drop k)=v*vl 4294967296 (ws.drop k)+r /\
  s=⟨[x,.i .u32 v,.nil,.i .u32 0,a4,.i .u32 r,.i .i64 ((k:Int)-1),.mu 0 l.length 0 l.length],[.ar 1 (ws.map u32) (some l.length) true false]⟩
theorem dshort_q {a v:Nat} {x:D} (hx:W32 a x) (hv0:0<v) (hv1:v<4294967296) (hn:(ds 4294967296 a).length<1000000000) : ∃ d,PRet VS 131 [x,.i .u32 (v:Int)] (.tu [d,.i .u32 ((a%v:Nat):Int)]) /\ W32 (a/v) d:=by
 have h1:=hx.sl
 have m1:=lm_ds h32 a
 have q1:=vl_ds h32 a
 generalize ds 4294967296 a=l at *
 obtain ⟨D0,h,d,hD,hd⟩ : ∃ D0,PRet VS 131 [x,.i .u32 (v:Int)] D0 /\ ∃ d,D0 = .tu [d,.i .u32 ((a%v:Nat):Int)] /\ W32 (a/v) d:=by
  refine PurQ.ex (.body (vf:=v131) fn131 rfl ?_)
  simp(disch:=omega) only[go_sem,Nat.reduceSub,v131,h1.n,wr,rep32]
  refine⟨⟨⟨by omega,by omega⟩,by omega⟩,Run.loop (DshI l v x) l.length ⟨_,0,_,Nat.le_refl _,by simp,lm_rep (by omega),hv0,by rw[List.drop_of_length_le (Nat.le_refl _),List.drop_of_length_le (by simp)];rfl,rfl⟩ ?_⟩
  rintro k s ⟨ws,r,a4,hk,hwl,hwm,hr,hv,rfl⟩
  rcases k with _|k
  ·rw [List.drop_zero,List.drop_zero,q1]at hv
   obtain⟨d,hd1,hd2⟩:=trim_q (l:=ws) (x := .im 1 (ws.map u32)) .im hwm (by omega)
   have e1:vl 4294967296 ws=a/v:=by
    rw[hv,Nat.mul_add_div hv0,Nat.div_eq_of_lt hr,Nat.add_zero]
   have e2:a%v=r:=by rw[hv,Nat.mul_add_mod,Nat.mod_eq_of_lt hr]
   rw[e1]at hd2
   have htk:(ws.map u32).take l.length=ws.map u32:=List.take_of_length_le (by rw[List.length_map];omega)
   simp(disch:=omega) only[go_sem,Int.reduceLE,Int.reduceNeg,Int.reduceSub,v131l0,Int.natCast_zero]
   refine CallQ.fzr (vf:=v129) fn129 rfl rfl hd1 ⟨_,by simp only[go_sem,Nat.reduceAdd,hwl,htk];rfl⟩ (fun H' => ?_)
   have ef:=fun m H=>flat_freeze hd2.sl.flat m H
   simp(disch:=omega) only[go_sem,Nat.reduceAdd,Int.reduceNeg,ef]
   exact⟨d,by rw[e2],hd2⟩
  ·have e:((k:Int)+1-1)=(k:Int):=by omega
   have hd:l[k]! < 4294967296:=lm_get m1 (by omega)
   have c1:(0:Int) <= (k:Int):=by omega
   have es:=fun{H K}=>div32_c (H:=H) (K:=K) hr hv1 hd
   obtain⟨qq,hqq⟩ : ∃ qq,qq=(l[k]! + 4294967296*r)/v:=⟨_,rfl⟩
   obtain⟨rr,hrr⟩ : ∃ rr,rr=(l[k]! + 4294967296*r)%v:=⟨_,rfl⟩
   have g1:=Nat.mod_add_div (l[k]! + 4294967296*r) v
   have g2:=Nat.mod_lt (l[k]! + 4294967296*r) hv0
   rw[<- hqq, <- hrr]at g1 es
   rw[<- hrr]at g2
   have hq:qq<4294967296:=by
    rw[hqq,Nat.div_lt_iff_lt_mul hv0]
    have:4294967296*(r+1) <= 4294967296*v:=Nat.mul_le_mul_left _ hr
    omega
   simp(disch:=omega) only[go_sem,v131l0,h1.q,u32,wr,hwl,e,c1,es,set32]
   repeat' first|(refine And.intro ?_ ?_)|intro _
   all_goals try omega
   refine⟨k,by omega,ws.set k qq,rr,_,by omega,by simp[hwl],lm_set hwm hq,g2, ?_,rfl⟩
   rw[vl_drop (by omega),vl_drop (l:=ws.set k qq) (by rw[List.length_set];omega),hv,List.drop_set_of_lt (by omega),getElem!_pos (ws.set k qq) k (by rw[List.length_set];omega),List.getElem_set_self]
   grind
 exact⟨d,hD▸h,hd⟩
end Go.Proofs.YtgefdialaemelaaGreatDoor.Dv
namespace Go.Dm
theorem qhat_hi {U3 u V2 v P d:Nat} (hu:u<P) (h:U3<d*V2):U3*P+u<d*(V2*P+v):=by
 have h1:(U3+1)*P <= d*V2*P:=Nat.mul_le_mul_right _ h
 have h2:d*(V2*P+v)=d*V2*P+d*v:=by grind
 have h3:(U3+1)*P=U3*P+P:=by grind
 omega
theorem qhat_lo {U3 u V2 v P d B:Nat} (hv:v<P) (hd:d <= B) (hV:B <= V2) (h:d*V2 <= U3):(d-1)*(V2*P+v) <= U3*P+u:=by
 rcases d with _|d
 ·simp
 ·rw[Nat.add_sub_cancel]
  have h1:d*(V2*P+v)=d*V2*P+d*v:=by grind
  have h2:d*v <= V2*P:=Nat.mul_le_mul (by omega) (by omega)
  have h3:(d+1)*V2*P <= U3*P:=Nat.mul_le_mul_right _ h
  have h4:(d+1)*V2*P=d*V2*P+V2*P:=by grind
  omega
structure Kn0 (B U V u2 u1 u0 v1 v2 P:Nat):Prop where
 hu : ∃ u,u<P /\ U=((u2*B+u1)*B+u0)*P+u
 hv : ∃ v,v<P /\ V=(v1*B+v2)*P+v
 n:B <= 2*v1
 b1:u1<B
 b0:u0<B
 b2:v2<B
 lt:U<V*B
 pB:2 <= B
section
variable {B U V u2 u1 u0 v1 v2 P:Nat}
theorem Kn0.head (h:Kn0 B U V u2 u1 u0 v1 v2 P):u2*B+u1 <= v1*B+v2:=by
 obtain⟨u,hu,eu⟩:=h.hu
 obtain⟨v,hv,ev⟩:=h.hv
 have hl:=h.lt
 rw[eu,ev]at hl
 rcases Nat.lt_or_ge (v1*B+v2) (u2*B+u1)with c|c
 ·exfalso
  have e1:(v1*B+v2+1)*B*P <= ((u2*B+u1)*B+u0)*P:=Nat.mul_le_mul_right _ (by
   have:(v1*B+v2+1)*B <= (u2*B+u1)*B:=Nat.mul_le_mul_right _ c
   omega)
  have e2:((v1*B+v2)*P+v)*B <= (v1*B+v2+1)*P*B:=Nat.mul_le_mul_right _ (by
   have:(v1*B+v2+1)*P=(v1*B+v2)*P+P:=by grind
   omega)
  have e3:(v1*B+v2+1)*P*B=(v1*B+v2+1)*B*P:=by grind
  omega
 ·exact c
structure KnI (B U V u2 u1 u0 v1 v2 P d r:Nat):Prop where
 e:d*v1+r=u2*B+u1
 hi:U<(d+1)*V
theorem KnI.start (h:Kn0 B U V u2 u1 u0 v1 v2 P):KnI B U V u2 u1 u0 v1 v2 P ((u2*B+u1)/v1) ((u2*B+u1)%v1):=by
 obtain⟨u,hu,eu⟩:=h.hu
 obtain⟨v,hv,ev⟩:=h.hv
 have hn:=h.n
 have hp:=h.pB
 have hb:=h.b0
 refine⟨by rw[Nat.mul_comm];exact Nat.div_add_mod _ _, ?_⟩
 rw[eu,ev]
 refine qhat_hi hu ?_
 have g1:=Nat.lt_div_mul_add (a:=u2*B+u1) (b:=v1) (by omega)
 have g2:(u2*B+u1+1)*B <= ((u2*B+u1)/v1*v1+v1)*B:=Nat.mul_le_mul_right _ (by omega)
 have g3:((u2*B+u1)/v1*v1+v1)*B <= ((u2*B+u1)/v1+1)*(v1*B+v2):=by
  have:((u2*B+u1)/v1+1)*(v1*B+v2)=((u2*B+u1)/v1*v1+v1)*B+((u2*B+u1)/v1+1)*v2:=by grind
  omega
 have g4:(u2*B+u1+1)*B=(u2*B+u1)*B+B:=by grind
 omega
theorem KnI.less {d r:Nat} (h:Kn0 B U V u2 u1 u0 v1 v2 P) (i:KnI B U V u2 u1 u0 v1 v2 P d r) (c:B <= d \/ r*B+u0<d*v2):d≠0 /\ KnI B U V u2 u1 u0 v1 v2 P (d-1) (r+v1):=by
 have hp:=h.pB
 have hd:d≠0:=by
  rintro rfl
  rcases c with c|c
  ·omega
  ·simp at c
 refine⟨hd, ?_, ?_⟩
 ·have:=i.e
  have e1:d*v1=(d-1)*v1+v1:=by rw[<- Nat.succ_mul];congr 1;omega
  omega
 ·rw [Nat.sub_add_cancel (by omega)]
  rcases c with c|c
  ·refine Nat.lt_of_lt_of_le h.lt ?_
   rw[Nat.mul_comm V];exact Nat.mul_le_mul_right _ c
  ·obtain⟨u,hu,eu⟩:=h.hu
   obtain⟨v,hv,ev⟩:=h.hv
   rw[eu,ev]
   refine qhat_hi hu ?_
   have:=i.e
   have e1:d*(v1*B+v2)=d*v1*B+d*v2:=by grind
   have e2:(d*v1+r)*B=d*v1*B+r*B:=by grind
   rw[this]at e2
   omega
theorem KnI.stop {d r:Nat} (h:Kn0 B U V u2 u1 u0 v1 v2 P) (i:KnI B U V u2 u1 u0 v1 v2 P d r) (hd:d<B) (c:d*v2 <= r*B+u0):(d-1)*V <= U:=by
 obtain⟨u,hu,eu⟩:=h.hu
 obtain⟨v,hv,ev⟩:=h.hv
 have hp:=h.pB
 have hn:=h.n
 rw[eu,ev]
 have e0:=i.e
 refine qhat_lo hv (Nat.le_of_lt hd) ?_ ?_
 ·have:B*1 <= B*v1:=Nat.mul_le_mul_left _ (by omega)
  rw[Nat.mul_comm v1];omega
 ·have e1:d*(v1*B+v2)=d*v1*B+d*v2:=by grind
  have e2:(d*v1+r)*B=d*v1*B+r*B:=by grind
  rw[e0]at e2
  omega
theorem KnI.brk {d r:Nat} (h:Kn0 B U V u2 u1 u0 v1 v2 P) (i:KnI B U V u2 u1 u0 v1 v2 P d r) (hr:B <= r):d<B /\ d*v2 <= r*B+u0:=by
 have hh:=h.head
 have h2:=h.b2
 have e0:=i.e
 have hd:d<B:=by
  rcases Nat.lt_or_ge d B with c|c
  ·exact c
  ·have:B*v1 <= d*v1:=Nat.mul_le_mul_right _ c
   rw[Nat.mul_comm B]at this
   omega
 refine⟨hd, ?_⟩
 have e1:d*v2 <= B*B:=Nat.mul_le_mul (by omega) (by omega)
 have e2:B*B <= r*B:=Nat.mul_le_mul_right _ hr
 omega
end
end Go.Dm
