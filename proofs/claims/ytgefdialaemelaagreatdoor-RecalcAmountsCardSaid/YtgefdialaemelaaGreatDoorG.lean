/-
  Whole numbers: the greatest common divisor.
-/
import Derived.Test.YtgefdialaemelaaGreatDoorF
namespace Go.Proofs.YtgefdialaemelaaGreatDoor.Dv
open Go.Dm
def gd (l:List Nat) (i:Nat):Nat:=if i<l.length then l[i]! else 0
theorem gd_lt {l:List Nat} (h:lm 4294967296 l) (i:Nat):gd l i<4294967296:=by
 unfold gd;split
 ·exact lm_get h (by omega)
 ·omega
theorem word_q {l:List Nat} {x:D} {i:Nat} (hx:Sl 1 (l.map u32) x) (hm:lm 4294967296 l):CallQ VS 179 [.i .i64 (i:Int),.hp 0 0] [.hb 126 [x]] (· = .ret (.i .u64 (gd l i:Int)) [.hb 126 [x]]):=by
  refine .body (vf:=v179) fn179 rfl rfl ?_
  by_cases h:i<l.length
  · have c1 : ¬ (l.length:Int) <= (i:Int):=by omega
    have hd:l[i]! < 4294967296:=lm_get hm h
    simp(disch:=omega) only[go_sem,Nat.reduceSub,v179,hx.n,hx.q,c1,u32,w64,gd,h]
    exact⟨by omega,by omega⟩
  · have c1:(l.length:Int) <= (i:Int):=by omega
    simp(disch:=omega) only[go_sem,Nat.reduceSub,v179,hx.n,c1,gd,h,Int.natCast_zero]
theorem gd_drop (l:List Nat) (i:Nat):vl 4294967296 (l.drop i)=gd l i+4294967296*vl 4294967296 (l.drop (i+1)):=by
 unfold gd
 split
 ·rename_i h;exact vl_drop h
 ·rw[List.drop_of_length_le (by omega),List.drop_of_length_le (by omega)];rfl
theorem split_any (l:List Nat) (i:Nat):vl 4294967296 l=vl 4294967296 (l.take i)+4294967296 ^ i*vl 4294967296 (l.drop i):=by
 rcases Nat.lt_or_ge l.length i with h|h
 ·rw[List.take_of_length_le (by omega),List.drop_of_length_le (by omega)];simp[vl]
 ·exact vl_split l i h
theorem vl_top {l:List Nat} {n:Nat} (hn:3 <= n) (hl:l.length <= n) (hm:lm 4294967296 l):vl 4294967296 l/4294967296 ^ (n-3)=gd l (n-3)+4294967296*(gd l (n-2)+4294967296*gd l (n-1)):=by
 have h1:=split_any l (n-3)
 have h2:=vl_lt h32 (lm_take hm (n-3))
 have h3:4294967296 ^ (l.take (n-3)).length <= 4294967296 ^ (n-3):=Nat.pow_le_pow_right (by omega) (by rw[List.length_take];omega)
 rw[gd_drop,gd_drop l (n-3+1),gd_drop l (n-3+1+1),List.drop_of_length_le (l:=l) (i:=n-3+1+1+1) (by omega),show n-3+1+1=n-1 by omega,show n-3+1=n-2 by omega]at h1
 rw[h1,Nat.add_mul_div_left _ _ (Nat.pow_pos (by omega)),Nat.div_eq_of_lt (by omega)]
 simp[vl]
theorem head_q {l:List Nat} {x:D} {n s:Nat} (hx:Sl 1 (l.map u32) x) (hm:lm 4294967296 l) (hn:3 <= n) (hl:l.length <= n) (hnb:n<1000000000) (hs:s<32) (hW:vl 4294967296 l*2 ^ s<4294967296 ^ n) :
  PRet VS 169 [x,.i .i64 (n:Int),.i .i64 (s:Int)] (.i .u64 ((vl 4294967296 l/(4294967296 ^ (n-3)*2 ^ (32-s)):Nat):Int)):=by
 have e:=fun{i K}=>CallQ_ret (K:=K) (Ret.iff_q.2 (word_q (i:=i) hx hm))
 have g0:=gd_lt hm (n-3)
 have g1:=gd_lt hm (n-2)
 have g2:=gd_lt hm (n-1)
 have ht:=vl_top hn hl hm
 have hp2:2 ^ s*2 ^ (32-s)=4294967296:=by rw[<- Nat.pow_add,show s+(32-s)=32 by omega]
 rw[<- Nat.div_div_eq_div_mul,ht]
 have hq:(gd l (n-2)+4294967296*gd l (n-1))*2 ^ s<18446744073709551616:=by
  have h1:=split_any l (n-2)
  rw[gd_drop,gd_drop l (n-2+1),List.drop_of_length_le (l:=l) (i:=n-2+1+1) (by omega),show n-2+1=n-1 by omega,vl,Nat.mul_zero,Nat.add_zero]at h1
  have h2:4294967296 ^ (n-2)*(gd l (n-2)+4294967296*gd l (n-1))*2 ^ s <= vl 4294967296 l*2 ^ s:=Nat.mul_le_mul_right _ (by omega)
  have h3:4294967296 ^ n=4294967296 ^ (n-2)*18446744073709551616:=by
   rw[show(18446744073709551616:Nat)=4294967296 ^ 2 from rfl, <- Nat.pow_add];congr 1;omega
  rw[h3]at hW
  rw[Nat.mul_assoc]at h2
  exact Nat.lt_of_mul_lt_mul_left (a:=4294967296 ^ (n-2)) (by omega)
 obtain⟨w0,h0⟩ : ∃ w,w=gd l (n-3):=⟨_,rfl⟩
 obtain⟨w1,h1⟩ : ∃ w,w=gd l (n-2):=⟨_,rfl⟩
 obtain⟨w2,h2⟩ : ∃ w,w=gd l (n-1):=⟨_,rfl⟩
 have i3:(n:Int)-3=((n-3:Nat):Int):=by omega
 have i2:(n:Int)-2=((n-2:Nat):Int):=by omega
 have i1:(n:Int)-1=((n-1:Nat):Int):=by omega
 have is:(32:Int)-(s:Int)=((32-s:Nat):Int):=by omega
 rw[<- h0]at g0 ⊢
 rw[<- h1]at g1 hq ⊢
 rw[<- h2]at g2 hq ⊢
 have o1:=or32 g2 g1
 obtain⟨w,hw⟩ : ∃ w,w=w1+4294967296*w2:=⟨_,rfl⟩
 rw[<- hw]at hq o1 ⊢
 have b1:bin .shl (.i .u64 (w:Int)) (.i .i64 (s:Int))=some (.i .u64 ((w*2 ^ s:Nat):Int)):=by
  rw[bin_shlN (by show s<64;omega),w64 hq]
 have b2:bin .shr (.i .u64 (w0:Int)) (.i .i64 ((32-s:Nat):Int))=some (.i .u64 ((w0/2 ^ (32-s):Nat):Int)):=bin_shrN (by show 32-s<64;omega)
 have hlo:w0/2 ^ (32-s)<2 ^ s:=by
  rw[Nat.div_lt_iff_lt_mul (Nat.pow_pos (by omega)),hp2];exact g0
 have o2:bin .or (.i .u64 ((w*2 ^ s:Nat):Int)) (.i .u64 ((w0/2 ^ (32-s):Nat):Int))=some (.i .u64 (((w0+4294967296*w)/2 ^ (32-s):Nat):Int)):=by
  have:2 ^ s <= 2 ^ 31:=Nat.pow_le_pow_right (by omega) (by omega)
  rw[bin_or64 hq (by omega),shl_or hlo]
  congr 3
  rw[<- hp2,show w0+2 ^ s*2 ^ (32-s)*w=w0+2 ^ (32-s)*(w*2 ^ s)by grind,Nat.add_mul_div_left _ _ (Nat.pow_pos (by omega))]
 refine .body (vf:=v169) fn169 rfl ?_
 have ey : ∀ {args:List D} {H:Heap} {K:CR -> Prop} {a b:List D},CalQ VS args H K (.fn (.func 179) a b)↔CallQ VS 179 (a++args++b) H K:=CalQ_f (by decide)
 simp(disch:=omega) only[go_sem,Nat.reduceSub,v169,hx.c1,ey,wr,i1,i2,i3,is,e, <- h0, <- h1, <- h2,shl32,o1,b1,b2,o2]
structure SimI (A B x0 y0:Nat) (x y n sh:D) (k:Nat) (s:St):Prop where
 h : ∃ (e:Bool) (a1 u0 v0 u1 v1 u2 v2:Nat) (c r q:D),Leh A B x0 y0 e a1 k u1 v1 u2 v2 /\ (v0=0 \/ Kept A B e u0 v0 u1 v1) /\ u2<18446744073709551616 /\ v2<18446744073709551616 /\
  s=⟨[x,y,.bx [.i .u64 0,.i .u64 0,.i .u64 0,.i .u64 0,.b false],c,n,sh,.i .u64 a1,.i .u64 k,.i .u64 u2,.i .u64 v2,.bx [.i .u64 u0,.i .u64 u1,.i .u64 v0,.i .u64 v1,.b e],r,q],[]⟩
theorem simulate_q {A B:Nat} {x y:D} (hx:W32 A x) (hy:W32 B y) (hab:B <= A) (hn:3 <= (ds 4294967296 A).length) (hnb:(ds 4294967296 A).length<1000000000) : ∃ u0 u1 v0 v1:Nat, ∃ e:Bool,PRet VS 153 [x,y] (.ag [.i .u64 u0,.i .u64 u1,.i .u64 v0,.i .u64 v1,.b e]) /\ (v0=0 \/ Kept A B e u0 v0 u1 v1):=by
 obtain⟨D0,hD,u0,u1,v0,v1,e,rfl,hk⟩ : ∃ D0,PRet VS 153 [x,y] D0 /\ ∃ u0 u1 v0 v1:Nat, ∃ e:Bool,D0 = .ag [.i .u64 u0,.i .u64 u1,.i .u64 v0,.i .u64 v1,.b e] /\ (v0=0 \/ Kept A B e u0 v0 u1 v1):=by
  have h1:=hx.sl
  have h2:=hy.sl
  have hml:(ds 4294967296 B).length <= (ds 4294967296 A).length:=ds_mono h32 hab
  have m1:=lm_ds h32 A
  have m2:=lm_ds h32 B
  have q1:=vl_ds h32 A
  have q2:=vl_ds h32 B
  have tb:=tp_ds h32 A
  generalize ds 4294967296 A=l at *
  generalize ds 4294967296 B=m at *
  obtain⟨n,hnn⟩ : ∃ n,n=l.length:=⟨_,rfl⟩
  have tb:=tb (by intro e;rw[e]at hn;simp at hn)
  have hmt:=lm_get m1 (i:=l.length-1) (by omega)
  obtain⟨s,hlz,hs32,hs1,hs2⟩:=lz_q hmt tb
  rw[<- hnn]at hml hn hnb hmt tb hlz hs1 hs2
  have hp:0<2 ^ s:=Nat.pow_pos (by omega)
  have hA:A*2 ^ s<4294967296 ^ n:=by
   have hp2:2 ^ (32-s)*2 ^ s=4294967296:=by rw[<- Nat.pow_add,show 32-s+s=32 by omega]
   have g1:=vl_split (B:=4294967296) l (n-1) (by omega)
   rw[vl_drop (by omega),List.drop_of_length_le (by omega),vl,Nat.mul_zero,Nat.add_zero,q1]at g1
   have g2:=vl_lt h32 (lm_take m1 (n-1))
   rw[List.length_take,Nat.min_eq_left (by omega)]at g2
   have g3:A<4294967296 ^ (n-1)*(l[n-1]! + 1):=by rw[Nat.mul_add,Nat.mul_one];omega
   have g4:l[n-1]! < 2 ^ (32-s):=Nat.lt_of_mul_lt_mul_right (a:=2 ^ s) (by omega)
   have g5:=Nat.mul_lt_mul_of_pos_right g3 hp
   have g6:4294967296 ^ (n-1)*(l[n-1]! + 1)*2 ^ s <= 4294967296 ^ (n-1)*2 ^ (32-s)*2 ^ s:=Nat.mul_le_mul_right _ (Nat.mul_le_mul_left _ g4)
   have hnp:4294967296 ^ n=4294967296 ^ (n-1)*4294967296:=by rw[<- Nat.pow_succ];congr 1;omega
   rw[Nat.mul_assoc,Nat.mul_assoc,hp2]at g6
   rw[hnp]
   rw[Nat.mul_assoc]at g5
   omega
  have hB:B*2 ^ s<4294967296 ^ n:=Nat.lt_of_le_of_lt (Nat.mul_le_mul_right _ hab) hA
  have k1:=head_q (n:=n) (s:=s) h1 m1 hn (by omega) hnb hs32 (by rw[q1];exact hA)
  have k2:=head_q (n:=n) (s:=s) h2 m2 hn hml hnb hs32 (by rw[q2];exact hB)
  rw[q1]at k1
  rw[q2]at k2
  obtain⟨K,hK⟩ : ∃ K,K=4294967296 ^ (n-3)*2 ^ (32-s):=⟨_,rfl⟩
  have hK0:0<K:=by rw[hK];exact Nat.mul_pos (Nat.pow_pos (by omega)) (Nat.pow_pos (by omega))
  rw[<- hK]at k1 k2
  have hx64:A/K<18446744073709551616:=by
   rw[Nat.div_lt_iff_lt_mul hK0,hK]
   have e1:18446744073709551616*(4294967296 ^ (n-3)*2 ^ (32-s))*2 ^ s=4294967296 ^ n:=by
    have hp2:2 ^ (32-s)*2 ^ s=4294967296:=by rw[<- Nat.pow_add,show 32-s+s=32 by omega]
    rw[Nat.mul_assoc,Nat.mul_assoc,hp2,show(18446744073709551616:Nat)*(4294967296 ^ (n-3)*4294967296)=4294967296 ^ (n-3)*4294967296 ^ 3 by grind, <- Nat.pow_add]
    congr 1;omega
   rw[<- e1]at hA
   exact Nat.lt_of_mul_lt_mul_right hA
  have e1:=fun{H K}=>k1.c (H:=H) (K:=K) fn169 rfl (by simp[hx.pl,plain_i]) (.inl rfl)
  have e2:=fun{H K}=>k2.c (H:=H) (K:=K) fn169 rfl (by simp[hy.pl,plain_i]) (.inl rfl)
  have e3:=fun{H K}=>hlz.c (H:=H) (K:=K) fn132 rfl rfl (.inl rfl)
  have hle:B/K <= A/K:=Nat.div_le_div_right hab
  have hAe:A=A/K*K+A%K:=by rw[Nat.mul_comm];exact(Nat.div_add_mod A K).symm
  have hBe:B=B/K*K+B%K:=by rw[Nat.mul_comm];exact(Nat.div_add_mod B K).symm
  have hra:=Nat.mod_lt A hK0
  have hrb:=Nat.mod_lt B hK0
  have iln:((n:Int)-1).toNat=n-1:=by omega
  refine PurQ.ex (.body (vf:=v153) fn153 rfl ?_)
  simp(disch:=omega) only[go_sem,Nat.reduceAdd,Nat.reduceSub,Nat.reduceLeDiff,v153,h1.n,h1.q, <- hnn,u32,wr,iln,e1,e2,e3]
  refine⟨⟨by omega,by omega⟩, ?_⟩
  refine Run.loop (SimI A B (A/K) (B/K) x y (.i .i64 (n:Int)) (.i .i64 (s:Int))) (B/K) ⟨false,A/K,0,0,1,0,0,1,_,_,_,Leh.start hle,.inl rfl,by omega,by omega,rfl⟩ ?_
  rintro k st ⟨e,a1,u0,v0,u1,v1,u2,v2,c,r,q,hL,hkp,hu,hv,rfl⟩
  by_cases c1:v2 <= k
  ·have hsum:=hL.sum_small hx64 c1
   have hle':=hL.le
   have hxe:=hL.xe
   have ha1:a1<18446744073709551616:=by
    have:1*a1 <= v2*a1:=Nat.mul_le_mul_right _ hL.c4
    omega
   have e4:IntKind.u64.wrap ((a1:Int)-(k:Int))=((a1-k:Nat):Int):=by rw[w64i];omega
   have e5:IntKind.u64.wrap ((v1:Int)+(v2:Int))=((v1+v2:Nat):Int):=by rw[w64i];omega
   obtain⟨df,hdf⟩ : ∃ df,df=a1-k:=⟨_,rfl⟩
   obtain⟨sm,hsm⟩ : ∃ sm,sm=v1+v2:=⟨_,rfl⟩
   rw[<- hdf]at e4
   rw[<- hsm]at e5
   have d1:(v2:Int) <= (k:Int):=by omega
   by_cases c2:sm <= df
   ·have d2:(sm:Int) <= (df:Int):=by omega
    obtain⟨hL2,hk2,g1,g2⟩:=hL.step hx64 hAe hBe hra hrb c1 (by omega)
    have hk0 : ¬ ((k:Int)=0):=by have:=hL.c4;omega
    have hkd:=Nat.mod_lt a1 (show 0<k by have:=hL.c4;omega)
    obtain⟨q',hq'⟩ : ∃ q',q'=a1/k:=⟨_,rfl⟩
    rw[<- hq']at hL2 g1 g2
    obtain⟨qu,hqu⟩ : ∃ qu,qu=q'*u2:=⟨_,rfl⟩
    obtain⟨qv,hqv⟩ : ∃ qv,qv=q'*v2:=⟨_,rfl⟩
    have f1:IntKind.u64.wrap ((q':Int)*(u2:Int))=(qu:Int):=by rw[<- Int.natCast_mul, <- hqu];exact w64 (by omega)
    have f2:IntKind.u64.wrap ((q':Int)*(v2:Int))=(qv:Int):=by rw[<- Int.natCast_mul, <- hqv];exact w64 (by omega)
    rw[<- hqu]at hL2 g2
    rw[<- hqv]at hL2 g1
    obtain⟨nu,hnu⟩ : ∃ nu,nu=u1+qu:=⟨_,rfl⟩
    obtain⟨nv,hnv⟩ : ∃ nv,nv=v1+qv:=⟨_,rfl⟩
    have f3:IntKind.u64.wrap ((u1:Int)+(qu:Int))=(nu:Int):=by rw[w64i];omega
    have f4:IntKind.u64.wrap ((v1:Int)+(qv:Int))=(nv:Int):=by rw[w64i];omega
    rw[<- hnu]at hL2 g2
    rw[<- hnv]at hL2 g1
    have f5:IntKind.u64.wrap ((q':Int))=(q':Int):=w64 (by
     have:=Nat.div_le_self a1 k
     omega)
    have tq:Int.tdiv (a1:Int) (k:Int)=(q':Int):=by rw[tdivN,hq']
    simp(disch:=omega) only[go_sem,Nat.reduceAdd,Nat.reduceLeDiff,v153l0,d1,d2,e4,e5,hk0,tq,tmodN,f1,f2,f3,f4,f5]
    exact⟨a1%k,hkd,!e,k,u1,v1,u2,v2,nu,nv,_,_,_,hL2,hk2,g2,g1,rfl⟩
   ·have d2 : ¬ (sm:Int) <= (df:Int):=by omega
    simp(disch:=omega) only[go_sem,Nat.reduceAdd,Nat.reduceLeDiff,v153l0,d1,d2,e4,e5]
    exact⟨_,_,_,_,_,⟨rfl,rfl,rfl,rfl,rfl⟩,hkp⟩
  ·have d1 : ¬ (v2:Int) <= (k:Int):=by omega
   simp(disch:=omega) only[go_sem,Nat.reduceAdd,v153l0,d1]
   exact⟨_,_,_,_,_,⟨rfl,rfl,rfl,rfl,rfl⟩,hkp⟩
 exact⟨u0,u1,v0,v1,e,hD,hk⟩
open Go.Dm
structure DifI (l m:List Nat) (u v N:Nat) (x y:D) (i:Nat) (s:St):Prop where
 h : ∃ ws cx cy bw a5 a6 a7 a14,ws.length=N /\ lm 4294967296 ws /\ cx<4294967296 /\ cy<4294967296 /\ bw <= 1 /\ (l.length<i -> cx=0) /\ (m.length<i -> cy=0) /\ (∀ k,i <= k -> k<N -> ws[k]! = 0) /\
  vl 4294967296 ws+v*vl 4294967296 (m.take i)+4294967296 ^ i*cx=u*vl 4294967296 (l.take i)+4294967296 ^ i*(cy+bw) /\
  s=⟨[.i .u64 u,x,.i .u64 v,y,.nil,a5,a6,a7,.i .u64 cx,.i .u64 cy,.i .u32 bw,.mu 0 N 0 N,.i .i64 i,.i .i64 N,a14],[.ar 1 (ws.map u32) (some N) true false]⟩
theorem gd_take (l:List Nat) (i:Nat):vl 4294967296 (l.take (i+1))=vl 4294967296 (l.take i)+4294967296 ^ i*gd l i:=by
 unfold gd
 split
 ·rename_i h;exact vl_take_succ h
 ·rw[List.take_of_length_le (by omega),List.take_of_length_le (by omega)];omega
theorem dif_step {W W' P B u v A C X Y cx cy bw d g h b':Nat} (e:W+v*C+P*cx=u*A+P*(cy+bw)) (hX:X=cx+u*g) (hY:Y=cy+v*h) (hW:W'=W+P*d) (hd:d+Y%B+bw=X%B+B*b') :
  W'+v*(C+P*h)+P*B*(X/B)=u*(A+P*g)+P*B*(Y/B+b'):=by
 have h1:=Nat.mod_add_div X B
 have h2:=Nat.mod_add_div Y B
 generalize X%B=xm at *
 generalize Y%B=ym at *
 generalize X/B=xd at *
 generalize Y/B=yd at *
 subst hW
 have e1:P*(d+ym+bw)=P*(xm+B*b'):=by rw[hd]
 have e2:P*(xm+B*xd)=P*(cx+u*g):=by rw[h1,hX]
 have e3:P*(ym+B*yd)=P*(cy+v*h):=by rw[h2,hY]
 grind
theorem difference_q {A C u v:Nat} {x y:D} (hx:W32 A x) (hy:W32 C y) (hu:u<4294967296) (hv:v<4294967296) (ha:(ds 4294967296 A).length<1000000000) (hc:(ds 4294967296 C).length<1000000000) (hle:v*C <= u*A) : ∃ d,PRet VS 154 [.i .u64 u,x,.i .u64 v,y] d /\ W32 (u*A-v*C) d:=by
 have h1:=hx.sl
 have h2:=hy.sl
 have m1:=lm_ds h32 A
 have m2:=lm_ds h32 C
 have q1:=vl_ds h32 A
 have q2:=vl_ds h32 C
 generalize ds 4294967296 A=l at *
 generalize ds 4294967296 C=m at *
 obtain⟨N,hN⟩ : ∃ N,N=max l.length m.length+1:=⟨_,rfl⟩
 refine PurQ.ex (.body (vf:=v154) fn154 rfl ?_)
 have eN:max (l.length:Int) (m.length:Int)+1=(N:Int):=by omega
 simp(disch:=omega) only[go_sem,Nat.reduceSub,v154,h1.n,h2.n,wr,rep32,eN]
 refine⟨⟨⟨by omega,by omega⟩,⟨by omega,by omega⟩,by omega⟩,Run.up (DifI l m u v N x y) N ⟨_,0,0,0,_,_,_,_,by simp,lm_rep (by omega),by omega,by omega,by omega,fun _=>rfl,fun _=>rfl,fun k _ hk=>by rw[getElem!_pos _ _ (by simpa using hk)];simp,by rw[vl_rep];simp[vl],rfl⟩ ?_⟩
 rintro i s hi ⟨ws,cx,cy,bw,a5,a6,a7,a14,hwl,hwm,hcx,hcy,hbw,hx0,hy0,hz,hval,rfl⟩
 by_cases hlt:i<N
 ·have c1:(i:Int)<(N:Int):=by omega
  have hgl:=gd_lt m1 i
  have hgm:=gd_lt m2 i
  have hp1:u*gd l i <= 4294967295*4294967295:=Nat.mul_le_mul (by omega) (by omega)
  have hp2:v*gd m i <= 4294967295*4294967295:=Nat.mul_le_mul (by omega) (by omega)
  obtain⟨X,hX⟩ : ∃ X,X=cx+u*gd l i:=⟨_,rfl⟩
  obtain⟨Y,hY⟩ : ∃ Y,Y=cy+v*gd m i:=⟨_,rfl⟩
  have es:=fun{H K}=>sub32_c (H:=H) (K:=K) (x:=X%4294967296) (y:=Y%4294967296) (b:=bw) (by omega) (by omega) hbw
  obtain⟨d,hd⟩ : ∃ d,d=(X%4294967296+8589934592-Y%4294967296-bw)%4294967296:=⟨_,rfl⟩
  obtain⟨b',hb'⟩ : ∃ b',b'=(if X%4294967296<Y%4294967296+bw then 1 else 0):=⟨_,rfl⟩
  have hkey:d+Y%4294967296+bw=X%4294967296+4294967296*b' /\ b' <= 1:=by
   rw[hb'];split<;>omega
  rw[<- hd, <- hb']at es
  have f1:bin .shr (.i .u64 (X:Int)) (.i .u64 32)=some (.i .u64 ((X/4294967296:Nat):Int)):=bin_shrN (s:=32) (by decide)
  have f2:bin .shr (.i .u64 (Y:Int)) (.i .u64 32)=some (.i .u64 ((Y/4294967296:Nat):Int)):=bin_shrN (s:=32) (by decide)
  have fin:DifI l m u v N x y (i+1) ⟨[.i .u64 u,x,.i .u64 v,y,.nil,.b true,.b (decide ((i:Int)<(l.length:Int))),.b (decide ((i:Int)<(m.length:Int))),.i .u64 ((X/4294967296:Nat):Int),.i .u64 ((Y/4294967296:Nat):Int),.i .u32 (b':Int),.mu 0 N 0 N,.i .i64 ((i:Int)+1),.i .i64 N,.i .i64 i],[.ar 1 ((ws.set i d).map u32) (some N) true false]⟩:=by
   refine⟨ws.set i d,X/4294967296,Y/4294967296,b',_,_,_,_,by simp[hwl],lm_set hwm (by omega),by omega,by omega,hkey.2,fun hh => ?_,fun hh => ?_,fun k h3 h4 => ?_, ?_,rfl⟩
   ·rw[hX,gd,if_neg (by omega),Nat.mul_zero,Nat.add_zero];omega
   ·rw[hY,gd,if_neg (by omega),Nat.mul_zero,Nat.add_zero];omega
   ·rw[getElem!_pos _ _ (by rw[List.length_set];omega),List.getElem_set_ne (by omega), <- getElem!_pos ws k (by omega)]
    exact hz k (by omega) h4
   ·have g1:=vl_set (B:=4294967296) (l:=ws) (i:=i) (v:=d) (by omega)
    rw[hz i (Nat.le_refl _) hlt,Nat.mul_zero,Nat.add_zero]at g1
    rw[gd_take,gd_take,Nat.pow_succ]
    exact dif_step hval hX hY g1 hkey.1
  by_cases c2:i<l.length
  ·have d2:(i:Int)<(l.length:Int):=by omega
   have g1:gd l i=l[i]! := if_pos c2
   have e1:IntKind.u64.wrap ((u:Int)*(l[i]! : Int))=((u*gd l i:Nat):Int):=by rw[g1, <- Int.natCast_mul];exact w64 (by rw[<- g1];omega)
   obtain⟨pu,hpu⟩ : ∃ pu,pu=u*gd l i:=⟨_,rfl⟩
   rw[<- hpu]at e1 hX
   have e2:IntKind.u64.wrap ((cx:Int)+(pu:Int))=(X:Int):=by rw[w64i];omega
   have e0:IntKind.u64.wrap (l[i]! : Int)=(l[i]! : Int):=w64 (by omega)
   simp only[d2,decide_true]at fin
   by_cases c3:i<m.length
   ·have d3:(i:Int)<(m.length:Int):=by omega
    have g2:gd m i=m[i]! := if_pos c3
    have e3:IntKind.u64.wrap ((v:Int)*(m[i]! : Int))=((v*gd m i:Nat):Int):=by rw[g2, <- Int.natCast_mul];exact w64 (by rw[<- g2];omega)
    obtain⟨pv,hpv⟩ : ∃ pv,pv=v*gd m i:=⟨_,rfl⟩
    rw[<- hpv]at e3 hY
    have e4:IntKind.u64.wrap ((cy:Int)+(pv:Int))=(Y:Int):=by rw[w64i];omega
    have e5:IntKind.u64.wrap (m[i]! : Int)=(m[i]! : Int):=w64 (by omega)
    simp only[d3,decide_true]at fin
    simp(disch:=omega) only[go_sem,v154l0,h1.n,h1.q,h2.n,h2.q,c1,d2,d3,u32,wr,e0,e1,e2,e3,e4,e5,w32m,es,f1,f2,hwl,set32]
    repeat' first|(refine And.intro ?_ ?_)|intro _
    all_goals first|omega|exact fin
   ·have d3 : ¬ (i:Int)<(m.length:Int):=by omega
    rw[show gd m i=0 from if_neg c3,Nat.mul_zero,Nat.add_zero]at hY
    subst hY
    simp only[d3,decide_false]at fin
    simp(disch:=omega) only[go_sem,v154l0,h1.n,h1.q,h2.n,c1,d2,d3,u32,wr,e0,e1,e2,w32m,es,f1,f2,hwl,set32]
    repeat' first|(refine And.intro ?_ ?_)|intro _
    all_goals first|omega|exact fin
  ·have d2 : ¬ (i:Int)<(l.length:Int):=by omega
   rw[show gd l i=0 from if_neg c2,Nat.mul_zero,Nat.add_zero]at hX
   subst hX
   simp only[d2,decide_false]at fin
   by_cases c3:i<m.length
   ·have d3:(i:Int)<(m.length:Int):=by omega
    have g2:gd m i=m[i]! := if_pos c3
    have e3:IntKind.u64.wrap ((v:Int)*(m[i]! : Int))=((v*gd m i:Nat):Int):=by rw[g2, <- Int.natCast_mul];exact w64 (by rw[<- g2];omega)
    obtain⟨pv,hpv⟩ : ∃ pv,pv=v*gd m i:=⟨_,rfl⟩
    rw[<- hpv]at e3 hY
    have e4:IntKind.u64.wrap ((cy:Int)+(pv:Int))=(Y:Int):=by rw[w64i];omega
    have e5:IntKind.u64.wrap (m[i]! : Int)=(m[i]! : Int):=w64 (by omega)
    simp only[d3,decide_true]at fin
    simp(disch:=omega) only[go_sem,v154l0,h1.n,h2.n,h2.q,c1,d2,d3,u32,wr,e3,e4,e5,w32m,es,f1,f2,hwl,set32]
    repeat' first|(refine And.intro ?_ ?_)|intro _
    all_goals first|omega|exact fin
   ·have d3 : ¬ (i:Int)<(m.length:Int):=by omega
    rw[show gd m i=0 from if_neg c3,Nat.mul_zero,Nat.add_zero]at hY
    subst hY
    simp only[d3,decide_false]at fin
    simp(disch:=omega) only[go_sem,v154l0,h1.n,h2.n,c1,d2,d3,u32,wr,w32m,es,f1,f2,hwl,set32]
    repeat' first|(refine And.intro ?_ ?_)|intro _
    all_goals first|omega|exact fin
 ·have hil:i=N:=by omega
  subst hil
  rw[List.take_of_length_le (by omega),List.take_of_length_le (by omega),q1,q2]at hval
  have hws:vl 4294967296 ws=u*A-v*C:=by
   have g1:=vl_lt h32 hwm
   rw[hwl]at g1
   rw[hx0 (by omega),hy0 (by omega),Nat.mul_zero,Nat.add_zero,Nat.zero_add]at hval
   rcases Nat.lt_or_ge bw 1 with c|c
   ·rw[show bw=0 by omega,Nat.mul_zero,Nat.add_zero]at hval
    omega
   ·rw[show bw=1 by omega,Nat.mul_one]at hval
    omega
  obtain⟨d,hd1,hd2⟩:=trim_q (l:=ws) (x := .im 1 (ws.map u32)) .im hwm (by omega)
  rw[hws]at hd2
  have htk:(ws.map u32).take i=ws.map u32:=List.take_of_length_le (by rw[List.length_map];omega)
  simp(disch:=omega) only[go_sem,v154l0,Int.lt_irrefl]
  refine CallQ.fzr (vf:=v129) fn129 rfl rfl hd1 ⟨_,by simp only[go_sem,Nat.reduceAdd,hwl,htk];rfl⟩ (fun H' => ?_)
  simp(disch:=omega) only[go_sem]
  exact⟨d,frzR_flat hd2.sl.flat,hd2⟩
structure GcdI (g:Nat) (B:Nat) (s:St):Prop where
 h : ∃ A P Q a3 a4 a5 a6 a10 a11,W32 A P /\ W32 B Q /\ B <= A /\ (ds 4294967296 A).length<1000000000 /\ Nat.gcd A B=g /\
  s=⟨[P,Q,.nil,a3,a4,a5,a6,.u,.u,.u,a10,a11,.u,.u,.u],[]⟩
def v128r:VCode:=match v128.body with
 | .seq _ (.seq _ (.seq _ r))=>r
 | _ => .skip
def v218s:VCode:=match v128r with
 | .seq _ (.seq _ r)=>r
 | _ => .skip
structure EucI (g:Nat) (P Q:D) (a3 a4 a5 a6 a7 a8 a10 a11 a12:D) (y:Nat) (s:St):Prop where
 h : ∃ x a9,x<18446744073709551616 /\ y<18446744073709551616 /\ Nat.gcd x y=g /\ s=⟨[P,Q,.nil,a3,a4,a5,a6,a7,a8,a9,a10,a11,a12,.i .u64 (x:Int),.i .u64 (y:Int)],[]⟩
theorem euclid_r {A B:Nat} {P Q a3 a4 a5 a6 a7 a8 a10 a11 a12:D} (hP:W32 A P) (hQ:W32 B Q) (hA:(ds 4294967296 A).length <= 2) (hB:(ds 4294967296 B).length <= 2) {K:D -> Prop} (hK : ∀ d,W32 (Nat.gcd A B) d -> K d) :
  Run VS v218s ⟨[P,Q,.nil,a3,a4,a5,a6,a7,a8,.u,a10,a11,a12,.u,.u],[]⟩ (ResQ [.s 2] (PurK false fun r => ∃ d,r = .ret d /\ K d)):=by
 have e1:=fun{H K}=>(long_q hP.sl hA (lm_ds h32 A)).c (H:=H) (K:=K) fn155 rfl (by simp[hP.pl]) (.inl rfl)
 have e2:=fun{H K}=>(long_q hQ.sl hB (lm_ds h32 B)).c (H:=H) (K:=K) fn155 rfl (by simp[hQ.pl]) (.inl rfl)
 rw[vl_ds h32]at e1 e2
 have b1:=(ds_len h32).1 hA
 have b2:=(ds_len h32).1 hB
 simp(disch:=omega) only[go_sem,v218s,v128r,v128,e1,e2]
 refine Run.loop (EucI (Nat.gcd A B) P Q a3 a4 a5 a6 a7 a8 a10 a11 a12) B ⟨A,.u,b1,b2,rfl,rfl⟩ ?_
 rintro y s ⟨x,a9,hx,hy,hg,rfl⟩
 by_cases h0:y=0
 ·subst h0
  rw[Nat.gcd_zero_right]at hg
  subst hg
  obtain⟨d,hd1,hd2⟩:=short_q hx
  have e3:=fun{H K}=>hd1.c (H:=H) (K:=K) fn156 rfl rfl (.inl rfl)
  simp(disch:=omega) only[go_sem,v128l1,Int.natCast_zero,e3]
  exact⟨d,frzR_flat hd2.sl.flat,hK d hd2⟩
 ·have c1 : ¬ (y:Int)=0:=by omega
  simp(disch:=omega) only[go_sem,v128l1,c1,tmodN]
  have:=Nat.mod_lt x (show 0<y by omega)
  exact⟨x%y,by omega,y,_,by omega,by omega,by rw[<- hg,Nat.gcd_comm x,Nat.gcd_rec y x,Nat.gcd_comm],rfl⟩
theorem gcd_r {A B:Nat} {P Q a3 a4 a5 a6 a10 a11:D} (hP:W32 A P) (hQ:W32 B Q) (hA:(ds 4294967296 A).length<1000000000) (hB:(ds 4294967296 B).length <= 2) {K:D -> Prop} (hK : ∀ d,W32 (Nat.gcd A B) d -> K d) :
  Run VS v128r ⟨[P,Q,.nil,a3,a4,a5,a6,.u,.u,.u,a10,a11,.u,.u,.u],[]⟩ (ResQ [.s 2] (PurK false fun r => ∃ d,r = .ret d /\ K d)):=by
 have h1:=hP.sl
 have h2:=hQ.sl
 show Run VS (.seq _ (.seq _ v218s)) _ _
 by_cases h0:B=0
 ·subst h0
  rw[Nat.gcd_zero_right]at hK
  rw[ds_zero]at h2
  simp(disch:=omega) only[go_sem,h2.n,List.length_nil,Int.natCast_zero]
  exact⟨P,frzR_flat h1.flat,hK P hP⟩
 ·have hb:=ds_pos h32 h0
  have c1 : ¬ ((ds 4294967296 B).length:Int)=0:=by omega
  by_cases hl:(ds 4294967296 A).length <= 2
  ·have c2 : ¬ (2:Int)<((ds 4294967296 A).length:Int):=by omega
   simp(disch:=omega) only[go_sem,h2.n,h1.n,c1,c2]
   exact euclid_r hP hQ hl hB hK
  ·have c2:(2:Int)<((ds 4294967296 A).length:Int):=by omega
   obtain⟨d,e,hde,hd,he⟩:=divide_q hP hQ h0 hA (by omega)
   have e1:=fun{H K}=>hde.c (H:=H) (K:=K) fn102 rfl (by simp[hP.pl,hQ.pl]) (.inl rfl)
   simp(disch:=omega) only[go_sem,h2.n,h1.n,c1,c2,e1]
   refine euclid_r hQ he hB ?_ (fun d hd=>hK d ?_)
   ·exact Nat.le_trans (ds_mono h32 (Nat.le_of_lt (Nat.mod_lt _ (by omega)))) hB
   ·rwa [Nat.gcd_comm A,Nat.gcd_rec B A,Nat.gcd_comm]
theorem gcd_q {a b:Nat} {x y:D} (hx:W32 a x) (hy:W32 b y) (ha:(ds 4294967296 a).length<1000000000) (hb:(ds 4294967296 b).length<1000000000) : ∃ d,PRet VS 128 [x,y] d /\ W32 (Nat.gcd a b) d:=by
 have ec:=fun{H K}=>(compare_q hx hy (by omega) (by omega)).c (H:=H) (K:=K) fn61 rfl (by simp[hx.pl,hy.pl]) (.inl rfl)
 refine PurQ.ex (.body (vf:=v128) fn128 rfl ?_)
 have key : ∀ {A B:Nat} {P Q a3:D},W32 A P -> W32 B Q -> B <= A -> (ds 4294967296 A).length<1000000000 -> Nat.gcd A B=Nat.gcd a b -> Run VS (.loop v128l0) ⟨[P,Q,.nil,a3,.u,.u,.u,.u,.u,.u,.u,.u,.u,.u,.u],[]⟩ (BlockQ 0 (SeqQ VS v128r (ResQ [.s 2] (PurK false fun r => ∃ d,r = .ret d /\ W32 (Nat.gcd a b) d)))):=by
  intro A B P Q a3 hP hQ hBA hA hg
  refine Run.loop (GcdI (Nat.gcd a b)) B ⟨A,P,Q,a3,_,_,_,_,_,hP,hQ,hBA,hA,hg,rfl⟩ ?_
  clear hP hQ hBA hA hg
  rintro B s ⟨A,P,Q,a3,a4,a5,a6,a10,a11,hP,hQ,hBA,hA,hg,rfl⟩
  have h1:=hP.sl
  have h2:=hQ.sl
  have hml:(ds 4294967296 B).length <= (ds 4294967296 A).length:=ds_mono h32 hBA
  by_cases hl:(ds 4294967296 B).length <= 2
  ·have c1 : ¬ (2:Int)<((ds 4294967296 B).length:Int):=by omega
   simp(disch:=omega) only[go_sem,v128l0,h2.n,c1]
   exact gcd_r hP hQ hA hl (fun d hd=>by rwa [hg]at hd)
  ·have c1:(2:Int)<((ds 4294967296 B).length:Int):=by omega
   have hB0:B≠0:=by rintro rfl;rw[ds_zero]at hl;simp at hl
   obtain⟨u0,u1,v0,v1,e,hs,hk⟩:=simulate_q hP hQ hBA (by omega) hA
   have e1:=fun{H K}=>hs.c (H:=H) (K:=K) fn153 rfl (by simp[hP.pl,hQ.pl]) (.inl rfl)
   by_cases h0:v0=0
   ·have c2:(v0:Int)=0:=by omega
    obtain⟨d,e',hde,hd,he⟩:=divide_q hP hQ hB0 hA (by omega)
    have e2:=fun{H K}=>hde.c (H:=H) (K:=K) fn102 rfl (by simp[hP.pl,hQ.pl]) (.inl rfl)
    simp(disch:=omega) only[go_sem,Nat.reduceAdd,Nat.reduceLeDiff,v128l0,h2.n,c1,e1,c2,e2]
    have hm:=Nat.mod_lt A (show 0<B by omega)
    exact⟨A%B,hm,B,_,_,_,_,_,_,_,_,hQ,he,by omega,by omega,by rw[<- hg,Nat.gcd_comm A,Nat.gcd_rec B A,Nat.gcd_comm],rfl⟩
   ·have c2 : ¬ (v0:Int)=0:=by omega
    have hk:=hk.resolve_left h0
    obtain⟨b1,b2,b3,b4⟩:=hk.b0
    cases e with
    | true =>
     obtain⟨k1,k2,k3,k4,k5,k6⟩:=hk.even
     obtain⟨d1,f1,g1⟩:=difference_q hP hQ b1 b2 hA (by omega) k1
     obtain⟨d2,f2,g2⟩:=difference_q hQ hP b4 b3 (by omega) hA k2
     have e2:=fun{H K}=>f1.c (H:=H) (K:=K) fn154 rfl (by simp[hP.pl,hQ.pl,plain_i]) (.inl rfl)
     have e3:=fun{H K}=>f2.c (H:=H) (K:=K) fn154 rfl (by simp[hP.pl,hQ.pl,plain_i]) (.inl rfl)
     simp(disch:=omega) only[go_sem,Nat.reduceAdd,Nat.reduceLeDiff,v128l0,h2.n,c1,e1,c2,e2,e3]
     exact⟨v1*B-u1*A,k3,_,_,_,_,_,_,_,_,_,g1,g2,k4,Nat.lt_of_le_of_lt (ds_mono h32 (Nat.le_trans k5 hBA)) hA,by rw[k6,hg],rfl⟩
    | false =>
     obtain⟨k1,k2,k3,k4,k5,k6⟩:=hk.odd
     obtain⟨d1,f1,g1⟩:=difference_q hQ hP b2 b1 (by omega) hA k1
     obtain⟨d2,f2,g2⟩:=difference_q hP hQ b3 b4 hA (by omega) k2
     have e2:=fun{H K}=>f1.c (H:=H) (K:=K) fn154 rfl (by simp[hP.pl,hQ.pl,plain_i]) (.inl rfl)
     have e3:=fun{H K}=>f2.c (H:=H) (K:=K) fn154 rfl (by simp[hP.pl,hQ.pl,plain_i]) (.inl rfl)
     simp(disch:=omega) only[go_sem,Nat.reduceAdd,Nat.reduceLeDiff,v128l0,h2.n,c1,e1,c2,e2,e3]
     exact⟨u1*A-v1*B,k3,_,_,_,_,_,_,_,_,_,g1,g2,k4,Nat.lt_of_le_of_lt (ds_mono h32 (Nat.le_trans k5 hBA)) hA,by rw[k6,hg],rfl⟩
 show Run VS (.seq _ (.seq _ (.seq _ v128r))) _ _
 by_cases hlt:a<b
 ·simp(disch:=omega) only[go_sem,Nat.reduceSub,Int.reduceLT,Int.reduceNeg,v128,ec,sgn_lt hlt]
  exact key hy hx (by omega) hb (Nat.gcd_comm _ _)
 ·have hs : ¬ sgn a b<0:=by
   rcases Nat.lt_or_ge b a with c|c
   ·rw[sgn_gt c];omega
   ·rw[sgn_eq (by omega)];omega
  simp(disch:=omega) only[go_sem,Nat.reduceSub,v128,ec,hs]
  exact key hx hy (by omega) ha rfl
end Go.Proofs.YtgefdialaemelaaGreatDoor.Dv
