/-
  Whole numbers as integers.
-/
import Derived.Test.YtgefdialaemelaaGreatDoorG
namespace Go.Proofs.YtgefdialaemelaaGreatDoor.Dv
open Go.Dm
def cap (k:Nat):Nat:=65536 ^ k
theorem cap_len {n k:Nat}:(ds 65536 n).length <= k↔n<cap k:=ds_len h16
theorem cap_le {j k:Nat} (h:j <= k):cap j <= cap k:=Nat.pow_le_pow_right (by omega) h
theorem cap_mul {a b j k n:Nat} (ha:a<cap j) (hb:b<cap k) (hn:j+k <= n):a*b<cap n:=by
 refine Nat.lt_of_lt_of_le ?_ (cap_le hn)
 unfold cap;rw[Nat.pow_add];exact Nat.mul_lt_mul'' ha hb
theorem cap_add {a b k n:Nat} (ha:a<cap k) (hb:b<cap k) (hn:k+1 <= n):a+b<cap n:=by
 refine Nat.lt_of_lt_of_le ?_ (cap_le hn)
 have e:cap (k+1)=cap k*65536:=Nat.pow_succ ..
 omega
theorem cap_up {a j k:Nat} (h:a<cap j) (hk:j <= k):a<cap k:=Nat.lt_of_lt_of_le h (cap_le hk)
theorem cap_32 {n k:Nat} (h:n<cap (2*k)):(ds 4294967296 n).length <= k:=by
 rw[ds_len h32,show(4294967296:Nat)=65536 ^ 2 from rfl, <- Nat.pow_mul];exact h
theorem cap_big {n k:Nat} (h:n<cap k) (hk:k <= 4096):(ds 4294967296 n).length<1000000000:=by
 have:=cap_32 (k:=2048) (Nat.lt_of_lt_of_le h (cap_le (by omega)))
 omega
theorem cap_b16 {n k:Nat} (h:n<cap k) (hk:k <= 4096):(ds 65536 n).length<1099511627776:=by
 have:=cap_len.2 (Nat.lt_of_lt_of_le h (cap_le hk))
 omega
theorem cap_c16 {n k:Nat} (h:n<cap k) (hk:k <= 4096):(ds 65536 n).length<70368744177665:=Nat.lt_of_lt_of_le (cap_b16 h hk) (by decide)
def wvalid (neg:Bool) (l:List Nat):Bool:=match l with
 | [] => !neg
 | _::_=>decide (l.length <= 1024)&&decide (l[l.length-1]! ≠ 0)
theorem valid_q {neg:Bool} {l:List Nat} {x:D} (h:Sl 1 (l.map u16) x) (hn:l.length<70368744177665):PRet VS 53 [.ag [.b neg,x]] (.b (wvalid neg l)):=by
 refine .body (vf:=v53) fn53 rfl ?_
 cases l with
 | nil=>simp(disch:=omega) only[go_sem,Nat.reduceAdd,Nat.reduceSub,Nat.reduceLeDiff,v53,h.n,List.length_nil,Int.natCast_zero,wvalid]
 | cons a l =>
  generalize hl:a::l=m at *
  have hp:m.length≠0:=by rw[<- hl];simp
  have c1 : ¬ (m.length:Int)=0:=by omega
  have wv:wvalid neg m=(decide (m.length <= 1024)&&decide (m[m.length-1]! ≠ 0)):=by subst hl;rfl
  rw[wv]
  by_cases h2:m.length <= 1024
  ·have c2:(m.length:Int) <= 1024:=by omega
   have tn:((m.length:Int)-1).toNat=m.length-1:=by omega
   simp(disch:=omega) only[go_sem,Nat.reduceAdd,Nat.reduceSub,v53,h.n,h.q,c1,c2,h2,wr,tn,u16]
   refine⟨⟨by omega,by omega⟩, ?_⟩
   by_cases h3:m[m.length-1]! = 0<;>simp[h3]
  ·have c2 : ¬ (m.length:Int) <= 1024:=by omega
   simp(disch:=omega) only[go_sem,Nat.reduceAdd,Nat.reduceSub,v53,h.n,c1,c2,h2]
theorem wvalid_ds {neg:Bool} {n:Nat} (hn:n<cap 1024) (h0:n=0 -> neg=false):wvalid neg (ds 65536 n)=true:=by
 by_cases c:n=0
 ·rw[c,ds_zero,h0 c];rfl
 ·have h1:=ds_ne h16 c
  have h2:=tp_ds h16 n h1
  have h3:=cap_len.2 hn
  cases hd:ds 65536 n with
  | nil=>exact absurd hd h1
  | cons a l=>rw[hd]at h2 h3;simp only[wvalid,Bool.and_eq_true,decide_eq_true_eq];exact⟨h3,h2⟩
def wval (neg:Bool) (l:List Nat):Int:=if neg then -(vl 65536 l:Int)else vl 65536 l
theorem wvalid_wh {neg:Bool} {l:List Nat} {x:D} (h:Sl 1 (l.map u16) x) (hm:lm 65536 l) (hv:wvalid neg l=true):Wh (wval neg l) (.ag [.b neg,x]) /\ (wval neg l).natAbs<cap 1024 /\ (wval neg l).natAbs=vl 65536 l /\ ds 65536 (vl 65536 l)=l:=by
 have ha:(wval neg l).natAbs=vl 65536 l:=by unfold wval;cases neg<;>simp
 have hd:ds 65536 (vl 65536 l)=l:=ds_vl h16 hm (fun hne=>by
  cases l with
  | nil=>exact absurd rfl hne
  | cons a l=>simp only[wvalid,Bool.and_eq_true,decide_eq_true_eq]at hv;exact hv.2)
 refine⟨⟨x, ?_,⟨by rw[ha,hd];exact h⟩⟩, ?_,ha,hd⟩
 ·unfold wval
  cases neg with
  | false=>simp
  | true =>
   have:vl 65536 l≠0:=by
    intro h0
    rw[h0,ds_zero]at hd
    subst hd
    simp[wvalid]at hv
   simp;omega
 ·rw[ha, <- cap_len,hd]
  cases l with
  | nil=>simp
  | cons a l=>simp only[wvalid,Bool.and_eq_true,decide_eq_true_eq]at hv;exact hv.1
theorem Wh.pl {z:Int} {d:D} (h:Wh z d):d.plain=true:=by
 obtain⟨y,rfl,hy⟩:=h.h
 simp[plain_ag,flat_b,hy.sl.flat]
theorem whvalid_q {z:Int} {y:D} (h:W16 z.natAbs y) (hz:z.natAbs<cap 1024):PRet VS 53 [.ag [.b (decide (z<0)),y]] (.b true):=by
 have:=valid_q (neg:=decide (z<0)) h.sl (cap_c16 hz (by omega))
 rwa [wvalid_ds hz (fun h0=>by simp;omega)]at this
theorem av2_q {z1 z2:Int} {y1 y2:D} (h1:W16 z1.natAbs y1) (h2:W16 z2.natAbs y2) (b1:z1.natAbs<cap 1024) (b2:z2.natAbs<cap 1024):PRet VS 60 [.im 2 [[.b (decide (z1<0)),y1],[.b (decide (z2<0)),y2]]] (.b true):=by
 have e1:=fun{H K}=>(whvalid_q h1 b1).c (H:=H) (K:=K) fn53 rfl (by simp[plain_ag,flat_b,h1.sl.flat]) (.inl rfl)
 have e2:=fun{H K}=>(whvalid_q h2 b2).c (H:=H) (K:=K) fn53 rfl (by simp[plain_ag,flat_b,h2.sl.flat]) (.inl rfl)
 have l0:lenD [] 1 (.im 2 [[.b (decide (z1<0)),y1],[.b (decide (z2<0)),y2]])=some (.i .i64 2):=rfl
 have i0:iadD [] (.im 2 [[.b (decide (z1<0)),y1],[.b (decide (z2<0)),y2]]) (.i .i64 0) 2=some (.ip [.b (decide (z1<0)),y1]):=rfl
 have i1:iadD [] (.im 2 [[.b (decide (z1<0)),y1],[.b (decide (z2<0)),y2]]) (.i .i64 1) 2=some (.ip [.b (decide (z2<0)),y2]):=rfl
 refine .body (vf:=v60) fn60 rfl ?_
 simp(disch:=omega) only[go_sem,Nat.reduceSub,v60,l0]
 rw[Run_loop]
 simp(disch:=omega) only[go_sem,Nat.reduceAdd,Int.reduceLT,v60l0,i0,e1,wr]
 rw[Run_loop]
 simp(disch:=omega) only[go_sem,Nat.reduceAdd,Int.reduceLT,Int.reduceAdd,i1,e2,wr]
 rw[Run_loop]
 simp(disch:=omega) only[go_sem,Int.reduceLT]
theorem av2_c {z1 z2:Int} {y1 y2:D} (h1:W16 z1.natAbs y1) (h2:W16 z2.natAbs y2) (b1:z1.natAbs<cap 1024) (b2:z2.natAbs<cap 1024) {H:Heap} {K:CR -> Prop}:CallQ VS 60 [.sv 2 [[.b (decide (z1<0)),y1],[.b (decide (z2<0)),y2]]] H K↔K (.ret (.b true) H):=by
 have f1:=fun m H=>flat_freeze h1.sl.flat m H
 have f2:=fun m H=>flat_freeze h2.sl.flat m H
 rw[CallQ_p (vf:=v60) (H1:=H) fn60 rfl (av2_q h1 h2 b1 b2) (by simp only[go_sem,Nat.reduceAdd,f1,f2])]
 exact Iff.rfl
open Go.Dm
theorem result_q {neg:Bool} {n:Nat} {x:D} (hx:W32 n x) (hn:n<cap 1024) : ∃ d,PRet VS 100 [.b neg,x] (.tu [d,.i .i64 0]) /\ Wh (if neg then -(n:Int)else n) d:=by
 have hb:=cap_big hn (by omega)
 obtain⟨d,h1,h2⟩:=unpack_q (neg:=neg) hx.sl (lm_ds h32 n) (by omega)
 rw[vl_ds h32]at h2
 have e1:=fun{H K}=>h1.c (H:=H) (K:=K) fn105 rfl (by simp[hx.pl,plain_b]) (.inl rfl)
 obtain⟨y,rfl,hy⟩:=h2.h
 have hz:(if neg=true then -(n:Int)else(n:Int)).natAbs=n:=by cases neg<;>simp
 rw[hz]at hy
 have hl:=cap_len.2 hn
 have c1 : ¬ (1024:Int)<((ds 65536 n).length:Int):=by omega
 have ef:=fun m H=>flat_freeze hy.sl.flat m H
 refine⟨_,.body (vf:=v100) fn100 rfl ?_,⟨y,rfl,by rw[hz];exact hy⟩⟩
 simp(disch:=omega) only[go_sem,Nat.reduceAdd,Nat.reduceSub,v100,e1,hy.sl.n,c1,ef]
theorem sgn_mul (z1 z2:Int):(if((decide (z1<0)==decide (z2<0)) != true)=true then -((z1.natAbs*z2.natAbs:Nat):Int)else((z1.natAbs*z2.natAbs:Nat):Int))=z1*z2:=by
 rw[Int.natCast_mul]
 rcases Int.lt_or_le z1 0 with a|a<;>rcases Int.lt_or_le z2 0 with b|b
 ·rw[show((z1.natAbs:Nat):Int) = -z1 by omega,show((z2.natAbs:Nat):Int) = -z2 by omega];simp[a,b];try grind
 ·rw[show((z1.natAbs:Nat):Int) = -z1 by omega,show((z2.natAbs:Nat):Int)=z2 by omega];simp[a,b];try grind
 ·rw[show((z1.natAbs:Nat):Int)=z1 by omega,show((z2.natAbs:Nat):Int) = -z2 by omega];simp[a,b];try grind
 ·rw[show((z1.natAbs:Nat):Int)=z1 by omega,show((z2.natAbs:Nat):Int)=z2 by omega];simp[];try grind
theorem mul_q {z1 z2:Int} {d1 d2:D} (h1:Wh z1 d1) (h2:Wh z2 d2) (b1:z1.natAbs<cap 512) (b2:z2.natAbs<cap 512) : ∃ d,PRet VS 58 [d1,d2] (.tu [d,.i .i64 0]) /\ Wh (z1*z2) d:=by
 obtain⟨y1,rfl,g1⟩:=h1.h
 obtain⟨y2,rfl,g2⟩:=h2.h
 have c1:=cap_up b1 (show 512 <= 1024 by omega)
 have c2:=cap_up b2 (show 512 <= 1024 by omega)
 have e0:=fun{H K}=>av2_c g1 g2 c1 c2 (H:=H) (K:=K)
 obtain⟨p1,p2,p3⟩:=pack_q g1 (cap_b16 b1 (by omega))
 obtain⟨r1,r2,r3⟩:=pack_q g2 (cap_b16 b2 (by omega))
 have e1:=fun{H K}=>p2.c (H:=H) (K:=K) fn62 rfl g1.p1 (.inl rfl)
 have e2:=fun{H K}=>r2.c (H:=H) (K:=K) fn62 rfl g2.p1 (.inl rfl)
 obtain⟨t1,t2,t3⟩:=times_q p3 r3 (cap_big b1 (by omega)) (cap_big b2 (by omega))
 have e3:=fun{H K}=>t2.c (H:=H) (K:=K) fn101 rfl (by simp[p3.pl,r3.pl]) (.inl rfl)
 obtain⟨s1,s2,s3⟩:=result_q (neg:=(decide (z1<0)==decide (z2<0)) != true) t3 (cap_mul b1 b2 (by omega))
 have e4:=fun{H K}=>s2.c (H:=H) (K:=K) fn100 rfl (by simp[t3.pl,plain_b]) (.inl rfl)
 have hs:=sgn_mul z1 z2
 rw[hs]at s3
 obtain⟨y,rfl,hy⟩:=s3.h
 have ef:=fun m H=>flat_freeze hy.sl.flat m H
 refine⟨_,.body (vf:=v58) fn58 rfl ?_,s3⟩
 simp(disch:=omega) only[go_sem,Nat.reduceAdd,Nat.reduceSub,Nat.reduceLeDiff,Nat.reduceLT,v58,e0,e1,e2,e3,e4,ef]
theorem sum_q {z1 z2:Int} {y1 y2:D} (g1:W32 z1.natAbs y1) (g2:W32 z2.natAbs y2) (b1:z1.natAbs<cap 1023) (b2:z2.natAbs<cap 1023) : ∃ d,PRet VS 106 [.b (decide (z1<0)),y1,.b (decide (z2<0)),y2] (.tu [d,.i .i64 0]) /\ Wh (z1+z2) d:=by
 have l1:=cap_big b1 (by omega)
 have l2:=cap_big b2 (by omega)
 by_cases hs:decide (z1<0)=decide (z2<0)
 ·obtain ⟨t1,t2,t3⟩:=plus_q g1 g2 l1 l2
  have e3:=fun{H K}=>t2.c (H:=H) (K:=K) fn103 rfl (by simp[g1.pl,g2.pl]) (.inl rfl)
  obtain⟨s1,s2,s3⟩:=result_q (neg:=decide (z1<0)) t3 (cap_add b1 b2 (by omega))
  have e4:=fun{H K}=>s2.c (H:=H) (K:=K) fn100 rfl (by simp[t3.pl,plain_b]) (.inl rfl)
  have hz:(if decide (z1<0)=true then -((z1.natAbs+z2.natAbs:Nat):Int)else((z1.natAbs+z2.natAbs:Nat):Int))=z1+z2:=by
   have:=decide_eq_decide.1 hs
   by_cases a:z1<0<;>simp[a]<;>omega
  rw[hz]at s3
  obtain⟨y,rfl,hy⟩:=s3.h
  have ef:=fun m H=>flat_freeze hy.sl.flat m H
  have c1:(decide (z1<0)==decide (z2<0))=true:=by rw[hs];simp
  refine⟨_,.body (vf:=v106) fn106 rfl ?_,s3⟩
  simp(disch:=omega) only[go_sem,Nat.reduceAdd,Nat.reduceSub,v106,c1,e3,e4,ef]
 ·have c1:(decide (z1<0)==decide (z2<0))=false:=by simpa using hs
  have hne : ¬ (z1<0↔z2<0):=fun h=>hs (decide_eq_decide.2 h)
  have ec:=fun{H K}=>(compare_q g1 g2 (by omega) (by omega)).c (H:=H) (K:=K) fn61 rfl (by simp[g1.pl,g2.pl]) (.inl rfl)
  by_cases hc:z2.natAbs <= z1.natAbs
  ·have c2:(0:Int) <= sgn z1.natAbs z2.natAbs:=by
    rcases Nat.lt_or_ge z2.natAbs z1.natAbs with c|c
    ·rw[sgn_gt c];omega
    ·rw[sgn_eq (by omega)];omega
   obtain⟨t1,t2,t3⟩:=minus_q g1 g2 hc l1
   have e3:=fun{H K}=>t2.c (H:=H) (K:=K) fn104 rfl (by simp[g1.pl,g2.pl]) (.inl rfl)
   obtain⟨s1,s2,s3⟩:=result_q (neg:=decide (z1<0)) t3 (Nat.lt_of_le_of_lt (Nat.sub_le _ _) (cap_up b1 (by omega)))
   have e4:=fun{H K}=>s2.c (H:=H) (K:=K) fn100 rfl (by simp[t3.pl,plain_b]) (.inl rfl)
   have hz:(if decide (z1<0)=true then -((z1.natAbs-z2.natAbs:Nat):Int)else((z1.natAbs-z2.natAbs:Nat):Int))=z1+z2:=by
    by_cases a:z1<0<;>simp[a]<;>omega
   rw[hz]at s3
   obtain⟨y,rfl,hy⟩:=s3.h
   have ef:=fun m H=>flat_freeze hy.sl.flat m H
   refine⟨_,.body (vf:=v106) fn106 rfl ?_,s3⟩
   simp(disch:=omega) only[go_sem,Nat.reduceAdd,Nat.reduceSub,v106,c1,ec,c2,e3,e4,ef]
  ·have c2 : ¬ (0:Int) <= sgn z1.natAbs z2.natAbs:=by rw[sgn_lt (by omega)];omega
   obtain⟨t1,t2,t3⟩:=minus_q g2 g1 (by omega) l2
   have e3:=fun{H K}=>t2.c (H:=H) (K:=K) fn104 rfl (by simp[g1.pl,g2.pl]) (.inl rfl)
   obtain⟨s1,s2,s3⟩:=result_q (neg:=decide (z2<0)) t3 (Nat.lt_of_le_of_lt (Nat.sub_le _ _) (cap_up b2 (by omega)))
   have e4:=fun{H K}=>s2.c (H:=H) (K:=K) fn100 rfl (by simp[t3.pl,plain_b]) (.inl rfl)
   have hz:(if decide (z2<0)=true then -((z2.natAbs-z1.natAbs:Nat):Int)else((z2.natAbs-z1.natAbs:Nat):Int))=z1+z2:=by
    by_cases a:z2<0<;>simp[a]<;>omega
   rw[hz]at s3
   obtain⟨y,rfl,hy⟩:=s3.h
   have ef:=fun m H=>flat_freeze hy.sl.flat m H
   refine⟨_,.body (vf:=v106) fn106 rfl ?_,s3⟩
   simp(disch:=omega) only[go_sem,Nat.reduceAdd,Nat.reduceSub,v106,c1,ec,c2,e3,e4,ef]
theorem add_q {z1 z2:Int} {d1 d2:D} (h1:Wh z1 d1) (h2:Wh z2 d2) (b1:z1.natAbs<cap 1023) (b2:z2.natAbs<cap 1023) : ∃ d,PRet VS 63 [d1,d2] (.tu [d,.i .i64 0]) /\ Wh (z1+z2) d:=by
 obtain⟨y1,rfl,g1⟩:=h1.h
 obtain⟨y2,rfl,g2⟩:=h2.h
 have c1:=cap_up b1 (show 1023 <= 1024 by omega)
 have c2:=cap_up b2 (show 1023 <= 1024 by omega)
 have e0:=fun{H K}=>av2_c g1 g2 c1 c2 (H:=H) (K:=K)
 obtain⟨p1,p2,p3⟩:=pack_q g1 (cap_b16 b1 (by omega))
 obtain⟨r1,r2,r3⟩:=pack_q g2 (cap_b16 b2 (by omega))
 have e1:=fun{H K}=>p2.c (H:=H) (K:=K) fn62 rfl g1.p1 (.inl rfl)
 have e2:=fun{H K}=>r2.c (H:=H) (K:=K) fn62 rfl g2.p1 (.inl rfl)
 obtain⟨s1,s2,s3⟩:=sum_q p3 r3 b1 b2
 have e4:=fun{H K}=>s2.c (H:=H) (K:=K) fn106 rfl (by simp[p3.pl,r3.pl,plain_b]) (.inl rfl)
 obtain⟨y,rfl,hy⟩:=s3.h
 have ef:=fun m H=>flat_freeze hy.sl.flat m H
 refine⟨_,.body (vf:=v63) fn63 rfl ?_,s3⟩
 simp(disch:=omega) only[go_sem,Nat.reduceAdd,Nat.reduceSub,Nat.reduceLeDiff,Nat.reduceLT,v63,e0,e1,e2,e4,ef]
theorem gcd_w {z1 z2:Int} {d1 d2:D} (h1:Wh z1 d1) (h2:Wh z2 d2) (b1:z1.natAbs<cap 1024) (b2:z2.natAbs<cap 1024) : ∃ d,PRet VS 98 [d1,d2] (.tu [d,.i .i64 0]) /\ Wh (Nat.gcd z1.natAbs z2.natAbs:Nat) d:=by
 obtain⟨y1,rfl,g1⟩:=h1.h
 obtain⟨y2,rfl,g2⟩:=h2.h
 have e0:=fun{H K}=>av2_c g1 g2 b1 b2 (H:=H) (K:=K)
 obtain⟨p1,p2,p3⟩:=pack_q g1 (cap_b16 b1 (by omega))
 obtain⟨r1,r2,r3⟩:=pack_q g2 (cap_b16 b2 (by omega))
 have e1:=fun{H K}=>p2.c (H:=H) (K:=K) fn62 rfl g1.p1 (.inl rfl)
 have e2:=fun{H K}=>r2.c (H:=H) (K:=K) fn62 rfl g2.p1 (.inl rfl)
 obtain⟨t1,t2,t3⟩:=gcd_q p3 r3 (cap_big b1 (by omega)) (cap_big b2 (by omega))
 have e3:=fun{H K}=>t2.c (H:=H) (K:=K) fn128 rfl (by simp[p3.pl,r3.pl]) (.inl rfl)
 have hb:(ds 4294967296 (Nat.gcd z1.natAbs z2.natAbs)).length<1000000000:=by
  by_cases h0:z1.natAbs=0
  ·rw[h0,Nat.gcd_zero_left];exact cap_big b2 (by omega)
  ·exact Nat.lt_of_le_of_lt (ds_mono h32 (Nat.gcd_le_left _ (by omega))) (cap_big b1 (by omega))
 obtain⟨s1,s2,s3⟩:=unpack_q (neg:=false) t3.sl (lm_ds h32 _) (by omega)
 rw[vl_ds h32]at s3
 have e4:=fun{H K}=>s2.c (H:=H) (K:=K) fn105 rfl (by simp[t3.pl,plain_b]) (.inl rfl)
 simp only[Bool.false_eq_true,if_false]at s3
 obtain⟨y,rfl,hy⟩:=s3.h
 have ef:=fun m H=>flat_freeze hy.sl.flat m H
 refine⟨_,.body (vf:=v98) fn98 rfl ?_,s3⟩
 simp(disch:=omega) only[go_sem,Nat.reduceAdd,Nat.reduceSub,Nat.reduceLT,v98,e0,e1,e2,e3,e4,ef]
theorem divmod_q {z1:Int} {n2:Nat} {d1 d2:D} (h1:Wh z1 d1) (h2:Wh (n2:Int) d2) (h0:n2≠0) (b1:z1.natAbs<cap 1023) (b2:n2<cap 1024) : ∃ d e,PRet VS 59 [d1,d2] (.tu [d,e,.i .i64 0]) /\ Wh (z1/n2) d /\ Wh (z1%n2) e:=by
 obtain⟨y1,rfl,g1⟩:=h1.h
 obtain⟨y2,rfl,g2⟩:=h2.h
 have e0:=fun{H K}=>av2_c g1 g2 (cap_up b1 (by omega)) b2 (H:=H) (K:=K)
 obtain⟨p1,p2,p3⟩:=pack_q g1 (cap_b16 b1 (by omega))
 obtain⟨r1,r2,r3⟩:=pack_q g2 (cap_b16 b2 (by omega))
 have e1:=fun{H K}=>p2.c (H:=H) (K:=K) fn62 rfl g1.p1 (.inl rfl)
 have e2:=fun{H K}=>r2.c (H:=H) (K:=K) fn62 rfl g2.p1 (.inl rfl)
 have nn:((n2:Int)).natAbs=n2:=rfl
 have hn2:decide ((n2:Int)<0)=false:=by simp
 rw[nn]at r3 g2
 rw[hn2]at e0
 have hl2 : ¬ ((ds 65536 n2).length:Int)=0:=by have:=ds_pos h16 h0;omega
 obtain⟨q,r,t2,hq,hr⟩:=divide_q p3 r3 h0 (cap_big b1 (by omega)) (cap_big b2 (by omega))
 have e3:=fun{H K}=>t2.c (H:=H) (K:=K) fn102 rfl (by simp[p3.pl,r3.pl]) (.inl rfl)
 have em:z1=(if z1<0 then -((z1.natAbs:Nat):Int)else(z1.natAbs:Nat)):=by split<;>omega
 have dm:=Nat.div_add_mod z1.natAbs n2
 have hml:=Nat.mod_lt z1.natAbs (show 0<n2 by omega)
 have hdl:z1.natAbs/n2 <= z1.natAbs:=Nat.div_le_self _ _
 have hqb:(ds 4294967296 (z1.natAbs/n2)).length<1000000000:=Nat.lt_of_le_of_lt (ds_mono h32 hdl) (cap_big b1 (by omega))
 have hrb:(ds 4294967296 (z1.natAbs%n2)).length<1000000000:=Nat.lt_of_le_of_lt (ds_mono h32 (Nat.le_of_lt hml)) (cap_big b2 (by omega))
 obtain⟨Q,hQ⟩ : ∃ Q,Q=z1.natAbs/n2:=⟨_,rfl⟩
 obtain⟨R,hR⟩ : ∃ R,R=z1.natAbs%n2:=⟨_,rfl⟩
 rw[<- hQ, <- hR]at dm
 rw[<- hQ]at hq hqb hdl
 rw[<- hR]at hr hrb hml
 by_cases hz:z1<0
 ·have d1:decide (z1<0)=true:=by simp[hz]
  rw[d1]at e0
  rw[d1]
  by_cases hr0:R=0
  ·obtain ⟨s1,s2,s3⟩:=unpack_q (neg:=true) hq.sl (lm_ds h32 _) (by omega)
   obtain⟨t1,t2',t3⟩:=unpack_q (neg:=false) hr.sl (lm_ds h32 _) (by omega)
   rw[vl_ds h32]at s3 t3
   have e4:=fun{H K}=>s2.c (H:=H) (K:=K) fn105 rfl (by simp[hq.pl,plain_b]) (.inl rfl)
   have e5:=fun{H K}=>t2'.c (H:=H) (K:=K) fn105 rfl (by simp[hr.pl,plain_b]) (.inl rfl)
   have f1:(if true=true then -(Q:Int)else(Q:Int))=z1/n2:=by
    have:z1=n2*(-(Q:Int)):=by
     have:(z1.natAbs:Int)=n2*Q:=by rw[<- dm,hr0];simp
     grind
    rw[this,Int.mul_ediv_cancel_left _ (by omega)];simp
   have f2:(if false=true then -(R:Int)else(R:Int))=z1%n2:=by
    have:z1=n2*(-(Q:Int)):=by
     have:(z1.natAbs:Int)=n2*Q:=by rw[<- dm,hr0];simp
     grind
    rw[this,Int.mul_emod_right,hr0];simp
   rw[f1]at s3
   rw[f2]at t3
   obtain⟨w1,rfl,hw1⟩:=s3.h
   obtain⟨w2,rfl,hw2⟩:=t3.h
   have ef:=fun m H=>flat_freeze hw1.sl.flat m H
   have eg:=fun m H=>flat_freeze hw2.sl.flat m H
   have hl3:((ds 4294967296 R).length:Int)=0:=by rw[hr0,ds_zero];rfl
   refine⟨_,_,.body (vf:=v59) fn59 rfl ?_,s3,t3⟩
   simp(disch:=omega) only[go_sem,Nat.reduceAdd,Nat.reduceSub,Nat.reduceLeDiff,Nat.reduceLT,Int.reduceLT,v59,e0,e1,e2,e3,g2.sl.n,hr.sl.n,hl2,hl3,hn2,e4,e5,ef,eg]
  ·obtain ⟨a1,a2,a3⟩:=plus_q hq (b:=1) (y := .im 1 [[.i .u32 1]]) ⟨by rw[ds_step h32 (by omega)];simp only[Nat.reduceMod,Nat.reduceDiv,ds_zero];exact .im⟩ hqb (by rw[ds_step h32 (by omega)];simp only[Nat.reduceMod,Nat.reduceDiv,ds_zero];simp)
   have e6:=fun{H K}=>CallQ_p (V:=VS) (vf:=v103) (args:=[q,.sv 1 [[.i .u32 1]]]) (H:=H) (H1:=H) (K:=K) fn103 rfl a2 (by
    have eq:=fun m H=>flat_freeze hq.sl.flat m H
    simp only[go_sem,Nat.reduceAdd,eq])
   obtain⟨m1,m2,m3⟩:=minus_q r3 hr (by omega) (cap_big b2 (by omega))
   have e7:=fun{H K}=>m2.c (H:=H) (K:=K) fn104 rfl (by simp[r3.pl,hr.pl]) (.inl rfl)
   obtain ⟨s1,s2,s3⟩:=unpack_q (neg:=true) a3.sl (lm_ds h32 _) (by
    have:(ds 4294967296 (Q+1)).length <= 4096:=cap_32 (k:=4096) (cap_up (cap_add (n:=1024) (Nat.lt_of_le_of_lt hdl b1) (Nat.lt_of_lt_of_le (show 1<65536 ^ 1 by omega) (cap_le (show 1 <= 1023 by omega))) (by omega)) (by omega))
    omega)
   obtain⟨t1,t2',t3⟩:=unpack_q (neg:=false) m3.sl (lm_ds h32 _) (by have:=ds_mono h32 (Nat.sub_le n2 R);have:=cap_big b2 (by omega);omega)
   rw[vl_ds h32]at s3 t3
   have e4:=fun{H K}=>s2.c (H:=H) (K:=K) fn105 rfl (by simp[a3.pl,plain_b]) (.inl rfl)
   have e5:=fun{H K}=>t2'.c (H:=H) (K:=K) fn105 rfl (by simp[m3.pl,plain_b]) (.inl rfl)
   have ez:z1=((n2-R:Nat):Int)+n2*(-((Q:Int)+1)):=by
    have:(z1.natAbs:Int)=n2*Q+R:=by rw[<- dm];simp
    have:((n2-R:Nat):Int)=n2-R:=by omega
    grind
   have f1:(if true=true then -((Q+1:Nat):Int)else((Q+1:Nat):Int))=z1/n2:=by
    rw[ez,Int.add_mul_ediv_left _ _ (by omega),Int.ediv_eq_zero_of_lt (by omega) (by omega)];simp
   have f2:(if false=true then -((n2-R:Nat):Int)else((n2-R:Nat):Int))=z1%n2:=by
    conv=>rhs;rw[ez]
    rw[Int.add_mul_emod_self_left,Int.emod_eq_of_lt (by omega) (by omega)];simp
   rw[f1]at s3
   rw[f2]at t3
   obtain⟨w1,rfl,hw1⟩:=s3.h
   obtain⟨w2,rfl,hw2⟩:=t3.h
   have ef:=fun m H=>flat_freeze hw1.sl.flat m H
   have eg:=fun m H=>flat_freeze hw2.sl.flat m H
   have hl3:(0:Int)<((ds 4294967296 R).length:Int):=by have:=ds_pos h32 hr0;omega
   refine⟨_,_,.body (vf:=v59) fn59 rfl ?_,s3,t3⟩
   simp(disch:=omega) only[go_sem,Nat.reduceAdd,Nat.reduceSub,Nat.reduceLeDiff,Nat.reduceLT,v59,e0,e1,e2,e3,g2.sl.n,hr.sl.n,hl2,hl3,hn2,v103,e6,e7,e4,e5,ef,eg]
 ·have d1:decide (z1<0)=false:=by simp[hz]
  rw[d1]at e0
  rw[d1]
  obtain⟨s1,s2,s3⟩:=unpack_q (neg:=false) hq.sl (lm_ds h32 _) (by omega)
  obtain⟨t1,t2',t3⟩:=unpack_q (neg:=false) hr.sl (lm_ds h32 _) (by omega)
  rw[vl_ds h32]at s3 t3
  have e4:=fun{H K}=>s2.c (H:=H) (K:=K) fn105 rfl (by simp[hq.pl,plain_b]) (.inl rfl)
  have e5:=fun{H K}=>t2'.c (H:=H) (K:=K) fn105 rfl (by simp[hr.pl,plain_b]) (.inl rfl)
  have ez:z1=((z1.natAbs:Nat):Int):=by omega
  have f1:(if false=true then -(Q:Int)else(Q:Int))=z1/n2:=by
   rw[ez,hQ];simp
  have f2:(if false=true then -(R:Int)else(R:Int))=z1%n2:=by
   rw[ez,hR];simp
  rw[f1]at s3
  rw[f2]at t3
  obtain⟨w1,rfl,hw1⟩:=s3.h
  obtain⟨w2,rfl,hw2⟩:=t3.h
  have ef:=fun m H=>flat_freeze hw1.sl.flat m H
  have eg:=fun m H=>flat_freeze hw2.sl.flat m H
  refine⟨_,_,.body (vf:=v59) fn59 rfl ?_,s3,t3⟩
  simp(disch:=omega) only[go_sem,Nat.reduceAdd,Nat.reduceSub,Nat.reduceLeDiff,Nat.reduceLT,v59,e0,e1,e2,e3,g2.sl.n,hl2,hn2,e4,e5,ef,eg]
open Go.Dm
def isgn (a b:Int):Int:=if a<b then -1 else if a=b then 0 else 1
theorem cmp_q {z1 z2:Int} {d1 d2:D} (h1:Wh z1 d1) (h2:Wh z2 d2) (b1:z1.natAbs<cap 1024) (b2:z2.natAbs<cap 1024):PRet VS 27 [d1,d2] (.i .i64 (isgn z1 z2)):=by
 obtain⟨y1,rfl,g1⟩:=h1.h
 obtain⟨y2,rfl,g2⟩:=h2.h
 have e0:=fun{H K}=>av2_c g1 g2 b1 b2 (H:=H) (K:=K)
 obtain⟨p1,p2,p3⟩:=pack_q g1 (cap_b16 b1 (by omega))
 obtain⟨r1,r2,r3⟩:=pack_q g2 (cap_b16 b2 (by omega))
 have e1:=fun{H K}=>p2.c (H:=H) (K:=K) fn62 rfl g1.p1 (.inl rfl)
 have e2:=fun{H K}=>r2.c (H:=H) (K:=K) fn62 rfl g2.p1 (.inl rfl)
 have l1:=cap_big b1 (by omega)
 have l2:=cap_big b2 (by omega)
 have ec:=fun{H K}=>(compare_q p3 r3 (by omega) (by omega)).c (H:=H) (K:=K) fn61 rfl (by simp[p3.pl,r3.pl]) (.inl rfl)
 refine .body (vf:=v27) fn27 rfl ?_
 rcases Int.lt_or_le z1 0 with a|a<;>rcases Int.lt_or_le z2 0 with b|b
 ·have d1:decide (z1<0)=true:=by simp[a]
  have d2:decide (z2<0)=true:=by simp[b]
  rw[d1,d2]at e0
  have hi:isgn z1 z2 = - sgn z1.natAbs z2.natAbs:=by unfold isgn sgn;split<;>split<;>(try split)<;>(try split)<;>omega
  have hw:IntKind.i64.wrap (0-sgn z1.natAbs z2.natAbs) = - sgn z1.natAbs z2.natAbs:=by
   have:sgn z1.natAbs z2.natAbs = -1 \/ sgn z1.natAbs z2.natAbs=0 \/ sgn z1.natAbs z2.natAbs=1:=by unfold sgn;split;simp;split<;>simp
   rw[wr (by omega) (by omega)];omega
  rw[hi]
  simp(disch:=omega) only[go_sem,Nat.reduceAdd,Nat.reduceSub,Nat.reduceLeDiff,Nat.reduceLT,Int.reduceNeg,v27,d1,d2,e0,e1,e2,ec,hw]
 ·have d1:decide (z1<0)=true:=by simp[a]
  have d2:decide (z2<0)=false:=by simp;omega
  rw[d1,d2]at e0
  have hi:isgn z1 z2 = -1:=by unfold isgn;split<;>omega
  rw[hi]
  simp(disch:=omega) only[go_sem,Nat.reduceAdd,Nat.reduceSub,Nat.reduceLeDiff,Nat.reduceLT,Int.reduceNeg,v27,d1,d2,e0]
 ·have d1:decide (z1<0)=false:=by simp;omega
  have d2:decide (z2<0)=true:=by simp[b]
  rw[d1,d2]at e0
  have hi:isgn z1 z2=1:=by unfold isgn;split<;>(try split)<;>omega
  rw[hi]
  simp(disch:=omega) only[go_sem,Nat.reduceAdd,Nat.reduceSub,Nat.reduceLeDiff,Nat.reduceLT,Int.reduceNeg,v27,d1,d2,e0]
 ·have d1:decide (z1<0)=false:=by simp;omega
  have d2:decide (z2<0)=false:=by simp;omega
  rw[d1,d2]at e0
  have hi:isgn z1 z2=sgn z1.natAbs z2.natAbs:=by unfold isgn sgn;split<;>split<;>(try split)<;>(try split)<;>omega
  rw[hi]
  simp(disch:=omega) only[go_sem,Nat.reduceAdd,Nat.reduceSub,Nat.reduceLeDiff,Nat.reduceLT,Int.reduceNeg,v27,d1,d2,e0,e1,e2,ec]
theorem clone16_q {l:List Nat} {x:D} (h:Sl 1 (l.map u16) x) (hn:l.length<70368744177665) : ∃ d,PRet VS 70 [x] d /\ Sl 1 (l.map u16) d:=by
 refine PurQ.ex (.body (vf:=v70) fn70 rfl ?_)
 have ea:=app_all (enc:=u16) (w:=1) (bytes:=2) (l:=l) (y:=x) (x0 := .z) rfl h (fun _=>rfl) (by omega) (by omega) (H:=[])
 have hs:Sl 1 (l.map u16) (imD .z 1 (l.map u16)):=imD_sl rfl 1 _
 have hf:frzR (bH [] 1 (l.map u16)) (bD [] .z (l.map u16))=some (imD .z 1 (l.map u16)):=bD_frz rfl
 by_cases hx:x = .nil
 ·subst hx
  have e1:eqvD false .sl .nil .nil=some (.b true):=rfl
  simp(disch:=omega) only[go_sem,Nat.reduceSub,v70,e1]
  exact h
 ·have e1:eqvD false .sl x .nil=some (.b false):=by
   cases h with
   | nil=>exact absurd rfl hx
   | z=>rfl
   | im=>rfl
  simp(disch:=omega) only[go_sem,Nat.reduceSub,v70,e1,ea,hf]
  exact hs
structure FromI (S:Nat) (n:Int) (a2:D) (i:Nat) (s:St):Prop where
 h : ∃ ws c a3 a4 a8,ws.length=4 /\ lm 65536 ws /\ c <= i /\ i <= 4 /\ vl 65536 ws=S%65536 ^ i /\ (∀ k,c <= k -> k<4 -> ws[k]! = 0) /\ (c≠0 -> ws[c-1]! ≠ 0) /\
  s=⟨[.i .i64 n,.bx [.b false,.nil],a2,a3,a4,.i .u64 (S:Int),.i .i64 (c:Int),.i .i64 (i:Int),a8,.aa 0],[.ar 1 (ws.map u16) (some 4) true false]⟩
theorem shr16 {S i:Nat} (hi:i<4):bin .shr (.i .u64 (S:Int)) (.i .i64 (16*(i:Int)))=some (.i .u64 ((S/65536 ^ i:Nat):Int)):=by
 rw[show 16*(i:Int)=((16*i:Nat):Int)by omega,bin_shrN (by show 16*i<64;omega),Nat.pow_mul]
theorem wh_fromInt {n:Int} (hn : -9223372036854775808 <= n /\ n<9223372036854775808) : ∃ d,PRet VS 30 [.i .i64 n] d /\ Wh n d:=by
  obtain⟨S,hS⟩ : ∃ S,S=n.natAbs:=⟨_,rfl⟩
  have key : ∀ {a2:D},Run VS (.loop v30l0) ⟨[.i .i64 n,.bx [.b false,.nil],a2,.u,.u,.i .u64 (S:Int),.i .i64 0,.i .i64 0,.u,.aa 0],[.ar 1 [[.i .u16 0],[.i .u16 0],[.i .u16 0],[.i .u16 0]] (some 4) true false]⟩ (BlockQ 0 (SeqQ VS (.seq (.reg [⟨.mov (.s 0),none,none⟩,
 ⟨.bin .lss (.l 0) (.c (.i .i64 0)),none,none⟩,
 ⟨.mov (.s 6),none,none⟩,
 ⟨.sla (.s 9) 4 1 none (some (.l 2)),none,none⟩,
 ⟨.call 70 [(.l 3)],none,none⟩,
 ⟨.agc [(.b false),.nil] [(0,1,(.l 1)),(1,1,(.l 4))],none,none⟩,
 ⟨.lst (.sl 1) (.l 5) 2,none,none⟩] none) .ret) (ResQ [.bx 1 2 true] (PurK false fun r => ∃ d,r = .ret d /\ Wh n d)))):=by
    intro a2
    refine Run.up (FromI S n a2) 4 ⟨[0,0,0,0],0,_,_,_,rfl,by intro a ha;simp at ha;omega,by omega,by omega,by rw[Nat.pow_zero,Nat.mod_one];rfl,fun k _ hk=>by
      rcases k with _|_|_|_|k<;>first|rfl|omega,fun h=>absurd rfl h,rfl⟩ ?_
    rintro i s hi ⟨ws,c,a3,a4,a8,hwl,hwm,hc,hi4,hv,hz,ht,rfl⟩
    by_cases hlt:i<4
    · have c1:(i:Int)<4:=by omega
      obtain⟨v,hv'⟩ : ∃ v,v=S/65536 ^ i%65536:=⟨_,rfl⟩
      have e1:=shr16 (S:=S) hlt
      have e2:IntKind.u16.wrap ((S/65536 ^ i:Nat):Int)=(v:Int):=by rw[w16m,hv']
      have hvl:v<65536:=by omega
      have g1:=vl_set (B:=65536) (l:=ws) (i:=i) (v:=v) (by omega)
      rw[hz i hc hlt,Nat.mul_zero,Nat.add_zero]at g1
      have gget:(ws.set i v)[i]! = v:=by rw[getElem!_pos _ _ (by rw[List.length_set];omega),List.getElem_set_self]
      have gne : ∀ k,k≠i -> k<4 -> (ws.set i v)[k]! = ws[k]! := fun k hk hk4=>by
        rw[getElem!_pos _ _ (by rw[List.length_set];omega),List.getElem_set_ne (by omega), <- getElem!_pos ws k (by omega)]
      have hv2:vl 65536 (ws.set i v)=S%65536 ^ (i+1):=by rw[g1,hv,hv',Nat.mod_pow_succ]
      simp(disch:=omega) only[go_sem,v30l0,c1,wr,e1,e2,u16,hwl,set16,gget]
      by_cases h0:v=0
      · have d1:(v:Int)=0:=by omega
        simp(disch:=omega) only[go_sem,d1]
        repeat' first|(refine And.intro ?_ ?_)|intro _
        all_goals try omega
        refine⟨ws.set i v,c,_,_,_,by simp[hwl],lm_set hwm hvl,by omega,by omega,hv2,fun k h3 h4 => ?_,fun hc0 => ?_,by rw[h0];rfl⟩
        · by_cases hk:k=i
          · rw[hk,gget,h0]
          · rw[gne k hk h4];exact hz k h3 h4
        · rw[gne (c-1) (by omega) (by omega)];exact ht hc0
      · have d1 : ¬ (v:Int)=0:=by omega
        simp(disch:=omega) only[go_sem,d1]
        repeat' first|(refine And.intro ?_ ?_)|intro _
        all_goals try omega
        refine⟨ws.set i v,i+1,_,_,_,by simp[hwl],lm_set hwm hvl,by omega,by omega,hv2,fun k h3 h4 => ?_,fun hc0 => ?_,rfl⟩
        · rw[gne k (by omega) h4];exact hz k (by omega) h4
        · rw[Nat.add_sub_cancel,gget];exact h0
    · have hi4':i=4:=by omega
      subst hi4'
      have hSb:S<65536 ^ 4:=by omega
      rw[Nat.mod_eq_of_lt hSb]at hv
      have hds:ds 65536 S=ws.take c:=by
        rw[<- hv]
        refine ds_drop h16 hwm (by omega) ?_ ?_
        · exact vl_drop0 (by rw[hwl];exact hz)
        · by_cases hc0:c=0
          · rw[hc0];exact fun h=>absurd rfl h
          · have:=dgt_tp (l:=ws) (k:=c-1) (by omega) (ht hc0)
            rwa [show c-1+1=c by omega]at this
      have hcl:(ws.take c).length=c:=by rw[List.length_take];omega
      obtain⟨d,hd1,hd2⟩:=clone16_q (l:=ws.take c) (x := .im 1 ((ws.take c).map u16)) .im (by omega)
      have c1 : ¬ ((4:Nat):Int)<4:=by omega
      simp(disch:=omega) only[go_sem,Nat.reduceAdd,Nat.reduceLT,Int.reduceLT,v30l0,hwl,Int.cast_ofNat_Int]
      refine⟨⟨by omega,by omega⟩,CallQ.fzr (vf:=v70) fn70 rfl rfl hd1 ⟨_,by simp(disch:=omega) only[go_sem,Nat.reduceAdd,hwl,hc,List.map_take];rfl⟩ (fun H' => ?_)⟩
      have ef:=fun m H=>flat_freeze hd2.flat m H
      simp(disch:=omega) only[go_sem,Nat.reduceAdd,Nat.reduceLeDiff,hd2.c1,ef]
      exact⟨d,rfl,⟨by rw[<- hS,hds];exact hd2⟩⟩
  refine PurQ.ex (.body (vf:=v30) fn30 rfl ?_)
  by_cases h0:n<0
  · have e1:IntKind.u64.wrap (0-IntKind.u64.wrap n)=(S:Int):=by rw[w64i,w64i];omega
    have:=key (a2 := .b true)
    simp(disch:=omega) only[go_sem,Nat.reduceAdd,Nat.reduceSub,v30,h0,e1]
    exact this
  · have e1:IntKind.u64.wrap n=(S:Int):=by rw[w64i];omega
    have:=key (a2 := .b false)
    simp(disch:=omega) only[go_sem,Nat.reduceAdd,Nat.reduceSub,v30,h0,e1]
    exact this
open Go.Dm
theorem back16_q {l:List Nat} {x:D} {t:Nat} (hx:Sl 1 (l.map u16) x) (hl:l.length<1099511627776) {y c:Nat} {I:Nat -> Heap -> Prop} (hbox : ∀ i H,I i H -> H[c]?=some (.hb t [x]))
  (hs : ∀ i H,i<l.length -> I (i+1) H -> CallQ VS yF [.yl y,.i .u16 (l[i]! : Int)] H (fun r => ∃ H',r = .ret (.b true) H' /\ I i H')) {H:Heap} (h0:I l.length H):CallQ VS 107 [.yl y,.hp c 0] H (fun r => ∃ d H',r = .ret d H' /\ I 0 H'):=by
 refine .body (vf:=v107) fn107 rfl rfl ?_
 simp(disch:=omega) only[go_sem,Nat.reduceSub,v107,hbox _ _ h0,hx.n]
 refine Run.loop (BackI l.length y c 261 x I) l.length ⟨Nat.le_refl _,.u,.u,H,by rw[wr (by omega) (by omega)],h0⟩ ?_
 rintro k s ⟨hk,a2,a3,H',rfl,hI⟩
 rcases k with _|k
 ·simp(disch:=omega) only[go_sem,Int.reduceLE,Int.reduceNeg,Int.reduceSub,v107l0,Int.natCast_zero]
  exact⟨_,_,⟨rfl,rfl⟩,hI⟩
 ·have e:(((k+1:Nat):Int)-1)=(k:Int):=by omega
  rw[e]
  simp(disch:=omega) only[go_sem,v107l0,hbox _ _ hI,hx.q,u16]
  refine⟨fun _=>⟨⟨by omega,by omega⟩,(hs k H' (by omega) hI).mono ?_⟩,fun h=>absurd (by omega) h⟩
  rintro r ⟨H2,rfl,hI2⟩
  simp(disch:=omega) only[go_sem,wr]
  exact⟨k,by omega,by omega,_,_,H2,rfl,hI2⟩
theorem back16_fn {x:D} {H:Heap} {rows:List (List D)} (hx:Sl 1 rows x):CallQ VS 72 [x] H (fun r=>r = .ret (.fn (.func 107) [] [.hp H.length 0]) (H++[.hb 24 [x]])):=by
 refine .body (vf:=v72) fn72 rfl rfl ?_
 simp(disch:=omega) only[go_sem,Nat.reduceSub,v72,hx.c1]
theorem i64i {x:Int}:IntKind.wrap .i64 x=if 9223372036854775808 <= x%18446744073709551616 then x%18446744073709551616-18446744073709551616 else x%18446744073709551616:=by
 have e:IntKind.wrap .i64 x=if(true&&decide (x%18446744073709551616 >= 9223372036854775808))=true then x%18446744073709551616-18446744073709551616 else x%18446744073709551616:=rfl
 rw[e];simp
def iok (z:Int):Bool:=decide (-9223372036854775808 <= z /\ z<9223372036854775808)
theorem vl16_lt {l:List Nat} (h:lm 65536 l) (hl:l.length <= 4):vl 65536 l<18446744073709551616:=by
 have:=vl_lt h16 h
 have:65536 ^ l.length <= 65536 ^ 4:=Nat.pow_le_pow_right (by omega) hl
 omega
theorem int_q {z:Int} {d:D} (h:Wh z d) (hz:z.natAbs<cap 1024):PRet VS 34 [d] (.tu [.i .i64 (if iok z then z else 0),.i .i64 (if iok z then 0 else 3)]):=by
 obtain⟨y,rfl,hy⟩:=h.h
 have hs:=hy.sl
 have hm:=lm_ds h16 z.natAbs
 have hv:=vl_ds h16 z.natAbs
 have hlen:=cap_len.2 hz
 have e1:=fun{H K}=>(whvalid_q hy hz).c (H:=H) (K:=K) fn53 rfl (by simp[plain_ag,flat_b,hs.flat]) (.inl rfl)
 have ef:=fun m H=>flat_freeze hs.flat m H
 refine PRet.iff_q.2 (.bodyR (vf:=v34) fn34 rfl rfl ?_)
 by_cases hl:(ds 65536 z.natAbs).length <= 4
 ·have hS:=vl16_lt hm hl
  rw[hv]at hS
  generalize ds 65536 z.natAbs=l at *
  have c1 : ¬ (4:Int)<(l.length:Int):=by omega
  have es : ∀ c:D,stAt [.hb 26 [.b (decide (z<0)),y],.hb 22 [.i .u64 0]] (.hp 1 0) [c]=some [.hb 26 [.b (decide (z<0)),y],.hb 22 [c]]:=fun c=>rfl
  simp(disch:=omega) only[go_sem,Nat.reduceAdd,Nat.reduceSub,v34,e1,hs.n,c1,es]
  refine(back16_fn hs).mono ?_
  rintro r rfl
  simp(disch:=omega) only[go_sem,Nat.reduceAdd]
  rw[Run_rng rn0 rfl (by decide)]
  refine(back16_q (l:=l) (t:=24) hs (by omega) (I:=fun k H=>H=[.hb 26 [.b (decide (z<0)),y],.hb 22 [.i .u64 (vl 65536 (l.drop k):Int)],.hb 24 [y],.df,.yh r0.f r0.path 0 r0.nt r0.tm [.ag [.b (decide (z<0)),y],.i .i64 0,.i .i64 0,.b false,.b false,.fn (.func 107) [] [.hp 2 0],.u,.u,.u,.u,.hp 0 0,.hp 1 0,.u] .rd]) (fun i H h=>by rw[h];rfl) ?_ ?_).mono ?_
  ·rintro i H hi rfl
   refine CallQ.round fnY rfl rn0 ⟨rfl,rfl,rfl,rfl,rfl⟩ ?_
   simp(disch:=omega) only[go_sem,Nat.reduceAdd,r0,setPs]
   have ha:l[i]! < 65536:=lm_get hm hi
   have hvv:vl 65536 (l.drop (i+1))<281474976710656:=by
    have:=vl_lt h16 (lm_drop hm (i+1))
    have:65536 ^ (l.drop (i+1)).length <= 65536 ^ 3:=Nat.pow_le_pow_right (by omega) (by rw[List.length_drop];omega)
    omega
   have e5:=vl_drop (B:=65536) hi
   obtain⟨v,hv'⟩ : ∃ v,v=vl 65536 (l.drop (i+1)):=⟨_,rfl⟩
   rw[<- hv']at hvv e5
   have b1:bin .shl (.i .u64 (v:Int)) (.i .u64 16)=some (.i .u64 ((v*65536:Nat):Int)):=by
    rw[show bin .shl (.i .u64 (v:Int)) (.i .u64 16)=some (.i .u64 (IntKind.u64.wrap ((v*2 ^ 16:Nat):Int)))from bin_shlN (s:=16) (by decide),w64 (by omega)]
   have b2:bin .or (.i .u64 ((v*65536:Nat):Int)) (.i .u64 (l[i]! : Int))=some (.i .u64 ((l[i]! + 65536*v:Nat):Int)):=by
    rw[bin_or64 (by omega) (by omega),show v*65536=v*2 ^ 16 from rfl,shl_or (by omega)];congr 2;omega
   refine⟨_,_,_,_,_,_,rfl, ?_⟩
   have e6:IntKind.u64.wrap (l[i]! : Int)=(l[i]! : Int):=w64 (by omega)
   simp(disch:=omega) only[go_sem,<- hv',b1,b2,e6,e5]
   exact⟨_,_,_,_,_,_,rfl,rfl⟩
  ·rw[List.drop_of_length_le (Nat.le_refl _)];rfl
  ·rintro r ⟨d,H',rfl,rfl⟩
   rw[RngQ_rd rfl]
   rw[List.drop_zero,hv]
   obtain⟨S,hSS⟩ : ∃ S,S=z.natAbs:=⟨_,rfl⟩
   rw[<- hSS]at hS ⊢
   by_cases hneg:z<0
   ·have d1:decide (z<0)=true:=by simp[hneg]
    rw[d1]
    by_cases hb:9223372036854775808<S
    ·have c2:(9223372036854775808:Int)<(S:Int):=by omega
     have hi:iok z=false:=by simp[iok];omega
     simp(disch:=omega) only[go_sem,Nat.reduceAdd,Nat.reduceLeDiff,c2,hi]
    ·have c2 : ¬ (9223372036854775808:Int)<(S:Int):=by omega
     have hi:iok z=true:=by simp[iok];omega
     have e7:IntKind.i64.wrap (IntKind.u64.wrap (0-(S:Int)))=z:=by
      rw[w64i,i64i];omega
     simp(disch:=omega) only[go_sem,Nat.reduceAdd,Nat.reduceLeDiff,c2,hi,e7]
   ·have d1:decide (z<0)=false:=by simp[hneg]
    rw[d1]
    by_cases hb:9223372036854775808 <= S
    ·have c2:(9223372036854775808:Int) <= (S:Int):=by omega
     have hi:iok z=false:=by simp[iok];omega
     simp(disch:=omega) only[go_sem,Nat.reduceAdd,Nat.reduceLeDiff,c2,hi]
    ·have c2 : ¬ (9223372036854775808:Int) <= (S:Int):=by omega
     have hi:iok z=true:=by simp[iok];omega
     have e7:IntKind.i64.wrap (S:Int)=z:=by rw[wr (by omega) (by omega)];omega
     simp(disch:=omega) only[go_sem,Nat.reduceAdd,Nat.reduceLeDiff,c2,hi,e7]
 ·have c1:(4:Int)<((ds 65536 z.natAbs).length:Int):=by omega
  have hb:18446744073709551616 <= z.natAbs:=by
   rcases Nat.lt_or_ge z.natAbs 18446744073709551616 with c|c
   ·exact absurd ((ds_len h16 (k:=4)).2 c) hl
   ·exact c
  have hi:iok z=false:=by simp[iok];omega
  simp(disch:=omega) only[go_sem,Nat.reduceAdd,Nat.reduceSub,v34,e1,hs.n,c1,hi]
end Go.Proofs.YtgefdialaemelaaGreatDoor.Dv
