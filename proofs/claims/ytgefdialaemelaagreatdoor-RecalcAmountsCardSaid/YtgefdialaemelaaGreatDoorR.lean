/-
  Amounts in whole units: the statement,run.
-/
import Derived.Test.YtgefdialaemelaaGreatDoorJ
import Derived.Test.YtgefdialaemelaaGreatDoorQ
import Derived.Test.YtgefdialaemelaaGreatDoorKa
namespace Go.Proofs.YtgefdialaemelaaGreatDoor.Dv
open Go.Dm
theorem kamt_q {n:Int} {d:Nat} (hn:n.natAbs<1152921504606846976) (hd:1 <= d /\ d<1048576) : ∃ s x t y,PRet VS 4 [.i .i64 n,.i .i64 d] (.ag [s,x,t,y]) /\ (s.flat=true /\ x.flat=true /\ t.flat=true /\ y.flat=true) /\
  ((-9223372036854775808 <= rndK 5 (n/(Nat.gcd n.natAbs d:Nat)) (d/Nat.gcd n.natAbs d) /\ rndK 5 (n/(Nat.gcd n.natAbs d:Nat)) (d/Nat.gcd n.natAbs d)<9223372036854775808) -> PRet VS 5 [.ag [.i .u8 3,s,x,t,y,.i .i64 0]] (amtD (rndK 5 (n/(Nat.gcd n.natAbs d:Nat)) (d/Nat.gcd n.natAbs d)))):=by
 obtain⟨r,r1,r2⟩:=kfrac_q (n:=n) (d:=(d:Int)) (by omega) (by omega)
 have nD:((d:Nat):Int).natAbs=d:=rfl
 rw[nD]at r2
 obtain⟨g1,g2,g3,g4,g5,g6⟩:=frac_red (n:=n) (m:=d) (g:=Nat.gcd n.natAbs d) rfl (by omega)
 have l:Low (n/(Nat.gcd n.natAbs d:Nat)) (d/Nat.gcd n.natAbs d):=by
  refine⟨g4,g3,Nat.lt_of_lt_of_le (show _<cap 4 from ?_) (cap_le (by omega)),Nat.lt_of_lt_of_le (show _<cap 2 from ?_) (cap_le (by omega))⟩
  ·exact Nat.lt_of_le_of_lt g5 (show n.natAbs<18446744073709551616 by omega)
  ·exact Nat.lt_of_le_of_lt (Nat.div_le_self _ _) (show d<4294967296 by omega)
 obtain⟨x,y,rfl,wx,wy⟩:=r2.h
 have hF:Fr (n/(Nat.gcd n.natAbs d:Nat)) (d/Nat.gcd n.natAbs d) (.ag [.b (decide (n/(Nat.gcd n.natAbs d:Nat)<0)),x,.b false,y]):=⟨x,y,rfl,wx,wy⟩
 exact⟨_,_,_,_,r1,⟨rfl,wx.sl.flat,rfl,wy.sl.flat⟩,fun hb=>amount_q hF l hb⟩
theorem amt_neg {r:Int} (h:r <= 0):amtD r = .tu [.i .i64 0,.i .i64 0]:=by
 unfold amtD
 by_cases c:r<0
 ·rw[if_pos c]
 ·obtain rfl:r=0:=by omega
  rfl
set_option maxHeartbeats 1000000 in
set_option maxRecDepth 20000 in
theorem law_q {N p o:Nat} (hN:N<18446744073709551616) (hp:p<65536) (ho:o<65536):PRet VS 3 [.i .u64 N,.i .u16 p,.i .u16 o] (.b true):=by
 obtain⟨A,hA⟩ : ∃ A,A=N%2199023255552:=⟨_,rfl⟩
 obtain⟨d,hd⟩ : ∃ d,d=o+1:=⟨_,rfl⟩
 obtain⟨k,hk⟩ : ∃ k,k=p%d:=⟨_,rfl⟩
 have hA1:A<2199023255552:=by rw[hA];exact Nat.mod_lt _ (by decide)
 have hk1:k<d:=by rw[hk];exact Nat.mod_lt _ (by omega)
 obtain⟨M,hM⟩ : ∃ M,M=A*d:=⟨_,rfl⟩
 have hM1:M <= 2199023255551*65536:=by rw[hM];exact Nat.mul_le_mul (by omega) (by omega)
 have m1:(A:Int)*(d:Int)=(M:Int):=by rw[hM,Int.natCast_mul]
 have m2:(-(A:Int))*(d:Int) = -(M:Int):=by rw[Int.neg_mul,m1]
 obtain⟨B,hB⟩ : ∃ B,B=M+k:=⟨_,rfl⟩
 have t1:(N:Int).tmod 2199023255552=(A:Int):=by rw[hA];exact tmodN (a:=N) (b:=2199023255552)
 have t2:(p:Int).tmod (d:Int)=(k:Int):=by rw[hk];exact tmodN
 have d0 : ¬ (d:Int)=0:=by omega
 have w1:IntKind.i64.wrap (A:Int)=(A:Int):=wr (by omega) (by omega)
 have w2:IntKind.i64.wrap (o:Int)=(o:Int):=wr (by omega) (by omega)
 have w3:IntKind.i64.wrap ((o:Int)+1)=(d:Int):=by rw[wr (by omega) (by omega)];omega
 have w4:IntKind.i64.wrap (p:Int)=(p:Int):=wr (by omega) (by omega)
 have w5:IntKind.i64.wrap (M:Int)=(M:Int):=wr (by omega) (by omega)
 have w6:IntKind.i64.wrap ((M:Int)+(k:Int))=(B:Int):=by rw[wr (by omega) (by omega)];omega
 have w7:IntKind.i64.wrap (0-(A:Int)) = -(A:Int):=by rw[wr (by omega) (by omega)];omega
 have w8:IntKind.i64.wrap (-(M:Int)) = -(M:Int):=wr (by omega) (by omega)
 have w9:IntKind.i64.wrap (-(M:Int)-(k:Int)) = -(B:Int):=by rw[wr (by omega) (by omega)];omega
 have w10:IntKind.i64.wrap (2*(k:Int))=2*(k:Int):=wr (by omega) (by omega)
 have w11:IntKind.i64.wrap ((A:Int)+1)=((A+1:Nat):Int):=by rw[wr (by omega) (by omega)];omega
 obtain⟨s,x,t,y,q1,⟨f1,f2,f3,f4⟩,q2⟩:=kamt_q (n:=(B:Int)) (d:=d) (by omega) (by omega)
 obtain⟨s',x',t',y',q1',⟨f1',f2',f3',f4'⟩,q2'⟩:=kamt_q (n := -(B:Int)) (d:=d) (by omega) (by omega)
 have nB:((B:Nat):Int).natAbs=B:=rfl
 have nB':(-(B:Int)).natAbs=B:=by omega
 rw[nB]at q2
 rw[nB']at q2'
 have hr:=rnd_pos (a:=A) (d:=d) (k:=k) hk1 rfl
 rw[show A*d+k=B by omega]at hr
 rw[hr]at q2
 have hg0:0<Nat.gcd B d:=Nat.gcd_pos_of_pos_right _ (by omega)
 have hgd:Nat.gcd B d <= d:=Nat.gcd_le_right _ (by omega)
 have hneg:rndK 5 (-(B:Int)/(Nat.gcd B d:Nat)) (d/Nat.gcd B d) <= 0:=rnd_neg (by
  have:=Int.ediv_le_ediv (show(0:Int)<(Nat.gcd B d:Nat)by omega) (show -(B:Int) <= 0 by omega)
  rwa [Int.zero_ediv]at this) (by have:=Nat.div_pos hgd hg0;omega)
 have hneg2 : -9223372036854775808 <= rndK 5 (-(B:Int)/(Nat.gcd B d:Nat)) (d/Nat.gcd B d):=by
  have h1 : -(B:Int) <= -(B:Int)/(Nat.gcd B d:Nat):=by
   have := @ediv_abs (-(B:Int)) (Nat.gcd B d)
   omega
  have h0 : -(B:Int)/(Nat.gcd B d:Nat) <= 0:=by
   have:=Int.ediv_le_ediv (show(0:Int)<(Nat.gcd B d:Nat)by omega) (show -(B:Int) <= 0 by omega)
   rwa [Int.zero_ediv]at this
  have h2 : ∀ (z:Int) (m:Nat),-(B:Int) <= z -> z <= 0 -> -(B:Int) <= rndK 5 z m:=fun z m hz hz0=>by
   have := @ediv_abs z m
   unfold rndK
   split
   ·omega
   ·split<;>omega
  have:=h2 _ (d/Nat.gcd B d) h1 h0
  omega
 have q2':=q2' ⟨hneg2,by omega⟩
 rw[amt_neg hneg]at q2'
 obtain⟨want,hw⟩ : ∃ want:Nat,want=if d <= 2*k then A+1 else A:=⟨_,rfl⟩
 rw[<- hw]at q2
 have hw1:want <= 2199023255552:=by rw[hw];split<;>omega
 have q2:=q2 (by omega)
 have q3:=amount2_q (s:=s) (x:=x) (t:=t) (y:=y) ⟨f1,f2,f3,f4⟩
 have e1:=fun{H K}=>q1.c (H:=H) (K:=K) fn4 rfl rfl (.inl rfl)
 have e2:=fun{H K}=>q1'.c (H:=H) (K:=K) fn4 rfl rfl (.inl rfl)
 have e3:=fun{H K}=>q2.c (H:=H) (K:=K) fn5 rfl (by simp[plain_ag,flat_i,f1,f2,f3,f4]) (.inl rfl)
 have e4:=fun{H K}=>q2'.c (H:=H) (K:=K) fn5 rfl (by simp[plain_ag,flat_i,f1',f2',f3',f4']) (.inl rfl)
 have e5:=fun{H K}=>q3.c (H:=H) (K:=K) fn5 rfl (by simp[plain_ag,flat_i,f1,f2,f3,f4]) (.inl rfl)
 have aw:=fun{H K}=>awake_c (H:=H) (K:=K)
 refine .body (vf:=v3) fn3 rfl ?_
 by_cases c1:d <= 2*k
 ·have hw:want=A+1:=by rw[hw,if_pos c1]
  have d1:(d:Int) <= 2*(k:Int):=by omega
  by_cases c2:1099511627776<want
  ·rw[show amtD (want:Int) = .tu [.i .i64 0,.i .i64 3]by unfold amtD;rw[if_neg (by omega),if_pos (by omega)]]at e3
   simp(disch:=omega) only[go_sem,Nat.reduceAdd,Nat.reduceSub,Nat.reduceLeDiff,Int.reduceEq,v3,bin_rem,t1,t2,d0,w1,w2,w3,w4,m1,m2,w5,w6,w7,w8,w9,w10,w11,e1,e2,e3,e4,e5,d1,aw]
   exact⟨fun _=>trivial,fun h=>h (by omega)⟩
  ·rw[show amtD (want:Int) = .tu [.i .i64 want,.i .i64 0]by unfold amtD;rw[if_neg (by omega),if_neg (by omega)],hw]at e3
   simp(disch:=omega) only[go_sem,Nat.reduceAdd,Nat.reduceSub,Nat.reduceLeDiff,Int.reduceEq,v3,bin_rem,t1,t2,d0,w1,w2,w3,w4,m1,m2,w5,w6,w7,w8,w9,w10,w11,e1,e2,e3,e4,e5,d1,aw]
   exact⟨fun h=>by omega,fun _=>trivial⟩
 ·have hw:want=A:=by rw[hw,if_neg c1]
  have d1 : ¬ (d:Int) <= 2*(k:Int):=by omega
  by_cases c2:1099511627776<want
  ·rw[show amtD (want:Int) = .tu [.i .i64 0,.i .i64 3]by unfold amtD;rw[if_neg (by omega),if_pos (by omega)]]at e3
   have d2:(1099511627776:Int)<(A:Int):=by omega
   simp(disch:=omega) only[go_sem,Nat.reduceAdd,Nat.reduceSub,Nat.reduceLeDiff,Int.reduceEq,v3,bin_rem,t1,t2,d0,w1,w2,w3,w4,m1,m2,w5,w6,w7,w8,w9,w10,e1,e2,e3,e4,e5,d1,d2,aw]
  ·rw[show amtD (want:Int) = .tu [.i .i64 want,.i .i64 0]by unfold amtD;rw[if_neg (by omega),if_neg (by omega)],hw]at e3
   have d2 : ¬ (1099511627776:Int)<(A:Int):=by omega
   simp(disch:=omega) only[go_sem,Nat.reduceAdd,Nat.reduceSub,Nat.reduceLeDiff,Int.reduceEq,v3,bin_rem,t1,t2,d0,w1,w2,w3,w4,m1,m2,w5,w6,w7,w8,w9,w10,e1,e2,e3,e4,e5,d1,d2,aw]
end Go.Proofs.YtgefdialaemelaaGreatDoor.Dv
namespace Go.Proofs.YtgefdialaemelaaGreatDoor
open Go.Dm Go.Proofs
theorem named3:Tryz.pinned.checked.prog.funcNamed Rows.recalcAmountsRow.func=some 3:=by kernel_rfl
theorem inst3:Tryz.f3.isInstance Tryz.pinned.checked.prog Rows.recalcAmountsRow.origin Rows.recalcAmountsRow.targs:=of_decide_eq_true (by kernel_rfl)
theorem wrap3:Tryz.f3.isWrapper Tryz.pinned.checked.prog Rows.recalcAmountsRow.wrapper Rows.recalcAmountsRow.mainSum:=by unfold Func.isWrapper;first|(rw[if_pos (by decide +kernel)];kernel_rfl)|(rw[if_neg (by decide +kernel)];exact⟨rfl,rfl⟩)
end Go.Proofs.YtgefdialaemelaaGreatDoor
