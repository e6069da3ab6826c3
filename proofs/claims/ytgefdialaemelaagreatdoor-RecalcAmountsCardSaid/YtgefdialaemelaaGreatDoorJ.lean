/-
  Fractions of the kit;amounts in whole units.
-/
import Derived.Test.YtgefdialaemelaaGreatDoorI
namespace Go.Proofs.YtgefdialaemelaaGreatDoor.Dv
open Go.Dm
theorem kwhole_q {n:Int} (hn : -9223372036854775808 <= n /\ n<9223372036854775808) : ∃ d,PRet VS 7 [.i .i64 n] d /\ Wh n d:=by
 refine PurQ.ex (.body (vf:=v7) fn7 rfl ?_)
 obtain⟨U,hU⟩ : ∃ U,U=n.natAbs:=⟨_,rfl⟩
 have hU':U <= 9223372036854775808:=by omega
 have main : ∀ a3:D,Run VS (.block 0 (.loop v7l0)) ⟨[.i .i64 n,.bx [.b false,.nil],a3,.u,.i .u64 U,.bx [.b (decide (n<0)),.nil]],[]⟩ (SeqQ VS (.seq (.reg [⟨.lld (.sl 5) 2 true,none,none⟩,⟨.lst (.sl 1) (.l 0) 2,none,none⟩] none) .ret) (ResQ [.bx 1 2 true] (PurK false fun r => ∃ d,r = .ret d /\ Wh n d))):=by
  intro a3
  rw[Run_block]
  refine Run.loop (fun k s => ∃ (l:List Nat) (a:D),lm 65536 l /\ l++ds 65536 k=ds 65536 U /\ k <= U /\ s=⟨[.i .i64 n,.bx [.b false,.nil],a3,a,.i .u64 k,.bx [.b (decide (n<0)),bD [] .nil (l.map u16)]],bH [] 1 (l.map u16)⟩) U ⟨[],_,lm_nil,rfl,Nat.le_refl _,rfl⟩ ?_
  rintro k s ⟨l,a,hl,he,hk,rfl⟩
  by_cases h0:k=0
  ·subst h0
   rw[ds_zero,List.append_nil]at he
   have hc:(bD [] .nil (l.map u16)).cellsN 1=some [bD [] .nil (l.map u16)]:=bD_c1 rfl
   simp(disch:=omega) only[go_sem,Nat.reduceAdd,Int.reduceLT,v7l0,Int.natCast_zero]
   exact⟨_,rfl,⟨by rw[<- hU, <- he];exact imD_sl rfl 1 _⟩⟩
  ·have hk':k<18446744073709551616:=by omega
   have c1:(0:Int)<(k:Int):=by omega
   obtain⟨v,hv⟩ : ∃ v,v=k%65536:=⟨_,rfl⟩
   have w1:IntKind.u16.wrap (k:Int)=(v:Int):=by rw[w16m,hv]
   have e2:bin .shr (.i .u64 (k:Int)) (.i .u64 16)=some (.i .u64 ((k/65536:Nat):Int)):=bin_shrN (s:=16) (by decide)
   have hll:l.length <= 4:=by
    have h1:(ds 65536 U).length <= 4:=(ds_len h16).2 (by omega)
    rw[<- he,List.length_append]at h1;omega
   have ea:=app_n (H0:=[]) (w:=1) (bytes:=2) (r:=[.i .u16 (v:Int)]) (enc:=u16) (l:=l) (by omega) (by omega)
   have hc:(bD [] .nil (l.map u16++[[.i .u16 (v:Int)]])).cellsN 1=some [bD [] .nil (l.map u16++[[.i .u16 (v:Int)]])]:=bD_c1 rfl
   simp(disch:=omega) only[go_sem,Nat.reduceAdd,Nat.reduceLT,v7l0,c1,w1,ea,e2,hc,flat_i]
   refine⟨k/65536,Nat.div_lt_self (by omega) (by omega),l++[v], ?_, ?_,Nat.le_trans (Nat.div_le_self _ _) hk, ?_⟩
   ·intro x hx
    rcases List.mem_append.1 hx with h|h
    ·exact hl x h
    ·rw[List.mem_singleton.1 h];omega
   ·rw[List.append_assoc, <- he,ds_step h16 h0,hv];rfl
   ·rw[List.map_append];exact⟨⟨rfl,rfl⟩,rfl⟩
 by_cases h0:n<0
 ·have w1:IntKind.u64.wrap n=((18446744073709551616-U:Nat):Int):=by rw[w64i];omega
  have w2:IntKind.u64.wrap (0-((18446744073709551616-U:Nat):Int))=(U:Int):=by rw[w64i];omega
  have:=main (.b true)
  rw[decide_eq_true h0]at this
  rw[Run_block]at this
  simp(disch:=omega) only[go_sem,Nat.reduceAdd,Nat.reduceSub,Nat.reduceLeDiff,v7,h0,w1,w2]
  exact this
 ·have w1:IntKind.u64.wrap n=(U:Int):=by rw[w64i];omega
  have:=main (.b false)
  rw[decide_eq_false h0]at this
  rw[Run_block]at this
  simp(disch:=omega) only[go_sem,Nat.reduceAdd,Nat.reduceSub,Nat.reduceLeDiff,v7,h0,w1]
  exact this
theorem frac_red {n:Int} {m g:Nat} (hg:g=Nat.gcd n.natAbs m) (hm:m≠0):g≠0 /\ n.tdiv g=n/g /\ Nat.gcd (n/(g:Int)).natAbs (m/g)=1 /\ m/g≠0 /\ (n/(g:Int)).natAbs <= n.natAbs /\ g <= m:=by
 have hg0:0<g:=by rw[hg];exact Nat.gcd_pos_of_pos_right _ (by omega)
 have hgm:g ∣ m:=by rw[hg];exact Nat.gcd_dvd_right _ _
 have hd:(g:Int) ∣ n:=Int.ofNat_dvd_left.2 (by rw[hg];exact Nat.gcd_dvd_left _ _)
 obtain⟨c,hc⟩:=hd
 have e1:n/(g:Int)=c:=by rw[hc];exact Int.mul_ediv_cancel_left _ (by omega)
 have e2:n.natAbs=g*c.natAbs:=by rw[hc,Int.natAbs_mul];rfl
 refine⟨by omega,Int.tdiv_eq_ediv_of_dvd ⟨c,hc⟩, ?_, ?_, ?_,Nat.le_of_dvd (by omega) hgm⟩
 ·rw[e1]
  have:c.natAbs=n.natAbs/g:=by rw[e2];exact(Nat.mul_div_cancel_left _ hg0).symm
  rw[this,hg]
  exact Nat.gcd_div_gcd_div_gcd_of_pos_right (by omega)
 ·have:=Nat.div_pos (Nat.le_of_dvd (by omega) hgm) hg0;omega
 ·exact Int.natAbs_ediv_le_natAbs _ _
theorem kfrac_q {n d:Int} (hn : -4611686018427387904 <= n /\ n<4611686018427387904) (hd:1 <= d /\ d<4611686018427387904) : ∃ r,PRet VS 4 [.i .i64 n,.i .i64 d] r /\ Fr (n/(Nat.gcd n.natAbs d.natAbs:Nat)) (d.natAbs/Nat.gcd n.natAbs d.natAbs) r:=by
 obtain⟨E,rfl⟩ : ∃ E:Nat,d=E:=⟨d.toNat,by omega⟩
 have nD:((E:Int)).natAbs=E:=rfl
 rw[nD]
 obtain⟨g,hg⟩ : ∃ g,g=Nat.gcd n.natAbs E:=⟨_,rfl⟩
 rw[<- hg]
 obtain⟨r1,r2,r3,r4,r5,r6⟩:=frac_red hg (by omega)
 have c0 : ¬ (E:Int)<1:=by omega
 by_cases h0:n=0
 ·subst h0
  obtain⟨w,w1,w2⟩:=kwhole_q (n:=1) (by omega)
  have e1:=fun{H K}=>w1.c (H:=H) (K:=K) fn7 rfl rfl (.inl rfl)
  have:g=E:=by rw[hg];simp
  subst this
  obtain⟨y,rfl,hy⟩:=w2.h
  have ey:=fun m H=>flat_freeze hy.sl.flat m H
  have d1:decide ((1:Int)<0)=false:=rfl
  rw[d1]at e1
  refine⟨_,.body (vf:=v4) fn4 rfl ?_,⟨.nil,y,rfl, ?_, ?_⟩⟩
  ·simp(disch:=omega) only[go_sem,Nat.reduceAdd,Nat.reduceSub,v4,c0,e1,ey]
   simp
  ·rw[Int.zero_ediv];exact⟨by rw[show(0:Int).natAbs=0 from rfl,ds_zero];exact .nil rfl⟩
  ·rw[Nat.div_self (by omega)];exact hy
 ·obtain ⟨U,hU⟩ : ∃ U,U=n.natAbs:=⟨_,rfl⟩
  obtain⟨q,hq⟩ : ∃ q,q=n/(g:Int):=⟨_,rfl⟩
  obtain⟨e,he⟩ : ∃ e,e=E/g:=⟨_,rfl⟩
  rw[<- hq, <- he]
  rw[<- hq]at r2 r5
  have hle:e <= E:=by rw[he];exact Nat.div_le_self _ _
  obtain⟨w,w1,w2⟩:=kwhole_q (n:=q) (by omega)
  obtain⟨w',w1',w2'⟩:=kwhole_q (n:=(e:Int)) (by omega)
  have e1:=fun{H K}=>w1.c (H:=H) (K:=K) fn7 rfl rfl (.inl rfl)
  have e2:=fun{H K}=>w1'.c (H:=H) (K:=K) fn7 rfl rfl (.inl rfl)
  obtain⟨x,rfl,hx⟩:=w2.h
  obtain⟨y,rfl,hy⟩:=w2'.h
  rw[nat_dec]at e2
  have ex:=fun m H=>flat_freeze hx.sl.flat m H
  have ey:=fun m H=>flat_freeze hy.sl.flat m H
  have q1:(E:Int).tdiv (g:Int)=(e:Int):=by rw[tdivN,he]
  have g1:IntKind.i64.wrap (g:Int)=(g:Int):=wr (by omega) (by omega)
  have g0 : ¬ (g:Int)=0:=by omega
  have q2:IntKind.i64.wrap q=q:=wr (by omega) (by omega)
  have q3:IntKind.i64.wrap (e:Int)=(e:Int):=wr (by omega) (by omega)
  refine⟨_,.body (vf:=v4) fn4 rfl ?_,⟨x,y,rfl,hx,hy⟩⟩
  have main : ∀ (a4:Go.Dm.D),Run VS (.loop v4l0) ⟨[.i .i64 n,.i .i64 E,.bx [.b false,.nil,.b false,.nil],.b false,a4,.u,.i .u64 U,.i .u64 E],[]⟩ (BlockQ 0 (SeqQ VS (match v4.body with | .seq _ (.seq _ (.seq _ (.seq _ (.seq _ r))))=>r|c=>c) (ResQ [.bx 2 4 true] (PurK false fun r=>r = .ret (.ag [.b (decide (q<0)),x,.b false,y]))))):=by
   intro a4
   refine Run.loop (fun k s => ∃ (a:Nat) (a5:Go.Dm.D),a <= 4611686018427387904 /\ Nat.gcd a k=g /\ k <= E /\ s=⟨[.i .i64 n,.i .i64 E,.bx [.b false,.nil,.b false,.nil],.b false,a4,a5,.i .u64 a,.i .u64 k],[]⟩) E ⟨U,_,by omega,by rw[hg,hU],Nat.le_refl _,rfl⟩ ?_
   rintro k s ⟨a,a5,ha,hga,hk,rfl⟩
   by_cases hk0:k=0
   ·subst hk0
    rw[Nat.gcd_zero_right]at hga
    subst hga
    simp(disch:=omega) only[go_sem,Nat.reduceAdd,Nat.reduceLeDiff,v4l0,v4,Int.natCast_zero,Int.lt_irrefl,bin_quo,g0,r2,q1,g1,q2,q3,e1,e2,ex,ey]
   ·have c1:(0:Int)<(k:Int):=by omega
    simp(disch:=omega) only[go_sem,v4l0,c1,show ¬ (k:Int)=0 by omega,bin_rem,tmodN]
    have hlt:=Nat.mod_lt a (show k>0 by omega)
    exact⟨a%k,hlt,k,by omega,by rw[<- hga,Nat.gcd_comm a k,Nat.gcd_rec k a,Nat.gcd_comm],by omega,rfl,rfl⟩
  by_cases hneg:n<0
  ·have w1:IntKind.u64.wrap n=((18446744073709551616-U:Nat):Int):=by rw[w64i];omega
   have w2:IntKind.u64.wrap (0-((18446744073709551616-U:Nat):Int))=(U:Int):=by rw[w64i];omega
   have w3:IntKind.u64.wrap (E:Int)=(E:Int):=w64 (by omega)
   simp(disch:=omega) only[go_sem,Nat.reduceSub,v4,c0,h0,hneg,w1,w2,w3]
   exact main (.b true)
  ·have w1:IntKind.u64.wrap n=(U:Int):=by rw[w64i];omega
   have w3:IntKind.u64.wrap (E:Int)=(E:Int):=w64 (by omega)
   simp(disch:=omega) only[go_sem,Nat.reduceSub,v4,c0,h0,hneg,w1,w3]
   exact main (.b false)
open Go.Dm
theorem rnd_pos {a d k g:Nat} (hk:k<d) (hg:g=Nat.gcd (a*d+k) d):rndK 5 ((a*d+k:Nat)/(g:Int)) (d/g)=((if d <= 2*k then a+1 else a:Nat):Int):=by
 have hd:0<d:=by omega
 have hg0:0<g:=by rw[hg];exact Nat.gcd_pos_of_pos_right _ hd
 obtain⟨n,hn⟩:g ∣ a*d+k:=by rw[hg];exact Nat.gcd_dvd_left _ _
 obtain⟨m,hm⟩:g ∣ d:=by rw[hg];exact Nat.gcd_dvd_right _ _
 have hm0:0<m:=Nat.pos_of_ne_zero fun e=>by rw[e,Nat.mul_zero]at hm;omega
 have e1:((a*d+k:Nat):Int)/(g:Int)=(n:Int):=by
  rw[hn,Int.natCast_mul];exact Int.mul_ediv_cancel_left _ (by omega)
 have e2:d/g=m:=by rw[hm];exact Nat.mul_div_cancel_left _ hg0
 have e3:n/m=a:=by
  have:(g*n)/(g*m)=a:=by
   rw[<- hn, <- hm,Nat.mul_comm a d,Nat.mul_add_div hd,Nat.div_eq_of_lt hk,Nat.add_zero]
  rwa [Nat.mul_div_mul_left _ _ hg0]at this
 have e4:g*(n%m)=k:=by
  have:(g*n)%(g*m)=k:=by
   rw[<- hn, <- hm,Nat.mul_comm a d,Nat.mul_add_mod,Nat.mod_eq_of_lt hk]
  rwa [Nat.mul_mod_mul_left]at this
 obtain⟨r,hr⟩ : ∃ r,r=n%m:=⟨_,rfl⟩
 rw[<- hr]at e4
 have e5:d <= 2*k↔m <= 2*r:=by
  rw[<- e4,hm,show 2*(g*r)=g*(2*r)by rw[Nat.mul_left_comm]]
  exact⟨fun h=>Nat.le_of_mul_le_mul_left h hg0,fun h=>Nat.mul_le_mul_left _ h⟩
 rw[e1,e2]
 unfold rndK
 have h1:(n:Int)%(m:Int)=(r:Int):=by rw[hr];exact(Int.natCast_emod n m).symm
 have h2:(n:Int)/(m:Int)=(a:Int):=by rw[<- e3];exact(Int.natCast_ediv n m).symm
 rw[h1,h2]
 by_cases h0:r=0
 ·have : ¬ d <= 2*k:=by rw[e5];omega
  rw[if_pos (by omega),if_neg this]
 ·rw [if_neg (by omega)]
  have hs:isgn ((r:Int)+r) m=if(2*r:Nat)<m then -1 else if 2*r=m then 0 else 1:=by
   unfold isgn
   by_cases c1:2*r<m
   ·rw[if_pos (show(r:Int)+r<m by omega),if_pos c1]
   ·rw[if_neg (show ¬ (r:Int)+r<m by omega),if_neg c1]
    by_cases c2:2*r=m
    ·rw[if_pos (by omega),if_pos c2]
    ·rw[if_neg (by omega),if_neg c2]
  have hup : ∀ o,upB 5 false o (if 2*r<m then -1 else if 2*r=m then 0 else 1)=decide (m <= 2*r):=by
   intro o
   unfold upB
   by_cases c1:2*r<m
   ·rw[if_pos c1,decide_eq_false (show ¬ m <= 2*r by omega)];rfl
   ·rw[if_neg c1,decide_eq_true (show m <= 2*r by omega)]
    by_cases c2:2*r=m
    ·rw[if_pos c2];rfl
    ·rw[if_neg c2];rfl
  rw[hs,show decide ((n:Int)<0)=false by simp,hup]
  by_cases c:m <= 2*r
  ·rw[decide_eq_true c,if_pos rfl,if_pos (e5.2 c)];rfl
  ·rw[decide_eq_false c,if_neg (by decide),if_neg (fun h=>c (e5.1 h))]
theorem rnd_neg {n:Int} {m:Nat} (h:n <= 0) (hm:m≠0):rndK 5 n m <= 0:=by
 have h1:n/(m:Int) <= 0:=by
  have:=Int.ediv_le_ediv (show(0:Int)<m by omega) h
  rwa [Int.zero_ediv]at this
 unfold rndK
 split
 ·exact h1
 ·rename_i h0
  have h2:n<0:=by
   rcases Int.lt_or_eq_of_le h with h|h
   ·exact h
   ·rw[h]at h0;exact absurd (Int.zero_emod _) h0
  have h3:n/(m:Int)<0:=Int.ediv_neg_of_neg_of_pos h2 (by omega)
  split<;>omega
def amtD (r:Int):D:=if r<0 then .tu [.i .i64 0,.i .i64 0]else if 1099511627776<r then .tu [.i .i64 0,.i .i64 3]else .tu [.i .i64 r,.i .i64 0]
theorem low_int {n:Int} (h:n.natAbs<18446744073709551616):Low n 1 :=
 ⟨by decide,Nat.gcd_one_right _,Nat.lt_of_lt_of_le (show n.natAbs<cap 4 from h) (cap_le (by omega)),Nat.lt_of_lt_of_le (show 1<cap 1 by decide) (cap_le (by omega))⟩
theorem fr_const (n:Int) (hn:n.natAbs<18446744073709551616) (hn2 : -9223372036854775808 <= n /\ n<9223372036854775808) : ∃ a b c d,PRet VS 10 [.i .i64 n] (.ag [a,b,c,d]) /\ Fr n 1 (.ag [a,b,c,d]) /\ Low n 1:=by
 obtain⟨e,h1,h2⟩:=fromInt_f hn2
 obtain⟨x,y,rfl,wx,wy⟩:=h2.h
 exact⟨_,_,_,_,h1,⟨x,y,rfl,wx,wy⟩,low_int hn⟩
theorem amount_q {n:Int} {m:Nat} {s x t y:D} (h:Fr n m (.ag [s,x,t,y])) (l:Low n m) (hb : -9223372036854775808 <= rndK 5 n m /\ rndK 5 n m<9223372036854775808):PRet VS 5 [.ag [.i .u8 3,s,x,t,y,.i .i64 0]] (amtD (rndK 5 n m)):=by
 obtain⟨a1,b1,c1,d1,w1,w2,w3⟩:=fr_const 1 (by decide) (by decide)
 obtain⟨a2,b2,c2,d2,u1,u2,u3⟩:=fr_const 1099511627776 (by decide) (by decide)
 obtain⟨q,q1,q2⟩:=round_f h w2 l w3 (by decide) (mode:=5) (by omega)
 have eR:rndK 5 (n*((1:Nat):Int)) (m*Int.natAbs 1)*1=rndK 5 n m:=by simp
 rw[eR]at q2
 obtain⟨R,hR⟩ : ∃ R,R=rndK 5 n m:=⟨_,rfl⟩
 rw[<- hR]at q2 hb ⊢
 have lR:=low_int (n:=R) (by omega)
 obtain⟨d',hd'⟩:=q2.h
 have g1:Nat.gcd R.natAbs 1=1:=Nat.gcd_one_right _
 rw[g1,show R/((1:Nat):Int)=R by simp,show 1/1=1 from rfl]at hd'
 rcases hd' with⟨_,_,rfl,hF⟩|⟨hx,_⟩
 case inr=>exact absurd ⟨lR.bn,lR.bm⟩ hx
 obtain⟨r0,r1,r2,_⟩:=h.rf l
 have ev:=fun{H K}=>r0.valid_c (H:=H) (K:=K)
 rw[r1,r2]at ev
 have e1:=fun{H K}=>w1.c (H:=H) (K:=K) fn10 rfl rfl (.inl rfl)
 have e2:=fun{H K}=>u1.c (H:=H) (K:=K) fn10 rfl rfl (.inl rfl)
 have er:=fun{H K}=>q1.c (H:=H) (K:=K) fn9 rfl (by simp[h.pl,w2.pl,plain_i]) (.inl rfl)
 simp only[Int.cast_ofNat_Int]at er
 have ec:=fun{H K}=>(cmp_f hF u2 lR u3).c (H:=H) (K:=K) fn11 rfl (by simp[hF.pl,u2.pl]) (.inl rfl)
 have ei:=fun{H K}=>(int_f hF lR).c (H:=H) (K:=K) fn12 rfl (by simp[hF.pl]) (.inl rfl)
 rw[if_pos rfl]at ei
 have hi:iok R=true:=by simp[iok];omega
 simp only[hi,if_true]at ei
 have eg:isgn (R*((1:Nat):Int)) (1099511627776*((1:Nat):Int))=if R<1099511627776 then -1 else if R=1099511627776 then 0 else 1:=by simp[isgn]
 rw[eg]at ec
 obtain⟨x',y',rfl,wx,wy⟩:=hF.h
 refine .body (vf:=v5) fn5 rfl ?_
 unfold amtD
 by_cases k1:R<0
 ·rw[if_pos k1]
  rw[decide_eq_true k1]at er ec ei
  simp(disch:=omega) only[go_sem,Nat.reduceAdd,Nat.reduceSub,Nat.reduceLeDiff,v5,ev,e1,er]
 ·rw [if_neg k1]
  rw[decide_eq_false k1]at er ec ei
  by_cases k2:1099511627776<R
  ·rw[if_pos k2]
   rw[if_neg (by omega),if_neg (by omega)]at ec
   simp(disch:=omega) only[go_sem,Nat.reduceAdd,Nat.reduceSub,Nat.reduceLeDiff,Int.reduceLT,v5,ev,e1,e2,er,ec]
  ·rw [if_neg k2]
   by_cases k3:R<1099511627776
   ·rw[if_pos k3]at ec
    simp(disch:=omega) only[go_sem,Nat.reduceAdd,Nat.reduceSub,Nat.reduceLeDiff,Int.reduceLT,Int.reduceNeg,v5,ev,e1,e2,er,ec,ei]
   ·rw[if_neg k3,if_pos (by omega)]at ec
    simp(disch:=omega) only[go_sem,Nat.reduceAdd,Nat.reduceSub,Nat.reduceLeDiff,Int.reduceLT,v5,ev,e1,e2,er,ec,ei]
theorem amount2_q {s x t y:D} (f1:s.flat=true /\ x.flat=true /\ t.flat=true /\ y.flat=true):PRet VS 5 [.ag [.i .u8 2,s,x,t,y,.i .i64 0]] (.tu [.i .i64 0,.i .i64 185]):=by
 refine .body (vf:=v5) fn5 rfl ?_
 simp(disch:=omega) only[go_sem,Nat.reduceAdd,Nat.reduceSub,Nat.reduceLeDiff,Int.reduceEq,v5]
end Go.Proofs.YtgefdialaemelaaGreatDoor.Dv
