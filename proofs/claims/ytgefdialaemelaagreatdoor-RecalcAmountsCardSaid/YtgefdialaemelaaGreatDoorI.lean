/-
  Fractions.
-/
import Derived.Test.YtgefdialaemelaaGreatDoorH
namespace Go.Proofs.YtgefdialaemelaaGreatDoor.Dv
open Go.Dm
theorem ftimes_q {z1 z2:Int} {d1 d2:D} (h1:Wh z1 d1) (h2:Wh z2 d2) (b1:z1.natAbs<cap 512) (b2:z2.natAbs<cap 512) : ∃ d,PRet VS 25 [d1,d2] d /\ Wh (z1*z2) d:=by
 obtain⟨d,g1,g2⟩:=mul_q h1 h2 b1 b2
 have e1:=fun{H K}=>g1.c (H:=H) (K:=K) fn58 rfl (by simp[h1.pl,h2.pl]) (.inl rfl)
 obtain⟨y1,rfl,a1⟩:=h1.h
 obtain⟨y2,rfl,a2⟩:=h2.h
 obtain⟨y,rfl,a3⟩:=g2.h
 have ef:=fun m H=>flat_freeze a3.sl.flat m H
 refine⟨_,.body (vf:=v25) fn25 rfl ?_,g2⟩
 simp(disch:=omega) only[go_sem,Nat.reduceAdd,Nat.reduceSub,v25,e1,ef]
theorem fplus_q {z1 z2:Int} {d1 d2:D} (h1:Wh z1 d1) (h2:Wh z2 d2) (b1:z1.natAbs<cap 1023) (b2:z2.natAbs<cap 1023) : ∃ d,PRet VS 28 [d1,d2] d /\ Wh (z1+z2) d:=by
 obtain⟨d,g1,g2⟩:=add_q h1 h2 b1 b2
 have e1:=fun{H K}=>g1.c (H:=H) (K:=K) fn63 rfl (by simp[h1.pl,h2.pl]) (.inl rfl)
 obtain⟨y1,rfl,a1⟩:=h1.h
 obtain⟨y2,rfl,a2⟩:=h2.h
 obtain⟨y,rfl,a3⟩:=g2.h
 have ef:=fun m H=>flat_freeze a3.sl.flat m H
 refine⟨_,.body (vf:=v28) fn28 rfl ?_,g2⟩
 simp(disch:=omega) only[go_sem,Nat.reduceAdd,Nat.reduceSub,v28,e1,ef]
theorem fgcd_q {z1 z2:Int} {d1 d2:D} (h1:Wh z1 d1) (h2:Wh z2 d2) (b1:z1.natAbs<cap 1024) (b2:z2.natAbs<cap 1024) : ∃ d,PRet VS 55 [d1,d2] d /\ Wh (Nat.gcd z1.natAbs z2.natAbs:Nat) d:=by
 obtain⟨d,g1,g2⟩:=gcd_w h1 h2 b1 b2
 have e1:=fun{H K}=>g1.c (H:=H) (K:=K) fn98 rfl (by simp[h1.pl,h2.pl]) (.inl rfl)
 obtain⟨y1,rfl,a1⟩:=h1.h
 obtain⟨y2,rfl,a2⟩:=h2.h
 obtain⟨y,rfl,a3⟩:=g2.h
 have ef:=fun m H=>flat_freeze a3.sl.flat m H
 refine⟨_,.body (vf:=v55) fn55 rfl ?_,g2⟩
 simp(disch:=omega) only[go_sem,Nat.reduceAdd,Nat.reduceSub,v55,e1,ef]
theorem fdiv_q {z1:Int} {n2:Nat} {d1 d2:D} (h1:Wh z1 d1) (h2:Wh (n2:Int) d2) (h0:n2≠0) (b1:z1.natAbs<cap 1023) (b2:n2<cap 1024) : ∃ d e,PRet VS 26 [d1,d2] (.tu [d,e]) /\ Wh (z1/n2) d /\ Wh (z1%n2) e:=by
 obtain⟨d,e,g1,g2,g3⟩:=divmod_q h1 h2 h0 b1 b2
 have e1:=fun{H K}=>g1.c (H:=H) (K:=K) fn59 rfl (by simp[h1.pl,h2.pl]) (.inl rfl)
 obtain⟨y1,rfl,a1⟩:=h1.h
 obtain⟨y2,rfl,a2⟩:=h2.h
 obtain⟨y,rfl,a3⟩:=g2.h
 obtain⟨w,rfl,a4⟩:=g3.h
 have ef:=fun m H=>flat_freeze a3.sl.flat m H
 have eg:=fun m H=>flat_freeze a4.sl.flat m H
 refine⟨_,_,.body (vf:=v26) fn26 rfl ?_,g2,g3⟩
 simp(disch:=omega) only[go_sem,Nat.reduceAdd,Nat.reduceSub,v26,e1,ef,eg]
theorem fneg_q {z:Int} {d:D} (h:Wh z d) (b:z.natAbs<cap 1024) : ∃ e,PRet VS 71 [d] e /\ Wh (-z) e:=by
 obtain⟨y,rfl,a⟩:=h.h
 have hlen:=cap_len.2 b
 obtain⟨c,c1,c2⟩:=clone16_q a.sl (by omega)
 have e1:=fun{H K}=>c1.c (H:=H) (K:=K) fn70 rfl (by simp[a.pl]) (.inl rfl)
 have ef:=fun m H=>flat_freeze c2.flat m H
 have hz:(-z).natAbs=z.natAbs:=by omega
 refine⟨.ag [.b (decide (-z<0)),c],.body (vf:=v71) fn71 rfl ?_,⟨c,rfl,⟨by rw[hz];exact c2⟩⟩⟩
 rcases Int.lt_or_le z 0 with hn|hn
 ·have d1:decide (z<0)=true:=by simp[hn]
  have d2:decide (-z<0)=false:=by simp;omega
  simp(disch:=omega) only[go_sem,Nat.reduceAdd,Nat.reduceSub,Nat.reduceLeDiff,v71,d1,d2,e1,ef,c2.c1]
 ·have d1:decide (z<0)=false:=by simp;omega
  by_cases h0:z=0
  ·have d2:decide (-z<0)=false:=by simp;omega
   have c3 : ¬ (0:Int)<((ds 65536 z.natAbs).length:Int):=by rw[h0];simp[ds_zero]
   simp(disch:=omega) only[go_sem,Nat.reduceAdd,Nat.reduceSub,Nat.reduceLeDiff,v71,d1,d2,a.sl.n,c3,e1,ef,c2.c1]
  ·have d2:decide (-z<0)=true:=by simp;omega
   have c3:(0:Int)<((ds 65536 z.natAbs).length:Int):=by have:=ds_pos h16 (n:=z.natAbs) (by omega);omega
   simp(disch:=omega) only[go_sem,Nat.reduceAdd,Nat.reduceSub,Nat.reduceLeDiff,v71,d1,d2,a.sl.n,c3,e1,ef,c2.c1]
theorem isone_q {s:Bool} {l:List Nat} {x:D} (h:Sl 1 (l.map u16) x):PRet VS 54 [.ag [.b s,x]] (.b (!s&&decide (l=[1]))):=by
 refine .body (vf:=v54) fn54 rfl ?_
 cases s with
 | true=>simp(disch:=omega) only[go_sem,Nat.reduceAdd,Nat.reduceSub,Nat.reduceLeDiff,v54]
 | false =>
  by_cases hl:l.length=1
  ·match l,hl with
   | [a],_ =>
    have c1:(([a]:List Nat).length:Int)=1:=rfl
    have g:([a]:List Nat)[0]! = a:=rfl
    simp(disch:=omega) only[go_sem,Nat.reduceAdd,Nat.reduceSub,Nat.reduceLeDiff,Int.reduceLE,Int.reduceLT,v54,h.n,h.q,u16,g]
    by_cases ha:a=1
    ·subst ha;rfl
    ·have : ¬ (a:Int)=1:=by omega
     simp[ha,this]
  ·have c1 : ¬ (l.length:Int)=1:=by omega
   have hne:l≠[1]:=by intro e;rw[e]at hl;simp at hl
   simp(disch:=omega) only[go_sem,Nat.reduceAdd,Nat.reduceSub,Nat.reduceLeDiff,v54,h.n,c1,hne]
theorem long_f {s t:Bool} {l m:List Nat} {x y:D} (h:Sl 1 (l.map u16) x) (h':Sl 1 (m.map u16) y):PRet VS 52 [.ag [.b s,x,.b t,y]] (.b (decide (256<l.length)||decide (256<m.length))):=by
 refine .body (vf:=v52) fn52 rfl ?_
 by_cases h1:256<l.length
 ·have c1:(256:Int)<(l.length:Int):=by omega
  simp(disch:=omega) only[go_sem,Nat.reduceAdd,Nat.reduceSub,Nat.reduceLeDiff,v52,h.n,c1,h1,Bool.true_or]
 ·have c1 : ¬ (256:Int)<(l.length:Int):=by omega
  by_cases h2:256<m.length
  ·have c2:(256:Int)<(m.length:Int):=by omega
   simp(disch:=omega) only[go_sem,Nat.reduceAdd,Nat.reduceSub,Nat.reduceLeDiff,v52,h.n,h'.n,c1,h1,c2,h2,Bool.false_or]
  ·have c2 : ¬ (256:Int)<(m.length:Int):=by omega
   simp(disch:=omega) only[go_sem,Nat.reduceAdd,Nat.reduceSub,Nat.reduceLeDiff,v52,h.n,h'.n,c1,h1,c2,h2,Bool.false_or]
theorem integral_q {s t:Bool} {l m:List Nat} {x y:D} (h:Sl 1 (l.map u16) x) (h':Sl 1 (m.map u16) y):PRet VS 33 [.ag [.b s,x,.b t,y]] (.b (!t&&decide (m=[1]))):=by
 have e1:=fun{H K}=>(isone_q (s:=t) h').c (H:=H) (K:=K) fn54 rfl (by simp[plain_ag,flat_b,h'.flat]) (.inl rfl)
 refine .body (vf:=v33) fn33 rfl ?_
 simp(disch:=omega) only[go_sem,Nat.reduceAdd,Nat.reduceSub,v33,e1]
def fvalid (s:Bool) (l:List Nat) (t:Bool) (m:List Nat):Bool :=
 decide (l.length <= 256)&&decide (m.length <= 256)&&wvalid s l&&wvalid t m && !t&&decide (m≠[])&&(Nat.gcd (vl 65536 l) (vl 65536 m)==1)
theorem fvalid_q {s t:Bool} {l m:List Nat} {x y:D} (h:Sl 1 (l.map u16) x) (h':Sl 1 (m.map u16) y) (hl:lm 65536 l) (hm:lm 65536 m) (hn:l.length<70368744177665) (hn':m.length<70368744177665):PRet VS 8 [.ag [.b s,x,.b t,y]] (.b (fvalid s l t m)):=by
 have hp:([.ag [.b s,x,.b t,y]]:List D).all D.plain=true:=by simp[plain_ag,flat_b,h.flat,h'.flat]
 have e1:=fun{H K}=>(long_f (s:=s) (t:=t) h h').c (H:=H) (K:=K) fn52 rfl hp (.inl rfl)
 have e2:=fun{H K}=>(valid_q (neg:=s) h hn).c (H:=H) (K:=K) fn53 rfl (by simp[plain_ag,flat_b,h.flat]) (.inl rfl)
 have e3:=fun{H K}=>(valid_q (neg:=t) h' hn').c (H:=H) (K:=K) fn53 rfl (by simp[plain_ag,flat_b,h'.flat]) (.inl rfl)
 have e4:=fun{H K}=>(integral_q (s:=s) (t:=t) h h').c (H:=H) (K:=K) fn33 rfl hp (.inl rfl)
 have key : PRet VS 21 [.ag [.b s,x,.b t,y]] (.b (fvalid s l t m)):=by
  refine .body (vf:=v21) fn21 rfl ?_
  by_cases hL:(decide (256<l.length)||decide (256<m.length))=true
  ·have hf:fvalid s l t m=false:=by
    simp only[Bool.or_eq_true,decide_eq_true_eq]at hL
    unfold fvalid
    rcases hL with c|c
    ·rw[show decide (l.length <= 256)=false by simp;omega];simp
    ·rw[show decide (m.length <= 256)=false by simp;omega];simp
   rw[hL]at e1
   simp(disch:=omega) only[go_sem,Nat.reduceAdd,Nat.reduceSub,v21,e1,hf]
  ·have hL':(decide (256<l.length)||decide (256<m.length))=false:=by simpa using hL
   rw[hL']at e1
   simp only[Bool.or_eq_false_iff,decide_eq_false_iff_not,Nat.not_lt]at hL'
   obtain⟨b1,b2⟩:=hL'
   cases hv1:wvalid s l with
   | false =>
    have hf:fvalid s l t m=false:=by unfold fvalid;rw[hv1];simp
    rw[hv1]at e2
    simp(disch:=omega) only[go_sem,Nat.reduceAdd,Nat.reduceSub,Nat.reduceLeDiff,v21,e1,e2,hf]
   | true =>
    rw[hv1]at e2
    cases hv2:wvalid t m with
    | false =>
     have hf:fvalid s l t m=false:=by unfold fvalid;rw[hv2];simp
     rw[hv2]at e3
     simp(disch:=omega) only[go_sem,Nat.reduceAdd,Nat.reduceSub,Nat.reduceLeDiff,v21,e1,e2,e3,hf]
    | true =>
     rw[hv2]at e3
     cases t with
     | true =>
      have hf:fvalid s l true m=false:=by unfold fvalid;simp
      simp(disch:=omega) only[go_sem,Nat.reduceAdd,Nat.reduceSub,Nat.reduceLeDiff,v21,e1,e2,e3,hf]
     | false =>
      by_cases hm0:m=[]
      ·have hf:fvalid s l false m=false:=by unfold fvalid;simp[hm0]
       have c1:(m.length:Int)=0:=by rw[hm0];rfl
       simp(disch:=omega) only[go_sem,Nat.reduceAdd,Nat.reduceSub,Nat.reduceLeDiff,v21,e1,e2,e3,h'.n,c1,hf]
      ·have c1 : ¬ (m.length:Int)=0:=by have:=List.length_pos_iff.2 hm0;omega
       obtain⟨w1,w2,w3,w4⟩:=wvalid_wh h hl hv1
       obtain⟨u1,u2,u3,u4⟩:=wvalid_wh h' hm hv2
       obtain⟨g,g1,g2⟩:=fgcd_q w1 u1 w2 u2
       rw[w3,u3]at g2
       have e6:=fun{H K}=>g1.c (H:=H) (K:=K) fn55 rfl (by simp[plain_ag,flat_b,h.flat,h'.flat]) (.inl rfl)
       obtain⟨yg,rfl,hg⟩:=g2.h
       have e7:=fun{H K}=>(isone_q (s:=decide (((Nat.gcd (vl 65536 l) (vl 65536 m):Nat):Int)<0)) hg.sl).c (H:=H) (K:=K) fn54 rfl (by simp[plain_ag,flat_b,hg.sl.flat]) (.inl rfl)
       obtain⟨G,hG⟩ : ∃ G,G=Nat.gcd (vl 65536 l) (vl 65536 m):=⟨_,rfl⟩
       have dG:decide ((G:Int)<0)=false:=by simp
       have nG:((G:Int)).natAbs=G:=rfl
       have d1G:(!false&&decide (ds 65536 G=[1]))=decide (G=1):=by
        have:ds 65536 G=[1]↔G=1:=by
         constructor
         ·intro h;have:=vl_ds h16 G;rw[h]at this;simpa [vl]using this.symm
         ·intro h;rw[h,ds_step h16 (by omega)];simp[ds_zero]
        simp[this]
       rw[<- hG,dG,nG,d1G]at e7
       rw[<- hG,dG]at e6
       have hf:fvalid s l false m=decide (G=1):=by
        unfold fvalid;rw[hv1,hv2, <- hG];simp[b1,b2,hm0];rfl
       rw[hf]
       by_cases hi:m=[1]
       ·have hG1:G=1:=by rw[hG,hi];simp[vl]
        rw[show(!false&&decide (m=[1]))=true by simp[hi]]at e4
        simp(disch:=omega) only[go_sem,Nat.reduceAdd,Nat.reduceSub,Nat.reduceLeDiff,v21,e1,e2,e3,h'.n,c1,e4,hG1]
       ·rw[show(!false&&decide (m=[1]))=false by simp[hi]]at e4
        simp(disch:=omega) only[go_sem,Nat.reduceAdd,Nat.reduceSub,Nat.reduceLeDiff,v21,e1,e2,e3,h'.n,c1,e4,e6,e7]
 have e5:=fun{H K}=>key.c (H:=H) (K:=K) fn21 rfl hp (.inl rfl)
 refine .body (vf:=v8) fn8 rfl ?_
 simp(disch:=omega) only[go_sem,Nat.reduceAdd,Nat.reduceSub,v8,e5]
open Go.Dm
structure Fr (n:Int) (m:Nat) (d:D):Prop where
 h : ∃ x y,d = .ag [.b (decide (n<0)),x,.b false,y] /\ W16 n.natAbs x /\ W16 m y
structure Low (n:Int) (m:Nat):Prop where
 z:m≠0
 g:Nat.gcd n.natAbs m=1
 bn:n.natAbs<cap 256
 bm:m<cap 256
theorem Fr.pl {n:Int} {m:Nat} {d:D} (h:Fr n m d):d.plain=true:=by
 obtain⟨x,y,rfl,a,b⟩:=h.h
 simp[plain_ag,flat_b,a.sl.flat,b.sl.flat]
theorem w16_wh {n:Int} {x:D} (h:W16 n.natAbs x):Wh n (.ag [.b (decide (n<0)),x]):=⟨x,rfl,h⟩
theorem wh_nat {m:Nat} {y:D} (h:W16 m y):Wh (m:Int) (.ag [.b false,y]):=⟨y,by simp,h⟩
theorem nat_dec (m:Nat):decide ((m:Int)<0)=false:=by simp
theorem lowest_q {a:Int} {m:Nat} {d1 d2:D} (h1:Wh a d1) (h2:Wh (m:Int) d2) (h0:m≠0) (b1:a.natAbs<cap 1023) (b2:m<cap 1023) : ∃ d,PRet VS 31 [d1,d2] d /\ Fr (a/(Nat.gcd a.natAbs m:Nat)) (m/Nat.gcd a.natAbs m) d:=by
 obtain⟨x1,rfl,a1⟩:=h1.h
 obtain⟨x2,rfl,a2⟩:=h2.h
 rw[nat_dec]at h2 ⊢
 obtain⟨g,g1,g2⟩:=fgcd_q h1 h2 (cap_up b1 (by omega)) (cap_up b2 (by omega))
 have nm:((m:Int)).natAbs=m:=rfl
 rw[nm]at g2
 obtain⟨G,hG⟩ : ∃ G,G=Nat.gcd a.natAbs m:=⟨_,rfl⟩
 have hG0:G≠0:=by rw[hG];exact fun e=>h0 (Nat.eq_zero_of_gcd_eq_zero_right e)
 have hGm:G <= m:=by rw[hG];exact Nat.gcd_le_right _ (by omega)
 rw[<- hG]at g2 ⊢
 obtain⟨q1,r1,k1,k2,_⟩:=fdiv_q h1 g2 hG0 b1 (Nat.lt_of_le_of_lt hGm (cap_up b2 (by omega)))
 obtain⟨q2,r2,l1,l2,_⟩:=fdiv_q h2 g2 hG0 b2 (Nat.lt_of_le_of_lt hGm (cap_up b2 (by omega)))
 have e1:=fun{H K}=>g1.c (H:=H) (K:=K) fn55 rfl (by simp[h1.pl,h2.pl]) (.inl rfl)
 have e2:=fun{H K}=>k1.c (H:=H) (K:=K) fn26 rfl (by simp[h1.pl,g2.pl]) (.inl rfl)
 have e3:=fun{H K}=>l1.c (H:=H) (K:=K) fn26 rfl (by simp[h2.pl,g2.pl]) (.inl rfl)
 obtain⟨yg,rfl,hg⟩:=g2.h
 obtain⟨y1,rfl,hy1⟩:=k2.h
 have hdiv:(m:Int)/(G:Int)=((m/G:Nat):Int):=by simp
 rw[hdiv]at l2
 obtain⟨y2,rfl,hy2⟩:=l2.h
 rw[nat_dec]at e3
 rw[nat_dec]at e1 e2 e3
 have ef:=fun m H=>flat_freeze hy1.sl.flat m H
 have eg:=fun m H=>flat_freeze hy2.sl.flat m H
 refine⟨_,.body (vf:=v31) fn31 rfl ?_,⟨y1,y2,rfl,hy1,hy2⟩⟩
 simp(disch:=omega) only[go_sem,Nat.reduceAdd,Nat.reduceSub,Nat.reduceLeDiff,v31,e1,e2,e3,ef,eg]
structure RF where
 s:Bool
 x:D
 t:Bool
 y:D
 l:List Nat
 m:List Nat
 hx:Sl 1 (l.map u16) x
 hy:Sl 1 (m.map u16) y
 hl:lm 65536 l
 hm:lm 65536 m
 nl:l.length<70368744177665
 nm:m.length<70368744177665
def RF.cells (r:RF):List D:=[.b r.s,r.x,.b r.t,r.y]
def RF.d (r:RF):D := .ag r.cells
def RF.v (r:RF):Bool:=fvalid r.s r.l r.t r.m
instance:Inhabited RF:=⟨⟨false,.nil,false,.nil,[],[],.nil rfl,.nil rfl,lm_nil,lm_nil,by simp,by simp⟩⟩
theorem RF.pl (r:RF):r.d.plain=true:=by simp[RF.d,RF.cells,plain_ag,flat_b,r.hx.flat,r.hy.flat]
theorem RF.valid_c (r:RF) {H:Heap} {K:CR -> Prop}:CallQ VS 8 [r.d] H K↔K (.ret (.b r.v) H) :=
 (fvalid_q r.hx r.hy r.hl r.hm r.nl r.nm).c (vf:=v8) fn8 rfl (by simp[show(D.ag [.b r.s,r.x,.b r.t,r.y]).plain=true from r.pl]) (.inl rfl)
theorem nval_c (r:RF) {H:Heap} {K:CR -> Prop}:CallQ VS 57 (r.d::[]) H K↔K (.ret (.b (!r.v)) H):=by
 have e1:=fun{H K}=>r.valid_c (H:=H) (K:=K)
 refine PRet.c (vf:=v57) ?_ fn57 rfl (by simp[r.pl]) (.inl rfl)
 refine .body (vf:=v57) fn57 rfl ?_
 simp only[RF.d,RF.cells]at e1 ⊢
 simp(disch:=omega) only[go_sem,Nat.reduceAdd,Nat.reduceSub,v57,e1]
theorem allvalid_q (r1 r2:RF):PRet VS 22 [.im 4 [r1.cells,r2.cells]] (.b (r1.v&&r2.v)):=by
 have e:=fun{H K}=>cf_q (V:=VS) (f:=56) (h:=99) (g:=57) (w:=4) (agg:=true) (enc:=RF.cells) (key:=RF.d) (l:=[r1,r2]) (x := .im 4 [r1.cells,r2.cells]) (cp:=[]) (p:=fun r => !r.v) (H:=H) (K:=K) fn56 fn99 .im (by simp) (fun _=>rfl) (fun _=>rfl) (by decide) (fun a K=>nval_c a)
 refine .body (vf:=v22) fn22 rfl ?_
 simp(disch:=omega) only[go_sem,Nat.reduceSub,v22,e]
 simp only[List.any_cons,List.any_nil]
 cases r1.v<;>cases r2.v<;>rfl
theorem allvalid_c (r1 r2:RF) {H:Heap} {K:CR -> Prop}:CallQ VS 22 [.sv 4 [r1.cells,r2.cells]] H K↔K (.ret (.b (r1.v&&r2.v)) H):=by
 have f1:=fun m H=>flat_freeze r1.hx.flat m H
 have f2:=fun m H=>flat_freeze r1.hy.flat m H
 have f3:=fun m H=>flat_freeze r2.hx.flat m H
 have f4:=fun m H=>flat_freeze r2.hy.flat m H
 rw[CallQ_p (vf:=v22) (H1:=H) fn22 rfl (allvalid_q r1 r2) (by simp only[go_sem,Nat.reduceAdd,RF.cells,f1,f2,f3,f4])]
 exact Iff.rfl
theorem Fr.rf {n:Int} {m:Nat} {d:D} (h:Fr n m d) (hl:Low n m) : ∃ r:RF,r.d=d /\ r.v=true /\ r.s=decide (n<0) /\ r.t=false /\ W16 n.natAbs r.x /\ W16 m r.y:=by
 obtain⟨x,y,rfl,a,b⟩:=h.h
 refine⟨⟨decide (n<0),x,false,y,ds 65536 n.natAbs,ds 65536 m,a.sl,b.sl,lm_ds h16 _,lm_ds h16 _,cap_c16 hl.bn (by omega),cap_c16 hl.bm (by omega)⟩,rfl, ?_,rfl,rfl,a,b⟩
 have c1:=cap_len.2 hl.bn
 have c2:=cap_len.2 hl.bm
 have w1:=wvalid_ds (neg:=decide (n<0)) (cap_up hl.bn (show 256 <= 1024 by omega)) (fun h0=>by simp;omega)
 have w2:=wvalid_ds (neg:=false) (cap_up hl.bm (show 256 <= 1024 by omega)) (fun h0=>rfl)
 have hne:=ds_ne h16 hl.z
 show fvalid _ _ _ _=true
 unfold fvalid
 rw[w1,w2,vl_ds h16,vl_ds h16,hl.g]
 simp[c1,c2,hne]
def zeroF:D := .ag [.b false,.nil,.b false,.nil]
structure ResF (a:Int) (b:Nat) (r:D):Prop where
 h : ∃ d,((a/(Nat.gcd a.natAbs b:Nat)).natAbs<cap 256 /\ b/Nat.gcd a.natAbs b<cap 256 /\ r = .tu [d,.i .i64 0] /\ Fr (a/(Nat.gcd a.natAbs b:Nat)) (b/Nat.gcd a.natAbs b) d) \/
  (¬ ((a/(Nat.gcd a.natAbs b:Nat)).natAbs<cap 256 /\ b/Nat.gcd a.natAbs b<cap 256) /\ r = .tu [zeroF,.i .i64 3])
def resV (n:Int) (m:Nat) (d:D):D:=if n.natAbs<cap 256 /\ m<cap 256 then .tu [d,.i .i64 0]else .tu [zeroF,.i .i64 3]
theorem res_q {n:Int} {m:Nat} {d:D} (h:Fr n m d):PRet VS 32 [d] (resV n m d):=by
 unfold resV
 obtain⟨x,y,rfl,a,b⟩:=h.h
 have e1:=fun{H K}=>(long_f (s:=decide (n<0)) (t:=false) a.sl b.sl).c (H:=H) (K:=K) fn52 rfl (by simp[plain_ag,flat_b,a.sl.flat,b.sl.flat]) (.inl rfl)
 have f1:=fun m H=>flat_freeze a.sl.flat m H
 have f2:=fun m H=>flat_freeze b.sl.flat m H
 refine .body (vf:=v32) fn32 rfl ?_
 by_cases hc:n.natAbs<cap 256 /\ m<cap 256
 ·rw[if_pos hc]
  have c1:=cap_len.2 hc.1
  have c2:=cap_len.2 hc.2
  rw[show(decide (256<(ds 65536 n.natAbs).length)||decide (256<(ds 65536 m).length))=false by simp;omega]at e1
  simp(disch:=omega) only[go_sem,Nat.reduceAdd,Nat.reduceSub,v32,e1,f1,f2]
 ·rw[if_neg hc]
  rw[<- cap_len, <- cap_len]at hc
  rw[show(decide (256<(ds 65536 n.natAbs).length)||decide (256<(ds 65536 m).length))=true by simp;omega]at e1
  simp(disch:=omega) only[go_sem,Nat.reduceAdd,Nat.reduceSub,v32,e1,zeroF]
theorem ResF.of {a:Int} {b:Nat} {d:D} (h:Fr (a/(Nat.gcd a.natAbs b:Nat)) (b/Nat.gcd a.natAbs b) d):ResF a b (resV (a/(Nat.gcd a.natAbs b:Nat)) (b/Nat.gcd a.natAbs b) d):=by
 unfold resV
 refine⟨d, ?_⟩
 by_cases hc:(a/(Nat.gcd a.natAbs b:Nat)).natAbs<cap 256 /\ b/Nat.gcd a.natAbs b<cap 256
 ·rw[if_pos hc];exact .inl ⟨hc.1,hc.2,rfl,h⟩
 ·rw[if_neg hc];exact .inr ⟨hc,rfl⟩
theorem ResF.pl {a:Int} {b:Nat} {r:D} (h:ResF a b r) : ∃ c1 c2 c3 c4 e,r = .tu [.ag [c1,c2,c3,c4],.i .i64 e] /\ c1.flat=true /\ c2.flat=true /\ c3.flat=true /\ c4.flat=true:=by
 obtain⟨d,⟨_,_,rfl,hd⟩|⟨_,rfl⟩⟩:=h.h
 ·obtain⟨x,y,rfl,w1,w2⟩:=hd.h
  exact⟨_,_,_,_,_,rfl,rfl,w1.sl.flat,rfl,w2.sl.flat⟩
 ·exact⟨_,_,_,_,_,rfl,rfl,rfl,rfl,rfl⟩
section
variable {n1 n2:Int} {m1 m2:Nat} {d1 d2:D}
theorem mul_f (h1:Fr n1 m1 d1) (h2:Fr n2 m2 d2) (l1:Low n1 m1) (l2:Low n2 m2) : ∃ r,PRet VS 210 [d1,d2] r /\ ResF (n1*n2) (m1*m2) r:=by
 obtain⟨r1,rfl,v1,s1,t1,a1,b1⟩:=h1.rf l1
 obtain⟨r2,rfl,v2,s2,t2,a2,b2⟩:=h2.rf l2
 have e0:=fun{H K}=>allvalid_c r1 r2 (H:=H) (K:=K)
 rw[v1,v2]at e0
 obtain⟨p,p1,p2⟩:=ftimes_q (w16_wh a1) (w16_wh a2) (cap_up l1.bn (by omega)) (cap_up l2.bn (by omega))
 obtain⟨q,q1,q2⟩:=ftimes_q (wh_nat b1) (wh_nat b2) (cap_up l1.bm (by omega)) (cap_up l2.bm (by omega))
 have e1:=fun{H K}=>p1.c (H:=H) (K:=K) fn25 rfl (by simp[(w16_wh a1).pl,(w16_wh a2).pl]) (.inl rfl)
 have e2:=fun{H K}=>q1.c (H:=H) (K:=K) fn25 rfl (by simp[(wh_nat b1).pl,(wh_nat b2).pl]) (.inl rfl)
 rw[<- Int.natCast_mul]at q2
 obtain⟨k,k1,k2⟩:=lowest_q p2 q2 (by have:=l1.z;have:=l2.z;exact Nat.mul_ne_zero l1.z l2.z) (by rw[Int.natAbs_mul];exact cap_mul l1.bn l2.bn (by omega)) (cap_mul l1.bm l2.bm (by omega))
 have e3:=fun{H K}=>k1.c (H:=H) (K:=K) fn31 rfl (by simp[p2.pl,q2.pl]) (.inl rfl)
 have e4:=fun{H K}=>(res_q k2).c (H:=H) (K:=K) fn32 rfl (by simp[k2.pl]) (.inl rfl)
 have hr:=ResF.of k2
 generalize resV _ _ _=r at e4 hr
 obtain⟨c1,c2,c3,c4,e,rfl,f1,f2,f3,f4⟩:=hr.pl
 refine⟨_,.body (vf:=v210) fn210 rfl ?_,hr⟩
 have ef1:=fun m H=>flat_freeze f1 m H
 have ef2:=fun m H=>flat_freeze f2 m H
 have ef3:=fun m H=>flat_freeze f3 m H
 have ef4:=fun m H=>flat_freeze f4 m H
 simp only[RF.d,RF.cells,s1,t1,s2,t2]at e0 ⊢
 simp(disch:=omega) only[go_sem,Nat.reduceAdd,Nat.reduceSub,Nat.reduceLeDiff,Nat.reduceLT,v210,e0,e1,e2,e3,e4,ef1,ef2,ef3,ef4]
theorem add_f (h1:Fr n1 m1 d1) (h2:Fr n2 m2 d2) (l1:Low n1 m1) (l2:Low n2 m2) : ∃ r,PRet VS 231 [d1,d2] r /\ ResF (n1*m2+n2*m1) (m1*m2) r:=by
 obtain⟨r1,rfl,v1,s1,t1,a1,b1⟩:=h1.rf l1
 obtain⟨r2,rfl,v2,s2,t2,a2,b2⟩:=h2.rf l2
 have e0:=fun{H K}=>allvalid_c r1 r2 (H:=H) (K:=K)
 rw[v1,v2]at e0
 obtain⟨p,p1,p2⟩:=ftimes_q (w16_wh a1) (wh_nat b2) (cap_up l1.bn (by omega)) (cap_up l2.bm (by omega))
 obtain⟨o,o1,o2⟩:=ftimes_q (w16_wh a2) (wh_nat b1) (cap_up l2.bn (by omega)) (cap_up l1.bm (by omega))
 obtain⟨q,q1,q2⟩:=ftimes_q (wh_nat b1) (wh_nat b2) (cap_up l1.bm (by omega)) (cap_up l2.bm (by omega))
 have bp:(n1*(m2:Int)).natAbs<cap 512:=by rw[Int.natAbs_mul];exact cap_mul l1.bn l2.bm (by omega)
 have bo:(n2*(m1:Int)).natAbs<cap 512:=by rw[Int.natAbs_mul];exact cap_mul l2.bn l1.bm (by omega)
 obtain⟨t,t1',t2'⟩:=fplus_q p2 o2 (cap_up bp (by omega)) (cap_up bo (by omega))
 have e1:=fun{H K}=>p1.c (H:=H) (K:=K) fn25 rfl (by simp[(w16_wh a1).pl,(wh_nat b2).pl]) (.inl rfl)
 have e2:=fun{H K}=>o1.c (H:=H) (K:=K) fn25 rfl (by simp[(w16_wh a2).pl,(wh_nat b1).pl]) (.inl rfl)
 have e5:=fun{H K}=>q1.c (H:=H) (K:=K) fn25 rfl (by simp[(wh_nat b1).pl,(wh_nat b2).pl]) (.inl rfl)
 have e6:=fun{H K}=>t1'.c (H:=H) (K:=K) fn28 rfl (by simp[p2.pl,o2.pl]) (.inl rfl)
 rw[<- Int.natCast_mul]at q2
 have bs:(n1*(m2:Int)+n2*m1).natAbs<cap 513:=Nat.lt_of_le_of_lt (Int.natAbs_add_le _ _) (cap_add bp bo (by omega))
 obtain⟨k,k1,k2⟩:=lowest_q t2' q2 (Nat.mul_ne_zero l1.z l2.z) (cap_up bs (by omega)) (cap_mul l1.bm l2.bm (by omega))
 have e3:=fun{H K}=>k1.c (H:=H) (K:=K) fn31 rfl (by simp[t2'.pl,q2.pl]) (.inl rfl)
 have e4:=fun{H K}=>(res_q k2).c (H:=H) (K:=K) fn32 rfl (by simp[k2.pl]) (.inl rfl)
 have hr:=ResF.of k2
 generalize resV _ _ _=r at e4 hr
 obtain⟨c1,c2,c3,c4,e,rfl,f1,f2,f3,f4⟩:=hr.pl
 refine⟨_,.body (vf:=v231) fn231 rfl ?_,hr⟩
 have ef1:=fun m H=>flat_freeze f1 m H
 have ef2:=fun m H=>flat_freeze f2 m H
 have ef3:=fun m H=>flat_freeze f3 m H
 have ef4:=fun m H=>flat_freeze f4 m H
 simp only[RF.d,RF.cells,s1,t1,s2,t2]at e0 ⊢
 simp(disch:=omega) only[go_sem,Nat.reduceAdd,Nat.reduceSub,Nat.reduceLeDiff,Nat.reduceLT,v231,e0,e1,e2,e3,e4,e5,e6,ef1,ef2,ef3,ef4]
theorem sub_f (h1:Fr n1 m1 d1) (h2:Fr n2 m2 d2) (l1:Low n1 m1) (l2:Low n2 m2) : ∃ r,PRet VS 236 [d1,d2] r /\ ResF (n1*m2 + -(n2*m1)) (m1*m2) r:=by
 obtain⟨r1,rfl,v1,s1,t1,a1,b1⟩:=h1.rf l1
 obtain⟨r2,rfl,v2,s2,t2,a2,b2⟩:=h2.rf l2
 have e0:=fun{H K}=>allvalid_c r1 r2 (H:=H) (K:=K)
 rw[v1,v2]at e0
 obtain⟨p,p1,p2⟩:=ftimes_q (w16_wh a1) (wh_nat b2) (cap_up l1.bn (by omega)) (cap_up l2.bm (by omega))
 obtain⟨o,o1,o2⟩:=ftimes_q (w16_wh a2) (wh_nat b1) (cap_up l2.bn (by omega)) (cap_up l1.bm (by omega))
 obtain⟨q,q1,q2⟩:=ftimes_q (wh_nat b1) (wh_nat b2) (cap_up l1.bm (by omega)) (cap_up l2.bm (by omega))
 have bp:(n1*(m2:Int)).natAbs<cap 512:=by rw[Int.natAbs_mul];exact cap_mul l1.bn l2.bm (by omega)
 have bo:(n2*(m1:Int)).natAbs<cap 512:=by rw[Int.natAbs_mul];exact cap_mul l2.bn l1.bm (by omega)
 obtain⟨w,w1,w2⟩:=fneg_q o2 (cap_up bo (by omega))
 have bo':(-(n2*(m1:Int))).natAbs<cap 512:=by rw[Int.natAbs_neg];exact bo
 obtain⟨t,t1',t2'⟩:=fplus_q p2 w2 (cap_up bp (by omega)) (cap_up bo' (by omega))
 have e1:=fun{H K}=>p1.c (H:=H) (K:=K) fn25 rfl (by simp[(w16_wh a1).pl,(wh_nat b2).pl]) (.inl rfl)
 have e2:=fun{H K}=>o1.c (H:=H) (K:=K) fn25 rfl (by simp[(w16_wh a2).pl,(wh_nat b1).pl]) (.inl rfl)
 have e5:=fun{H K}=>q1.c (H:=H) (K:=K) fn25 rfl (by simp[(wh_nat b1).pl,(wh_nat b2).pl]) (.inl rfl)
 have e7:=fun{H K}=>w1.c (H:=H) (K:=K) fn71 rfl (by simp[o2.pl]) (.inl rfl)
 have e6:=fun{H K}=>t1'.c (H:=H) (K:=K) fn28 rfl (by simp[p2.pl,w2.pl]) (.inl rfl)
 rw[<- Int.natCast_mul]at q2
 have bs:(n1*(m2:Int) + -(n2*m1)).natAbs<cap 513:=Nat.lt_of_le_of_lt (Int.natAbs_add_le _ _) (cap_add bp bo' (by omega))
 obtain⟨k,k1,k2⟩:=lowest_q t2' q2 (Nat.mul_ne_zero l1.z l2.z) (cap_up bs (by omega)) (cap_mul l1.bm l2.bm (by omega))
 have e3:=fun{H K}=>k1.c (H:=H) (K:=K) fn31 rfl (by simp[t2'.pl,q2.pl]) (.inl rfl)
 have e4:=fun{H K}=>(res_q k2).c (H:=H) (K:=K) fn32 rfl (by simp[k2.pl]) (.inl rfl)
 have hr:=ResF.of k2
 generalize resV _ _ _=r at e4 hr
 obtain⟨c1,c2,c3,c4,e,rfl,f1,f2,f3,f4⟩:=hr.pl
 refine⟨_,.body (vf:=v236) fn236 rfl ?_,hr⟩
 have ef1:=fun m H=>flat_freeze f1 m H
 have ef2:=fun m H=>flat_freeze f2 m H
 have ef3:=fun m H=>flat_freeze f3 m H
 have ef4:=fun m H=>flat_freeze f4 m H
 simp only[RF.d,RF.cells,s1,t1,s2,t2]at e0 ⊢
 simp(disch:=omega) only[go_sem,Nat.reduceAdd,Nat.reduceSub,Nat.reduceLeDiff,Nat.reduceLT,v236,e0,e1,e2,e3,e4,e5,e6,e7,ef1,ef2,ef3,ef4]
theorem cmp_f (h1:Fr n1 m1 d1) (h2:Fr n2 m2 d2) (l1:Low n1 m1) (l2:Low n2 m2):PRet VS 11 [d1,d2] (.i .i64 (isgn (n1*m2) (n2*m1))):=by
 obtain⟨r1,rfl,v1,s1,t1,a1,b1⟩:=h1.rf l1
 obtain⟨r2,rfl,v2,s2,t2,a2,b2⟩:=h2.rf l2
 have e0:=fun{H K}=>allvalid_c r1 r2 (H:=H) (K:=K)
 rw[v1,v2]at e0
 obtain⟨p,p1,p2⟩:=ftimes_q (w16_wh a1) (wh_nat b2) (cap_up l1.bn (by omega)) (cap_up l2.bm (by omega))
 obtain⟨o,o1,o2⟩:=ftimes_q (w16_wh a2) (wh_nat b1) (cap_up l2.bn (by omega)) (cap_up l1.bm (by omega))
 have bp:(n1*(m2:Int)).natAbs<cap 512:=by rw[Int.natAbs_mul];exact cap_mul l1.bn l2.bm (by omega)
 have bo:(n2*(m1:Int)).natAbs<cap 512:=by rw[Int.natAbs_mul];exact cap_mul l2.bn l1.bm (by omega)
 have e1:=fun{H K}=>p1.c (H:=H) (K:=K) fn25 rfl (by simp[(w16_wh a1).pl,(wh_nat b2).pl]) (.inl rfl)
 have e2:=fun{H K}=>o1.c (H:=H) (K:=K) fn25 rfl (by simp[(w16_wh a2).pl,(wh_nat b1).pl]) (.inl rfl)
 have e3:=fun{H K}=>(cmp_q p2 o2 (cap_up bp (by omega)) (cap_up bo (by omega))).c (H:=H) (K:=K) fn27 rfl (by simp[p2.pl,o2.pl]) (.inl rfl)
 refine .body (vf:=v11) fn11 rfl ?_
 simp only[RF.d,RF.cells,s1,t1,s2,t2]at e0 ⊢
 simp(disch:=omega) only[go_sem,Nat.reduceAdd,Nat.reduceSub,Nat.reduceLeDiff,Nat.reduceLT,v11,e0,e1,e2,e3]
theorem fromInt_f {n:Int} (hn : -9223372036854775808 <= n /\ n<9223372036854775808) : ∃ d,PRet VS 10 [.i .i64 n] d /\ Fr n 1 d:=by
 obtain⟨a,a1,a2⟩:=wh_fromInt hn
 obtain⟨b,b1,b2⟩:=wh_fromInt (n:=1) (by omega)
 have e1:=fun{H K}=>a1.c (H:=H) (K:=K) fn30 rfl rfl (.inl rfl)
 have e2:=fun{H K}=>b1.c (H:=H) (K:=K) fn30 rfl rfl (.inl rfl)
 obtain⟨x,rfl,hx⟩:=a2.h
 obtain⟨y,rfl,hy⟩:=b2.h
 have ef:=fun m H=>flat_freeze hx.sl.flat m H
 have eg:=fun m H=>flat_freeze hy.sl.flat m H
 have d1:decide ((1:Int)<0)=false:=rfl
 rw[d1]at e2
 refine⟨_,.body (vf:=v10) fn10 rfl ?_,⟨x,y,rfl,hx,hy⟩⟩
 simp(disch:=omega) only[go_sem,Nat.reduceAdd,Nat.reduceSub,Nat.reduceLeDiff,v10,e1,e2,ef,eg]
theorem int_f {n:Int} {m:Nat} {d:D} (h:Fr n m d) (l:Low n m):PRet VS 12 [d] (.tu (if m=1 then[.i .i64 (if iok n then n else 0),.i .i64 (if iok n then 0 else 3)]else[.i .i64 0,.i .i64 22])):=by
 obtain⟨r,rfl,v,s1,t1,a,b⟩:=h.rf l
 have e0:=fun{H K}=>r.valid_c (H:=H) (K:=K)
 rw[v]at e0
 simp only[RF.d,RF.cells,s1,t1]at e0 ⊢
 have e1:=fun{H K}=>(integral_q (s:=decide (n<0)) (t:=false) a.sl b.sl).c (H:=H) (K:=K) fn33 rfl (by simp[plain_ag,flat_b,a.sl.flat,b.sl.flat]) (.inl rfl)
 have e2:=fun{H K}=>(int_q (w16_wh a) (cap_up l.bn (by omega))).c (H:=H) (K:=K) fn34 rfl (by simp[(w16_wh a).pl]) (.inl rfl)
 have hone:ds 65536 m=[1]↔m=1:=by
  constructor
  ·intro h;have:=vl_ds h16 m;rw[h]at this;simpa [vl]using this.symm
  ·intro h;rw[h,ds_step h16 (by omega)];simp[ds_zero]
 refine .body (vf:=v12) fn12 rfl ?_
 by_cases hm:m=1
 ·rw[show(!false&&decide (ds 65536 m=[1]))=true by rw[decide_eq_true (hone.2 hm)];rfl]at e1
  rw[if_pos hm]
  simp(disch:=omega) only[go_sem,Nat.reduceAdd,Nat.reduceSub,Nat.reduceLeDiff,v12,e0,e1,e2]
 ·rw[show(!false&&decide (ds 65536 m=[1]))=false by rw[decide_eq_false (fun h=>hm (hone.1 h))];rfl]at e1
  rw[if_neg hm]
  simp(disch:=omega) only[go_sem,Nat.reduceAdd,Nat.reduceSub,v12,e0,e1]
end
open Go.Dm
section
variable {n1 n2:Int} {m1 m2:Nat} {d1 d2:D}
theorem zero_f {n:Int} {m:Nat} {d:D} (h:Fr n m d):PRet VS 23 [d] (.b (decide (n=0))):=by
 obtain⟨x,y,rfl,a,b⟩:=h.h
 refine .body (vf:=v23) fn23 rfl ?_
 by_cases h0:n=0
 ·subst h0
  have c:((ds 65536 (Int.natAbs 0)).length:Int)=0:=by simp[ds_zero]
  simp(disch:=omega) only[go_sem,Nat.reduceAdd,Nat.reduceSub,Nat.reduceLeDiff,Int.reduceLT,v23,a.sl.n,c]
 ·have c : ¬ ((ds 65536 n.natAbs).length:Int)=0:=by have:=ds_pos h16 (n:=n.natAbs) (by omega);omega
  simp(disch:=omega) only[go_sem,Nat.reduceAdd,Nat.reduceSub,Nat.reduceLeDiff,v23,a.sl.n,c,h0]
theorem negative_f {n:Int} {m:Nat} {d:D} (h:Fr n m d):PRet VS 24 [d] (.b (decide (n<0))):=by
 obtain⟨x,y,rfl,a,b⟩:=h.h
 refine .body (vf:=v24) fn24 rfl ?_
 simp(disch:=omega) only[go_sem,Nat.reduceAdd,Nat.reduceSub,Nat.reduceLeDiff,v24]
def upB (mode:Nat) (neg odd:Bool) (half:Int):Bool:=match mode with
 | 1=>neg
 | 2 => !neg
 | 3=>false
 | 4=>true
 | 5=>decide (half>0)||(decide (half=0) && !neg)
 | _=>decide (half>0)||(decide (half=0)&&odd)
def rndK (mode:Nat) (x:Int) (b:Nat):Int :=
 if x%b=0 then x/b else if upB mode (decide (x<0)) (decide ((x/b).natAbs%2=1)) (isgn (x%b+x%b) b)then x/b+1 else x/b
theorem up_q {mode:Nat} (hm:1 <= mode /\ mode <= 6) {neg odd:Bool} {half:Int}:PRet VS (63+mode) [.ag [.b neg,.b odd,.i .i64 half]] (.b (upB mode neg odd half)):=by
 obtain rfl|rfl|rfl|rfl|rfl|rfl:mode=1 \/ mode=2 \/ mode=3 \/ mode=4 \/ mode=5 \/ mode=6:=by omega
 ·refine .body (vf:=v64) fn64 rfl ?_
  simp(disch:=omega) only[go_sem,Nat.reduceAdd,Nat.reduceSub,Nat.reduceLeDiff,v64,upB]
 ·refine .body (vf:=v65) fn65 rfl ?_
  simp(disch:=omega) only[go_sem,Nat.reduceAdd,Nat.reduceSub,Nat.reduceLeDiff,v65,upB]
 ·refine .body (vf:=v66) fn66 rfl ?_
  simp(disch:=omega) only[go_sem,Nat.reduceAdd,Nat.reduceSub,v66,upB]
 ·refine .body (vf:=v67) fn67 rfl ?_
  simp(disch:=omega) only[go_sem,Nat.reduceAdd,Nat.reduceSub,v67,upB]
 ·refine .body (vf:=v68) fn68 rfl ?_
  by_cases c1:0<half
  ·simp(disch:=omega) only[go_sem,Nat.reduceAdd,Nat.reduceSub,v68,upB,c1,Bool.true_or]
  ·by_cases c2:half=0
   ·subst c2;simp(disch:=omega) only[go_sem,Nat.reduceAdd,Nat.reduceSub,Nat.reduceLeDiff,Int.reduceLT,v68,upB,Bool.true_and];cases neg<;>rfl
   ·simp(disch:=omega) only[go_sem,Nat.reduceAdd,Nat.reduceSub,v68,upB,c1,c2,Bool.false_or,Bool.false_and]
 ·refine .body (vf:=v69) fn69 rfl ?_
  by_cases c1:0<half
  ·simp(disch:=omega) only[go_sem,Nat.reduceAdd,Nat.reduceSub,v69,upB,c1,Bool.true_or]
  ·by_cases c2:half=0
   ·subst c2;simp(disch:=omega) only[go_sem,Nat.reduceAdd,Nat.reduceSub,Nat.reduceLeDiff,Int.reduceLT,v69,upB,Bool.true_and];cases odd<;>rfl
   ·simp(disch:=omega) only[go_sem,Nat.reduceAdd,Nat.reduceSub,v69,upB,c1,c2,Bool.false_or,Bool.false_and]
end
open Go.Dm
theorem cap_sum (a b:Nat):cap (a+b)=cap a*cap b:=Nat.pow_add 65536 a b
theorem frng_256 {a b:Nat} (ha:a<cap 256) (hb:b<cap 256):a*b+1<cap 512:=by
 have h1:a*b <= (cap 256-1)*(cap 256-1):=Nat.mul_le_mul (by omega) (by omega)
 have h2:cap 512=cap 256*cap 256:=cap_sum 256 256
 have h3:cap 1 <= cap 256:=cap_le (by omega)
 have h4:cap 1=65536:=rfl
 rw[h2]
 generalize cap 256=C at *
 obtain⟨c,rfl⟩ : ∃ c,C=c+1:=⟨C-1,by omega⟩
 rw[Nat.add_sub_cancel]at h1
 have:(c+1)*(c+1)=c*c+2*c+1:=by grind
 omega
theorem ediv_abs {x:Int} {b:Nat}:(x/(b:Int)).natAbs <= x.natAbs:=Int.natAbs_ediv_le_natAbs x b
theorem odd_ds {k:Nat} (h:k≠0):(ds 65536 k)[0]! % 2=k%2:=by
 rw[ds_step h16 h]
 show k%65536%2=k%2
 omega
theorem CallQ_det {V:VProg} {f:FuncId} {args:List D} {H:Heap} {r:CR} (h:CallQ V f args H (· = r)) {K:CR -> Prop}:CallQ V f args H K↔K r:=by
  constructor
  · rintro⟨n,h1,h2⟩
    obtain⟨m,h3,h4⟩:=h
    have e1:=call_up (Nat.le_max_left n m) h1
    have e2:=call_up (Nat.le_max_right n m) h3
    rw[<- h4, <- e2,e1];exact h2
  · intro hk;exact h.mono fun q hq=>by rw[hq];exact hk
theorem upw_c {H:Heap} {K:CR -> Prop}:CallQ VS 29 [] H K↔K (.ret (.ag [.fn (.func 64) [] [],.fn (.func 65) [] [],.fn (.func 66) [] [],.fn (.func 67) [] [],.fn (.func 68) [] [],.fn (.func 69) [] []]) H):=by
 refine CallQ_det (.body (vf:=v29) fn29 rfl rfl ?_)
 simp(disch:=omega) only[go_sem,Nat.reduceAdd,Nat.reduceLeDiff,v29]
theorem upf_q {mode:Nat} (hm:1 <= mode /\ mode <= 6):ixaD (.ag [.fn (.func 64) [] [],.fn (.func 65) [] [],.fn (.func 66) [] [],.fn (.func 67) [] [],.fn (.func 68) [] [],.fn (.func 69) [] []]) (.i .u8 (IntKind.u8.wrap ((mode:Int)-1))) 6 1 false=some (.fn (.func (63+mode)) [] []):=by
 obtain rfl|rfl|rfl|rfl|rfl|rfl:mode=1 \/ mode=2 \/ mode=3 \/ mode=4 \/ mode=5 \/ mode=6:=by omega
 all_goals rfl
theorem up_c {mode:Nat} (hm:1 <= mode /\ mode <= 6) {neg odd:Bool} {half:Int} {H:Heap} {K:CR -> Prop}:CallQ VS (63+mode) [.ag [.b neg,.b odd,.i .i64 half]] H K↔K (.ret (.b (upB mode neg odd half)) H):=by
 have h := @up_q mode hm neg odd half
 obtain rfl|rfl|rfl|rfl|rfl|rfl:mode=1 \/ mode=2 \/ mode=3 \/ mode=4 \/ mode=5 \/ mode=6:=by omega
 ·exact h.c fn64 rfl rfl (.inl rfl)
 ·exact h.c fn65 rfl rfl (.inl rfl)
 ·exact h.c fn66 rfl rfl (.inl rfl)
 ·exact h.c fn67 rfl rfl (.inl rfl)
 ·exact h.c fn68 rfl rfl (.inl rfl)
 ·exact h.c fn69 rfl rfl (.inl rfl)
section
variable {n1 n2:Int} {m1 m2:Nat} {d1 d2:D}
set_option maxRecDepth 10000 in
theorem round_f (h1:Fr n1 m1 d1) (h2:Fr n2 m2 d2) (l1:Low n1 m1) (l2:Low n2 m2) (h0:0<n2) {mode:Nat} (hm:1 <= mode /\ mode <= 6) : ∃ r,PRet VS 9 [d1,d2,.i .u8 mode] r /\ ResF (rndK mode (n1*m2) (m1*n2.natAbs)*n2) m2 r:=by
 have z:=zero_f h2
 have ng:=negative_f h2
 have ng1:=negative_f h1
 obtain⟨r1,rfl,v1,s1,t1,a1,b1⟩:=h1.rf l1
 obtain⟨r2,rfl,v2,s2,t2,a2,b2⟩:=h2.rf l2
 have e0:=fun{H K}=>allvalid_c r1 r2 (H:=H) (K:=K)
 rw[v1,v2]at e0
 obtain⟨N2,hN⟩ : ∃ N:Nat,n2=N:=⟨n2.natAbs,by omega⟩
 subst hN
 have hN0:N2≠0:=by omega
 have wN:=w16_wh a2
 rw[show decide ((N2:Int)<0)=false by simp]at s2 wN
 have bN:N2<cap 256:=l2.bn
 obtain⟨bt,q1,q2⟩:=ftimes_q (wh_nat b1) wN (cap_up l1.bm (by omega)) (cap_up bN (by omega))
 obtain⟨p,p1,p2⟩:=ftimes_q (w16_wh a1) (wh_nat b2) (cap_up l1.bn (by omega)) (cap_up l2.bm (by omega))
 rw[<- Int.natCast_mul]at q2
 have hB0:m1*N2≠0:=Nat.mul_ne_zero l1.z hN0
 have bp:(n1*(m2:Int)).natAbs+1<cap 512:=by rw[Int.natAbs_mul];exact frng_256 l1.bn l2.bm
 have bq:m1*N2+1<cap 512:=frng_256 l1.bm bN
 obtain⟨kd,rd,k1,k2,k3⟩:=fdiv_q p2 q2 hB0 (cap_up (show _<cap 512 by omega) (by omega)) (cap_up (show _<cap 512 by omega) (by omega))
 have nN:((N2:Int)).natAbs=N2:=rfl
 rw[nN]
 obtain⟨X,hX⟩ : ∃ X,X=n1*(m2:Int):=⟨_,rfl⟩
 obtain⟨B,hB⟩ : ∃ B,B=m1*N2:=⟨_,rfl⟩
 rw[<- hX]at p2 bp k2 k3 ⊢
 rw[<- hB]at q2 bq k2 k3 hB0 ⊢
 have hsg:decide (X<0)=decide (n1<0):=by
  have:m2≠0:=l2.z
  rw[hX]
  by_cases c:n1<0
  ·rw[decide_eq_true c,decide_eq_true];exact Int.mul_neg_of_neg_of_pos c (by omega)
  ·rw[decide_eq_false c,decide_eq_false];exact Int.not_lt.2 (Int.mul_nonneg (by omega) (by omega))
 have hk:(X/(B:Int)).natAbs+1<cap 512:=by have := @ediv_abs X B;omega
 have hr1:=Int.emod_nonneg X (show(B:Int)≠0 by omega)
 have hr2:=Int.emod_lt_of_pos X (show(0:Int)<(B:Int)by omega)
 obtain⟨R,hR⟩ : ∃ R:Nat,X%(B:Int)=R:=⟨(X%(B:Int)).toNat,by omega⟩
 obtain⟨Q,hQ⟩ : ∃ Q,Q=X/(B:Int):=⟨_,rfl⟩
 rw[hR]at hr2 k3
 rw[<- hQ]at hk k2
 have e1:=fun{H K}=>q1.c (H:=H) (K:=K) fn25 rfl (by simp[(wh_nat b1).pl,wN.pl]) (.inl rfl)
 have e2:=fun{H K}=>p1.c (H:=H) (K:=K) fn25 rfl (by simp[(w16_wh a1).pl,(wh_nat b2).pl]) (.inl rfl)
 have e3:=fun{H K}=>k1.c (H:=H) (K:=K) fn26 rfl (by simp[p2.pl,q2.pl]) (.inl rfl)
 rw[decide_eq_false (show ¬ (N2:Int)=0 by omega)]at z
 rw[decide_eq_false (show ¬ (N2:Int)<0 by omega)]at ng
 have e5:=fun{H K}=>z.c (H:=H) (K:=K) fn23 rfl (by simp[r2.pl]) (.inl rfl)
 have e6:=fun{H K}=>ng.c (H:=H) (K:=K) fn24 rfl (by simp[r2.pl]) (.inl rfl)
 have e7:=fun{H K}=>ng1.c (H:=H) (K:=K) fn24 rfl (by simp[r1.pl]) (.inl rfl)
 have fin : ∀ {k:Int} {kx:D},Wh k kx -> k.natAbs<cap 512 -> ∃ t,PRet VS 25 [kx,.ag [.b false,r2.x]] t /\ Wh (k*N2) t /\ ∃ w5 r,PRet VS 31 [t,.ag [.b false,r2.y]] w5 /\ PRet VS 32 [w5] r /\ ResF (k*N2) m2 r /\ t.plain=true /\ w5.plain=true:=by
  intro k kx hw hb
  obtain⟨t,t1,t2⟩:=ftimes_q hw wN hb (cap_up bN (by omega))
  obtain⟨w5,u1,u2⟩:=lowest_q t2 (wh_nat b2) l2.z (by rw[Int.natAbs_mul];exact cap_mul hb bN (by omega)) (cap_up l2.bm (by omega))
  exact⟨t,t1,t2,w5,_,u1,res_q u2,ResF.of u2,t2.pl,u2.pl⟩
 obtain⟨rx,rfl,hrx⟩:=k3.h
 obtain⟨bx,rfl,hbx⟩:=q2.h
 rw[nat_dec]at *
 rw[nat_dec]at *
 have cR:((R:Int)).natAbs=R:=rfl
 rw[cR]at hrx
 have m1' : ¬ (mode:Int)<1:=by omega
 have m2' : ¬ 6<(mode:Int):=by omega
 obtain⟨kx,rfl,hkx⟩:=k2.h
 by_cases hR0:R=0
 ·have hrk:rndK mode X B=Q:=by unfold rndK;rw[if_pos (by rw[hR];omega),hQ]
  obtain⟨t,t1',t2',u',r,u1,u2,u3,u4,u5⟩:=fin k2 (by omega)
  have e8:=fun{H K}=>t1'.c (H:=H) (K:=K) fn25 rfl (by simp[k2.pl,wN.pl]) (.inl rfl)
  have e9:=fun{H K}=>u1.c (H:=H) (K:=K) fn31 rfl (by simp[u4,(wh_nat b2).pl]) (.inl rfl)
  have e10:=fun{H K}=>u2.c (H:=H) (K:=K) fn32 rfl (by simp[u5]) (.inl rfl)
  obtain⟨c1,c2,c3,c4,e,rfl,f1,f2,f3,f4⟩:=u3.pl
  rw[<- hrk]at u3
  refine⟨_,.body (vf:=v9) fn9 rfl ?_,u3⟩
  have ef1:=fun m H=>flat_freeze f1 m H
  have ef2:=fun m H=>flat_freeze f2 m H
  have ef3:=fun m H=>flat_freeze f3 m H
  have ef4:=fun m H=>flat_freeze f4 m H
  obtain⟨tx,rfl,htx⟩:=t2'.h
  have c0 : ¬ (0:Int)<((ds 65536 R).length:Int):=by rw[hR0];simp[ds_zero]
  simp only[RF.d,RF.cells,s1,t1,s2,t2]at e0 e5 e6 e7 ⊢
  simp(disch:=omega) only[go_sem,Nat.reduceAdd,Nat.reduceSub,Nat.reduceLeDiff,Nat.reduceLT,v9,e0,e1,e2,e3,e5,e6,e8,e9,e10,ef1,ef2,ef3,ef4,m1',m2',hrx.sl.n,c0]
 ·have c0:(0:Int)<((ds 65536 R).length:Int):=by have:=ds_pos h16 hR0;omega
  obtain⟨w,w1,w2⟩:=fplus_q k3 k3 (by show R<_;exact cap_up (show R<cap 512 by omega) (by omega)) (by show R<_;exact cap_up (show R<cap 512 by omega) (by omega))
  have e8:=fun{H K}=>w1.c (H:=H) (K:=K) fn28 rfl (by simp[k3.pl]) (.inl rfl)
  have e9:=fun{H K}=>(cmp_q w2 q2 (cap_up (show _<cap 513 by have q5:cap 513=cap 512*cap 1:=cap_sum 512 1;have q6:cap 1=65536:=rfl;rw[q6]at q5;omega) (by omega)) (cap_up (show B<cap 512 by omega) (by omega))).c (H:=H) (K:=K) fn27 rfl (by simp[w2.pl,q2.pl]) (.inl rfl)
  have hup:=fun{H K} => @up_c mode hm (decide (n1<0)) (decide (Q.natAbs%2=1)) (isgn ((R:Int)+R) B) H K
  have hxa:=upf_q hm
  have hmm:63+mode<4294967295:=by omega
  have hrk:rndK mode X B=if upB mode (decide (n1<0)) (decide (Q.natAbs%2=1)) (isgn ((R:Int)+R) B)then Q+1 else Q:=by
   unfold rndK;rw[if_neg (by rw[hR];omega),hR, <- hQ,hsg]
  have main : ∀ {k:Int} {kz:D},rndK mode X B=k -> Wh k kz -> k.natAbs<cap 512 -> (∀ b:Bool,b=upB mode (decide (n1<0)) (decide (Q.natAbs%2=1)) (isgn ((R:Int)+R) B) -> (b=false -> kz = .ag [.b (decide (Q<0)),kx]) /\ (b=true -> ∃ one,PRet VS 30 [.i .i64 1] one /\ PRet VS 28 [.ag [.b (decide (Q<0)),kx],one] kz /\ one.plain=true)) -> ∃ r,PRet VS 9 [r1.d,r2.d,D.i IntKind.u8 ↑mode] r /\ ResF (rndK mode X B * ↑N2) m2 r:=by
   intro k kz hk1 hk2 hk3 hk4
   obtain⟨t,t1',t2',u',r,u1,u2,u3,u4,u5⟩:=fin hk2 hk3
   have e11:=fun{H K}=>t1'.c (H:=H) (K:=K) fn25 rfl (by simp[hk2.pl,wN.pl]) (.inl rfl)
   have e12:=fun{H K}=>u1.c (H:=H) (K:=K) fn31 rfl (by simp[u4,(wh_nat b2).pl]) (.inl rfl)
   have e10:=fun{H K}=>u2.c (H:=H) (K:=K) fn32 rfl (by simp[u5]) (.inl rfl)
   obtain⟨c1,c2,c3,c4,e,rfl,f1,f2,f3,f4⟩:=u3.pl
   rw[<- hk1]at u3
   refine⟨_,.body (vf:=v9) fn9 rfl ?_,u3⟩
   have ef1:=fun m H=>flat_freeze f1 m H
   have ef2:=fun m H=>flat_freeze f2 m H
   have ef3:=fun m H=>flat_freeze f3 m H
   have ef4:=fun m H=>flat_freeze f4 m H
   obtain⟨tx,rfl,htx⟩:=t2'.h
   simp only[RF.d,RF.cells,s1,t1,s2,t2]at e0 e5 e6 e7 ⊢
   by_cases hQ0:Q=0
   ·have d0 : ¬ (0:Int)<((ds 65536 Q.natAbs).length:Int):=by rw[hQ0];simp[ds_zero]
    rw[show decide (Q.natAbs%2=1)=false by rw[hQ0];rfl]at hup hk4
    simp(disch:=omega) only[go_sem,Nat.reduceAdd,Nat.reduceSub,Nat.reduceLeDiff,Nat.reduceLT,v9,e0,e1,e2,e3,e5,e6,e7,e8,e9,m1',m2',hrx.sl.n,c0,d0,hkx.sl.n,upw_c,hxa,hup]
    obtain⟨hf,ht⟩:=hk4 _ rfl
    refine⟨fun hu => ?_,fun hu => ?_⟩
    ·obtain⟨one,o1,o2,o3⟩:=ht hu
     have e13:=fun{H K}=>o1.c (H:=H) (K:=K) fn30 rfl rfl (.inl rfl)
     have e14:=fun{H K}=>o2.c (H:=H) (K:=K) fn28 rfl (by simp[plain_ag,flat_b,hkx.sl.flat,o3]) (.inl rfl)
     obtain⟨kzx,rfl,hkz⟩:=hk2.h
     simp(disch:=omega) only[go_sem,Nat.reduceAdd,Nat.reduceLeDiff,e13,e14,e11,e12,e10,ef1,ef2,ef3,ef4]
    ·have:=hf hu
     subst this
     simp(disch:=omega) only[go_sem,Nat.reduceAdd,e11,e12,e10,ef1,ef2,ef3,ef4]
   ·have d0:(0:Int)<((ds 65536 Q.natAbs).length:Int):=by have:=ds_pos h16 (n:=Q.natAbs) (by omega);omega
    have hol:=odd_ds (k:=Q.natAbs) (by omega)
    have hqi:(0:Int) <= 0 /\ (0:Int)<((ds 65536 Q.natAbs).length:Int):=⟨by omega,d0⟩
    have heq:decide ((↑((ds 65536 Q.natAbs)[0]!):Int).tmod 2=1)=decide (Q.natAbs%2=1):=by
     rw[Int.tmod_eq_emod_of_nonneg (by omega)]
     by_cases c:Q.natAbs%2=1
     ·rw[decide_eq_true c,decide_eq_true];omega
     ·rw[decide_eq_false c,decide_eq_false];omega
    have hun:D.under (0,[]) kx=true:=hkx.sl.under _
    simp(disch:=omega) only[go_sem,Nat.reduceAdd,Nat.reduceSub,Nat.reduceLeDiff,Nat.reduceLT,Int.reduceEq,v9,e0,e1,e2,e3,e5,e6,e7,e8,e9,m1',m2',hrx.sl.n,c0,d0,hkx.sl.n,hkx.sl.q,u16,hqi,hun,bin_rem,heq,upw_c,hxa,hup]
    obtain⟨hf,ht⟩:=hk4 _ rfl
    refine⟨fun hu => ?_,fun hu => ?_⟩
    ·obtain⟨one,o1,o2,o3⟩:=ht hu
     have e13:=fun{H K}=>o1.c (H:=H) (K:=K) fn30 rfl rfl (.inl rfl)
     have e14:=fun{H K}=>o2.c (H:=H) (K:=K) fn28 rfl (by simp[plain_ag,flat_b,hkx.sl.flat,o3]) (.inl rfl)
     obtain⟨kzx,rfl,hkz⟩:=hk2.h
     simp(disch:=omega) only[go_sem,Nat.reduceAdd,Nat.reduceLeDiff,e13,e14,e11,e12,e10,ef1,ef2,ef3,ef4]
    ·have:=hf hu
     subst this
     simp(disch:=omega) only[go_sem,Nat.reduceAdd,e11,e12,e10,ef1,ef2,ef3,ef4]
  have hQ1:(Q+1).natAbs<cap 512:=by omega
  by_cases hb:upB mode (decide (n1<0)) (decide (Q.natAbs%2=1)) (isgn ((R:Int)+R) B)=true
  ·obtain⟨one,o1,o2⟩:=wh_fromInt (n:=1) (by omega)
   obtain⟨kz,z1,z2⟩:=fplus_q k2 o2 (cap_up (show _<cap 512 by omega) (by omega)) (by show 1<_;exact Nat.lt_of_lt_of_le (show 1<cap 1 by decide) (cap_le (by omega)))
   exact main (by rw[hrk,if_pos hb]) z2 hQ1 fun b hb'=>⟨fun h=>absurd (hb'.symm.trans h |>.symm.trans hb |>.symm) (by simp),fun _=>⟨one,o1,z1,o2.pl⟩⟩
  ·exact main (by rw[hrk,if_neg hb]) k2 (by omega) fun b hb'=>⟨fun _=>rfl,fun h=>absurd (hb'▸h) hb⟩
end
end Go.Proofs.YtgefdialaemelaaGreatDoor.Dv
