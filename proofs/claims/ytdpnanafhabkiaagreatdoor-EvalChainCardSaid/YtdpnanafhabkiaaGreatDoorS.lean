/-
  A name that counts days: references, values, pairs.
-/
import Derived.Test.YtdpnanafhabkiaaGreatDoorR
namespace Go.Proofs.YtdpnanafhabkiaaGreatDoor.Dv
open Go.Dm
structure CtxM where
 I : Ids
 C : Vls
 m1 : D
 m2 : D
 m3 : D
 m4 : D
 m5 : D
 m6 : D
def CtxM.ch (X : CtxM) (bg : List PK) (vs : List (PK × AV)) (H : Heap) : Prop := CH X.I chDefs (.im 24 X.C.rows) X.m1 X.m2 X.m3 X.m4 X.m5 X.m6 bg vs H
def CtxM.w (X : CtxM) : D := .ifc 74 (.hp X.I.v 0)
def CtxM.rd (X : CtxM) (H : Heap) : Prop := ∃ l : List PK, H[X.I.v]? = some (.hb 85 [.hp X.I.b 0, .mp X.I.mb, .mp X.I.mv, X.m5, X.m6, .mu X.I.a l.length 0 l.length, .nil, .nil]) /\ H[X.I.a]? = some (.ar 2 (l.map prR) none true false)
theorem CtxM.ch.rd {X : CtxM} {bg : List PK} {vs : List (PK × AV)} {H : Heap} (h : X.ch bg vs H) : X.rd H := ⟨bg, h.hv, h.ha⟩
structure KeepR (X : CtxM) (H H' : Heap) : Prop where
 k : Keep X.I H H'
 r : X.rd H'
theorem Keep.tr {X : CtxM} {H G H' : Heap} (k : Keep X.I H G) (h : KeepR X G H') : KeepR X H H' := ⟨k.trans h.k, h.r⟩
def OutA (X : CtxM) (H : Heap) (ok : Prop) (v : NV) (e : Int) (r : CR) : Prop :=
 (ok /\ ∃ a H' bg' vs', r = .ret (.ag (AV.c a)) H' /\ a.v = v /\ a.ok /\ X.ch bg' vs' H' /\ Keep X.I H H') \/ (¬ ok /\ ∃ H', r = .pan (failD e) H' /\ KeepR X H H')
theorem OutA.le {X : CtxM} {H G : Heap} {ok : Prop} {v : NV} {e : Int} {r : CR} (h : OutA X G ok v e r) (k : Keep X.I H G) : OutA X H ok v e r := by
 rcases h with ⟨o, a, H', bg', vs', e1, e2, e3, e4, e5⟩ | ⟨o, H', e1, e2⟩
 ·exact .inl ⟨o, a, H', bg', vs', e1, e2, e3, e4, k.trans e5⟩
 ·exact .inr ⟨o, H', e1, k.tr e2⟩
theorem CH.lt {I : Ids} {defs cls m1 m2 m3 m4 m5 m6 : D} {bg : List PK} {vs : List (PK × AV)} {H : Heap} (h : CH I defs cls m1 m2 m3 m4 m5 m6 bg vs H) : I.b < H.length /\ I.v < H.length /\ I.kd < H.length /\ I.mb < H.length /\ I.mv < H.length /\ I.a < H.length :=
 ⟨lt_of_get h.hb, lt_of_get h.hv, lt_of_get h.hk, lt_of_get h.hB, lt_of_get h.hV, lt_of_get h.ha⟩
theorem CH.set {I : Ids} {defs cls m1 m2 m3 m4 m5 m6 : D} {bg : List PK} {vs : List (PK × AV)} {H : Heap} (h : CH I defs cls m1 m2 m3 m4 m5 m6 bg vs H) {i : Nat} {x : Blk} (hi : i ≠ I.b /\ i ≠ I.v /\ i ≠ I.kd /\ i ≠ I.mb /\ i ≠ I.mv /\ i ≠ I.a) : CH I defs cls m1 m2 m3 m4 m5 m6 bg vs (H.set i x) :=
 ⟨by rw [List.getElem?_set_ne hi.1]; exact h.hb, by rw [List.getElem?_set_ne hi.2.1]; exact h.hv, by rw [List.getElem?_set_ne hi.2.2.1]; exact h.hk, by rw [List.getElem?_set_ne hi.2.2.2.1]; exact h.hB, by rw [List.getElem?_set_ne hi.2.2.2.2.1]; exact h.hV, by rw [List.getElem?_set_ne hi.2.2.2.2.2]; exact h.ha⟩
theorem Keep.fresh {I : Ids} {H H' : Heap} (h : Keep I H H') {i : Nat} {x : Blk} (hi : H.length <= i) : Keep I H (H'.set i x) :=
 ⟨by rw [List.length_set]; exact h.len, fun j hj a b c d => by rw [List.getElem?_set_ne (by omega)]; exact h.at_ j hj a b c d⟩
section
variable {X : CtxM} {bg : List PK} {H : Heap} {d d' : Int} {ok : Prop} {v : NV} {e : Int} {nm : List UInt8} {e0 : Ex}
theorem need_q (hp : CallQ VS 29 [.hp X.I.v 0, .s nm, .i .i64 d'] H (OutA X H ok v e)) {a : AV} (ha : a.v = ⟨4, 0, 0, d'⟩) : CallQ VS 41 [.s nm, .ag a.c, X.w] H (OutA X H ok v e) := by
 have hk : a.v.k = 4 := by rw [ha]
 have hi : a.v.i = d' := by rw [ha]
 refine .body (vf := v41) fn41 rfl rfl ?_
 have hm : VS.meth 74 "Pair" = some 29 := by kernel_rfl
 simp (disch := omega) only [go_sem, Nat.reduceAdd, Nat.reduceSub, Nat.reduceLeDiff, v41, AV.c, hk, hi, CtxM.w, hm, MetQ]
 refine hp.mono fun r hr => ?_
 rcases hr with ⟨o, b, H', bg', vs', rfl, e2, e3, e4, e5⟩ | ⟨o, H', rfl, e2⟩
 ·simp (disch := omega) only [go_sem, Nat.reduceAdd, AV.c]
  exact .inl ⟨o, b, H', bg', vs', rfl, e2, e3, e4, e5⟩
 ·simp (disch := omega) only [go_sem]
  exact .inr ⟨o, H', rfl, e2⟩
theorem ref_q (hT : TD d e0 ⟨4, 0, 0, d'⟩) (hch : X.ch bg [] H) (hp : ∀ G, X.ch bg [] G -> CallQ VS 29 [.hp X.I.v 0, .s nm, .i .i64 d'] G (OutA X G ok v e)) : CallQ VS 26 [.hp X.I.b 0, (refE nm e0).d, .i .i64 d, X.w] H (OutA X H ok v e) := by
 have ht := fun {bs w : D} {H : Heap} => term_d hT (bs := bs) (w := w) (H := H)
 have hfo : (refE nm e0).formed = true := rfl
 have e1 := fun {H K} => (formed_q (refE nm e0) (show 5 < 256 by decide)).c (H := H) (K := K) fn37 rfl (by simp [(refE nm e0).pl]) (.inl rfl)
 rw [hfo] at e1
 have hsl : Sl 9 ([e0].map Ex.row) (refE nm e0).sl := (refE nm e0).hsl
 have d1 : ((refE nm e0).op : Int) = 5 := rfl
 have dn : (refE nm e0).name = nm := rfl
 refine .body (vf := v26) fn26 rfl rfl ?_
 simp only [Ex.d, Ex.row_eq] at e1 ⊢
 simp only [d1, dn] at e1 ⊢
 simp (disch := omega) only [go_sem, Nat.reduceAdd, Nat.reduceSub, Nat.reduceMul, Nat.reduceLeDiff, Int.reduceLE, Int.reduceEq, Int.reduceToNat, v26, e1, hsl.n]
 refine term_args2 (l := [e0]) (vv := [⟨4, 0, 0, d'⟩]) (by simp) hsl rfl (fun k hk => ?_) (fun vs H' c12 c20 hpd => ?_)
 ·intro H
  have : k = 0 := by simp at hk; omega
  subst this
  exact ht
 ·obtain ⟨t, rfl⟩ := hpd.h
  obtain ⟨ax, rfl⟩ : ∃ ax, vs = [ax] := by
   match vs, hpd.n with
   | [ax], _ => exact ⟨_, rfl⟩
  have hv := hpd.v
  simp only [List.map_cons, List.map_nil, List.length_cons, List.length_nil, List.take, List.cons.injEq, and_true] at hv
  have hG : X.ch bg [] (H ++ [argBk [ax] false] ++ t) := by rw [List.append_assoc]; exact CH.app hch _
  have hn := need_q (hp _ hG) hv
  have hk2 : Keep X.I H (H ++ [argBk [ax] false] ++ t) := by rw [List.append_assoc]; exact Keep.app
  have hg : (H ++ [argBk [ax] false] ++ t)[H.length]? = some (.ar 6 [ax.c, zrow, zrow] (some 3) true false) := get_mid
  unfold tSl
  generalize H ++ [argBk [ax] false] ++ t = G at hn hk2 hg
  have har : arr G H.length 3 = some (6, [ax.c, zrow, zrow], some 3, true, false) := by simp [Dm.arr, hg]
  have hgl := lt_of_get hg
  simp only [AV.c] at hn hg har
  simp (disch := omega) only [go_sem, Nat.reduceAdd, Nat.reduceLeDiff, Int.reduceLE, Int.reduceLT, har]
  refine ⟨hgl, hgl, hn.mono fun r hr => ?_⟩
  rcases hr.le hk2 with ⟨o, b, H', bg', vs', rfl, e2, e3, e4, e5⟩ | ⟨o, H', rfl, e2⟩
  ·simp (disch := omega) only [go_sem, Nat.reduceAdd, AV.c]
   exact .inl ⟨o, b, H', bg', vs', rfl, e2, e3, e4, e5⟩
  ·simp (disch := omega) only [go_sem]
   exact .inr ⟨o, H', rfl, e2⟩
structure PM (X : CtxM) (ok : Prop) (k1 : NV) (H : Heap) (k : Nat) (vs : List AV) (H' : Heap) : Prop where
 n : vs.length = k
 o : ∀ a ∈ vs, a.ok
 z : k = 0 -> H' = H ++ [argBk [] false]
 a : k = 1 -> ∃ a t, vs = [a] /\ a.v = ⟨2, 1, 1, 0⟩ /\ H' = H ++ [argBk vs false] ++ t
 b : k = 2 -> ok /\ ∃ a b bg' vs', vs = [a, b] /\ a.v = ⟨2, 1, 1, 0⟩ /\ b.v = k1 /\ H'[H.length]? = some (argBk vs false) /\ X.ch bg' vs' H' /\ Keep X.I H H'
theorem one_d {C : Vls} {T : Int} (hC : C.ok T) : TD d (conE C.one) ⟨2, 1, 1, 0⟩ := by
 rw [<- hC.one.n]
 exact .con rfl hC.one.va rfl
theorem more_q {T : Int} {k : Nat} (hk : k < 10000) (hC : X.C.ok T) (hch : X.ch bg [] H) (hr : ∀ G, X.ch bg [] G -> CallQ VS 26 [.hp X.I.b 0, (refE nm e0).d, .i .i64 d, X.w] G (OutA X G ok ⟨2, k, 1, 0⟩ e)) :
  CallQ VS 26 [.hp X.I.b 0, (opE 7 (conE X.C.one) (refE nm e0)).d, .i .i64 d, X.w] H (OutA X H ok ⟨2, (k + 1 : Nat), 1, 0⟩ e) := by
 have ht := fun {bs w : D} {H : Heap} => term_d (one_d (d := d) hC) (bs := bs) (w := w) (H := H)
 obtain ⟨E, hE⟩ : ∃ E, E = opE 7 (conE X.C.one) (refE nm e0) := ⟨_, rfl⟩
 have ho : E.op = 7 := by rw [hE]; rfl
 have hargs : E.args = [conE X.C.one, refE nm e0] := by rw [hE]; rfl
 have hfo : E.formed = true := by
  unfold Ex.formed
  rw [if_neg (by omega), hargs, ho]; rfl
 have e1 := fun {H K} => (formed_q E (by omega)).c (H := H) (K := K) fn37 rfl (by simp [E.pl]) (.inl rfl)
 rw [hfo] at e1
 have hsl : Sl 9 ([conE X.C.one, refE nm e0].map Ex.row) E.sl := hargs ▸ E.hsl
 have d1 : (E.op : Int) = 7 := by omega
 have hlt := CH.lt hch
 rw [<- hE]
 refine .body (vf := v26) fn26 rfl rfl ?_
 simp only [Ex.d, Ex.row_eq] at e1 ⊢
 simp only [d1] at e1 ⊢
 simp (disch := omega) only [go_sem, Nat.reduceAdd, Nat.reduceSub, Nat.reduceMul, Nat.reduceLeDiff, Int.reduceLE, Int.reduceEq, Int.reduceToNat, v26, e1, hsl.n]
 refine term_args (l := [conE X.C.one, refE nm e0]) (by simp) hsl (PM X ok ⟨2, k, 1, 0⟩ H) ⟨rfl, fun _ h => (by cases h), fun _ => rfl, fun h => (by omega), fun h => (by omega)⟩ (fun k vs H' h => h.n) (fun j vs H' hj hp => ?_) (fun vs H' c12 c20 hp => ?_)
 ·have : j = 0 \/ j = 1 := by simp at hj; omega
  rcases this with rfl | rfl
  ·obtain rfl := hp.z rfl
   obtain rfl : vs = [] := List.eq_nil_of_length_eq_zero hp.n
   refine ht.mono fun r hr => ?_
   obtain ⟨t, a, rfl, ha, hao⟩ := hr.e
   refine ⟨a, rfl, hao, get_mid, ⟨rfl, fun b hb => (by rw [List.mem_singleton.1 hb]; exact hao), fun h => (by omega), fun _ => ⟨a, t, rfl, ha, (by rw [set_mid])⟩, fun h => (by omega)⟩⟩
  ·obtain ⟨a, t, rfl, ha, rfl⟩ := hp.a rfl
   have hao := hp.o a (by simp)
   have hG : X.ch bg [] (H ++ [argBk [a] false] ++ t) := by rw [List.append_assoc]; exact CH.app hch _
   have hk2 : Keep X.I H (H ++ [argBk [a] false] ++ t) := by rw [List.append_assoc]; exact Keep.app
   have hg : (H ++ [argBk [a] false] ++ t)[H.length]? = some (argBk [a] false) := get_mid
   have hn := hr _ hG
   generalize H ++ [argBk [a] false] ++ t = G at hn hk2 hg
   have hgl := lt_of_get hg
   refine hn.mono fun r hr => ?_
   rcases hr with ⟨o, b, H', bg', vs', rfl, e2, e3, e4, e5⟩ | ⟨o, H', rfl, e2⟩
   ·have hst : H'[H.length]? = some (argBk [a] false) := by
     rw [e5.at_ H.length hgl (by omega) (by omega) (by omega) (by omega)]; exact hg
    have hsl' := lt_of_get hst
    refine ⟨b, rfl, e3, hst, ⟨rfl, fun c hc => ?_, fun h => (by omega), fun h => (by omega), fun _ => ⟨o, a, b, bg', vs', rfl, ha, e2, ?_, CH.set e4 (by omega), (hk2.trans e5).fresh (Nat.le_refl _)⟩⟩⟩
    ·simp only [List.mem_append, List.mem_cons, List.not_mem_nil, or_false] at hc
     rcases hc with rfl | rfl
     ·exact hao
     ·exact e3
    ·rw [List.getElem?_set_self hsl']
   ·intro s
    simp (disch := omega) only [go_sem]
    exact .inr ⟨o, H', rfl, hk2.tr e2⟩
 ·obtain ⟨o, a, b, bg', vs', rfl, ha, hb, hg, hch', hkp⟩ := hp.b rfl
  have oa := hp.o a (by simp)
  have ob := hp.o b (by simp)
  have hm : BinK 7 a.v b.v := ⟨fun _ => .inl (by rw [ha, hb]; exact ⟨rfl, rfl⟩), fun h => (by cases h)⟩
  unfold tSl
  have hd := fun nm md => do_q (op := 7) (.inl rfl) oa ob hm (H := H') (i := H.length) hg (bs := .hp X.I.b 0) (w := X.w) (nm := nm) (md := md)
  rw [ha, hb, show (⟨2, 1, 1, 0⟩ : NV) = ⟨2, ((1 : Nat) : Int), 1, 0⟩ from rfl, add_n (by omega) (by omega)] at hd
  have h7 : ¬ (7 : Int) = 5 := by omega
  simp (disch := omega) only [go_sem, Nat.reduceAdd, Nat.reduceLeDiff, h7]
  have hd := hd E.name E.v.i
  simp only [Int.cast_ofNat_Int] at hd
  refine hd.mono fun r hr => ?_
  cases r with
  | ret dd H2 =>
   obtain ⟨rfl, a', ea, rfl, ho'⟩ := hr
   simp only [AV.c]
   simp (disch := omega) only [go_sem, Nat.reduceAdd]
   refine .inl ⟨o, a', _, bg', vs', rfl, ?_, ho', CH.set hch' (by omega), hkp.fresh (Nat.le_refl _)⟩
   rw [<- NR.ok.inj ea, NV.mk.injEq]
   exact ⟨rfl, by omega, rfl, rfl⟩
  | pan dd H2 => obtain ⟨_, _, ec, _⟩ := hr; cases ec
  | bad => exact hr.elim
end
open Go.Dm
def OutV (X : CtxM) (H : Heap) (ok : Prop) (v : NV) (c : Int) (e : Int) (r : CR) : Prop :=
 (ok /\ ∃ a H' bg' vs', r = .ret (.tu [.ag (AV.c a), .i .i64 c]) H' /\ a.v = v /\ a.ok /\ X.ch bg' vs' H' /\ Keep X.I H H') \/ (¬ ok /\ ∃ H', r = .pan (failD e) H' /\ KeepR X H H')
section
variable {X : CtxM} {bg : List PK} {H : Heap} {d : Int} {ok : Prop} {v : NV} {e c : Int} {nm : List UInt8}
theorem value_of {nm' lb : List UInt8} {ew et : Ex} (hnm : nm = chN \/ nm = chM) (hv : v.k = 2) (hch : X.ch bg [] H) (ha : CallQ VS 68 [.hp X.I.b 0, .s nm, .i .i64 d, X.w] H (fun r => ∃ t, r = .ret (.i .i64 c) (H ++ t))) (hg : ∀ G : Heap, iadD G (.im 24 X.C.rows) (.i .i64 c) 24 = some (.ip (clR nm' lb ew et)))
  (ht : ∀ G, X.ch bg [] G -> CallQ VS 26 [.hp X.I.b 0, et.d, .i .i64 d, X.w] G (OutA X G ok v e)) : CallQ VS 44 [.hp X.I.b 0, .s nm, .i .i64 d, X.w] H (OutV X H ok v c e) := by
 simp only [clR, Ex.row_eq, List.cons_append, List.nil_append] at hg
 refine .body (vf := v44) fn44 rfl rfl ?_
 simp (disch := omega) only [go_sem, Nat.reduceSub, v44]
 refine ha.mono fun r hr => ?_
 obtain ⟨t, rfl⟩ := hr
 have hch2 : X.ch bg [] (H ++ t) := CH.app hch t
 have hk2 : Keep X.I H (H ++ t) := Keep.app
 have hb2 := hch2.hb
 have hbl := lt_of_get hb2
 have htt := ht _ hch2
 generalize H ++ t = G at hch2 hk2 hb2 hbl htt
 simp only [Ex.d, Ex.row_eq] at htt
 simp (disch := omega) only [go_sem, Nat.reduceAdd, Nat.reduceLeDiff, hb2, hg]
 refine htt.mono fun r hr => ?_
 rcases hr.le hk2 with ⟨o, b, H', bg', vs', rfl, e2, e3, e4, e5⟩ | ⟨o, H', rfl, e2⟩
 ·simp (disch := omega) only [go_sem, Nat.reduceAdd, AV.c]
  refine def_q e4.hb e4.hk hnm ?_
  have hk : b.v.k = 2 := by rw [e2]; exact hv
  simp (disch := omega) only [go_sem, Nat.reduceAdd, Nat.reduceLeDiff, hk]
  exact .inl ⟨o, b, H', bg', vs', (by simp only [AV.c, hk]; rfl), e2, e3, e4, e5⟩
 ·simp (disch := omega) only [go_sem]
  exact .inr ⟨o, H', rfl, e2⟩
theorem CH.put {I : Ids} {defs cls m1 m2 m3 m4 m5 m6 : D} {bg : List PK} {vs vs' : List (PK × AV)} {H : Heap} (hI : I.ok) (h : CH I defs cls m1 m2 m3 m4 m5 m6 bg vs H) : CH I defs cls m1 m2 m3 m4 m5 m6 bg vs' (H.set I.mv (.mp (vsE vs'))) :=
 ⟨by rw [List.getElem?_set_ne (Ne.symm hI.bm)]; exact h.hb, by rw [List.getElem?_set_ne (Ne.symm hI.vm)]; exact h.hv, by rw [List.getElem?_set_ne (Ne.symm hI.km)]; exact h.hk, by rw [List.getElem?_set_ne (Ne.symm hI.bvm)]; exact h.hB, by rw [List.getElem?_set_self (lt_of_get h.hV)], by rw [List.getElem?_set_ne hI.mva]; exact h.ha⟩
def OutO (X : CtxM) (H : Heap) (ok : Prop) (bg : List PK) (e : Int) (r : CR) : Prop :=
 (ok /\ ∃ H', r = .ret (.tu []) H' /\ X.ch bg [] H' /\ Keep X.I H H') \/ (¬ ok /\ ∃ H', r = .pan (failD e) H' /\ KeepR X H H')
theorem pair_gen {p : Prop} {rp : D} (hI : X.I.ok) (hvv : H[X.I.v]? = some (.hb 85 [.hp X.I.b 0, .mp X.I.mb, .mp X.I.mv, X.m5, X.m6, rp, .nil, .nil])) (hVV : H[X.I.mv]? = some (.mp (vsE []))) (ho : CallQ VS 43 [.hp X.I.v 0, .ag [.s nm, .i .i64 d]] H (OutO X H p bg e)) (hv : p -> ∀ G, X.ch bg [] G -> CallQ VS 44 [.hp X.I.b 0, .s nm, .i .i64 d, X.w] G (OutV X G ok v c e)) :
  CallQ VS 29 [.hp X.I.v 0, .s nm, .i .i64 d] H (OutA X H (p /\ ok) v e) := by
 have hvl := lt_of_get hvv
 have hVl := lt_of_get hVV
 have hlk : lkM (.st [2, 1]) (.ag [.s nm, .i .i64 d]) true (.ag [.i .u8 0, .b false, .nil, .b false, .nil, .i .i64 0]) (some (.mp (vsE []))) = some (.tu [.ag [.i .u8 0, .b false, .nil, .b false, .nil, .i .i64 0], .b false]) := rfl
 refine .body (vf := v29) fn29 rfl rfl ?_
 simp (disch := omega) only [go_sem, Nat.reduceAdd, Nat.reduceSub, Nat.reduceLeDiff, v29, hvv, hVV, hlk]
 refine ⟨hvl, hVl, ho.mono fun r hr => ?_⟩
 rcases hr with ⟨hp, H1, rfl, h1, k1⟩ | ⟨hp, H1, rfl, k1⟩
 ·have hv1 := hv hp H1 h1
  have hv2 := h1.hv
  have hl2 := lt_of_get hv2
  simp (disch := omega) only [go_sem, Nat.reduceAdd, Nat.reduceLeDiff, hv2]
  refine hv1.mono fun r hr => ?_
  rcases hr with ⟨o, b, H', bg', vs', rfl, e2, e3, e4, e5⟩ | ⟨o, H', rfl, e2⟩
  ·have hv3 := e4.hv
   have hV3 := e4.hV
   have hl3 := lt_of_get hv3
   have hput : ∀ {G : Heap} {i : Nat}, mupM G (.st [2, 1]) i (.ag [.s nm, .i .i64 d]) (.ag (AV.c b)) (some (.mp (vsE vs'))) = some (G.set i (.mp (vsE (putA (nm, d) b vs')))) := fun {G i} => mupM_a (ev := kA) kok_pr i (nm, d) b vs'
   simp only [AV.c] at hput
   simp (disch := omega) only [go_sem, Nat.reduceAdd, Nat.reduceLeDiff, hv3, hV3, AV.c, hput]
   exact ⟨hl3, .inl ⟨⟨hp, o⟩, b, _, bg', putA (nm, d) b vs', rfl, e2, e3, CH.put hI e4, (k1.trans e5).trans (Keep.set (.inr (.inr (.inl rfl))))⟩⟩
  ·simp (disch := omega) only [go_sem]
   exact .inr ⟨fun h => o h.2, H', rfl, k1.tr e2⟩
 ·simp (disch := omega) only [go_sem]
  exact .inr ⟨fun h => hp h.1, H1, rfl, k1⟩
theorem open_new (hI : X.I.ok) (hnm : nm = chN \/ nm = chM) (hch : X.ch bg [] H) (hn : (nm, d) ∉ bg) (hl : bg.length <= 4096) : CallQ VS 43 [.hp X.I.v 0, .ag [.s nm, .i .i64 d]] H (OutO X H (bg.length ≠ 4096) (bg ++ [(nm, d)]) 5) :=
 (open_q hI hch hn hnm hl).mono fun r hr => by
  rcases hr with ⟨h1, H', h2, h3, h4⟩ | ⟨h1, H', h2, h4, h5, h6⟩
  ·exact .inl ⟨h1, H', h2, h3, h4⟩
  ·exact .inr ⟨fun h => h h1, H', h2, h4, bg ++ [(nm, d)], (by rw [List.length_append]; exact h5), h6⟩
theorem bg_some {p : PK} : ∀ {bg : List PK}, p ∈ bg -> @List.lookup PK Bool instBEqOfDecidableEq p (bg.map fun p => (p, true)) = some true
 | q :: l, h => by
  by_cases h1 : p = q
  ·have h3 : (@BEq.beq PK instBEqOfDecidableEq p q) = true := decide_eq_true h1
   show (match (@BEq.beq PK instBEqOfDecidableEq p q) with | true => some true | false => @List.lookup PK Bool instBEqOfDecidableEq p (l.map fun p => (p, true))) = some true
   rw [h3]
  ·have h3 : (@BEq.beq PK instBEqOfDecidableEq p q) = false := decide_eq_false h1
   show (match (@BEq.beq PK instBEqOfDecidableEq p q) with | true => some true | false => @List.lookup PK Bool instBEqOfDecidableEq p (l.map fun p => (p, true))) = some true
   rw [h3]
   exact bg_some ((List.mem_cons.1 h).resolve_left h1)
theorem lk_seen {p : PK} (h : p ∈ bg) : lkM (.st [2, 1]) (kPr p) false (.b false) (some (.mp (bgE bg))) = some (.b true) := by
 unfold bgE
 rw [lkM_a kok_pr p _ false (.b false)]
 exact congrArg (fun z => some ((Option.map kB z).getD (D.b false))) (bg_some h)
theorem open_seen (hch0 : X.ch bg [] H) (hn : (nm, d) ∈ bg) : CallQ VS 43 [.hp X.I.v 0, .ag [.s nm, .i .i64 d]] H (OutO X H False bg 186) := by
 have hrd := CtxM.ch.rd hch0
 obtain ⟨hb, hv, hkd, hB, hV, ha⟩ := hch0
 have e1 := lk_seen hn
 unfold kPr at e1
 have hvl := lt_of_get hv
 have hBl := lt_of_get hB
 refine .body (vf := v43) fn43 rfl rfl ?_
 have e5 := fun {H K} => fail_c (e := 186) (H := H) (K := K)
 simp (disch := omega) only [go_sem, Nat.reduceAdd, Nat.reduceSub, Nat.reduceLeDiff, v43, hv, hB, e1, e5]
 exact ⟨hvl, hBl, .inr ⟨id, H, rfl, Keep.refl, hrd⟩⟩
theorem OutA.iff {v : NV} {e : Int} {p q : Prop} {r : CR} (h : p ↔ q) (x : OutA X H p v e r) : OutA X H q v e r := by
 rcases x with ⟨o, a⟩ | ⟨o, a⟩
 ·exact .inl ⟨h.1 o, a⟩
 ·exact .inr ⟨fun g => o (h.2 g), a⟩
theorem get_n0 {C : Vls} : ∀ G : Heap, iadD G (.im 24 C.rows) (.i .i64 0) 24 = some (.ip (clR chN [101, 110, 100] (not1 C.less) (conE C.zero))) := fun _ => rfl
theorem get_n1 {C : Vls} : ∀ G : Heap, iadD G (.im 24 C.rows) (.i .i64 1) 24 = some (.ip (clR chN [111, 110] C.less C.more)) := fun _ => rfl
theorem get_m {C : Vls} : ∀ G : Heap, iadD G (.im 24 C.rows) (.i .i64 2) 24 = some (.ip (clR chM [111, 110] (conE C.yes) C.again)) := fun _ => rfl
theorem zero_d {C : Vls} {T : Int} (hC : C.ok T) : TD d (conE C.zero) ⟨2, 0, 1, 0⟩ := by
 rw [<- hC.zero.n]
 exact .con rfl hC.zero.va rfl
theorem val_n {T : Int} (hC : X.C.ok T) (hI : X.I.ok) (hT : T < 65536) : ∀ (k : Nat) {d : Int} {bg : List PK} {G : Heap}, 0 <= d -> d + k = T -> k < 10000 -> (∀ x : Int, d < x -> (chN, x) ∉ bg) -> bg.length <= 4096 -> X.ch bg [] G ->
  CallQ VS 44 [.hp X.I.b 0, .s chN, .i .i64 d, X.w] G (OutV X G (bg.length + k <= 4096) ⟨2, k, 1, 0⟩ (if d < T then 1 else 0) 5) := by
 intro k
 induction k with
 | zero =>
  intro d bg G h0 hd _ hn hl hch
  have ha := applies_n (w := X.w) hC ⟨h0, by omega⟩ ⟨by omega, hT⟩ (by omega) hch.hb
  have hlt : ¬ d < T := by omega
  rw [if_neg hlt] at ha ⊢
  refine value_of (.inl rfl) rfl hch ha get_n0 (fun G' hG' => ?_)
  refine (term_d (zero_d hC)).mono fun r hr => ?_
  obtain ⟨t, a, rfl, ha, ho⟩ := hr.e
  exact .inl ⟨by omega, a, _, bg, [], rfl, by rw [ha]; rfl, ho, CH.app hG' t, Keep.app⟩
 | succ k ih =>
  intro d bg G h0 hd hk hn hl hch
  have ha := applies_n (w := X.w) hC ⟨h0, by omega⟩ ⟨by omega, hT⟩ (by omega) hch.hb
  have hlt : d < T := by omega
  rw [if_pos hlt] at ha ⊢
  refine value_of (.inl rfl) rfl hch ha get_n1 (fun G' hG' => ?_)
  refine more_q (by omega) hC hG' (fun G2 hG2 => ?_)
  refine ref_q (next_d hC ⟨h0, by omega⟩) hG2 (fun G3 hG3 => ?_)
  have hp : (bg.length ≠ 4096 /\ (bg ++ [(chN, d + 1)]).length + k <= 4096) ↔ bg.length + (k + 1) <= 4096 := by
   rw [List.length_append]
   simp only [List.length_singleton]
   omega
  have hn2 : ∀ x : Int, d + 1 < x -> (chN, x) ∉ bg ++ [(chN, d + 1)] := by
   intro x hx h
   rcases List.mem_append.1 h with h | h
   ·exact hn x (by omega) h
   ·have := List.mem_singleton.1 h
    have := (Prod.mk.inj this).2
    omega
  refine (pair_gen (c := if d + 1 < T then 1 else 0) hI hG3.hv hG3.hV (open_new hI (.inl rfl) hG3 (hn (d + 1) (by omega)) hl) (fun hne G4 hG4 => ?_)).mono fun r hr => hr.iff hp
  exact ih (d := d + 1) (by omega) (by omega) (by omega) hn2 (by rw [List.length_append]; simp only [List.length_singleton]; omega) hG4
theorem val_m {T : Int} (hC : X.C.ok T) (hI : X.I.ok) {G : Heap} (hd : 0 <= d /\ d < 65536) (hch : X.ch [(chM, d)] [] G) :
  CallQ VS 44 [.hp X.I.b 0, .s chM, .i .i64 d, X.w] G (OutV X G False ⟨2, (0 + 1 : Nat), 1, 0⟩ 2 186) := by
 have ha := applies_m (w := X.w) hC hd hch.hb
 refine value_of (.inr rfl) rfl hch ha get_m (fun G' hG' => ?_)
 refine more_q (k := 0) (by omega) hC hG' (fun G2 hG2 => ?_)
 refine ref_q (.today rfl rfl hd) hG2 (fun G3 hG3 => ?_)
 exact (pair_gen (c := 0) (ok := False) hI hG3.hv hG3.hV (open_seen hG3 (List.mem_singleton.2 rfl)) (fun h => h.elim)).mono fun r hr => hr.iff ⟨fun h => h.1, fun h => h.elim⟩
end
end Go.Proofs.YtdpnanafhabkiaaGreatDoor.Dv
