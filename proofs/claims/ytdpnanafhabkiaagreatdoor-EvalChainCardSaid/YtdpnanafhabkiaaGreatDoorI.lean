/-
  Fractions.
-/
import Derived.Test.YtdpnanafhabkiaaGreatDoorH
namespace Go.Proofs.YtdpnanafhabkiaaGreatDoor.Dv
open Go.Dm
theorem ftimes_q {z1 z2 : Int} {d1 d2 : D} (h1 : Wh z1 d1) (h2 : Wh z2 d2) (b1 : z1.natAbs < cap 512) (b2 : z2.natAbs < cap 512) : ∃ d, PRet VS 137 [d1, d2] d /\ Wh (z1 * z2) d := by
 obtain ⟨d, g1, g2⟩ := mul_q h1 h2 b1 b2
 have e1 := fun {H K} => g1.c (H := H) (K := K) fn177 rfl (by simp [h1.pl, h2.pl]) (.inl rfl)
 obtain ⟨y1, rfl, a1⟩ := h1.h
 obtain ⟨y2, rfl, a2⟩ := h2.h
 obtain ⟨y, rfl, a3⟩ := g2.h
 have ef := fun m H => flat_freeze a3.sl.flat m H
 refine ⟨_, .body (vf := v137) fn137 rfl ?_, g2⟩
 simp (disch := omega) only [go_sem, Nat.reduceAdd, Nat.reduceSub, v137, e1, ef]
theorem fplus_q {z1 z2 : Int} {d1 d2 : D} (h1 : Wh z1 d1) (h2 : Wh z2 d2) (b1 : z1.natAbs < cap 1023) (b2 : z2.natAbs < cap 1023) : ∃ d, PRet VS 141 [d1, d2] d /\ Wh (z1 + z2) d := by
 obtain ⟨d, g1, g2⟩ := add_q h1 h2 b1 b2
 have e1 := fun {H K} => g1.c (H := H) (K := K) fn179 rfl (by simp [h1.pl, h2.pl]) (.inl rfl)
 obtain ⟨y1, rfl, a1⟩ := h1.h
 obtain ⟨y2, rfl, a2⟩ := h2.h
 obtain ⟨y, rfl, a3⟩ := g2.h
 have ef := fun m H => flat_freeze a3.sl.flat m H
 refine ⟨_, .body (vf := v141) fn141 rfl ?_, g2⟩
 simp (disch := omega) only [go_sem, Nat.reduceAdd, Nat.reduceSub, v141, e1, ef]
theorem fgcd_q {z1 z2 : Int} {d1 d2 : D} (h1 : Wh z1 d1) (h2 : Wh z2 d2) (b1 : z1.natAbs < cap 1024) (b2 : z2.natAbs < cap 1024) : ∃ d, PRet VS 150 [d1, d2] d /\ Wh (Nat.gcd z1.natAbs z2.natAbs : Nat) d := by
 obtain ⟨d, g1, g2⟩ := gcd_w h1 h2 b1 b2
 have e1 := fun {H K} => g1.c (H := H) (K := K) fn188 rfl (by simp [h1.pl, h2.pl]) (.inl rfl)
 obtain ⟨y1, rfl, a1⟩ := h1.h
 obtain ⟨y2, rfl, a2⟩ := h2.h
 obtain ⟨y, rfl, a3⟩ := g2.h
 have ef := fun m H => flat_freeze a3.sl.flat m H
 refine ⟨_, .body (vf := v150) fn150 rfl ?_, g2⟩
 simp (disch := omega) only [go_sem, Nat.reduceAdd, Nat.reduceSub, v150, e1, ef]
theorem fdiv_q {z1 : Int} {n2 : Nat} {d1 d2 : D} (h1 : Wh z1 d1) (h2 : Wh (n2 : Int) d2) (h0 : n2 ≠ 0) (b1 : z1.natAbs < cap 1023) (b2 : n2 < cap 1024) : ∃ d e, PRet VS 140 [d1, d2] (.tu [d, e]) /\ Wh (z1 / n2) d /\ Wh (z1 % n2) e := by
 obtain ⟨d, e, g1, g2, g3⟩ := divmod_q h1 h2 h0 b1 b2
 have e1 := fun {H K} => g1.c (H := H) (K := K) fn178 rfl (by simp [h1.pl, h2.pl]) (.inl rfl)
 obtain ⟨y1, rfl, a1⟩ := h1.h
 obtain ⟨y2, rfl, a2⟩ := h2.h
 obtain ⟨y, rfl, a3⟩ := g2.h
 obtain ⟨w, rfl, a4⟩ := g3.h
 have ef := fun m H => flat_freeze a3.sl.flat m H
 have eg := fun m H => flat_freeze a4.sl.flat m H
 refine ⟨_, _, .body (vf := v140) fn140 rfl ?_, g2, g3⟩
 simp (disch := omega) only [go_sem, Nat.reduceAdd, Nat.reduceSub, v140, e1, ef, eg]
theorem isone_q {s : Bool} {l : List Nat} {x : D} (h : Sl 1 (l.map u16) x) : PRet VS 128 [.ag [.b s, x]] (.b (!s && decide (l = [1]))) := by
 refine .body (vf := v128) fn128 rfl ?_
 cases s with
 | true => simp (disch := omega) only [go_sem, Nat.reduceAdd, Nat.reduceSub, Nat.reduceLeDiff, v128]
 | false =>
  by_cases hl : l.length = 1
  ·match l, hl with
   | [a], _ =>
    have c1 : (([a] : List Nat).length : Int) = 1 := rfl
    have g : ([a] : List Nat)[0]! = a := rfl
    simp (disch := omega) only [go_sem, Nat.reduceAdd, Nat.reduceSub, Nat.reduceLeDiff, Int.reduceLE, Int.reduceLT, v128, h.n, h.q, u16, g]
    by_cases ha : a = 1
    ·subst ha; rfl
    ·have : ¬ (a : Int) = 1 := by omega
     simp [ha, this]
  ·have c1 : ¬ (l.length : Int) = 1 := by omega
   have hne : l ≠ [1] := by intro e; rw [e] at hl; simp at hl
   simp (disch := omega) only [go_sem, Nat.reduceAdd, Nat.reduceSub, Nat.reduceLeDiff, v128, h.n, c1, hne]
theorem long_f {s t : Bool} {l m : List Nat} {x y : D} (h : Sl 1 (l.map u16) x) (h' : Sl 1 (m.map u16) y) : PRet VS 149 [.ag [.b s, x, .b t, y]] (.b (decide (256 < l.length) || decide (256 < m.length))) := by
 refine .body (vf := v149) fn149 rfl ?_
 by_cases h1 : 256 < l.length
 ·have c1 : (256 : Int) < (l.length : Int) := by omega
  simp (disch := omega) only [go_sem, Nat.reduceAdd, Nat.reduceSub, Nat.reduceLeDiff, v149, h.n, c1, h1, Bool.true_or]
 ·have c1 : ¬ (256 : Int) < (l.length : Int) := by omega
  by_cases h2 : 256 < m.length
  ·have c2 : (256 : Int) < (m.length : Int) := by omega
   simp (disch := omega) only [go_sem, Nat.reduceAdd, Nat.reduceSub, Nat.reduceLeDiff, v149, h.n, h'.n, c1, h1, c2, h2, Bool.false_or]
  ·have c2 : ¬ (256 : Int) < (m.length : Int) := by omega
   simp (disch := omega) only [go_sem, Nat.reduceAdd, Nat.reduceSub, Nat.reduceLeDiff, v149, h.n, h'.n, c1, h1, c2, h2, Bool.false_or]
theorem integral_q {s t : Bool} {l m : List Nat} {x y : D} (h : Sl 1 (l.map u16) x) (h' : Sl 1 (m.map u16) y) : PRet VS 91 [.ag [.b s, x, .b t, y]] (.b (!t && decide (m = [1]))) := by
 have e1 := fun {H K} => (isone_q (s := t) h').c (H := H) (K := K) fn128 rfl (by simp [plain_ag, flat_b, h'.flat]) (.inl rfl)
 refine .body (vf := v91) fn91 rfl ?_
 simp (disch := omega) only [go_sem, Nat.reduceAdd, Nat.reduceSub, v91, e1]
def fvalid (s : Bool) (l : List Nat) (t : Bool) (m : List Nat) : Bool :=
 decide (l.length <= 256) && decide (m.length <= 256) && wvalid s l && wvalid t m && !t && decide (m ≠ []) && (Nat.gcd (vl 65536 l) (vl 65536 m) == 1)
theorem fvalid_q {s t : Bool} {l m : List Nat} {x y : D} (h : Sl 1 (l.map u16) x) (h' : Sl 1 (m.map u16) y) (hl : lm 65536 l) (hm : lm 65536 m) (hn : l.length < 70368744177665) (hn' : m.length < 70368744177665) : PRet VS 77 [.ag [.b s, x, .b t, y]] (.b (fvalid s l t m)) := by
 have hp : ([.ag [.b s, x, .b t, y]] : List D).all D.plain = true := by simp [plain_ag, flat_b, h.flat, h'.flat]
 have e1 := fun {H K} => (long_f (s := s) (t := t) h h').c (H := H) (K := K) fn149 rfl hp (.inl rfl)
 have e2 := fun {H K} => (valid_q (neg := s) h hn).c (H := H) (K := K) fn129 rfl (by simp [plain_ag, flat_b, h.flat]) (.inl rfl)
 have e3 := fun {H K} => (valid_q (neg := t) h' hn').c (H := H) (K := K) fn129 rfl (by simp [plain_ag, flat_b, h'.flat]) (.inl rfl)
 have e4 := fun {H K} => (integral_q (s := s) (t := t) h h').c (H := H) (K := K) fn91 rfl hp (.inl rfl)
 have key : PRet VS 108 [.ag [.b s, x, .b t, y]] (.b (fvalid s l t m)) := by
  refine .body (vf := v108) fn108 rfl ?_
  by_cases hL : (decide (256 < l.length) || decide (256 < m.length)) = true
  ·have hf : fvalid s l t m = false := by
    simp only [Bool.or_eq_true, decide_eq_true_eq] at hL
    unfold fvalid
    rcases hL with c | c
    ·rw [show decide (l.length <= 256) = false by simp; omega]; simp
    ·rw [show decide (m.length <= 256) = false by simp; omega]; simp
   rw [hL] at e1
   simp (disch := omega) only [go_sem, Nat.reduceAdd, Nat.reduceSub, v108, e1, hf]
  ·have hL' : (decide (256 < l.length) || decide (256 < m.length)) = false := by simpa using hL
   rw [hL'] at e1
   simp only [Bool.or_eq_false_iff, decide_eq_false_iff_not, Nat.not_lt] at hL'
   obtain ⟨b1, b2⟩ := hL'
   cases hv1 : wvalid s l with
   | false =>
    have hf : fvalid s l t m = false := by unfold fvalid; rw [hv1]; simp
    rw [hv1] at e2
    simp (disch := omega) only [go_sem, Nat.reduceAdd, Nat.reduceSub, Nat.reduceLeDiff, v108, e1, e2, hf]
   | true =>
    rw [hv1] at e2
    cases hv2 : wvalid t m with
    | false =>
     have hf : fvalid s l t m = false := by unfold fvalid; rw [hv2]; simp
     rw [hv2] at e3
     simp (disch := omega) only [go_sem, Nat.reduceAdd, Nat.reduceSub, Nat.reduceLeDiff, v108, e1, e2, e3, hf]
    | true =>
     rw [hv2] at e3
     cases t with
     | true =>
      have hf : fvalid s l true m = false := by unfold fvalid; simp
      simp (disch := omega) only [go_sem, Nat.reduceAdd, Nat.reduceSub, Nat.reduceLeDiff, v108, e1, e2, e3, hf]
     | false =>
      by_cases hm0 : m = []
      ·have hf : fvalid s l false m = false := by unfold fvalid; simp [hm0]
       have c1 : (m.length : Int) = 0 := by rw [hm0]; rfl
       simp (disch := omega) only [go_sem, Nat.reduceAdd, Nat.reduceSub, Nat.reduceLeDiff, v108, e1, e2, e3, h'.n, c1, hf]
      ·have c1 : ¬ (m.length : Int) = 0 := by have := List.length_pos_iff.2 hm0; omega
       obtain ⟨w1, w2, w3, w4⟩ := wvalid_wh h hl hv1
       obtain ⟨u1, u2, u3, u4⟩ := wvalid_wh h' hm hv2
       obtain ⟨g, g1, g2⟩ := fgcd_q w1 u1 w2 u2
       rw [w3, u3] at g2
       have e6 := fun {H K} => g1.c (H := H) (K := K) fn150 rfl (by simp [plain_ag, flat_b, h.flat, h'.flat]) (.inl rfl)
       obtain ⟨yg, rfl, hg⟩ := g2.h
       have e7 := fun {H K} => (isone_q (s := decide (((Nat.gcd (vl 65536 l) (vl 65536 m) : Nat) : Int) < 0)) hg.sl).c (H := H) (K := K) fn128 rfl (by simp [plain_ag, flat_b, hg.sl.flat]) (.inl rfl)
       obtain ⟨G, hG⟩ : ∃ G, G = Nat.gcd (vl 65536 l) (vl 65536 m) := ⟨_, rfl⟩
       have dG : decide ((G : Int) < 0) = false := by simp
       have nG : ((G : Int)).natAbs = G := rfl
       have d1G : (!false && decide (ds 65536 G = [1])) = decide (G = 1) := by
        have : ds 65536 G = [1] ↔ G = 1 := by
         constructor
         ·intro h; have := vl_ds h16 G; rw [h] at this; simpa [vl] using this.symm
         ·intro h; rw [h, ds_step h16 (by omega)]; simp [ds_zero]
        simp [this]
       rw [<- hG, dG, nG, d1G] at e7
       rw [<- hG, dG] at e6
       have hf : fvalid s l false m = decide (G = 1) := by
        unfold fvalid; rw [hv1, hv2, <- hG]; simp [b1, b2, hm0]; rfl
       rw [hf]
       by_cases hi : m = [1]
       ·have hG1 : G = 1 := by rw [hG, hi]; simp [vl]
        rw [show (!false && decide (m = [1])) = true by simp [hi]] at e4
        simp (disch := omega) only [go_sem, Nat.reduceAdd, Nat.reduceSub, Nat.reduceLeDiff, v108, e1, e2, e3, h'.n, c1, e4, hG1]
       ·rw [show (!false && decide (m = [1])) = false by simp [hi]] at e4
        simp (disch := omega) only [go_sem, Nat.reduceAdd, Nat.reduceSub, Nat.reduceLeDiff, v108, e1, e2, e3, h'.n, c1, e4, e6, e7]
 have e5 := fun {H K} => key.c (H := H) (K := K) fn108 rfl hp (.inl rfl)
 refine .body (vf := v77) fn77 rfl ?_
 simp (disch := omega) only [go_sem, Nat.reduceAdd, Nat.reduceSub, v77, e5]
open Go.Dm
structure Fr (n : Int) (m : Nat) (d : D) : Prop where
 h : ∃ x y, d = .ag [.b (decide (n < 0)), x, .b false, y] /\ W16 n.natAbs x /\ W16 m y
structure Low (n : Int) (m : Nat) : Prop where
 z : m ≠ 0
 g : Nat.gcd n.natAbs m = 1
 bn : n.natAbs < cap 256
 bm : m < cap 256
theorem Fr.pl {n : Int} {m : Nat} {d : D} (h : Fr n m d) : d.plain = true := by
 obtain ⟨x, y, rfl, a, b⟩ := h.h
 simp [plain_ag, flat_b, a.sl.flat, b.sl.flat]
theorem w16_wh {n : Int} {x : D} (h : W16 n.natAbs x) : Wh n (.ag [.b (decide (n < 0)), x]) := ⟨x, rfl, h⟩
theorem wh_nat {m : Nat} {y : D} (h : W16 m y) : Wh (m : Int) (.ag [.b false, y]) := ⟨y, by simp, h⟩
theorem nat_dec (m : Nat) : decide ((m : Int) < 0) = false := by simp
theorem lowest_q {a : Int} {m : Nat} {d1 d2 : D} (h1 : Wh a d1) (h2 : Wh (m : Int) d2) (h0 : m ≠ 0) (b1 : a.natAbs < cap 1023) (b2 : m < cap 1023) : ∃ d, PRet VS 143 [d1, d2] d /\ Fr (a / (Nat.gcd a.natAbs m : Nat)) (m / Nat.gcd a.natAbs m) d := by
 obtain ⟨x1, rfl, a1⟩ := h1.h
 obtain ⟨x2, rfl, a2⟩ := h2.h
 rw [nat_dec] at h2 ⊢
 obtain ⟨g, g1, g2⟩ := fgcd_q h1 h2 (cap_up b1 (by omega)) (cap_up b2 (by omega))
 have nm : ((m : Int)).natAbs = m := rfl
 rw [nm] at g2
 obtain ⟨G, hG⟩ : ∃ G, G = Nat.gcd a.natAbs m := ⟨_, rfl⟩
 have hG0 : G ≠ 0 := by rw [hG]; exact fun e => h0 (Nat.eq_zero_of_gcd_eq_zero_right e)
 have hGm : G <= m := by rw [hG]; exact Nat.gcd_le_right _ (by omega)
 rw [<- hG] at g2 ⊢
 obtain ⟨q1, r1, k1, k2, _⟩ := fdiv_q h1 g2 hG0 b1 (Nat.lt_of_le_of_lt hGm (cap_up b2 (by omega)))
 obtain ⟨q2, r2, l1, l2, _⟩ := fdiv_q h2 g2 hG0 b2 (Nat.lt_of_le_of_lt hGm (cap_up b2 (by omega)))
 have e1 := fun {H K} => g1.c (H := H) (K := K) fn150 rfl (by simp [h1.pl, h2.pl]) (.inl rfl)
 have e2 := fun {H K} => k1.c (H := H) (K := K) fn140 rfl (by simp [h1.pl, g2.pl]) (.inl rfl)
 have e3 := fun {H K} => l1.c (H := H) (K := K) fn140 rfl (by simp [h2.pl, g2.pl]) (.inl rfl)
 obtain ⟨yg, rfl, hg⟩ := g2.h
 obtain ⟨y1, rfl, hy1⟩ := k2.h
 have hdiv : (m : Int) / (G : Int) = ((m / G : Nat) : Int) := by simp
 rw [hdiv] at l2
 obtain ⟨y2, rfl, hy2⟩ := l2.h
 rw [nat_dec] at e3
 rw [nat_dec] at e1 e2 e3
 have ef := fun m H => flat_freeze hy1.sl.flat m H
 have eg := fun m H => flat_freeze hy2.sl.flat m H
 refine ⟨_, .body (vf := v143) fn143 rfl ?_, ⟨y1, y2, rfl, hy1, hy2⟩⟩
 simp (disch := omega) only [go_sem, Nat.reduceAdd, Nat.reduceSub, Nat.reduceLeDiff, v143, e1, e2, e3, ef, eg]
structure RF where
 s : Bool
 x : D
 t : Bool
 y : D
 l : List Nat
 m : List Nat
 hx : Sl 1 (l.map u16) x
 hy : Sl 1 (m.map u16) y
 hl : lm 65536 l
 hm : lm 65536 m
 nl : l.length < 70368744177665
 nm : m.length < 70368744177665
def RF.cells (r : RF) : List D := [.b r.s, r.x, .b r.t, r.y]
def RF.d (r : RF) : D := .ag r.cells
def RF.v (r : RF) : Bool := fvalid r.s r.l r.t r.m
instance : Inhabited RF := ⟨⟨false, .nil, false, .nil, [], [], .nil rfl, .nil rfl, lm_nil, lm_nil, by simp, by simp⟩⟩
theorem RF.pl (r : RF) : r.d.plain = true := by simp [RF.d, RF.cells, plain_ag, flat_b, r.hx.flat, r.hy.flat]
theorem RF.valid_c (r : RF) {H : Heap} {K : CR -> Prop} : CallQ VS 77 [r.d] H K ↔ K (.ret (.b r.v) H) :=
 (fvalid_q r.hx r.hy r.hl r.hm r.nl r.nm).c (vf := v77) fn77 rfl (by simp [show (D.ag [.b r.s, r.x, .b r.t, r.y]).plain = true from r.pl]) (.inl rfl)
theorem nval_c (r : RF) {H : Heap} {K : CR -> Prop} : CallQ VS 173 (r.d :: []) H K ↔ K (.ret (.b (!r.v)) H) := by
 have e1 := fun {H K} => r.valid_c (H := H) (K := K)
 refine PRet.c (vf := v173) ?_ fn173 rfl (by simp [r.pl]) (.inl rfl)
 refine .body (vf := v173) fn173 rfl ?_
 simp only [RF.d, RF.cells] at e1 ⊢
 simp (disch := omega) only [go_sem, Nat.reduceAdd, Nat.reduceSub, v173, e1]
theorem allvalid_q (r1 r2 : RF) : PRet VS 135 [.im 4 [r1.cells, r2.cells]] (.b (r1.v && r2.v)) := by
 have e := fun {H K} => cf_q (V := VS) (f := 172) (h := 208) (g := 173) (w := 4) (agg := true) (enc := RF.cells) (key := RF.d) (l := [r1, r2]) (x := .im 4 [r1.cells, r2.cells]) (cp := []) (p := fun r => !r.v) (H := H) (K := K) fn172 fn208 .im (by simp) (fun _ => rfl) (fun _ => rfl) (by decide) (fun a K => nval_c a)
 refine .body (vf := v135) fn135 rfl ?_
 simp (disch := omega) only [go_sem, Nat.reduceSub, v135, e]
 simp only [List.any_cons, List.any_nil]
 cases r1.v <;> cases r2.v <;> rfl
theorem allvalid_c (r1 r2 : RF) {H : Heap} {K : CR -> Prop} : CallQ VS 135 [.sv 4 [r1.cells, r2.cells]] H K ↔ K (.ret (.b (r1.v && r2.v)) H) := by
 have f1 := fun m H => flat_freeze r1.hx.flat m H
 have f2 := fun m H => flat_freeze r1.hy.flat m H
 have f3 := fun m H => flat_freeze r2.hx.flat m H
 have f4 := fun m H => flat_freeze r2.hy.flat m H
 rw [CallQ_p (vf := v135) (H1 := H) fn135 rfl (allvalid_q r1 r2) (by simp only [go_sem, Nat.reduceAdd, RF.cells, f1, f2, f3, f4])]
 exact Iff.rfl
theorem Fr.rf {n : Int} {m : Nat} {d : D} (h : Fr n m d) (hl : Low n m) : ∃ r : RF, r.d = d /\ r.v = true /\ r.s = decide (n < 0) /\ r.t = false /\ W16 n.natAbs r.x /\ W16 m r.y := by
 obtain ⟨x, y, rfl, a, b⟩ := h.h
 refine ⟨⟨decide (n < 0), x, false, y, ds 65536 n.natAbs, ds 65536 m, a.sl, b.sl, lm_ds h16 _, lm_ds h16 _, cap_c16 hl.bn (by omega), cap_c16 hl.bm (by omega)⟩, rfl, ?_, rfl, rfl, a, b⟩
 have c1 := cap_len.2 hl.bn
 have c2 := cap_len.2 hl.bm
 have w1 := wvalid_ds (neg := decide (n < 0)) (cap_up hl.bn (show 256 <= 1024 by omega)) (fun h0 => by simp; omega)
 have w2 := wvalid_ds (neg := false) (cap_up hl.bm (show 256 <= 1024 by omega)) (fun h0 => rfl)
 have hne := ds_ne h16 hl.z
 show fvalid _ _ _ _ = true
 unfold fvalid
 rw [w1, w2, vl_ds h16, vl_ds h16, hl.g]
 simp [c1, c2, hne]
theorem RF.fr (r : RF) (h : r.v = true) : Fr (wval r.s r.l) (vl 65536 r.m) r.d /\ Low (wval r.s r.l) (vl 65536 r.m) := by
 have hv : fvalid r.s r.l r.t r.m = true := h
 unfold fvalid at hv
 simp only [Bool.and_eq_true, decide_eq_true_eq, Bool.not_eq_true', beq_iff_eq] at hv
 obtain ⟨⟨⟨⟨⟨⟨c1, c2⟩, w1⟩, w2⟩, ht⟩, hne⟩, hg⟩ := hv
 obtain ⟨a1, a2, a3, a4⟩ := wvalid_wh r.hx r.hl w1
 rw [ht] at w2
 obtain ⟨b1, b2, b3, b4⟩ := wvalid_wh r.hy r.hm w2
 obtain ⟨x, ex, hx⟩ := a1.h
 injection ex with ex
 injection ex with ex1 ex2
 injection ex2 with ex2 _
 subst ex2
 refine ⟨⟨r.x, r.y, ?_, hx, ⟨by rw [b4]; exact r.hy⟩⟩, ⟨?_, by rw [a3]; exact hg, ?_, ?_⟩⟩
 ·simp only [RF.d, RF.cells, ht]
  injection ex1 with ex1
  rw [<- ex1]
 ·intro h0; rw [h0, ds_zero] at b4; exact hne b4.symm
 ·rw [a3, <- cap_len, a4]; exact c1
 ·rw [<- cap_len, b4]; exact c2
def zeroF : D := .ag [.b false, .nil, .b false, .nil]
structure ResF (a : Int) (b : Nat) (r : D) : Prop where
 h : ∃ d, ((a / (Nat.gcd a.natAbs b : Nat)).natAbs < cap 256 /\ b / Nat.gcd a.natAbs b < cap 256 /\ r = .tu [d, .i .i64 0] /\ Fr (a / (Nat.gcd a.natAbs b : Nat)) (b / Nat.gcd a.natAbs b) d) \/
  (¬ ((a / (Nat.gcd a.natAbs b : Nat)).natAbs < cap 256 /\ b / Nat.gcd a.natAbs b < cap 256) /\ r = .tu [zeroF, .i .i64 3])
def resV (n : Int) (m : Nat) (d : D) : D := if n.natAbs < cap 256 /\ m < cap 256 then .tu [d, .i .i64 0] else .tu [zeroF, .i .i64 3]
theorem res_q {n : Int} {m : Nat} {d : D} (h : Fr n m d) : PRet VS 144 [d] (resV n m d) := by
 unfold resV
 obtain ⟨x, y, rfl, a, b⟩ := h.h
 have e1 := fun {H K} => (long_f (s := decide (n < 0)) (t := false) a.sl b.sl).c (H := H) (K := K) fn149 rfl (by simp [plain_ag, flat_b, a.sl.flat, b.sl.flat]) (.inl rfl)
 have f1 := fun m H => flat_freeze a.sl.flat m H
 have f2 := fun m H => flat_freeze b.sl.flat m H
 refine .body (vf := v144) fn144 rfl ?_
 by_cases hc : n.natAbs < cap 256 /\ m < cap 256
 ·rw [if_pos hc]
  have c1 := cap_len.2 hc.1
  have c2 := cap_len.2 hc.2
  rw [show (decide (256 < (ds 65536 n.natAbs).length) || decide (256 < (ds 65536 m).length)) = false by simp; omega] at e1
  simp (disch := omega) only [go_sem, Nat.reduceAdd, Nat.reduceSub, v144, e1, f1, f2]
 ·rw [if_neg hc]
  rw [<- cap_len, <- cap_len] at hc
  rw [show (decide (256 < (ds 65536 n.natAbs).length) || decide (256 < (ds 65536 m).length)) = true by simp; omega] at e1
  simp (disch := omega) only [go_sem, Nat.reduceAdd, Nat.reduceSub, v144, e1, zeroF]
theorem ResF.of {a : Int} {b : Nat} {d : D} (h : Fr (a / (Nat.gcd a.natAbs b : Nat)) (b / Nat.gcd a.natAbs b) d) : ResF a b (resV (a / (Nat.gcd a.natAbs b : Nat)) (b / Nat.gcd a.natAbs b) d) := by
 unfold resV
 refine ⟨d, ?_⟩
 by_cases hc : (a / (Nat.gcd a.natAbs b : Nat)).natAbs < cap 256 /\ b / Nat.gcd a.natAbs b < cap 256
 ·rw [if_pos hc]; exact .inl ⟨hc.1, hc.2, rfl, h⟩
 ·rw [if_neg hc]; exact .inr ⟨hc, rfl⟩
theorem ResF.pl {a : Int} {b : Nat} {r : D} (h : ResF a b r) : ∃ c1 c2 c3 c4 e, r = .tu [.ag [c1, c2, c3, c4], .i .i64 e] /\ c1.flat = true /\ c2.flat = true /\ c3.flat = true /\ c4.flat = true := by
 obtain ⟨d, ⟨_, _, rfl, hd⟩ | ⟨_, rfl⟩⟩ := h.h
 ·obtain ⟨x, y, rfl, w1, w2⟩ := hd.h
  exact ⟨_, _, _, _, _, rfl, rfl, w1.sl.flat, rfl, w2.sl.flat⟩
 ·exact ⟨_, _, _, _, _, rfl, rfl, rfl, rfl, rfl⟩
section
variable {n1 n2 : Int} {m1 m2 : Nat} {d1 d2 : D}
theorem mul_f (h1 : Fr n1 m1 d1) (h2 : Fr n2 m2 d2) (l1 : Low n1 m1) (l2 : Low n2 m2) : ∃ r, PRet VS 100 [d1, d2] r /\ ResF (n1 * n2) (m1 * m2) r := by
 obtain ⟨r1, rfl, v1, s1, t1, a1, b1⟩ := h1.rf l1
 obtain ⟨r2, rfl, v2, s2, t2, a2, b2⟩ := h2.rf l2
 have e0 := fun {H K} => allvalid_c r1 r2 (H := H) (K := K)
 rw [v1, v2] at e0
 obtain ⟨p, p1, p2⟩ := ftimes_q (w16_wh a1) (w16_wh a2) (cap_up l1.bn (by omega)) (cap_up l2.bn (by omega))
 obtain ⟨q, q1, q2⟩ := ftimes_q (wh_nat b1) (wh_nat b2) (cap_up l1.bm (by omega)) (cap_up l2.bm (by omega))
 have e1 := fun {H K} => p1.c (H := H) (K := K) fn137 rfl (by simp [(w16_wh a1).pl, (w16_wh a2).pl]) (.inl rfl)
 have e2 := fun {H K} => q1.c (H := H) (K := K) fn137 rfl (by simp [(wh_nat b1).pl, (wh_nat b2).pl]) (.inl rfl)
 rw [<- Int.natCast_mul] at q2
 obtain ⟨k, k1, k2⟩ := lowest_q p2 q2 (by have := l1.z; have := l2.z; exact Nat.mul_ne_zero l1.z l2.z) (by rw [Int.natAbs_mul]; exact cap_mul l1.bn l2.bn (by omega)) (cap_mul l1.bm l2.bm (by omega))
 have e3 := fun {H K} => k1.c (H := H) (K := K) fn143 rfl (by simp [p2.pl, q2.pl]) (.inl rfl)
 have e4 := fun {H K} => (res_q k2).c (H := H) (K := K) fn144 rfl (by simp [k2.pl]) (.inl rfl)
 have hr := ResF.of k2
 generalize resV _ _ _ = r at e4 hr
 obtain ⟨c1, c2, c3, c4, e, rfl, f1, f2, f3, f4⟩ := hr.pl
 refine ⟨_, .body (vf := v100) fn100 rfl ?_, hr⟩
 have ef1 := fun m H => flat_freeze f1 m H
 have ef2 := fun m H => flat_freeze f2 m H
 have ef3 := fun m H => flat_freeze f3 m H
 have ef4 := fun m H => flat_freeze f4 m H
 simp only [RF.d, RF.cells, s1, t1, s2, t2] at e0 ⊢
 simp (disch := omega) only [go_sem, Nat.reduceAdd, Nat.reduceSub, Nat.reduceLeDiff, Nat.reduceLT, v100, e0, e1, e2, e3, e4, ef1, ef2, ef3, ef4]
theorem add_f (h1 : Fr n1 m1 d1) (h2 : Fr n2 m2 d2) (l1 : Low n1 m1) (l2 : Low n2 m2) : ∃ r, PRet VS 125 [d1, d2] r /\ ResF (n1 * m2 + n2 * m1) (m1 * m2) r := by
 obtain ⟨r1, rfl, v1, s1, t1, a1, b1⟩ := h1.rf l1
 obtain ⟨r2, rfl, v2, s2, t2, a2, b2⟩ := h2.rf l2
 have e0 := fun {H K} => allvalid_c r1 r2 (H := H) (K := K)
 rw [v1, v2] at e0
 obtain ⟨p, p1, p2⟩ := ftimes_q (w16_wh a1) (wh_nat b2) (cap_up l1.bn (by omega)) (cap_up l2.bm (by omega))
 obtain ⟨o, o1, o2⟩ := ftimes_q (w16_wh a2) (wh_nat b1) (cap_up l2.bn (by omega)) (cap_up l1.bm (by omega))
 obtain ⟨q, q1, q2⟩ := ftimes_q (wh_nat b1) (wh_nat b2) (cap_up l1.bm (by omega)) (cap_up l2.bm (by omega))
 have bp : (n1 * (m2 : Int)).natAbs < cap 512 := by rw [Int.natAbs_mul]; exact cap_mul l1.bn l2.bm (by omega)
 have bo : (n2 * (m1 : Int)).natAbs < cap 512 := by rw [Int.natAbs_mul]; exact cap_mul l2.bn l1.bm (by omega)
 obtain ⟨t, t1', t2'⟩ := fplus_q p2 o2 (cap_up bp (by omega)) (cap_up bo (by omega))
 have e1 := fun {H K} => p1.c (H := H) (K := K) fn137 rfl (by simp [(w16_wh a1).pl, (wh_nat b2).pl]) (.inl rfl)
 have e2 := fun {H K} => o1.c (H := H) (K := K) fn137 rfl (by simp [(w16_wh a2).pl, (wh_nat b1).pl]) (.inl rfl)
 have e5 := fun {H K} => q1.c (H := H) (K := K) fn137 rfl (by simp [(wh_nat b1).pl, (wh_nat b2).pl]) (.inl rfl)
 have e6 := fun {H K} => t1'.c (H := H) (K := K) fn141 rfl (by simp [p2.pl, o2.pl]) (.inl rfl)
 rw [<- Int.natCast_mul] at q2
 have bs : (n1 * (m2 : Int) + n2 * m1).natAbs < cap 513 := Nat.lt_of_le_of_lt (Int.natAbs_add_le _ _) (cap_add bp bo (by omega))
 obtain ⟨k, k1, k2⟩ := lowest_q t2' q2 (Nat.mul_ne_zero l1.z l2.z) (cap_up bs (by omega)) (cap_mul l1.bm l2.bm (by omega))
 have e3 := fun {H K} => k1.c (H := H) (K := K) fn143 rfl (by simp [t2'.pl, q2.pl]) (.inl rfl)
 have e4 := fun {H K} => (res_q k2).c (H := H) (K := K) fn144 rfl (by simp [k2.pl]) (.inl rfl)
 have hr := ResF.of k2
 generalize resV _ _ _ = r at e4 hr
 obtain ⟨c1, c2, c3, c4, e, rfl, f1, f2, f3, f4⟩ := hr.pl
 refine ⟨_, .body (vf := v125) fn125 rfl ?_, hr⟩
 have ef1 := fun m H => flat_freeze f1 m H
 have ef2 := fun m H => flat_freeze f2 m H
 have ef3 := fun m H => flat_freeze f3 m H
 have ef4 := fun m H => flat_freeze f4 m H
 simp only [RF.d, RF.cells, s1, t1, s2, t2] at e0 ⊢
 simp (disch := omega) only [go_sem, Nat.reduceAdd, Nat.reduceSub, Nat.reduceLeDiff, Nat.reduceLT, v125, e0, e1, e2, e3, e4, e5, e6, ef1, ef2, ef3, ef4]
end
theorem fsame_q (r1 r2 : RF) : PRet VS 78 [r1.d, r2.d] (.b (((r1.s == r2.s) && decide (r1.l = r2.l)) && ((r1.t == r2.t) && decide (r1.m = r2.m)))) := by
 have e1 := fun {H K} => (wsame_q (n1 := r1.s) (n2 := r2.s) r1.hx r2.hx r1.nl r2.nl).c (H := H) (K := K) fn109 rfl (by simp [plain_ag, flat_b, r1.hx.flat, r2.hx.flat]) (.inl rfl)
 have e2 := fun {H K} => (wsame_q (n1 := r1.t) (n2 := r2.t) r1.hy r2.hy r1.nm r2.nm).c (H := H) (K := K) fn109 rfl (by simp [plain_ag, flat_b, r1.hy.flat, r2.hy.flat]) (.inl rfl)
 refine .body (vf := v78) fn78 rfl ?_
 simp only [RF.d, RF.cells]
 cases hq : ((r1.s == r2.s) && decide (r1.l = r2.l)) <;> rw [hq] at e1 <;> simp (disch := omega) only [go_sem, Nat.reduceAdd, Nat.reduceSub, Nat.reduceLeDiff, v78, e1, e2, Bool.true_and, Bool.false_and]
open Go.Dm
section
variable {n1 n2 : Int} {m1 m2 : Nat} {d1 d2 : D}
end
open Go.Dm
theorem CallQ_det {V : VProg} {f : FuncId} {args : List D} {H : Heap} {r : CR} (h : CallQ V f args H (· = r)) {K : CR -> Prop} : CallQ V f args H K ↔ K r := by
  constructor
  · rintro ⟨n, h1, h2⟩
    obtain ⟨m, h3, h4⟩ := h
    have e1 := call_up (Nat.le_max_left n m) h1
    have e2 := call_up (Nat.le_max_right n m) h3
    rw [<- h4, <- e2, e1]; exact h2
  · intro hk; exact h.mono fun q hq => by rw [hq]; exact hk
section
variable {n1 n2 : Int} {m1 m2 : Nat} {d1 d2 : D}
end
end Go.Proofs.YtdpnanafhabkiaaGreatDoor.Dv
