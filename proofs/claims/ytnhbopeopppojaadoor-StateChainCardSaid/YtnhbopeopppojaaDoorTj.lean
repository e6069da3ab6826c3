/-
  StateMakes over the machine: states copied and compared; the law.
-/
import Derived.Test.YtnhbopeopppojaaDoorTi
import Derived.Test.YtnhbopeopppojaaDoorSj
namespace Go.Proofs.YtnhbopeopppojaaDoor.Dv
open Go.Dm Go.Proofs

/-! ### What Make returns -/
def mkS (s : RSt) (y : Int) : Stm := if (validR s && isY y) = true then makeS s y else zS
def mkE (s : RSt) (y : Int) : Int := if (validR s && isY y) = true then 0 else 2
theorem makeD_eq {s : RSt} {y : Int} : makeD s y = .tu [stD (mkS s y) (lsD (mkS s y).ls), .i .i64 (mkE s y)] := by
  unfold makeD mkS mkE
  by_cases h : (validR s && isY y) = true
  · rw [if_pos h, if_pos h, if_pos h]; rfl
  · rw [if_neg h, if_neg h, if_neg h]; rfl
theorem mkS_len {s : RSt} {y : Int} : (mkS s y).ls.length ≤ 12 := by
  unfold mkS
  split
  · show (pl s.l (yFrom s.l y) (yN s.l y)).length ≤ 12
    rw [pl_len]; unfold yN yTo yFrom; omega
  · simp [zS]

/-! ### Copies -/
theorem copy63 {l : List Int} {x : D} (h : Sl 1 (l.map iR) x) (hl : l.length ≤ 1000000) {H : Heap} {K : CR → Prop} : CallQ VS 63 [x] H K ↔ K (.ret (imD .nil 1 (l.map iR)) H) := by
  have hp : PRet VS 63 [x] (imD .nil 1 (l.map iR)) := by
    refine .body (vf := v63) rfl rfl ?_
    have ha := fun H => app_all (H := H) (w := 1) (bytes := 8) (x0 := .nil) (enc := iR) (l := l) rfl h (fun _ => rfl) (by omega) (by omega)
    simp (disch := omega) only [go_sem, Nat.reduceSub, v63, ha]
  exact hp.c (vf := v63) rfl rfl (by simp [h.pl]) (.inl rfl)
theorem copy64 {l : List Po} {x : D} (h : Sl 4 (l.map poR) x) (hl : l.length ≤ 1000000) {H : Heap} {K : CR → Prop} : CallQ VS 64 [x] H K ↔ K (.ret (imD .nil 4 (l.map poR)) H) := by
  have hp : PRet VS 64 [x] (imD .nil 4 (l.map poR)) := by
    refine .body (vf := v64) rfl rfl ?_
    have ha := fun H => app_all (H := H) (w := 4) (bytes := 32) (x0 := .nil) (enc := poR) (l := l) rfl h (fun _ => rfl) (by omega) (by omega)
    simp (disch := omega) only [go_sem, Nat.reduceSub, v64, ha]
  exact hp.c (vf := v64) rfl rfl (by simp [h.pl]) (.inl rfl)
def crD (s : RSt) : D := rsD s (imD .nil 1 (s.l.due.map iR)) (imD .nil 4 (s.l.po.map poR)) (imD .nil 10 (s.sl.map spR))
theorem crD_is (s : RSt) : IsR s (crD s) := ⟨⟨_, _, _, rfl, imD_sl rfl _ _, imD_sl rfl _ _, imD_sl rfl _ _⟩⟩
theorem copied27 {s : RSt} {d : D} (h : IsR s d) (h1 : s.l.due.length ≤ 1000000) (h2 : s.l.po.length ≤ 1000000) (h3 : s.sl.length ≤ 1000000) {H : Heap} {K : CR → Prop} : CallQ VS 27 [d] H K ↔ K (.ret (crD s) H) := by
  have hpl := h.plain
  obtain ⟨⟨x, y, zz, rfl, hx, hy, hz⟩⟩ := h
  have hp : PRet VS 27 [rsD s x y zz] (crD s) := by
    refine .body (vf := v27) rfl rfl ?_
    have e63 := fun {H K} => copy63 hx h1 (H := H) (K := K)
    have e64 := fun {H K} => copy64 hy h2 (H := H) (K := K)
    have ha := fun H => app_all (H := H) (w := 10) (bytes := 80) (x0 := .nil) (enc := spR) (l := s.sl) rfl hz (fun _ => rfl) (by omega) (by omega)
    have k1 := (imD_sl (x0 := .nil) rfl 1 (s.l.due.map iR)).c1
    have k2 := (imD_sl (x0 := .nil) rfl 4 (s.l.po.map poR)).c1
    have f1 := fun m H => flat_freeze (imD_sl (x0 := .nil) rfl 1 (s.l.due.map iR)).flat m H
    have f2 := fun m H => flat_freeze (imD_sl (x0 := .nil) rfl 4 (s.l.po.map poR)).flat m H
    simp (disch := omega) only [go_sem, Nat.reduceAdd, Nat.reduceSub, Nat.reduceLeDiff, v27, rsD, e63, e64, ha, k1, k2, f1, f2, crD]
  exact hp.c (vf := v27) rfl rfl (by simp [hpl]) (.inl rfl)
def sTo (l : List Sp) (i : Nat) : List Sp := l.take i
theorem sTo_succ {l : List Sp} {i : Nat} (h : i < l.length) : sTo l (i + 1) = sTo l i ++ [l[i]!] := by
  unfold sTo
  rw [List.take_succ_eq_append_getElem h, getElem!_pos l i h]
theorem sTo_len {l : List Sp} {i : Nat} : (sTo l i).length ≤ i := by simp [sTo]; omega
theorem paid29 {s : RSt} {d : D} (h : IsR s d) (h1 : s.l.due.length ≤ 1000000) (h2 : s.l.po.length ≤ 1000000) (h3 : s.sl.length ≤ 1000000) {H : Heap} {K : CR → Prop} : CallQ VS 29 [d] H K ↔ K (.ret (crD s) H) := by
  have hpl := h.plain
  obtain ⟨⟨x, y, zz, rfl, hx, hy, hz⟩⟩ := h
  have hp : PRet VS 29 [rsD s x y zz] (crD s) := by
    refine .body (vf := v29) rfl rfl ?_
    have e63 := fun {H K} => copy63 hx h1 (H := H) (K := K)
    have e64 := fun {H K} => copy64 hy h2 (H := H) (K := K)
    have k1 := (imD_sl (x0 := .nil) rfl 1 (s.l.due.map iR)).c1
    have k2 := (imD_sl (x0 := .nil) rfl 4 (s.l.po.map poR)).c1
    have f1 := fun m H => flat_freeze (imD_sl (x0 := .nil) rfl 1 (s.l.due.map iR)).flat m H
    have f2 := fun m H => flat_freeze (imD_sl (x0 := .nil) rfl 4 (s.l.po.map poR)).flat m H
    simp (disch := omega) only [go_sem, Nat.reduceAdd, Nat.reduceSub, Nat.reduceLeDiff, v29, rsD, e63, e64, k1, k2]
    refine Run.up (fun i st => ∃ a2 a6 Z, st = ⟨[rsD s x y zz, Z, a2, .bx [.i .i64 s.l.st, x, y, .i .i64 s.sm, .i .i64 s.sg, .i .i64 s.sx, zz], .i .i64 i, .bx [.i .i64 s.l.st, imD .nil 1 (s.l.due.map iR), imD .nil 4 (s.l.po.map poR), .i .i64 s.sm, .i .i64 s.sg, .i .i64 s.sx, bD [] .nil ((sTo s.sl i).map spR)], a6], bH [] 10 ((sTo s.sl i).map spR)⟩ ∧ Z = .bx [.i .i64 0, .nil, .nil, .i .i64 0, .i .i64 0, .i .i64 0, .nil]) s.sl.length ⟨.u, .u, _, rfl, rfl⟩ ?_
    rintro i st hi ⟨a2, a6, Z, rfl, hZ⟩
    have hll := sTo_len (l := s.sl) (i := i)
    by_cases hlt : i < s.sl.length
    · have hlt' : decide ((i : Int) < (s.sl.length : Int)) = true := by simpa using hlt
      have hsn : (sTo s.sl i).map spR ++ [[.i .i64 s.sl[i]!.m, .i .i64 s.sl[i]!.dy, .i .i64 s.sl[i]!.f, .i .i64 s.sl[i]!.t, .i .i64 s.sl[i]!.nu, .i .i64 s.sl[i]!.ac, .i .i64 s.sl[i]!.g, .i .i64 s.sl[i]!.x, .i .i64 s.sl[i]!.ne, .b s.sl[i]!.gone]] = (sTo s.sl (i + 1)).map spR := by
        rw [sTo_succ hlt, List.map_append]; rfl
      simp (disch := omega) only [go_sem, Nat.reduceAdd, Nat.reduceLeDiff, Nat.reduceLT, v29l0, rsD, hz.q, hz.n, spR, wr, hlt', app_n, hsn]
      exact ⟨by omega, hlt, hZ⟩
    · have : i = s.sl.length := by omega
      subst this
      have e : sTo s.sl s.sl.length = s.sl := List.take_length
      rw [e]
      subst hZ
      have hlt' : decide ((s.sl.length : Int) < (s.sl.length : Int)) = false := by simp
      simp (disch := omega) only [go_sem, Nat.reduceAdd, v29l0, rsD, hz.n, hlt', f1, f2, crD]
  exact hp.c (vf := v29) rfl rfl (by simp [hpl]) (.inl rfl)

/-! ### Compared with itself -/
theorem cells_i {k : IntKind} {n : Int} {sh : List Nat} {xs ys : List D} : cellsEq (1 :: sh) (.i k n :: xs) (.i k n :: ys) = cellsEq sh xs ys := by
  simp [cellsEq, kindIs, cellEq]
theorem cells_b {b : Bool} {sh : List Nat} {xs ys : List D} : cellsEq (0 :: sh) (.b b :: xs) (.b b :: ys) = cellsEq sh xs ys := by
  simp [cellsEq, kindIs, cellEq]
theorem eqv_self {neg : Bool} {sh : List Nat} {xs : List D} (h : cellsEq sh xs xs = some true) : eqvD neg (.st sh) (.ag xs) (.ag xs) = some (.b (true != neg)) := by
  simp only [eqvD, deq, h]
theorem same70 {l : Led} {d d' : D} (h : IsLed l d) (h' : IsLed l d') (h1 : l.due.length ≤ 1000000) (h2 : l.po.length ≤ 1000000) : PRet VS 70 [d, d'] (.b true) := by
  obtain ⟨⟨x, y, rfl, hx, hy⟩⟩ := h
  obtain ⟨⟨x', y', rfl, hx', hy'⟩⟩ := h'
  refine .body (vf := v70) rfl rfl ?_
  simp (disch := omega) only [go_sem, Nat.reduceAdd, Nat.reduceSub, Nat.reduceLeDiff, v70, ledD, hx.n, hy.n, hx'.n, hy'.n]
  refine Run.up (fun i st => ∃ a4 a5 a12, st = ⟨[ledD l x y, ledD l x' y', .b false, .b false, a4, a5, .u, .u, .bx [.i .i64 l.st, x, y], .bx [.i .i64 l.st, x', y'], .i .i64 i, .i .i64 l.due.length, a12, .u, .u, .u], []⟩) l.due.length ⟨.u, .u, .u, rfl⟩ ?_
  rintro i st hi ⟨a4, a5, a12, rfl⟩
  by_cases hlt : i < l.due.length
  · have hlt' : decide ((i : Int) < (l.due.length : Int)) = true := by simpa using hlt
    simp (disch := omega) only [go_sem, Nat.reduceAdd, Nat.reduceLeDiff, v70l0, ledD, hx.q, hx'.q, hx.under, hx'.under, iR, wr, hlt']
    exact ⟨by omega, by omega, hlt⟩
  · have : i = l.due.length := by omega
    subst this
    have hlt' : decide ((l.due.length : Int) < (l.due.length : Int)) = false := by simp
    simp (disch := omega) only [go_sem, Nat.reduceAdd, v70l0, ledD, hlt', hy.n]
    refine Run.up (fun i st => ∃ a6 a7 a15, st = ⟨[ledD l x y, ledD l x' y', .b false, .b false, .b false, a5, a6, a7, .bx [.i .i64 l.st, x, y], .bx [.i .i64 l.st, x', y'], .i .i64 l.due.length, .i .i64 l.due.length, a12, .i .i64 i, .i .i64 l.po.length, a15], []⟩) l.po.length ⟨.u, .u, .u, rfl⟩ ?_
    rintro i st hi ⟨a6, a7, a15, rfl⟩
    by_cases hlt : i < l.po.length
    · have hlt' : decide ((i : Int) < (l.po.length : Int)) = true := by simpa using hlt
      have e := fun {neg} => eqv_self (neg := neg) (sh := [1, 1, 1, 1]) (xs := poR l.po[i]!) (by simp only [poR, cells_i]; rfl)
      simp only [poR] at e
      simp (disch := omega) only [go_sem, Nat.reduceAdd, v70l1, ledD, hy.q, hy'.q, hy.under, hy'.under, poR, wr, hlt', e]
      exact ⟨by omega, by omega, fun h => (by cases h), fun _ => hlt⟩
    · have : i = l.po.length := by omega
      subst this
      have hlt' : decide ((l.po.length : Int) < (l.po.length : Int)) = false := by simp
      simp (disch := omega) only [go_sem, v70l1, ledD, hlt']
theorem c70 {l : Led} {d d' : D} (h : IsLed l d) (h' : IsLed l d') (h1 : l.due.length ≤ 1000000) (h2 : l.po.length ≤ 1000000) {H : Heap} {K : CR → Prop} : CallQ VS 70 [d, d'] H K ↔ K (.ret (.b true) H) :=
  (same70 h h' h1 h2).c (vf := v70) rfl rfl (by simp [h.plain, h'.plain]) (.inl rfl)
theorem same30 {s : RSt} {d d' : D} (h : IsR s d) (h' : IsR s d') (h1 : s.l.due.length ≤ 1000000) (h2 : s.l.po.length ≤ 1000000) (h3 : s.sl.length ≤ 1000000) : PRet VS 30 [d, d'] (.b true) := by
  obtain ⟨⟨x, y, zz, rfl, hx, hy, hz⟩⟩ := h
  obtain ⟨⟨x', y', zz', rfl, hx', hy', hz'⟩⟩ := h'
  have e70 := fun {H K} => c70 (isLed_of hx hy) (isLed_of hx' hy') h1 h2 (H := H) (K := K)
  simp only [ledD] at e70
  refine .body (vf := v30) rfl rfl ?_
  have e := fun {neg} => eqv_self (neg := neg) (sh := [1, 1, 1]) (xs := [.i .i64 s.sm, .i .i64 s.sg, .i .i64 s.sx]) (by simp only [cells_i]; rfl)
  simp (disch := omega) only [go_sem, Nat.reduceAdd, Nat.reduceSub, Nat.reduceLeDiff, v30, rsD, e70, e, hz.n, hz'.n]
  refine ⟨fun h => (by cases h), fun _ => ?_⟩
  refine Run.up (fun i st => ∃ a4 a5 a10, st = ⟨[rsD s x y zz, rsD s x' y' zz', .b false, .b false, a4, a5, .bx [.i .i64 s.l.st, x, y, .i .i64 s.sm, .i .i64 s.sg, .i .i64 s.sx, zz], .bx [.i .i64 s.l.st, x', y', .i .i64 s.sm, .i .i64 s.sg, .i .i64 s.sx, zz'], .i .i64 i, .i .i64 s.sl.length, a10], []⟩) s.sl.length ⟨.u, .u, .u, rfl⟩ ?_
  rintro i st hi ⟨a4, a5, a10, rfl⟩
  by_cases hlt : i < s.sl.length
  · have hlt' : decide ((i : Int) < (s.sl.length : Int)) = true := by simpa using hlt
    have e := fun {neg} => eqv_self (neg := neg) (sh := [1, 1, 1, 1, 1, 1, 1, 1, 1, 0]) (xs := spR s.sl[i]!) (by simp only [spR, cells_i, cells_b]; rfl)
    simp only [spR] at e
    simp (disch := omega) only [go_sem, Nat.reduceAdd, v30l0, rsD, hz.q, hz'.q, hz.under, hz'.under, spR, wr, hlt', e]
    exact ⟨by omega, by omega, fun h => (by cases h), fun _ => hlt⟩
  · have : i = s.sl.length := by omega
    subst this
    have hlt' : decide ((s.sl.length : Int) < (s.sl.length : Int)) = false := by simp
    simp (disch := omega) only [go_sem, v30l0, rsD, hlt']
theorem c30 {s : RSt} {d d' : D} (h : IsR s d) (h' : IsR s d') (h1 : s.l.due.length ≤ 1000000) (h2 : s.l.po.length ≤ 1000000) (h3 : s.sl.length ≤ 1000000) {H : Heap} {K : CR → Prop} : CallQ VS 30 [d, d'] H K ↔ K (.ret (.b true) H) :=
  (same30 h h' h1 h2 h3).c (vf := v30) rfl rfl (by simp [h.plain, h'.plain]) (.inl rfl)

/-! ### The law -/
def fewR (s : RSt) : Bool := decide (s.l.due.length ≤ 60) && decide (s.l.po.length ≤ 150) && decide (s.sl.length ≤ 60)
theorem few10 {s : RSt} {d : D} (h : IsR s d) {H : Heap} {K : CR → Prop} : CallQ VS 10 [d] H K ↔ K (.ret (.b (fewR s)) H) := by
  have hpl := h.plain
  obtain ⟨⟨x, y, zz, rfl, hx, hy, hz⟩⟩ := h
  have hp : PRet VS 10 [rsD s x y zz] (.b (fewR s)) := by
    refine .body (vf := v10) rfl rfl ?_
    simp (disch := omega) only [go_sem, Nat.reduceAdd, Nat.reduceSub, Nat.reduceLeDiff, v10, rsD, hx.n, hy.n, hz.n, fewR]
    grind
  exact hp.c (vf := v10) rfl rfl (by simp [hpl]) (.inl rfl)
theorem c17g {H H1 : Heap} {s : Stm} {x d : D} (h : ∀ m, Dm.freeze (m + 1) H x = some (lsD s.ls, H1)) (hd : IsStm s d) (hl : s.ls.length ≤ 1000000) {K : CR → Prop} : CallQ VS 17 [d, stD s x] H K ↔ K (.ret (.b true) H1) := by
  have hs : IsStm s (stD s (lsD s.ls)) := isStm_of s
  have e := same17 hd hs hl
  rw [decide_eq_true rfl] at e
  refine CallQ_p (vf := v17) (H1 := H1) rfl rfl e ?_
  obtain ⟨⟨y, rfl, hy⟩⟩ := hd
  have fy : ∀ m H, Dm.freeze (m + 1) H y = some (y, H) := fun m H => flat_freeze hy.flat m H
  simp only [go_sem, Nat.reduceAdd, stD, h, fy]
theorem makes11 {s : RSt} {d : D} (h : IsR s d) (hr : RngR s) (hf : fewR s = true) {y : Int} : PRet VS 11 [d, .i .i64 y] (.b true) := by
  simp only [fewR, Bool.and_eq_true, decide_eq_true_eq] at hf
  obtain ⟨⟨f1, f2⟩, f3⟩ := hf
  have e27 := fun {H K} => copied27 h (by omega) (by omega) (by omega) (H := H) (K := K)
  have e29 := fun {H K} => paid29 h (by omega) (by omega) (by omega) (H := H) (K := K)
  have e30 := fun {H K} => c30 (crD_is s) h (by omega) (by omega) (by omega) (H := H) (K := K)
  have e23 := fun {H K} => c23 (crD_is s) hr (y := y) (H := H) (K := K)
  have e28 := fun {H K} => c28 (crD_is s) hr (y := y) (H := H) (K := K)
  rw [makeD_eq] at e23 e28
  have hlen := mkS_len (s := s) (y := y)
  have e18 := fun {H K} => c18 (isStm_of (mkS s y)) (by omega) (H := H) (K := K)
  have e17 := fun {K} => c17g (s := mkS s y) fz_b0 (isStm_of (mkS s y)) (by omega) (K := K)
  have k0 := (lsD_sl (mkS s y).ls).c1
  have k1 := (imD_sl (x0 := .nil) rfl 1 (s.l.due.map iR)).c1
  have k2 := (imD_sl (x0 := .nil) rfl 4 (s.l.po.map poR)).c1
  have k3 := (imD_sl (x0 := .nil) rfl 10 (s.sl.map spR)).c1
  obtain ⟨⟨x, yy, zz, rfl, hx, hy, hz⟩⟩ := h
  refine .body (vf := v11) rfl rfl ?_
  simp only [crD, rsD, stD] at e27 e29 e30 e23 e28 e18 e17
  simp (disch := omega) only [go_sem, Nat.reduceAdd, Nat.reduceSub, v11, rsD, e27, e29, e23, e28, e18, e17, e30]
theorem rng_few {s : RSt} (hm : ∀ x ∈ s.sl, x.m ≤ 9223372036854775807) (hf : fewR s = true) : RngR s := by
  simp only [fewR, Bool.and_eq_true, decide_eq_true_eq] at hf
  exact ⟨hm, by omega, by omega⟩
theorem law3 {s : RSt} {d : D} (h : IsR s d) (hr : ∀ x ∈ s.sl, x.m ≤ 9223372036854775807) {y : Int} : PRet VS 3 [d, .i .i64 y] (.b true) := by
  have e10 := fun {H K} => few10 h (H := H) (K := K)
  have e11 := fun {H K} (hf : fewR s = true) => (makes11 h (rng_few hr hf) hf (y := y)).c (vf := v11) rfl rfl (by simp [h.plain]; rfl) (.inl rfl) (H := H) (K := K)
  obtain ⟨⟨x, yy, zz, rfl, hx, hy, hz⟩⟩ := h
  refine .body (vf := v3) rfl rfl ?_
  simp only [rsD] at e10 e11
  cases hf : fewR s with
  | true => simp (disch := omega) only [go_sem, Nat.reduceAdd, Nat.reduceSub, v3, rsD, e10, hf, e11, c12]
  | false => simp (disch := omega) only [go_sem, Nat.reduceAdd, Nat.reduceSub, v3, rsD, e10, hf, c12]
end Go.Proofs.YtnhbopeopppojaaDoor.Dv
