/-
  StateWrong over the machine.
-/
import Derived.Test.YtnhbopeopppojaaDoorSi
namespace Go.Proofs.YtnhbopeopppojaaDoor.Dv
open Go.Dm Go.Proofs

theorem fz_st {H H1 : Heap} {s : Stm} {x : D} (h : ∀ m, Dm.freeze (m + 1) H x = some (lsD s.ls, H1)) : freezeL deep H [stD s x] = some ([stD s (lsD s.ls)], H1) := by
  simp only [go_sem, Nat.reduceAdd, stD, h]
theorem c14f {H H1 : Heap} {s : Stm} {x : D} (h : ∀ m, Dm.freeze (m + 1) H x = some (lsD s.ls, H1)) (hr : Rng s) {K : CR → Prop} : CallQ VS 14 [stD s x] H K ↔ K (.ret (.tu [.s (if RightS s then textT s else []), .i .i64 (if RightS s then 0 else 2)]) H1) :=
  CallQ_p (vf := v14) (H1 := H1) rfl rfl (text14 (isStm_of s) hr) (fz_st h)
theorem c15f {H H1 : Heap} {s : Stm} {x : D} (h : ∀ m, Dm.freeze (m + 1) H x = some (lsD s.ls, H1)) (hr : Rng s) {K : CR → Prop} : CallQ VS 15 [stD s x] H K ↔ K (.ret (.b (decide (RightS s))) H1) :=
  CallQ_p (vf := v15) (H1 := H1) rfl rfl (right15 (isStm_of s) hr) (fz_st h)
theorem fz_b0 {l : List Ln} : ∀ m, Dm.freeze (m + 1) (bH [] 4 (l.map lnR)) (bD [] .nil (l.map lnR)) = some (lsD l, bHl [] 4 (l.map lnR)) := fun m => by
  cases l with
  | nil => rfl
  | cons x l => simp [bD, bH, lsD, imD, bHl, fz_mu, arr, fzM, List.take_of_length_le]
theorem fz_b1 {l : List Ln} : ∀ m, Dm.freeze (m + 1) (bHl [] 4 (l.map lnR)) (bD [] .nil (l.map lnR)) = some (lsD l, bHl [] 4 (l.map lnR)) := fun m => by
  cases l with
  | nil => rfl
  | cons x l => simp [bD, lsD, imD, bHl, fz_mu, arr, fzM, List.take_of_length_le]
/-- Text and Right of a statement that is not right. -/
theorem bad_end {s' : Stm} (hr : Rng s') (hn : ¬ RightS s') : (∀ {K : CR → Prop}, CallQ VS 14 [stD s' (bD [] .nil (s'.ls.map lnR))] (bH [] 4 (s'.ls.map lnR)) K ↔ K (.ret (.tu [.s [], .i .i64 2]) (bHl [] 4 (s'.ls.map lnR)))) ∧
    ∀ {K : CR → Prop}, CallQ VS 15 [stD s' (bD [] .nil (s'.ls.map lnR))] (bHl [] 4 (s'.ls.map lnR)) K ↔ K (.ret (.b false) (bHl [] 4 (s'.ls.map lnR))) := by
  refine ⟨fun {K} => ?_, fun {K} => ?_⟩
  · rw [c14f fz_b0 hr, if_neg hn, if_neg hn]
  · rw [c15f fz_b1 hr, decide_eq_false hn]

theorem RightS.mon {s : Stm} (r : RightS s) : ∀ k, k < s.ls.length → s.ls[k]!.m = s.ls[0]!.m + k
  | 0, _ => by simp
  | k + 1, h => by
    have ih := r.mon k (by omega)
    have := (r.lns.h (k + 1) h).m2 (by omega)
    simp only [Nat.add_sub_cancel] at this
    rw [this, ih]
    omega
theorem RightS.mb {s : Stm} (r : RightS s) {k : Nat} (h : k < s.ls.length) : 0 ≤ s.ls[k]!.m ∧ s.ls[k]!.m ≤ 2159 := by
  have h1 := (r.lns.h k h).m0
  have h2 := (r.lns.h k h).m1
  have hy := r.y
  rw [yOf, Int.tdiv_eq_ediv_of_nonneg h1] at h2
  simp only [isY, Bool.and_eq_true, decide_eq_true_eq] at hy
  omega
theorem rng_set {l : List Ln} {k : Nat} {x : Ln} {P : Ln → Prop} (h : ∀ y ∈ l, P y) (hx : P x) : ∀ y ∈ l.set k x, P y := fun y hy => by
  rcases List.mem_or_eq_of_mem_set hy with h' | h'
  · exact h y h'
  · exact h' ▸ hx
theorem set_ln {l : List Ln} {k : Nat} {x : Ln} : (l.map lnR).set k [.i .i64 x.m, .i .i64 x.d, .i .i64 x.p, .i .i64 x.o] = (l.set k x).map lnR := by rw [List.map_set]; rfl
theorem get_set {l : List Ln} {k : Nat} {x : Ln} (h : k < l.length) : (l.set k x)[k]! = x := by
  rw [getElem!_pos _ _ (by rw [List.length_set]; exact h), List.getElem_set_self]

set_option maxRecDepth 100000 in
theorem law8 {s : Stm} {d : D} (h : IsStm s d) (hr : Rng s) {df n : Int} (hdf : 0 ≤ df ∧ df ≤ 255) (hn : i64r n) : PRet VS 8 [d, .i .u8 df, .i .i64 n] (.b true) := by
  obtain ⟨⟨x, rfl, hx⟩⟩ := h
  have h : IsStm s (stD s x) := ⟨⟨x, rfl, hx⟩⟩
  refine .body (vf := v8) rfl rfl ?_
  have e15 := fun {H K} => c15 h hr (H := H) (K := K)
  simp only [stD] at e15
  simp only [go_sem, Nat.reduceAdd, Nat.reduceSub, Nat.reduceLeDiff, v8, stD, c12, hx.n, e15]
  refine ⟨fun h12 => trivial, fun h12 => ⟨fun hnr => trivial, fun hright => ?_⟩⟩
  have e19 := fun {H K} => c19 h (by omega) (H := H) (K := K)
  have e18 := fun {H K} => c18 (isStm_of s) (by omega) (H := H) (K := K)
  have hc1 : (lsD s.ls).cellsN 1 = some [lsD s.ls] := (lsD_sl s.ls).c1
  simp only [stD] at e18 e19
  have hmx : (max (s.ls.length : Int) 1) ≤ 1000000 := by omega
  have e20 := fun {H K} => c20 (x := n) (n := max (s.ls.length : Int) 1) hn hmx (H := H) (K := K)
  simp only [go_sem, Nat.reduceAdd, Nat.reduceLeDiff, Int.reduceEq, e19, e18, e20, hx.n]
  have hkb : 0 < s.ls.length → 0 ≤ pickN n (max (s.ls.length : Int) 1) ∧ pickN n (max (s.ls.length : Int) 1) < s.ls.length := fun hpos => by
    have := @pickN_b n (max (s.ls.length : Int) 1) (by omega)
    omega
  generalize pickN n (max (s.ls.length : Int) 1) = kk at hkb
  have hd8 : 0 ≤ df.tmod 8 ∧ df.tmod 8 < 8 := by rw [Int.tmod_eq_emod_of_nonneg hdf.1]; omega
  generalize df.tmod 8 = r at hd8
  have hs := hright.sums
  simp only [Bool.and_eq_true, nr_i] at hs
  obtain ⟨⟨⟨⟨⟨sb, sa⟩, sg⟩, st⟩, sn⟩, si⟩ := hs
  have hy := hright.y
  simp only [isY, Bool.and_eq_true, decide_eq_true_eq] at hy
  have h0 : s.ls.length ≤ 12 := by omega
  rcases (by omega : r = 0 ∨ r = 1 ∨ r = 2 ∨ r = 3 ∨ r = 4 ∨ r = 5 ∨ r = 6 ∨ r = 7) with rfl | rfl | rfl | rfl | rfl | rfl | rfl | rfl
  · obtain ⟨f1, f2⟩ := bad_end (s' := { s with b := s.b + 1 }) ⟨hr.ls⟩ (fun c => by have h1 := hright.aft; have h2 := c.aft; simp only at h2; omega)
    simp only [stD] at f1 f2
    simp (disch := omega) only [go_sem, Nat.reduceAdd, Int.reduceLT, Int.reduceEq, wr, f1, f2]
    exact ⟨fun _ => trivial, fun _ => trivial⟩
  · obtain ⟨f1, f2⟩ := bad_end (s' := { s with a := s.a - 1 }) ⟨hr.ls⟩ (fun c => by have h1 := hright.aft; have h2 := c.aft; simp only at h2; omega)
    simp only [stD] at f1 f2
    simp (disch := omega) only [go_sem, Nat.reduceAdd, Int.reduceLT, Int.reduceEq, wr, f1, f2]
    exact ⟨fun _ => trivial, fun _ => trivial⟩
  · obtain ⟨f1, f2⟩ := bad_end (s' := { s with n := s.n + 1 }) ⟨hr.ls⟩ (fun c => by have h1 := hright.net; have h2 := c.net; simp only at h2; omega)
    simp only [stD] at f1 f2
    simp (disch := omega) only [go_sem, Nat.reduceAdd, Int.reduceLT, Int.reduceEq, wr, f1, f2]
    exact ⟨fun _ => trivial, fun _ => trivial⟩
  · have e21 := fun {H K} => c21 (y := s.y) hn (H := H) (K := K)
    by_cases hl0 : s.ls.length = 0
    · obtain ⟨f1, f2⟩ := bad_end (s' := { s with y := 1899 }) ⟨hr.ls⟩ (fun c => by have h1 := c.y; simp [isY] at h1)
      have e0 : decide ((s.ls.length : Int) = 0) = true := decide_eq_true (by omega)
      simp only [stD] at f1 f2
      simp (disch := omega) only [go_sem, Nat.reduceAdd, Nat.reduceLeDiff, Int.reduceLT, Int.reduceEq, hx.n, wr, f1, f2, e21, e0]
      exact ⟨fun _ => trivial, fun _ => trivial⟩
    · have hne : elseY s.y n ≠ s.y ∧ elseY s.y n ≤ 2080 := by
        have := @pickN_b n 180 (by omega)
        unfold elseY
        split <;> omega
      obtain ⟨f1, f2⟩ := bad_end (s' := { s with y := elseY s.y n }) ⟨hr.ls⟩ (fun c => by
        have h1 := (c.lns.h 0 (by show 0 < s.ls.length; omega)).m1
        have h2 := (hright.lns.h 0 (by omega)).m1
        simp only at h1
        exact hne.1 (by rw [← h1, ← h2]))
      have e0 : decide ((s.ls.length : Int) = 0) = false := decide_eq_false (by omega)
      simp only [stD] at f1 f2
      simp (disch := omega) only [go_sem, Nat.reduceAdd, Nat.reduceLeDiff, Int.reduceLT, Int.reduceEq, hx.n, wr, f1, f2, e21, e0]
      exact ⟨fun _ => trivial, fun _ => trivial⟩
  · by_cases hl0 : s.ls.length = 0
    · simp (disch := omega) only [go_sem, Nat.reduceAdd, Nat.reduceLeDiff, Nat.reduceLT, Int.reduceLT, Int.reduceEq, lnR]
      exact ⟨fun _ => trivial, fun h => absurd (by omega) h⟩
    obtain ⟨k, rfl⟩ := Int.eq_ofNat_of_zero_le (hkb (by omega)).1
    have hk : k < s.ls.length := by have := (hkb (by omega)).2; omega
    have hok := hright.lns.h k hk
    have hdd := hok.d
    have hpp := nr_i.1 hok.p
    have hmb := hright.mb hk
    have hrk := hr.ls s.ls[k]! (by rw [getElem!_pos s.ls k hk]; exact List.getElem_mem _)
    obtain ⟨f1, f2⟩ := bad_end (s' := { s with ls := s.ls.set k { s.ls[k]! with d := s.ls[k]!.d + 1 } }) ⟨rng_set hr.ls hrk⟩ (fun c => by
      have h1 := (c.lns.h k (by rw [List.length_set]; exact hk)).e
      have h2 := hok.e
      simp only [get_set hk] at h1
      omega)
    have eD : bD [] .nil ((s.ls.set k { s.ls[k]! with d := s.ls[k]!.d + 1 }).map lnR) = bD [] .nil (s.ls.map lnR) := bD_cong (by simp)
    simp only [stD, eD] at f1 f2
    simp only [List.map_set, lnR] at f1 f2
    simp (disch := omega) only [go_sem, Nat.reduceAdd, Nat.reduceLeDiff, Nat.reduceLT, Int.reduceLT, Int.reduceEq, wr, lnR, f1, f2]
    exact ⟨fun _ => trivial, fun _ => ⟨⟨by omega, by omega⟩, hk, ⟨by omega, by omega⟩, hk⟩⟩
  · by_cases hl0 : s.ls.length = 0
    · simp (disch := omega) only [go_sem, Nat.reduceAdd, Nat.reduceLeDiff, Nat.reduceLT, Int.reduceLT, Int.reduceEq, lnR]
      exact ⟨fun _ => trivial, fun h => absurd (by omega) h⟩
    obtain ⟨k, rfl⟩ := Int.eq_ofNat_of_zero_le (hkb (by omega)).1
    have hk : k < s.ls.length := by have := (hkb (by omega)).2; omega
    have hok := hright.lns.h k hk
    have hdd := hok.d
    have hpp := nr_i.1 hok.p
    have hmb := hright.mb hk
    have hrk := hr.ls s.ls[k]! (by rw [getElem!_pos s.ls k hk]; exact List.getElem_mem _)
    obtain ⟨f1, f2⟩ := bad_end (s' := { s with ls := s.ls.set k { s.ls[k]! with p := s.ls[k]!.p + 1 } }) ⟨rng_set hr.ls hrk⟩ (fun c => by
      have h1 := (c.lns.h k (by rw [List.length_set]; exact hk)).e
      have h2 := hok.e
      simp only [get_set hk] at h1
      omega)
    have eD : bD [] .nil ((s.ls.set k { s.ls[k]! with p := s.ls[k]!.p + 1 }).map lnR) = bD [] .nil (s.ls.map lnR) := bD_cong (by simp)
    simp only [stD, eD] at f1 f2
    simp only [List.map_set, lnR] at f1 f2
    simp (disch := omega) only [go_sem, Nat.reduceAdd, Nat.reduceLeDiff, Nat.reduceLT, Int.reduceLT, Int.reduceEq, wr, lnR, f1, f2]
    exact ⟨fun _ => trivial, fun _ => ⟨⟨by omega, by omega⟩, hk, ⟨by omega, by omega⟩, hk⟩⟩
  · by_cases hl0 : s.ls.length = 0
    · simp (disch := omega) only [go_sem, Nat.reduceAdd, Nat.reduceLeDiff, Nat.reduceLT, Int.reduceLT, Int.reduceEq, lnR]
      exact ⟨fun _ => trivial, fun h => absurd (by omega) h⟩
    obtain ⟨k, rfl⟩ := Int.eq_ofNat_of_zero_le (hkb (by omega)).1
    have hk : k < s.ls.length := by have := (hkb (by omega)).2; omega
    have hok := hright.lns.h k hk
    have hdd := hok.d
    have hpp := nr_i.1 hok.p
    have hmb := hright.mb hk
    have hrk := hr.ls s.ls[k]! (by rw [getElem!_pos s.ls k hk]; exact List.getElem_mem _)
    obtain ⟨f1, f2⟩ := bad_end (s' := { s with ls := s.ls.set k { s.ls[k]! with m := s.ls[k]!.m + 12 } }) ⟨rng_set hr.ls ⟨by simp only; omega, by simp only; omega⟩⟩ (fun c => by
      have h1 := (c.lns.h k (by rw [List.length_set]; exact hk)).m1
      have h2 := hok.m1
      simp only [get_set hk, yOf] at h1
      rw [yOf] at h2
      rw [Int.tdiv_eq_ediv_of_nonneg (by omega)] at h1 h2
      omega)
    have eD : bD [] .nil ((s.ls.set k { s.ls[k]! with m := s.ls[k]!.m + 12 }).map lnR) = bD [] .nil (s.ls.map lnR) := bD_cong (by simp)
    simp only [stD, eD] at f1 f2
    simp only [List.map_set, lnR] at f1 f2
    simp (disch := omega) only [go_sem, Nat.reduceAdd, Nat.reduceLeDiff, Nat.reduceLT, Int.reduceLT, Int.reduceEq, wr, lnR, f1, f2]
    exact ⟨fun _ => trivial, fun _ => ⟨⟨by omega, by omega⟩, hk, ⟨by omega, by omega⟩, hk⟩⟩
  · by_cases hl0 : s.ls.length = 0
    · simp (disch := omega) only [go_sem, Nat.reduceAdd, Nat.reduceLeDiff, Nat.reduceLT, Int.reduceLT, Int.reduceEq, lnR]
      exact ⟨fun _ => trivial, fun h => absurd (by omega) h⟩
    obtain ⟨k, rfl⟩ := Int.eq_ofNat_of_zero_le (hkb (by omega)).1
    have hk : k < s.ls.length := by have := (hkb (by omega)).2; omega
    have hok := hright.lns.h k hk
    have hdd := hok.d
    have hpp := nr_i.1 hok.p
    have hmb := hright.mb hk
    have hrk := hr.ls s.ls[k]! (by rw [getElem!_pos s.ls k hk]; exact List.getElem_mem _)
    obtain ⟨f1, f2⟩ := bad_end (s' := { s with ls := s.ls ++ [s.ls[k]!] }) ⟨fun y hy => by
      rcases List.mem_append.1 hy with h' | h'
      · exact hr.ls y h'
      · rw [List.mem_singleton.1 h']; exact hrk⟩ (fun c => by
      have hlen : (s.ls ++ [s.ls[k]!]).length = s.ls.length + 1 := by simp
      have h1 := (c.lns.h s.ls.length (by rw [hlen]; omega)).m2 (by omega)
      have e1 : (s.ls ++ [s.ls[k]!])[s.ls.length]! = s.ls[k]! := by rw [getElem!_pos _ _ (by rw [hlen]; omega)]; simp
      have e2 : (s.ls ++ [s.ls[k]!])[s.ls.length - 1]! = s.ls[s.ls.length - 1]! := by
        have hlt : s.ls.length - 1 < (s.ls ++ [s.ls[k]!]).length := by rw [hlen]; omega
        rw [getElem!_pos _ (s.ls.length - 1) hlt, getElem!_pos s.ls (s.ls.length - 1) (by omega)]
        exact List.getElem_append_left (by omega)
      simp only [e1, e2] at h1
      rw [hright.mon k hk, hright.mon (s.ls.length - 1) (by omega)] at h1
      omega)
    simp only [stD] at f1 f2
    simp (disch := omega) only [go_sem, Nat.reduceAdd, Nat.reduceLeDiff, Nat.reduceLT, Int.reduceLT, Int.reduceEq, wr, lnR, app_n, snoc_ln, f1, f2]
    exact ⟨fun _ => trivial, fun _ => ⟨⟨by omega, by omega⟩, by omega, hk⟩⟩
end Go.Proofs.YtnhbopeopppojaaDoor.Dv
