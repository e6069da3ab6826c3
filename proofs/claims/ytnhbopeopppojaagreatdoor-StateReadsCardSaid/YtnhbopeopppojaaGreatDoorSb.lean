/-
  Layer 39 over the machine: a line of words; a month.
-/
import Derived.Test.YtnhbopeopppojaaGreatDoorSa
import Derived.Lib.ItoaLen
namespace Go.Proofs.YtnhbopeopppojaaGreatDoor.Dv
open Go.Dm Go.Proofs

theorem PRet.pext {V : VProg} {f : FuncId} {vf : VFunc} {ds : List D} {d : D} (hf : V.fn f = some vf) (hx : V.pext f ds = some d) : PRet V f ds d := ⟨1, by simp only [pcall, hf, pureR, hx]⟩
def i64r (n : Int) : Prop := -9223372036854775808 ≤ n ∧ n ≤ 9223372036854775807
theorem itoa74D (n : Int) (h : i64r n) : PRet VS 70 [.i .i64 n] (.s (Lib.itoa n)) :=
  PRet.pext (vf := v70) rfl (by show (if -9223372036854775808 ≤ n ∧ n ≤ 9223372036854775807 then some (D.s (Lib.itoa n)) else none) = _; exact if_pos h)
theorem c74 {n : Int} (h : i64r n) {H : Heap} {K : CR → Prop} : CallQ VS 70 [.i .i64 n] H K ↔ K (.ret (.s (Lib.itoa n)) H) :=
  (itoa74D n h).c (vf := v70) rfl rfl rfl (.inl rfl)

/-- A word: text or a number. -/
inductive Wd where
  | s (l : List UInt8)
  | i (n : Int)
  deriving Inhabited
def wdR : Wd → List D
  | .s l => [.ifc 9 (.s l)]
  | .i n => [.ifc 3 (.i .i64 n)]
def wdT : Wd → List UInt8
  | .s l => l
  | .i n => Lib.itoa n
def wdOk : Wd → Prop
  | .s l => l.length ≤ 1000
  | .i n => i64r n
def seS (s : List UInt8) : List D := [.s s]
theorem wdT_len {w : Wd} (h : wdOk w) : (wdT w).length ≤ 1000 := by
  cases w with
  | s l => exact h
  | i n => exact Nat.le_trans (Lib.itoa_length_le n h.1 h.2) (by omega)
structure WTo (ws : List Wd) (l : List (List UInt8)) (i : Nat) : Prop where
  n : l.length = ws.length
  h : ∀ k, k < i → l[k]! = wdT ws[k]!
theorem WTo.end {ws : List Wd} {l : List (List UInt8)} (h : WTo ws l ws.length) : l = ws.map wdT := by
  refine List.ext_getElem (by rw [List.length_map, h.n]) fun k h1 h2 => ?_
  have hk : k < ws.length := by rw [← h.n]; exact h1
  have := h.h k hk
  rw [getElem!_pos l k h1, getElem!_pos ws k hk] at this
  rw [this, List.getElem_map]
theorem WTo.step {ws : List Wd} {l : List (List UInt8)} {i : Nat} (h : WTo ws l i) (hi : i < ws.length) : WTo ws (l.set i (wdT ws[i]!)) (i + 1) := by
  have hil : i < l.length := by rw [h.n]; exact hi
  refine ⟨by rw [List.length_set, h.n], fun k hk => ?_⟩
  by_cases e : k = i
  · subst e; rw [getElem!_pos _ _ (by rw [List.length_set]; exact hil), List.getElem_set_self]
  · have hkl : k < l.length := by omega
    rw [getElem!_pos _ _ (by rw [List.length_set]; exact hkl), List.getElem_set_ne (fun x => e x.symm), ← getElem!_pos l k hkl]
    exact h.h k (by omega)
theorem rep_s {n : Nat} : List.replicate n [D.s []] = (List.replicate n []).map seS := by simp [seS]
theorem set_s {l : List (List UInt8)} {i : Nat} {b : List UInt8} : (l.map seS).set i [.s b] = (l.set i b).map seS := by rw [List.map_set]; rfl
def lineT (ws : List Wd) : List UInt8 := Lib.join (ws.map wdT) [32] ++ [10]
theorem lens_le : ∀ {l : List (List UInt8)} {n : Nat}, (∀ x ∈ l, x.length ≤ n) → Lib.lens l ≤ l.length * n
  | [], _, _ => by simp [Lib.lens]
  | x :: l, n, h => by
    have := lens_le (l := l) (n := n) fun y hy => h y (List.mem_cons_of_mem _ hy)
    have hx := h x List.mem_cons_self
    simp only [Lib.lens, List.map_cons, List.sum_cons, List.length_cons, Nat.add_mul, Nat.one_mul] at *
    omega
theorem join_le {ws : List Wd} (hne : ws ≠ []) (hok : ∀ w ∈ ws, wdOk w) : (Lib.join (ws.map wdT) [32]).length ≤ ws.length * 1001 := by
  cases ws with
  | nil => exact absurd rfl hne
  | cons w ws =>
    have h := lens_le (l := (w :: ws).map wdT) (n := 1000) fun x hx => by
      obtain ⟨y, hy, rfl⟩ := List.mem_map.1 hx
      exact wdT_len (hok y hy)
    rw [List.map_cons, Lib.join_length]
    simp only [List.length_map, List.length_cons, List.length_nil, List.map_cons] at *
    omega
theorem join75D {l : List (List UInt8)} (hne : l ≠ []) (h1 : l.length ≤ 140737488355328) (h2 : (Lib.join l [32]).length ≤ 140737488355328) : PRet VS 71 [.im 1 (l.map seS), .s [32]] (.s (Lib.join l [32])) := by
  refine PRet.pext (vf := v71) rfl ?_
  show joinD [32] (strsOf (l.map strRow)) = _
  rw [strsOf_map]
  cases l with
  | nil => exact absurd rfl hne
  | cons x l => simp only [joinD]; rw [if_pos ⟨h1, h2⟩]

theorem line35 {ws : List Wd} {d : D} (h : Sl 1 (ws.map wdR) d) (hne : ws ≠ []) (hl : ws.length ≤ 1000) (hok : ∀ w ∈ ws, wdOk w) : PRet VS 38 [d] (.s (lineT ws)) := by
  refine .body (vf := v38) rfl rfl ?_
  simp (disch := omega) only [go_sem, Nat.reduceSub, v38, h.n, rep_s]
  refine ⟨by omega, Run.up (fun i st => ∃ l a2 a3 a4 a8 a9 a10 a12 a13 a14 a15, WTo ws l i ∧ st = ⟨[d, .s [], a2, a3, a4, .i .i64 i, .i .i64 ws.length, d, a8, a9, a10, .mu 0 ws.length 0 ws.length, a12, a13, a14, a15], [.ar 1 (l.map seS) (some ws.length) true false]⟩) ws.length ⟨List.replicate ws.length [], .u, .u, .u, .u, .u, .u, .u, .u, .u, .u, ⟨List.length_replicate, fun k hk => by omega⟩, rfl⟩ ?_⟩
  rintro i st hi ⟨l, a2, a3, a4, a8, a9, a10, a12, a13, a14, a15, hv, rfl⟩
  have hll := hv.n
  by_cases hlt : i < ws.length
  · have hlt' : decide ((i : Int) < (ws.length : Int)) = true := by simpa using hlt
    have hst := hv.step hlt
    have hw := hok ws[i]! (by rw [getElem!_pos ws i hlt]; exact List.getElem_mem _)
    cases hwi : ws[i]! with
    | s t =>
      rw [hwi] at hst hw
      simp (disch := omega) only [go_sem, v38l0, h.q, hwi, wdR, wr, hlt', hll, set_s, seS]
      exact ⟨⟨by omega, by omega⟩, ⟨by omega, by omega⟩, hlt, hlt, _, hst, rfl⟩
    | i n =>
      rw [hwi] at hst hw
      simp (disch := omega) only [go_sem, Nat.reduceEqDiff, v38l0, h.q, hwi, wdR, wr, hlt', hll, set_s, c74 (n := n) hw, seS]
      exact ⟨⟨by omega, by omega⟩, ⟨by omega, by omega⟩, hlt, hlt, _, hst, rfl⟩
  · have hlt' : decide ((i : Int) < (ws.length : Int)) = false := by simpa using hlt
    have : i = ws.length := by omega
    subst this
    have hle := hv.end
    have hj : (Lib.join l [32]).length ≤ ws.length * 1001 := by rw [hle]; exact join_le hne hok
    have hne' : l ≠ [] := fun e => hne (List.length_eq_zero_iff.1 (by rw [← hll, e]; rfl))
    have ht : (l.map seS).take ws.length = l.map seS := List.take_of_length_le (by rw [List.length_map, hll]; exact Nat.le_refl _)
    simp (disch := omega) only [go_sem, v38l0, hlt']
    rw [CallQ_p (vf := v71) (ds := [.im 1 (l.map seS), .s [32]]) (H1 := [.ar 1 (l.map seS) (some ws.length) true true]) rfl rfl (join75D hne' (by omega) (by omega)) (by simp only [go_sem, Nat.reduceAdd, hll, ht])]
    simp only [go_sem, Nat.reduceLeDiff, v71]
    refine ⟨by omega, ?_⟩
    rw [lineT, ← hle]

/-! ### A month -/
def pad2 (l : List UInt8) : List UInt8 := if l.length < 2 then 48 :: l else l
def monT (m : Int) : List UInt8 := Lib.itoa (yOf m) ++ [45] ++ pad2 (Lib.itoa (m % 12 + 1))
theorem month36 (m : Int) (h : 0 ≤ m ∧ m ≤ 9223372036854775807) : PRet VS 39 [.i .i64 m] (.s (monT m)) := by
  refine .body (vf := v39) rfl rfl ?_
  have e : m.tmod 12 = m % 12 := Int.tmod_eq_emod_of_nonneg h.1
  have hy : i64r (yOf m) := by
    rw [yOf, Int.tdiv_eq_ediv_of_nonneg h.1]
    exact ⟨by omega, by omega⟩
  have h1 : i64r (m % 12 + 1) := ⟨by omega, by omega⟩
  have l1 := Lib.itoa_length_le _ hy.1 hy.2
  have l2 := Lib.itoa_length_le _ h1.1 h1.2
  simp (disch := omega) only [go_sem, Nat.reduceSub, Nat.reduceLeDiff, Int.reduceEq, v39, e, wr, c74 h1, c40 h, c74 hy, monT, pad2]
  refine ⟨fun hl => ⟨by omega, by omega, by omega, ?_⟩, fun hl => ⟨by omega, by omega, ?_⟩⟩
  · rw [if_pos (by omega)]
  · rw [if_neg (by omega)]
end Go.Proofs.YtnhbopeopppojaaGreatDoor.Dv
