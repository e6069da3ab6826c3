/-
  Layer 39 over the machine: read, Read.
-/
import Derived.Test.YtnhbopeopppojaaGreatDoorSe
namespace Go.Proofs.YtnhbopeopppojaaGreatDoor.Dv
open Go.Dm Go.Proofs

def zS : Stm := ⟨0, 0, 0, [], 0, 0, 0, 0⟩
def lsD (l : List Ln) : D := imD .nil 4 (l.map lnR)
theorem lsD_sl (l : List Ln) : Sl 4 (l.map lnR) (lsD l) := imD_sl rfl _ _
/-- What is read: the statement, and whether the text was one. -/
def readP (q : Option Stm × List UInt8) : Stm × Bool := match q with
  | (some s, r) => (s, decide (r = []))
  | (none, _) => (zS, false)
def bHl (H0 : Heap) (w : Nat) (rows : List (List D)) : Heap :=
  match rows with
  | [] => H0
  | _ :: _ => H0 ++ [.ar w rows none true true]
theorem lD_fz {A B C : Blk} {m : Nat} {l : List Ln} : Dm.freeze (m + 1) (bH [A, B, C] 4 (l.map lnR)) (lD l) = some (lsD l, bHl [A, B, C] 4 (l.map lnR)) := by
  cases l with
  | nil => rfl
  | cons x l => simp [lD, bD, bH, lsD, imD, bHl, fz_mu, arr, fzM, List.take_of_length_le]
@[go_sem] theorem bH_g0' {a : Blk} {H0 : Heap} {w : Nat} {rows : List (List D)} : (bH (a :: H0) w rows)[0]? = some a := by cases rows <;> rfl
@[go_sem] theorem bH_set0 {a x : Blk} {H0 : Heap} {w : Nat} {rows : List (List D)} : (bH (a :: H0) w rows).set 0 x = bH (x :: H0) w rows := by cases rows <;> rfl
@[go_sem] theorem bH_set1 {a b x : Blk} {H0 : Heap} {w : Nat} {rows : List (List D)} : (bH (a :: b :: H0) w rows).set 1 x = bH (a :: x :: H0) w rows := by cases rows <;> rfl
theorem bH_len {A B C : Blk} {w : Nat} {rows : List (List D)} : 3 ≤ (bH [A, B, C] w rows).length := by cases rows <;> simp [bH]
theorem un_ids {n a o : Nat} {ids : List Nat} : D.under (n, ids) (.hp a o) = (decide (a < n) && !ids.contains a) := rfl
theorem ov_ids {n a o : Nat} {ids : List Nat} : D.over (n, ids) (.hp a o) = (decide (n ≤ a) || ids.contains a) := rfl
theorem lD_un {b : Bs} : ∀ {l : List Ln}, (lD l) ≠ .nil → True := fun _ => trivial

def rsHB (agg : Bool) : Option (List D) → Option D
  | some cs => val agg cs
  | none => none
def rsH (H : Heap) (n : Nat) (agg : Bool) : Option D → Option D
  | some d => rsHB agg (ldAt H d n)
  | none => none
@[go_sem] theorem rs_hb {sl : List D} {H : Heap} {k n : Nat} {agg : Bool} : RSpec.ev ⟨sl, H⟩ (.hb k n agg) = rsH H n agg sl[k]? := by
  simp only [RSpec.ev, rsH]
  cases sl[k]? with
  | none => rfl
  | some d => simp only [rsHB]; cases ldAt H d n <;> rfl
@[go_sem] theorem rsH_s {H : Heap} {n : Nat} {agg : Bool} {d : D} : rsH H n agg (some d) = rsHB agg (ldAt H d n) := rfl
@[go_sem] theorem rsHB_s {agg : Bool} {cs : List D} : rsHB agg (some cs) = val agg cs := rfl
theorem read43 {t : List UInt8} (hl : t.length ≤ 1000000) : PRet VS 19 [.s t] (.tu [stD (readP (stF t)).1 (lsD (readP (stF t)).1.ls), .b (readP (stF t)).2]) := by
  refine PRet.iff_q.2 (.dfr (vf := v19) (q := v19d) rfl rfl rfl ?_)
  simp only [go_sem, Nat.reduceAdd, Nat.reduceSub, v19, v19d]
  refine ⟨rfl, ?_⟩
  have h77 := st77 (A := .hb 28 [.i .i64 0, .i .i64 0, .i .i64 0, .nil, .i .i64 0, .i .i64 0, .i .i64 0, .i .i64 0]) (B := .hb 4 [.b false]) hl
  refine CallQ.mono h77 ?_
  intro c hc
  rcases hs : stF t with ⟨_ | s, r⟩
  · rw [hs] at hc
    obtain ⟨rows, r', rfl⟩ := hc
    simp only [go_sem, Nat.reduceAdd, Nat.reduceSub, reduceCtorEq, readP, errF, LeaveQ]
    exact ⟨fun _ => ⟨.inl trivial, Nat.zero_le _, rfl⟩, fun _ => ⟨.inl trivial, Nat.zero_le _, rfl⟩⟩
  · rw [hs] at hc
    obtain rfl : c = _ := hc
    have hlen := @bH_len
    have e2 : ∀ {a b c : Blk} {w : Nat} {rows : List (List D)}, decide (2 < (bH [a, b, c] w rows).length) = true := fun {a b c w rows} => decide_eq_true (by have := @bH_len a b c w rows; omega)
    simp only [go_sem, Nat.reduceAdd, Nat.reduceSub, reduceCtorEq, readP, stD, ownIds, D.blk, un_ids, ov_ids, LeaveQ, e2, List.contains_cons, List.contains_nil, Bool.or_false, Bool.or_true, lD_fz]
    exact ⟨rfl, by simp, fun h => (by cases h), fun _ => ⟨.inl trivial, Nat.zero_le _⟩⟩

theorem isStm_of (s : Stm) : IsStm s (stD s (lsD s.ls)) := ⟨_, rfl, lsD_sl s.ls⟩
theorem c43 {t : List UInt8} (hl : t.length ≤ 1000000) {H : Heap} {K : CR → Prop} : CallQ VS 19 [.s t] H K ↔ K (.ret (.tu [stD (readP (stF t)).1 (lsD (readP (stF t)).1.ls), .b (readP (stF t)).2]) H) :=
  CallQ_p (vf := v19) rfl rfl (read43 hl) (by simp only [go_sem, Nat.reduceAdd])

/-! ### What is read is in range -/
theorem monF_b {r r' : List UInt8} {m : Int} (h : monF r = (some m, r')) : 0 ≤ m ∧ m ≤ 100000 := by
  unfold monF at h
  rcases h1 : numF [] r with ⟨_ | y, r1⟩
  · rw [h1] at h; cases h
  · rw [h1] at h
    simp only [thn] at h
    rcases h2 : numF [45] r1 with ⟨_ | k, r2⟩
    · rw [h2] at h; cases h
    · rw [h2] at h
      simp only at h
      split at h
      · rename_i hc
        obtain ⟨hy, h3, h4⟩ := hc
        simp only [isY, Bool.and_eq_true, decide_eq_true_eq] at hy
        simp only [Prod.mk.injEq, Option.some.injEq] at h
        omega
      · cases h
theorem lnF_b {r r' : List UInt8} {x : Ln} (h : lnF r = (some x, r')) : 0 ≤ x.m ∧ x.m ≤ 100000 := by
  unfold lnF at h
  rcases h1 : monF r with ⟨_ | m, r1⟩
  · rw [h1] at h; cases h
  · rw [h1] at h
    simp only [thn] at h
    rcases h2 : numF kD r1 with ⟨_ | d, r2⟩
    · rw [h2] at h; cases h
    rw [h2] at h
    simp only at h
    rcases h3 : numF kP r2 with ⟨_ | p, r3⟩
    · rw [h3] at h; cases h
    rw [h3] at h
    simp only at h
    rcases h4 : numF kO r3 with ⟨_ | o, r4⟩
    · rw [h4] at h; cases h
    rw [h4] at h
    simp only [Prod.mk.injEq, Option.some.injEq] at h
    rw [← h.1]
    exact monF_b h1
theorem msF_b : ∀ (n : Nat) (acc : List Ln) (r : List UInt8) {l : List Ln} {r' : List UInt8}, (∀ x ∈ acc, 0 ≤ x.m ∧ x.m ≤ 100000) → msF n acc r = (some l, r') → ∀ x ∈ l, 0 ≤ x.m ∧ x.m ≤ 100000
  | 0, acc, r, l, r', ha, h => by
    unfold msF at h
    split at h
    · cases h
    · cases h; exact ha
  | n + 1, acc, r, l, r', ha, h => by
    unfold msF at h
    split at h
    · split at h
      · rename_i x q hx
        refine msF_b n (acc ++ [x]) q (fun z hz => ?_) h
        rcases List.mem_append.1 hz with hz | hz
        · exact ha z hz
        · rw [List.mem_singleton.1 hz]; exact lnF_b hx
      · cases h
    · cases h; exact ha
theorem stF_b {r r' : List UInt8} {s : Stm} (h : stF r = (some s, r')) : Rng s := by
  unfold stF at h
  rcases h1 : numF kS r with ⟨_ | y, r1⟩
  · rw [h1] at h; cases h
  rw [h1, thn_s] at h
  rcases h2 : numF kB r1 with ⟨_ | b, r2⟩
  · rw [h2] at h; cases h
  rw [h2, thn_s] at h
  rcases h3 : msF 12 [] r2 with ⟨_ | ls, r3⟩
  · rw [h3] at h; cases h
  rw [h3] at h
  simp only at h
  have hb := msF_b 12 [] r2 (fun x hx => by cases hx) h3
  have : s.ls = ls := by
    rcases q1 : numF kG r3 with ⟨_ | g, r4⟩
    · rw [q1] at h; cases h
    rw [q1, thn_s] at h
    rcases q2 : numF kT r4 with ⟨_ | t, r5⟩
    · rw [q2] at h; cases h
    rw [q2, thn_s] at h
    rcases q3 : numF kN r5 with ⟨_ | n, r6⟩
    · rw [q3] at h; cases h
    rw [q3, thn_s] at h
    rcases q4 : numF kI r6 with ⟨_ | i, r7⟩
    · rw [q4] at h; cases h
    rw [q4, thn_s] at h
    rcases q5 : numF kA r7 with ⟨_ | a, r8⟩
    · rw [q5] at h; cases h
    rw [q5, thn_s] at h
    rcases q6 : wantF [10] r8 with ⟨_ | z, r9⟩
    · rw [q6] at h; cases h
    rw [q6, thn_s] at h
    cases h
    rfl
  exact ⟨fun x hx => by rw [this] at hx; have := hb x hx; omega⟩
theorem readP_b (t : List UInt8) : Rng (readP (stF t)).1 := by
  rcases h : stF t with ⟨_ | s, r⟩
  · exact ⟨fun x hx => by cases hx⟩
  · exact stF_b h

/-! ### Read -/
/-- The statement with a text. -/
noncomputable def readS (t : List UInt8) : Option Stm := if (readP (stF t)).2 = true ∧ RightS (readP (stF t)).1 ∧ textT (readP (stF t)).1 = t then some (readP (stF t)).1 else none
noncomputable instance : DecidablePred (fun t => (readP (stF t)).2 = true ∧ RightS (readP (stF t)).1 ∧ textT (readP (stF t)).1 = t) := fun _ => Classical.propDecidable _
def RdS (t : List UInt8) (d : D) : Prop := match readS t with
  | some s => d = .tu [stD s (lsD s.ls), .i .i64 0]
  | none => d = .tu [stD zS .nil, .i .i64 390]
theorem read16 {t : List UInt8} (hl : t.length ≤ 1000000) : PurQ VS 10 [.s t] fun r => ∃ d, r = .ret d ∧ RdS t d := by
  refine .body (vf := v10) rfl rfl ?_
  generalize hs : (readP (stF t)).1 = s
  have hb := readP_b t
  rw [hs] at hb
  have c14 : ∀ {H : Heap} {K : CR → Prop}, CallQ VS 16 [stD s (lsD s.ls)] H K ↔ K (.ret (.tu [.s (if RightS s then textT s else []), .i .i64 (if RightS s then 0 else 2)]) H) :=
    fun {H K} => CallQ_p (vf := v16) (H1 := H) rfl rfl (text14 (isStm_of s) hb) (plain_freezeL (fun d hd => by rw [List.mem_singleton.1 hd]; exact (isStm_of s).plain))
  have hc1 : (lsD s.ls).cellsN 1 = some [lsD s.ls] := (lsD_sl s.ls).c1
  simp only [stD] at c14
  have hfz := fun H => fz_flat (H := H) (m := 8) (lsD_sl s.ls).flat
  have no : ¬ ((readP (stF t)).2 = true ∧ RightS s ∧ textT s = t) → RdS t (.tu [.ag [.i .i64 0, .i .i64 0, .i .i64 0, .nil, .i .i64 0, .i .i64 0, .i .i64 0, .i .i64 0], .i .i64 390]) := fun h => by
    have : readS t = none := by unfold readS; rw [hs, if_neg h]
    simp only [RdS, this]
    rfl
  simp only [go_sem, Nat.reduceAdd, Nat.reduceSub, v10, c43 hl, hs, stD, c14, hfz]
  refine ⟨fun h => no fun c => (by rw [c.1] at h; cases h), fun h => ⟨fun h1 => no fun c => h1 (if_pos c.2.1), fun h1 => ⟨fun h2 => no fun c => h2 (by rw [if_pos c.2.1]; exact c.2.2), fun h2 => ?_⟩⟩⟩
  have hr : RightS s := by
    by_cases hr : RightS s
    · exact hr
    · rw [if_neg hr] at h1; cases h1
  rw [if_pos hr] at h2
  have : readS t = some s := by unfold readS; rw [hs, if_pos ⟨h, hr, h2⟩]
  simp only [RdS, this]
  rfl
end Go.Proofs.YtnhbopeopppojaaGreatDoor.Dv
