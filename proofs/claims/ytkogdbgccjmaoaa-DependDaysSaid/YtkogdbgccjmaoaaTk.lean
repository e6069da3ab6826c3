/-
  Plain arguments of the laws on what was examined.
-/
import Derived.Test.YtkogdbgccjmaoaaTi
import Derived.Test.YtkogdbgccjmaoaaDf
namespace Go.Proofs.Ytkogdbgccjmaoaa.Dv
open Go.Dm
variable {env : Tenv}

theorem rows_p : ∀ {rows : List (List D)}, (∀ r ∈ rows, HasTs env [.s, .i .i64] r) → ∃ ps : List (List UInt8 × Int), rows = ps.map seP
  | [], _ => ⟨[], rfl⟩
  | r :: rows, h => by
    obtain ⟨ps, e⟩ := rows_p (fun r hr => h r (List.mem_cons_of_mem _ hr))
    cases h r List.mem_cons_self with | cons h1 h2 => cases h2 with | cons h3 h4 =>
    cases h1; cases h3; cases h4
    exact ⟨(_, _) :: ps, by rw [e]; rfl⟩
theorem rows_f : ∀ {rows : List (List D)}, (∀ r ∈ rows, HasTs env [.s, .i .i64, .i .i64] r) → ∃ ps : List (List UInt8 × Int × Int), rows = ps.map seR
  | [], _ => ⟨[], rfl⟩
  | r :: rows, h => by
    obtain ⟨ps, e⟩ := rows_f (fun r hr => h r (List.mem_cons_of_mem _ hr))
    cases h r List.mem_cons_self with | cons h1 h2 => cases h2 with | cons h3 h4 => cases h4 with | cons h5 h6 =>
    cases h1; cases h3; cases h5; cases h6
    exact ⟨(_, _, _) :: ps, by rw [e]; rfl⟩
theorem rows_t : ∀ {rows : List (List D)}, (∀ r ∈ rows, HasTs env [.s] r) → ∃ ps : List (List UInt8), rows = ps.map seS
  | [], _ => ⟨[], rfl⟩
  | r :: rows, h => by
    obtain ⟨ps, e⟩ := rows_t (fun r hr => h r (List.mem_cons_of_mem _ hr))
    cases h r List.mem_cons_self with | cons h1 h2 =>
    cases h1; cases h2
    exact ⟨_ :: ps, by rw [e]; rfl⟩
theorem sl_of {b : Nat} {ts : List T} {d : D} (h : HasT env (.sl b ts) d) : ∃ rows, (∀ r ∈ rows, HasTs env ts r) ∧ Sl ts.length rows d ∧ rows.length * b ≤ 140737488355328 := by
  cases h with
  | nil => exact ⟨[], fun r hr => (by cases hr), .nil rfl, by simp⟩
  | z => exact ⟨[], fun r hr => (by cases hr), .z rfl, by simp⟩
  | sl _ _ rows h hr => exact ⟨rows, hr, .im, by have := h.2; unfold reachBytes at this; omega⟩

def rdT : List T := [.sl 24 [.s, .i .i64], .sl 32 [.s, .i .i64, .i .i64], .sl 16 [.s]]
theorem is_rd {d : D} (h : HasP env (true, rdT) d) : ∃ r, IsRd r d ∧ r.f.length ≤ 4398046511104 := by
  cases h with
  | ag _ ds h => cases h with | cons h1 h => cases h with | cons h2 h => cases h with | cons h3 h =>
    cases h
    obtain ⟨r1, a1, b1, c1⟩ := sl_of h1
    obtain ⟨r2, a2, b2, c2⟩ := sl_of h2
    obtain ⟨r3, a3, b3, c3⟩ := sl_of h3
    obtain ⟨p, rfl⟩ := rows_p a1
    obtain ⟨f, rfl⟩ := rows_f a2
    obtain ⟨t, rfl⟩ := rows_t a3
    simp only [List.length_map] at c2
    exact ⟨⟨p, f, t⟩, ⟨_, _, _, rfl, b1, b2, b3⟩, by dsimp only; omega⟩
theorem HasTs.len : ∀ {ts : List T} {ds : List D}, HasTs env ts ds → ds.length = ts.length
  | _, _, .nil => rfl
  | _, _, .cons _ hs => by simp [HasTs.len hs]
theorem HasTs.all {ts : List T} {ds : List D} (h : HasTs env ts ds) : ds.all D.flat = true := List.all_eq_true.2 h.flat

def numT : List T := [.b, .sl 2 [.i .u16], .b, .sl 2 [.i .u16]]
def factT : List T := [.s, .i .i64, .i .i64, .i .i64, .b, .i .u8] ++ (numT ++ [.i .i64])
theorem is_fact {d : D} (h : HasP env (true, factT) d) : ∃ key fr to kn c4 c5 c6 c7 c8 c9 c10, d = .ag (factD key fr to kn c4 c5 c6 c7 c8 c9 c10) ∧ ([c4, c5, c6, c7, c8, c9, c10] : List D).all D.flat = true := by
  cases h with
  | ag _ ds h =>
    cases h with | cons h0 h => cases h with | cons h1 h => cases h with | cons h2 h => cases h with | cons h3 h =>
    have hf := HasTs.all h
    revert hf
    cases h with | cons h4 h => cases h with | cons h5 h => cases h with | cons h6 h =>
    cases h with | cons h7 h => cases h with | cons h8 h => cases h with | cons h9 h => cases h with | cons h10 h =>
    cases h; cases h0; cases h1; cases h2; cases h3
    intro hf
    exact ⟨_, _, _, _, _, _, _, _, _, _, _, rfl, hf⟩

def exprT : List T := [.i .u8, .s, .i .u8] ++ (numT ++ [.i .i64, .rc 128 38])
def clauseT : List T := [.s, .s, .i .i64, .i .i64, .i .i64, .b] ++ (exprT ++ exprT)
theorem is_clause {d : D} (h : HasP env (true, clauseT) d) : ∃ nm lb fr to kn cs, d = .ag (clauseD nm lb fr to kn cs) ∧ cs.length = 19 ∧ cs.all D.flat = true := by
  cases h with
  | ag _ ds h =>
    cases h with | cons h0 h => cases h with | cons h1 h => cases h with | cons h2 h => cases h with | cons h3 h => cases h with | cons h4 h =>
    cases h0; cases h1; cases h2; cases h3; cases h4
    exact ⟨_, _, _, _, _, _, rfl, HasTs.len h, HasTs.all h⟩

def rowT : List T := [.i .i64, .i .i64, .i .i64] ++ numT
theorem is_row {d : D} (h : HasP env (true, rowT) d) : ∃ a0 a1 kx xs, d = .ag (a0 :: a1 :: .i .i64 kx :: xs) ∧ a0.flat = true ∧ a1.flat = true ∧ xs.length = 4 ∧ xs.all D.flat = true := by
  cases h with
  | ag _ ds h =>
    cases h with | cons h0 h => cases h with | cons h1 h => cases h with | cons h2 h =>
    have f0 := h0.flat
    have f1 := h1.flat
    cases h2
    exact ⟨_, _, _, _, rfl, f0, f1, HasTs.len h, HasTs.all h⟩
theorem is_str {d : D} (h : HasP env (false, [.s]) d) : ∃ s, d = .s s := by
  cases h with
  | one _ _ h => cases h with | cons h0 h => cases h0 with | s l _ => exact ⟨l, rfl⟩
theorem is_int {d : D} (h : HasP env (false, [.i .i64]) d) : ∃ n, d = .i .i64 n ∧ -9223372036854775808 ≤ n ∧ n ≤ 9223372036854775807 := by
  cases h with
  | one _ _ h => cases h with | cons h0 h => cases h0 with | i k n h => exact ⟨n, rfl, h⟩
end Go.Proofs.Ytkogdbgccjmaoaa.Dv
