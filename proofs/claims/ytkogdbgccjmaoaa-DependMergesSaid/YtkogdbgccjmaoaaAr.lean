/-
  Plain arguments of the laws of layer 25, as the machine's values.
-/
import Derived.Test.YtkogdbgccjmaoaaUc
import Derived.Test.YtkogdbgccjmaoaaDf
namespace Go.Proofs.Ytkogdbgccjmaoaa.Dv
open Go.Dm

/-! ### Plain arguments -/
section
variable {env : Tenv}

theorem rows_p : ∀ {rows : List (List D)}, (∀ r ∈ rows, HasTs env [.s, .i .i64] r) → ∃ ps : List (List UInt8 × Int), rows = ps.map eP.enc
  | [], _ => ⟨[], rfl⟩
  | r :: rows, h => by
    obtain ⟨ps, e⟩ := rows_p (fun r hr => h r (List.mem_cons_of_mem _ hr))
    cases h r List.mem_cons_self with
    | cons h1 h2 => cases h1 with
      | s l _ => cases h2 with
        | cons h3 h4 => cases h3 with
          | i k n _ => cases h4; exact ⟨(l, n) :: ps, by rw [e]; rfl⟩
theorem rows_f : ∀ {rows : List (List D)}, (∀ r ∈ rows, HasTs env [.s, .i .i64, .i .i64] r) → ∃ ps : List (List UInt8 × Int × Int), rows = ps.map eR.enc
  | [], _ => ⟨[], rfl⟩
  | r :: rows, h => by
    obtain ⟨ps, e⟩ := rows_f (fun r hr => h r (List.mem_cons_of_mem _ hr))
    cases h r List.mem_cons_self with
    | cons h1 h2 => cases h1 with
      | s l _ => cases h2 with
        | cons h3 h4 => cases h3 with
          | i k n _ => cases h4 with
            | cons h5 h6 => cases h5 with
              | i k m _ => cases h6; exact ⟨(l, n, m) :: ps, by rw [e]; rfl⟩
theorem rows_t : ∀ {rows : List (List D)}, (∀ r ∈ rows, HasTs env [.s] r) → ∃ ps : List (List UInt8), rows = ps.map eS.enc
  | [], _ => ⟨[], rfl⟩
  | r :: rows, h => by
    obtain ⟨ps, e⟩ := rows_t (fun r hr => h r (List.mem_cons_of_mem _ hr))
    cases h r List.mem_cons_self with
    | cons h1 h2 => cases h1 with
      | s l _ => cases h2; exact ⟨l :: ps, by rw [e]; rfl⟩

theorem sl_of {ts : List T} {d : D} (h : HasT env (.sl ts) d) : ∃ rows, (∀ r ∈ rows, HasTs env ts r) ∧ Sl ts.length rows d := by
  cases h with
  | nil => exact ⟨[], fun r hr => (by cases hr), .nil rfl⟩
  | z => exact ⟨[], fun r hr => (by cases hr), .z rfl⟩
  | sl _ rows _ hr => exact ⟨rows, hr, .im⟩

def rdT : List T := [.sl [.s, .i .i64], .sl [.s, .i .i64, .i .i64], .sl [.s]]
theorem is_rd {d : D} (h : HasP env (true, rdT) d) : ∃ r, IsRd r d := by
  cases h with
  | ag _ ds h => cases h with
    | cons h1 h => cases h with
      | cons h2 h => cases h with
        | cons h3 h =>
          cases h
          obtain ⟨r1, a1, b1⟩ := sl_of h1
          obtain ⟨r2, a2, b2⟩ := sl_of h2
          obtain ⟨r3, a3, b3⟩ := sl_of h3
          obtain ⟨p, rfl⟩ := rows_p a1
          obtain ⟨f, rfl⟩ := rows_f a2
          obtain ⟨t, rfl⟩ := rows_t a3
          exact ⟨⟨p, f, t⟩, _, _, _, rfl, b1, b2, b3⟩

def factT : List T := [.s, .i .i64, .i .i64, .i .i64, .b, .i .u8, .b, .sl [.i .u16], .b, .sl [.i .u16], .i .i64]
theorem is_fact {d : D} (h : HasP env (true, factT) d) : ∃ key fr to kn c4 c5 c6 c7 c8 c9 c10, d = .ag (factD key fr to kn c4 c5 c6 c7 c8 c9 c10) ∧ (∀ c ∈ factD key fr to kn c4 c5 c6 c7 c8 c9 c10, c.flat = true) := by
  cases h with
  | ag _ ds h =>
    have hf := h.flat
    revert hf
    cases h with | cons h0 h => cases h with | cons h1 h => cases h with | cons h2 h => cases h with | cons h3 h => cases h with | cons h4 h => cases h with | cons h5 h => cases h with | cons h6 h =>
    cases h with | cons h7 h => cases h with | cons h8 h => cases h with | cons h9 h => cases h with | cons h10 h =>
    cases h; cases h0; cases h1; cases h2; cases h3
    intro hf
    exact ⟨_, _, _, _, _, _, _, _, _, _, _, rfl, hf⟩

def exprT : List T := [.i .u8, .s, .i .u8, .b, .sl [.i .u16], .b, .sl [.i .u16], .i .i64, .rc 38]
def clauseT : List T := [.s, .s, .i .i64, .i .i64, .i .i64, .b] ++ (exprT ++ exprT)
theorem is_clause {d : D} (h : HasP env (true, clauseT) d) : ∃ nm lb fr to kn c5 c6 c7 c8 c9 c10 c11 c12 c13 c14 c15 c16 c17 c18 c19 c20 c21 c22 c23, d = .ag (clauseD nm lb fr to kn c5 c6 c7 c8 c9 c10 c11 c12 c13 c14 c15 c16 c17 c18 c19 c20 c21 c22 c23) ∧
    (∀ c ∈ clauseD nm lb fr to kn c5 c6 c7 c8 c9 c10 c11 c12 c13 c14 c15 c16 c17 c18 c19 c20 c21 c22 c23, c.flat = true) := by
  cases h with
  | ag _ ds h =>
    have hf := h.flat
    revert hf
    cases h with | cons h0 h => cases h with | cons h1 h => cases h with | cons h2 h => cases h with | cons h3 h => cases h with | cons h4 h => cases h with | cons h5 h => cases h with | cons h6 h =>
    cases h with | cons h7 h => cases h with | cons h8 h => cases h with | cons h9 h => cases h with | cons h10 h => cases h with | cons h11 h => cases h with | cons h12 h => cases h with | cons h13 h =>
    cases h with | cons h14 h => cases h with | cons h15 h => cases h with | cons h16 h => cases h with | cons h17 h => cases h with | cons h18 h => cases h with | cons h19 h => cases h with | cons h20 h =>
    cases h with | cons h21 h => cases h with | cons h22 h => cases h with | cons h23 h =>
    cases h; cases h0; cases h2; cases h3; cases h4
    intro hf
    exact ⟨_, _, _, _, _, _, _, _, _, _, _, _, _, _, _, _, _, _, _, _, _, _, _, _, rfl, hf⟩

theorem is_str {d : D} (h : HasP env (false, [.s]) d) : ∃ s, d = .s s := by
  cases h with
  | one _ _ h => cases h with | cons h0 h => cases h0 with | s l _ => exact ⟨l, rfl⟩
theorem is_int {d : D} (h : HasP env (false, [.i .i64]) d) : ∃ n, d = .i .i64 n := by
  cases h with
  | one _ _ h => cases h with | cons h0 h => cases h0 with | i k n _ => exact ⟨n, rfl⟩

/-- The strings are no longer than memory. -/
theorem rows_tb : ∀ {rows : List (List D)}, (∀ r ∈ rows, HasTs env [.s] r) → ∃ ps : List (List UInt8), rows = ps.map eS.enc ∧ ∀ p ∈ ps, p.length ≤ reachBytes
  | [], _ => ⟨[], rfl, fun _ h => by cases h⟩
  | r :: rows, h => by
    obtain ⟨ps, e, hb⟩ := rows_tb (fun r hr => h r (List.mem_cons_of_mem _ hr))
    cases h r List.mem_cons_self with
    | cons h1 h2 => cases h1 with
      | s l hl =>
        cases h2
        refine ⟨l :: ps, by rw [e]; rfl, fun p hp => ?_⟩
        rcases List.mem_cons.1 hp with rfl | hp
        · exact hl
        · exact hb p hp
theorem is_rdb {d : D} (h : HasP env (true, rdT) d) : ∃ r, IsRd r d ∧ ∀ p ∈ r.t, p.length ≤ reachBytes := by
  cases h with
  | ag _ ds h => cases h with
    | cons h1 h => cases h with
      | cons h2 h => cases h with
        | cons h3 h =>
          cases h
          obtain ⟨r1, a1, b1⟩ := sl_of h1
          obtain ⟨r2, a2, b2⟩ := sl_of h2
          obtain ⟨r3, a3, b3⟩ := sl_of h3
          obtain ⟨p, rfl⟩ := rows_p a1
          obtain ⟨f, rfl⟩ := rows_f a2
          obtain ⟨t, rfl, hb⟩ := rows_tb a3
          exact ⟨⟨p, f, t⟩, ⟨_, _, _, rfl, b1, b2, b3⟩, hb⟩

def FactRow (row : List D) : Prop := ∃ key fr to kn c4 c5 c6 c7 c8 c9 c10, row = factD key fr to kn c4 c5 c6 c7 c8 c9 c10 ∧ (∀ c ∈ row, c.flat = true)
def ClauseRow (row : List D) : Prop := ∃ nm lb fr to kn c5 c6 c7 c8 c9 c10 c11 c12 c13 c14 c15 c16 c17 c18 c19 c20 c21 c22 c23, row = clauseD nm lb fr to kn c5 c6 c7 c8 c9 c10 c11 c12 c13 c14 c15 c16 c17 c18 c19 c20 c21 c22 c23 ∧ (∀ c ∈ row, c.flat = true)
def rowT : List T := [.i .i64, .i .i64, .i .i64, .b, .sl [.i .u16], .b, .sl [.i .u16]]
def RowRow (row : List D) : Prop := ∃ c0 c1 kn c3 c4 c5 c6, row = [c0, c1, .i .i64 kn, c3, c4, c5, c6] ∧ (∀ c ∈ row, c.flat = true)
def tableT : List T := [.s, .b, .sl rowT]
def TableRow (row : List D) : Prop := ∃ nm two rs rows, row = [.s nm, two, rs] ∧ two.flat = true ∧ Sl 7 rows rs ∧ ∀ r ∈ rows, RowRow r
theorem fact_row {row : List D} (h : HasTs env factT row) : FactRow row := by
  obtain ⟨key, fr, to, kn, c4, c5, c6, c7, c8, c9, c10, e, hf⟩ := is_fact (.ag _ row h)
  injection e with e
  subst e
  exact ⟨_, _, _, _, _, _, _, _, _, _, _, rfl, hf⟩
theorem clause_row {row : List D} (h : HasTs env clauseT row) : ClauseRow row := by
  obtain ⟨nm, lb, fr, to, kn, c5, c6, c7, c8, c9, c10, c11, c12, c13, c14, c15, c16, c17, c18, c19, c20, c21, c22, c23, e, hf⟩ := is_clause (.ag _ row h)
  injection e with e
  subst e
  exact ⟨_, _, _, _, _, _, _, _, _, _, _, _, _, _, _, _, _, _, _, _, _, _, _, _, rfl, hf⟩
theorem row_row {row : List D} (h : HasTs env rowT row) : RowRow row := by
  have hf := h.flat
  revert hf
  cases h with | cons h0 h => cases h with | cons h1 h => cases h with | cons h2 h => cases h with | cons h3 h => cases h with | cons h4 h => cases h with | cons h5 h => cases h with | cons h6 h =>
  cases h; cases h2
  intro hf
  exact ⟨_, _, _, _, _, _, _, rfl, hf⟩
theorem table_row {row : List D} (h : HasTs env tableT row) : TableRow row := by
  have hf := h.flat
  revert hf
  cases h with | cons h0 h => cases h with | cons h1 h => cases h with | cons h2 h =>
  cases h; cases h0
  intro hf
  obtain ⟨rows, a, b⟩ := sl_of h2
  exact ⟨_, _, _, rows, rfl, hf _ (by simp), b, fun r hr => row_row (a r hr)⟩
def planT : List T := [.s, .sl [.s, .i .u8, .b], .sl tableT, .sl clauseT]
theorem is_plan {d : D} (h : HasP env (true, planT) d) : ∃ n defs ts cs trows crows, d = .ag [.s n, defs, ts, cs] ∧ defs.flat = true ∧ Sl 3 trows ts ∧ Sl 24 crows cs ∧ (∀ r ∈ trows, TableRow r) ∧ (∀ r ∈ crows, ClauseRow r) := by
  cases h with
  | ag _ ds h =>
    cases h with | cons h0 h => cases h with | cons h1 h => cases h with | cons h2 h => cases h with | cons h3 h =>
    cases h; cases h0
    obtain ⟨t, a, b⟩ := sl_of h2
    obtain ⟨c, a', b'⟩ := sl_of h3
    exact ⟨_, _, _, _, t, c, rfl, h1.flat, b, b', fun r hr => table_row (a r hr), fun r hr => clause_row (a' r hr)⟩
theorem is_facts {d : D} (h : HasP env (false, [.sl factT]) d) : ∃ rows, Sl 11 rows d ∧ ∀ r ∈ rows, FactRow r := by
  cases h with
  | one _ _ h =>
    cases h with | cons h0 h =>
    obtain ⟨rows, a, b⟩ := sl_of h0
    exact ⟨rows, b, fun r hr => fact_row (a r hr)⟩
end
end Go.Proofs.Ytkogdbgccjmaoaa.Dv
