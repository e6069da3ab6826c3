/-
  States of layer 35 among a law's arguments.
-/
import Derived.Test.YtnhbopeopppojaaDoorKa
import Derived.Test.YtnhbopeopppojaaDoorTh
namespace Go.Proofs.YtnhbopeopppojaaDoor.Dv
open Go.Dm Go.Proofs

variable {env : Tenv}
theorem rows_i : ∀ {rows : List (List D)}, (∀ r ∈ rows, HasTs env [.i .i64] r) → ∃ l : List Int, rows = l.map iR
  | [], _ => ⟨[], rfl⟩
  | r :: rows, h => by
    obtain ⟨l, e⟩ := rows_i fun r hr => h r (List.mem_cons_of_mem _ hr)
    cases h r List.mem_cons_self with | cons h1 h2 =>
    cases h1 with | i _ m hm =>
    cases h2
    exact ⟨m :: l, by rw [e]; rfl⟩
theorem rows_po : ∀ {rows : List (List D)}, (∀ r ∈ rows, HasTs env [.i .i64, .i .i64, .i .u8, .i .i64] r) → ∃ l : List Po, rows = l.map poR
  | [], _ => ⟨[], rfl⟩
  | r :: rows, h => by
    obtain ⟨l, e⟩ := rows_po fun r hr => h r (List.mem_cons_of_mem _ hr)
    cases h r List.mem_cons_self with | cons h1 h2 => cases h2 with | cons h3 h4 => cases h4 with | cons h5 h6 => cases h6 with | cons h7 h8 =>
    cases h1 with | i _ m hm => cases h3 with | i _ d _ => cases h5 with | i _ p _ => cases h7 with | i _ o _ =>
    cases h8
    exact ⟨⟨m, d, p, o⟩ :: l, by rw [e]; rfl⟩
theorem rows_sp : ∀ {rows : List (List D)}, (∀ r ∈ rows, HasTs env [.i .i64, .i .i64, .i .i64, .i .i64, .i .i64, .i .i64, .i .i64, .i .i64, .i .i64, .b] r) → ∃ l : List Sp, rows = l.map spR ∧ ∀ x ∈ l, x.m ≤ 9223372036854775807
  | [], _ => ⟨[], rfl, fun _ h => by cases h⟩
  | r :: rows, h => by
    obtain ⟨l, e, hl⟩ := rows_sp fun r hr => h r (List.mem_cons_of_mem _ hr)
    have hh := h r List.mem_cons_self
    clear h
    cases hh with | cons h0 h => cases h with | cons h1 h => cases h with | cons h2 h => cases h with | cons h3 h => cases h with | cons h4 h => cases h with | cons h5 h => cases h with | cons h6 h => cases h with | cons h7 h => cases h with | cons h8 h => cases h with | cons h9 h =>
    cases h0 with | i _ a0 r0 => cases h1 with | i _ a1 _ => cases h2 with | i _ a2 _ => cases h3 with | i _ a3 _ => cases h4 with | i _ a4 _ => cases h5 with | i _ a5 _ => cases h6 with | i _ a6 _ => cases h7 with | i _ a7 _ => cases h8 with | i _ a8 _ => cases h9 with | b a9 =>
    cases h
    refine ⟨⟨a0, a1, a2, a3, a4, a5, a6, a7, a8, a9⟩ :: l, by rw [e]; rfl, fun x hx => ?_⟩
    rcases List.mem_cons.1 hx with rfl | hx
    · exact r0.2
    · exact hl x hx
def rsT : List T := [.i .i64, .sl 8 [.i .i64], .sl 32 [.i .i64, .i .i64, .i .u8, .i .i64], .i .i64, .i .i64, .i .i64, .sl 80 [.i .i64, .i .i64, .i .i64, .i .i64, .i .i64, .i .i64, .i .i64, .i .i64, .i .i64, .b]]
theorem is_rst {d : D} (h : HasP env (true, rsT) d) : ∃ s, IsR s d ∧ ∀ x ∈ s.sl, x.m ≤ 9223372036854775807 := by
  cases h with
  | ag _ ds h =>
    cases h with | cons h0 h => cases h with | cons h1 h => cases h with | cons h2 h => cases h with | cons h3 h => cases h with | cons h4 h => cases h with | cons h5 h => cases h with | cons h6 h =>
    cases h
    obtain ⟨r1, a1, b1, c1⟩ := sl_of h1
    obtain ⟨r2, a2, b2, c2⟩ := sl_of h2
    obtain ⟨r3, a3, b3, c3⟩ := sl_of h6
    obtain ⟨l1, rfl⟩ := rows_i a1
    obtain ⟨l2, rfl⟩ := rows_po a2
    obtain ⟨l3, rfl, hl⟩ := rows_sp a3
    cases h0 with | i _ st _ => cases h3 with | i _ sm _ => cases h4 with | i _ sg _ => cases h5 with | i _ sx _ =>
    simp only [List.length_map] at c1 c2 c3
    exact ⟨⟨⟨st, l1, l2⟩, sm, sg, sx, l3⟩, ⟨⟨_, _, _, rfl, b1, b2, b3⟩⟩, hl⟩
end Go.Proofs.YtnhbopeopppojaaDoor.Dv
