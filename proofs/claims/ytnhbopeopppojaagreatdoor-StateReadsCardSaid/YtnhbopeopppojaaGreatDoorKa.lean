/-
  What the cards' laws share: the laid tables, plain arguments.
-/
import Derived.Test.YtnhbopeopppojaaGreatDoorSh
import Derived.Test.YtnhbopeopppojaaGreatDoorRows
import Derived.Test.YtnhbopeopppojaaGreatDoorTie
import Derived.Test.YtnhbopeopppojaaGreatDoorCards
import Derived.Test.YtnhbopeopppojaaGreatDoorDf
import Derived.ProofKit
import Derived.LaidMore
import Derived.Handed
import Derived.JoinedOf
import Derived.SevenTiedAt
import Derived.Lib.LaidTab
namespace Go.Proofs.YtnhbopeopppojaaGreatDoor.Dv
open Go.Dm Go.Proofs

theorem own : ownKnob Tryz.prog.godebug = none := by kernel_rfl
theorem mixed : Tryz.prog.follows .mixedOrders = true := by kernel_rfl
theorem laidOut : laidOutB Tryz.prog = true := by kernel_rfl
theorem stops : stopOk Tryz.prog [] = true := by kernel_rfl
abbrev laid3 : List (String × DataW Unit) := [("math/bits.deBruijn32tab", Rows.laid_math_bits_deBruijn32tab), ("math/bits.deBruijn64tab", Rows.laid_math_bits_deBruijn64tab), ("internal/strconv.uint64pow10", Rows.laid_internal_strconv_uint64pow10)]
theorem door_met (os : Os) (args : Array Value) : laidMetH Tryz.prog laid3 ((World.doorLaid Tryz.prog 400 os).forCall (fun _ _ => 0) ⟨#[], args, []⟩).memory :=
  laidMetH_of_parts3 (fuel := 8) (laidMet_of_run' 8 (by kernel_rfl) (by kernel_rfl)) (by kernel_rfl) (by kernel_rfl)
theorem tyPow : ((Tryz.prog.globalNamed "internal/strconv.uint64pow10").bind fun g => (Tryz.prog.globals[g]?).map fun x => (Tryz.prog.underlying x.type, Tryz.prog.cellsOf x.type)) = some (some (.array 20 140), 20) := by kernel_rfl
theorem ty151 : Tryz.prog.underlying 140 = some (.int .u64) := by kernel_rfl
theorem c151 : Tryz.prog.cellsOf 140 = 1 := by kernel_rfl
theorem powD : (Rows.laid_internal_strconv_uint64pow10 : DataW Unit) = Lib.tabData .u64 Lib.pow10Tab := rfl
theorem laid_T {W : World} (h : laidMetH Tryz.prog laid3 W) : LaidT (knAll W) W := by
  rw [MakeChecks.laidMetH_plain _ _ _ (by kernel_rfl)] at h
  obtain ⟨ps, ⟨g0, t0, cs0, f0, p0, q0, _, _, _, _, ⟨g1, t1, cs1, f1, p1, q1, _, _, _, _, ⟨g2, t2, cs2, f2, p2, q2, hg2, ht2, hv2, hd2, _, _⟩, _⟩, _⟩, _, _⟩ := h
  have hty := tyPow
  rw [hg2] at hty
  simp only [Option.bind_some] at hty
  obtain ⟨x, hx, rfl⟩ := Option.map_eq_some_iff.1 ht2
  rw [hx] at hty
  simp only [Option.map_some, Option.some.injEq, Prod.mk.injEq] at hty
  rw [powD] at hd2
  have hc := Lib.cells_of_tab hty.1 ty151 c151 hty.2 hd2
  have hcs : cs2 = (Lib.pow10Tab.map fun z => Value.int .u64 z).toArray := by rw [← Array.toArray_toList (xs := cs2), hc]
  refine ⟨by rw [Lib.TabIs, hv2, hcs], g2, .int .u64 1, hg2, ?_⟩
  have := World.var?_cell hg2 hv2 0
  show W.cell? ⟨g2, 0, none⟩ = _
  rw [hcs] at this
  exact this.trans rfl

def parOk (P : Program) (ts : List TypeId) : Bool := ts.all fun t => P.readableRec t && decide (t < P.types.size)
theorem par_of {P : Program} {ts : List TypeId} (h : parOk P ts = true) : ∀ t ∈ ts, P.readableRec t = true ∧ t < P.types.size := fun t ht => by
  simp only [parOk, List.all_eq_true, Bool.and_eq_true, decide_eq_true_eq] at h
  exact h t ht
theorem bool4 : Tryz.prog.underlying 4 = some .bool := by kernel_rfl

variable {env : Tenv}
theorem sl_of {b : Nat} {ts : List T} {d : D} (h : HasT env (.sl b ts) d) : ∃ rows, (∀ r ∈ rows, HasTs env ts r) ∧ Sl ts.length rows d ∧ rows.length * b ≤ 140737488355328 := by
  cases h with
  | nil => exact ⟨[], fun r hr => (by cases hr), .nil rfl, by simp⟩
  | z => exact ⟨[], fun r hr => (by cases hr), .z rfl, by simp⟩
  | sl _ _ rows h hr => exact ⟨rows, hr, .im, by have := h.2; unfold reachBytes at this; omega⟩
theorem rows_ln : ∀ {rows : List (List D)}, (∀ r ∈ rows, HasTs env [.i .i64, .i .i64, .i .i64, .i .i64] r) → ∃ l : List Ln, rows = l.map lnR ∧ ∀ x ∈ l, -9223372036854775808 ≤ x.m ∧ x.m ≤ 9223372036854775807
  | [], _ => ⟨[], rfl, fun _ h => by cases h⟩
  | r :: rows, h => by
    obtain ⟨l, e, hl⟩ := rows_ln fun r hr => h r (List.mem_cons_of_mem _ hr)
    cases h r List.mem_cons_self with | cons h1 h2 => cases h2 with | cons h3 h4 => cases h4 with | cons h5 h6 => cases h6 with | cons h7 h8 =>
    cases h1 with | i _ m hm => cases h3 with | i _ d _ => cases h5 with | i _ p _ => cases h7 with | i _ o _ =>
    cases h8
    refine ⟨⟨m, d, p, o⟩ :: l, by rw [e]; rfl, fun x hx => ?_⟩
    rcases List.mem_cons.1 hx with rfl | hx
    · exact hm
    · exact hl x hx
def stT : List T := [.i .i64, .i .i64, .i .i64, .sl 32 [.i .i64, .i .i64, .i .i64, .i .i64], .i .i64, .i .i64, .i .i64, .i .i64]
theorem is_stm {d : D} (h : HasP env (true, stT) d) : ∃ s, IsStm s d ∧ Rng s ∧ s.ls.length ≤ 4398046511104 := by
  cases h with
  | ag _ ds h =>
    cases h with | cons h0 h => cases h with | cons h1 h => cases h with | cons h2 h => cases h with | cons h3 h => cases h with | cons h4 h => cases h with | cons h5 h => cases h with | cons h6 h => cases h with | cons h7 h =>
    cases h
    obtain ⟨rows, a1, b1, c1⟩ := sl_of h3
    obtain ⟨l, rfl, hl⟩ := rows_ln a1
    cases h0 with | i _ y _ => cases h1 with | i _ b _ => cases h2 with | i _ a _ => cases h4 with | i _ g _ => cases h5 with | i _ t _ => cases h6 with | i _ n _ => cases h7 with | i _ i _ =>
    simp only [List.length_map] at c1
    exact ⟨⟨y, b, a, l, g, t, n, i⟩, ⟨⟨_, rfl, b1⟩⟩, ⟨hl⟩, by dsimp only; omega⟩
theorem is_str {d : D} (h : HasP env (false, [.s]) d) : ∃ s, d = .s s := by
  cases h with
  | one _ _ h => cases h with | cons h0 h => cases h0 with | s l _ => exact ⟨l, rfl⟩
theorem is_int {k : IntKind} {d : D} (h : HasP env (false, [.i k]) d) : ∃ n, d = .i k n ∧ k.min ≤ n ∧ n ≤ k.max := by
  cases h with
  | one _ _ h => cases h with | cons h0 h => cases h0 with | i k n h => exact ⟨n, rfl, h⟩
theorem trod_len {H : Type} {enc : TypeId × Value → H} {W : World} {sp : Nat → Bool} {held : Bool} {base : Nat} : ∀ {ts : List TypeId} {vs : List Value} {ds : List (DataW H)} {pl : List MemPlace}, DataW.TrodAll enc Tryz.prog W base sp held ts vs ds pl → ds.length = ts.length
  | [], vs, ds, pl, h => by obtain ⟨_, rfl, _⟩ := Go.ChangeShapes.trodAll_nil h; rfl
  | t :: ts, vs, ds, pl, h => by
    obtain ⟨v, vs, d, ds, p0, q0, rfl, rfl, rfl, _, g2⟩ := Go.ChangeShapes.trodAll_cons h
    simp [trod_len g2]
end Go.Proofs.YtnhbopeopppojaaGreatDoor.Dv
