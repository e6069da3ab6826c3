/-
  What the cards' laws share: the laid tables, plain arguments.
-/
import Derived.Test.YtnhbopeopppojaaGreatDoorSc
import Derived.Test.YtnhbopeopppojaaGreatDoorRows
import Derived.Test.YtnhbopeopppojaaGreatDoorTie
import Derived.Test.YtnhbopeopppojaaGreatDoorCards
import Derived.Test.YtnhbopeopppojaaGreatDoorDf
import Derived.ProofKit
import Derived.LaidMore
import Derived.Handed
import Derived.JoinedOf
import Derived.SevenTiedAt
import Derived.Lib.LaidTab
namespace Go.Proofs.YtnhbopeopppojaaGreatDoor.Dv
open Go.Dm Go.Proofs
theorem own : ownKnob Tryz.prog.godebug = none := by kernel_rfl
theorem mixed : Tryz.prog.follows .mixedOrders = true := by kernel_rfl
theorem laidOut : laidOutB Tryz.prog = true := by kernel_rfl
theorem stops : stopOk Tryz.prog [] = true := by kernel_rfl
abbrev laid3 : List (String × DataW Unit) := [("math/bits.deBruijn32tab", Rows.laid_math_bits_deBruijn32tab), ("math/bits.deBruijn64tab", Rows.laid_math_bits_deBruijn64tab), ("internal/strconv.uint64pow10", Rows.laid_internal_strconv_uint64pow10)]
theorem door_met (os : Os) (args : Array Value) : laidMetH Tryz.prog laid3 ((World.doorLaid Tryz.prog 400 os).forCall (fun _ _ => 0) ⟨#[], args, []⟩).memory :=
  laidMetH_of_parts3 (fuel := 8) (laidMet_of_run' 8 (by kernel_rfl) (by kernel_rfl)) (by kernel_rfl) (by kernel_rfl)
theorem tyPow : ((Tryz.prog.globalNamed "internal/strconv.uint64pow10").bind fun g => (Tryz.prog.globals[g]?).map fun x => (Tryz.prog.underlying x.type, Tryz.prog.cellsOf x.type)) = some (some (.array 20 140), 20) := by kernel_rfl
theorem ty151 : Tryz.prog.underlying 140 = some (.int .u64) := by kernel_rfl
theorem c151 : Tryz.prog.cellsOf 140 = 1 := by kernel_rfl
theorem powD : (Rows.laid_internal_strconv_uint64pow10 : DataW Unit) = Lib.tabData .u64 Lib.pow10Tab := rfl
theorem laid_T {W : World} (h : laidMetH Tryz.prog laid3 W) : LaidT (knAll W) W := by
  rw [MakeChecks.laidMetH_plain _ _ _ (by kernel_rfl)] at h
  obtain ⟨ps, ⟨g0, t0, cs0, f0, p0, q0, _, _, _, _, ⟨g1, t1, cs1, f1, p1, q1, _, _, _, _, ⟨g2, t2, cs2, f2, p2, q2, hg2, ht2, hv2, hd2, _, _⟩, _⟩, _⟩, _, _⟩ := h
  have hty := tyPow
  rw [hg2] at hty
  simp only [Option.bind_some] at hty
  obtain ⟨x, hx, rfl⟩ := Option.map_eq_some_iff.1 ht2
  rw [hx] at hty
  simp only [Option.map_some, Option.some.injEq, Prod.mk.injEq] at hty
  rw [powD] at hd2
  have hc := Lib.cells_of_tab hty.1 ty151 c151 hty.2 hd2
  have hcs : cs2 = (Lib.pow10Tab.map fun z => Value.int .u64 z).toArray := by rw [← Array.toArray_toList (xs := cs2), hc]
  refine ⟨by rw [Lib.TabIs, hv2, hcs], g2, .int .u64 1, hg2, ?_⟩
  have := World.var?_cell hg2 hv2 0
  show W.cell? ⟨g2, 0, none⟩ = _
  rw [hcs] at this
  exact this.trans rfl
def parOk (P : Program) (ts : List TypeId) : Bool := ts.all fun t => P.readableRec t && decide (t < P.types.size)
theorem par_of {P : Program} {ts : List TypeId} (h : parOk P ts = true) : ∀ t ∈ ts, P.readableRec t = true ∧ t < P.types.size := fun t ht => by
  simp only [parOk, List.all_eq_true, Bool.and_eq_true, decide_eq_true_eq] at h
  exact h t ht
theorem bool4 : Tryz.prog.underlying 4 = some .bool := by kernel_rfl
variable {env : Tenv}
theorem trod_len {H : Type} {enc : TypeId × Value → H} {W : World} {sp : Nat → Bool} {held : Bool} {base : Nat} : ∀ {ts : List TypeId} {vs : List Value} {ds : List (DataW H)} {pl : List MemPlace}, DataW.TrodAll enc Tryz.prog W base sp held ts vs ds pl → ds.length = ts.length
  | [], vs, ds, pl, h => by obtain ⟨_, rfl, _⟩ := Go.ChangeShapes.trodAll_nil h; rfl
  | t :: ts, vs, ds, pl, h => by
    obtain ⟨v, vs, d, ds, p0, q0, rfl, rfl, rfl, _, g2⟩ := Go.ChangeShapes.trodAll_cons h
    simp [trod_len g2]
end Go.Proofs.YtnhbopeopppojaaGreatDoor.Dv
