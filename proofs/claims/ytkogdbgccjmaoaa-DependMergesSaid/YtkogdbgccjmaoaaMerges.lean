/-
  For every input the law DependMerges returns true, and each argument reads behind the call as it read before. Conditions: those of the given row, no others.
-/
import Derived.Test.YtkogdbgccjmaoaaMj
import Derived.Test.YtkogdbgccjmaoaaVok
import Derived.Handed
import Derived.JoinedOf
import Derived.ProofKit
namespace Go.Proofs.Ytkogdbgccjmaoaa.Dv
open Go.Dm Go.Proofs

theorem own : ownKnob Try.prog.godebug = none := by kernel_rfl
theorem mixed : Try.prog.follows .mixedOrders = true := by kernel_rfl
theorem laidOut : laidOutB Try.prog = true := by kernel_rfl
theorem stops : stopOk Try.prog [38] = true := by kernel_rfl

def parOk (P : Program) (ts : List TypeId) : Bool := ts.all fun t => P.readableRec t && decide (t < P.types.size)
theorem par_of {P : Program} {ts : List TypeId} (h : parOk P ts = true) : ∀ t ∈ ts, P.readableRec t = true ∧ t < P.types.size := fun t ht => by
  simp only [parOk, List.all_eq_true, Bool.and_eq_true, decide_eq_true_eq] at h
  exact h t ht

theorem pars5 : parOk Try.prog Try.f5.params.toList = true := by kernel_rfl
theorem kinds5 : paramsT Try.prog [38] Try.f5.params.toList = some MT := by kernel_rfl

theorem rt5 : Try.f5.resultTypes = #[4] := by kernel_rfl
theorem bool4 : Try.prog.underlying 4 = some .bool := by kernel_rfl

set_option maxRecDepth 100000 in
theorem contract5 (H : Type) (enc : TypeId × Value → H) (W : World) (base : Nat) (args : Array Value) (ds gs : List (DataW H)) (before : List MemPlace)
    (hval : ∀ (j : Nat) t v, Try.f5.params[j]? = some t → args[j]? = some v → Value.okWide Try.prog W .any base t v)
    (hW : DataW.Whole enc Try.prog Try.f5.params.toList Rows.dependMergesSpec.vars false W args.toList ds gs before)
    (hwt : (DataW.weightsEach Try.prog (Try.f5.params.toList ++ Rows.dependMergesSpec.plain.varTypes Try.prog) (ds ++ gs)).all (· ≤ reachBytes) = true) :
    Calls Try.prog 5 args W fun e W' => ∃ v, e = .returned v ∧ Rows.dependMergesSpec.post enc Try.prog Try.f5 false true false false W args v W' := by
  have hlen : ∃ d1 d2 d3 d4 d5 d6, ds = [d1, d2, d3, d4, d5, d6] ∧ gs = [] := by
    obtain ⟨p, q, hA, hV, _⟩ := hW
    have hp : Try.f5.params.toList.length = 6 := by kernel_rfl
    have hg : gs = [] := by
      cases gs with
      | nil => rfl
      | cons g gs => exact hV.elim
    have : ∀ {ts : List TypeId} {vs : List Value} {ds : List (DataW H)} {pl : List MemPlace}, DataW.TrodAll enc Try.prog W 0 (fun _ => true) true ts vs ds pl → ds.length = ts.length := fun {ts} => by
      induction ts with
      | nil => intro vs ds pl h; obtain ⟨_, rfl, _⟩ := Go.ChangeShapes.trodAll_nil h; rfl
      | cons t ts ih =>
        intro vs ds pl h
        obtain ⟨v, vs, d, ds, p0, q0, rfl, rfl, rfl, _, g2⟩ := Go.ChangeShapes.trodAll_cons h
        simp [ih g2]
    have hl := this hA
    rw [hp] at hl
    match ds, hl with
    | [d1, d2, d3, d4, d5, d6], _ => exact ⟨d1, d2, d3, d4, d5, d6, rfl, hg⟩
  obtain ⟨d1, d2, d3, d4, d5, d6, rfl, rfl⟩ := hlen
  exact law_contract (P := Try.prog) (V := V) (f := 5) (fn := Try.f5) (s := Rows.dependMergesSpec) (stop := [38]) stops mixed vok laidOut (par_of pars5) kinds5 (bt := 4) rt5 bool4 rfl (fun xs h => merges5 xs h) hval hW hwt rfl rfl rfl

set_option maxRecDepth 100000 in
theorem lifted5 (os : Os) (started : os.Started) (H : Type) (enc : TypeId × Value → H) :
    ReturnsInHanded {} Try.checked os 5 .any (Rows.dependMergesSpec.pre6 enc Try.prog Try.f5 Rows.dependMergesRow.domain false) (Rows.dependMergesSpec.post enc Try.prog Try.f5 false true false false) := by
  refine returnsInHanded_of_change_sized (C := Try.checked) own started (by kernel_rfl) Try.func5
    (ChangeSpec.witness6 (enc := enc) (C := Try.checked) (s := Rows.dependMergesSpec) false ⟨#[], #[.agg #[.slice none 0 0, .slice none 0 0, .slice none 0 0], .agg #[.slice none 0 0, .slice none 0 0, .slice none 0 0], .agg #[.string .empty, .slice none 0 0, .slice none 0 0, .slice none 0 0], .slice none 0 0, .int .i64 0, .int .i64 0], []⟩ 16 (by kernel_rfl) (by kernel_rfl) (by kernel_rfl) (by kernel_rfl)) ?_
  intro W base args ds gs before hval hW _ hwt _
  exact contract5 H enc W base args ds gs before hval hW hwt
end Go.Proofs.Ytkogdbgccjmaoaa.Dv
namespace Go.Proofs.Ytkogdbgccjmaoaa
open Go.Dm Go.Proofs
theorem dependMerges_holds : Rows.DependMergesSaid :=
  OpenClaim.holds_of_wide 5 Try.f5 rfl rfl rfl rfl rfl rfl rfl ⟨rfl, rfl, rfl, rfl, rfl⟩ rfl rfl rfl rfl rfl (by kernel_rfl) Try.func5 (by kernel_rfl)
    (of_decide_eq_true (by kernel_rfl)) (by unfold Func.isWrapper; first | (rw [if_pos (by decide +kernel)]; kernel_rfl) | (rw [if_neg (by decide +kernel)]; exact ⟨rfl, rfl⟩))
    (fun os started H enc _ => Dv.lifted5 os started H enc)
end Go.Proofs.Ytkogdbgccjmaoaa
#print axioms Go.Proofs.Ytkogdbgccjmaoaa.dependMerges_holds
