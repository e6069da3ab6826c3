/-
  For every input the law DependDays returns true, and each argument reads behind the call as it read before. Conditions: those of the given row, no others.
-/
import Derived.Test.YtkogdbgccjmaoaaTk
import Derived.Test.YtkogdbgccjmaoaaTv
import Derived.Test.YtkogdbgccjmaoaaTy
import Derived.Test.YtkogdbgccjmaoaaRows
import Derived.Handed
import Derived.JoinedOf
namespace Go.Proofs.Ytkogdbgccjmaoaa.Dv
open Go.Dm Go.Proofs

theorem own : ownKnob Try.prog.godebug = none := by kernel_rfl
theorem mixed : Try.prog.follows .mixedOrders = true := by kernel_rfl
theorem laidOut : laidOutB Try.prog = true := by kernel_rfl
theorem stops : stopOk Try.prog [38] = true := by kernel_rfl

theorem awakeRun : pureR V0 (call V0 300) 300 8 v8 [] = .ret (.b true) := by kernel_rfl
theorem vok : VOK Try.prog V := ⟨fun f vf h => allGood _ _ (f, vf) (fnOf_mem fns f vf h), fun _ _ => rfl, ext61, fun f ds d vf hf h K W vs hr hv => by
  have h' : pextS f ds = some d := h
  unfold pextS at h'
  split at h'
  · rename_i e
    subst e
    split at h'
    · cases h'
      have e1 : vf = v8 := by have : V.fn 8 = some v8 := rfl; rw [this] at hf; exact (Option.some.inj hf).symm
      rw [e1]
      exact pureR_sim mixed vok0 (call_sim mixed vok0 300) (show V0.fn 8 = some v8 from rfl) awakeRun hr hv
    · cases h'
  · cases h'⟩

def parOk (P : Program) (ts : List TypeId) : Bool := ts.all fun t => P.readableRec t && decide (t < P.types.size)
theorem par_of {P : Program} {ts : List TypeId} (h : parOk P ts = true) : ∀ t ∈ ts, P.readableRec t = true ∧ t < P.types.size := fun t ht => by
  simp only [parOk, List.all_eq_true, Bool.and_eq_true, decide_eq_true_eq] at h
  exact h t ht

theorem pars6 : parOk Try.prog Try.f6.params.toList = true := by kernel_rfl
abbrev PT : List (Bool × List T) := [(true, rdT), (false, [.s]), (false, [.i .i64])]
theorem kinds6 : paramsT Try.prog [38] Try.f6.params.toList = some PT := by kernel_rfl
theorem rt6 : Try.f6.resultTypes = #[4] := by kernel_rfl
theorem bool4 : Try.prog.underlying 4 = some .bool := by kernel_rfl

theorem law6 (xs : List D) (h : HasPs (envOf Try.prog [38]) PT xs) : ∃ n, pcall V n 6 xs = .ret (.b true) := by
  cases h with | cons ha h => cases h with | cons hb h => cases h with | cons hc h =>
  cases h
  obtain ⟨r, ka, hr⟩ := is_rd ha
  obtain ⟨key, rfl⟩ := is_str hb
  obtain ⟨n, rfl, _⟩ := is_int hc
  exact days6 ka hr key n

set_option maxRecDepth 100000 in
theorem contract6 (H : Type) (enc : TypeId × Value → H) (W : World) (base : Nat) (args : Array Value) (ds gs : List (DataW H)) (before : List MemPlace)
    (hval : ∀ (j : Nat) t v, Try.f6.params[j]? = some t → args[j]? = some v → Value.okWide Try.prog W .any base t v)
    (hW : DataW.Whole enc Try.prog Try.f6.params.toList Rows.dependDaysSpec.vars false W args.toList ds gs before)
    (hwt : (DataW.weightsEach Try.prog (Try.f6.params.toList ++ Rows.dependDaysSpec.plain.varTypes Try.prog) (ds ++ gs)).all (· ≤ reachBytes) = true) :
    Calls Try.prog 6 args W fun e W' => ∃ v, e = .returned v ∧ Rows.dependDaysSpec.post enc Try.prog Try.f6 false true false false W args v W' := by
  have hlen : ∃ d1 d2 d3, ds = [d1, d2, d3] ∧ gs = [] := by
    obtain ⟨p, q, hA, hV, _⟩ := hW
    have hp : Try.f6.params.toList.length = 3 := by kernel_rfl
    have hg : gs = [] := by
      cases gs with
      | nil => rfl
      | cons g gs => exact hV.elim
    have : ∀ {ts : List TypeId} {vs : List Value} {ds : List (DataW H)} {pl : List MemPlace}, DataW.TrodAll enc Try.prog W 0 (fun _ => true) true ts vs ds pl → ds.length = ts.length := fun {ts} => by
      induction ts with
      | nil => intro vs ds pl h; obtain ⟨_, rfl, _⟩ := Go.ChangeShapes.trodAll_nil h; rfl
      | cons t ts ih =>
        intro vs ds pl h
        obtain ⟨v, vs, d, ds, p0, q0, rfl, rfl, rfl, _, g2⟩ := Go.ChangeShapes.trodAll_cons h
        simp [ih g2]
    have hl := this hA
    rw [hp] at hl
    match ds, hl with
    | [d1, d2, d3], _ => exact ⟨d1, d2, d3, rfl, hg⟩
  obtain ⟨d1, d2, d3, rfl, rfl⟩ := hlen
  exact law_contract (P := Try.prog) (V := V) (f := 6) (fn := Try.f6) (s := Rows.dependDaysSpec) (stop := [38]) stops mixed vok laidOut (par_of pars6) kinds6 (bt := 4) rt6 bool4 rfl (fun xs h => law6 xs h) hval hW hwt rfl rfl rfl

set_option maxRecDepth 100000 in
theorem lifted6 (os : Os) (started : os.Started) (H : Type) (enc : TypeId × Value → H) :
    ReturnsInHanded {} Try.checked os 6 .any (Rows.dependDaysSpec.pre6 enc Try.prog Try.f6 Rows.dependDaysRow.domain false) (Rows.dependDaysSpec.post enc Try.prog Try.f6 false true false false) := by
  refine returnsInHanded_of_change_sized (C := Try.checked) own started (by kernel_rfl) Try.func6
    (ChangeSpec.witness6 (enc := enc) (C := Try.checked) (s := Rows.dependDaysSpec) false ⟨#[], #[.agg #[.slice none 0 0, .slice none 0 0, .slice none 0 0], .string .empty, .int .i64 0], []⟩ 16 (by kernel_rfl) (by kernel_rfl) (by kernel_rfl) (by kernel_rfl)) ?_
  intro W base args ds gs before hval hW _ hwt _
  exact contract6 H enc W base args ds gs before hval hW hwt
end Go.Proofs.Ytkogdbgccjmaoaa.Dv
namespace Go.Proofs.Ytkogdbgccjmaoaa
open Go.Dm Go.Proofs
theorem dependDays_holds : Rows.DependDaysSaid :=
  OpenClaim.holds_of_wide 6 Try.f6 rfl rfl rfl rfl rfl rfl rfl ⟨rfl, rfl, rfl, rfl, rfl⟩ rfl rfl rfl rfl rfl (by kernel_rfl) Try.func6 (by kernel_rfl)
    (of_decide_eq_true (by kernel_rfl)) (by unfold Func.isWrapper; first | (rw [if_pos (by decide +kernel)]; kernel_rfl) | (rw [if_neg (by decide +kernel)]; exact ⟨rfl, rfl⟩))
    (fun os started H enc _ => Dv.lifted6 os started H enc)
end Go.Proofs.Ytkogdbgccjmaoaa
#print axioms Go.Proofs.Ytkogdbgccjmaoaa.dependDays_holds
