/-
  For every input the law StateOnly returns true, and each argument reads behind the call as it read before; the listed package-level variables are tied to the program's text. Conditions: those of the given card, no others.
-/
import Derived.Test.YtnhbopeopppojaaDoorKa
namespace Go.Proofs.YtnhbopeopppojaaDoor.Dv
open Go.Dm Go.Proofs

theorem pars6 : parOk Tryd.prog Tryd.f6.params.toList = true := by kernel_rfl
abbrev PT6 : List (Bool × List T) := [(false, [.s])]
theorem kinds6 : paramsT Tryd.prog [] Tryd.f6.params.toList = some PT6 := by kernel_rfl
theorem rt6 : Tryd.f6.resultTypes = #[4] := by kernel_rfl
theorem law6' (xs : List D) (h : HasPs (envOf Tryd.prog []) PT6 xs) : ∃ n, pcall VS n 6 xs = .ret (.b true) := by
  cases h with | cons ha h =>
  cases h
  obtain ⟨t, rfl⟩ := is_str ha
  exact law6

set_option maxRecDepth 100000 in
theorem contract6 (H : Type) (enc : TypeId × Value → H) (W : World) (base : Nat) (args : Array Value) (ds gs : List (DataW H)) (before : List MemPlace)
    (hval : ∀ (j : Nat) t v, Tryd.f6.params[j]? = some t → args[j]? = some v → Value.okWide Tryd.prog W .any base t v)
    (hW : DataW.Whole enc Tryd.prog Tryd.f6.params.toList Rows.stateOnlySpec.vars false W args.toList ds gs before)
    (hwt : (DataW.weightsEach Tryd.prog (Tryd.f6.params.toList ++ Rows.stateOnlySpec.plain.varTypes Tryd.prog) (ds ++ gs)).all (· ≤ reachBytes) = true) (hL : laidMetH Tryd.prog laid3 W) :
    Calls Tryd.prog 6 args W fun e W' => ∃ v, e = .returned v ∧ Rows.stateOnlySpec.post enc Tryd.prog Tryd.f6 false true false false W args v W' := by
  have hlen : ∃ d1, ds = [d1] ∧ gs = [] := by
    obtain ⟨p, q, hA, hV, _⟩ := hW
    have hg : gs = [] := by
      cases gs with
      | nil => rfl
      | cons g gs => exact hV.elim
    have hp : Tryd.f6.params.toList.length = 1 := by kernel_rfl
    have hl := trod_len hA
    rw [hp] at hl
    match ds, hl with
    | [d1], _ => exact ⟨d1, rfl, hg⟩
  obtain ⟨d1, rfl, rfl⟩ := hlen
  exact law_contract (P := Tryd.prog) (V := VS) (f := 6) (fn := Tryd.f6) (s := Rows.stateOnlySpec) (stop := []) stops mixed vokS laidOut (par_of pars6) kinds6 (bt := 4) rt6 bool4 rfl (fun xs h => law6' xs h) (laid_T hL) hval hW hwt rfl rfl rfl

set_option maxRecDepth 100000 in
theorem lifted6 (os : Os) (started : os.Started) (H : Type) (enc : TypeId × Value → H) :
    ReturnsInHanded {} Tryd.checked os 6 .any (fun w args => (Rows.stateOnlySpec.pre enc Tryd.prog Tryd.f6 [] false w args ∧ laidMetH Tryd.prog laid3 w) ∧ sizedMet enc Tryd.prog Tryd.f6 (OpenSpec.ofChange Rows.stateOnlySpec) false w args)
      (Rows.stateOnlySpec.post enc Tryd.prog Tryd.f6 false true false false) := by
  refine returnsInHanded_of_change_and (C := Tryd.checked) (X := fun w _ => laidMetH Tryd.prog laid3 w) (fun _ _ _ hh h => h.of_heap hh) own started (by kernel_rfl) Tryd.func6
    (ChangeSpec.witness_shaped (enc := enc) (C := Tryd.checked) (os := os) (X := fun w _ => laidMetH Tryd.prog laid3 w) false (World.doorLaid Tryd.prog 400 os) #[.string .empty] 8 rfl (World.shaped_of_RefB (by kernel_rfl) (by kernel_rfl)) (by kernel_rfl) (by kernel_rfl) (by kernel_rfl) (door_met os _)) ?_
  intro W base args ds gs before hval hW _ hwt hL _
  exact contract6 H enc W base args ds gs before hval hW hwt hL
end Go.Proofs.YtnhbopeopppojaaDoor.Dv
namespace Go.Proofs.YtnhbopeopppojaaDoor
open Go.Dm Go.Proofs
theorem stateOnly_holds : Rows.StateOnlySaid :=
  OpenClaim.holds_of_wide 6 Tryd.f6 rfl rfl rfl rfl rfl rfl rfl ⟨rfl, rfl, rfl, rfl, rfl⟩ rfl rfl rfl rfl rfl (by kernel_rfl) Tryd.func6 (by kernel_rfl)
    (of_decide_eq_true (by kernel_rfl)) (by unfold Func.isWrapper; first | (rw [if_pos (by decide +kernel)]; kernel_rfl) | (rw [if_neg (by decide +kernel)]; exact ⟨rfl, rfl⟩))
    (fun os started H enc _ => Dv.lifted6 os started H enc)
theorem stateOnly_card_holds : Rows.StateOnlyCardSaid :=
  Claim7.holds_tied_plain_at .later [] [.data, .data, .data] true (true, "e09641f2b7fa0255b9d6174e27189e5eeb1c577739ed6e86885e6e9c40942df8") true
    stateOnly_holds (fun _ h => by cases h) (by kernel_rfl) (fun _ h => by cases h) stateOnly_row_tie rfl ⟨rfl, rfl⟩ (by kernel_rfl) rfl
    (fun f fn hf hfn => by
      obtain rfl : f = 6 := Option.some.inj ((show Tryd.prog.funcNamed "annuitant/annuitantlaw39.StateOnly" = some 6 by kernel_rfl).symm.trans hf) |>.symm
      obtain rfl : fn = Tryd.f6 := (Option.some.inj (Tryd.func6.symm.trans hfn)).symm
      exact ⟨by kernel_rfl, fun j t ht => by
        rw [Tryd.params6] at ht
        have hm : t ∈ [9] := by simpa using Array.mem_of_getElem? ht
        have hall : ([9].all fun u => !Tryd.prog.wantsStandIn u) = true := by kernel_rfl
        exact (show Tryd.prog.wantsStandIn t = false by simpa using List.all_eq_true.1 hall t hm)⟩)
    (by kernel_rfl)
end Go.Proofs.YtnhbopeopppojaaDoor
#print axioms Go.Proofs.YtnhbopeopppojaaDoor.stateOnly_card_holds
