/-
  For every input the law StateReads returns true, and each argument reads behind the call as it read before; the listed package-level variables are tied to the program's text. Conditions: those of the given card, no others.
-/
import Derived.Test.YtnhbopeopppojaaGreatDoorKa
import Derived.Test.YtnhbopeopppojaaGreatDoorRf
namespace Go.Proofs.YtnhbopeopppojaaGreatDoor.Dv
open Go.Dm Go.Proofs

theorem pars3 : parOk Tryz.prog Tryz.f3.params.toList = true := by kernel_rfl
abbrev PT3 : List (Bool × List T) := [(false, [.s])]
theorem kinds3 : paramsT Tryz.prog [] Tryz.f3.params.toList = some PT3 := by kernel_rfl
theorem rt3 : Tryz.f3.resultTypes = #[4] := by kernel_rfl
theorem law3' (xs : List D) (h : HasPs (envOf Tryz.prog []) PT3 xs) : ∃ n, pcall VS n 3 xs = .ret (.b true) := by
  cases h with | cons ha h =>
  cases h
  obtain ⟨t, rfl⟩ := is_str ha
  exact lawReads

set_option maxRecDepth 100000 in
theorem contract3 (H : Type) (enc : TypeId × Value → H) (W : World) (base : Nat) (args : Array Value) (ds gs : List (DataW H)) (before : List MemPlace)
    (hval : ∀ (j : Nat) t v, Tryz.f3.params[j]? = some t → args[j]? = some v → Value.okWide Tryz.prog W .any base t v)
    (hW : DataW.Whole enc Tryz.prog Tryz.f3.params.toList Rows.stateReadsSpec.vars false W args.toList ds gs before)
    (hwt : (DataW.weightsEach Tryz.prog (Tryz.f3.params.toList ++ Rows.stateReadsSpec.plain.varTypes Tryz.prog) (ds ++ gs)).all (· ≤ reachBytes) = true) (hL : laidMetH Tryz.prog laid3 W) :
    Calls Tryz.prog 3 args W fun e W' => ∃ v, e = .returned v ∧ Rows.stateReadsSpec.post enc Tryz.prog Tryz.f3 false true false false W args v W' := by
  have hlen : ∃ d1, ds = [d1] ∧ gs = [] := by
    obtain ⟨p, q, hA, hV, _⟩ := hW
    have hg : gs = [] := by
      cases gs with
      | nil => rfl
      | cons g gs => exact hV.elim
    have hp : Tryz.f3.params.toList.length = 1 := by kernel_rfl
    have hl := trod_len hA
    rw [hp] at hl
    match ds, hl with
    | [d1], _ => exact ⟨d1, rfl, hg⟩
  obtain ⟨d1, rfl, rfl⟩ := hlen
  exact law_contract (P := Tryz.prog) (V := VS) (f := 3) (fn := Tryz.f3) (s := Rows.stateReadsSpec) (stop := []) stops mixed vokS laidOut (par_of pars3) kinds3 (bt := 4) rt3 bool4 rfl (fun xs h => law3' xs h) (laid_T hL) hval hW hwt rfl rfl rfl

set_option maxRecDepth 100000 in
theorem lifted3 (os : Os) (started : os.Started) (H : Type) (enc : TypeId × Value → H) :
    ReturnsInHanded {} Tryz.checked os 3 .any (fun w args => (Rows.stateReadsSpec.pre enc Tryz.prog Tryz.f3 [] false w args ∧ laidMetH Tryz.prog laid3 w) ∧ sizedMet enc Tryz.prog Tryz.f3 (OpenSpec.ofChange Rows.stateReadsSpec) false w args)
      (Rows.stateReadsSpec.post enc Tryz.prog Tryz.f3 false true false false) := by
  refine returnsInHanded_of_change_and (C := Tryz.checked) (X := fun w _ => laidMetH Tryz.prog laid3 w) (fun _ _ _ hh h => h.of_heap hh) own started (by kernel_rfl) Tryz.func3
    (ChangeSpec.witness_shaped (enc := enc) (C := Tryz.checked) (os := os) (X := fun w _ => laidMetH Tryz.prog laid3 w) false (World.doorLaid Tryz.prog 400 os) #[.string .empty] 8 rfl (World.shaped_of_RefB (by kernel_rfl) (by kernel_rfl)) (by kernel_rfl) (by kernel_rfl) (by kernel_rfl) (door_met os _)) ?_
  intro W base args ds gs before hval hW _ hwt hL _
  exact contract3 H enc W base args ds gs before hval hW hwt hL
end Go.Proofs.YtnhbopeopppojaaGreatDoor.Dv
namespace Go.Proofs.YtnhbopeopppojaaGreatDoor
open Go.Dm Go.Proofs
theorem stateReads_holds : Rows.StateReadsSaid :=
  OpenClaim.holds_of_wide 3 Tryz.f3 rfl rfl rfl rfl rfl rfl rfl ⟨rfl, rfl, rfl, rfl, rfl⟩ rfl rfl rfl rfl rfl (by kernel_rfl) Tryz.func3 (by kernel_rfl)
    (of_decide_eq_true (by kernel_rfl)) (by unfold Func.isWrapper; first | (rw [if_pos (by decide +kernel)]; kernel_rfl) | (rw [if_neg (by decide +kernel)]; exact ⟨rfl, rfl⟩))
    (fun os started H enc _ => Dv.lifted3 os started H enc)
theorem stateReads_card_holds : Rows.StateReadsCardSaid :=
  Claim7.holds_tied_plain_at .later [] [.data, .data, .data] true (true, "4d41835dcd73ab4f1d2cb3572f7e948a5de076cb8bebe58e24a61b688484a91f") true
    stateReads_holds (fun _ h => by cases h) (by kernel_rfl) (fun _ h => by cases h) stateReads_row_tie rfl ⟨rfl, rfl⟩ (by kernel_rfl) rfl
    (fun f fn hf hfn => by
      obtain rfl : f = 3 := Option.some.inj ((show Tryz.prog.funcNamed "annuitant/annuitantlaw39.StateReads" = some 3 by kernel_rfl).symm.trans hf) |>.symm
      obtain rfl : fn = Tryz.f3 := (Option.some.inj (Tryz.func3.symm.trans hfn)).symm
      exact ⟨by kernel_rfl, fun j t ht => by
        rw [Tryz.params3] at ht
        have hm : t ∈ [9] := by simpa using Array.mem_of_getElem? ht
        have hall : ([9].all fun u => !Tryz.prog.wantsStandIn u) = true := by kernel_rfl
        exact (show Tryz.prog.wantsStandIn t = false by simpa using List.all_eq_true.1 hall t hm)⟩)
    (by kernel_rfl)
end Go.Proofs.YtnhbopeopppojaaGreatDoor
#print axioms Go.Proofs.YtnhbopeopppojaaGreatDoor.stateReads_card_holds
