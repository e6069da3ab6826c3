/-
  For the closed law StateSmall the answer is true; the listed package-level variables are tied to the program's text. Conditions: those of the given card, no others.
-/
import Derived.Test.YtnhbopeopppojaaGreatDoorKa
import Derived.Test.YtnhbopeopppojaaGreatDoorXc
namespace Go.Proofs.YtnhbopeopppojaaGreatDoor.Dv
open Go.Dm Go.Proofs
theorem pars4 : parOk Tryz.prog Tryz.f4.params.toList = true := by kernel_rfl
abbrev PT4 : List (Bool × List T) := []
theorem kinds4 : paramsT Tryz.prog [] Tryz.f4.params.toList = some PT4 := by kernel_rfl
theorem rt4 : Tryz.f4.resultTypes = #[4] := by kernel_rfl
theorem law4' (xs : List D) (h : HasPs (envOf Tryz.prog []) PT4 xs) : ∃ n, pcall VS3 n 4 xs = .ret (.b true) := by
  cases h
  exact law4s
set_option maxRecDepth 100000 in
theorem contract4 (H : Type) (enc : TypeId × Value → H) (W : World) (base : Nat) (args : Array Value) (ds gs : List (DataW H)) (before : List MemPlace)
    (hval : ∀ (j : Nat) t v, Tryz.f4.params[j]? = some t → args[j]? = some v → Value.okWide Tryz.prog W .any base t v)
    (hW : DataW.Whole enc Tryz.prog Tryz.f4.params.toList Rows.stateSmallSpec.vars false W args.toList ds gs before)
    (hwt : (DataW.weightsEach Tryz.prog (Tryz.f4.params.toList ++ Rows.stateSmallSpec.plain.varTypes Tryz.prog) (ds ++ gs)).all (· ≤ reachBytes) = true) (hL : laidMetH Tryz.prog laid3 W) :
    Calls Tryz.prog 4 args W fun e W' => ∃ v, e = .returned v ∧ Rows.stateSmallSpec.post enc Tryz.prog Tryz.f4 false true false false W args v W' := by
  have hlen : ds = [] ∧ gs = [] := by
    obtain ⟨p, q, hA, hV, _⟩ := hW
    have hg : gs = [] := by
      cases gs with
      | nil => rfl
      | cons g gs => exact hV.elim
    have hp : Tryz.f4.params.toList.length = 0 := by kernel_rfl
    have hl := trod_len hA
    rw [hp] at hl
    match ds, hl with
    | [], _ => exact ⟨rfl, hg⟩
  obtain ⟨rfl, rfl⟩ := hlen
  exact law_contract (P := Tryz.prog) (V := VS3) (f := 4) (fn := Tryz.f4) (s := Rows.stateSmallSpec) (stop := []) stops mixed vok3 laidOut (par_of pars4) kinds4 (bt := 4) rt4 bool4 rfl (fun xs h => law4' xs h) (laid_T hL) hval hW hwt rfl rfl rfl
set_option maxRecDepth 100000 in
theorem lifted4 (os : Os) (started : os.Started) (H : Type) (enc : TypeId × Value → H) :
    ReturnsInHanded {} Tryz.checked os 4 .any (fun w args => (Rows.stateSmallSpec.pre enc Tryz.prog Tryz.f4 [] false w args ∧ laidMetH Tryz.prog laid3 w) ∧ sizedMet enc Tryz.prog Tryz.f4 (OpenSpec.ofChange Rows.stateSmallSpec) false w args)
      (Rows.stateSmallSpec.post enc Tryz.prog Tryz.f4 false true false false) := by
  refine returnsInHanded_of_change_and (C := Tryz.checked) (X := fun w _ => laidMetH Tryz.prog laid3 w) (fun _ _ _ hh h => h.of_heap hh) own started (by kernel_rfl) Tryz.func4
    (ChangeSpec.witness_shaped (enc := enc) (C := Tryz.checked) (os := os) (X := fun w _ => laidMetH Tryz.prog laid3 w) false (World.doorLaid Tryz.prog 400 os) #[] 8 rfl (World.shaped_of_RefB (by kernel_rfl) (by kernel_rfl)) (by kernel_rfl) (by kernel_rfl) (by kernel_rfl) (door_met os _)) ?_
  intro W base args ds gs before hval hW _ hwt hL _
  exact contract4 H enc W base args ds gs before hval hW hwt hL
end Go.Proofs.YtnhbopeopppojaaGreatDoor.Dv
namespace Go.Proofs.YtnhbopeopppojaaGreatDoor
open Go.Dm Go.Proofs
theorem stateSmall_holds : Rows.StateSmallSaid :=
  OpenClaim.holds_of_wide 4 Tryz.f4 rfl rfl rfl rfl rfl rfl rfl ⟨rfl, rfl, rfl, rfl, rfl⟩ rfl rfl rfl rfl rfl (by kernel_rfl) Tryz.func4 (by kernel_rfl)
    (of_decide_eq_true (by kernel_rfl)) (by unfold Func.isWrapper; first | (rw [if_pos (by decide +kernel)]; kernel_rfl) | (rw [if_neg (by decide +kernel)]; exact ⟨rfl, rfl⟩))
    (fun os started H enc _ => Dv.lifted4 os started H enc)
theorem stateSmall_card_holds : Rows.StateSmallCardSaid :=
  Claim7.holds_tied_plain_at .later [] [.data, .data, .data] true (true, "4d41835dcd73ab4f1d2cb3572f7e948a5de076cb8bebe58e24a61b688484a91f") true
    stateSmall_holds (fun _ h => by cases h) (by kernel_rfl) (fun _ h => by cases h) stateSmall_row_tie rfl ⟨rfl, rfl⟩ (by kernel_rfl) rfl
    (fun f fn hf hfn => by
      obtain rfl : f = 4 := Option.some.inj ((show Tryz.prog.funcNamed "annuitant/annuitantlaw39.StateSmall" = some 4 by kernel_rfl).symm.trans hf) |>.symm
      obtain rfl : fn = Tryz.f4 := (Option.some.inj (Tryz.func4.symm.trans hfn)).symm
      exact ⟨by kernel_rfl, fun j t ht => by
        rw [Tryz.params4] at ht
        have hm : t ∈ ([] : List TypeId) := by simpa using Array.mem_of_getElem? ht
        have hall : (([] : List TypeId).all fun u => !Tryz.prog.wantsStandIn u) = true := by kernel_rfl
        exact (show Tryz.prog.wantsStandIn t = false by simpa using List.all_eq_true.1 hall t hm)⟩)
    (by kernel_rfl)
end Go.Proofs.YtnhbopeopppojaaGreatDoor
#print axioms Go.Proofs.YtnhbopeopppojaaGreatDoor.stateSmall_card_holds
