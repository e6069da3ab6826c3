/-
  For every input the law StateChain returns true, and each argument reads behind the call as it read before; the listed package-level variables are tied to the program's text. Conditions: those of the given card, no others.
-/
import Derived.Test.YtnhbopeopppojaaDoorKb
import Derived.Test.YtnhbopeopppojaaDoorTm
namespace Go.Proofs.YtnhbopeopppojaaDoor.Dv
open Go.Dm Go.Proofs

theorem pars9 : parOk Tryd.prog Tryd.f9.params.toList = true := by kernel_rfl
abbrev PT9 : List (Bool × List T) := [(true, rsT)]
theorem kinds9 : paramsT Tryd.prog [] Tryd.f9.params.toList = some PT9 := by kernel_rfl
theorem rt9 : Tryd.f9.resultTypes = #[4] := by kernel_rfl
theorem law9' (xs : List D) (h : HasPs (envOf Tryd.prog []) PT9 xs) : ∃ n, pcall VS n 9 xs = .ret (.b true) := by
  cases h with | cons ha h =>
  cases h
  obtain ⟨s, h1, h2⟩ := is_rst ha
  exact law9 h1 h2

set_option maxRecDepth 100000 in
theorem contract9 (H : Type) (enc : TypeId × Value → H) (W : World) (base : Nat) (args : Array Value) (ds gs : List (DataW H)) (before : List MemPlace)
    (hval : ∀ (j : Nat) t v, Tryd.f9.params[j]? = some t → args[j]? = some v → Value.okWide Tryd.prog W .any base t v)
    (hW : DataW.Whole enc Tryd.prog Tryd.f9.params.toList Rows.stateChainSpec.vars false W args.toList ds gs before)
    (hwt : (DataW.weightsEach Tryd.prog (Tryd.f9.params.toList ++ Rows.stateChainSpec.plain.varTypes Tryd.prog) (ds ++ gs)).all (· ≤ reachBytes) = true) (hL : laidMetH Tryd.prog laid3 W) :
    Calls Tryd.prog 9 args W fun e W' => ∃ v, e = .returned v ∧ Rows.stateChainSpec.post enc Tryd.prog Tryd.f9 false true false false W args v W' := by
  have hlen : ∃ d1, ds = [d1] ∧ gs = [] := by
    obtain ⟨p, q, hA, hV, _⟩ := hW
    have hg : gs = [] := by
      cases gs with
      | nil => rfl
      | cons g gs => exact hV.elim
    have hp : Tryd.f9.params.toList.length = 1 := by kernel_rfl
    have hl := trod_len hA
    rw [hp] at hl
    match ds, hl with
    | [d1], _ => exact ⟨d1, rfl, hg⟩
  obtain ⟨d1, rfl, rfl⟩ := hlen
  exact law_contract (P := Tryd.prog) (V := VS) (f := 9) (fn := Tryd.f9) (s := Rows.stateChainSpec) (stop := []) stops mixed vokS laidOut (par_of pars9) kinds9 (bt := 4) rt9 bool4 rfl (fun xs h => law9' xs h) (laid_T hL) hval hW hwt rfl rfl rfl

set_option maxRecDepth 100000 in
theorem lifted9 (os : Os) (started : os.Started) (H : Type) (enc : TypeId × Value → H) :
    ReturnsInHanded {} Tryd.checked os 9 .any (fun w args => (Rows.stateChainSpec.pre enc Tryd.prog Tryd.f9 [] false w args ∧ laidMetH Tryd.prog laid3 w) ∧ sizedMet enc Tryd.prog Tryd.f9 (OpenSpec.ofChange Rows.stateChainSpec) false w args)
      (Rows.stateChainSpec.post enc Tryd.prog Tryd.f9 false true false false) := by
  refine returnsInHanded_of_change_and (C := Tryd.checked) (X := fun w _ => laidMetH Tryd.prog laid3 w) (fun _ _ _ hh h => h.of_heap hh) own started (by kernel_rfl) Tryd.func9
    (ChangeSpec.witness_shaped (enc := enc) (C := Tryd.checked) (os := os) (X := fun w _ => laidMetH Tryd.prog laid3 w) false (World.doorLaid Tryd.prog 400 os) #[.agg #[.int .i64 0, .slice none 0 0, .slice none 0 0, .int .i64 0, .int .i64 0, .int .i64 0, .slice none 0 0]] 8 rfl (World.shaped_of_RefB (by kernel_rfl) (by kernel_rfl)) (by kernel_rfl) (by kernel_rfl) (by kernel_rfl) (door_met os _)) ?_
  intro W base args ds gs before hval hW _ hwt hL _
  exact contract9 H enc W base args ds gs before hval hW hwt hL
end Go.Proofs.YtnhbopeopppojaaDoor.Dv
namespace Go.Proofs.YtnhbopeopppojaaDoor
open Go.Dm Go.Proofs
theorem stateChain_holds : Rows.StateChainSaid :=
  OpenClaim.holds_of_wide 9 Tryd.f9 rfl rfl rfl rfl rfl rfl rfl ⟨rfl, rfl, rfl, rfl, rfl⟩ rfl rfl rfl rfl rfl (by kernel_rfl) Tryd.func9 (by kernel_rfl)
    (of_decide_eq_true (by kernel_rfl)) (by unfold Func.isWrapper; first | (rw [if_pos (by decide +kernel)]; kernel_rfl) | (rw [if_neg (by decide +kernel)]; exact ⟨rfl, rfl⟩))
    (fun os started H enc _ => Dv.lifted9 os started H enc)
theorem stateChain_card_holds : Rows.StateChainCardSaid :=
  Claim7.holds_tied_plain_at .later [] [.data, .data, .data] true (true, "e09641f2b7fa0255b9d6174e27189e5eeb1c577739ed6e86885e6e9c40942df8") true
    stateChain_holds (fun _ h => by cases h) (by kernel_rfl) (fun _ h => by cases h) stateChain_row_tie rfl ⟨rfl, rfl⟩ (by kernel_rfl) rfl
    (fun f fn hf hfn => by
      obtain rfl : f = 9 := Option.some.inj ((show Tryd.prog.funcNamed "annuitant/annuitantlaw39.StateChain" = some 9 by kernel_rfl).symm.trans hf) |>.symm
      obtain rfl : fn = Tryd.f9 := (Option.some.inj (Tryd.func9.symm.trans hfn)).symm
      exact ⟨by kernel_rfl, fun j t ht => by
        rw [Tryd.params9] at ht
        have hm : t ∈ [30] := by simpa using Array.mem_of_getElem? ht
        have hall : ([30].all fun u => !Tryd.prog.wantsStandIn u) = true := by kernel_rfl
        exact (show Tryd.prog.wantsStandIn t = false by simpa using List.all_eq_true.1 hall t hm)⟩)
    (by kernel_rfl)
end Go.Proofs.YtnhbopeopppojaaDoor
#print axioms Go.Proofs.YtnhbopeopppojaaDoor.stateChain_card_holds
