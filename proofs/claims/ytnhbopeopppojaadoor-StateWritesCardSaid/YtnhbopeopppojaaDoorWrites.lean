/-
  For every input the law StateWrites returns true, and each argument reads behind the call as it read before; the listed package-level variables are tied to the program's text. Conditions: those of the given card, no others.
-/
import Derived.Test.YtnhbopeopppojaaDoorKa
import Derived.Test.YtnhbopeopppojaaDoorSr
namespace Go.Proofs.YtnhbopeopppojaaDoor.Dv
open Go.Dm Go.Proofs

theorem pars4 : parOk Tryd.prog Tryd.f4.params.toList = true := by kernel_rfl
abbrev PT4 : List (Bool × List T) := [(true, stT)]
theorem kinds4 : paramsT Tryd.prog [] Tryd.f4.params.toList = some PT4 := by kernel_rfl
theorem rt4 : Tryd.f4.resultTypes = #[4] := by kernel_rfl
theorem law4' (xs : List D) (h : HasPs (envOf Tryd.prog []) PT4 xs) : ∃ n, pcall VS n 4 xs = .ret (.b true) := by
  cases h with | cons ha h =>
  cases h
  obtain ⟨s, h1, h2, _⟩ := is_stm ha
  exact law4 h1 h2

set_option maxRecDepth 100000 in
theorem contract4 (H : Type) (enc : TypeId × Value → H) (W : World) (base : Nat) (args : Array Value) (ds gs : List (DataW H)) (before : List MemPlace)
    (hval : ∀ (j : Nat) t v, Tryd.f4.params[j]? = some t → args[j]? = some v → Value.okWide Tryd.prog W .any base t v)
    (hW : DataW.Whole enc Tryd.prog Tryd.f4.params.toList Rows.stateWritesSpec.vars false W args.toList ds gs before)
    (hwt : (DataW.weightsEach Tryd.prog (Tryd.f4.params.toList ++ Rows.stateWritesSpec.plain.varTypes Tryd.prog) (ds ++ gs)).all (· ≤ reachBytes) = true) (hL : laidMetH Tryd.prog laid3 W) :
    Calls Tryd.prog 4 args W fun e W' => ∃ v, e = .returned v ∧ Rows.stateWritesSpec.post enc Tryd.prog Tryd.f4 false true false false W args v W' := by
  have hlen : ∃ d1, ds = [d1] ∧ gs = [] := by
    obtain ⟨p, q, hA, hV, _⟩ := hW
    have hg : gs = [] := by
      cases gs with
      | nil => rfl
      | cons g gs => exact hV.elim
    have hp : Tryd.f4.params.toList.length = 1 := by kernel_rfl
    have hl := trod_len hA
    rw [hp] at hl
    match ds, hl with
    | [d1], _ => exact ⟨d1, rfl, hg⟩
  obtain ⟨d1, rfl, rfl⟩ := hlen
  exact law_contract (P := Tryd.prog) (V := VS) (f := 4) (fn := Tryd.f4) (s := Rows.stateWritesSpec) (stop := []) stops mixed vokS laidOut (par_of pars4) kinds4 (bt := 4) rt4 bool4 rfl (fun xs h => law4' xs h) (laid_T hL) hval hW hwt rfl rfl rfl

set_option maxRecDepth 100000 in
theorem lifted4 (os : Os) (started : os.Started) (H : Type) (enc : TypeId × Value → H) :
    ReturnsInHanded {} Tryd.checked os 4 .any (fun w args => (Rows.stateWritesSpec.pre enc Tryd.prog Tryd.f4 [] false w args ∧ laidMetH Tryd.prog laid3 w) ∧ sizedMet enc Tryd.prog Tryd.f4 (OpenSpec.ofChange Rows.stateWritesSpec) false w args)
      (Rows.stateWritesSpec.post enc Tryd.prog Tryd.f4 false true false false) := by
  refine returnsInHanded_of_change_and (C := Tryd.checked) (X := fun w _ => laidMetH Tryd.prog laid3 w) (fun _ _ _ hh h => h.of_heap hh) own started (by kernel_rfl) Tryd.func4
    (ChangeSpec.witness_shaped (enc := enc) (C := Tryd.checked) (os := os) (X := fun w _ => laidMetH Tryd.prog laid3 w) false (World.doorLaid Tryd.prog 400 os) #[.agg #[.int .i64 0, .int .i64 0, .int .i64 0, .slice none 0 0, .int .i64 0, .int .i64 0, .int .i64 0, .int .i64 0]] 8 rfl (World.shaped_of_RefB (by kernel_rfl) (by kernel_rfl)) (by kernel_rfl) (by kernel_rfl) (by kernel_rfl) (door_met os _)) ?_
  intro W base args ds gs before hval hW _ hwt hL _
  exact contract4 H enc W base args ds gs before hval hW hwt hL
end Go.Proofs.YtnhbopeopppojaaDoor.Dv
namespace Go.Proofs.YtnhbopeopppojaaDoor
open Go.Dm Go.Proofs
theorem stateWrites_holds : Rows.StateWritesSaid :=
  OpenClaim.holds_of_wide 4 Tryd.f4 rfl rfl rfl rfl rfl rfl rfl ⟨rfl, rfl, rfl, rfl, rfl⟩ rfl rfl rfl rfl rfl (by kernel_rfl) Tryd.func4 (by kernel_rfl)
    (of_decide_eq_true (by kernel_rfl)) (by unfold Func.isWrapper; first | (rw [if_pos (by decide +kernel)]; kernel_rfl) | (rw [if_neg (by decide +kernel)]; exact ⟨rfl, rfl⟩))
    (fun os started H enc _ => Dv.lifted4 os started H enc)
theorem stateWrites_card_holds : Rows.StateWritesCardSaid :=
  Claim7.holds_tied_plain_at .later [] [.data, .data, .data] true (true, "e09641f2b7fa0255b9d6174e27189e5eeb1c577739ed6e86885e6e9c40942df8") true
    stateWrites_holds (fun _ h => by cases h) (by kernel_rfl) (fun _ h => by cases h) stateWrites_row_tie rfl ⟨rfl, rfl⟩ (by kernel_rfl) rfl
    (fun f fn hf hfn => by
      obtain rfl : f = 4 := Option.some.inj ((show Tryd.prog.funcNamed "annuitant/annuitantlaw39.StateWrites" = some 4 by kernel_rfl).symm.trans hf) |>.symm
      obtain rfl : fn = Tryd.f4 := (Option.some.inj (Tryd.func4.symm.trans hfn)).symm
      exact ⟨by kernel_rfl, fun j t ht => by
        rw [Tryd.params4] at ht
        have hm : t ∈ [36] := by simpa using Array.mem_of_getElem? ht
        have hall : ([36].all fun u => !Tryd.prog.wantsStandIn u) = true := by kernel_rfl
        exact (show Tryd.prog.wantsStandIn t = false by simpa using List.all_eq_true.1 hall t hm)⟩)
    (by kernel_rfl)
end Go.Proofs.YtnhbopeopppojaaDoor
#print axioms Go.Proofs.YtnhbopeopppojaaDoor.stateWrites_card_holds
