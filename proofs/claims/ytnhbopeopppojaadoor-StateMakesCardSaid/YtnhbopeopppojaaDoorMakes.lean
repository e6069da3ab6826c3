/-
  For every input the law StateMakes returns true, and each argument reads behind the call as it read before; the listed package-level variables are tied to the program's text. Conditions: those of the given card, no others.
-/
import Derived.Test.YtnhbopeopppojaaDoorKb
import Derived.Test.YtnhbopeopppojaaDoorTj
namespace Go.Proofs.YtnhbopeopppojaaDoor.Dv
open Go.Dm Go.Proofs

theorem pars3 : parOk Tryd.prog Tryd.f3.params.toList = true := by kernel_rfl
abbrev PT3 : List (Bool × List T) := [(true, rsT), (false, [.i .i64])]
theorem kinds3 : paramsT Tryd.prog [] Tryd.f3.params.toList = some PT3 := by kernel_rfl
theorem rt3 : Tryd.f3.resultTypes = #[4] := by kernel_rfl
theorem law3' (xs : List D) (h : HasPs (envOf Tryd.prog []) PT3 xs) : ∃ n, pcall VS n 3 xs = .ret (.b true) := by
  cases h with | cons ha h =>
  cases h with | cons hb h =>
  cases h
  obtain ⟨s, h1, h2⟩ := is_rst ha
  obtain ⟨y, rfl, _⟩ := is_int hb
  exact law3 h1 h2

set_option maxRecDepth 100000 in
theorem contract3 (H : Type) (enc : TypeId × Value → H) (W : World) (base : Nat) (args : Array Value) (ds gs : List (DataW H)) (before : List MemPlace)
    (hval : ∀ (j : Nat) t v, Tryd.f3.params[j]? = some t → args[j]? = some v → Value.okWide Tryd.prog W .any base t v)
    (hW : DataW.Whole enc Tryd.prog Tryd.f3.params.toList Rows.stateMakesSpec.vars false W args.toList ds gs before)
    (hwt : (DataW.weightsEach Tryd.prog (Tryd.f3.params.toList ++ Rows.stateMakesSpec.plain.varTypes Tryd.prog) (ds ++ gs)).all (· ≤ reachBytes) = true) (hL : laidMetH Tryd.prog laid3 W) :
    Calls Tryd.prog 3 args W fun e W' => ∃ v, e = .returned v ∧ Rows.stateMakesSpec.post enc Tryd.prog Tryd.f3 false true false false W args v W' := by
  have hlen : ∃ d1 d2, ds = [d1, d2] ∧ gs = [] := by
    obtain ⟨p, q, hA, hV, _⟩ := hW
    have hg : gs = [] := by
      cases gs with
      | nil => rfl
      | cons g gs => exact hV.elim
    have hp : Tryd.f3.params.toList.length = 2 := by kernel_rfl
    have hl := trod_len hA
    rw [hp] at hl
    match ds, hl with
    | [d1, d2], _ => exact ⟨d1, d2, rfl, hg⟩
  obtain ⟨d1, d2, rfl, rfl⟩ := hlen
  exact law_contract (P := Tryd.prog) (V := VS) (f := 3) (fn := Tryd.f3) (s := Rows.stateMakesSpec) (stop := []) stops mixed vokS laidOut (par_of pars3) kinds3 (bt := 4) rt3 bool4 rfl (fun xs h => law3' xs h) (laid_T hL) hval hW hwt rfl rfl rfl

set_option maxRecDepth 100000 in
theorem lifted3 (os : Os) (started : os.Started) (H : Type) (enc : TypeId × Value → H) :
    ReturnsInHanded {} Tryd.checked os 3 .any (fun w args => (Rows.stateMakesSpec.pre enc Tryd.prog Tryd.f3 [] false w args ∧ laidMetH Tryd.prog laid3 w) ∧ sizedMet enc Tryd.prog Tryd.f3 (OpenSpec.ofChange Rows.stateMakesSpec) false w args)
      (Rows.stateMakesSpec.post enc Tryd.prog Tryd.f3 false true false false) := by
  refine returnsInHanded_of_change_and (C := Tryd.checked) (X := fun w _ => laidMetH Tryd.prog laid3 w) (fun _ _ _ hh h => h.of_heap hh) own started (by kernel_rfl) Tryd.func3
    (ChangeSpec.witness_shaped (enc := enc) (C := Tryd.checked) (os := os) (X := fun w _ => laidMetH Tryd.prog laid3 w) false (World.doorLaid Tryd.prog 400 os) #[.agg #[.int .i64 0, .slice none 0 0, .slice none 0 0, .int .i64 0, .int .i64 0, .int .i64 0, .slice none 0 0], .int .i64 0] 8 rfl (World.shaped_of_RefB (by kernel_rfl) (by kernel_rfl)) (by kernel_rfl) (by kernel_rfl) (by kernel_rfl) (door_met os _)) ?_
  intro W base args ds gs before hval hW _ hwt hL _
  exact contract3 H enc W base args ds gs before hval hW hwt hL
end Go.Proofs.YtnhbopeopppojaaDoor.Dv
namespace Go.Proofs.YtnhbopeopppojaaDoor
open Go.Dm Go.Proofs
theorem stateMakes_holds : Rows.StateMakesSaid :=
  OpenClaim.holds_of_wide 3 Tryd.f3 rfl rfl rfl rfl rfl rfl rfl ⟨rfl, rfl, rfl, rfl, rfl⟩ rfl rfl rfl rfl rfl (by kernel_rfl) Tryd.func3 (by kernel_rfl)
    (of_decide_eq_true (by kernel_rfl)) (by unfold Func.isWrapper; first | (rw [if_pos (by decide +kernel)]; kernel_rfl) | (rw [if_neg (by decide +kernel)]; exact ⟨rfl, rfl⟩))
    (fun os started H enc _ => Dv.lifted3 os started H enc)
theorem stateMakes_card_holds : Rows.StateMakesCardSaid :=
  Claim7.holds_tied_plain_at .later [] [.data, .data, .data] true (true, "e09641f2b7fa0255b9d6174e27189e5eeb1c577739ed6e86885e6e9c40942df8") true
    stateMakes_holds (fun _ h => by cases h) (by kernel_rfl) (fun _ h => by cases h) stateMakes_row_tie rfl ⟨rfl, rfl⟩ (by kernel_rfl) rfl
    (fun f fn hf hfn => by
      obtain rfl : f = 3 := Option.some.inj ((show Tryd.prog.funcNamed "annuitant/annuitantlaw39.StateMakes" = some 3 by kernel_rfl).symm.trans hf) |>.symm
      obtain rfl : fn = Tryd.f3 := (Option.some.inj (Tryd.func3.symm.trans hfn)).symm
      exact ⟨by kernel_rfl, fun j t ht => by
        rw [Tryd.params3] at ht
        have hm : t ∈ [30, 3] := by simpa using Array.mem_of_getElem? ht
        have hall : ([30, 3].all fun u => !Tryd.prog.wantsStandIn u) = true := by kernel_rfl
        exact (show Tryd.prog.wantsStandIn t = false by simpa using List.all_eq_true.1 hall t hm)⟩)
    (by kernel_rfl)
end Go.Proofs.YtnhbopeopppojaaDoor
#print axioms Go.Proofs.YtnhbopeopppojaaDoor.stateMakes_card_holds
