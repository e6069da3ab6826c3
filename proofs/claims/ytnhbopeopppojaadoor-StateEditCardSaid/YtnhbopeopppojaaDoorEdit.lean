/-
  For every input the law StateEdit returns true, and each argument reads behind the call as it read before; the listed package-level variables are tied to the program's text. Conditions: those of the given card, no others.
-/
import Derived.Test.YtnhbopeopppojaaDoorKa
import Derived.Test.YtnhbopeopppojaaDoorSl
namespace Go.Proofs.YtnhbopeopppojaaDoor.Dv
open Go.Dm Go.Proofs

theorem pars7 : parOk Tryd.prog Tryd.f7.params.toList = true := by kernel_rfl
abbrev PT7 : List (Bool × List T) := [(true, stT), (false, [.i .u16]), (false, [.i .u8])]
theorem kinds7 : paramsT Tryd.prog [] Tryd.f7.params.toList = some PT7 := by kernel_rfl
theorem rt7 : Tryd.f7.resultTypes = #[4] := by kernel_rfl
theorem law7' (xs : List D) (h : HasPs (envOf Tryd.prog []) PT7 xs) : ∃ n, pcall VS n 7 xs = .ret (.b true) := by
  cases h with | cons ha h =>
  cases h with | cons hb h =>
  cases h with | cons hc h =>
  cases h
  obtain ⟨s, h1, h2, _⟩ := is_stm ha
  obtain ⟨at_, rfl, h3⟩ := is_int hb
  obtain ⟨dg, rfl, h4⟩ := is_int hc
  exact law7 h1 h2 h3 h4

set_option maxRecDepth 100000 in
theorem contract7 (H : Type) (enc : TypeId × Value → H) (W : World) (base : Nat) (args : Array Value) (ds gs : List (DataW H)) (before : List MemPlace)
    (hval : ∀ (j : Nat) t v, Tryd.f7.params[j]? = some t → args[j]? = some v → Value.okWide Tryd.prog W .any base t v)
    (hW : DataW.Whole enc Tryd.prog Tryd.f7.params.toList Rows.stateEditSpec.vars false W args.toList ds gs before)
    (hwt : (DataW.weightsEach Tryd.prog (Tryd.f7.params.toList ++ Rows.stateEditSpec.plain.varTypes Tryd.prog) (ds ++ gs)).all (· ≤ reachBytes) = true) (hL : laidMetH Tryd.prog laid3 W) :
    Calls Tryd.prog 7 args W fun e W' => ∃ v, e = .returned v ∧ Rows.stateEditSpec.post enc Tryd.prog Tryd.f7 false true false false W args v W' := by
  have hlen : ∃ d1 d2 d3, ds = [d1, d2, d3] ∧ gs = [] := by
    obtain ⟨p, q, hA, hV, _⟩ := hW
    have hg : gs = [] := by
      cases gs with
      | nil => rfl
      | cons g gs => exact hV.elim
    have hp : Tryd.f7.params.toList.length = 3 := by kernel_rfl
    have hl := trod_len hA
    rw [hp] at hl
    match ds, hl with
    | [d1, d2, d3], _ => exact ⟨d1, d2, d3, rfl, hg⟩
  obtain ⟨d1, d2, d3, rfl, rfl⟩ := hlen
  exact law_contract (P := Tryd.prog) (V := VS) (f := 7) (fn := Tryd.f7) (s := Rows.stateEditSpec) (stop := []) stops mixed vokS laidOut (par_of pars7) kinds7 (bt := 4) rt7 bool4 rfl (fun xs h => law7' xs h) (laid_T hL) hval hW hwt rfl rfl rfl

set_option maxRecDepth 100000 in
theorem lifted7 (os : Os) (started : os.Started) (H : Type) (enc : TypeId × Value → H) :
    ReturnsInHanded {} Tryd.checked os 7 .any (fun w args => (Rows.stateEditSpec.pre enc Tryd.prog Tryd.f7 [] false w args ∧ laidMetH Tryd.prog laid3 w) ∧ sizedMet enc Tryd.prog Tryd.f7 (OpenSpec.ofChange Rows.stateEditSpec) false w args)
      (Rows.stateEditSpec.post enc Tryd.prog Tryd.f7 false true false false) := by
  refine returnsInHanded_of_change_and (C := Tryd.checked) (X := fun w _ => laidMetH Tryd.prog laid3 w) (fun _ _ _ hh h => h.of_heap hh) own started (by kernel_rfl) Tryd.func7
    (ChangeSpec.witness_shaped (enc := enc) (C := Tryd.checked) (os := os) (X := fun w _ => laidMetH Tryd.prog laid3 w) false (World.doorLaid Tryd.prog 400 os) #[.agg #[.int .i64 0, .int .i64 0, .int .i64 0, .slice none 0 0, .int .i64 0, .int .i64 0, .int .i64 0, .int .i64 0], .int .u16 0, .int .u8 0] 8 rfl (World.shaped_of_RefB (by kernel_rfl) (by kernel_rfl)) (by kernel_rfl) (by kernel_rfl) (by kernel_rfl) (door_met os _)) ?_
  intro W base args ds gs before hval hW _ hwt hL _
  exact contract7 H enc W base args ds gs before hval hW hwt hL
end Go.Proofs.YtnhbopeopppojaaDoor.Dv
namespace Go.Proofs.YtnhbopeopppojaaDoor
open Go.Dm Go.Proofs
theorem stateEdit_holds : Rows.StateEditSaid :=
  OpenClaim.holds_of_wide 7 Tryd.f7 rfl rfl rfl rfl rfl rfl rfl ⟨rfl, rfl, rfl, rfl, rfl⟩ rfl rfl rfl rfl rfl (by kernel_rfl) Tryd.func7 (by kernel_rfl)
    (of_decide_eq_true (by kernel_rfl)) (by unfold Func.isWrapper; first | (rw [if_pos (by decide +kernel)]; kernel_rfl) | (rw [if_neg (by decide +kernel)]; exact ⟨rfl, rfl⟩))
    (fun os started H enc _ => Dv.lifted7 os started H enc)
theorem stateEdit_card_holds : Rows.StateEditCardSaid :=
  Claim7.holds_tied_plain_at .later [] [.data, .data, .data] true (true, "e09641f2b7fa0255b9d6174e27189e5eeb1c577739ed6e86885e6e9c40942df8") true
    stateEdit_holds (fun _ h => by cases h) (by kernel_rfl) (fun _ h => by cases h) stateEdit_row_tie rfl ⟨rfl, rfl⟩ (by kernel_rfl) rfl
    (fun f fn hf hfn => by
      obtain rfl : f = 7 := Option.some.inj ((show Tryd.prog.funcNamed "annuitant/annuitantlaw39.StateEdit" = some 7 by kernel_rfl).symm.trans hf) |>.symm
      obtain rfl : fn = Tryd.f7 := (Option.some.inj (Tryd.func7.symm.trans hfn)).symm
      exact ⟨by kernel_rfl, fun j t ht => by
        rw [Tryd.params7] at ht
        have hm : t ∈ [36, 45, 5] := by simpa using Array.mem_of_getElem? ht
        have hall : ([36, 45, 5].all fun u => !Tryd.prog.wantsStandIn u) = true := by kernel_rfl
        exact (show Tryd.prog.wantsStandIn t = false by simpa using List.all_eq_true.1 hall t hm)⟩)
    (by kernel_rfl)
end Go.Proofs.YtnhbopeopppojaaDoor
#print axioms Go.Proofs.YtnhbopeopppojaaDoor.stateEdit_card_holds
