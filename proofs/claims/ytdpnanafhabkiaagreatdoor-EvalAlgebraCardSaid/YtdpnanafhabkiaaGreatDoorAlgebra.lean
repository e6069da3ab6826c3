/-
  For every input the law EvalAlgebra returns true, and each argument reads behind the call as it read before; the listed package-level variables are tied to the program's text. Conditions: those of the given card, no others.
-/
import Derived.Test.YtdpnanafhabkiaaGreatDoorKa
import Derived.Test.YtdpnanafhabkiaaGreatDoorQ
namespace Go.Proofs.YtdpnanafhabkiaaGreatDoor.Dv
open Go.Dm Go.Proofs
theorem pars4 : parOk Tryz.prog Tryz.f4.params.toList = true := by kernel_rfl
abbrev PT4 : List FT := [.i .u16, .i .u16, .i .u16, .b]
theorem kinds4 : flatTs Tryz.prog Tryz.f4.params.toList = some PT4 := by kernel_rfl
theorem rt4 : Tryz.f4.resultTypes = #[4] := by kernel_rfl
theorem law4' (xs : List D) (h : HasFs PT4 xs) : ∃ n, pcall VS n 4 xs = .ret (.b true) := by
 cases h with | cons ha h =>
 cases h with | cons hb h =>
 cases h with | cons hc h =>
 cases h with | cons hd h =>
 cases h
 obtain ⟨a, rfl, a1, a2⟩ := is_int ha
 obtain ⟨b, rfl, b1, b2⟩ := is_int hb
 obtain ⟨e, rfl, e1, e2⟩ := is_int hc
 obtain ⟨m, rfl⟩ := is_bool hd
 have a0 : 0 <= a := a1
 have b0 : 0 <= b := b1
 have e0 : 0 <= e := e1
 have a3 : a <= 65535 := a2
 have b3 : b <= 65535 := b2
 have e3 : e <= 65535 := e2
 obtain ⟨A, rfl⟩ := Int.eq_ofNat_of_zero_le a0
 obtain ⟨B, rfl⟩ := Int.eq_ofNat_of_zero_le b0
 obtain ⟨E, rfl⟩ := Int.eq_ofNat_of_zero_le e0
 exact law_q (by omega) (by omega) (by omega)
set_option maxRecDepth 100000 in
theorem contract4 (H : Type) (enc : TypeId × Value -> H) (W : World) (base : Nat) (args : Array Value) (ds gs : List (DataW H)) (before : List MemPlace)
    (hval : ∀ (j : Nat) t v, Tryz.f4.params[j]? = some t -> args[j]? = some v -> Value.okWide Tryz.prog W .any base t v)
    (hW : DataW.Whole enc Tryz.prog Tryz.f4.params.toList Rows.evalAlgebraSpec.vars false W args.toList ds gs before)
    (hwt : (DataW.weightsEach Tryz.prog (Tryz.f4.params.toList ++ Rows.evalAlgebraSpec.plain.varTypes Tryz.prog) (ds ++ gs)).all (· <= reachBytes) = true) (hT : GlobT (knAll W) W) :
    Calls Tryz.prog 4 args W fun e W' => ∃ v, e = .returned v /\ Rows.evalAlgebraSpec.post enc Tryz.prog Tryz.f4 false true false false W args v W' := by
  have hlen : ∃ d1 d2 d3 d4, ds = [d1, d2, d3, d4] /\ gs = [] := by
    obtain ⟨p, q, hA, hV, _⟩ := hW
    have hg : gs = [] := by
      cases gs with
      | nil => rfl
      | cons g gs => exact hV.elim
    have hp : Tryz.f4.params.toList.length = 4 := by kernel_rfl
    have hl := trod_len hA
    rw [hp] at hl
    match ds, hl with
    | [d1, d2, d3, d4], _ => exact ⟨d1, d2, d3, d4, rfl, hg⟩
  obtain ⟨d1, d2, d3, d4, rfl, rfl⟩ := hlen
  exact law_flat (P := Tryz.prog) (V := VS) (f := 4) (fn := Tryz.f4) (s := Rows.evalAlgebraSpec) mixedZ vokS laidOut (par_of pars4) kinds4 (bt := 4) rt4 bool4 rfl (fun xs h => law4' xs h) hT hval hW rfl rfl rfl
set_option maxRecDepth 100000 in
theorem lifted4 (os : Os) (started : os.Started) (H : Type) (enc : TypeId × Value -> H) :
  ReturnsInHanded {} Tryz.checked os 4 .any (fun w args => (Rows.evalAlgebraSpec.pre enc Tryz.prog Tryz.f4 [] false w args /\ laidMetH Tryz.prog laid2 w) /\ sizedMet enc Tryz.prog Tryz.f4 (OpenSpec.ofChange Rows.evalAlgebraSpec) false w args)
   (Rows.evalAlgebraSpec.post enc Tryz.prog Tryz.f4 false true false false) := by
 refine handed_of started (by kernel_rfl) Tryz.func4
  (ChangeSpec.witness_shaped (enc := enc) (C := Tryz.checked) (os := os) (X := fun w _ => laidMetH Tryz.prog laid2 w) false (World.doorLaid Tryz.prog 400 os) #[.int .u16 0, .int .u16 0, .int .u16 0, .bool false] 8 rfl (World.shaped_of_RefB (by kernel_rfl) (by kernel_rfl)) (by kernel_rfl) (by kernel_rfl) (by kernel_rfl) (door_met os _)) ?_
 intro W base args ds gs before hval hW hwt hT
 exact contract4 H enc W base args ds gs before hval hW hwt hT
end Go.Proofs.YtdpnanafhabkiaaGreatDoor.Dv
namespace Go.Proofs.YtdpnanafhabkiaaGreatDoor
open Go.Dm Go.Proofs
theorem evalAlgebra_holds : Rows.EvalAlgebraSaid :=
 OpenClaim.holds_of_wide 4 Tryz.f4 rfl rfl rfl rfl rfl rfl rfl ⟨rfl, rfl, rfl, rfl, rfl⟩ rfl rfl rfl rfl rfl (by kernel_rfl) Tryz.func4 (by kernel_rfl)
  (of_decide_eq_true (by kernel_rfl)) (by unfold Func.isWrapper; first | (rw [if_pos (by decide +kernel)]; kernel_rfl) | (rw [if_neg (by decide +kernel)]; exact ⟨rfl, rfl⟩))
  (fun os started H enc _ => Dv.lifted4 os started H enc)
theorem evalAlgebra_card_holds : Rows.EvalAlgebraCardSaid :=
 Claim7.holds_tied_plain_at .later [] [.data, .data] true (true, "20bd719225acfc4b3a41aacf1046e535642fa5042fa6a5a6e78e38e3491cd116") true
  evalAlgebra_holds (fun _ h => by cases h) (by kernel_rfl) (fun _ h => by cases h) evalAlgebra_row_tie rfl ⟨rfl, rfl⟩ (by kernel_rfl) rfl
  (fun f fn hf hfn => by
   obtain rfl : f = 4 := Option.some.inj ((show Tryz.prog.funcNamed "annuitant/annuitantlaw18.EvalAlgebra" = some 4 by kernel_rfl).symm.trans hf) |>.symm
   obtain rfl : fn = Tryz.f4 := (Option.some.inj (Tryz.func4.symm.trans hfn)).symm
   exact ⟨by kernel_rfl, fun j t ht => by
    rw [Tryz.params4] at ht
    have hm : t ∈ [22, 22, 22, 4] := by simpa using Array.mem_of_getElem? ht
    have hall : ([22, 22, 22, 4].all fun u => !Tryz.prog.wantsStandIn u) = true := by kernel_rfl
    exact (show Tryz.prog.wantsStandIn t = false by simpa using List.all_eq_true.1 hall t hm)⟩)
  (by kernel_rfl)
end Go.Proofs.YtdpnanafhabkiaaGreatDoor
#print axioms Go.Proofs.YtdpnanafhabkiaaGreatDoor.evalAlgebra_card_holds
