/-
  For every input the law RecalcAmounts returns true,and each argument reads behind the call as it read before;the listed package-level variables are tied to the program's text. Conditions: those of the given card,no others.
-/
import Derived.Test.YtgefdialaemelaaGreatDoorKa
import Derived.Test.YtgefdialaemelaaGreatDoorR
import Derived.Test.YtgefdialaemelaaGreatDoorS
namespace Go.Proofs.YtgefdialaemelaaGreatDoor.Dv
open Go.Dm Go.Proofs
theorem pars3:parOk Tryz.prog Tryz.f3.params.toList=true:=by kernel_rfl
abbrev PT3:List FT:=[.i .u64,.i .u16,.i .u16]
theorem kinds3:flatTs Tryz.prog Tryz.f3.params.toList=some PT3:=by kernel_rfl
theorem rt3:Tryz.f3.resultTypes = #[4]:=by kernel_rfl
theorem law3' (xs:List D) (h:HasFs PT3 xs) : ∃ n,pcall VS n 3 xs = .ret (.b true):=by
 cases h with|cons ha h =>
 cases h with|cons hb h =>
 cases h with|cons hc h =>
 cases h
 obtain⟨a,rfl,a1,a2⟩:=is_int ha
 obtain⟨b,rfl,b1,b2⟩:=is_int hb
 obtain⟨e,rfl,e1,e2⟩:=is_int hc
 have a0:0 <= a:=a1
 have b0:0 <= b:=b1
 have e0:0 <= e:=e1
 have a3:a <= 18446744073709551615:=a2
 have b3:b <= 65535:=b2
 have e3:e <= 65535:=e2
 obtain⟨A,rfl⟩:=Int.eq_ofNat_of_zero_le a0
 obtain⟨B,rfl⟩:=Int.eq_ofNat_of_zero_le b0
 obtain⟨E,rfl⟩:=Int.eq_ofNat_of_zero_le e0
 exact law_q (by omega) (by omega) (by omega)
set_option maxRecDepth 100000 in
theorem contract3 (H:Type) (enc:TypeId×Value -> H) (W:World) (base:Nat) (args:Array Value) (ds gs:List (DataW H)) (before:List MemPlace)
    (hval : ∀ (j:Nat) t v,Tryz.f3.params[j]?=some t -> args[j]?=some v -> Value.okWide Tryz.prog W .any base t v)
    (hW:DataW.Whole enc Tryz.prog Tryz.f3.params.toList Rows.recalcAmountsSpec.vars false W args.toList ds gs before)
    (hwt:(DataW.weightsEach Tryz.prog (Tryz.f3.params.toList++Rows.recalcAmountsSpec.plain.varTypes Tryz.prog) (ds++gs)).all (· <= reachBytes)=true) (hT:GlobT (knAll W) W) :
    Calls Tryz.prog 3 args W fun e W' => ∃ v,e = .returned v /\ Rows.recalcAmountsSpec.post enc Tryz.prog Tryz.f3 false true false false W args v W':=by
  have hlen : ∃ d1 d2 d3,ds=[d1,d2,d3] /\ gs=[]:=by
    obtain⟨p,q,hA,hV,_⟩:=hW
    have hg:gs=[]:=by
      cases gs with
      | nil=>rfl
      | cons g gs=>exact hV.elim
    have hp:Tryz.f3.params.toList.length=3:=by kernel_rfl
    have hl:=trod_len hA
    rw[hp]at hl
    match ds,hl with
    | [d1,d2,d3],_=>exact⟨d1,d2,d3,rfl,hg⟩
  obtain⟨d1,d2,d3,rfl,rfl⟩:=hlen
  exact law_flat (P:=Tryz.prog) (V:=VS) (f:=3) (fn:=Tryz.f3) (s:=Rows.recalcAmountsSpec) mixedZ vokS laidOut (par_of pars3) kinds3 (bt:=4) rt3 bool4 rfl (fun xs h=>law3' xs h) hT hval hW rfl rfl rfl
set_option maxRecDepth 100000 in
theorem lifted3 (os:Os) (started:os.Started) (H:Type) (enc:TypeId×Value -> H) :
  ReturnsInHanded {} Tryz.checked os 3 .any (fun w args=>(Rows.recalcAmountsSpec.pre enc Tryz.prog Tryz.f3 [] false w args /\ laidMetH Tryz.prog laid2 w) /\ sizedMet enc Tryz.prog Tryz.f3 (OpenSpec.ofChange Rows.recalcAmountsSpec) false w args)
   (Rows.recalcAmountsSpec.post enc Tryz.prog Tryz.f3 false true false false):=by
 refine handed_of started (by kernel_rfl) Tryz.func3
  (ChangeSpec.witness_shaped (enc:=enc) (C:=Tryz.checked) (os:=os) (X:=fun w _=>laidMetH Tryz.prog laid2 w) false (World.doorLaid Tryz.prog 400 os) #[.int .u64 0,.int .u16 0,.int .u16 0] 8 rfl (World.shaped_of_RefB (by kernel_rfl) (by kernel_rfl)) (by kernel_rfl) (by kernel_rfl) (by kernel_rfl) (door_met os _)) ?_
 intro W base args ds gs before hval hW hwt hT
 exact contract3 H enc W base args ds gs before hval hW hwt hT
end Go.Proofs.YtgefdialaemelaaGreatDoor.Dv
namespace Go.Proofs.YtgefdialaemelaaGreatDoor
open Go.Dm Go.Proofs
theorem recalcAmounts_holds:Rows.RecalcAmountsSaid :=
 OpenClaim.holds_of_wide 3 Tryz.f3 rfl rfl rfl rfl rfl rfl rfl ⟨rfl,rfl,rfl,rfl,rfl⟩ rfl rfl rfl rfl rfl named3 Tryz.func3 closed3 inst3 wrap3
  (fun os started H enc _=>Dv.lifted3 os started H enc)
theorem recalcAmounts_card_holds:Rows.RecalcAmountsCardSaid :=
 Claim7.holds_tied_plain_at .later [] [.data,.data] true (true,"be1a6d2ed038d480cde6c0fa9e928b3d6aec979c15f885fa74887e29ae16d86f") true
  recalcAmounts_holds (fun _ h=>by cases h) (by kernel_rfl) (fun _ h=>by cases h) recalcAmounts_row_tie rfl ⟨rfl,rfl⟩ (by kernel_rfl) rfl
  (fun f fn hf hfn=>by
   obtain rfl:f=3:=Option.some.inj ((show Tryz.prog.funcNamed "annuitant/annuitantlaw26.RecalcAmounts"=some 3 by kernel_rfl).symm.trans hf) |>.symm
   obtain rfl:fn=Tryz.f3:=(Option.some.inj (Tryz.func3.symm.trans hfn)).symm
   exact ⟨by kernel_rfl,fun j t ht=>by
    rw[Tryz.params3]at ht
    have hm:t∈[22,23,23]:=by simpa using Array.mem_of_getElem? ht
    have hall:([22,23,23].all fun u => !Tryz.prog.wantsStandIn u)=true:=by kernel_rfl
    exact(show Tryz.prog.wantsStandIn t=false by simpa using List.all_eq_true.1 hall t hm)⟩)
  (by kernel_rfl)
end Go.Proofs.YtgefdialaemelaaGreatDoor
#print axioms Go.Proofs.YtgefdialaemelaaGreatDoor.recalcAmounts_card_holds
