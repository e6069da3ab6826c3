/-
  For every input the law DependFacts returns true, and each argument reads behind the call as it read before; the listed package-level variables are tied to the program's text. Conditions: those of the given card, no others.
-/
import Derived.Test.YtekgndcflpklkaaGreatDoorR
set_option linter.all false
namespace Go.Proofs.YtekgndcflpklkaaGreatDoor.Dv
section
open Go.Dm Go.Proofs
set_option maxRecDepth 100000
def af5:wR Tryz.prog Tryz.f3.params.toList=true:=by kernel_rfl
abbrev Pn:List (Bool×List T):=[(true,AD 53),(false,[.sl 128 uf]),(false,[.s]),(false,[.i .i64]),(false,[.i .i64]),(true,uf),(false,[.i .u8])]
def af6:qS Tryz.prog [53] Tryz.f3.params.toList=some Pn:=by kernel_rfl
def rt3:Tryz.f3.resultTypes=#[4]:=by kernel_rfl
def af8(o:List D)(h:oS (fE Tryz.prog [53]) Pn o):∃n,iH VS n 3 o=.ret (.b true):=by cases h with|cons q h=>cases h with|cons e h=>cases h with|cons g h=>cases h with|cons i h=>cases h with|cons j h=>cases h with|cons k h=>cases h with|cons m h=>
 cases h;have c:∀{t:T}{d:D},oR (fE Tryz.prog [53]) (false,[t]) d->cB (fE Tryz.prog [53]) t d:=λh=>by cases h with|one _ _ h=>cases h with|cons h _=>exact h
 replace e:=c e;replace g:=c g;replace i:=c i;replace j:=c j;replace m:=c m;obtain⟨p,rfl,u,v,w,z⟩:=FQ AM q;obtain⟨l,x⟩:=FO e;obtain⟨s,rfl,_⟩:=mE g;obtain⟨d,rfl,_⟩:=gy i;obtain⟨a,rfl,_,y⟩:=gy j;cases k with|ag _ r k=>obtain⟨f,rfl,_⟩:=S3 k;obtain⟨t,rfl,w⟩:=rA rfl m;exact alN p x v u y f (by have:IntKind.max .u8=255:=rfl;omega)
def af9(H:Type)(enc:TypeId×Value->H)(W:World)(base:Nat)(args:Array Value)(ds a:List (DataW H))(d:List MemPlace)(i:∀(j:Nat)t v,Tryz.f3.params[j]?=some t->args[j]?=some v->Value.okWide Tryz.prog W .any base t v)(b:DataW.Whole enc Tryz.prog Tryz.f3.params.toList Rows.dependFactsSpec.vars false W args.toList ds a d)(k:(DataW.weightsEach Tryz.prog (Tryz.f3.params.toList++Rows.dependFactsSpec.plain.varTypes Tryz.prog) (ds++a)).all (·<=reachBytes)=true)(l:fH (fi W) W):Calls Tryz.prog 3 args W λe m=>∃v,e=.returned v/\Rows.dependFactsSpec.post enc Tryz.prog Tryz.f3 false true false false W args v m:=by
 have n:∃d1 d2 d3 d4 d5 d6 d7,ds=[d1,d2,d3,d4,d5,d6,d7]/\a=[]:=by
  obtain⟨p,q,o,r,_⟩:=b;have u:a=[]:=by cases a with|nil=>rfl|cons g a=>exact r.elim
  have w:Tryz.f3.params.toList.length=7:=by kernel_rfl
  have c:=AN o;rw[w]at c;match ds,c with|[d1,d2,d3,d4,d5,d6,d7],_=>exact⟨d1,d2,d3,d4,d5,d6,d7,rfl,u⟩
 obtain⟨d1,d2,d3,d4,d5,d6,d7,rfl,rfl⟩:=n;exact C2 (P:=Tryz.prog) (V:=VS) (f:=3) (fn:=Tryz.f3) (s:=Rows.dependFactsSpec) (stop:=[53]) F0 jr Gh F1 (F3 af5) af6 (bt:=4) rt3 F4 rfl (λx h=>af8 x h) l i b k rfl rfl rfl
def axv (os:Os) (a:os.Started) (H:Type) (enc:TypeId×Value -> H) :
  ReturnsInHanded {} Tryz.checked os 3 .any (fun w args=>(Rows.dependFactsSpec.pre enc Tryz.prog Tryz.f3 [] false w args /\ laidMetH Tryz.prog mG w) /\ sizedMet enc Tryz.prog Tryz.f3 (OpenSpec.ofChange Rows.dependFactsSpec) false w args)
   (Rows.dependFactsSpec.post enc Tryz.prog Tryz.f3 false true false false):=by
 refine F5 a (by kernel_rfl) Tryz.func3
  (ChangeSpec.witness_shaped (enc:=enc) (C:=Tryz.checked) (os:=os) (X:=fun w _=>laidMetH Tryz.prog mG w) false (World.doorLaid Tryz.prog 400 os) #[.agg #[.string .empty,.slice none 0 0,.slice none 0 0,.slice none 0 0],.slice none 0 0,.string .empty,.int .i64 0,.int .i64 0,.agg #[.string .empty,.int .i64 0,.int .i64 0,.int .i64 0,.bool false,.int .u8 0,.bool false,.slice none 0 0,.bool false,.slice none 0 0,.int .i64 0],.int .u8 0] 8 rfl (World.shaped_of_RefB (by kernel_rfl) (by kernel_rfl)) (by kernel_rfl) (by kernel_rfl) (by kernel_rfl) (F2 os _)) ?_
 intro W base args ds gs before hval hW hwt hT
 exact af9 H enc W base args ds gs before hval hW hwt hT
end
end Go.Proofs.YtekgndcflpklkaaGreatDoor.Dv
namespace Go.Proofs.YtekgndcflpklkaaGreatDoor
section
open Go.Dm Go.Proofs
def aga:Rows.DependFactsSaid:=OpenClaim.holds_of_wide 3 Tryz.f3 rfl rfl rfl rfl rfl rfl rfl ⟨rfl,rfl,rfl,rfl,rfl⟩ rfl rfl rfl rfl rfl anE Tryz.func3 anD anF anG (λos a H enc _=>Dv.axv os a H enc)
theorem dependFacts_card_holds:Rows.DependFactsCardSaid:=Claim7.holds_tied_plain_at .later [] [.data,.data] true (true,"e05eaacd276591e4d8842ac0018e21729faf65ed9c73a83bb4aceed1ff163d53") true aga (λ_ h=>by cases h) (by kernel_rfl) (λ_ h=>by cases h) dependFacts_row_tie rfl ⟨rfl,rfl⟩ (by kernel_rfl) rfl (λf fn a b=>by
 obtain rfl:f=3:=kb ((show Tryz.prog.funcNamed "annuitant/annuitantlaw25.DependFacts"=some 3 by kernel_rfl).symm.trans a)|>.symm;obtain rfl:fn=Tryz.f3:=(kb (Tryz.func3.symm.trans b)).symm;have c:(Tryz.f3.params.toList.all λu=>!Tryz.prog.wantsStandIn u)=true:=by kernel_rfl
 exact⟨by kernel_rfl,λj t d=>by
 have e:t∈Tryz.f3.params.toList:=by simpa using ABO d
 exact(show Tryz.prog.wantsStandIn t=false by simpa using TA.1 c t e)⟩) (by kernel_rfl)
end
end Go.Proofs.YtekgndcflpklkaaGreatDoor
#print axioms Go.Proofs.YtekgndcflpklkaaGreatDoor.dependFacts_card_holds
