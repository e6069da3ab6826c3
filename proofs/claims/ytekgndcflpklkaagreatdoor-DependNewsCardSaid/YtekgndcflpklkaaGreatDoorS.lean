/-
  For every input the law DependNews returns true, and each argument reads behind the call as it read before; the listed package-level variables are tied to the program's text. Conditions: those of the given card, no others.
-/
import Derived.Test.YtekgndcflpklkaaGreatDoorR
set_option linter.all false
namespace Go.Proofs.YtekgndcflpklkaaGreatDoor.Dv
section
open Go.Dm Go.Proofs
set_option maxRecDepth 100000
def anc:wR Tryz.prog Tryz.f5.params.toList=true:=by kernel_rfl
abbrev Ue:List (Bool×List T):=[(true,AD 53),(false,[.sl 128 uf]),(false,[.s]),(false,[.i .i64]),(false,[.i .i64]),(false,[.i .i64])]
def ane:qS Tryz.prog [53] Tryz.f5.params.toList=some Ue:=by kernel_rfl
def rt5:Tryz.f5.resultTypes=#[4]:=by kernel_rfl
def ang(k:List D)(h:oS (fE Tryz.prog [53]) Ue k):∃n,iH VS n 5 k=.ret (.b true):=by cases h with|cons m h=>cases h with|cons e h=>cases h with|cons f h=>cases h with|cons g h=>cases h with|cons i h=>cases h with|cons j h=>
 cases h;have c:∀{t:T}{d:D},oR (fE Tryz.prog [53]) (false,[t]) d->cB (fE Tryz.prog [53]) t d:=λh=>by cases h with|one _ _ h=>cases h with|cons h _=>exact h
 replace e:=c e;replace f:=c f;replace g:=c g;replace i:=c i;replace j:=c j;obtain⟨p,rfl,o,q,r,x⟩:=FQ AM m;obtain⟨l,u⟩:=FO e;obtain⟨s,rfl,_⟩:=mE f;obtain⟨d,rfl,_⟩:=gy g;obtain⟨a,rfl,_,v⟩:=gy i;obtain⟨b,rfl,_,w⟩:=gy j;exact alJ p u q r (by omega) o v w
def anh(H:Type)(enc:TypeId×Value->H)(W:World)(base:Nat)(args:Array Value)(ds a:List (DataW H))(d:List MemPlace)(i:∀(j:Nat)t v,Tryz.f5.params[j]?=some t->args[j]?=some v->Value.okWide Tryz.prog W .any base t v)(b:DataW.Whole enc Tryz.prog Tryz.f5.params.toList Rows.dependNewsSpec.vars false W args.toList ds a d)(k:(DataW.weightsEach Tryz.prog (Tryz.f5.params.toList++Rows.dependNewsSpec.plain.varTypes Tryz.prog) (ds++a)).all (·<=reachBytes)=true)(l:fH (fi W) W):Calls Tryz.prog 5 args W λe m=>∃v,e=.returned v/\Rows.dependNewsSpec.post enc Tryz.prog Tryz.f5 false true false false W args v m:=by
 have n:∃d1 d2 d3 d4 d5 d6,ds=[d1,d2,d3,d4,d5,d6]/\a=[]:=by
  obtain⟨p,q,o,r,_⟩:=b;have u:a=[]:=by cases a with|nil=>rfl|cons g a=>exact r.elim
  have w:Tryz.f5.params.toList.length=6:=by kernel_rfl
  have c:=AN o;rw[w]at c;match ds,c with|[d1,d2,d3,d4,d5,d6],_=>exact⟨d1,d2,d3,d4,d5,d6,rfl,u⟩
 obtain⟨d1,d2,d3,d4,d5,d6,rfl,rfl⟩:=n;exact C2 (P:=Tryz.prog) (V:=VS) (f:=5) (fn:=Tryz.f5) (s:=Rows.dependNewsSpec) (stop:=[53]) F0 jr Gh F1 (F3 anc) ane (bt:=4) rt5 F4 rfl (λx h=>ang x h) l i b k rfl rfl rfl
def axw (os:Os) (a:os.Started) (H:Type) (enc:TypeId×Value -> H) :
  ReturnsInHanded {} Tryz.checked os 5 .any (fun w args=>(Rows.dependNewsSpec.pre enc Tryz.prog Tryz.f5 [] false w args /\ laidMetH Tryz.prog mG w) /\ sizedMet enc Tryz.prog Tryz.f5 (OpenSpec.ofChange Rows.dependNewsSpec) false w args)
   (Rows.dependNewsSpec.post enc Tryz.prog Tryz.f5 false true false false):=by
 refine F5 a (by kernel_rfl) Tryz.func5
  (ChangeSpec.witness_shaped (enc:=enc) (C:=Tryz.checked) (os:=os) (X:=fun w _=>laidMetH Tryz.prog mG w) false (World.doorLaid Tryz.prog 400 os) #[.agg #[.string .empty,.slice none 0 0,.slice none 0 0,.slice none 0 0],.slice none 0 0,.string .empty,.int .i64 0,.int .i64 0,.int .i64 0] 8 rfl (World.shaped_of_RefB (by kernel_rfl) (by kernel_rfl)) (by kernel_rfl) (by kernel_rfl) (by kernel_rfl) (F2 os _)) ?_
 intro W base args ds gs before hval hW hwt hT
 exact anh H enc W base args ds gs before hval hW hwt hT
end
end Go.Proofs.YtekgndcflpklkaaGreatDoor.Dv
namespace Go.Proofs.YtekgndcflpklkaaGreatDoor
section
open Go.Dm Go.Proofs
def ani:Rows.DependNewsSaid:=OpenClaim.holds_of_wide 5 Tryz.f5 rfl rfl rfl rfl rfl rfl rfl ⟨rfl,rfl,rfl,rfl,rfl⟩ rfl rfl rfl rfl rfl anM Tryz.func5 anL anN anO (λos a H enc _=>Dv.axw os a H enc)
theorem dependNews_card_holds:Rows.DependNewsCardSaid:=Claim7.holds_tied_plain_at .later [] [.data,.data] true (true,"e05eaacd276591e4d8842ac0018e21729faf65ed9c73a83bb4aceed1ff163d53") true ani (λ_ h=>by cases h) (by kernel_rfl) (λ_ h=>by cases h) dependNews_row_tie rfl ⟨rfl,rfl⟩ (by kernel_rfl) rfl (λf fn a b=>by
 obtain rfl:f=5:=kb ((show Tryz.prog.funcNamed "annuitant/annuitantlaw25.DependNews"=some 5 by kernel_rfl).symm.trans a)|>.symm;obtain rfl:fn=Tryz.f5:=(kb (Tryz.func5.symm.trans b)).symm;have c:(Tryz.f5.params.toList.all λu=>!Tryz.prog.wantsStandIn u)=true:=by kernel_rfl
 exact⟨by kernel_rfl,λj t d=>by
 have e:t∈Tryz.f5.params.toList:=by simpa using ABO d
 exact(show Tryz.prog.wantsStandIn t=false by simpa using TA.1 c t e)⟩) (by kernel_rfl)
end
end Go.Proofs.YtekgndcflpklkaaGreatDoor
#print axioms Go.Proofs.YtekgndcflpklkaaGreatDoor.dependNews_card_holds
