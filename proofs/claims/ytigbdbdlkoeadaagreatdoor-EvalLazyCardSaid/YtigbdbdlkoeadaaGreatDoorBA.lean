/-
  For every input the law EvalLazy returns true, and each argument reads behind the call as it read before; the listed package-level variables are tied to the program's text. Conditions: those of the given card, no others.
-/
import Derived.Test.YtigbdbdlkoeadaaGreatDoorAZ
set_option linter.all false
namespace Go.Proofs.YtigbdbdlkoeadaaGreatDoor.Dv
section
open Go.Dm Go.Proofs
set_option maxRecDepth 100000
def aqh:wm Tryz.prog Tryz.f5.params.toList=true:=by kernel_rfl
abbrev WP:List (Bool×List T):=[(true,yY 39),(false,[.sl 128 wk]),(false,[.i .u8]),(false,[.i .i64]),(false,[.i .i64])]
def aqi:qk Tryz.prog [39] Tryz.f5.params.toList=some WP:=by kernel_rfl
def rt5:Tryz.f5.resultTypes=#[4]:=by kernel_rfl
def aqk(j:List D)(h:oA (fo Tryz.prog [39]) WP j):∃n,dh VS n 5 j=.ret (.b true):=by cases h with|cons k h=>cases h with|cons e h=>cases h with|cons f h=>cases h with|cons g h=>cases h with|cons i h=>
 cases h;have c:∀{t:T}{d:D},ox (fo Tryz.prog [39]) (false,[t]) d->cP (fo Tryz.prog [39]) t d:=λh=>by cases h with|one _ _ h=>cases h with|cons h _=>exact h
 replace e:=c e;replace f:=c f;replace g:=c g;replace i:=c i;obtain⟨p,rfl,m,o,s,u⟩:=Cy CD k;obtain⟨l,q⟩:=Cw e;obtain⟨t,rfl,v⟩:=wj rfl f;obtain⟨d,rfl,_⟩:=gu g;obtain⟨a,rfl,_,r⟩:=gu i;exact at1 p q o m (by have:IntKind.max .u8=255:=rfl;omega) r
def aql(H:Type)(enc:TypeId×Value->H)(W:World)(base:Nat)(args:Array Value)(ds a:List (DataW H))(d:List MemPlace)(i:∀(j:Nat)t v,Tryz.f5.params[j]?=some t->args[j]?=some v->Value.okWide Tryz.prog W .any base t v)(b:DataW.Whole enc Tryz.prog Tryz.f5.params.toList Rows.evalLazySpec.vars false W args.toList ds a d)(k:(DataW.weightsEach Tryz.prog (Tryz.f5.params.toList++Rows.evalLazySpec.plain.varTypes Tryz.prog) (ds++a)).all (·<=reachBytes)=true)(l:fP (fB W) W):Calls Tryz.prog 5 args W λe m=>∃v,e=.returned v/\Rows.evalLazySpec.post enc Tryz.prog Tryz.f5 false true false false W args v m:=by
 have n:∃d1 d2 d3 d4 d5,ds=[d1,d2,d3,d4,d5]/\a=[]:=by
  obtain⟨p,q,o,r,_⟩:=b;have u:a=[]:=by cases a with|nil=>rfl|cons g a=>exact r.elim
  have w:Tryz.f5.params.toList.length=5:=by kernel_rfl
  have c:=y8 o;rw[w]at c;match ds,c with|[d1,d2,d3,d4,d5],_=>exact⟨d1,d2,d3,d4,d5,rfl,u⟩
 obtain⟨d1,d2,d3,d4,d5,rfl,rfl⟩:=n;exact AW (P:=Tryz.prog) (V:=VS) (f:=5) (fn:=Tryz.f5) (s:=Rows.evalLazySpec) (stop:=[39]) CC jr CP CE (CG aqh) aqi (bt:=4) rt5 CH rfl (λx h=>aqk x h) l i b k rfl rfl rfl
def aDR (os:Os) (a:os.Started) (H:Type) (enc:TypeId×Value -> H) :
  ReturnsInHanded {} Tryz.checked os 5 .any (fun w args=>(Rows.evalLazySpec.pre enc Tryz.prog Tryz.f5 [] false w args /\ laidMetH Tryz.prog lN w) /\ sizedMet enc Tryz.prog Tryz.f5 (OpenSpec.ofChange Rows.evalLazySpec) false w args)
   (Rows.evalLazySpec.post enc Tryz.prog Tryz.f5 false true false false):=by
 refine CI a (by kernel_rfl) Tryz.func5
  (ChangeSpec.witness_shaped (enc:=enc) (C:=Tryz.checked) (os:=os) (X:=fun w _=>laidMetH Tryz.prog lN w) false (World.doorLaid Tryz.prog 400 os) #[.agg #[.string .empty,.slice none 0 0,.slice none 0 0,.slice none 0 0],.slice none 0 0,.int .u8 0,.int .i64 0,.int .i64 0] 8 rfl (World.shaped_of_RefB (by kernel_rfl) (by kernel_rfl)) (by kernel_rfl) (by kernel_rfl) (by kernel_rfl) (CF os _)) ?_
 intro W base args ds gs before hval hW hwt hT
 exact aql H enc W base args ds gs before hval hW hwt hT
end
end Go.Proofs.YtigbdbdlkoeadaaGreatDoor.Dv
namespace Go.Proofs.YtigbdbdlkoeadaaGreatDoor
section
open Go.Dm Go.Proofs
def aqm:Rows.EvalLazySaid:=OpenClaim.holds_of_wide 5 Tryz.f5 rfl rfl rfl rfl rfl rfl rfl ⟨rfl,rfl,rfl,rfl,rfl⟩ rfl rfl rfl rfl rfl aue Tryz.func5 aud auf aug (λos a H enc _=>Dv.aDR os a H enc)
theorem evalLazy_card_holds:Rows.EvalLazyCardSaid:=Claim7.holds_tied_plain_at .later [] [.data,.data] true (true,"d2f66619731205b62bdda76f55f10269a6509d0bf6d83bde4f3b5aa37805ca1d") true aqm (λ_ h=>by cases h) (by kernel_rfl) (λ_ h=>by cases h) evalLazy_row_tie rfl ⟨rfl,rfl⟩ (by kernel_rfl) rfl (λf fn a b=>by
 obtain rfl:f=5:=kv ((show Tryz.prog.funcNamed "annuitant/annuitantlaw18.EvalLazy"=some 5 by kernel_rfl).symm.trans a)|>.symm;obtain rfl:fn=Tryz.f5:=(kv (Tryz.func5.symm.trans b)).symm;have c:(Tryz.f5.params.toList.all λu=>!Tryz.prog.wantsStandIn u)=true:=by kernel_rfl
 exact⟨by kernel_rfl,λj t d=>by
 have e:t∈Tryz.f5.params.toList:=by simpa using AA2 d
 exact(show Tryz.prog.wantsStandIn t=false by simpa using TB.1 c t e)⟩) (by kernel_rfl)
end
end Go.Proofs.YtigbdbdlkoeadaaGreatDoor
#print axioms Go.Proofs.YtigbdbdlkoeadaaGreatDoor.evalLazy_card_holds
