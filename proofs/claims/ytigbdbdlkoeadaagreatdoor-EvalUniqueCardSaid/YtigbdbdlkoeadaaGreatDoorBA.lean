/-
  For every input the law EvalUnique returns true, and each argument reads behind the call as it read before; the listed package-level variables are tied to the program's text. Conditions: those of the given card, no others.
-/
import Derived.Test.YtigbdbdlkoeadaaGreatDoorAZ
set_option linter.all false
namespace Go.Proofs.YtigbdbdlkoeadaaGreatDoor.Dv
section
open Go.Dm Go.Proofs
set_option maxRecDepth 100000
def aul:wm Tryz.prog Tryz.f6.params.toList=true:=by kernel_rfl
abbrev YP:List (Bool×List T):=[(true,yY 39),(false,[.sl 128 wk]),(false,[.s]),(false,[.i .i64]),(false,[.i .i64])]
def aum:qk Tryz.prog [39] Tryz.f6.params.toList=some YP:=by kernel_rfl
def rt6:Tryz.f6.resultTypes=#[4]:=by kernel_rfl
def auo(j:List D)(h:oA (fo Tryz.prog [39]) YP j):∃n,dh VS n 6 j=.ret (.b true):=by cases h with|cons k h=>cases h with|cons e h=>cases h with|cons f h=>cases h with|cons g h=>cases h with|cons i h=>
 cases h;have c:∀{t:T}{d:D},ox (fo Tryz.prog [39]) (false,[t]) d->cP (fo Tryz.prog [39]) t d:=λh=>by cases h with|one _ _ h=>cases h with|cons h _=>exact h
 replace e:=c e;replace f:=c f;replace g:=c g;replace i:=c i;obtain⟨p,rfl,m,o,u,v⟩:=Cy CD k;obtain⟨l,q⟩:=Cw e;obtain⟨s,rfl,_⟩:=nH f;obtain⟨d,rfl,_⟩:=gu g;obtain⟨a,rfl,_,r⟩:=gu i;exact arS p q o m r
def aup(H:Type)(enc:TypeId×Value->H)(W:World)(base:Nat)(args:Array Value)(ds a:List (DataW H))(d:List MemPlace)(i:∀(j:Nat)t v,Tryz.f6.params[j]?=some t->args[j]?=some v->Value.okWide Tryz.prog W .any base t v)(b:DataW.Whole enc Tryz.prog Tryz.f6.params.toList Rows.evalUniqueSpec.vars false W args.toList ds a d)(k:(DataW.weightsEach Tryz.prog (Tryz.f6.params.toList++Rows.evalUniqueSpec.plain.varTypes Tryz.prog) (ds++a)).all (·<=reachBytes)=true)(l:fP (fB W) W):Calls Tryz.prog 6 args W λe m=>∃v,e=.returned v/\Rows.evalUniqueSpec.post enc Tryz.prog Tryz.f6 false true false false W args v m:=by
 have n:∃d1 d2 d3 d4 d5,ds=[d1,d2,d3,d4,d5]/\a=[]:=by
  obtain⟨p,q,o,r,_⟩:=b;have u:a=[]:=by cases a with|nil=>rfl|cons g a=>exact r.elim
  have w:Tryz.f6.params.toList.length=5:=by kernel_rfl
  have c:=y8 o;rw[w]at c;match ds,c with|[d1,d2,d3,d4,d5],_=>exact⟨d1,d2,d3,d4,d5,rfl,u⟩
 obtain⟨d1,d2,d3,d4,d5,rfl,rfl⟩:=n;exact AW (P:=Tryz.prog) (V:=VS) (f:=6) (fn:=Tryz.f6) (s:=Rows.evalUniqueSpec) (stop:=[39]) CC jr CP CE (CG aul) aum (bt:=4) rt6 CH rfl (λx h=>auo x h) l i b k rfl rfl rfl
def aDT (os:Os) (a:os.Started) (H:Type) (enc:TypeId×Value -> H) :
  ReturnsInHanded {} Tryz.checked os 6 .any (fun w args=>(Rows.evalUniqueSpec.pre enc Tryz.prog Tryz.f6 [] false w args /\ laidMetH Tryz.prog lN w) /\ sizedMet enc Tryz.prog Tryz.f6 (OpenSpec.ofChange Rows.evalUniqueSpec) false w args)
   (Rows.evalUniqueSpec.post enc Tryz.prog Tryz.f6 false true false false):=by
 refine CI a (by kernel_rfl) Tryz.func6
  (ChangeSpec.witness_shaped (enc:=enc) (C:=Tryz.checked) (os:=os) (X:=fun w _=>laidMetH Tryz.prog lN w) false (World.doorLaid Tryz.prog 400 os) #[.agg #[.string .empty,.slice none 0 0,.slice none 0 0,.slice none 0 0],.slice none 0 0,.string .empty,.int .i64 0,.int .i64 0] 8 rfl (World.shaped_of_RefB (by kernel_rfl) (by kernel_rfl)) (by kernel_rfl) (by kernel_rfl) (by kernel_rfl) (CF os _)) ?_
 intro W base args ds gs before hval hW hwt hT
 exact aup H enc W base args ds gs before hval hW hwt hT
end
end Go.Proofs.YtigbdbdlkoeadaaGreatDoor.Dv
namespace Go.Proofs.YtigbdbdlkoeadaaGreatDoor
section
open Go.Dm Go.Proofs
def auq:Rows.EvalUniqueSaid:=OpenClaim.holds_of_wide 6 Tryz.f6 rfl rfl rfl rfl rfl rfl rfl ⟨rfl,rfl,rfl,rfl,rfl⟩ rfl rfl rfl rfl rfl apf Tryz.func6 ape apg aph (λos a H enc _=>Dv.aDT os a H enc)
theorem evalUnique_card_holds:Rows.EvalUniqueCardSaid:=Claim7.holds_tied_plain_at .later [] [.data,.data] true (true,"d2f66619731205b62bdda76f55f10269a6509d0bf6d83bde4f3b5aa37805ca1d") true auq (λ_ h=>by cases h) (by kernel_rfl) (λ_ h=>by cases h) evalUnique_row_tie rfl ⟨rfl,rfl⟩ (by kernel_rfl) rfl (λf fn a b=>by
 obtain rfl:f=6:=kv ((show Tryz.prog.funcNamed "annuitant/annuitantlaw18.EvalUnique"=some 6 by kernel_rfl).symm.trans a)|>.symm;obtain rfl:fn=Tryz.f6:=(kv (Tryz.func6.symm.trans b)).symm;have c:(Tryz.f6.params.toList.all λu=>!Tryz.prog.wantsStandIn u)=true:=by kernel_rfl
 exact⟨by kernel_rfl,λj t d=>by
 have e:t∈Tryz.f6.params.toList:=by simpa using AA2 d
 exact(show Tryz.prog.wantsStandIn t=false by simpa using TB.1 c t e)⟩) (by kernel_rfl)
end
end Go.Proofs.YtigbdbdlkoeadaaGreatDoor
#print axioms Go.Proofs.YtigbdbdlkoeadaaGreatDoor.evalUnique_card_holds
