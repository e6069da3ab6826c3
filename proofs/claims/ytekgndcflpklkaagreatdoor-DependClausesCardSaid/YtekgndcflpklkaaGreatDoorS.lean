/-
  For every input the law DependClauses returns true, and each argument reads behind the call as it read before; the listed package-level variables are tied to the program's text. Conditions: those of the given card, no others.
-/
import Derived.Test.YtekgndcflpklkaaGreatDoorR
set_option linter.all false
namespace Go.Proofs.YtekgndcflpklkaaGreatDoor.Dv
section
open Go.Dm Go.Proofs
set_option maxRecDepth 100000
def YE:wR Tryz.prog Tryz.f4.params.toList=true:=by kernel_rfl
abbrev Ms:List (Bool×List T):=[(true,AD 53),(false,[.sl 128 uf]),(false,[.s]),(false,[.i .i64]),(false,[.i .i64]),(true,FM 53),(false,[.i .u8])]
def YF:qS Tryz.prog [53] Tryz.f4.params.toList=some Ms:=by kernel_rfl
def YG:Tryz.f4.resultTypes=#[4]:=by kernel_rfl
def YH(o:List D)(h:oS (fE Tryz.prog [53]) Ms o):∃n,iH VS n 4 o=.ret (.b true):=by cases h with|cons q h=>cases h with|cons f h=>cases h with|cons g h=>cases h with|cons i h=>cases h with|cons j h=>cases h with|cons k h=>cases h with|cons m h=>
 cases h;have e:∀{t:T}{d:D},oR (fE Tryz.prog [53]) (false,[t]) d->cB (fE Tryz.prog [53]) t d:=λh=>by cases h with|one _ _ h=>cases h with|cons h _=>exact h
 replace f:=e f;replace g:=e g;replace i:=e i;replace j:=e j;replace m:=e m;obtain⟨p,rfl,u,v,w,x⟩:=FQ AM q;obtain⟨l,y⟩:=FO f;obtain⟨s,rfl,_⟩:=mE g;obtain⟨d,rfl,_⟩:=gy i;obtain⟨a,rfl,_,z⟩:=gy j;cases k with|ag _ r k=>obtain⟨c,rfl,A⟩:=S6 AM k;obtain⟨t,rfl,w⟩:=rA rfl m;exact alR p y v u x z c A (by have:IntKind.max .u8=255:=rfl;omega)
def YI(H:Type)(enc:TypeId×Value->H)(W:World)(base:Nat)(args:Array Value)(ds a:List (DataW H))(d:List MemPlace)(i:∀(j:Nat)t v,Tryz.f4.params[j]?=some t->args[j]?=some v->Value.okWide Tryz.prog W .any base t v)(b:DataW.Whole enc Tryz.prog Tryz.f4.params.toList Rows.dependClausesSpec.vars false W args.toList ds a d)(k:(DataW.weightsEach Tryz.prog (Tryz.f4.params.toList++Rows.dependClausesSpec.plain.varTypes Tryz.prog) (ds++a)).all (·<=reachBytes)=true)(l:fH (fi W) W):Calls Tryz.prog 4 args W λe m=>∃v,e=.returned v/\Rows.dependClausesSpec.post enc Tryz.prog Tryz.f4 false true false false W args v m:=by
 have n:∃d1 d2 d3 d4 d5 d6 d7,ds=[d1,d2,d3,d4,d5,d6,d7]/\a=[]:=by
  obtain⟨p,q,o,r,_⟩:=b;have u:a=[]:=by cases a with|nil=>rfl|cons g a=>exact r.elim
  have w:Tryz.f4.params.toList.length=7:=by kernel_rfl
  have c:=AN o;rw[w]at c;match ds,c with|[d1,d2,d3,d4,d5,d6,d7],_=>exact⟨d1,d2,d3,d4,d5,d6,d7,rfl,u⟩
 obtain⟨d1,d2,d3,d4,d5,d6,d7,rfl,rfl⟩:=n;exact C2 (P:=Tryz.prog) (V:=VS) (f:=4) (fn:=Tryz.f4) (s:=Rows.dependClausesSpec) (stop:=[53]) F0 jr Gh F1 (F3 YE) YF (bt:=4) YG F4 rfl (λx h=>YH x h) l i b k rfl rfl rfl
def as1 (os:Os) (a:os.Started) (H:Type) (enc:TypeId×Value -> H) :
  ReturnsInHanded {} Tryz.checked os 4 .any (fun w args=>(Rows.dependClausesSpec.pre enc Tryz.prog Tryz.f4 [] false w args /\ laidMetH Tryz.prog mG w) /\ sizedMet enc Tryz.prog Tryz.f4 (OpenSpec.ofChange Rows.dependClausesSpec) false w args)
   (Rows.dependClausesSpec.post enc Tryz.prog Tryz.f4 false true false false):=by
 refine F5 a (by kernel_rfl) Tryz.func4
  (ChangeSpec.witness_shaped (enc:=enc) (C:=Tryz.checked) (os:=os) (X:=fun w _=>laidMetH Tryz.prog mG w) false (World.doorLaid Tryz.prog 400 os) #[.agg #[.string .empty,.slice none 0 0,.slice none 0 0,.slice none 0 0],.slice none 0 0,.string .empty,.int .i64 0,.int .i64 0,.agg #[.string .empty,.string .empty,.int .i64 0,.int .i64 0,.int .i64 0,.bool false,.int .u8 0,.string .empty,.int .u8 0,.bool false,.slice none 0 0,.bool false,.slice none 0 0,.int .i64 0,.slice none 0 0,.int .u8 0,.string .empty,.int .u8 0,.bool false,.slice none 0 0,.bool false,.slice none 0 0,.int .i64 0,.slice none 0 0],.int .u8 0] 8 rfl (World.shaped_of_RefB (by kernel_rfl) (by kernel_rfl)) (by kernel_rfl) (by kernel_rfl) (by kernel_rfl) (F2 os _)) ?_
 intro W base args ds gs before hval hW hwt hT
 exact YI H enc W base args ds gs before hval hW hwt hT
end
end Go.Proofs.YtekgndcflpklkaaGreatDoor.Dv
namespace Go.Proofs.YtekgndcflpklkaaGreatDoor
section
open Go.Dm Go.Proofs
def YJ:Rows.DependClausesSaid:=OpenClaim.holds_of_wide 4 Tryz.f4 rfl rfl rfl rfl rfl rfl rfl ⟨rfl,rfl,rfl,rfl,rfl⟩ rfl rfl rfl rfl rfl an5 Tryz.func4 an4 an6 an7 (λos a H enc _=>Dv.as1 os a H enc)
theorem dependClauses_card_holds:Rows.DependClausesCardSaid:=Claim7.holds_tied_plain_at .later [] [.data,.data] true (true,"e05eaacd276591e4d8842ac0018e21729faf65ed9c73a83bb4aceed1ff163d53") true YJ (λ_ h=>by cases h) (by kernel_rfl) (λ_ h=>by cases h) dependClauses_row_tie rfl ⟨rfl,rfl⟩ (by kernel_rfl) rfl (λf fn a b=>by
 obtain rfl:f=4:=kb ((show Tryz.prog.funcNamed "annuitant/annuitantlaw25.DependClauses"=some 4 by kernel_rfl).symm.trans a)|>.symm;obtain rfl:fn=Tryz.f4:=(kb (Tryz.func4.symm.trans b)).symm;have c:(Tryz.f4.params.toList.all λu=>!Tryz.prog.wantsStandIn u)=true:=by kernel_rfl
 exact⟨by kernel_rfl,λj t d=>by
 have e:t∈Tryz.f4.params.toList:=by simpa using ABO d
 exact(show Tryz.prog.wantsStandIn t=false by simpa using TA.1 c t e)⟩) (by kernel_rfl)
end
end Go.Proofs.YtekgndcflpklkaaGreatDoor
#print axioms Go.Proofs.YtekgndcflpklkaaGreatDoor.dependClauses_card_holds
