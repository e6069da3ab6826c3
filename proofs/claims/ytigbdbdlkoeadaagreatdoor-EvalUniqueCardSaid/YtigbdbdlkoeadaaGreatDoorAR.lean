/-
  Part of the proof.
-/
import Derived.Test.YtigbdbdlkoeadaaGreatDoorAQ
set_option linter.all false
namespace Go.Dm
section
def aw.withP(V:aw)(p:FuncId->List D->Option D):aw:={V with pext:=p}
section
variable{V:aw}{p:FuncId->List D->Option D}{cl:FuncId->List D->ab->CR}
def aeX{a:aj}{b:List D}{c:St}:step (V.withP p) cl b c a=step V cl b c a:=by cases a<;>rfl
def Q9{dr:Option (Bs×Bool)}{os:List aq}:∀{a:List D}{b:St},ops (V.withP p) cl dr os a b=ops V cl dr os a b:=by induction os with|nil=>intro a b;rfl|cons o os c=>intro a b;simp only[ops,aeX,c]
def Ra{n:Nat}:∀(c:aR)(d:St),aC (V.withP p) cl n c d=aC V cl n c d:=by intro c;induction c with|reg os dr=>intro d;simp only[aC,Q9]|hrg os h=>intro d;simp only[aC,Q9]|seq a b e f=>intro d;simp only[aC,e,f]|cond x a b e f=>intro d;simp only[aC,e,f]|block id a g=>intro d;simp only[aC,g]|loop a g=>intro d;have:aC (V.withP p) cl n a=aC V cl n a:=funext g;simp only[aC,this]|_=>intro d;rfl
def FU{n:Nat}{a:aJ}{args:List D}{H:ab}:cX (V.withP p) cl n a args H=cX V cl n a args H:=by simp only[cX,jM,jf,fi,iR,Ra]
def aeY{n:Nat}{args:List D}{H:ab}:je (V.withP p) cl n args H=je V cl n args H:=by simp only[je,mZ,Ra];rfl
def aeZ{M:Nat}(o:∀f ds d,p f ds=some d->dh V M f ds=.ret d)(r:∀f ds,p f ds=none->V.pext f ds=none):∀n,jP (call (V.withP p) n) (call V (n+M)):=by intro n;induction n with|zero=>intro f args H h;exact absurd rfl h|succ n i=>intro f args H h;rw[show n+1+M=(n+M)+1 by omega];simp only[call]at h⊢;have s:(V.withP p).fn f=V.fn f:=rfl;have t:(V.withP p).ext f args H=V.ext f args H:=rfl;rw[s,t]at h⊢;cases j:V.fn f with
 |none=>
 rw[j]at h;simp only at h⊢;split;·rename_i c;rw[E4 c]at h;rw[aeY]at h⊢;exact Qe i (by omega) h
 rfl|some a=>rw[j]at h;simp only at h⊢;cases l:a.pure with
 |false=>rw[l]at h;simp only at h⊢;cases g:V.ext f args H with|some q=>rfl|none=>rw[g]at h;simp only at h⊢;rw[FU]at h⊢;exact Fp i (by omega) h
 |true=>rw[l]at h;simp only at h⊢;cases u:aW bG H args with|none=>rfl|some q=>
 obtain⟨ds,H1⟩:=q;rw[u]at h;simp only at h⊢;have key:dU V (call V (n+M)) (n+M) f a ds=dU (V.withP p) (call (V.withP p) n) n f a ds:=by
  cases c:p f ds with|none=>
  have g:=r f ds c;have m:gS (V.withP p) (call (V.withP p) n) n a ds≠.bad:=by
   intro e;have:dU (V.withP p) (call (V.withP p) n) n f a ds=.bad:=by unfold dU;show(match p f ds with|some d=>PR.ret d|none=>_)=_;rw[c];exact e
   rw[this]at h;exact h rfl
  have e:gS (V.withP p) (call (V.withP p) n) n a ds=gS V (call (V.withP p) n) n a ds:=by simp only[gS,FU]
  rw[e]at m;have k:dU (V.withP p) (call (V.withP p) n) n f a ds=gS V (call (V.withP p) n) n a ds:=by unfold dU;show(match p f ds with|some d=>PR.ret d|none=>_)=_;rw[c];exact e
  rw[k];unfold dU;rw[g];exact AU i (by omega) m|some d=>
  have b:=o f ds d c;have k:dU (V.withP p) (call (V.withP p) n) n f a ds=.ret d:=by unfold dU;show(match p f ds with|some d=>PR.ret d|none=>_)=_;rw[c]
  rw[k];cases M with|zero=>cases b|succ M=>simp only[dh,j,dU]at b⊢;cases g:V.pext f ds with|some w=>rw[g]at b;exact b|none=>rw[g]at b;simp only at b⊢;have v:=AU (se V M (n+(M+1)) (by omega)) (show M<=n+(M+1)by omega) (vf:=a) (args:=ds) (by rw[b];nofun);rw[v,b]
 rw[key]
def ae0{M:Nat}(g:∀f ds d,p f ds=some d->dh V M f ds=.ret d)(i:∀f ds,p f ds=none->V.pext f ds=none){n:Nat}{f:FuncId}{ds:List D}{d:D}(h:dh (V.withP p) n f ds=.ret d):ai V f ds d:=by cases n with|zero=>cases h|succ n=>simp only[dh]at h;rw[show(V.withP p).fn f=V.fn f from rfl]at h;cases b:V.fn f with|none=>rw[b]at h;cases h|some c=>rw[b]at h;simp only[dU]at h;rw[show(V.withP p).pext f ds=p f ds from rfl]at h;cases a:p f ds with|some k=>rw[a]at h;cases h;exact⟨M,g _ _ _ a⟩|none=>
 rw[a]at h;simp only at h;refine⟨n+M+1,?_⟩;simp only[dh,b,dU,i f ds a];have e:gS (V.withP p) (call (V.withP p) n) n c ds=gS V (call (V.withP p) n) n c ds:=by simp only[gS,FU]
 rw[e]at h;have j:=AU (aeZ g i n) (show n<=n+M by omega) (vf:=c) (args:=ds) (by rw[h];nofun);rw[j,h]
end
end
end Go.Dm
