/-
  Part of the proof.
-/
import Derived.Test.YtekgndcflpklkaaGreatDoorC
import Derived.OrdersIn
import Derived.RangeFuncLeaves
import Derived.RangeFuncRecord
import Derived.Recover
import Derived.Attr
set_option linter.all false
namespace Go.Dm
section
section
variable {c:CX} {E:En} {nd:List Deferred} {L:Nat -> Option Nat} {K:Kn} {μ:Mu} {sl:List D} {H:ab} {a:Act} {W:World} {o:Oper} {loc:List D} {done:Nat -> Prop}
theorem aa4 {c:CX} {i:Nat} {vo:ae} {cl:Call} (ho:o.op = .defer cl) (h:i7 c i o vo=true):vo.op = .stk:=by
 obtain⟨op,keep,guard⟩:=vo
 cases op<;>first|rfl|(exfalso;simp only[i7,ho]at h;first|(cases h;done)|(simp at h;done))
theorem zd {i:Nat} {vo:ae} (ok:vD c i o vo) {cl:FuncId -> List D -> ab -> CR} {st:St} (hs:step c.V cl loc st vo.op ≠ .bad) : ∀ q,o.op ≠ .defer q:=fun q e=>hs (by rw[aa4 e ok.op];rfl)
theorem qU (rg:dK c) (ri:RI c E nd done L K μ loc sl H a W) {T:Kn -> World -> Prop} (vok:cm c.P c.V T) (hT:TE T E) {cl:FuncId -> List D -> ab -> CR} (cs:dI c.P T cl) {i:Nat} {vo:ae} (hvo:c.vos[i]?=some vo) (hd : ∀ j∈vo.locR,done j)
  (hfirst:vo.op.isBox=true -> ∀ k,vo.keep=some k -> ∀ j,done j -> c.rt[j]?≠some (some k)) {dr:Option (Bs×Bool)} {loc1:List D} {st1:St} (h:one c.V cl dr c.vos i loc ⟨sl,H⟩=some (loc1,st1))
  {next:Act -> World -> Prop} {Q:Exit -> Act -> World -> Prop} {rd:Option Nat} {m:Nat}
  (hn : ∀ L' K' μ' a' W',RI c E nd (fun j=>j=i \/ done j) L' K' μ' loc1 st1.sl st1.hp a' W' -> next a' W'):wpOpIn (FW rd) m c.P c.ops Q i next a W:=by
 have hi:i<c.ops.size:=by rw[rg.sz];exact aw hvo
 have ho:=gC hi
 have ok:=jO (rg.op i _ vo ho hvo).1
 unfold wpOpIn
 rw[ho]
 simp[one,hvo]at h
 cases hw:vo.wants loc sl with
 | none=>rw[hw]at h;cases h
 | some r =>
  have hwant:=yZ ok ri hd hw
  simp[hwant]
  cases r with
  | false =>
   rw[hw]at h
   cases h
   exact⟨fun _ _=>trivial,hn _ _ _ _ _ (ri.skipped rg ho hvo ok)⟩
  | true =>
   rw[hw]at h
   cases hf:vo.op.fits dr loc sl with
   | false=>simp only[hf]at h;cases h
   | true =>
    simp[hf]at h
    cases hs:step c.V cl loc ⟨sl,H⟩ vo.op with
    | v d st1 =>
     simp only[hs]at h
     cases h
     cases hc:vo.op.calls with
     | true=>exact Mw rg ri vok hT ho hvo hd hc cs hs (fun K' μ' v W' r=>hn _ _ _ _ _ r)
     | false=>exact oh (zd ok (by rw[hs];exact fun e=>by cases e))<|aaS rg ri ho hvo hd hc hfirst hs (fun L' K' μ' a' W' r=>hn _ _ _ _ _ r)
    | p d hp =>
     simp only[hs]at h
     cases h
    | bad=>simp only[hs]at h;cases h
theorem aa5 (rg:dK c) (ri:RI c E nd done L K μ loc sl H a W) {T:Kn -> World -> Prop} (vok:cm c.P c.V T) (hT:TE T E) {cl:FuncId -> List D -> ab -> CR} (cs:dI c.P T cl) {i:Nat} {o:Oper} {vo:ae} (ho:c.ops[i]?=some o) (hvo:c.vos[i]?=some vo) (hd : ∀ j∈vo.locR,done j)
  (hb:vo.op.isBox=false) (ha:vo.op.isAddr=false) {dr:Option (Bs×Bool)} {loc1:List D} {st1:St} (h:one c.V cl dr c.vos i loc ⟨sl,H⟩=some (loc1,st1))
  {next:Act -> World -> Prop} {Q:Exit -> Act -> World -> Prop} {rd:Option Nat} {m:Nat}
  (hn : ∀ K' μ' a' W',(∃ v,a'=a.put o.dst v) -> RI c E nd (fun j=>j=i \/ done j) L K' μ' loc1 st1.sl st1.hp a' W' -> next a' W'):wpOpIn (FW rd) m c.P c.ops Q i next a W:=by
 have ok:=jO (rg.op i _ vo ho hvo).1
 unfold wpOpIn
 rw[ho]
 simp[one,hvo]at h
 cases hw:vo.wants loc sl with
 | none=>rw[hw]at h;cases h
 | some r =>
  have hwant:=yZ ok ri hd hw
  simp[hwant]
  cases r with
  | false =>
   rw[hw]at h
   cases h
   refine⟨fun _ _=>trivial, ?_⟩
   exact hn _ _ _ _ ⟨_,rfl⟩ (ri.skipped rg ho hvo ok)
  | true =>
   rw[hw]at h
   cases hf:vo.op.fits dr loc sl with
   | false=>simp only[hf]at h;cases h
   | true =>
    simp[hf]at h
    cases hs:step c.V cl loc ⟨sl,H⟩ vo.op with
    | v d st1 =>
     simp only[hs]at h
     cases h
     cases hc:vo.op.calls with
     | true=>exact Mw rg ri vok hT ho hvo hd hc cs hs (fun K' μ' v W' r=>hn _ _ _ _ ⟨v,rfl⟩ r)
     | false =>
      refine oh (zd ok (by rw[hs];exact fun e=>by cases e)) ?_
      unfold Oper.wp
      obtain⟨K',μ',W',n,hrun,fs',hext,hsz,hres⟩:=Ok ri.fs ri.lr ok.op (fun j hj=>hd j (by exact TB _ hj)) hc hb ha hs
      rw[hrun]
      have ri':=ri.go fs' hext
      rcases hres with⟨v,rfl,hv⟩|⟨rfl,rfl⟩
      ·exact hn _ _ _ _ ⟨_,rfl⟩ (ri'.val rg ho hvo ok ha hb hv)
      ·exact hn _ _ _ _ ⟨_,rfl⟩ (ri'.val rg ho hvo ok ha hb (.u ..))
    | p d hp =>
     simp only[hs]at h
     cases h
    | bad=>simp only[hs]at h;cases h
theorem aa6 (rg:dK c) {T:Kn -> World -> Prop} (vok:cm c.P c.V T) (hT:TE T E) {cl:FuncId -> List D -> ab -> CR} (cs:dI c.P T cl) (back : ∀ (i:Nat) (vo:ae),c.vos[i]?=some vo -> ∀ j∈vo.locR,j<i)
  (hfirst : ∀ (i:Nat) (vo:ae),c.vos[i]?=some vo -> vo.op.isBox=true -> ∀ k,vo.keep=some k -> ∀ j,j<i -> c.rt[j]?≠some (some k)) {st':St} {Q:Exit -> Act -> World -> Prop} {rd:Option Nat} {m:Nat}
  (hQ : ∀ L' K' μ' a' W',FS E c.tm c.bs K' μ' L' st'.sl st'.hp a'.tmps W' -> a'.tmps.size=c.nt -> a'.defers=nd -> Q .normal a' W') :
  ∀ (n i:Nat) (L:Nat -> Option Nat) (K:Kn) (μ:Mu) (loc sl:List D) (H:ab) (a:Act) (W:World),i+n=c.vos.length -> RI c E nd (fun j=>j<i) L K μ loc sl H a W -> cY c.V cl none c.vos (List.range' i n) loc ⟨sl,H⟩=(.nm,st') ->
   wpOpsIn (FW rd) m c.P c.ops Q (List.range' i n) a W:=by
 intro n
 induction n with
 | zero =>
  intro i L K μ loc sl H a W _ ri h
  simp[List.range'_zero,cY,wx,true_and]at h
  subst h
  exact hQ _ _ _ _ _ ri.fs ri.sz ri.df
 | succ n ih =>
  intro i L K μ loc sl H a W hin ri h
  rw[AB6]at h ⊢
  have hi:i<c.vos.length:=by omega
  have hvo:=E2 hi
  rw[qR]at h
  obtain⟨loc1,st1,h1,h2⟩:=h
  refine qU rg ri vok hT cs hvo (back i _ hvo) (fun hb k hk j hj=>hfirst i _ hvo hb k hk j hj) h1 (fun L' K' μ' a' W' r => ?_)
  refine ih _ L' K' μ' loc1 _ _ a' W' (by omega) ?_ h2
  grind
theorem aa7 (rg:dK c) {T:Kn -> World -> Prop} (vok:cm c.P c.V T) (hT:TE T E) {cl:FuncId -> List D -> ab -> CR} (cs:dI c.P T cl) (csp:gI c.P T cl) (back : ∀ (i:Nat) (vo:ae),c.vos[i]?=some vo -> ∀ j∈vo.locR,j<i)
  (hfirst : ∀ (i:Nat) (vo:ae),c.vos[i]?=some vo -> vo.op.isBox=true -> ∀ k,vo.keep=some k -> ∀ j,j<i -> c.rt[j]?≠some (some k)) {q:D} {st':St} {Q:Exit -> Act -> World -> Prop} {rd:Option Nat} {m:Nat}
  (hQ : ∀ v L' K' μ' a' W',FS E c.tm c.bs K' μ' L' st'.sl st'.hp a'.tmps W' -> a'.tmps.size=c.nt -> a'.defers=nd -> VR K' μ' st'.hp q v -> Q (.panic (qf v)) a' W') :
  ∀ (n i:Nat) (L:Nat -> Option Nat) (K:Kn) (μ:Mu) (loc sl:List D) (H:ab) (a:Act) (W:World),i+n=c.vos.length -> RI c E nd (fun j=>j<i) L K μ loc sl H a W -> cY c.V cl none c.vos (List.range' i n) loc ⟨sl,H⟩=(.pn q,st') ->
   wpOpsIn (FW rd) m c.P c.ops Q (List.range' i n) a W:=by
 intro n
 induction n with
 | zero =>
  grind[cY]
 | succ n ih =>
  intro i L K μ loc sl H a W hin ri h
  rw[AB6]at h ⊢
  rw[wpOpsIn_cons]
  have hi:i<c.vos.length:=by omega
  have hvo:=E2 hi
  rcases aaH h with⟨loc1,st1,h1,h2⟩|⟨vo,hp,h1,h2,h3,rfl⟩
  ·refine qU rg ri vok hT cs hvo (back i _ hvo) (fun hb k hk j hj=>hfirst i _ hvo hb k hk j hj) h1 (fun L' K' μ' a' W' r => ?_)
   refine ih _ L' K' μ' loc1 _ _ a' W' (by omega) ?_ h2
   grind
  ·rw[hvo]at h1
   cases h1
   have hic:i<c.ops.size:=by rw[rg.sz];exact hi
   have ho:=gC hic
   have ok:=jO (rg.op i _ _ ho hvo).1
   have hwant:=yZ ok ri (back i _ hvo) h2
   unfold wpOpIn
   rw[ho]
   simp[hwant,if_true]
   exact oh (zd ok (by rw[h3];exact fun e=>by cases e))<|Mx rg ri vok hT ho hvo (back i _ hvo) csp h3 (fun v K' μ' W' fs hv=>hQ v L K' μ' a W' fs ri.sz ri.df hv)
end
end
section
theorem sS:∀{b:List Nat},nodup b=true->∀(k a t:Nat),b[k]?=some t->b[a]?=some t->k=a|[],_,k,a,t,h,_=>by grind|x::b,h,k,a,t,e,c=>by simp only[nodup,D0,hY]at h;cases k with|zero=>grind|succ k=>cases a with|zero=>grind|succ a=>exact gb _ (sS h.2 k a t (by grind) (by grind))
variable{x y:List Nat}
def yE:∀{os:List Oper}{seen:List Nat},sC x os seen=true->(∀(i:Nat)(o:Oper)(t:Nat),os[i]?=some o->o.dst=some t->x.contains t=false->seen.contains t=false)/\∀(i j:Nat)(o o':Oper)(t:Nat),os[i]?=some o->os[j]?=some o'->o.dst=some t->o'.dst=some t->x.contains t=false->i=j
 |[],_,_=>⟨λi o t e=>by grind,λi j o o' t e=>by grind⟩|o::os,seen,h=>by
  unfold sC at h;split at h;·rename_i c;obtain⟨a,b⟩:=yE h;grind
  rename_i t0 c;split at h;·rename_i d;obtain⟨a,b⟩:=yE h;grind
  simp only[D0,hY]at h;obtain⟨a,b⟩:=yE h.2;grind
def dW(P:Program)(V:au)(b:Nat)(c d:List Nat)(ops:Array Oper)(a:List ae):CX:=⟨P,V,b,c,d,ops,a,ce a⟩
def sT{P:Program}{V:au}{d:Nat}{ops:Array Oper}{g:Option Bool}{b:List ae}(h:mR P V d x y ops g b=true)(m:nodup x=true)(n:∀t∈x,t<d):dK (dW P V d x y ops b)/\(∀(i:Nat)(a:ae),b[i]?=some a->∀j∈a.locR,j<i)/\(∀(i:Nat)(a:ae),b[i]?=some a->a.op.isBox=true->∀k,a.keep=some k->∀j,j<i->(ce b)[j]?≠some (some k))/\(∀s,g=some s->(CP V s (ce b) (Region.before ops) b=true/\sE ops=true)\/CH P V d x y ops s b=true):=by
 simp[mR,CC,D0,U3,TA,fa]at h;obtain⟨⟨⟨⟨⟨p,q⟩,r⟩,u⟩,z⟩,A⟩:=h;have l:∀(i:Nat)(o:Oper)(a:ae),ops[i]?=some o->b[i]?=some a->sB (dW P V d x y ops b) i o a=true/\(ce b)[i]?=some _/\∀j∈a.locR,j<i:=λi o a f c=>by have:=r i (aw c);rw[f,c]at this;simp[D0,U3,TA,Hq]at this;exact⟨this.1.1,this.1.2,this.2⟩
 refine⟨⟨p,q,λi o a f c=>⟨(l i o a f c).1,(l i o a f c).2.1⟩,λi j o o' t v w=>(yE u).2 i j o o' t (by rw[AAA];exact v) (by rw[AAA];exact w),sS m,λk t e=>n t (lB e)⟩,λi a c=>by grind,λi a c B k C j E=>?_,λs hs=>by grind⟩;grind[MF,aw]
end
section
def fW(E:En)(c d:List Nat)(e:Nat)(nd:List Deferred)(b:St)(a:Act)(W:World):Prop:=∃L K μ,FS E c d K μ L b.sl b.hp a.tmps W/\a.tmps.size=e/\a.defers=nd
def DB(b:Ex)(R:Act->World->Prop):Exit->Act->World->Prop|.normal,a,w=>b=.nm/\R a w|.exit id,a,w=>b=.ex id/\R a w|.ret,a,w=>b=.rt/\R a w|_,_,_=>False
def ze(E:En)(c d:List Nat)(e:Nat)(nd:List Deferred)(b:St)(q:D)(v:Value)(a:Act)(W:World):Prop:=∃L K μ,FS E c d K μ L b.sl b.hp a.tmps W/\a.tmps.size=e/\a.defers=nd/\VR K μ b.hp q v
def tz(b:Ex)(R:Act->World->Prop)(c:D->Value->Act->World->Prop):Exit->Act->World->Prop|.normal,a,w=>b=.nm/\R a w|.exit id,a,w=>b=.ex id/\R a w|.ret,a,w=>b=.rt/\R a w|.panic d,a,w=>∃q v,b=.pn q/\d=qf v/\c q v a w|_,_,_=>False
def Oh{p:Nat->Prop}(h:∃n,p n):∃n,p n/\∀k,k<n->¬p k:=by obtain⟨n,a⟩:=h;induction n using Nat.strongRecOn<;>grind
def Ex.good:Ex->Bool|.nm|.ex _|.rt|.pn _=>true|_=>false
def Oi(P:Program)(V:au)(T:Kn->World->Prop)(j:FuncId->List D->ab->CR)(b:Nat)(c d:List Nat)(rd:Option Nat):Prop:=∀(E:En)(nd:List Deferred)(id:Nat)(ops:Array Oper)(e:Bool)(f:List ae)(g:List D)(H:ab)(h:Ex)(i:St)(a:Act)(W:World),TE T E->mR P V b c d ops (some e) f=true->Dm.ops V j (some (yz e f g H,e)) f [] ⟨g,H⟩=(h,i)->h.good=true->fW E c d b nd ⟨g,H⟩ a W->∀m,(Code.region id ops true).wpIn (FW rd) m P (tz h (fW E c d b nd i) (ze E c d b nd i)) a W
variable{x:FuncId->List D->ab->CR}
def tA{V:au}{dr:Option (Bs×Bool)}:∀{os:List ae}{c:List D}{d e:St}{b:Ex},ops V x dr os c d=(b,e)->b.good=true->b=.nm\/(∃q,b=.pn q)
 |[],_,_,_,_,h,_=>by cases h;grind|o::os,c,d,e,b,h,a=>by
  unfold ops at h;split at h
  ·split at h
   ·split at h;·exact tA h a
    ·split at h;·grind
     cases h;cases a
    cases h;cases a
   cases h;cases a
  ·exact tA h a
  cases h;cases a
def Ex.fin:Ex->Bool|.nm|.ex _|.rt=>true|_=>false
def aa8{V:au}{dr:Option (Bs×Bool)}{os:List ae}{c:List D}{d e:St}{a:Ex}(h:ops V x dr os c d=(a,e))(b:a.fin=true):a=.nm:=by
 rcases tA h (by cases a<;>first|rfl|cases b)with rfl|⟨q,rfl⟩;·rfl
 cases b
def oU{P:Program}{V:au}{T:Kn->World->Prop}{F:FuncId->List D->ab->CR}{B:Nat}{z C:List Nat}(al:cm P V T)(cs:dI P T F)(aw:gI P T F)(ax:nodup z=true)(ay:∀t∈z,t<B){rd:Option Nat}{m:Nat}(dr:Oi P V T F B z C rd)(E:En)(Y:TE T E)(nd:List Deferred)(n:Nat):∀(S:aQ)(l:Code),cd P V B z C l S=true->∀(d g:St)(u:Ex)(a:Act)(W:World),aC V F n S d=(u,g)->u.good=true->fW E z C B nd d a W->l.wpIn (FW rd) m P (tz u (fW E z C B nd g) (ze E z C B nd g)) a W:=by intro S;induction S with
 |skip=>
 intro l b d g u a W h r k;cases l<;>simp[cd]at b<;>first|grind|skip
 cases h;exact wpIn_skip ⟨rfl,k⟩|rng j x=>grind[cd]|stuck=>intro l b d g u a W h r k;cases h;cases r|ret=>
 intro l b d g u a W h r k;cases l<;>simp[cd]at b<;>first|grind|skip
 cases h;exact wpIn_ret ⟨rfl,k⟩|exit id=>
 intro l b d g u a W h r k;cases l<;>simp only[cd]at b<;>first|grind|skip
 simp[U3]at b;subst b;cases h;exact wpIn_exit ⟨rfl,k⟩|reg os az=>
 intro l b d g u a W h r k;cases l<;>simp only[cd]at b<;>first|grind|skip
 rename_i id opers drw;simp[D0,U3]at b;obtain⟨hd,b⟩:=b;simp[aC]at h;have a0:=tA h r;cases az with|some s=>subst hd;obtain⟨M,H⟩:=d;exact dr E nd id opers s os M H u g a W Y b h r k m|none=>
 subst hd;obtain⟨rg,back,hfirst,_⟩:=sT b ax ay;obtain⟨L,K,μ,fs,hs,Z⟩:=k;obtain⟨M,H⟩:=d;refine wpIn_region ?_;have hl:=NT V F none os [] [] ⟨M,H⟩ rfl;rw[hl]at h;rcases a0 with rfl|⟨q,rfl⟩;case inr=>have:=aa7 (rd:=rd) (m:=m) rg al Y cs aw back hfirst (Q:=tz _ (fW E z C B nd g) (ze E z C B nd g)) (λv L' K' ad G W' f1 f2 f3 f4=>⟨q,v,rfl,rfl,L',K',ad,f1,f2,f3,f4⟩) _ 0 L K μ _ M H a W (by simp[dW]) ⟨fs,λj o vo t hj=>absurd hj (by omega),hs,Z,by simp[dW]⟩ h;rw[<-List.range_eq_range',show os.length=opers.size from rg.sz.symm]at this;exact this
 have:=aa6 (rd:=rd) (m:=m) rg al Y cs back hfirst (Q:=tz .nm (fW E z C B nd g) (ze E z C B nd g)) (λL' K' ad G W' f1 f2 f3=>⟨rfl,L',K',ad,f1,f2,f3⟩) _ 0 L K μ _ M H a W (by simp[dW]) ⟨fs,λj o vo t hj=>absurd hj (by omega),hs,Z,by simp[dW]⟩ h;rw[<-List.range_eq_range',show os.length=opers.size from rg.sz.symm]at this;exact this
 |seq x y ap a4=>
 intro l b d g u a W h r k;cases l<;>simp only[cd]at b<;>first|grind|skip
 simp[D0]at b;simp[aC]at h;cases A:aC V F n x d with|mk I st1=>rw[A]at h;cases N:I with
  |nm=>subst N;simp at h;refine wpIn_seq (wpIn_mono (ap _ b.1 d st1 .nm a W A rfl k) (λe G w' c=>?_));cases e<;>simp only[tz]at c<;>first|(exact a4 _ b.2 st1 g u G w' h r c.2)|grind|grind|grind
  |_=>subst N;simp[wx]at h;obtain⟨rfl,rfl⟩:=h;first|(cases r;done)|(refine wpIn_seq (wpIn_mono (ap _ b.1 d st1 _ a W A rfl k) (λe G w' c=>?_));cases e<;>first|(cases c.1;done)|(exact c))
 |cond a5 t e a6 a7=>
 intro l b d g u a W h r k;cases l<;>simp only[cd]at b<;>first|grind|skip
 simp[D0]at b;obtain⟨⟨h0,h1⟩,h2⟩:=b;simp[aC]at h;have J:∃K μ,VR K μ d.hp (a5.ev [] d.sl) (a.eval ‹Operand›):=by obtain⟨L,K,μ,fs,hs,Z⟩:=k;exact⟨K,μ,ie fs (λi o vo t _ e=>by grind) h0 (λ_ _=>trivial)⟩
 obtain⟨K,μ,J⟩:=J;split at h;·rename_i hc;rw[hc]at J;exact wpIn_cond_true J.b_inv (a6 _ h1 d g u a W h r k)
 ·rename_i hc;rw[hc]at J;exact wpIn_cond_false J.b_inv (a7 _ h2 d g u a W h r k)
 cases h;cases r|block id x U=>
 intro l b d g u a W h r k;cases l<;>simp only[cd]at b<;>first|grind|skip
 simp[D0,U3]at b;obtain⟨rfl,b⟩:=b;simp[aC]at h;cases A:aC V F n x d with|mk I st1=>
 rw[A]at h;have bb:I.good=true:=by cases I<;>simp at h<;>first|rfl|grind
 refine wpIn_block (wpIn_mono (U _ b d st1 I a W A bb k) (λe G w' c=>?_))
 cases e with|normal=>obtain⟨rfl,c⟩:=c;cases h;exact⟨rfl,c⟩|ret=>obtain⟨rfl,c⟩:=c;cases h;exact⟨rfl,c⟩|exit bc=>
 obtain⟨rfl,c⟩:=c;simp[Exit.inBlock];simp at h;split at h;·rename_i he;subst he;cases h;rw[G1 rfl];exact⟨rfl,c⟩
 rename_i he;cases h;rw[E1 he];exact⟨rfl,c⟩|panic ch=>obtain⟨q,v,rfl,rfl,c⟩:=c;cases h;exact⟨q,v,rfl,rfl,c⟩|_=>exact c.elim
 |loop x U=>
 intro l b d g u a W h r k;cases l<;>simp[cd]at b<;>first|grind|skip
 rename_i cx;let p:=λa w m=>∃s,fW E z C B nd s a w/\iE (aC V F n x) m s=(u,g);let f:=λa w=>open Classical in if hp:∃m,p a w m then Classical.choose (Oh hp)else 0;have hf:∀a w m,p a w m->p a w (f a w)/\f a w<=m:=λa w m hm=>by have hp:∃m,p a w m:=⟨m,hm⟩;grind
 refine wpIn_loop (λa w=>∃m,p a w m) f ⟨n,d,k,h⟩ (λa w⟨m,hm⟩=>?_);obtain⟨⟨s,av,hit⟩,hle⟩:=hf a w m hm;generalize bf:f a w=q at hit;cases q with|zero=>cases hit;cases r|succ q=>simp only[iE]at hit;cases A:aC V F n x s with|mk I X=>rw[A]at hit;cases N:I with
 |nm=>subst N;refine wpIn_mono (U _ b s X .nm a w A rfl av) (λe G w' c=>?_);cases e<;>simp only[tz]at c<;>first|(exact⟨⟨q,X,c.2,hit⟩,by have:=(hf G w' q ⟨X,c.2,hit⟩).2;omega⟩)|(exact c.elim)|(cases c.1;done)|(obtain⟨_,_,A,_⟩:=c;cases A)
 |_=>subst N;simp only[wx]at hit;obtain⟨rfl,rfl⟩:=hit;first|(cases r;done)|(refine wpIn_mono (U _ b s X _ a w A rfl av) (λe G w' c=>?_);cases e<;>first|(exact(show False from c).elim)|(cases c.1;done)|(exact c))
end
section
section
variable{E:En}{tm bs:List Nat}{L:Nat->Option Nat}{K:Kn}{μ:Mu}{sl:List D}{H:ab}{a:Act}{W:World}
def qJ(tmps:Array Value):ResultVar->Sem Value|.tmp t=>pure (tmps.getD t undef)|.cell b t=>do loadVar t (<-asAddr (tmps.getD b undef))
def Zj{P:Program}(fs:FS E tm bs K μ L sl H a.tmps W){r:ResultVar}{q:cU}(h:gj P tm bs [r] [q]=true){d:D}(f:q.ev ⟨sl,H⟩=some d):∃v,(qJ a.tmps r).run P W=.ok v W/\VR K μ H d v:=by cases r with
 |tmp t=>cases q with|s k=>simp only[gj,D0,U3,hY,and_true]at h;obtain⟨I,v,A,B,C⟩:=fs.val k t h.1 h.2;simp_all[cU.ev,qJ,m9]|_=>grind[gj]
 |cell b t=>cases q with
 |s k=>grind[gj]|bx k n J=>
 simp only[gj,D0,U3,and_true]at h;obtain⟨⟨⟨i,l⟩,m⟩,o⟩:=h;simp[cU.ev]at f;split at f
 ·rename_i M hb;split at f
  ·rename_i p;have hL:∃r,L k=some r/\a.tmps[b]?=some (.pointer (some ⟨r,0,none⟩)):=by rcases fs.box k b i l with x|⟨r,U,vs,F,g1,V,X,Y,Z⟩<;>grind[fB]
   obtain⟨r,hL,w⟩:=hL;obtain⟨vs,F,N,g⟩:=C8 (c:=⟨P,⟨λ_=>none,λ_ _=>none,λ_ _ _=>none,λ_ _=>none,λ_=>none,λ_=>none⟩,0,tm,bs,#[],[],[]⟩) fs hb hL;obtain⟨v,y,z⟩:=yT m o (g.1.1.symm.trans p) g f ⟨r,0,none⟩ (λj v e=>by rw[fC,cell_of_row W r _ vs F _ N];grind);exact⟨v,by simp[qJ,m9 w,asAddr,y],z⟩
  grind
 grind|hb k n J=>
 simp only[gj,D0,U3,hY,and_true]at h;obtain⟨⟨⟨i,l⟩,m⟩,o⟩:=h;simp[cU.ev]at f;split at f
 ·rename_i I G;split at f;·rename_i M Q;obtain⟨d2,v,A,B,C⟩:=fs.val k b i l;rw[A]at G;cases G;obtain⟨S,q,vs,w,p,g,aa⟩:=No fs.hr Q C;obtain⟨u,y,z⟩:=yT (W:=W) m o (g.1.1.symm.trans p) g f ⟨S,q,none⟩ (λj v e=>by grind[fC]);exact⟨u,by simp[qJ,m9 B,w,asAddr,y],z⟩
  grind
 grind
def MW{P:Program}(fs:FS E tm bs K μ L sl H a.tmps W):∀{b:List ResultVar}{c:List cU},gj P tm bs b c=true->∀{ds:List D},cW ⟨sl,H⟩ c=some ds->∃vs,(b.mapM (qJ a.tmps)).run P W=.ok vs W/\aY K μ H ds vs
 |[],[],_,ds,h=>by cases h;exact⟨[],by simp,rfl,λj d v e=>by grind⟩|[],_::_,h,_,_=>by grind[gj]|r::_,[],h,_,_=>by grind[gj]|r::b,q::c,h,ds,f=>by
  have g:gj P tm bs [r] [q]=true/\gj P tm bs b c=true:=by cases r<;>cases q<;>simp_all[gj]
  unfold cW at f;split at f
  ·rename_i d k;split at f;·rename_i o l;cases f;obtain⟨v,g1,p⟩:=Zj fs g.1 k;obtain⟨vs,s,i⟩:=MW fs g.2 l;refine⟨v::vs,by simp_all,by simp[i.1],λj m n e t=>?_⟩;cases j with|zero=>grind|succ j=>exact i.2 j m n (by grind) (by grind)
   grind
  grind
def yG{P:Program}(fs:FS E tm bs K μ L sl H a.tmps W){fn:Func}{c:List cU}(h:gj P tm bs fn.results.toList c=true){ds:List D}(f:cW ⟨sl,H⟩ c=some ds):∃v,(results fn a.tmps).run P W=.ok v W/\VR K μ H (fS ds) v:=by
 obtain⟨vs,i,b⟩:=MW fs h f;have j:(fn.results.mapM (qJ a.tmps)).run P W=.ok vs.toArray W:=by rw[AB0];simp_all
 have g:(results fn a.tmps).run P W=.ok (if h:vs.toArray.size=1 then vs.toArray[0]else .tuple vs.toArray) W:=by
  have:results fn a.tmps=(do let vs<-fn.results.mapM (qJ a.tmps)pure (if h:vs.size=1 then vs[0]else .tuple vs)):=by constructor<;>grind
  simp_all
 refine⟨_,g,?_⟩;cases ds with|nil=>
 have:vs=[]:=by have:=b.1;grind
 subst this;constructor<;>grind|cons d ds=>cases ds with
 |nil=>have e:=b.1;match vs,e,b with|[v],_,b=>exact b.2 0 d v rfl rfl
 |cons d2 ds=>have e:=b.1;rw[dif_neg (by grind)];exact .tu _ _ _ _ b.1 b.2
end
end
section
inductive Lk:Option an->Option an->Prop|same(b:Option an):Lk b b|lock(w:Nat)(rows:List (List D))(c:Option Nat)(p l l':Bool):Lk (some (.ar w rows c p l)) (some (.ar w rows c p l'))
def Lk.symm{x y:Option an}(h:Lk x y):Lk y x:=by cases h with|same=>exact .same _|lock=>exact .lock ..
def Lk.trans{x y z:Option an}(h:Lk x y)(a:Lk y z):Lk x z:=by cases h with|same=>exact a|lock w rows c p l b=>cases a with|same=>exact .lock ..|lock=>exact .lock ..
def Sb(base:Bs)(H H':ab):Prop:=∀b,base.un b=true->Lk H[b]? H'[b]?
def bn(n:Nat):Bs:=(n,[])
theorem tB{n b:Nat}:(bn n).un b=true↔b<n:=by grind[bn,Bs.un]
def aba{base:Bs}{b:Nat}(h:base.un b=true):b<base.1:=by grind[Bs.un]
def abb{base:Bs}{a b:Nat}(h:base.ov a=true)(c:base.un b=true):a≠b:=by grind[Bs.ov,Bs.un]
def Sb.refl(base:Bs)(H:ab):Sb base H H:=λ_ _=>.same _
def Sb.symm{base:Bs}{H H':ab}(h:Sb base H H'):Sb base H' H:=λb a=>(h b a).symm
def Sb.trans{base:Bs}{H H' a:ab}(h:Sb base H H')(d:Sb base H' a):Sb base H a:=λb c=>(h b c).trans (d b c)
def Sb.mono{n:Nat}{a:Bs}{H H':ab}(h:Sb (bn n) H H')(d:a.1<=n):Sb a H H':=λb c=>h b (tB.2 (by have:=aba c;omega))
def Sb.push(H t:ab):Sb (bn H.length) H (H++t):=λb a=>by rw[tB]at a;rw[X0 a];exact .same _
def Sb.set{base:Bs}{id:Nat}{H:ab}{b:an}(h:base.ov id=true):Sb base H (H.set id b):=λi hi=>by rw[Hy (abb h hi)];exact .same _
def Gr(H H':ab):Prop:=H.length<=H'.length/\Sb (bn H.length) H H'
def Gr.refl(H:ab):Gr H H:=⟨Hk _,.refl _ _⟩
def Gr.trans{H H' a:ab}(h:Gr H H')(b:Gr H' a):Gr H a:=⟨gp h.1 b.1,h.2.trans (b.2.mono h.1)⟩
def Gr.push(H t:ab):Gr H (H++t):=⟨by simp,.push H t⟩
def Gr.lock{H:ab}{a n w:Nat}{rows:List (List D)}{c:Option Nat}{p l:Bool}(h:aK H a n=some (w,rows,c,p,l))(f:Bool):Gr H (H.set a (.ar w rows c p f)):=by
 refine⟨by simp,λb d=>?_⟩;rw[tB]at d;by_cases e:a=b;·subst e;have:=(iI h).1;rw[this,N1 d];exact .lock ..
 rw[Hy e];exact .same _
def Ol(m:Nat):(∀(d:D)(H:ab)(f:D)(H':ab),bC m H d=some (f,H')->Gr H H')/\(∀(ds:List D)(H:ab)(b:List D)(H':ab),aX m H ds=some (b,H')->Gr H H')/\(∀(c:List (List D))(H:ab)(e:List (List D))(H':ab),g9 m H c=some (e,H')->Gr H H'):=by
 induction m with|zero=>
 refine⟨λd H f H' h=>by grind[yu,gJ],λds H b H' h=>?_,λc H e H' h=>?_⟩;·cases ds<;>simp[k9,yv]at h;obtain⟨_,rfl⟩:=h;exact .refl _
 cases c<;>simp[sF,CK]at h;obtain⟨_,rfl⟩:=h;exact .refl _|succ m l=>
 obtain⟨j,k,n⟩:=l;have o:∀(ds:List D)(H:ab)(b:List D)(H':ab),aX (m+1) H ds=some (b,H')->Gr H H':=by intro ds;induction ds with|nil=>intro H b H' h;obtain⟨_,rfl⟩:=h;exact .refl _|cons x p g=>
  intro H b H' h;simp[gK]at h;split at h
  ·rename_i d1 H1 a;split at h;·rename_i q r i;cases h;exact(j _ _ _ _ a).trans (g _ _ _ i)
   grind
  grind
 refine⟨λd H f H' h=>?_,o,?_⟩
 ·rw[gJ]at h;split at h<;>first|(cases h;done)|(cases h;exact .refl _)|skip
  ·split at h
   ·rename_i s;split at h;·cases h;exact .lock s _
    grind
   grind
  ·split at h;·rename_i a;cases h;exact n _ _ _ _ a
   cases h
  ·split at h;·rename_i a;cases h;exact j _ _ _ _ a
   cases h
  split at h;·rename_i a;cases h;exact k _ _ _ _ a
  cases h
 intro c;induction c with|nil=>intro H e H' h;obtain⟨_,rfl⟩:=h;exact .refl _|cons x p g=>
 intro H e H' h;simp[uW]at h;split at h
 ·rename_i d1 H1 a;split at h;·rename_i q r i;cases h;exact(k _ _ _ _ a).trans (g _ _ _ i)
  grind
 grind
theorem abc{b a:an}(h:CM b a=true):Lk (some b) (some a):=by
 unfold CM at h;split at h;·have:=(CL _ _).1 h;cases this;exact .lock ..
 rw[(CL _ _).1 h];exact .same _
def Om:∀{H H':ab},qz H H'=true->Gr H H'|[],H',_=>⟨AAs _,λb d=>by grind[tB]⟩|b::a,[],h=>by cases h|b::a,e::f,h=>by simp[qz,D0]at h;obtain⟨g,c⟩:=Om h.2;refine⟨by grind,λi hi=>?_⟩;cases i with|zero=>grind[abc]|succ i=>exact c i (by grind[tB])
def abd(m:Nat):(∀(d:D)(H:ab)(i:D)(H':ab),qA d=true->bC m H d=some (i,H')->H'=H/\∀c,bC m c d=some (i,c))/\∀(ds:List D)(H:ab)(j:List D)(H':ab),mU ds=true->aX m H ds=some (j,H')->H'=H/\∀c,aX m c ds=some (j,c):=by induction m with|zero=>refine⟨λd H i H' _ h=>(by grind[yu]),λds H j H' _ h=>?_⟩;cases ds<;>grind[k9,yv]|succ m n=>
 refine⟨λd H i H' g h=>?_,λds=>?_⟩;·rw[gJ]at h;cases d with
 |ag o=>simp only at h;cases e:aX m H o with|none=>rw[e]at h;cases h|some p=>obtain⟨q,H1⟩:=p;rw[e]at h;cases h;obtain⟨k,l⟩:=n.2 o H q _ (by simpa only[qA]using g) e;exact⟨k,λc=>by rw[gJ];simp only[l c]⟩
 |ifc t v=>simp only at h;cases e:bC m H v with|none=>rw[e]at h;cases h|some p=>obtain⟨r,H1⟩:=p;rw[e]at h;cases h;obtain⟨k,l⟩:=n.1 v H r _ (by simpa only[qA]using g) e;exact⟨k,λc=>by rw[gJ];simp only[l c]⟩
 |fn f a b=>cases a<;>cases b<;>first|(simp only[qA]at g;cases g;done)|(cases h;exact⟨rfl,λc=>by rw[gJ]⟩)
 |_=>first|(simp only[qA]at g;cases g;done)|(cases h;exact⟨rfl,λc=>by rw[gJ]⟩)
 induction ds<;>grind[k9,mU,gK,bC,aX]
def On{m:Nat}{H:ab}{ds:List D}{r:List D×ab}(h:aX m H ds=some r):Gr H r.2:=(Ol m).2.1 _ _ r.1 _ h
def DE{H:ab}{a:List (List D)}{r:List (List D)×ab}(h:ja H a=some r):Gr H r.2:=(Ol bE).2.2 _ _ r.1 _ h
theorem zi{base:Bs}{H H':ab}(h:Sb base H H'){a n w:Nat}{rows:List (List D)}{c:Option Nat}{p l:Bool}(b:base.un a=true)(e:aK H a n=some (w,rows,c,p,l)):∃d,aK H' a n=some (w,rows,c,p,d):=by obtain⟨f,g⟩:=iI e;have:=h a b;rw[f]at this;generalize i:H'[a]?=y at this;cases this<;>grind[aK]
theorem abe{base:Bs}{H H':ab}(h:Sb base H H'){a t:Nat}{b:List D}(c:base.un a=true)(e:H[a]?=some (.hb t b)):H'[a]?=some (.hb t b):=by have:=h a c;rw[e]at this;generalize H'[a]?=y at this;cases this;rfl
variable{z:List (D×D)}
theorem Oo{base:Bs}{H H':ab}(h:Sb base H H'){a:Nat}(b:base.un a=true)(e:H[a]?=some (.mp z)):H'[a]?=some (.mp z):=by have:=h a b;rw[e]at this;generalize H'[a]?=y at this;cases this;rfl
theorem Oq{base:Bs}{H H':ab}(h:Sb base H H'){a w:Nat}{rows:List (List D)}{c:Option Nat}{p l:Bool}(b:base.un a=true)(e:H[a]?=some (.ar w rows c p l)):∃d,H'[a]?=some (.ar w rows c p d):=by have:=h a b;rw[e]at this;generalize H'[a]?=y at this;cases this<;>grind
section
variable{base:Bs}{H H':ab}
def abf(h:Sb base H H'){x:D}{n:Nat}{r:List D}(a:x.under base=true)(e:cN H x n=some r):cN H' x n=some r:=by unfold cN at*<;>grind[cN,D.under,abe,zi,Oq]
variable{x y:D}
def abg(h:Sb base H H'){x:D}{w:Nat}{r:D}(a:x.under base=true)(e:cJ H x y w=some r):cJ H' x y w=some r:=by unfold cJ at*<;>grind[cJ,D.under,zi]
def abh(h:Sb base H H'){x:D}{n w:Nat}{r:D}(a:x.under base=true)(e:mg H x y n w=some r):mg H' x y n w=some r:=by unfold mg at*;split at e<;>grind[D.under,Oq]
def abi(h:Sb base H H'){x:D}{k:Nat}(a:x.under base=true)(e:dj H k x=some y):dj H' k x=some y:=by unfold dj at*<;>grind[dj,D.under,Oo]
def abj(h:Sb base H H'){x:D}(a:x.under base=true)(e:yx H x=some y):yx H' x=some y:=by unfold yx at*<;>grind[yx,D.under,zi]
def abk(h:Sb base H H'){w:Nat}{x:D}{lo hi a:Option D}(b:x.under base=true)(e:dc H w x lo hi a=some y):dc H' w x lo hi a=some y:=by unfold dc at*;grind[D.under,zi]
theorem abl(h:Sb base H H'){x:D}(a:x.under base=true)(e:ou H x=some z):ou H' x=some z:=by unfold ou at*<;>grind[ou,D.under,Oo]
def abm(h:Sb base H H'){a:KK}{m k:D}{b:Bool}{zero:D}(c:m.under base=true)(e:mh H a m k b zero=some x):mh H' a m k b zero=some x:=by grind[mh,abl]
end
end
section
section
variable{base:Bs}{H H':ab}
def Wr(base:Bs)(a:Bool)(H H':ab):Prop:=H.length<=H'.length/\(base.1<=H.length->a=true->Sb base H H')
def Wr.of_gr(a:Bool)(h:Gr H H'):Wr base a H H':=⟨h.1,λb _=>h.2.mono b⟩
variable{z a:Bool}{e f:Nat}
def Wr.set{b:an}(h:z=true->base.ov e=true):Wr base z H (H.set e b):=⟨by simp,λ_ a=>.set (h a)⟩
def Wr.trans{a:ab}(h:Wr base z H H')(b:Wr base z H' a):Wr base z H a:=⟨gp h.1 b.1,λc d=>(h.2 c d).trans (b.2 (gp c h.1) d)⟩
def Ot{a m:Nat}{vs:List D}(b:lf H a m e f vs=some H'):Wr base (base.ov a) H H':=by
 unfold lf at b;split at b
 ·split at b
  ·split at b;·cases b;exact .set (λh=>by omega)
   grind
  grind
 grind
def Ou{x:D}{vs:List D}(e:fR H x vs=some H'):Wr base (x.over base) H H':=by
 unfold fR at e;split at e
 ·split at e
  ·split at e;·cases e;exact .set (λh=>by grind[D.over])
   grind
  grind
 ·split at e
  ·split at e
   ·rename_i a;split at e;·exact(Wr.of_gr _ (On a)).trans (Ot e)
    grind
   grind
  ·exact Ot e
  grind
 grind
theorem Ov{x d:D}{b:List (List D)}{w bytes:Nat}{p:Bool}(e:fe H x b w bytes p=some (d,H')):Wr base (x.over base) H H':=by
 have f:∀x,iA H x b w bytes p=some (d,H')->Gr H H':=λx e=>by
  unfold iA at e;split at e;·cases e;exact .refl _
  split at e;·cases e;exact .push _ _
  grind
 have g:∀{a j len:Nat}{rows:List _}{c:Option Nat}{lk:Bool},iB H a j len rows b w c p lk=some (d,H')->Wr base (base.ov a) H H':=λe=>by
  unfold iB at e;split at e;·cases e
  cases e;exact .set (λh=>by omega)
 have i:∀x w',qr H x b w' w=some (d,H')->Gr H H':=λx w' e=>by
  unfold qr at e;split at e
  ·split at e;·cases e;exact .refl _
   grind
  grind
 unfold fe at e;split at e;·exact .of_gr _ (f _ e)
 ·exact .of_gr _ (f _ e)
 ·unfold kq at e;split at e
  ·split at e
   ·split at e;·cases e;exact .of_gr _ (.refl _)
    split at e
    ·split at e;·exact g e
     grind
    split at e;·exact g e
    cases e;exact .of_gr _ (.push _ _)
   grind
  grind
 ·exact .of_gr _ (i _ _ e)
 ·exact .of_gr _ (i _ _ e)
 grind
def Ow{x y d:D}{w bytes:Nat}{p:Bool}(e:bu H x y w bytes p=some (d,H')):Wr base (x.over base) H H':=by
 unfold bu at e;split at e
 ·split at e
  ·split at e;·rename_i a;exact(Wr.of_gr _ (DE a)).trans (Ov e)
   grind
  grind[Ov]
 grind
def Ox{a:KK}{m k v:D}(e:m4 H a m k v=some H'):Wr base (m.over base) H H':=by
 unfold m4 at e;split at e
 ·split at e
  ·split at e
   ·split at e;·cases e;exact .set (λh=>by grind[D.over])
    grind
   grind
  grind
 grind
variable{x y:List D}
def Oy{l c d:D}{w bytes:Nat}{p:Bool}(e:mZ H l c w bytes x p=some (d,H')):Gr H H':=by
 unfold mZ at e;split at e
 ·split at e
  ·split at e;·cases e;exact .push _ _
   grind
  grind
 grind
def Oz{w len:Nat}{a:List (Nat×D)}{p:Bool}{d:D}(e:mY H w len x a p=some (d,H')):Gr H H':=by
 unfold mY at e;split at e;·cases e;exact .refl _
 split at e
 ·split at e
  ·split at e;·rename_i b;cases e;exact(DE b).trans (.push _ _)
   grind
  cases e;exact .push _ _
 grind
end
structure eQ(V:au)(cl:FuncId->List D->ab->CR):Prop where
 le:∀(f:FuncId)(args:List D)(H:ab)(d:D)(H':ab),cl f args H=.ret d H'->H.length<=H'.length
 gr:∀(f:FuncId)(args:List D)(H:ab)(d:D)(H':ab)(vf:aH),V.fn f=some vf->vf.pure=true->cl f args H=.ret d H'->Gr H H'
 pl:∀(f:FuncId)(args:List D)(H:ab)(d:D)(H':ab)(vf:aH),V.fn f=some vf->vf.pure=true->vf.own=false->mU args=true->cl f args H=.ret d H'->H'=H/\∀H2,cl f args H2=.ret d H2
def DF(u:Option (Nat×D))(sl:List D):List D:=match u with|none=>sl|some (k,e)=>sl.set k e
def jP(op:af)(loc sl c b:List D):Prop:=(∀x∈op.args,x.ev c b=x.ev loc sl)/\∀a∈op.base,a.ev c b=a.ev loc sl/\∀k o,a.ev loc sl=some (k,o)->b[k]?=sl[k]?
def HB(H H':ab):Prop:=∀(b t:Nat)(a:List D),H[b]?=some (an.hb t a)↔H'[b]?=some (an.hb t a)
def HB.refl(H:ab):HB H H:=λ_ _ _=>dG
def HB.symm{H H':ab}(h:HB H H'):HB H' H:=λb t a=>(h b t a).symm
def HB.trans{H H' a:ab}(h:HB H H')(d:HB H' a):HB H a:=λb t c=>(h b t c).trans (d b t c)
def HB.push(H:ab){b:an}(c:∀(t:Nat)(a:List D),b≠an.hb t a):HB H (H++[b]):=λi t a=>by grind
variable{z a:Bool}
def HB.set{H:ab}{a w w':Nat}{rows b:List (List D)}{c d:Option Nat}{p l e:Bool}(h:H[a]?=some (.ar w rows c p l)):HB H (H.set a (.ar w' b d z e)):=λi t f=>by grind
def Gr.hb{H H':ab}(h:Gr H H')(a:H'.length=H.length):HB H H':=λi t b=>by
 rcases hM i H.length with hi|hi;·have:=h.2 i (tB.2 hi);generalize H[i]?=x at this;generalize H'[i]?=y at this;cases this<;>grind
 grind
def OA{H H':ab}(h:HB H H'){x:D}{n:Nat}{r:List D}(e:ko H x n=some r):ko H' x n=some r:=by obtain⟨c,b,d,rfl⟩:=MJ e;simp[ko,cN]at e⊢;cases hb:H[b]? with|none=>grind|some y=>rw[hb]at e;cases y with|hb t a=>rw[(h b t a).1 hb];exact e|_=>cases e
theorem OB{H H':ab}{x d:D}{b:List (List D)}{w bytes:Nat}{p:Bool}(e:fe H x b w bytes p=some (d,H')):HB H H':=by
 have m:∀x,iA H x b w bytes p=some (d,H')->HB H H':=λx e=>by
  unfold iA at e;split at e;·cases e;exact .refl _
  split at e;·cases e;exact .push _ (by nofun)
  grind
 have g:∀{a i len j:Nat}{rows k:List _}{c l:Option Nat}{lk p0 lk0:Bool},H[a]?=some (.ar j k l p0 lk0)->iB H a i len rows b w c p lk=some (d,H')->HB H H':=λf e=>by
  unfold iB at e;split at e;·cases e
  obtain⟨_,rfl⟩:=e;exact .set f
 have h:∀x w',qr H x b w' w=some (d,H')->HB H H':=λx w' e=>by
  unfold qr at e;split at e
  ·split at e;·cases e;exact .refl _
   grind
  grind
 unfold fe at e;split at e;·grind
 ·grind
 ·unfold kq at e;split at e
  ·rename_i f;split at e
   ·split at e;·cases e;exact .refl _
    split at e
    ·split at e;·exact g (iI f).1 e
     grind
    split at e;·exact g (iI f).1 e
    cases e;exact .push _ (by nofun)
   grind
  grind
 ·exact h _ _ e
 ·exact h _ _ e
 cases e
def abn(m:Nat):(∀(d:D)(H:ab)(c:D)(H':ab),bC m H d=some (c,H')->H'.length=H.length)/\(∀(ds:List D)(H:ab)(b:List D)(H':ab),aX m H ds=some (b,H')->H'.length=H.length)/\(∀(a:List (List D))(H:ab)(e:List (List D))(H':ab),g9 m H a=some (e,H')->H'.length=H.length):=by
 induction m with|zero=>
 refine⟨λd H c H' h=>by grind[yu],λds H b H' h=>?_,λa H e H' h=>?_⟩;·cases ds<;>simp[k9,yv]at h;grind
 cases a<;>simp[sF,CK]at h;grind|succ m g=>
 have f:∀(ds:List D)(H:ab)(b:List D)(H':ab),aX (m+1) H ds=some (b,H')->H'.length=H.length:=by intro ds;induction ds<;>grind[k9,gK]
 refine⟨λd H c H' h=>?_,f,?_⟩;·grind[gJ]
 intro a;induction a<;>grind[sF,uW]
variable{c:List (List D)}
def abo{H:ab}{r:List (List D)×ab}(h:ja H c=some r):HB H r.2:=(DE h).hb ((abn bE).2.2 _ _ r.1 _ h)
def abp{H H':ab}{x y d:D}{w bytes:Nat}{p:Bool}(e:bu H x y w bytes p=some (d,H')):HB H H':=by
 unfold bu at e;split at e
 ·split at e
  ·split at e;·rename_i a;exact(abo a).trans (OB e)
   grind
  grind[OB]
 grind
def nc(base:Bs)(H H1:ab):HC->Prop|.n|.r|.q|.h=>H1=H|.w=>HB H H1|.a=>Sb base H H1|.d=>True
def zj(base:Bs)(H H':ab):HC->Prop|.n=>True|.r=>Sb base H H'|.a|.d|.q|.w=>H'=H|.h=>HB H H'
def HcOut(H' H1:ab):HC->ab|.n|.r|.q|.h=>H'|.a|.d|.w=>H1
structure lC(V:au)(cl:FuncId->List D->ab->CR)(base:Bs)(hc:HC)(op:af)(loc sl:List D)(H:ab)(d:D)(st1:St)(u:Option (Nat×D)):Prop where
 slot:st1.sl=DF u sl
 le:H.length<=st1.hp.length
 ok:nc base H st1.hp hc
 us:∀k e,u=some (k,e)->∃a x n o,op=.lst a x n/\a.ev loc sl=some (k,o)same:∀(loc' sl':List D)(H':ab),jP op loc sl loc' sl'->zj base H H' hc->step V cl loc' ⟨sl',H'⟩ op=.v d ⟨DF u sl',HcOut H' st1.hp hc⟩
section
variable{V:au}{cl:FuncId->List D->ab->CR}{base:Bs}{strict:Bool}{op:af}{loc sl:List D}{H:ab}{d:D}{st1:St}
variable{b:HC}
theorem lC.n(f:b=.n){X:Option D}(g:X=some d)(i:st1=⟨sl,H⟩)(h:∀(c a:List D)(H':ab),jP op loc sl c a->step V cl c ⟨a,H'⟩ op=aA ⟨a,H'⟩ X):lC V cl base b op loc sl H d st1 none:=by subst i;subst f;exact⟨rfl,Hk _,rfl,λk e h=>(by cases h),λc a H' j _=>by rw[h c a H' j,g];rfl⟩
def lC.r(f:b=.r){X:ab->Option D}(l:X H=some d)(g:st1=⟨sl,H⟩)(i:∀H',Sb base H H'->X H'=some d)(h:∀(c a:List D)(H':ab),jP op loc sl c a->step V cl c ⟨a,H'⟩ op=aA ⟨a,H'⟩ (X H')):lC V cl base b op loc sl H d st1 none:=by subst g;subst f;exact⟨rfl,Hk _,rfl,λk e h=>(by cases h),λc a H' j hs=>by rw[h c a H' j,i H' hs];rfl⟩
def lC.w(g:b=.a\/b=.d){ov:Bool}(l:st1.sl=sl)(i:Wr base ov H st1.hp)(m:base.1<=H.length)(n:b=.a->ov=true)(h:∀(f c:List D),jP op loc sl f c->step V cl f ⟨c,H⟩ op=.v d ⟨c,st1.hp⟩):lC V cl base b op loc sl H d st1 none:=by
 refine⟨l,i.1,?_,λk e h=>(by cases h),λf c H' j hs=>?_⟩
 ·rcases g with rfl|rfl;·exact i.2 m (n rfl)
  trivial
 rcases g with rfl|rfl;·cases hs;exact h f c j
 cases hs;exact h f c j
def lC.h(f:b=.h){X:ab->Option D}(g:st1=⟨sl,H⟩)(i:∀H',HB H H'->X H'=some d)(h:∀(c a:List D)(H':ab),jP op loc sl c a->step V cl c ⟨a,H'⟩ op=aA ⟨a,H'⟩ (X H')):lC V cl base b op loc sl H d st1 none:=by subst g;subst f;exact⟨rfl,Hk _,rfl,λk e h=>(by cases h),λc a H' j hs=>by rw[h c a H' j,i H' hs];rfl⟩
def lC.wa(g:b=.a\/b=.w)(l:st1.sl=sl)(i:Wr base z H st1.hp)(m:HB H st1.hp)(n:base.1<=H.length)(o:b=.a->z=true)(h:∀(f c:List D),jP op loc sl f c->step V cl f ⟨c,H⟩ op=.v d ⟨c,st1.hp⟩):lC V cl base b op loc sl H d st1 none:=by
 refine⟨l,i.1,?_,λk e h=>(by cases h),λf c H' j hs=>?_⟩
 ·rcases g with rfl|rfl;·exact i.2 n (o rfl)
  exact m
 rcases g with rfl|rfl;·cases hs;exact h f c j
 cases hs;exact h f c j
variable{x y:List D}
theorem jP.one{x:O}{a:List D}(h:jP op loc sl y a)(b:x∈op.args):x.ev y a=x.ev loc sl:=h.1 x b
def jP.all{xs:List O}{a:List D}(h:jP op loc sl y a)(b:∀x∈xs,x∈op.args):xs.map (O.ev y a)=xs.map (O.ev loc sl):=AAg λx c=>h.1 x (b x c)
def jP.opt{x:Option O}{a b:List D}(h:jP op loc sl a b)(c:∀y,x=some y->y∈op.args):x.map (O.ev a b)=x.map (O.ev loc sl):=by cases x with|none=>rfl|some y=>exact gb some (h.1 y (c y rfl))
def OC(h:op.fits (some (base,strict)) loc sl=true){x:O}(a:x∈op.reads):(x.ev loc sl).under base=true:=by
 cases strict<;>simp[af.fits,TA]at h;·exact h x a
 exact h.1 x a
def OD(h:op.fits (some (base,true)) loc sl=true){x:O}(a:x∈op.writes):(x.ev loc sl).over base=true:=by grind[af.fits]
set_option maxHeartbeats 1000000 in def abq(F:eQ V cl)(j:base.1<=H.length)(m:op.fits (some (base,strict)) loc sl=true)(h:step V cl loc ⟨sl,H⟩ op=.v d st1):∃u,lC V cl base (op.hc V strict) op loc sl H d st1 u:=by
 have wr:∀{x:O},x∈op.writes->((if strict then HC.a else .d)=.a->(x.ev loc sl).over base=true):=λ{x}I G=>by cases strict with|true=>exact OD m I|false=>cases G
 have J:(if strict then HC.a else .d)=HC.a\/(if strict then HC.a else .d)=HC.d:=by cases strict<;>simp
 have r:=λ{x}=>OC (x:=x) m;cases op;case len k x=>obtain⟨b,i⟩:=oV h;clear wr;match k,m,h,b with|0,m,h,b|1,m,h,b=>exact⟨none,.n rfl b i λ_ _ _ c=>by simp only[step,c.one (x:=x) (by simp[af.args])];rfl⟩|k+2,m,h,b=>exact⟨none,.r (H:=H) rfl b i (λH' hs=>abi hs (OC m (by simp[af.reads])) b) λ_ _ _ c=>by simp only[step,c.one (x:=x) (by simp[af.args])]⟩
 case call f y=>
  simp only[step]at h;obtain⟨b,i⟩:=jH h;refine⟨none,.w (ov:=match V.fn f with|some B=>B.pure|none=>false) ?_ (by rw[i]) ⟨F.le _ _ _ _ _ b,λj C=>?_⟩ j ?_ λ_ _ c=>by simp only[step];rw[c.all (xs:=y) (by simp[af.args]),b];rfl⟩<;>try simp only[af.hc]
  ·split;·split<;>simp
   simp
  ·split at C;·exact(F.gr _ _ _ _ _ _ ‹_› C b).2.mono j
   cases C
  cases E:V.fn f with|none=>simp|some B=>cases o:B.pure<;>simp[o]
 case cpl f y=>simp only[step]at h;cases E:V.fn f with|none=>rw[E]at h;cases h|some B=>
  rw[E]at h;simp only at h;split at h;·rename_i A;obtain⟨b,i⟩:=jH h;simp only[D0,hY]at A;obtain⟨g1,K⟩:=F.pl _ _ _ _ _ B E A.1.1 A.1.2 A.2 (Cs b);refine⟨none,.n rfl (X:=some d) rfl (by rw[i,g1]) λ_ _ H' c=>?_⟩;simp only[step,E];rw[c.all (xs:=y) (by simp[af.args]),K H'];simp only[A.1.1,A.1.2,A.2];rfl
  cases h
 all_goals try simp only[step]at h
 case pan=>unfold qB at h;split at h<;>cases h
 case app=>
  obtain⟨b,i⟩:=oW h;refine⟨none,.wa (by simp only[af.hc];cases strict<;>simp) (by rw[i]) (Ow b) (abp b) j (λG=>?_) λ_ _ c=>?_⟩;·cases strict with|true=>exact OD m (by simp[af.writes])|false=>cases G
  have t:=c.1;simp only[af.args,dA,AAO,or_false,forall_eq_or_imp,forall_eq]at t;simp only[step,t,b];rfl
 case' hbx=>obtain⟨b,i⟩:=oW h;refine⟨none,.w (ov:=true) (.inl rfl) (by rw[i]) (.of_gr _ ?_) j (λ_=>rfl) λl s c=>?_⟩;focus obtain⟨U,_,b⟩:=ka.1 b;simp only[wx]at b;rw[<-b.2];exact .push _ _
 case' calx=>obtain⟨b,i⟩:=jH h;obtain⟨t,L⟩:=(yw _ _).1 (Cu b).2;refine⟨none,.w (ov:=true) (.inl rfl) (by rw[i]) (.of_gr _ (by rw[L];exact .push _ _)) j (λ_=>rfl) λl s c=>?_⟩
 all_goals try cases h;done
 all_goals repeat' split at h<;>try(cases h;done)
 all_goals try simp only[af.reads,kz,forall_eq]at r
 all_goals try simp only[af.writes,kz,forall_eq]at wr
 all_goals try(cases h;exact⟨none,.w (ov:=true) (.inl rfl) rfl (.of_gr _ (.push _ _)) j (λ_=>rfl) λ_ _ _=>rfl⟩)
 all_goals try(cases h;refine⟨none,.n rfl (X:=some _) rfl rfl λl s _ c=>?_⟩)
 all_goals try have g:=oV h;obtain⟨b,i⟩:=g;first|refine⟨none,.r (H:=H) rfl (X:=λH=>match cN H _ _ with|some r=>val _ r|none=>none) (by rw[‹cN _ _ _=_›];exact b) i (λH' hs=>by simp only[abf hs r ‹_›];exact b) λl s H' c=>?_⟩|refine⟨none,.q (H:=H) rfl (X:=λH=>match cN H _ _ with|some r=>val _ r|none=>none) (by rw[‹cN _ _ _=_›];exact b) i λl s H' c=>?_⟩|refine⟨none,.h rfl (X:=λH=>match ko H _ _ with|some r=>val _ r|none=>none) i (λH' hs=>by simp only[OA hs ‹_›];exact b) λl s H' c=>?_⟩|refine⟨none,.n rfl b i λl s _ c=>?_⟩|refine⟨none,.r (H:=H) rfl b i (λH' hs=>by first|exact abg hs r b|exact abh hs r b|exact abj hs r b|exact abm hs r b|exact abk hs r b|exact b) λl s _ c=>?_⟩|refine⟨none,.q (H:=H) rfl b i λl s _ c=>?_⟩|refine⟨none,.w (ov:=true) (.inl rfl) (by rw[i]) (by rw[i];exact .of_gr _ (.refl _)) j (λ_=>rfl) λl s c=>?_⟩
 all_goals try have g:=jH h;obtain⟨b,i⟩:=g;first|refine⟨none,.w (ov:=true) (.inl rfl) (by rw[i]) (.of_gr _ (Om (Ct b).2)) j (λ_=>rfl) λl s c=>?_⟩|refine⟨none,.w (ov:=false) (.inr rfl) (by rw[i]) ⟨F.le _ _ _ _ _ b,λ_ C=>by cases C⟩ j (λM=>by cases M) λl s c=>?_⟩
 all_goals try have g:=oW h;obtain⟨b,i⟩:=g;first|refine⟨none,.w (ov:=true) (.inl rfl) (by rw[i]) (.of_gr _ (by first|exact Oz b|exact Oy b)) j (λ_=>rfl) λl s c=>?_⟩
 all_goals try have g:=zg h;obtain⟨b,i,N⟩:=g;subst i;refine⟨none,.w J (by rw[N]) (by first|exact Ou b|exact Ox b) j wr λl s c=>?_⟩
 all_goals try have t:=c.1;have u:=c.2;have T:=λ{y}=>c.all (xs:=y);simp only[af.args,af.base,dA,bN,AAO,or_false,forall_eq_or_imp,forall_eq]at t u T;first|simp only[step,t];done|simp only[step,t];rfl|simp only[step,t,b];rfl|simp only[step];rw[T λ_ h=>h];done|simp only[step];rw[T λ_ h=>h,b];rfl|simp only[step,u.1];rw[‹AB.ev loc sl _=_›];rfl|simp only[step,t.1];rw[T λ_ h=>.inr h];rw[‹O.ev loc sl _=_›];(first|simp only[E1 ‹¬_›,b];rfl|simp only[b];rfl|simp only[‹_=some _›,b];rfl)
 ·obtain⟨u,v⟩:=c.2 _ (.head _);have w:=v _ _ ‹_›;have q:=‹fB _ _=_›;simp only[fB]at q;simp only[step,u,‹AB.ev loc sl _=_›,fB,w,q,‹dS _ _ _=_›]
 ·cases h;refine⟨some (_,.bx _),rfl,Hk _,rfl,λ_ _ e=>by cases e;exact⟨_,_,_,_,rfl,‹_›⟩,λl s _ c _=>?_⟩;obtain⟨u,v⟩:=c.2 _ (.head _);have w:=v _ _ ‹_›;have q:=‹fB _ _=_›;simp only[fB]at q;simp only[step,u,‹AB.ev loc sl _=_›,fB,w,q,c.1 _ (.head _),‹D.cellsN _ _=_›,‹cA _ _ _=_›];rfl
 ·simp only[step,c.1 _ (.head _)];cases cN H' _ _<;>rfl
 ·obtain⟨b,i⟩:=oV h;rename_i x n P _ r hr;exact⟨none,.h rfl (X:=λH=>match ko H (x.ev loc sl) n with|some r=>val P r|none=>none) i (λH' hs=>by simp only[OA hs hr];exact b) λ_ _ H' c=>by simp only[step,c.1 _ (.head _)];cases ko H' (x.ev loc sl) n<;>rfl⟩
 ·simp only[step,c.1 _ (.head _),c.1 _ (.tail _ (.head _)),‹D.cellsN _ _=_›,b];rfl
 ·refine gb (λz=>aA _ (Option.map D.ag (jb _ z))) (AAg λp o=>gb (λz=>(p.1,p.2.1,z)) (c.1 _ (f0.2 ⟨p,o,rfl⟩)))
 ·refine(gb (λz=>gk ⟨s,H⟩ (mY H _ _ _ z _)) (AAg λp o=>gb (λz=>(p.1,z)) (c.1 _ (f0.2 ⟨p,o,rfl⟩)))).trans (by rw[b];rfl)
 ·refine gb (λz=>aA _ (oA _ _ _ z)) (AAg λp o=>gb (λz=>(p.1,z)) (c.1 _ (f0.2 ⟨p,o,rfl⟩)))
 iterate 2 rename_i lo hi Q _ _;simp only[step,c.1 _ (.head _)];rw[c.opt (x:=lo) (by simp+contextual[af.args]),c.opt (x:=hi) (by simp+contextual[af.args]),c.opt (x:=Q) (by simp+contextual[af.args])]
 ·rename_i lo hi;simp only[step,c.1 _ (.head _)];rw[c.opt (x:=lo) (by simp+contextual[af.args]),c.opt (x:=hi) (by simp+contextual[af.args]),b,i];rfl
 rename_i y S _;simp only[step];rw[c.all (xs:=y) (by simp+contextual[af.args]),c.all (xs:=S) (by simp+contextual[af.args])];rfl
end
end
section
section
variable {V:au} {cl:FuncId -> List D -> ab -> CR} {base:Bs} {strict:Bool} {vos:List ae} {rt:List (Option Nat)}
def upds (us:List (Nat×D)) (sl:List D):List D:=us.foldl (fun s u=>s.set u.1 u.2) sl
theorem vG : ∀ (us:List (Nat×D)) (sl:List D) (k:Nat),(∀ u∈us,u.1≠k) -> (upds us sl)[k]?=sl[k]?
 | [],_,_,_=>rfl
 | u::us,sl,k,h=>by
  have:=vG us (sl.set u.1 u.2) k (fun v hv=>h v (K2 _ hv))
  grind[upds]
theorem OE : ∀ (us:List (Nat×D)) (sl:List D) (k:Nat) (d:D),(∀ u∈us,u.1≠k) -> upds us (sl.set k d)=(upds us sl).set k d
 | [],_,_,_,_=>rfl
 | u::us,sl,k,d,h=>by
  have:=OE us (sl.set u.1 u.2) k d (fun v hv=>h v (K2 _ hv))
  unfold upds at *
  rw[x6,x6, <- this,List.set_comm _ _ (h u N2).symm]
theorem OF : ∀ (vs us:List (Nat×D)) (sl:List D),(∀ u∈us, ∀ v∈vs,u.1≠v.1) -> upds vs (upds us sl)=upds us (upds vs sl)
 | [],_,_,_=>rfl
 | v::vs,us,sl,h=>by
  have:=OF vs us (sl.set v.1 v.2) (fun u hu w hw=>h u hu w (K2 _ hw))
  grind[upds,OE]
def vH (keep:Option Nat) (d:D):List (Nat×D) :=
 match keep with
 | none=>[]
 | some k=>[(k,d)]
theorem zl (u:Option (Nat×D)) (keep:Option Nat) (d:D) (sl:List D):dU (DF u sl) keep d=upds (u.toList++vH keep d) sl:=by
 cases u<;>cases keep<;>rfl
def LP (vos:List ae) (rt:List (Option Nat)) (loc:List D):Prop :=
 ∀ (i:Nat) (vo:ae) (k o:Nat),vos[i]?=some vo -> vo.op.isAddr=true -> loc[i]?=some (.lp k o) -> rt[i]?=some (some k)
structure jQ (vos:List ae) (rt:List (Option Nat)):Prop where
 addr : ∀ (i:Nat) (vo:ae) (j:Nat),vos[i]?=some vo -> AB.lo j∈vo.op.base -> ∃ vj,vos[j]?=some vj /\ vj.op.isAddr=true
 step : ∀ (i:Nat) (vo:ae),vos[i]?=some vo -> rt[i]?=some (qG rt vo)
structure jl (base:Bs) (vos:List ae) (rt:List (Option Nat)) (loc:List D) (st:St):Prop where
 len:loc.length=vos.length
 b:base.1 <= st.hp.length
 lp:LP vos rt loc
def lD (rt:List (Option Nat)) (o:ae) (loc sl loc' sl':List D):Prop :=
 (∀ j∈o.locR,loc'[j]?=loc[j]?) /\ ∀ k∈o.slR rt,sl'[k]?=sl[k]?
theorem lD.ev {o:ae} {loc sl loc' sl':List D} (h:lD rt o loc sl loc' sl') {x:O} (h1 : ∀ j∈x.locs,j∈o.locR) (h2 : ∀ k∈x.slots,k∈o.slR rt):x.ev loc' sl'=x.ev loc sl:=by
 cases x with
 | l i=>simp[O.ev,l4,h.1 i (h1 i (by simp[O.locs]))]
 | s k=>simp[O.ev,l4,h.2 k (h2 k (by simp[O.slots]))]
 | c d=>rfl
theorem lD.wants {o:ae} {loc sl loc' sl':List D} (h:lD rt o loc sl loc' sl'):o.wants loc' sl'=o.wants loc sl:=by
 unfold ae.wants
 cases hg:o.guard with
 | none=>rfl
 | some p =>
  obtain⟨x,w⟩:=p
  simp
  rw[h.ev (fun j hj=>by grind[ae.locR]) (fun k hk=>by grind[ae.slR])]
theorem lD.args {o:ae} {loc sl loc' sl':List D} (h:lD rt o loc sl loc' sl') {x:O} (hx:x∈o.op.args):x.ev loc' sl'=x.ev loc sl :=
 h.ev (fun j hj=>TB _ (TB _ (pb.2 ⟨x,hx,hj⟩))) (fun k hk=>TB _ (TB _ (pb.2 ⟨x,hx,hk⟩)))
theorem lD.like {o:ae} {i:Nat} {loc sl loc' sl':List D} (bo:jQ vos rt) (ho:vos[i]?=some o) (hlp:LP vos rt loc) (h:lD rt o loc sl loc' sl'):jP o.op loc sl loc' sl':=by
 refine⟨fun x hx=>h.args hx,fun a ha => ?_⟩
 have hl:=fun j hj=>h.1 j (TB _ (fd _ (pb.2 ⟨a,ha,hj⟩)))
 have hs:=fun k hk=>h.2 k (TB _ (fd _ (pb.2 ⟨a,ha,hk⟩)))
 cases a with
 | sl k =>
  grind[lh,AB.ev]
 | lo j =>
  have hj:=hl j (by simp[AB.locs])
  refine⟨by grind[AB.ev],fun k' o' e => ?_⟩
  simp[AB.ev]at e
  split at e
  ·rename_i hlj
   cases e
   obtain⟨vj,h1,h2⟩:=bo.addr i o j ho ha
   exact hs k' (by simp[lh,hlp j vj k' _ h1 h2 hlj])
  grind
theorem abr (op:af) : ∀ x∈op.reads,x∈op.args:=by
 cases op with
 | len k x=>match k with
  | 0=>simp[af.reads]
  | 1=>simp[af.reads]
  | k+2=>simp[af.reads,af.args]
 | _=>simp[af.reads,af.args]
theorem abs (op:af) : ∀ x∈op.writes,x∈op.args:=by
 cases op<;>simp[af.writes,af.args]
theorem OG {α:Type} {xs:List α} {f g:α -> Bool} (h : ∀ x∈xs,f x=g x):xs.all f=xs.all g:=by
 grind
theorem lD.fits {o:ae} {loc sl loc' sl':List D} (h:lD rt o loc sl loc' sl'):o.op.fits (some (base,strict)) loc' sl'=o.op.fits (some (base,strict)) loc sl:=by
 have h1:(o.op.reads.all fun x=>(x.ev loc' sl').under base)=o.op.reads.all fun x=>(x.ev loc sl).under base :=
  OG fun x hx=>by rw[h.args (abr _ x hx)]
 have h2:(o.op.writes.all fun x=>(x.ev loc' sl').over base)=o.op.writes.all fun x=>(x.ev loc sl).over base :=
  OG fun x hx=>by rw[h.args (abs _ x hx)]
 cases strict<;>simp[af.fits,h1,h2]
structure OH (V:au) (cl:FuncId -> List D -> ab -> CR) (base:Bs) (strict:Bool) (vos:List ae) (rt:List (Option Nat)) (i:Nat) (o:ae) (loc:List D) (st:St) (loc1:List D) (st1:St) (d:D) (us:List (Nat×D)):Prop where
 at_:loc1=loc.set i d
 slot:st1.sl=upds us st.sl
 ks : ∀ u∈us,u.1∈o.slW rt
 le:st.hp.length <= st1.hp.length
 ok:nc base st.hp st1.hp (o.op.hc V strict)
 same : ∀ (loc' sl':List D) (H':ab),lD rt o loc st.sl loc' sl' -> zj base st.hp H' (o.op.hc V strict) ->
  one V cl (some (base,strict)) vos i loc' ⟨sl',H'⟩=some (loc'.set i d,⟨upds us sl',HcOut H' st1.hp (o.op.hc V strict)⟩)
theorem nc.refl (base:Bs) (H:ab) (c:HC):nc base H H c:=by
 cases c<;>first|trivial|exact Sb.refl _ _|exact HB.refl _
theorem zm (hcl:eQ V cl) (bo:jQ vos rt) {i:Nat} {o:ae} {loc loc1:List D} {st st1:St} (inv:jl base vos rt loc st) (ho:vos[i]?=some o) (h:one V cl (some (base,strict)) vos i loc st=some (loc1,st1)) :
  ∃ d us,OH V cl base strict vos rt i o loc st loc1 st1 d us:=by
 obtain⟨sl,H⟩:=st
 unfold one at h
 simp[ho]at h
 split at h
 ·rename_i hw
  split at h
  ·rename_i hf
   split at h
   ·rename_i d st2 hs
    cases h
    obtain⟨u,e⟩:=abq hcl inv.b hf hs
    refine⟨d,u.toList++vH o.keep d,rfl, ?_,fun v hv => ?_,e.le,e.ok,fun loc' sl' H' hl hin => ?_⟩
    ·rw[e.slot,zl]
    ·rcases bN.1 hv with hv|hv
     ·cases u with
      | none=>cases hv
      | some q =>
       obtain⟨k,x⟩:=q
       simp[Option.toList_some,kz]at hv
       subst hv
       obtain⟨a,x',n,off,hop,hev⟩:=e.us k x rfl
       simp only[ae.slW,hop]
       refine fd _ ?_
       cases a with
       | sl k' =>
        grind[AB.ev,lh]
       | lo j =>
        simp[AB.ev]at hev
        split at hev
        ·rename_i hlj
         cases hev
         obtain⟨vj,h1,h2⟩:=bo.addr i o j ho (by grind[af.base])
         simp[lh,inv.lp j vj _ _ h1 h2 hlj]
        grind
     ·cases hk:o.keep<;>grind[vH,ae.slW]
    ·unfold one
     simp[ho,hl.wants]
     simp[hw,hl.fits,hf,e.same loc' sl' H' (hl.like bo ho inv.lp) hin,zl]
   grind
  grind
 ·rename_i hw
  cases h
  refine⟨.u,vH _ .u,rfl,zl none _ .u sl,fun v hv => ?_,Hk _,.refl _ _ _,fun loc' sl' H' hl hin => ?_⟩
  ·cases hk:o.keep<;>grind[vH,ae.slW]
  ·unfold one
   simp[ho,hl.wants,hw,ep,wx,St.mk.injEq,true_and]
   refine⟨zl none _ .u sl', ?_⟩
   cases hc:o.op.hc V _<;>rw[hc]at hin<;>first|rfl|exact hin
 grind
theorem tC (hcl:eQ V cl) (bo:jQ vos rt) {i:Nat} {loc loc1:List D} {st st1:St} (inv:jl base vos rt loc st) (h:one V cl (some (base,strict)) vos i loc st=some (loc1,st1)):jl base vos rt loc1 st1:=by
 cases ho:vos[i]? with
 | none=>unfold one at h;simp only[ho]at h;cases h;exact inv
 | some o =>
  obtain⟨d,us,e⟩:=zm hcl bo inv ho h
  refine⟨by rw[e.at_];simpa using inv.len,gp inv.b e.le,fun j vo k off hj ha hl => ?_⟩
  by_cases hij:i=j
  ·subst hij
   rw[ho]at hj;cases hj
   have hi:i<loc.length:=by rw[inv.len];exact aw ho
   rw[e.at_,N1 hi]at hl
   cases hl
   have hrt:=bo.step i o ho
   rw[hrt]
   obtain⟨sl,H⟩:=st
   unfold one at h
   simp only[ho]at h
   split at h
   ·split at h
    ·split at h
     ·rename_i d' st2 hs
      have hd:d' = .lp k off:=by
       cases h
       have:=e.at_
       have h2:=gb (·[i]?) this
       simp only[N1 hi]at h2
       exact kb h2
      subst hd
      have ax : ∀ (a:AB) (o':Nat),a∈o.op.base -> a.ev loc sl=some (k,o') -> (match a with | .sl k=>some k | .lo j=>(rt[j]?).join)=some k:=fun a o' hm hev=>by
       cases a with
       | sl k' =>
        simp only[AB.ev]at hev
        split at hev
        ·cases hev;rfl
        ·cases hev
       | lo j =>
        simp only[AB.ev]at hev
        split at hev
        ·rename_i hlj
         cases hev
         obtain⟨vj,h1,h2⟩:=bo.addr i o j ho hm
         simp[inv.lp j vj _ _ h1 h2 hlj]
        ·cases hev
      cases hop:o.op<;>rw[hop]at ha<;>first|(cases ha;done)|skip
      ·rename_i a off'
       rw[hop]at hs
       simp only[step]at hs
       split at hs
       ·rename_i k' o' hev
        cases hs
        have:=ax a o' (by rw[hop];simp[af.base]) hev
        simp only[qG,hop]
        exact gb some this
       ·cases hs
     ·cases h
    ·cases h
   ·cases h
    have:=e.at_
    have h2:=gb (·[i]?) this
    simp only[N1 hi]at h2
    cases h2
   ·cases h
  ·rw[e.at_,Hy hij]at hl
   exact inv.lp j vo k off hj ha hl
theorem vI {a b:List Nat} (h:qF a b=false) : ∀ x∈a,x∉b:=by grind[qF]
structure fj (V:au) (strict:Bool) (rt:List (Option Nat)) (i j:Nat) (x y:ae):Prop where
 l1:i∉y.locR
 l2:j∉x.locR
 s1 : ∀ k∈x.slW rt,k∉y.slR rt
 s2 : ∀ k∈x.slW rt,k∉y.slW rt
 s3 : ∀ k∈x.slR rt,k∉y.slW rt
 h:(x.op.hc V strict).free (y.op.hc V strict)=true
 p:x.op.pans=false
 q:y.op.pans=false
theorem zn {i j:Nat} {x y:ae} (hx:vos[i]?=some x) (hy:vos[j]?=some y) (h:oC V strict rt vos i j=true):fj V strict rt i j x y:=by
 simp only[oC,hx,hy,D0,hY]at h
 obtain⟨⟨⟨⟨⟨⟨h1,h2⟩,h3⟩,h4⟩,h5⟩,h6⟩,h7⟩:=h
 exact⟨by grind,by grind,fun k hk hm=>vI h3 k hk (TB _ hm),fun k hk hm=>vI h3 k hk (fd _ hm),vI h4,h5,h6,h7⟩
theorem zo (hcl:eQ V cl) (bo:jQ vos rt) {i j:Nat} (hij:i≠j) {x y:ae} (hx:vos[i]?=some x) (hy:vos[j]?=some y) (hi:fj V strict rt i j x y) {loc loc1 loc2:List D} {st st1 st2:St} (inv:jl base vos rt loc st)
  (h1:one V cl (some (base,strict)) vos i loc st=some (loc1,st1)) (h2:one V cl (some (base,strict)) vos j loc1 st1=some (loc2,st2)) :
  ∃ loc3 st3,one V cl (some (base,strict)) vos j loc st=some (loc3,st3) /\ one V cl (some (base,strict)) vos i loc3 st3=some (loc2,st2):=by
 obtain⟨d,us,e1⟩:=zm hcl bo inv hx h1
 obtain⟨e,vs,e2⟩:=zm hcl bo (tC hcl bo inv h1) hy h2
 obtain⟨sl,H⟩:=st
 obtain⟨sl1,H1⟩:=st1
 obtain⟨sl2,H2⟩:=st2
 have g1:=e1.at_
 have g2:=e2.at_
 have g3:sl1=upds us sl:=e1.slot
 have g4:sl2=upds vs sl1:=e2.slot
 have o1:nc base H H1 _:=e1.ok
 have o2:nc base H1 H2 _:=e2.ok
 have hf:=hi.h
 have k1:=e2.same loc sl H ⟨fun q hq => ?_,fun k hk => ?_⟩ ?_
 ·have k2:=e1.same (loc.set j e) (upds vs sl) (HcOut H H2 (y.op.hc V strict)) ⟨fun q hq => ?_,fun k hk => ?_⟩ ?_
  ·refine ⟨_,_,k1, ?_⟩
   rw[k2]
   refine gb some (Prod.ext ?_ ?_)
   ·simp[g1,g2]
    exact List.set_comm _ _ (AAN hij)
   ·simp [St.mk.injEq]
    refine⟨?_, ?_⟩
    ·rw[g4,g3]
     exact(OF vs us sl (fun u hu v hv he=>hi.s2 _ (e1.ks u hu) (he▸e2.ks v hv))).symm
    ·revert hf o1 o2
     cases x.op.hc V _<;>cases y.op.hc V _<;>simp[HC.free,nc,HcOut]<;>intros<;>simp_all
  ·rw[Hy (fun hh=>hi.l2 (by rw[hh];exact hq))]
  ·exact vG vs sl k (fun v hv hh=>hi.s3 k hk (hh▸e2.ks v hv))
  ·revert hf o1 o2
   cases x.op.hc V _<;>cases y.op.hc V _<;>simp[HC.free,nc,HcOut,zj]<;>intros<;>simp_all
   all_goals first|exact Sb.refl _ _|exact HB.refl _
 ·rw[g1,Hy (fun hh=>hi.l1 (by rw[hh];exact hq))]
 ·rw[g3];exact(vG us sl k (fun u hu hh=>hi.s1 _ (e1.ks u hu) (hh▸hk))).symm
 ·revert hf o1 o2
  cases x.op.hc V _<;>cases y.op.hc V _<;>simp[HC.free,nc,zj]<;>intros<;>simp_all
  all_goals first|exact Sb.refl _ _|exact HB.refl _|exact Sb.symm (by assumption)|exact HB.symm (by assumption)
theorem DG (hcl:eQ V cl) (bo:jQ vos rt) {j:Nat} {y:ae} (hy:vos[j]?=some y) {post:List Nat} {st':St} : ∀ (pre:List Nat) (loc:List D) (st:St),jl base vos rt loc st ->
  (∀ i∈pre,i≠j /\ ∃ x,vos[i]?=some x /\ fj V strict rt i j x y) -> cY V cl (some (base,strict)) vos (pre++j::post) loc st=(.nm,st') -> cY V cl (some (base,strict)) vos (j::(pre++post)) loc st=(.nm,st'):=by
 intro pre
 induction pre with
 | nil=>grind
 | cons i pre ih =>
  intro loc st inv hp h
  rw[T1,qR]at h
  obtain⟨loc1,st1,h1,h2⟩:=h
  have inv1:=tC hcl bo inv h1
  have h3:=ih loc1 st1 inv1 (fun q hq=>hp q (K2 _ hq)) h2
  rw[qR]at h3
  obtain⟨hne,x,hx,hi⟩:=hp i N2
  grind[zo,qR]
theorem abt (hcl:eQ V cl) (bo:jQ vos rt) {j:Nat} {y:ae} (hy:vos[j]?=some y) {post:List Nat} {r:List D×St} : ∀ (pre:List Nat) (loc:List D) (st:St),jl base vos rt loc st ->
  (∀ i∈pre,i≠j /\ ∃ x,vos[i]?=some x /\ fj V strict rt i j x y) -> mq V cl (some (base,strict)) vos (pre++j::post) loc st=some r -> mq V cl (some (base,strict)) vos (j::(pre++post)) loc st=some r:=by
 intro pre
 induction pre with
 | nil=>grind
 | cons i pre ih =>
  intro loc st inv hp h
  rw[T1,th]at h
  obtain⟨loc1,st1,h1,h2⟩:=h
  have inv1:=tC hcl bo inv h1
  have h3:=ih loc1 st1 inv1 (fun q hq=>hp q (K2 _ hq)) h2
  rw[th]at h3
  obtain⟨loc2,st2,h4,h5⟩:=h3
  obtain⟨hne,x,hx,hi⟩:=hp i N2
  obtain⟨loc3,st3,h6,h7⟩:=zo hcl bo hne hx hy hi inv h1 h4
  rw[th]
  refine⟨loc3,st3,h6, ?_⟩
  rw[T1,th]
  exact⟨loc2,st2,h7,h5⟩
end
end
section
def oD (acc:Array Nat) (o:Oper):Nat:=o.after.foldl (fun s e=>if Region.binds .any e then s ||| 2 ^ e.on ||| acc.getD e.on 0 else s) 0
theorem Y0 (ops:Array Oper):Region.before ops=ops.toList.foldl (fun acc o=>acc.push (oD acc o)) #[]:=by
 unfold Region.before
 rw[<- Array.foldl_toList]
 rfl
theorem CQ : ∀ (l:List Oper) (acc:Array Nat) (j:Nat),j<acc.size -> (l.foldl (fun acc o=>acc.push (oD acc o)) acc).getD j 0=acc.getD j 0
 | [],_,_,_=>rfl
 | o::l,acc,j,h=>by
  rw[x6,CQ l _ j (by grind)]
  simp[h,Array.getElem_push,Nat.lt_succ_of_lt h]
theorem MN : ∀ (l:List Oper) (acc:Array Nat) (i:Nat) (o:Oper),l[i]?=some o -> ∃ acc':Array Nat,acc'.size=acc.size+i /\
  (∀ q,q<acc'.size -> acc'.getD q 0=(l.foldl (fun acc o=>acc.push (oD acc o)) acc).getD q 0) /\ (l.foldl (fun acc o=>acc.push (oD acc o)) acc).getD (acc.size+i) 0=oD acc' o
 | [],_,_,_,h=>by grind
 | o::l,acc,i,o',h=>by
  cases i with
  | zero =>
   cases h
   refine⟨acc,by simp,fun q hq=>(CQ _ acc q hq).symm, ?_⟩
   rw[x6,k0,CQ l _ _ (by simp)]
   simp_all
  | succ i =>
   obtain⟨acc',h1,h2,h3⟩:=MN l (acc.push (oD acc o)) i o' (by grind)
   grind
theorem Y1 {acc:Array Nat} {o:Oper} {i:Nat} (h:(oD acc o).testBit i=true) : ∃ e∈o.after.toList,Region.binds .any e=true /\ (i=e.on \/ (acc.getD e.on 0).testBit i=true):=by
 unfold oD at h
 rw[<- Array.foldl_toList]at h
 have : ∀ (l:List Edge) (s:Nat),(l.foldl (fun s e=>if Region.binds .any e then s ||| 2 ^ e.on ||| acc.getD e.on 0 else s) s).testBit i=true ->
   s.testBit i=true \/ ∃ e∈l,Region.binds .any e=true /\ (i=e.on \/ (acc.getD e.on 0).testBit i=true):=by
  intro l
  induction l<;>grind
 grind
theorem MO {ops:Array Oper} {j i:Nat} {o:Oper} (ho:ops[j]?=some o) (h:((Region.before ops).getD j 0).testBit i=true) :
  ∃ e∈o.after.toList,Region.binds .any e=true /\ (i=e.on \/ (e.on<j /\ ((Region.before ops).getD e.on 0).testBit i=true)):=by
 obtain⟨acc',h1,h2,h3⟩:=MN ops.toList #[] j o (by grind)
 grind[Y0,Y1]
section
variable {c:CX} {E:En} {nd:List Deferred}
def aL (listed:Array Bool) (i:Nat):Prop:=listed.getD i false=true
theorem qH {listed:Array Bool} {i j:Nat} (h:aL (listed.setIfInBounds i true) j):j=i \/ aL listed j:=by
 unfold aL at *
 by_cases hij:j=i
 ·omega
 ·right
  simp only[Array.getD,AAJ]at *
  split at h
  ·rename_i hlt
   rw[<- h]
   simp[ABg]
   grind
  grind
theorem oE {listed:Array Bool} {i j:Nat} (h:aL listed j):aL (listed.setIfInBounds i true) j:=by
 unfold aL at *
 simp only[Array.getD,AAJ]at *
 split at h
 ·rename_i hlt
  simp[ABg]at *
  grind
 grind
theorem Y2 {listed:Array Bool} {i:Nat} (h:i<listed.size):aL (listed.setIfInBounds i true) i:=by
 simp_all[aL]
theorem oF {listed:Array Bool} {i:Nat} (h:i<listed.size):(!listed.getD i true)=true ↔ ¬ aL listed i:=by
 grind[aL]
structure AO (c:CX) (E:En) (nd:List Deferred) (base:Bs) (strict:Bool) (n:Nat) (listed:Array Bool) (l:List Nat) (L:Nat -> Option Nat) (K:Kn) (μ:Mu) (loc:List D) (st:St) (a:Act) (W:World):Prop where
 kn:n <= c.vos.length
 z:listed.size=c.vos.length
 li:l=(List.range n).filter fun i => !listed.getD i true
 cl : ∀ i j,aL listed j -> ((Region.before c.ops).getD j 0).testBit i=true -> aL listed i
 ix : ∀ (i j:Nat) (x y:ae),i<j -> aL listed j -> ¬ aL listed i -> c.vos[i]?=some x -> c.vos[j]?=some y -> fj c.V strict c.rt i j x y
 ri:RI c E nd (aL listed) L K μ loc st.sl st.hp a W
 iv:jl base c.vos c.rt loc st
theorem qI (rg:dK c) {listed:Array Bool} {i:Nat} (hsz:listed.size=c.vos.length):i∈Region.ready .any c.ops listed ↔ ∃ o,c.ops[i]?=some o /\ ¬ aL listed i /\ ∀ e∈o.after.toList,Region.binds .any e=true -> aL listed e.on:=by
 simp only[Region.ready,n0,fa,D0]
 constructor
 ·rintro⟨h1,h2,h3⟩
  refine⟨_,gC h1,(oF (by grind)).1 h2,fun e he hb => ?_⟩
  rw[gC h1]at h3
  simp only[ef,eD,Array.all_eq_true']at h3
  grind[aL]
 ·rintro⟨o,ho,h2,h3⟩
  obtain⟨h1,rfl⟩:=AAT.1 ho
  refine⟨h1,(oF (by have:=rg.sz;omega)).2 h2, ?_⟩
  grind[aL]
section
variable {base:Bs} {strict:Bool} {n:Nat} {listed:Array Bool} {l:List Nat} {L:Nat -> Option Nat} {K:Kn} {μ:Mu} {loc:List D} {st:St} {a:Act} {W:World}
theorem AO.mem (h:AO c E nd base strict n listed l L K μ loc st a W) {i:Nat}:i∈l↔i<n /\ ¬ aL listed i:=by
 rw[h.li,n0,fa]
 have:=h.kn
 have:=h.z
 grind[oF]
theorem AO.pw (h:AO c E nd base strict n listed l L K μ loc st a W):l.Pairwise (· < ·):=by rw[h.li];exact .filter _ ABJ
theorem AO.bef (h:AO c E nd base strict n listed l L K μ loc st a W) {i j:Nat} {o:Oper} (ho:c.ops[i]?=some o) (ha : ∀ e∈o.after.toList,Region.binds .any e=true -> aL listed e.on) (hj:((Region.before c.ops).getD i 0).testBit j=true):aL listed j:=by
 obtain⟨e,he,hb,rfl|⟨_,hc⟩⟩:=MO ho hj
 ·grind
 ·exact h.cl j e.on (ha e he hb) hc
theorem AO.one (h:AO c E nd base strict n listed l L K μ loc st a W) (rg:dK c) {T:Kn -> World -> Prop} (vok:cm c.P c.V T) (hT:TE T E) {cl:FuncId -> List D -> ab -> CR} (cs:dI c.P T cl) (hcl:eQ c.V cl) (bo:jQ c.vos c.rt) (back : ∀ (i:Nat) (vo:ae),c.vos[i]?=some vo -> ∀ j∈vo.locR,j<i)
  (hfirst : ∀ (i:Nat) (vo:ae),c.vos[i]?=some vo -> vo.op.isBox=true -> ∀ k,vo.keep=some k -> ∀ j,j<i -> c.rt[j]?≠some (some k)) {i:Nat} {vo:ae} (hvo:c.vos[i]?=some vo) (hin:i<n) (h2 : ¬ aL listed i) (hb : ∀ j,((Region.before c.ops).getD i 0).testBit j=true -> aL listed j)
  (hpre : ∀ j (x:ae),j<i -> ¬ aL listed j -> c.vos[j]?=some x -> fj c.V strict c.rt j i x vo) {Q:Exit -> Act -> World -> Prop} {rd:Option Nat} {m:Nat} {next:Act -> World -> Prop} :
  ∃ pre post,l=pre++i::post /\ (∀ j∈pre,j≠i /\ ∃ y,c.vos[j]?=some y /\ fj c.V strict c.rt j i y vo) /\ ∀ {loc1 st1},Dm.one c.V cl (some (base,strict)) c.vos i loc st=some (loc1,st1) ->
   (∀ L' K' μ' a' W',AO c E nd base strict n (listed.setIfInBounds i true) (pre++post) L' K' μ' loc1 st1 a' W' -> next a' W') -> wpOpIn (FW rd) m c.P c.ops Q i next a W:=by
 have hn:=h.kn
 have hz:=h.z
 have sorted:=h.pw
 obtain⟨pre,post,hs⟩:=ABk (h.mem.2 ⟨hin,h2⟩)
 rw[hs]at sorted
 have hlt:=fun j hj=>(gx.1 sorted).2.2 j hj i (.head _)
 have hgt : ∀ j∈post,i<j:=fun j hj=>AAZ (gx.1 sorted).2.1 hj
 refine⟨pre,post,hs,fun j hj => ?_,fun{loc1 st1} g1 hk=>qU rg h.ri vok hT cs hvo (fun j hj=>ga fun hn => ?_) (fun hb k hk j hj hrt => ?_) g1 fun L' K' μ' a' W' r=>hk _ _ _ _ _ ⟨hn,by grind, ?_,fun p q hq hbq => ?_,fun p q x y hpq hq hp hx hy => ?_,⟨r.fs,fun j o' vo' t' hj=>r.lr j o' vo' t' (qH hj),r.sz,r.df,r.ln⟩,tC hcl bo h.iv g1⟩⟩
 ·obtain⟨j1,j2⟩:=h.mem.1 (by rw[hs];exact TB _ hj)
  grind
 ·have:=back i _ hvo j hj
  exact(hpre j _ this hn (E2 (by omega))).l1 hj
 ·rcases hM j i with hji|hji
  ·exact hfirst i _ hvo hb k hk j hji hrt
  ·have hne:i≠j:=fun e=>h2 (e▸hj)
   have hvj:=E2 (by rw[<- rg.rtl];exact aw hrt)
   refine(h.ix i j _ _ (by omega) hj h2 hvo hvj).s1 k (by simp[ae.slW,hk]) ?_
   rw[bo.step j _ hvj]at hrt
   refine TB _ (fd _ ?_)
   unfold qG at hrt
   split at hrt<;>try (cases hrt;done)
   all_goals
    rename_i hop
    rename AB=>a
    cases a<;>simp_all[af.base,lh]
 ·have:(List.range n).filter (fun j => !(listed.setIfInBounds i true).getD j true)=l.filter (fun j=>j != i):=by
   rw[h.li,s4]
   refine x3 fun j hj => ?_
   have hj:j<listed.size:=by have:=fa.1 hj;omega
   by_cases hji:j=i
   ·subst hji;simp[hj]
   ·simp[hj,hji,ABT hj (AAN hji)]
  rw[this,hs,k7,od]
  simp[bne_self_eq_false,zv,if_false]
  rw[sn.2 fun j hj=>by have:=hlt j hj;simp;omega,sn.2 fun j hj=>by have:=hgt j hj;simp;omega]
 ·rcases qH hq with rfl|hq
  ·exact oE (hb p hbq)
  ·exact oE (h.cl p q hq hbq)
 ·have hp' : ¬ aL _ p:=fun hh=>hp (oE hh)
  rcases qH hq with rfl|hq
  ·rw[hvo]at hy;cases hy
   exact hpre p x hpq hp' hx
  ·exact h.ix p q x y hpq hq hp' hx hy
end
theorem MP (rg:dK c) {T:Kn -> World -> Prop} (vok:cm c.P c.V T) (hT:TE T E) {cl:FuncId -> List D -> ab -> CR} (cs:dI c.P T cl) (hcl:eQ c.V cl) (bo:jQ c.vos c.rt) (back : ∀ (i:Nat) (vo:ae),c.vos[i]?=some vo -> ∀ j∈vo.locR,j<i)
  (hfirst : ∀ (i:Nat) (vo:ae),c.vos[i]?=some vo -> vo.op.isBox=true -> ∀ k,vo.keep=some k -> ∀ j,j<i -> c.rt[j]?≠some (some k)) {base:Bs} {strict:Bool}
  {X:Nat -> Prop} (hdraw : ∀ (i j:Nat) (x y:ae),i<j -> ¬ X i -> c.vos[i]?=some x -> c.vos[j]?=some y -> ((Region.before c.ops).getD j 0).testBit i=true \/ fj c.V strict c.rt i j x y)
  (hedge : ∀ (i:Nat) (o:Oper),c.ops[i]?=some o -> ∀ e∈o.after.toList,Region.binds .any e=true -> e.on<i) {st':St} {Q:Exit -> Act -> World -> Prop} {rd:Option Nat} {m:Nat}
  (hQ : ∀ L' K' μ' a' W',FS E c.tm c.bs K' μ' L' st'.sl st'.hp a'.tmps W' -> a'.tmps.size=c.nt -> a'.defers=nd -> Q .normal a' W') :
  ∀ (fuel:Nat) (listed:Array Bool) (L:Nat -> Option Nat) (K:Kn) (μ:Mu) (loc:List D) (st:St) (a:Act) (W:World) (l:List Nat),listed.size=c.vos.length -> l=(List.range c.vos.length).filter (fun i => !listed.getD i true) -> l.length <= fuel ->
   (∀ i,X i -> aL listed i) ->
   (∀ i j,aL listed j -> ((Region.before c.ops).getD j 0).testBit i=true -> aL listed i) ->
   (∀ (i j:Nat) (x y:ae),i<j -> aL listed j -> ¬ aL listed i -> c.vos[i]?=some x -> c.vos[j]?=some y -> fj c.V strict c.rt i j x y) ->
   RI c E nd (aL listed) L K μ loc st.sl st.hp a W -> jl base c.vos c.rt loc st -> cY c.V cl (some (base,strict)) c.vos l loc st=(.nm,st') -> wpAnyIn (FW rd) m c.P .any c.ops Q fuel listed a W:=by
 suffices H : ∀ (fuel:Nat) {listed:Array Bool} {L:Nat -> Option Nat} {K:Kn} {μ:Mu} {loc:List D} {st:St} {a:Act} {W:World} {l:List Nat},AO c E nd base _ _ _ l L K μ loc st a W -> l.length <= fuel -> (∀ i,X i -> aL listed i) -> cY c.V cl _ c.vos l loc st=(.nm,st') -> wpAnyIn _ m c.P .any c.ops Q fuel _ a W from
  fun fuel _ _ _ _ _ _ _ _ _ h1 h2 h3 h4 h5 h6 h7 h8 h9=>H fuel ⟨Hk _,h1,h2,h5,h6,h7,h8⟩ h3 h4 h9
 have fin : ∀ {listed:Array Bool} {L:Nat -> Option Nat} {K:Kn} {μ:Mu} {loc:List D} {st:St} {a:Act} {W:World},AO c E nd base strict c.vos.length listed [] L K μ loc st a W -> cY c.V cl (some (base,strict)) c.vos [] loc st=(.nm,st') -> Q .normal a W:=fun h e=>by
  cases e
  exact hQ _ _ _ _ _ h.ri.fs h.ri.sz h.ri.df
 intro fuel
 induction fuel with
 | zero =>
  intro listed L K μ loc st a W l ao hfuel _ h
  cases k6.1 (Nat.le_zero.1 hfuel)
  refine⟨ABU.2 fun i hi => ?_,fin ao h⟩
  obtain⟨o,ho,h2,_⟩:=(qI rg ao.z).1 hi
  cases ao.mem.2 ⟨by rw[<- rg.sz];grind,h2⟩
 | succ fuel ih =>
  intro listed L K μ loc st a W l ao hfuel hq0 h
  refine⟨fun hr => ?_,fun i hi => ?_⟩
  ·cases l with
   | nil=>exact fin ao h
   | cons i l =>
    obtain⟨h1,h2⟩:=ao.mem.1 (.head _)
    have hi:i<c.ops.size:=by rw[rg.sz];exact h1
    have:=(qI rg ao.z).2 ⟨_,gC hi,h2,fun e he hb=>ga fun hn=>by
     have hlt:=hedge i _ (gC hi) e he hb
     rcases dA.1 (ao.mem.2 ⟨by omega,hn⟩)with h|h
     ·omega
     ·have:=AAZ ao.pw h;omega⟩
    rw[hr]at this;cases this
  ·obtain⟨o,ho,h2,hafter⟩:=(qI rg ao.z).1 hi
   have h1:i<c.vos.length:=by rw[<- rg.sz];exact(AAT.1 ho).1
   have hvo:=E2 h1
   obtain⟨pre,post,hs,hp,hk⟩:=ao.one rg vok hT cs hcl bo back hfirst hvo h1 h2 (fun j=>ao.bef ho hafter) (fun j x hj hn hx=>(hdraw j i x _ hj (fun hx=>hn (hq0 j hx)) hx hvo).resolve_left fun hb=>hn (ao.bef ho hafter hb)) (Q:=Q) (rd:=rd) (m:=m)
   rw[hs]at h hfuel
   have h':=DG hcl bo hvo pre loc st ao.iv hp h
   rw[qR]at h'
   obtain⟨loc1,st1,g1,g2⟩:=h'
   exact hk g1 fun _ _ _ _ _ ao'=>ih ao' (by simp at hfuel ⊢;omega) (fun p hp=>oE (hq0 p hp)) g2
theorem Y3 (rg:dK c) {T:Kn -> World -> Prop} (vok:cm c.P c.V T) (hT:TE T E) {cl:FuncId -> List D -> ab -> CR} (cs:dI c.P T cl) (csp:gI c.P T cl) (hcl:eQ c.V cl) (bo:jQ c.vos c.rt) (back : ∀ (i:Nat) (vo:ae),c.vos[i]?=some vo -> ∀ j∈vo.locR,j<i)
  (hfirst : ∀ (i:Nat) (vo:ae),c.vos[i]?=some vo -> vo.op.isBox=true -> ∀ k,vo.keep=some k -> ∀ j,j<i -> c.rt[j]?≠some (some k)) {base:Bs} {strict:Bool}
  (hdraw : ∀ (i j:Nat) (x y:ae),i<j -> c.vos[i]?=some x -> c.vos[j]?=some y -> ((Region.before c.ops).getD j 0).testBit i=true \/ fj c.V strict c.rt i j x y)
  (hedge : ∀ (i:Nat) (o:Oper),c.ops[i]?=some o -> ∀ e∈o.after.toList,Region.binds .any e=true -> e.on<i) {p:Nat} {vp:ae} (hvp:c.vos[p]?=some vp) (hpp:vp.op.pans=true) {q:D} {loc1:List D} {st1:St} {hp:ab} (hw:vp.wants loc1 st1.sl=some true) (hs:step c.V cl loc1 st1 vp.op = .p q hp) {Q:Exit -> Act -> World -> Prop} {rd:Option Nat} {m:Nat}
  (hQ : ∀ v L' K' μ' a' W',FS E c.tm c.bs K' μ' L' st1.sl hp a'.tmps W' -> a'.tmps.size=c.nt -> a'.defers=nd -> VR K' μ' hp q v -> Q (.panic (qf v)) a' W') :
  ∀ (fuel:Nat) (listed:Array Bool) (L:Nat -> Option Nat) (K:Kn) (μ:Mu) (loc:List D) (st:St) (a:Act) (W:World) (l:List Nat),listed.size=c.vos.length -> l=(List.range p).filter (fun i => !listed.getD i true) -> l.length<fuel ->
   (∀ j,p <= j -> ¬ aL listed j) ->
   (∀ i j,aL listed j -> ((Region.before c.ops).getD j 0).testBit i=true -> aL listed i) ->
   (∀ (i j:Nat) (x y:ae),i<j -> aL listed j -> ¬ aL listed i -> c.vos[i]?=some x -> c.vos[j]?=some y -> fj c.V strict c.rt i j x y) ->
   RI c E nd (aL listed) L K μ loc st.sl st.hp a W -> jl base c.vos c.rt loc st -> mq c.V cl (some (base,strict)) c.vos l loc st=some (loc1,st1) -> wpAnyIn (FW rd) m c.P .any c.ops Q fuel listed a W:=by
 have hplt:=aw hvp
 suffices H : ∀ (fuel:Nat) {listed:Array Bool} {L:Nat -> Option Nat} {K:Kn} {μ:Mu} {loc:List D} {st:St} {a:Act} {W:World} {l:List Nat},AO c E nd base _ p _ l L K μ loc st a W -> l.length<fuel -> (∀ j,p <= j -> ¬ aL listed j) -> mq c.V cl _ c.vos l loc st=some _ -> wpAnyIn _ m c.P .any c.ops Q fuel _ a W from
  fun fuel _ _ _ _ _ _ _ _ _ h1 h2 h3 h4 h5 h6 h7 h8 h9=>H fuel ⟨AB3 hplt,h1,h2,h5,h6,h7,h8⟩ h3 h4 h9
 intro fuel
 induction fuel with
 | zero=>intro listed L K μ loc st a W l _ hfuel;omega
 | succ fuel ih =>
  intro listed L K μ loc st a W l ao hfuel hge h
  refine⟨fun hr => ?_,fun i hi => ?_⟩
  ·have key : ∀ i,i <= p -> ¬ aL _ i -> (∀ j,j<i -> aL _ j) -> False:=fun i hip hn hall=>by
    have hi:i<c.ops.size:=by rw[rg.sz];omega
    have:=(qI rg ao.z).2 ⟨_,gC hi,hn,fun e he hb=>hall _ (hedge i _ (gC hi) e he hb)⟩
    rw[hr]at this;cases this
   cases l with
   | nil=>exact(key p (Hk _) (hge p (Hk _)) fun j hj=>ga fun hn=>by cases ao.mem.2 ⟨hj,hn⟩).elim
   | cons i l =>
    obtain⟨h1,h2⟩:=ao.mem.1 (.head _)
    refine(key i (by omega) h2 fun j hj=>ga fun hn => ?_).elim
    rcases dA.1 (ao.mem.2 ⟨by omega,hn⟩)with h|h
    ·omega
    ·have:=AAZ ao.pw h;omega
  ·obtain ⟨o,ho,h2,hafter⟩:=(qI rg ao.z).1 hi
   have h1:i<c.vos.length:=by rw[<- rg.sz];exact(AAT.1 ho).1
   have hvo:=E2 h1
   have hpre : ∀ j (x:ae),j<i -> ¬ aL _ j -> c.vos[j]?=some x -> fj c.V _ c.rt j i x c.vos[i]:=fun j x hj hn hx=>(hdraw j i x _ hj hx hvo).resolve_left fun hb=>hn (ao.bef ho hafter hb)
   have hip:=Nat.le_of_not_lt fun hlt=>by
    have:=(hpre p vp hlt (hge p (Hk _)) hvp).p
    rw[hpp]at this;cases this
   by_cases hie:i=p
   ·subst hie
    rw[hvo]at hvp
    cases hvp
    cases ABU.2 fun j hj=>by
     obtain⟨g1,g2⟩:=ao.mem.1 hj
     have:=(hpre j _ g1 g2 (E2 (by omega))).q
     rw[hpp]at this;cases this
    cases h
    have ok:=jO (rg.op i _ _ ho hvo).1
    have hd : ∀ j∈(c.vos[i]).locR,aL _ j:=fun j hj=>ga fun hn=>by cases ao.mem.2 ⟨back i _ hvo j hj,hn⟩
    unfold wpOpIn
    rw[ho]
    simp[yZ ok ao.ri hd hw,if_true]
    exact oh (zd ok (by rw[hs];exact fun e=>by cases e))<|Mx rg ao.ri vok hT ho hvo hd csp hs fun v K' μ' W' fs hv=>hQ v L K' μ' a W' fs ao.ri.sz ao.ri.df hv
   obtain⟨pre,post,hs',hp',hk⟩:=ao.one rg vok hT cs hcl bo back hfirst hvo (by omega) h2 (fun j=>ao.bef ho hafter) hpre (Q:=Q) (rd:=rd) (m:=m)
   rw[hs']at h hfuel
   have h':=abt hcl bo hvo pre loc st ao.iv hp' h
   rw[th]at h'
   obtain⟨loc2,st2,g1,g2⟩:=h'
   exact hk g1 fun _ _ _ _ _ ao'=>ih ao' (by simp at hfuel ⊢;omega) (fun j hj hjl=>(qH hjl).elim (fun e=>by omega) (hge j hj)) g2
end
end
section
variable{x y:Nat}{z:List D}
def HR.takes{E:En}{K:Kn}{μ:Mu}{H:ab}{W:World}(h:HR K μ H W)(nx:Nx E.K E.μ E.H E.w K μ H W){t:Nat}{vs:Array Value}(B:¬bT μ H y)(ad:∀o v,K y o≠some v)(hE:E.w.heap.size<=y)(af:y<W.heap.size)(N:W.heap[y]?=some (.cells vs t (0,0)))(P:CRs K μ H z vs.toList):HR K (μ.upd H.length ⟨y,0,vs.size⟩) (H++[.hb t z]) W/\Nx E.K E.μ E.H E.w K (μ.upd H.length ⟨y,0,vs.size⟩) (H++[.hb t z]) W:=by
 obtain⟨l,m⟩:∃l:br,l=⟨y,0,vs.size⟩:=⟨_,rfl⟩;obtain⟨b,C⟩:∃b:an,b=.hb t z:=⟨_,rfl⟩;rw[<-m,<-C];have n:=aS.push (K:=K) h.dom l b;have ag:kC K (μ.upd H.length l) (H++[b]) W l b:=by subst C m;exact⟨rfl,vs,N,rfl,P.ext n⟩
 have ah:l.blk=y:=by rw[m]
 have k:∀id d g,(μ.upd H.length l) id=some d->(H++[b])[id]?=some g->(id=H.length/\d=l/\g=b)\/(id<H.length/\μ id=some d/\H[id]?=some g):=by grind[Mu.upd]
 have Q:∀id d,(μ.upd H.length l) id=some d->(id=H.length/\d=l)\/(id<H.length/\μ id=some d):=by
  intro id d a;simp[Mu.upd]at a;split at a;·grind
  exact .inr ⟨h.dom id d a,a⟩
 have og:∀i,bT (μ.upd H.length l) (H++[b]) i->bT μ H i\/i=y:=by
  rintro i⟨id,d,g,a,c,e,f⟩;rcases k id d g a c with⟨_,rfl,_⟩|⟨_,j,p⟩;·omega
  exact .inl ⟨id,d,g,j,p,e,f⟩
 refine⟨⟨λid d a=>?_,λid hid=>?_,λid d g a c=>?_,λid d a=>?_,λid q r s u w S U V X F G e=>?_,h.kn,λg o' v e A=>?_⟩,⟨nx.ext.trans n,nx.os,nx.tape,nx.output,nx.size,nx.keep,λi A=>?_,nx.kg⟩⟩;·grind
 ·simp[Rp,n3]at hid;by_cases hi:id=H.length;·simp_all[Mu.upd]
  obtain⟨d,ai⟩:=h.tot id (by omega);grind[Mu.upd]
 ·rcases k id d g a c with⟨_,rfl,rfl⟩|⟨_,j,p⟩;·omega
  exact(h.blk id d g j p).ext n (λ_=>rfl)
 ·rcases Q id d a with⟨_,rfl⟩|⟨_,j⟩;·omega
  exact h.lt id d j
 ·rcases k id r u S V with⟨Y,Z,_⟩|⟨Y,I,J⟩<;>rcases k q s w U X with⟨x2,y2,_⟩|⟨x2,L,M⟩;·omega
  ·subst Z;exact absurd ⟨q,s,w,L,M,G,by omega⟩ B
  ·subst y2;exact absurd ⟨id,r,u,I,J,F,by omega⟩ B
  exact h.inj id q r s u w I L J M F G e
 ·rcases og g A with x|x;·exact h.kf g o' v e x
  grind
 rcases og i A with x|x;·exact nx.og i x
 omega
section
variable{E:En}{tm bs:List Nat}{K K':Kn}{μ μ':Mu}{L:Nat->Option Nat}{sl:List D}{H:ab}{tmps:Array Value}{W:World}
def FS.base0(h:FS E tm bs K μ (λ_=>none) sl H tmps W):FS ⟨K,μ,H,W⟩ tm bs K μ (λ_=>none) sl H tmps W:=⟨h.hr,.refl _ _ _ _,h.len,h.val,h.box,λ_ _ e=>(by cases e),λ_ _ _ e=>(by cases e)⟩
def FS.adopt{k t:Nat}{vs:Array Value}(h:FS E tm (k::bs) K μ L sl H tmps W)(w:tm[k]?=some t)(A:bs.contains k=false)(hL:L k=some y)(B:tmps[t]?=some (.pointer (some ⟨y,0,none⟩)))(C:W.heap[y]?=some (.cells vs x (0,0)))(F:CRs K μ H z vs.toList)(ad:∀(j n u:Nat),tm[j]?=some u->tm[n]?=some u->j=n):FS E tm bs K (μ.upd H.length ⟨y,0,vs.size⟩) (λj=>if j=k then none else L j) (sl.set k (.hp H.length 0)) (H++[.hb x z]) tmps W:=by
 obtain⟨G,I,J,M⟩:=h.own k y hL;obtain⟨hr,nx⟩:=h.hr.takes h.nx G I J M C F;have s:=aS.push (K:=K) h.hr.dom ⟨y,0,vs.size⟩ (.hb x z);have N:k<sl.length:=by rw[h.len];grind
 refine⟨hr,nx,by rw[eh];exact h.len,λj u l m=>?_,λj u l m=>?_,λj i e=>?_,λj n i e o=>?_⟩
 ·by_cases b:j=k;·subst b;rw[w]at l;cases l;exact⟨_,_,N1 N,B,.hp _ _ _ _ ⟨y,0,vs.size⟩ x z (by simp[Mu.upd]) (by simp)⟩
  obtain⟨d,v,p,q,r⟩:=h.val j u l (by simp only[ACR,AAa];exact⟨by simpa using b,m⟩);exact⟨d,v,by rw[Hy (AAN b)];exact p,q,r.ext s⟩
 ·have b:j≠k:=λe=>by subst e;rw[A]at m;cases m
  rcases h.box j u l (by simp only[ACR,m,AB5])with e|⟨i,P,Q,S,p,q,r,U,V⟩;·exact .inl (by rw[Hy (AAN b)];exact e)
  exact .inr ⟨i,P,Q,S,by simp[b,if_false];exact p,by rw[Hy (AAN b)];exact q,r,U,V.ext s⟩
 ·split at e;·cases e
  rename_i b;obtain⟨X,Y,Z,p4⟩:=h.own j i e;refine⟨λho=>?_,Y,Z,p4⟩;obtain⟨id,l',b',a,c,f,g⟩:=ho;simp[Mu.upd]at a;split at a;·cases a;have:y=i:=g;subst this;exact b (h.inj j k y e hL)
  have ac:=h.hr.dom id l' a;rw[X0 ac]at c;exact X ⟨id,l',b',a,c,f,g⟩
 split at e;·cases e
 split at o;·cases o
 exact h.inj j n i e o
end
def fV(bs:List Nat)(sl:List D):List D:=sl.mapIdx λk d=>if bs.contains k then .u else d
theorem oH{bs:List Nat}{sl:List D}:(fV bs sl).length=sl.length:=by simp[fV]
theorem m8{bs:List Nat}{sl:List D}{k:Nat}(h:bs.contains k=false):(fV bs sl)[k]?=sl[k]?:=by grind[fV]
theorem vk{bs:List Nat}{sl:List D}{k:Nat}(h:bs.contains k=true)(a:k<sl.length):(fV bs sl)[k]?=some .u:=by grind[fV]
theorem CV:∀(a:List (Nat×D))(sl:List D),(upds a sl).length=sl.length|[],_=>rfl|u::a,sl=>by have:=CV a (sl.set u.1 u.2);grind[upds]
theorem MY:∀(b:List (Nat×D))(sl a:List D)(k:Nat),sl.length=a.length->sl[k]?=a[k]?->(upds b sl)[k]?=(upds b a)[k]?|[],_,_,_,_,h=>h|u::b,sl,a,k,c,h=>by have:=MY b (sl.set u.1 u.2) (a.set u.1 u.2) k (by grind) (by grind);grind[upds]
variable{c:List (Nat×D)}
def CW{bs:List Nat}{sl:List D}(h:∀u∈c,bs.contains u.1=false):upds c (fV bs sl)=fV bs (upds c sl):=by refine m0 λk=>?_;grind[m8,MY,oH,vG,vk,CV]
structure vq(V:au)(bs:List Nat)(ops:Array Oper)(strict:Bool)(vos:List ae)(F:Nat->Bool):Prop where
 eb:sE ops=true
 rt:∀x∈ce vos,x=none
 pan:∀(j:Nat)(y:ae),vos[j]?=some y->y.op.pans=false
 fh:∀(j:Nat)(y:ae),vos[j]?=some y->y.op.isHal=true->F j=true
 fin:∀(j:Nat),j<vos.length->F j=false->∀i,bR vos i=true->((Region.before ops).getD j 0).testBit i=true
 hal:∀(j:Nat)(y:ae),vos[j]?=some y->y.op.isHal=true->y.guard=none/\∃k,y.keep=some k
 non:∀(j:Nat)(y:ae),vos[j]?=some y->F j=true->y.op.isHal=false->(y.op.hc V strict=.n\/y.op.hc V strict=.r)/\y.op.isBox=false/\y.op.isAddr=false/\∀k,k∈y.slR (ce vos)\/k∈y.slW (ce vos)->(di vos++bs).contains k=false
 hh:∀(i j:Nat)(x y:ae),i<j->vos[i]?=some x->vos[j]?=some y->x.op.isHal=true->y.op.isHal=true->∀k,k∈x.slW (ce vos)->k∉y.slW (ce vos)hn:∀(i j:Nat)(x y:ae),i<j->F j=true->vos[i]?=some x->vos[j]?=some y->x.op.isHal≠y.op.isHal->fj V strict (ce vos) i j x y
 nn:∀(i j:Nat)(x y:ae),i<j->vos[i]?=some x->vos[j]?=some y->x.op.isHal=false->y.op.isHal=false->((Region.before ops).getD j 0).testBit i=true\/fj V strict (ce vos) i j x y
def ls{vos:List ae}{y:ae}(h:vos[x]?=some y):bR vos x=y.op.isHal:=by grind[bR]
def Zt{V:au}{bs:List Nat}{ops:Array Oper}{strict:Bool}{vos:List ae}(h:CG V ops strict vos bs=true):vq V bs ops strict vos (kZ (Region.before ops) vos):=by
 unfold CG at h;simp only[D0,TA,fa]at h;obtain⟨⟨s,t⟩,u⟩:=h;have n:∀(j:Nat)(y:ae),vos[j]?=some y->_:=λj y a=>by have:=u j (aw a);rw[a]at this;simp only[D0,hY]at this;exact this
 have o:∀(j:Nat)(y:ae),vos[j]?=some y->y.op.isHal=true->kZ (Region.before ops) vos j=true:=λj y a d=>by unfold kZ;rw[ls a,d];rfl
 have p:∀(j:Nat)(y:ae),vos[j]?=some y->kZ (Region.before ops) vos j=true->yp V strict (ce vos) (di vos++bs) y=true/\∀i,i<j->CE V strict (ce vos) (Region.before ops) vos j y i=true:=λj y a q=>by have:=(n j y a).2;rw[q]at this;simp only[D0,TA,fa]at this;exact this
 have v:∀(j:Nat)(y:ae),vos[j]?=some y->kZ (Region.before ops) vos j=false->∀i,i<j->CF V strict (ce vos) (Region.before ops) vos j i=true:=λj y a q=>by have:=(n j y a).2;rw[q]at this;simp only[TA,fa]at this;exact this
 have r:∀(i j:Nat)(x y:ae),i<j->kZ (Region.before ops) vos j=true->vos[i]?=some x->vos[j]?=some y->(match x.op.isHal,y.op.isHal with|true,true=>!qF (x.slW (ce vos)) (y.slW (ce vos))|false,false=>((Region.before ops).getD j 0).testBit i||oC V strict (ce vos) vos i j|_,_=>oC V strict (ce vos) vos i j)=true:=λi j x y c f b a=>by have:=(p j y a f).2 i c;unfold CE at this;rw[b]at this;exact this
 refine⟨s,λx b=>by simpa using t x b,λj y a=>(n j y a).1,o,λj f g i hi=>?_,λj y a d=>?_,λj y a f d=>?_,λi j x y c b a l m=>?_,λi j x y c f b a e=>?_,λi j x y c b a l m=>?_⟩
 ·unfold kZ at g;simp only[AAa,Bool.not_eq_false']at g;have:=g.2;unfold MG at this;simp only[TA,fa]at this;have w:i<vos.length:=by
   rcases hM i vos.length with h|h;·exact h
   unfold bR at hi;rw[AAB h]at hi;cases hi
  have:=this i w;rw[hi]at this;simpa using this
 ·have:=(p j y a (o j y a d)).1;unfold yp at this;rw[d]at this;simp only[D0,AA5,AAI]at this;exact this
 ·have:=(p j y a f).1;unfold yp at this;rw[d]at this;simp only[D0,AAq,U3,hY]at this;obtain⟨⟨⟨z,A⟩,B⟩,C⟩:=this;refine⟨z,A,B,λk E=>?_⟩;have:=vI C k (bN.2 E);simpa using this
 ·have:=r i j x y c (o j y a m) b a;rw[l,m]at this;simp only[hY]at this;exact vI this
 ·have:=r i j x y c f b a;cases F:x.op.isHal<;>cases hr:y.op.isHal<;>rw[F,hr]at this e<;>first|exact absurd rfl e|exact zn b a this
 cases g:kZ (Region.before ops) vos j with|true=>have:=r i j x y c g b a;rw[l,m]at this;simp only[AAq]at this;exact this.imp id (zn b a)|false=>have:=v j y a g i c;unfold CF at this;rw[ls b,l]at this;simp only[AAU,AAq]at this;exact this.imp id (zn b a)
def Zu{F:Nat->Bool}{vos:List ae}{y:ae}(h:vos[x]?=some y):(jJ F vos)[x]?=some (CD (F x) y):=by grind[jJ]
def Zv{F:Nat->Bool}{vos:List ae}:(jJ F vos).length=vos.length:=by simp[jJ]
def CY{F:Nat->Bool}{vos:List ae}{y:ae}(h:vos[x]?=some y)(b:F x=true)(a:y.op.isHal=false):(jJ F vos)[x]?=some y:=by
 rw[Zu h];unfold CD;rw[b];simp only;split;·rename_i e;rw[e]at a;cases a
 rfl
def yJ{k:Nat}{vos:List ae}{y:ae}(h:vos[x]?=some y)(a:y.op.isHal=true)(b:y.keep=some k):(di vos).contains k=true:=by grind[di]
def sW{a b:List Nat}{k:Nat}:(a++b).contains k=(a.contains k||b.contains k):=by grind
section
variable{P:Program}{V:au}{nt:Nat}{tm bs:List Nat}{ops:Array Oper}{strict:Bool}{vos:List ae}{F:Nat->Bool}{E:En}{nd:List Deferred}
structure Ph(P:Program)(V:au)(nt:Nat)(tm bs:List Nat)(ops:Array Oper)(vos:List ae)(F:Nat->Bool)(E:En)(nd:List Deferred)(listed:Nat->Prop)(L:Nat->Option Nat)(K:Kn)(μ:Mu)(loc sl:List D)(H:ab)(a:Act)(W:World):Prop where
 ri:RI (dW P V nt tm (di vos++bs) ops (jJ F vos)) ⟨K,μ,H,W⟩ nd (λj=>listed j/\∃y,vos[j]?=some y/\y.op.isHal=false) (λ_=>none) K μ loc (fV (di vos++bs) sl) H a W
 fs:FS E tm (di vos++bs) K μ L (fV (di vos) sl) H a.tmps W
 hb:∀(i:Nat)(y:ae)(k:Nat),vos[i]?=some y->y.op.isHal=true->y.keep=some k->listed i->∃ty zs r vs t,y.op=.hal ty zs/\tm[k]?=some t/\L k=some r/\a.tmps[t]?=some (.pointer (some ⟨r,0,none⟩))/\W.heap[r]?=some (.cells vs ty (0,0))/\(∀K μ H,CRs K μ H zs vs.toList)nl:∀(i:Nat)(y:ae)(k:Nat),vos[i]?=some y->y.op.isHal=true->y.keep=some k->¬listed i->L k=none
 lt:∀j,listed j->j<vos.length/\F j=true
def FS.rest{E:En}{tm bs:List Nat}{K:Kn}{μ:Mu}{sl:List D}{H:ab}{tmps:Array Value}{W:World}(h:FS E tm bs K μ (λ_=>none) sl H tmps W){t k:Nat}(f:tm[k]?=some t)(g:bs.contains k=true)(v:Value)(i:∀(j b u:Nat),tm[j]?=some u->tm[b]?=some u->j=b)(e:∀j,bs.contains j=true->j<sl.length->sl[j]?=some .u):FS E tm bs K μ (λ_=>none) sl H (tmps.setIfInBounds t v) W:=by refine⟨h.hr,h.nx,h.len,λj u c a=>?_,λj u c a=>.inl (e j a (by rw[h.len];grind)),h.own,h.inj⟩;obtain⟨d,w,l,m,n⟩:=h.val j u c a;grind
def Nx.te{T:Kn->World->Prop}(c:∀{K:Kn}{μ:Mu}{H:ab}{W:World}{K':Kn}{μ':Mu}{d:ab}{a:World},T K W->HR K μ H W->Nx K μ H W K' μ' d a->T K' a)(b:TE T E){K:Kn}{μ:Mu}{H:ab}{W:World}(hr:HR K μ H W)(nx:Nx E.K E.μ E.H E.w K μ H W):TE T ⟨K,μ,H,W⟩:=⟨c b.1 b.2 nx,hr⟩
def vt{k:Nat}(h:(di vos++bs).contains k=false):(di vos).contains k=false/\bs.contains k=false:=by grind
variable{e:Act->World->Prop}{b:Exit->Act->World->Prop}
def Zw{T:Kn->World->Prop}(am:cm P V T)(hT:TE T E){X:FuncId->List D->ab->CR}(cs:dI P T X)(hr:vq V bs ops strict vos F)(rg:dK (dW P V nt tm (di vos++bs) ops (jJ F vos))){ad:Nat->Prop}{L:Nat->Option Nat}{K:Kn}{μ:Mu}{sl:List D}{H:ab}{a:Act}{W:World}(g:Ph P V nt tm bs ops vos F E nd ad L K μ z sl H a W){i:Nat}{o:Oper}{y:ae}(Y:ops[i]?=some o)(M:vos[i]?=some y)(hp:F i=true)(hh:y.op.isHal=false)(hd:∀j∈y.locR,ad j/\∃y,vos[j]?=some y/\y.op.isHal=false){base:Bs}{loc1:List D}{st1:St}{d:D}(hs:OH V X base strict vos (ce vos) i y z ⟨sl,H⟩ loc1 st1 d c){rd:Option Nat}{m:Nat}(hn:∀K' μ' Z N,Ph P V nt tm bs ops vos F E nd (λj=>j=i\/ad j) L K' μ' loc1 st1.sl st1.hp Z N->e Z N):wpOpIn (FW rd) m P ops b i e a W:=by
 obtain⟨hc,hb,ha,ai⟩:=hr.non i y M hp hh;obtain⟨p,s⟩:∃p,p=di vos++bs:=⟨_,rfl⟩;rw[<-s]at ai rg;have Q:∀u∈c,p.contains u.1=false:=λu w=>ai u.1 (.inr (hs.ks u w));have hH:st1.hp=H:=by have:=hs.ok;rcases hc with h|h<;>(rw[h]at this;exact this)
 have h1:one V X (some (base,strict)) vos i z ⟨fV p sl,H⟩=some (loc1,⟨upds c (fV p sl),H⟩):=by
  have:=hs.same z (fV p sl) H ⟨λ_ _=>rfl,λk f=>m8 (ai k (.inl f))⟩ (by rcases hc with h|h<;>rw[h];exact .intro;exact Sb.refl _ _);rw[this,hs.at_];have l:HcOut H st1.hp (y.op.hc V strict)=H:=by rcases hc with h|h<;>rw[h]<;>rfl
  rw[l]
 have aj:=CY M hp hh;have h2:one V X (some (base,strict)) (jJ F vos) i z ⟨fV p sl,H⟩=some (loc1,⟨upds c (fV p sl),H⟩):=by rw[<-h1];simp[one,aj,M]
 have ri:=g.ri;rw[<-s]at ri;have a7:TE T ⟨K,μ,H,W⟩:=Nx.te am.up hT g.fs.hr g.fs.nx;refine aa5 rg ri am a7 cs Y aj hd hb ha h2 (λK' μ' Z N a8 r=>hn K' μ' Z N ?_);obtain⟨v,rfl⟩:=a8;have aq:st1.sl=upds c sl:=hs.slot;have ok:=jO (rg.op i o y Y aj).1;have au:∀(k t:Nat)(u:Value),tm[k]?=some t->p.contains k=true->a.tmps[t]?=some u->(a.put o.dst v).tmps[t]?=some u:=λk t u f q w=>by cases av:o.dst with|none=>exact w|some S=>refine kw w (λl=>?_);subst l;cases ax:y.keep with|none=>have:=(ok.loc S av ax).1;exact tw this k f|some k'=>obtain⟨g1,g2,_⟩:=ok.slot S k' av ax;have:=rg.nodup k k' S f g1;subst this;have g2:p.contains k=y.op.isBox:=g2;rw[hb,q]at g2;cases g2
 have nx:=r.fs.nx;have keep:∀(k r:Nat),L k=some r->N.heap[r]?=W.heap[r]?:=λk r f=>nx.keep r (g.fs.own k r f).2.2.2 (g.fs.own k r f).1;refine⟨?_,?_,λj x k A G f U=>?_,λj x k A G f U=>?_,λj B=>B.elim (λl=>l▸⟨aw M,hp⟩) (g.lt j)⟩;·rw[<-s,aq,hH,<-CW Q];exact⟨r.fs.base0,λj o' a9 S B=>r.lr j o' a9 S (by
 rcases B with⟨B|B,A⟩;·exact .inl B
 exact .inr ⟨B,A⟩),r.sz,r.df,r.ln⟩
 ·rw[aq,hH];have ba:=λu w=>(vt (s▸Q u w)).1;refine⟨r.fs.hr,g.fs.nx.trans nx,by rw[oH,CV];have:=g.fs.len;rwa[oH]at this,λk t f q=>?_,λk t f q=>?_,λk n f=>?_,g.fs.inj⟩;·obtain⟨d',v',C,I,J⟩:=r.fs.val k t f (by rw[s];exact q);refine⟨d',v',?_,I,J⟩;rw[CW Q,m8 (by rw[s];exact q)]at C;rw[m8 (vt q).1];exact C
  ·have e0:(fV (di vos) (upds c sl))[k]?=(fV (di vos) sl)[k]?:=by rw[<-CW ba];exact vG c _ k (λu w l=>by subst l;rw[s]at Q;rw[Q u w]at q;cases q)
   rw[e0];rcases g.fs.box k t f q with l|⟨n,bd,be,bf,C,I,J,e4,e5⟩;·exact .inl l
   exact .inr ⟨n,bd,be,bf,C,I,au k t _ f (by rw[s];exact q) J,by rw[keep k n C];exact e4,e5.ext nx.ext⟩
  obtain⟨p1,p2,p3,p4⟩:=g.fs.own k n f;refine⟨λY=>?_,λo' v' l=>?_,p3,em p4 nx.size⟩
  ·rcases nx.og n Y with x|x;·exact p1 x
   have:W.heap.size<=n:=x;omega
  rcases nx.kg n o' v' l with x|x|x;·exact p2 o' v' x
  ·exact p1 x
  have:W.heap.size<=n:=x;omega
 ·rcases U with rfl|U;·rw[M]at A;cases A;rw[hh]at G;cases G
  obtain⟨ty,zs,n,vs,t,C,I,J,e4,e5,e6⟩:=g.hb j x k A G f U;exact⟨ty,zs,n,vs,t,C,I,J,au k t _ I (by rw[s,sW,yJ A G f];rfl) e4,by rw[keep k n J];exact e5,e6⟩
 exact g.nl j x k A G f (λh=>U (.inr h))
def Zx(hr:vq V bs ops strict vos F)(rg:dK (dW P V nt tm bs ops vos)){am:Nat->Prop}{L:Nat->Option Nat}{K:Kn}{μ:Mu}{sl:List D}{H:ab}{a:Act}{W:World}(n:Ph P V nt tm bs ops vos F E nd am L K μ z sl H a W){i:Nat}{o:Oper}{y:ae}(ho:ops[i]?=some o)(G:vos[i]?=some y)(hp:F i=true)(N:y.op.isHal=true)(hl:¬am i){Q:Exit->Act->World->Prop}{rd:Option Nat}{m:Nat}(hn:∀L' a' W',Ph P V nt tm bs ops vos F E nd (λj=>j=i\/am j) L' K μ z sl H a' W'->e a' W'):wpOpIn (FW rd) m P ops Q i e a W:=by
 obtain⟨hg,k,S⟩:=hr.hal i y G N;have ok:=jO (rg.op i o y ho G).1;obtain⟨I,zs,a1⟩:∃I zs,y.op=.hal I zs:=by cases hq:y.op<;>rw[hq]at N<;>first|(cases N;done)|grind
 obtain⟨t,J⟩:=ok.keep k S;obtain⟨X,b3,_⟩:=ok.slot t k J S;have bf:=yJ G N S;have a2:(di vos++bs).contains k=true:=by grind
 have Z:(match o.op with|.alloc t=>gi P t zs&&I==t|_=>false)=true:=by have:=ok.op;obtain⟨b4,yk,yg⟩:=y;cases a1;exact this
 have bg:o.guard=none:=by rcases ok.guard with⟨_,f⟩|⟨x,b,j,q,s,_⟩<;>grind
 split at Z
 ·rename_i t0 a3;simp[D0,U3]at Z;obtain⟨Z,rfl⟩:=Z;obtain⟨vs,b7,hc,an⟩:=yR (a:=a) Z a3 W;have an:(execOp a.eval o).run P W=.ok (.value (.pointer (some ⟨W.heap.size,0,none⟩))) (W.alloc (.cells vs I)):=an;unfold wpOpIn;rw[ho];have hw:Region.wanted o (yielded ops a.tmps)=true:=by unfold Region.wanted;rw[bg]
  simp only[hw,if_true];refine oh (λc f=>by rw[a3]at f;cases f) ?_;unfold Oper.wp;rw[an,Oper.upon_value];have nodup:=rg.nodup;have bj:a.tmps.size=nt:=n.ri.sz;have bk:t<a.tmps.size:=by rw[bj];exact rg.tmlt k t X
  have hL:L k=none:=n.nl i y k G N S hl;obtain⟨a4,aa⟩:=n.fs.hr.loc (.cells vs I);have bl:(W.alloc (.cells vs I)).heap[W.heap.size]?=some (.cells vs I (0,0)):=heap_alloc_new W _;have ao:∀(g q:Nat)(u:Value),g≠k->tm[g]?=some q->a.tmps[q]?=some u->(a.tmps.setIfInBounds t (.pointer (some ⟨W.heap.size,0,none⟩)))[q]?=some u:=λg q u A p hu=>kw hu (λf=>A (by subst f;exact nodup g k t p X));refine hn (λj=>if j=k then some W.heap.size else L j) _ _ ?_;have a5:∀(j r:Nat),L j=some r->(W.alloc (.cells vs I)).heap[r]?=W.heap[r]?:=λj r f=>@heap_alloc_old W _ _ (n.fs.own j r f).2.2.2;refine⟨⟨?_,λj o' ap q B a6 ac a7 p=>?_,?_,?_,n.ri.ln⟩,⟨a4,n.fs.nx.trans aa,n.fs.len,λg q p ad=>?_,λg q p ad=>?_,λg M f=>?_,λk1 k2 M s w=>?_⟩,λj x g U af p al=>?_,λj x g U af p al=>?_,λj B=>B.elim (λf=>f▸⟨aw G,hp⟩) (n.lt j)⟩;·rw[J];have f1:=(n.ri.fs.go a4 aa).base0;exact f1.rest X a2 _ nodup (λj B ba=>by have bp:(di vos++bs).contains j=true:=B;rw[vk bp (by rw[oH]at ba;exact ba)])
  ·obtain⟨x,u,s,w,C⟩:=n.ri.lr j o' ap q (by
 obtain⟨B,ag,Y,ah⟩:=B;rcases B with rfl|B;·rw[G]at Y;cases Y;rw[N]at ah;cases ah
 exact⟨B,ag,Y,ah⟩) a6 ac a7 p;rw[J];refine⟨x,u,s,?_,?_⟩
   ·refine kw w (λf=>?_);subst f;obtain⟨B,ag,Y,ah⟩:=B;have bq:vos[j]?=some ag:=Y;have br:=jO (rg.op j o' ag a6 bq).1;have bt:=B.elim (λf=>f▸hp) (λh=>(n.lt j h).2);have bu:ag.keep=none:=by have:=CY Y bt ah;have ac:(jJ F vos)[j]?=some ap:=ac;rw[this]at ac;cases ac;exact p
    exact tw (br.loc t a7 bu).1 k X
   revert C;cases ap.op.isAddr with|true=>exact id|false=>exactλC=>C.ext aa.ext
  ·rw[J];simpa[Act.put]using n.ri.sz
  ·rw[J];exact n.ri.df
  ·have A:g≠k:=λf=>by subst f;rw[a2]at ad;cases ad
   obtain⟨d,v,s,w,C⟩:=n.fs.val g q p ad;rw[J];exact⟨d,v,s,ao g q v A p w,C.ext aa.ext⟩
  ·by_cases A:g=k;·subst A;refine .inl (vk bf ?_);have:=n.fs.len;rw[oH]at this;rw[this];exact aw X
   rcases n.fs.box g q p ad with f|⟨M,bv,aq,ar,s,w,C,e4,e5⟩;·exact .inl f
   refine .inr ⟨M,bv,aq,ar,by rw[E1 A];exact s,w,?_,by rw[a5 g M s];exact e4,e5.ext aa.ext⟩;rw[J];exact ao g q _ A p C
  ·split at f
   ·cases f;refine⟨λho=>?_,λo' v' f=>?_,n.fs.nx.size,by simp⟩;·obtain⟨id,l,b,q1,q2,q3,q4⟩:=ho;have:=n.fs.hr.lt id l q1;omega
    have:=n.fs.hr.klt f;omega
   obtain⟨p1,p2,p3,p4⟩:=n.fs.own g M f;exact⟨p1,p2,p3,by simp;omega⟩
  ·split at s<;>split at w;·omega
   ·cases s;have:=(n.fs.own k2 _ w).2.2.2;omega
   ·cases w;have:=(n.fs.own k1 _ s).2.2.2;omega
   exact n.fs.inj k1 k2 M s w
  ·by_cases ax:j=i;·subst ax;rw[G]at U;cases U;rw[S]at p;cases p;refine⟨I,zs,W.heap.size,vs,t,a1,X,G1 rfl,?_,bl,hc⟩;rw[J];exact tj bk
   obtain⟨ar,b0,M,aq,q,s,w,C,e4,e5,e6⟩:=n.hb j x g U af p (al.resolve_left ax);have A:g≠k:=λf=>by subst f;rw[hL]at C;cases C
   exact⟨ar,b0,M,aq,q,s,w,by simp[A,if_false];exact C,by rw[J];exact ao g q _ A w e4,by rw[a5 g M C];exact e5,e6⟩
  have A:g≠k:=λf=>by
   subst f;have ax:j≠i:=λf=>al (.inl f);rcases hM j i with h|h;·exact hr.hh j i x y h U G af N g (by simp[ae.slW,p]) (by simp[ae.slW,S])
   exact hr.hh i j y x (by omega) G U N af g (by simp[ae.slW,S]) (by simp[ae.slW,p])
  show(if g=k then _ else L g)=none;rw[E1 A];exact n.nl j x g U af p (λh=>al (.inr h))
 grind
def FS.bs_congr{bs c:List Nat}{K:Kn}{μ:Mu}{L:Nat->Option Nat}{sl:List D}{H:ab}{tmps:Array Value}{W:World}(h:FS E tm bs K μ L sl H tmps W)(e:∀k,bs.contains k=c.contains k):FS E tm c K μ L sl H tmps W:=⟨h.hr,h.nx,h.len,λk t a b=>h.val k t a (by grind),λk t a b=>h.box k t a (by grind),h.own,h.inj⟩
def jM(vos:List ae)(i:Nat):List Nat:=match vos[i]? with|some y=>y.keep.toList|none=>[]
structure MZ(vos:List ae)(tm:List Nat)(L:Nat->Option Nat)(a:Act)(W:World)(i:Nat):Prop where h:∃y k ty zs r vs t,vos[i]?=some y/\y.guard=none/\y.keep=some k/\y.op=.hal ty zs/\tm[k]?=some t/\L k=some r/\a.tmps[t]?=some (.pointer (some ⟨r,0,none⟩))/\W.heap[r]?=some (.cells vs ty (0,0))/\(∀K μ H,CRs K μ H zs vs.toList)
def Zy{I:FuncId->List D->ab->CR}(aa:eQ V I)(bo:jQ vos (ce vos)){base:Bs}{a:Act}{W:World}{K:Kn}(aq:∀(j j' u:Nat),tm[j]?=some u->tm[j']?=some u->j=j'){af:St}:∀(c f:List Nat)(L:Nat->Option Nat)(μ:Mu)(g sl l:List D)(H:ab),c.Nodup->f.filter (bR vos)=c->f.Pairwise (λj i=>bR vos i=true->bR vos j=false->j≠i/\∃x y,vos[j]?=some x/\vos[i]?=some y/\fj V strict (ce vos) j i x y)->(∀i∈c,MZ vos tm L a W i)->(∀i∈c,∀j∈c,i≠j->∀k∈jM vos i,k∉jM vos j)->(∀i∈c,∀k∈jM vos i,bs.contains k=false)->FS E tm (c.flatMap (jM vos)++bs) K μ L l H a.tmps W->l.length=sl.length->(∀k,(c.flatMap (jM vos)).contains k=false->l[k]?=sl[k]?)->jl base vos (ce vos) g ⟨sl,H⟩->cY V I (some (base,strict)) vos f g ⟨sl,H⟩=(.nm,af)->∃J μ' v w o,FS E tm bs K μ' J w o a.tmps W/\aS K μ H K μ' o/\cY V I (some (base,strict)) vos (f.filter λi=>!bR vos i) v ⟨w,o⟩=(.nm,af)/\(∀j,j∉c->v[j]?=g[j]?)/\jl base vos (ce vos) v ⟨w,o⟩:=by
 intro c;induction c with|nil=>
 intro f L μ g sl l H _ ag _ _ _ _ fs M N A h;obtain rfl:l=sl:=m0 λk=>N k rfl;have hm:f.filter (λi=>!bR vos i)=f:=sn.2 λi hi=>by simp_all
 exact⟨L,μ,g,l,H,fs,.refl _ _ _,by grind,λ_ _=>rfl,A⟩|cons i c ih=>
 intro f L μ g sl l H hn ag av B P ai fs M N A h;obtain⟨aj,aw⟩:=yy.1 hn;obtain⟨y,k,ty,zs,r,vs,t,s,Q,C,S,e5,e6,e7,e8,e9⟩:=(B i N2).h;have z:jM vos i=[k]:=by simp[jM,s,C]
 have a4:(c.flatMap (jM vos)++bs).contains k=false:=by
  rw[sW,AAa];refine⟨?_,ai i N2 k (by rw[z];simp)⟩;have:k∉c.flatMap _:=λhm=>by obtain⟨j,d,a5⟩:=pb.1 hm;exact P i N2 j (K2 _ d) (λe=>aj (e▸d)) k (by rw[z];simp) a5
  simpa using this
 obtain⟨m,n,rfl,ak,al,a6⟩:∃m n,f=m++i::n/\(∀j∈m,bR vos j=false)/\bR vos i=true/\n.filter _=c:=by obtain⟨m,n,s,Q,C,S⟩:=List.filter_eq_cons_iff.1 ag;exact⟨m,n,s,λj d=>by simpa using Q j d,C,S⟩
 have F:=gx.1 av;have h:=DG aa bo s m g ⟨sl,H⟩ A (λj d=>by obtain⟨U,x,y',hx,an,hi⟩:=F.2.2 j d i N2 al (ak j d);rw[s]at an;cases an;exact⟨U,x,hx,hi⟩) h;rw[qR]at h;obtain⟨loc1,st1,g1,g2⟩:=h;have a9:=tC aa bo A g1;have g3:loc1=g.set i (.hp H.length 0)/\st1=⟨sl.set k (.hp H.length 0),H++[.hb ty zs]⟩:=by
  unfold one at g1;rw[s]at g1;simp[ae.wants,Q]at g1;split at g1;·rw[S]at g1;rw[C]at g1;cases g1;exact⟨rfl,rfl⟩
  cases g1
 obtain⟨rfl,rfl⟩:=g3;have bb:FS E tm (k::(c.flatMap _++bs)) K μ L l H _ W:=fs.bs_congr (λq=>by rw[AAu,z];rfl);have bc:=bb.adopt e5 a4 e6 e7 e8 (e9 K μ H) aq;obtain⟨J,μ',v,w,o,r1,r2,r3,r4,r5⟩:=ih _ _ _ _ _ _ _ aw (by rw[k7,a6,rr.2 (λj d=>by rw[ak j d];decide),W0]) (gx.2 ⟨F.1,(ey.1 F.2.1).2,λa ha b B=>F.2.2 a ha b (K2 _ B)⟩) (λj d=>by
 obtain⟨y',X,bf,bg,r',bi,t',f1,f2,f3,f4,f5,f6,f7,f8,f9⟩:=(B j (K2 _ d)).h;have U:X≠k:=λe=>by subst e;exact P i N2 j (K2 _ d) (λe=>aj (e▸d)) X (by rw[z];simp) (by simp[jM,f1,f3])
 exact⟨y',X,bf,bg,r',bi,t',f1,f2,f3,f4,f5,by simp only[U,if_false];exact f6,f7,f8,f9⟩) (λp Y q Z=>P p (K2 _ Y) q (K2 _ Z)) (λp Y=>ai p (K2 _ Y)) bc (by simp[M]) (λq Z=>by
 by_cases G:k=q;·subst G;simp only[ABs,if_true,M]
 rw[Hy G,Hy G];refine N q ?_;rw[AAu,z,sW,Z,Bool.or_false];simpa using AAN G) a9 g2;have e0:(m++i::n).filter (λi=>!bR vos i)=(m++n).filter (λi=>!bR vos i):=by rw[k7,k7,od,al];rfl
 refine⟨J,μ',v,w,o,r1,(aS.push fs.hr.dom _ _).trans r2,by rw[e0];exact r3,λj d=>?_,r5⟩;rw[r4 j (λh=>d (K2 _ h)),Hy (λe=>d (by rw[e];exact N2))]
def M0{T:Kn->World->Prop}(a5:cm P V T)(hT:TE T E){cl:FuncId->List D->ab->CR}(cs:dI P T cl)(am:eQ V cl)(bo:jQ vos (ce vos))(hr:vq V bs ops strict vos F)(rg:dK (dW P V nt tm bs ops vos))(a8:∀(i:Nat)(G:ae),vos[i]?=some G->∀j∈G.locR,j<i)(a9:∀(i:Nat)(G:ae),vos[i]?=some G->G.op.isBox=true->∀k,G.keep=some k->∀j,j<i->(ce vos)[j]?≠some (some k))(ba:∀(i:Nat)(o:Oper),ops[i]?=some o->∀e∈o.after.toList,Region.binds .any e=true->e.on<i){base:Bs}{ad:St}{rd:Option Nat}{m:Nat}(hQ:∀L' K' μ' S W',FS E tm bs K' μ' L' ad.sl ad.hp S.tmps W'->S.tmps.size=nt->S.defers=nd->b .normal S W'){fuel:Nat}{l:Array Bool}{L:Nat->Option Nat}{K:Kn}{μ:Mu}{sl:List D}{H:ab}{a:Act}{W:World}(bc:l.size=vos.length)(bd:((List.range vos.length).filter (λi=>!l.getD i true)).length<=fuel)(U:∀i,bR vos i=true->aL l i)(be:∀i j,aL l j->((Region.before ops).getD j 0).testBit i=true->aL l i)(bf:∀(i j:Nat)(x y:ae),i<j->aL l j->¬aL l i->vos[i]?=some x->vos[j]?=some y->y.op.isHal=false->fj V strict (ce vos) i j x y)(I:Ph P V nt tm bs ops vos F E nd (aL l) L K μ z sl H a W)(bg:jl base vos (ce vos) z ⟨sl,H⟩)(h:cY V cl (some (base,strict)) vos ((List.range vos.length).filter λi=>!l.getD i true||bR vos i) z ⟨sl,H⟩=(.nm,ad)):wpAnyIn (FW rd) m P .any ops b fuel l a W:=by
 have bh:ops.size=vos.length:=rg.sz;have X:∀i,bR vos i=true->∃y,vos[i]?=some y/\y.op.isHal=true:=λi hi=>by
  unfold bR at hi;split at hi;·rename_i y c;exact⟨y,c,hi⟩
  cases hi
 obtain⟨u,J⟩:∃u,u=(List.range vos.length).filter λi=>!l.getD i true||bR vos i:=⟨_,rfl⟩;obtain⟨w,ag⟩:∃w,w=u.filter (bR vos):=⟨_,rfl⟩;have Q:∀i,i∈w↔bR vos i=true:=λi=>by rw[ag,n0,J,n0,fa];exact⟨λh=>h.2,λh=>⟨⟨by obtain⟨y,c,_⟩:=X i h;exact aw c,by rw[h,AB5]⟩,h⟩⟩
 have bi:u.filter (λi=>!bR vos i)=(List.range vos.length).filter λi=>!l.getD i true:=by rw[J,s4];refine x3 λi hi=>?_;have hi:=fa.1 hi;cases g:bR vos i with|false=>simp|true=>
  have:(!l.getD i true)=false:=by cases A:!l.getD i true with|false=>rfl|true=>exact absurd (U i g) ((oF (by omega)).1 A)
  rw[this];rfl
 rw[<-J]at h;have bj:∀i∈w,MZ vos tm L a W i:=λi hi=>by obtain⟨y,c,g⟩:=X i ((Q i).1 hi);obtain⟨hg,k,f⟩:=hr.hal i y c g;obtain⟨ty,zs,r,vs,t,f1,f2,f3,f4,f5,f6⟩:=I.hb i y k c g f (U i ((Q i).1 hi));exact⟨y,k,ty,zs,r,vs,t,c,hg,f,f1,f2,f3,f4,f5,f6⟩
 have Y:∀i∈w,∀k∈jM vos i,∃y,vos[i]?=some y/\y.op.isHal=true/\y.keep=some k:=λi hi k f=>by obtain⟨y,c,g⟩:=X i ((Q i).1 hi);unfold jM at f;rw[c]at f;exact⟨y,c,g,by simpa using f⟩
 have ap:∀k,(di vos).contains k=(w.flatMap (jM vos)).contains k:=λk=>by
  rw[Bool.eq_iff_iff];simp only[List.contains_iff_mem];constructor
  · intro f;obtain⟨y,c,f⟩:=pb.1 f;split at f
    · rename_i g;obtain⟨i,hi,e⟩:=kh.1 c;have aq:vos[i]?=some y:=by rw[<-e];exact E2 _
      exact pb.2 ⟨i,(Q i).2 (by rw[ls aq];exact g),by simpa[jM,aq]using f⟩
    cases f
  intro f;obtain⟨i,hi,f⟩:=pb.1 f;obtain⟨y,c,g,f⟩:=Y i hi k f;have:=yJ c g f;simpa using this
 have bw:u.Pairwise (·<·):=by rw[J];exact AAy _ ABJ
 have bx:u.Pairwise (λj i=>bR vos i=true->bR vos j=false->j≠i/\∃x y,vos[j]?=some x/\vos[i]?=some y/\fj V strict (ce vos) j i x y):=by
  refine List.Pairwise.imp_of_mem (λ{j i}p _ bz hi ar=>?_) bw;obtain⟨y,c,g⟩:=X i hi;have b0:=by rw[J]at p;exact fa.1 (n0.1 p).1
  have q:=E2 b0;rw[ls q]at ar;exact⟨by omega,_,y,q,c,hr.hn j i _ y bz (hr.fh i y c g) q c (by rw[ar,g];decide)⟩
 obtain⟨L',μ',au,b1,H',r1,r2,r3,r4,r5⟩:=Zy (E:=E) (bs:=bs) am bo (K:=K) rg.nodup w u L μ z sl _ H (by rw[ag,J];exact AAy _ (AAy _ List.nodup_range)) ag.symm bx bj (λi hi j p M k f s=>by
 obtain⟨y,c,g,f⟩:=Y i hi k f;obtain⟨ay,hz,a0,s⟩:=Y j p k s;rcases hM i j with h|h;·exact hr.hh i j y ay h c hz g a0 k (by simp[ae.slW,f]) (by simp[ae.slW,s])
 exact hr.hh j i ay y (by omega) hz c a0 g k (by simp[ae.slW,s]) (by simp[ae.slW,f])) (λi hi k f=>by obtain⟨y,c,g,f⟩:=Y i hi k f;obtain⟨o,ho⟩:∃o,ops[i]?=some o:=⟨_,gC (by rw[bh];exact aw c)⟩;have ok:=jO (rg.op i o y ho c).1;obtain⟨t,b3⟩:=ok.keep k f;have:=(ok.slot t k b3 f).2.1;rw[show bs.contains k=y.op.isBox from this];cases A:y.op<;>rw[A]at g<;>first|(cases g;done)|rfl) (I.fs.bs_congr λk=>by rw[sW,sW,ap]) oH (λk f=>m8 (by rw[ap];exact f)) bg h;rw[bi]at r3;have nx:∀j o' n N,aL l j->ops[j]?=some o'->vos[j]?=some n->o'.dst=some N->n.keep=none->∃d v,au[j]?=some d/\a.tmps[N]?=some v/\n.op.isAddr=false/\VR K μ' H' d v:=λj o' n N p ah B ai s=>by
  have a2:=(I.lt j p).2;have Z:n.op.isHal=false:=by cases A:n.op.isHal with|false=>rfl|true=>obtain⟨_,k,f⟩:=hr.hal j n B A;rw[s]at f;cases f
  obtain⟨d,v,e1,e2,e3⟩:=I.ri.lr j o' n N ⟨p,n,B,Z⟩ ah (CY B a2 Z) ai s;have ha:=(hr.non j n B a2 Z).2.2.1;rw[ha]at e3;refine⟨d,v,?_,e2,ha,e3.ext r2⟩;rw[r4 j (λhm=>by have:=(Q j).1 hm;rw[ls B,Z]at this;cases this)];exact e1
 refine MP rg a5 hT cs am bo a8 a9 (λi j x y M C q c=>?_) ba hQ fuel _ L' K μ' au ⟨b1,H'⟩ a W _ bc rfl bd U be (λi j x y M p hn q c=>?_) ⟨r1,λj o' n N p ah B ai s=>?_,I.ri.sz,I.ri.df,r5.len⟩ r5 r3
 · have al:vos[i]?=some x:=q;have b6:vos[j]?=some y:=c;rw[ls al]at C;have C:=by simpa using C
   cases g:y.op.isHal with|false=>exact hr.nn i j x y M q c C g|true=>exact .inr (hr.hn i j x y M (hr.fh j y c g) q c (by rw[C,g];decide))
 · have al:vos[i]?=some x:=q;have C:x.op.isHal=false:=by cases A:x.op.isHal with|false=>rfl|true=>exact absurd (U i (by rw[ls al,A])) hn
   cases g:y.op.isHal with|false=>exact bf i j x y M p hn q c g|true=>exact hr.hn i j x y M (hr.fh j y c g) q c (by rw[C,g];decide)
 obtain⟨d,v,e1,e2,e3,e4⟩:=nx j o' n N p ah B ai s;exact⟨d,v,e1,e2,by rw[e3];exact e4⟩
def Zz{T:Kn->World->Prop}(ai:cm P V T)(hT:TE T E){cl:FuncId->List D->ab->CR}(cs:dI P T cl)(U:eQ V cl)(X:jQ vos (ce vos))(hr:vq V bs ops strict vos F)(rg:dK (dW P V nt tm bs ops vos))(bq:dK (dW P V nt tm (di vos++bs) ops (jJ F vos)))(am:∀(i:Nat)(J:ae),vos[i]?=some J->∀j∈J.locR,j<i)(a3:∀(i:Nat)(J:ae),vos[i]?=some J->J.op.isBox=true->∀k,J.keep=some k->∀j,j<i->(ce vos)[j]?≠some (some k))(an:∀(i:Nat)(o:Oper),ops[i]?=some o->∀e∈o.after.toList,Region.binds .any e=true->e.on<i){base:Bs}{ao:St}{rd:Option Nat}{m:Nat}(hQ:∀L' K' μ' v M,FS E tm bs K' μ' L' ao.sl ao.hp v.tmps M->v.tmps.size=nt->v.defers=nd->b .normal v M):∀(fuel:Nat)(f:Array Bool)(L:Nat->Option Nat)(K:Kn)(μ:Mu)(A sl:List D)(H:ab)(a:Act)(W:World),f.size=vos.length->((List.range vos.length).filter (λi=>!f.getD i true)).length<=fuel->(∀i j,aL f j->((Region.before ops).getD j 0).testBit i=true->aL f i)->(∀(i j:Nat)(x y:ae),i<j->aL f j->¬aL f i->vos[i]?=some x->vos[j]?=some y->y.op.isHal=false->fj V strict (ce vos) i j x y)->Ph P V nt tm bs ops vos F E nd (aL f) L K μ A sl H a W->jl base vos (ce vos) A ⟨sl,H⟩->cY V cl (some (base,strict)) vos ((List.range vos.length).filter λi=>!f.getD i true||bR vos i) A ⟨sl,H⟩=(.nm,ao)->wpAnyIn (FW rd) m P .any ops b fuel f a W:=by
 have b6:ops.size=vos.length:=rg.sz;have a5:∀i,bR vos i=true->i<vos.length:=λi hi=>by
  rcases hM i vos.length with h|h;·exact h
  unfold bR at hi;rw[AAB h]at hi;cases hi
 intro fuel;induction fuel with|zero=>intro f L K μ A sl H a W N aq Y af Z B h;refine M0 ai hT cs U X hr rg am a3 an hQ N aq (λi hi=>ga λC=>?_) Y af Z B h;have hi:=a5 i hi;have:i∈(List.range _).filter (λi=>!f.getD i true):=n0.2 ⟨fa.2 hi,(oF (by omega)).2 C⟩;have hz:(List.range vos.length).filter (λi=>!f.getD i true)=[]:=AAt (by omega);rw[hz]at this;cases this|succ fuel ih=>
 intro f L K μ A sl H a W N aq Y af Z B h;by_cases a7:∀i,bR vos i=true->aL f i;·exact M0 ai hT cs U X hr rg am a3 an hQ N aq a7 Y af Z B h
 obtain⟨q,a8,a9⟩:∃i,bR vos i=true/\¬aL _ i:=ga λC=>a7 λi hi=>ga λh=>C ⟨i,hi,h⟩;have bt:∃i,i<vos.length/\¬aL _ i:=⟨q,a5 q a8,a9⟩;obtain⟨i0,⟨b7,bu⟩,bv⟩:=Oh bt;refine⟨λbw=>?_,λi hi=>?_⟩
 · have h0:i0<ops.size:=by omega
   have:i0∈Region.ready .any ops _:=(qI rg N).2 ⟨_,gC h0,bu,λe he s=>ga λbx=>by have Q:=an i0 _ (gC h0) e he s;exact bv e.on Q ⟨by omega,bx⟩⟩;rw[bw]at this;cases this
 obtain⟨o,S,h2,bb⟩:=(qI rg N).1 hi;replace S:ops[i]?=some o:=S;have Q:i<vos.length:=by have:=(AAT.1 S).1;omega
 have av:∀j,((Region.before ops).getD i 0).testBit j=true->aL _ j:=λj c=>by
  obtain⟨e,he,s,hc⟩:=MO S c;rcases hc with rfl|⟨_,hc⟩;·exact bb e he s
  exact Y j e.on (bb e he s) hc
 have n:=E2 Q;have hp:F i=true:=by cases hF:F i with|true=>rfl|false=>exact absurd (av q (hr.fin i Q hF q a8)) a9
 have bc:(f.setIfInBounds i true).size=vos.length:=by simpa using N
 have bd:∀q j,aL (f.setIfInBounds i true) j->((Region.before ops).getD j 0).testBit q=true->aL (f.setIfInBounds i true) q:=λq j c s=>by
  rcases qH c with rfl|c;·exact oE (av q s)
  exact oE (Y q j c s)
 have w:∀j,aL _ j↔(j=i\/aL f j):=λj=>⟨qH,λh=>h.elim (λe=>e▸Y2 (by omega)) oE⟩;have ay:∀j,j<vos.length->j≠i->(f.setIfInBounds i true).getD j true=f.getD j true:=λj c p=>by
  have c:j<f.size:=by omega
  simp[c,ABT c (AAN p)]
 have b0:(f.setIfInBounds i true).getD i true=true:=by simp[Array.getD]
 have be:((List.range vos.length).filter (λj=>!(f.setIfInBounds i true).getD j true)).length<=fuel:=by
  have e:(List.range vos.length).filter (λj=>!(f.setIfInBounds i true).getD j true)=((List.range vos.length).filter (λj=>!f.getD j true)).filter (λj=>j !=i):=by
   rw[s4];refine x3 λj c=>?_;have c:=fa.1 c;by_cases p:j=i;·subst p;simp
   rw[ay j c p];simp[p]
  rw[e];have hm:i∈(List.range _).filter (λj=>!f.getD j true):=n0.2 ⟨fa.2 Q,(oF (by omega)).2 h2⟩;have:(((List.range vos.length).filter (λj=>!f.getD j true)).filter (λj=>j !=i)).length<((List.range vos.length).filter (λj=>!f.getD j true)).length:=by refine List.length_filter_lt_length_iff_exists.2 ⟨i,hm,by simp⟩
  omega
 have bf:∀j,j<i->(¬aL _ j\/bR vos j=true)->vos[i].op.isHal=false->fj V _ _ j i vos[j]! vos[i]:=λj c z t=>by
  have aa:j<vos.length:=by omega
  have u:vos[j]?=some vos[j]!:=by rw[K0 vos j aa];exact E2 aa
  cases ac:(vos[j]!).op.isHal with|true=>exact hr.hn j i _ _ c hp u n (by rw[ac,t];decide)|false=>
  rcases hr.nn j i _ _ c u n ac t with s|s
  · rcases z with z|z;·exact(z (av j s)).elim
    rw[ls u,ac]at z;cases z
  exact s
 have bg:∀(q j:Nat)(x y:ae),q<j->aL (f.setIfInBounds i true) j->¬aL (f.setIfInBounds i true) q->vos[q]?=some x->vos[j]?=some y->y.op.isHal=false->fj V _ _ q j x y:=λq j x y bh c C u az t=>by
  have bi:¬aL _ q:=λh=>C (oE h);rcases qH c with rfl|c;·rw[n]at az;cases az;have:=bf q bh (.inl bi) t;rw[show vos[q]! =x by rw[K0 vos q (by omega)];rw[E2 (by omega)]at u;exact kb u]at this;exact this
  exact af q j x y bh c bi u az t
 cases t:vos[i].op.isHal with
 |true=>
 refine Zx hr rg Z S n hp t h2 (λL' v M g=>?_);refine ih _ L' K μ A sl H v M bc be bd bg ?_ B ?_;·exact⟨⟨g.ri.fs,λj o' a0 t' c=>g.ri.lr j o' a0 t' ⟨(w j).1 c.1,c.2⟩,g.ri.sz,g.ri.df,g.ri.ln⟩,g.fs,λj y k n G I r=>g.hb j y k n G I ((w j).1 r),λj y k n G I r=>g.nl j y k n G I (λh=>r ((w j).2 h)),λj c=>g.lt j ((w j).1 c)⟩
 rw[<-h];congr 1;refine x3 λj c=>?_;have c:=fa.1 c;by_cases p:j=i
 · subst p;have:bR vos j=true:=by rw[ls n,t]
   rw[this,AB5,AB5]
 rw[ay j c p]|false=>
 obtain⟨l,r⟩:∃l,l=(List.range vos.length).filter λi=>!f.getD i true||bR vos i:=⟨_,rfl⟩;rw[<-r]at h;have bj:∀j,j∈l↔j<vos.length/\(¬aL _ j\/bR vos j=true):=λj=>by rw[r,n0,fa,AAq];exact⟨λ⟨x,y⟩=>⟨x,y.imp (oF (by omega)).1 id⟩,λ⟨x,y⟩=>⟨x,y.imp (oF (by omega)).2 id⟩⟩
 have ah:l.Pairwise (·<·):=by rw[r];exact AAy _ ABJ
 have a2:=λj c z=>bf j c z t;obtain⟨bk,bl,ad⟩:=ABk ((bj i).2 ⟨Q,.inl h2⟩);have bm:=λj c=>by rw[ad]at ah;exact(gx.1 ah).2.2 j c i N2
 have b2:∀j∈bl,i<j:=λj c=>by rw[ad]at ah;exact AAZ (gx.1 ah).2.1 c
 rw[ad]at h;have h':=DG U X n bk A ⟨sl,H⟩ B (λj c=>by obtain⟨j1,j2⟩:=(bj j).1 (by rw[ad];exact TB _ c);have:=bm j c;exact⟨by omega,vos[j]!,by rw[K0 vos j j1];exact E2 j1,a2 j this j2⟩) h;rw[qR]at h';obtain⟨loc1,st1,g1,g2⟩:=h';obtain⟨d,us,b5⟩:=zm U X B n g1;refine Zw ai hT cs hr bq Z S n hp t (λj c=>?_) b5 (λK' μ' v M g=>?_)
 · have p:=am i _ n j c;have aa:j<vos.length:=by omega
   have u:vos[j]?=some vos[j]!:=by rw[K0 vos j aa];exact E2 aa
   refine⟨ga λC=>(a2 j p (.inl C)).l1 c,vos[j]!,u,?_⟩;cases ac:(vos[j]!).op.isHal with|false=>rfl|true=>exact((a2 j p (.inr (by rw[ls u,ac]))).l1 c).elim
 refine ih _ L K' μ' loc1 _ _ v M bc be bd bg ?_ (tC U X B g1) ?_;·exact⟨⟨g.ri.fs,λj o' a0 t' c=>g.ri.lr j o' a0 t' ⟨(w j).1 c.1,c.2⟩,g.ri.sz,g.ri.df,g.ri.ln⟩,g.fs,λj y k n G I r=>g.hb j y k n G I ((w j).1 r),λj y k n G I r=>g.nl j y k n G I (λh=>r ((w j).2 h)),λj c=>g.lt j ((w j).1 c)⟩
 have:(List.range vos.length).filter (λj=>!(f.setIfInBounds i true).getD j true||bR vos j)=bk++bl:=by
  have e:(List.range vos.length).filter (λj=>!(f.setIfInBounds i true).getD j true||bR vos j)=l.filter (λj=>j !=i):=by
   rw[r,s4];refine x3 λj c=>?_;have c:=fa.1 c;by_cases p:j=i
   · subst p;have:bR vos j=false:=by rw[ls n,t]
     rw[b0,this];simp
   rw[ay j c p];simp[p]
  rw[e,ad,k7,od];simp[bne_self_eq_false,zv,if_false];rw[sn.2 (λj c=>by have:=bm j c;simp;omega),sn.2 (λj c=>by have:=b2 j c;simp;omega)]
 rw[this];exact g2
end
def ZA{P:Program}{V:au}{nt:Nat}{tm bs:List Nat}{ops:Array Oper}{vos:List ae}(rg:dK (dW P V nt tm bs ops vos)):jQ vos (ce vos):=by
 have l:ops.size=vos.length:=rg.sz;refine⟨λi c j e f=>?bo1,λi c e=>?bo2⟩;case bo1=>
  obtain⟨o,g⟩:∃o,ops[i]?=some o:=⟨_,gC (by grind)⟩;have a:=(jO (rg.op i o c g e).1).op;have key:∀{y:Operand},oj (dW P V nt tm bs ops vos) i (.lo j) y=true->∃d,vos[j]?=some d/\d.op.isAddr=true:=λ{y}b=>by
   cases y<;>simp only[oj]at b<;>first|grind|skip
   simp only[D0]at b;obtain⟨_,b⟩:=b;split at b;·rename_i o' d m h;simp only[D0]at b;exact⟨d,h,b.2⟩
   grind
  obtain⟨k,keep,guard⟩:=c;simp only at f a;cases k<;>simp only[af.base,AAO,kz]at f;all_goals
  subst f;simp only[i7]at a;split at a;·simp only[D0]at a;first|exact key a.1|exact key a.1.1|exact key a.1.1.1
  cases a
 case bo2=>obtain⟨o,g⟩:∃o,ops[i]?=some o:=⟨_,gC (by grind)⟩;exact(rg.op i o c g e).2
def M4{ops:Array Oper}(a:sE ops=true):∀(i:Nat)(o:Oper),ops[i]?=some o->∀e∈o.after.toList,Region.binds .any e=true->e.on<i:=by grind[sE,ops]
def oI{P:Program}{V:au}{T:Kn->World->Prop}{A:FuncId->List D->ab->CR}{nt:Nat}{tm bs:List Nat}(hm:P.follows .mixedOrders=true)(Y:cm P V T)(Z:dI P T A)(a2:gI P T A)(aa:eQ V A)(aj:nodup tm=true)(ak:∀t∈tm,t<nt){rd:Option Nat}:Oi P V T A nt tm bs rd:=by
 intro E nd id ops strict vos sl H ex st' a W hT hok h hg hA m;obtain⟨rg,back,hfirst,a3⟩:=sT hok aj ak;obtain⟨L,K,μ,fs,hs,al⟩:=hA;refine wpIn_region_any hm ?_;have z:=NT V A (some (yz strict vos sl H,strict)) vos [] [] ⟨sl,H⟩ rfl;simp[W0,kx,<-List.range_eq_range']at z;rw[z]at h;have w:ops.size=vos.length:=rg.sz;have g0:∀j,¬aL (Array.replicate ops.size false) j:=λj b=>by
  unfold aL at b;simp only[Array.getD]at b;split at b;·simp at b
  cases b
 have bo:=ZA rg;have l:FS E tm bs K μ L sl H _ _:=⟨fs.hr.drew,fs.nx.trans (.drew _ _ _ _),fs.len,fs.val,fs.box,fs.own,fs.inj⟩;have ad:jl (yz strict vos sl H) vos (ce vos) (List.replicate vos.length .u) ⟨sl,H⟩:=⟨by simp,Hk _,λi vo k o h1 h2 M=>by simp[AAi]at M⟩;have ri:RI (dW P V nt tm bs ops vos) E nd _ L K μ (List.replicate vos.length .u) sl H a _:=⟨l,λj o vo t b=>(g0 j b).elim,hs,al,by simp[dW]⟩;have ag:∀p,p<=ops.size->(List.range p).filter (λi=>!(Array.replicate ops.size false).getD i true)=List.range p:=λp hp=>sn.2 (λj b=>by
  have:j<ops.size:=by have:=fa.1 b;omega
  simp[this]);rcases a3 _ rfl with⟨hd,he⟩|hd;case inr=>
  simp[CH,D0]at hd;obtain⟨aq,hd⟩:=hd;have hr:=Zt hd;obtain⟨F,hF⟩:∃F,F=kZ (Region.before ops) vos:=⟨_,rfl⟩;rw[<-hF]at hr aq;have a6:ex=.nm:=by
   rcases tA (by rw[z];exact h) hg with e|⟨q,e⟩;·exact e
   exfalso;subst e;obtain⟨B,p,l2,loc1,st1,vp,hp,e0,s,f,n,N,Q,_⟩:=Dr h;have:=hr.pan p vp f;simp[this]at n
  subst a6;have a8:mR P V nt tm (di vos++bs) ops none (jJ F vos)=true:=by unfold mR;rw[aq];rfl
  obtain⟨a9,_,_,_⟩:=sT a8 aj ak;have rb:RI (dW P V nt tm (di vos++bs) ops (jJ F vos)) ⟨K,μ,H,W.drew⟩ nd (λj=>aL (Array.replicate ops.size false) j/\∃y,vos[j]?=some y/\y.op.isHal=false) (λ_=>none) K μ (List.replicate vos.length .u) (fV (di vos++bs) sl) H a W.drew:=by refine⟨⟨l.hr,.refl _ _ _ _,by rw[oH];exact fs.len,λk t g c=>?_,λk t g c=>.inl (vk c (by rw[fs.len];exact aw g)),λ_ _ e=>(by cases e),λ_ _ _ e=>(by cases e)⟩,λj o vo t b=>(g0 j b.1).elim,hs,al,by simp[dW,Zv]⟩;have av:(di vos++bs).contains k=false:=c;obtain⟨d,v,s,f,n⟩:=l.val k t g (vt av).2;exact⟨d,v,by exact(m8 av).trans s,f,n⟩
  have fb:FS E tm (di vos++bs) K μ (λk=>if(di vos).contains k then none else L k) (fV (di vos) sl) H a.tmps W.drew:=by
   refine⟨l.hr,l.nx,by rw[oH];exact fs.len,λk t g c=>?_,λk t g c=>?_,λk r e=>?_,λk k' r e e'=>?_⟩;·obtain⟨d,v,s,f,n⟩:=l.val k t g (vt c).2;exact⟨d,v,(m8 (vt c).1).trans s,f,n⟩
   ·cases S:(di vos).contains k with|true=>exact .inl (vk S (by rw[fs.len];exact aw g))|false=>
    have bd:=by rw[sW,S,AAU]at c;exact c
    rcases l.box k t g bd with e|⟨r,be,bf,bg,s,f,n,N,Q⟩;·exact .inl ((m8 S).trans e)
    exact .inr ⟨r,be,bf,bg,by simpa using s,(m8 S).trans f,n,N,Q⟩
   ·split at e;·cases e
    exact l.own k r e
   split at e;·cases e
   split at e';·cases e'
   exact l.inj k k' r e e'
  refine Zz Y hT Z aa bo hr rg a9 back hfirst (M4 hr.eb) (λC K' μ' a' W' G I J=>⟨rfl,C,K',μ',G,I,J⟩) _ _ _ K μ _ sl H a _ (by simp[w]) ?_ (λi j b=>(g0 j b).elim) (λi j x y _ b=>(g0 j b).elim) ⟨rb,fb,λi y k _ _ _ z=>(g0 i z).elim,λi y k U hh g _=>by rw[yJ U hh g];rfl,λj b=>(g0 j b).elim⟩ ad ?_;·have:=ag _ (Hk _);rw[w]at this;rw[w,this];simp
  have e:(List.range vos.length).filter (λi=>!(Array.replicate ops.size false).getD i true||bR vos i)=List.range _:=sn.2 λj b=>by
   have:j<ops.size:=by have:=fa.1 b;omega
   simp[this]
  rw[e];exact h
 have az:=M4 he;have a0:∀(i j:Nat)(x y:ae),i<j->vos[i]?=some x->vos[j]?=some y->((Region.before ops).getD j 0).testBit i=true\/fj V _ _ i j x y:=λi j x y bi hx U=>by
  simp only[CP,TA,fa,AAq]at hd;rcases hd j (aw U) i bi with c|c;·exact .inl c
  exact .inr (zn hx U c)
 rcases tA (by rw[z];exact h) hg with rfl|⟨q,rfl⟩;·exact MP rg Y hT Z aa bo back hfirst (X:=λ_=>False) (λi j x y h _=>a0 i j x y h) az (λC K' μ' a' W' G I J=>⟨rfl,C,K',μ',G,I,J⟩) _ _ L K μ _ ⟨sl,H⟩ a _ _ (by simp[w,dW]) (by show _=List.filter _ (List.range vos.length);rw[<-w];exact(ag _ (Hk _)).symm) (by simp[w]) (λi hi=>hi.elim) (λi j b=>(g0 j b).elim) (λi j x y _ b=>(g0 j b).elim) ri ad h
 obtain⟨B,p,l2,loc1,st1,vp,hp,e0,s,f,n,N,Q,rfl⟩:=Dr h;have bm:=aw f;have el:B=List.range p:=by
  have h1:(List.range vos.length)[B.length]?=some p:=by rw[e0];simp
  have h2:=(AAF.1 h1).2;rw[List.getElem_range]at h2;have M:(List.range vos.length).take B.length=B:=by rw[e0];simp
  rw[List.take_range]at M;rw[<-M,h2];congr 1;omega
 subst el;exact Y3 rg Y hT Z a2 aa bo back hfirst a0 az f n N Q (λv C K' μ' a' W' G I J f4=>⟨q,v,rfl,rfl,C,K',μ',G,I,J,f4⟩) _ _ L K μ _ ⟨sl,H⟩ a _ _ (by simp[w,dW]) (ag _ (by omega)).symm (by simp;omega) (λj _ b=>(g0 j b).elim) (λi j b=>(g0 j b).elim) (λi j x y _ b=>(g0 j b).elim) ri ad s
end
section
def Dw:an->an|.df=>.no|b=>b
theorem Oa{b:an}(h:b≠.df):Dw b=b:=by cases b<;>first|rfl|grind
section
variable{base:Nat}{H:ab}
theorem Dx:dJ base H=H.take base++(H.drop base).map Dw:=by rfl
theorem y8:(dJ base H).length=H.length:=by grind[Dx]
theorem Dy{m:Nat}(h:m<base):(dJ base H)[m]?=H[m]?:=by grind[Dx]
theorem Dz{m:Nat}(h:base<=m):(dJ base H)[m]?=(H[m]?).map Dw:=by grind[Dx]
def Ob{m:Nat}{b:an}(h:H[m]?=some b)(a:b≠.df):(dJ base H)[m]?=some b:=by grind[Dy,Dz,Oa]
def zc{m:Nat}{b:an}(h:(dJ base H)[m]?=some b):H[m]?=some b\/(base<=m/\H[m]?=some .df/\b=.no):=by
 rcases hM m base with x|x;·grind[Dy]
 rw[Dz x]at h;obtain⟨a,c,d⟩:=ka.1 h;by_cases e:a=.df;·subst e;exact .inr ⟨x,c,d.symm⟩
 grind[Oa]
end
section
variable{K:Kn}{μ:Mu}{H H':ab}{W:World}
theorem VR.same{d:D}{v:Value}(h:VR K μ H d v)(e:∀(m:Nat)(b:an),H[m]?=some b->b≠.df->H'[m]?=some b):VR K μ H' d v:=by induction h generalizing H' with|b=>exact .b ..|i=>exact .i ..|s=>exact .s ..|nil=>exact .nil ..|z=>exact .z ..|im μ H w rows blk q cap f I J C A hr x=>constructor<;>omega|sv μ H w rows blk q cap f I J C A hr x=>exact .sv _ _ w rows blk q cap f I J C A (λi r j d a b=>x i r j d a b e)|mu μ H a n q len cap blk o l w rows F p lk g k B h=>exact .mu _ _ a n q len cap blk o l w rows F p lk g (e _ _ k (by grind)) B h|np=>exact .np ..|hp μ H b q l t E g k=>exact .hp _ _ b q l t E g (e _ _ k (by grind))|ap μ H a n i q blk o l w rows F p lk g k B h=>exact .ap _ _ a n i q blk o l w rows F p lk g (e _ _ k (by grind)) B h|aa μ H a l w rows c p lk g k=>exact .aa _ _ a l w rows c p lk g (e _ _ k (by grind))|ip μ H E blk q f C A hr x=>exact .ip _ _ E blk q f C A (λj d a=>x j d a e)|mnil=>exact .mnil ..|mp μ H m l L g k=>exact .mp _ _ m l L g (e _ _ k (by grind))|fn μ H f a b P Q S U V G W X=>constructor<;>grind|nf=>exact .nf ..|ni=>exact .ni ..|ifc μ H t d v h x=>constructor<;>grind|ag μ H E vs M A hr x=>constructor<;>grind|tu μ H ds vs M hr x=>constructor<;>grind|yb μ H a n cap blk l t N lk g k B h=>exact .yb _ _ a n cap blk l t N lk g (e _ _ k (by grind)) B h|yl μ H y l b g k G=>exact .yl _ _ y l b g (e _ _ k (by rintro rfl;cases G)) G|u=>exact .u ..
theorem kC.same{l:br}{b:an}(h:kC K μ H W l b)(e:∀(m:Nat)(b:an),H[m]?=some b->b≠.df->H'[m]?=some b):kC K μ H' W l b:=by cases b with
 |hb t F=>obtain⟨o,vs,g,n,c⟩:=h;exact⟨o,vs,g,n,⟨c.1.1,λj d v a b=>(c.1.2 j d v a b).same e⟩,c.2⟩|ar w rows G p lk=>cases lk with|false=>obtain⟨o,u,A,vs,B,g,n,c⟩:=h;refine⟨o,u,A,vs,B,g,n,λi r j d a b=>?_⟩;obtain⟨v,x,y,z⟩:=c i r j d a b;refine⟨v,x,y,?_⟩;grind[VR.same]|true=>exact h
 |mp I=>obtain⟨C,E,o,g,n,c⟩:=h;exact⟨C,E,o,g,n,λj k v q a b=>⟨(c j k v q a b).1,(c j k v q a b).2.same e⟩⟩|yh f p j J L x s=>obtain⟨rec,g,n,c,h4,h5⟩:=h;exact⟨rec,g,n,c,h4,h5.1,λk t a=>let⟨d,v,x,y,z⟩:=h5.2 k t a;⟨d,v,x,y,z.same e⟩⟩|yt t M lk=>cases lk<;>exact h|_=>exact h
def Oc{base r:Nat}(h:bT μ (dJ base H) r):bT μ H r:=by
 obtain⟨id,l,b,h1,a,h3,h4⟩:=h;rcases zc a with x|⟨_,x,rfl⟩;·exact⟨id,l,b,h1,x,h3,h4⟩
 cases h3
def HR.unmark(h:HR K μ H W)(base:Nat):HR K μ (dJ base H) W where
 dom:=λid l a=>by rw[y8];exact h.dom id l a
 tot:=λid a=>h.tot id (by grind[y8]);blk:=λid l b a c=>by
  rcases zc c with x|⟨_,_,rfl⟩;·exact(h.blk id l b a x).same (λm b e f=>Ob e f)
  trivial
 lt:=h.lt;inj:=λid j l k b n a p c q e d g=>by
  have key:∀{i:Nat}{b:an},(Dm.dJ base H)[i]?=some b->b.live=true->H[i]?=some b:=λ{i b}c e=>by
   rcases zc c with x|⟨_,_,rfl⟩;·exact x
   cases e
  exact h.inj id j l k b n a p (key c e) (key q d) e d g
 kn:=h.kn;kf:=λb o v e r=>h.kf b o v e (Oc r)
def HR.away{r:Nat}{o:Obj}(h:HR K μ H W)(d:¬bT μ H r)(f:∀q v,K r q≠some v):HR K μ H (W.putObj r o)where
 dom:=h.dom;tot:=h.tot;blk:=λid l b a c=>(h.blk id l b a c).ext (.refl _ _ _) (λg=>World.putObj_heap_other (λe=>d ⟨id,l,b,a,c,g,e⟩));lt:=λid l a=>by rw[World.putObj_size];exact h.lt id l a
 inj:=h.inj;kn:=λb q v e=>by have i:b≠r:=λx=>f q v (x▸e);rw[World.cell?_of_block (World.putObj_heap_other i)];exact h.kn b q v e
 kf:=h.kf
end
def DA(r:Nat):Deferred:={target:=.collected r,args:=#[]}
def jk:List Nat->World->World|[],W=>W|r::a,W=>jk a (W.putObj r (.deferred none))
def Od:∀(a:List Nat)(W:World),(jk a W).heap.size=W.heap.size|[],_=>rfl|r::a,W=>by rw[jk,Od,World.putObj_size]
def Oe:∀(a:List Nat)(W:World),(jk a W).os=W.os/\(jk a W).tape=W.tape/\(jk a W).output=W.output|[],_=>⟨rfl,rfl,rfl⟩|r::a,W=>Oe a (W.putObj r (.deferred none))
def Of:∀(a:List Nat)(W:World)(k:Nat),k∉a->(jk a W).heap[k]?=W.heap[k]?|[],_,_,_=>rfl|r::a,W,k,h=>by rw[jk,Of a _ k (λx=>h (K2 _ x)),World.putObj_heap_other (λe=>h (by grind))]
def HR.shut{K:Kn}{μ:Mu}{H:ab}:∀(a:List Nat){W:World},HR K μ H W->(∀r∈a,¬bT μ H r/\∀q v,K r q≠some v)->HR K μ H (jk a W)|[],_,h,_=>h|r::a,_,h,hr=>HR.shut a (h.away (hr r N2).1 (hr r N2).2) (λx b=>hr x (K2 _ b))
def Og{F:Fence}{n:Nat}{P:Program}{fn:Func}{tmps:Array Value}{R:Ending->World->Prop}:∀(a:List Nat)(W:World),a.Nodup->(∀r∈a,W.heap[r]?=some (.deferred (some [])))->(∃v,(results fn tmps).run P (jk a W)=.ok v (jk a W)/\R (.returned v) (jk a W))->LeavesInM F n P fn tmps R (a.map DA) .returning W|[],_,_,_,h=>h|r::a,W,b,hr,h=>by refine⟨by simp,.inl ⟨r,W.putObj r _,rfl,run_takeDeferred (hr r N2),?_⟩⟩;refine Og a _ (yy.1 b).2 (λx c=>?_) h;rw[World.putObj_heap_other (λe=>(yy.1 b).1 (by grind))];grind
end
section
variable{x y z:List Nat}{c d e f g:Nat}{a b:Mu}{h i:World}
def vE{bs:List Nat}{npar nsl:Nat}(n:npar<=x.length)(o:nsl=x.length)(d:∀k,k<npar->x[k]?=some k)(f:∀t∈x,t<c)(p:nodup x=true)(q:∀k∈bs,npar<=k)(s:npar<=c){args:List D}{vs:List Value}{K:Kn}{H:ab}(v:args.length=npar)(w:vs.length=npar)(hr:HR K a H h)(g:aY K a H args vs):fW ⟨K,a,H,h⟩ x bs c [] ⟨args++List.replicate (nsl-npar) .u,H⟩ {tmps:=vs.toArray++Array.replicate (c-vs.toArray.size) undef,defers:=[]} h:=by
 refine⟨λ_=>none,K,a,⟨hr,.refl _ _ _ _,by grind,λk t b i=>?_,λk t b i=>?_,λk r e=>(by cases e),λk y r e=>(by cases e)⟩,by grind,rfl⟩
 ·by_cases j:k<npar
  ·have:=d k j;rw[b]at this;cases this;have l:k<args.length:=by omega
   have m:k<vs.length:=by omega
   refine⟨args[k],vs[k],by grind,by grind,g.2 k _ _ (E2 l) (E2 m)⟩
  have z:=aw b;have A:=f t (lB b);have B:npar<=t:=by grind[sS]
  refine⟨.u,undef,?_,?_,.u ..⟩;·rw[dg (by omega),AAi,G1 (by omega)]
  rw[Array.getElem?_append_right (by simp;omega),Array.getElem?_replicate,G1 (by simp;omega)]
 grind
variable{j:En}{r s:Nat->Option Nat}{l m:List D}
def FS.noL{K:Kn}{H:ab}{tmps:Array Value}(c:FS j x [] K a r l H tmps h):FS j x [] K a (λ_=>none) l H tmps h:=⟨c.hr,c.nx,c.len,c.val,λk t _ b=>(by grind),λk d e=>(by cases e),λk f d e=>(by cases e)⟩
theorem FS.base{K:Kn}{H:ab}{tmps:Array Value}(c:FS j x [] K a r l H tmps h):FS ⟨K,a,H,h⟩ x [] K a (λ_=>none) l H tmps h:=⟨c.hr,.refl _ _ _ _,c.len,c.val,λk t _ b=>(by grind),λk d e=>(by cases e),λk f d e=>(by cases e)⟩
variable{t u:Array Value}
theorem FS.over{K d:Kn}{f:Mu}{H g:ab}{tmps:Array Value}(n:FS j x [] K a r l H tmps h)(c:FS ⟨K,a,H,h⟩ x [] d f s m g u i):FS j x [] d f (λ_=>none) m g u i:=⟨c.hr,n.nx.trans c.nx,c.len,c.val,λk t _ b=>(by grind),λk o e=>(by cases e),λk p o e=>(by cases e)⟩
def Mk(E:En)(μ:Mu)(H:ab)(a:List Nat):Prop:=a.Nodup/\∀r∈a,E.w.heap.size<=r/\∃m l,E.H.length<=m/\μ m=some l/\H[m]?=some .df/\l.blk=r
variable{k:ab}
def Mk.go{K c:Kn}{H:ab}(h:Mk j a H x)(e:aS K a H c b k):Mk j b k x:=⟨h.1,λr hr=>by obtain⟨i,m,l,n,d,f,o⟩:=h.2 r hr;obtain⟨p,q,g1,s,g⟩:=e.m m l _ d f;cases g;grind⟩
def SP(E:En)(d:List Nat)(e:Nat)(b:St)(a:Act)(W:World):Prop:=∃c K μ,FS E d [] K μ (λ_=>none) b.sl b.hp a.tmps W/\a.tmps.size=e/\a.defers=c.map DA/\Mk E μ b.hp c
def aaT{P:Program}{a:Act}{g:Operand}{l:Nat}{f:FuncId}{fn:Func}(b:a.eval g=.func (.func f) t u)(c:P.funcs[f]?=some fn)(e:fn.body.isSome=true)(h:fn.name≠"runtime.NumGoroutine")(W:World):∃d,(resolve a.eval (rangeCall g l) 0).run P W=.ok d W/\(invoke d.target d.args).run P W=.ok (.enter f (t++#[.func (.yield l) #[] #[]]++u)) W:=by
 refine⟨{target:=.fn (.func f) u,args:=t++#[.func (.yield l) #[] #[]]},?_,?_⟩;·have i:∀v,a.eval (.const v)=v:=λ_=>rfl;simp[resolve,b,Deferred.ofValue,i]
 simp[invoke,ye c e h]
def N8{K:Kn}{H:ab}(s:nodup y=true):∀{c:List Nat}{f:List Tmp}{x:List D}{tmps:Array Value}{ds:List D}{vs:List Value},oT K a H y x tmps->(∀t∈y,t<tmps.size)->c.length=f.length->(∀(i k t:Nat),c[i]?=some k->f[i]?=some t->y[k]?=some t)->aY K a H ds vs->oT K a H y (gl x c ds) ((f.zip vs).foldl (λtmps(q:Tmp×Value)=>tmps.setIfInBounds q.1 q.2) tmps)
 |[],[],x,tmps,ds,vs,h,_,_,_,_=>by cases ds<;>exact h|[],_::_,_,_,_,_,_,_,g,_,_=>by cases g|_::_,[],_,_,_,_,_,_,g,_,_=>by cases g|k::c,t::f,x,tmps,[],vs,h,_,_,_,b=>by
  have:vs=[]:=by have:=b.1;grind
  subst this;exact h|k::c,t::f,x,tmps,d::ds,[],_,_,_,_,b=>by have:=b.1;grind|k::c,t::f,x,tmps,d::ds,v::vs,h,hs,g,n,b=>by
  simp[gl,ACT,x6];have o:=n 0 k t rfl rfl;refine N8 s ⟨by simpa using h.1,λl m e=>?_⟩ (λq A=>by grind) (by grind) (λi l m e u=>n (i+1) l m (by grind) (by grind)) ⟨by have:=b.1;grind,λj p r e u=>b.2 (j+1) p r (by grind) (by grind)⟩;obtain⟨p,r,w,B,C⟩:=h.2 l m e;by_cases z:k=l;·subst z;rw[o]at e;cases e;exact⟨d,v,N1 (aw w),tj (hs t (lB o)),b.2 0 d v rfl rfl⟩
  grind[sS]
section
variable{P:Program}{V:au}{T:Kn->World->Prop}{cl:FuncId->List D->ab->CR}
def aaU(a:List (Tmp×Value)):∀(tmps:Array Value),(a.foldl (λtmps(q:Tmp×Value)=>tmps.setIfInBounds q.1 q.2) tmps).size=tmps.size:=by induction a<;>grind
def N9{K:Kn}{H:ab}(hr:HR K b H h){y:Nat}{l:br}{f:Nat}{p:List Bool}{j:Nat}{x:List D}{s s':RS}(g:b y=some l)(k:H[y]?=some (.yh f p j d z x s)){rec rec':Loop}(B:h.heap[l.blk]?=some (.loop rec))(C:sw su f p=some (rec.params,rec.assign,rec.body))(E:rec.tmps.size=d)(n:oT K b H z x rec.tmps)(F:rec'.params=rec.params)(G:rec'.assign=rec.assign)(I:rec'.body=rec.body)(o:rec'.tmps=rec.tmps)(hs:y6 s' rec'.state rec'.pending):∃m,m y=some l/\HR K m (H.set y (.yh f p j d z x s')) (h.putObj l.blk (.loop rec'))/\Nx K b H h K m (H.set y (.yh f p j d z x s')) (h.putObj l.blk (.loop rec')):=by
 have q:=hr.lt y l g;have t:=aw k;have u:aS K b H K (b.upd y l) (H.set y (.yh f p j d z x s')):=⟨λ_ _ _ e=>e,λi v w a c=>by
 by_cases hi:i=y;·subst hi;rw[g]at a;rw[k]at c;cases a;cases c;exact⟨l,_,by simp[Mu.upd],N1 t,.yh ..⟩
 exact⟨v,w,by grind[Mu.upd],by grind,.refl _ _⟩⟩;refine⟨b.upd y l,by simp[Mu.upd],hr.put0 y l l _ _ g k rfl (.yh ..) rfl rfl rfl (by simp_all) (λr _ A=>World.putObj_heap_other A) (.inl rfl) (by simp_all) ?_⟩;exact⟨rec',World.putObj_heap_same q,by grind,by grind,hs,by rw[o];exact n.ext u⟩
def aaV{K:Kn}{H:ab}(hr:HR K a H h){y:Nat}{l:br}{f:Nat}{p:List Bool}{j:Nat}{x:List D}{s:RS}(b:a y=some l)(e:H[y]?=some (.yh f p j c z x s))(o:Obj):∃d,HR K d (H.set y .no) (h.putObj l.blk o)/\Nx K a H h K d (H.set y .no) (h.putObj l.blk o):=by have i:=hr.lt y l b;exact⟨a.upd y l,hr.put0 y l l _ _ b e rfl (.yn ..) rfl rfl rfl (by simp_all) (λr _ g=>World.putObj_heap_other g) (.inl rfl) (by simp_all) trivial⟩
variable{n o:Code}
def aaW{r:Rnd}(a:P=su)(h:yq P V r=true){params:Array Tmp}(b:sw su r.f r.path=some (params,n,o)):r.ps.length=params.size/\(∀(i k t:Nat),r.ps[i]?=some k->params.toList[i]?=some t->r.tm[k]?=some t)/\cd P V r.nt r.tm [] n r.a=true/\cd P V r.nt r.tm [] o r.b=true/\nodup r.tm=true/\∀t∈r.tm,t<r.nt:=by grind[yq,MH]
variable{p q:St}
def Du{K:Kn}{μ:Mu}{H:ab}{y:Nat}{l:br}{f:Nat}{p:List Bool}{j:Nat}{x:List D}{s:RS}(t:μ y=some l)(u:H[y]?=some (.yh f p j c z x s)){A B:List Nat}{nd:List Deferred}{a:Act}{w:World}(C:fW ⟨K,μ,H,h⟩ B A d nd q a w){n:List Bool}{o:Nat}{gU:List Nat}(k:q.hp[y]?=some (.yh e n g o gU m .bz)){i:Option Code}{s':RS}(hs:y6 s' (if i.isNone then .ready else .done) i):∃v w',(Instr.endRound l.blk i).run P w=.ok v w'/\fu K μ H h (.b i.isNone) (q.hp.set y (.yh e n g o gU m s')) (.returned v) w':=by obtain⟨L,E,M,fs,_,_⟩:=C;obtain⟨N,Q,g1,r,F⟩:=fs.nx.ext.m y l _ t u;rw[k]at r;cases r;cases F;obtain⟨rec,c1,c2,c3,c4,c5⟩:=fs.hr.blk y l _ g1 k;obtain⟨G,_,I,J⟩:=N9 fs.hr g1 k c1 c2 c3 c5 (rec':={rec with state:=if i.isNone then .ready else .done,pending:=i}) rfl rfl rfl rfl hs;exact⟨_,_,run_endRound i c1,E,G,I,fs.nx.trans J,.b ..⟩
def aaX(G:P.follows .mixedOrders=true)(g:cm P V T)(w:dI P T cl)(z:gI P T cl)(I:eQ V cl){n:Nat}{args:List D}{H:ab}{d:D}{J:ab}(h:ku V cl n args H=.ret d J):Mv P T args H d J:=by
 unfold ku at h;split at h
 ·rename_i y C;split at h
  ·rename_i f p j nt tm x i;split at h
   ·rename_i r Z;split at h;·rename_i hc;obtain⟨rfl,rfl,rfl,rfl,ac⟩:=hc;refine⟨y,C,rfl,λK μ W vs l L hr M o=>?_⟩;obtain⟨rec,b1,b2,b3,b4,b5⟩:=hr.blk y l _ o i;obtain⟨hP,ae⟩:=g.rnd j r Z;obtain⟨q1,q2,q3,q4,q5,A⟩:=aaW hP ae b2;refine⟨rec,b1,by rw[<-M.1,<-ac];exact q1,λm=>?_⟩;cases N:aC V cl n r.a ⟨gl x r.ps C,H⟩with|mk e1 st1=>rw[N]at h;cases e1 with
 |nm=>
  simp[m6]at h;split at h;·rename_i f1 p1 j1 bc bd x1 E;cases Q:aC V cl n r.b ⟨st1.sl,st1.hp.set y _⟩with|mk s ak=>
   rw[Q]at h;have al:s.fin=true:=by cases s<;>first|rfl|cases h
   have am:s.good=true:=by cases s<;>first|rfl|cases h
   have an:∀t∈r.tm,t<rec.tmps.size:=λt ht=>by grind
   have F:=N8 q5 b5 an (by omega) q2 M;have S:=aaU (rec.params.toList.zip vs) rec.tmps;have ao:(rec.params.zip vs.toArray).foldl (λtmps(t,a)=>tmps.setIfInBounds t a) rec.tmps=(rec.params.toList.zip vs).foldl (λtmps q=>tmps.setIfInBounds q.1 q.2) rec.tmps:=by rw[<-Array.foldl_toList,Array.toList_zip]
   rw[ao];generalize(rec.params.toList.zip vs).foldl _ _=ap at F S;have hA:fW ⟨K,μ,H,W⟩ r.tm [] r.nt [] ⟨gl x r.ps C,H⟩ {tmps:=ap,defers:=[]} W:=⟨λ_=>none,K,μ,⟨hr,.refl _ _ _ _,F.1,λk t a _=>F.2 k t a,λk t _ b=>(by grind),λk r e=>(by cases e),λk k' r e=>(by cases e)⟩,S.trans b3,rfl⟩;refine roundIn_of_wpIn trivial ?_;refine wpIn_mono (oU g w z q5 A (oI G g w z I q5 A) ⟨K,μ,H,W⟩ ⟨L,hr⟩ [] n r.a _ q3 _ st1 .nm _ W N rfl hA) (λe a1 w1 c=>?_);cases e with
   |normal=>obtain⟨_,L1,K1,bj,B,aw,ax⟩:=c;obtain⟨l',b',g1,U,be⟩:=B.nx.ext.m y l _ o i;rw[E]at U;cases U;cases be;obtain⟨az,X,c2,c3,Y,c5⟩:=B.hr.blk y l _ g1 E;obtain⟨a3,_,a4,a5⟩:=N9 B.hr g1 E X c2 c3 c5 (rec':={az with state:=.busy}) rfl rfl rfl rfl (s':=.bz) ⟨rfl,Y.2⟩;refine⟨_,run_beginRound X Y.1,?_⟩;refine wpIn_mono (oU g w z q5 A (oI G g w z I q5 A) ⟨K,μ,H,W⟩ ⟨L,hr⟩ [] n r.b _ q4 _ ak s a1 _ Q am ⟨L1,K1,a3,B.go a4 a5,aw,ax⟩) (λe bm w3 c=>?_);cases e with
    |normal=>
 obtain⟨rfl,c⟩:=c;simp[m5]at h;split at h;·rename_i u;cases h;exact Du o i c u ⟨rfl,rfl⟩
 grind|ret=>
 obtain⟨rfl,c⟩:=c;simp[m5]at h;split at h;·rename_i u;cases h;exact Du o i c u ⟨rfl,rfl⟩
 grind|exit id=>
 obtain⟨rfl,c⟩:=c;simp[m5]at h;split at h;·rename_i u;cases h;exact Du o i c u ⟨rfl,rfl⟩
 grind|panic ch=>obtain⟨q,v,rfl,_⟩:=c;cases al|_=>exact c.elim
   |panic ch=>obtain⟨q,v,e,_⟩:=c;cases e|ret=>cases c.1|exit id=>cases c.1|_=>exact c.elim
  grind|_=>cases h
    grind
   grind
  grind
 grind
def y7:∀{p:List Bool}{c a:Code}(q:List Bool),jG p c=some a->jG (p++q) c=jG q a|[],c,a,q,h=>by cases h;rfl|b::p,c,a,q,h=>by cases b<;>cases c<;>simp[jG]at h<;>first|grind|exact y7 (p:=p) q h
theorem aaY(A:P.follows .mixedOrders=true)(g:cm P V T)(l:dI P T cl)(r:gI P T cl)(B:eQ V cl)(s:nodup x=true)(u:∀t∈x,t<c)(w:TE T j)(n m:Nat){i:aQ}(C:cd P V c x [] o i=true){d:Ex}{a:Act}(E:aC V cl n i p=(d,q))(y:d.fin=true)(F:SP j x c p a h):o.wpIn (FW none) m P (DB d (SP j x c q)) a h:=by obtain⟨G,K,μ,fs,hs,H,I⟩:=F;have k:∀f w',fW ⟨K,μ,p.hp,h⟩ x [] c _ q f w'->SP j x c q f w':=λf w'⟨Q,J,L,z,M,N⟩=>⟨G,J,L,fs.over z,M,N,I.go z.nx.ext⟩;refine wpIn_mono (oU g l r s u (oI A g l r B s u) ⟨K,μ,p.hp,h⟩ ⟨g.up w.1 w.2 fs.nx,fs.hr⟩ _ n i o C p q d a h E (by cases d<;>first|rfl|cases y) ⟨λ_=>none,K,μ,fs.base,hs,H⟩) (λe f w' b=>?_);cases e with|normal=>exact⟨b.1,k _ _ b.2⟩|ret=>exact⟨b.1,k _ _ b.2⟩|exit id=>exact⟨b.1,k _ _ b.2⟩|panic S=>obtain⟨U,v,rfl,_⟩:=b;cases y|_=>exact b.elim
theorem aaZ(af:cm P V T)(cs:dI P T cl)(b9:∀t∈y,t<c){f:FuncId}{fn:Func}{body:Code}(hf:P.funcs[f]?=some fn)(hb:fn.body=some body){E:En}(U:TE T E)(n m:Nat){j:Nat}{x:O}{ag:List Bool}{g:Operand}{w:Array Tmp}{z:Code}(L:k8 P V f c y ag (.rangeFunc g w o z) (.rng j x)=true)(hp:jG ag body=some (.rangeFunc g w o z)){ah:St}{W:Ex}{a:Act}(b:aC V cl n (.rng j x) q=(W,ah))(I:W.fin=true)(hA:SP E y c q a h):(Code.rangeFunc g w o z).wpIn (FW none) m P (DB W (SP E y c ah)) a h:=by
 simp[k8]at L;simp[aC]at b;split at b
 ·rename_i r hr;rw[hr]at L;simp[D0,U3]at L;obtain⟨⟨⟨⟨rfl,rfl⟩,rfl⟩,rfl⟩,a5⟩:=L;obtain⟨hP,_⟩:=af.rnd j r hr;split at b
  ·rename_i X cap hx;split at b;·cases b;cases I
   rename_i a7;obtain⟨rs,K,μ,fs,hs,hd,aj⟩:=hA;have Y:=ie (loc:=[]) fs (λi cf vo t _ e=>by grind) a5 (λ_ _=>trivial);rw[hx]at Y;generalize hy:a.eval g=v at Y;cases Y with|fn _ _ _ _ _ va Z la lb cj ba=>
   have bb:va=[]:=by grind
   subst bb;have hl:sw su r.f r.path=some (w,o,z):=by grind[sw]
   cases M:cl X _ _ with
   |ret dd N=>
 rw[M]at b;obtain⟨⟨fg,bd,be,bf⟩,bg⟩:=(cs X _ _ dd N M).1 a7;have bh:∀C,(Instr.enterLoop C a.tmps w o z (FW none).round).run P h=_:=λC=>run_enterLoop_outer C _ w o z;refine wpIn_rangeFunc (λC _=>?_);obtain⟨p1,Q⟩:=fs.hr.push _ ⟨h.heap.size,0,0⟩ .df rfl (heap_alloc_new h _);have bi:oT K _ _ r.tm q.sl _:=⟨fs.len,λk t e=>by obtain⟨d,v,F,G,e3⟩:=fs.val k t e rfl;exact⟨d,v,F,G,e3.ext Q.ext⟩⟩;obtain⟨p2,S⟩:=p1.push _ ⟨h.heap.size+1,0,0⟩ (.yh r.f _ j r.nt r.tm q.sl .rd) (by simp) ⟨_,by have:=heap_alloc_new (h.alloc (.deferred (some []))) (.loop {state:=.ready,pending:=none,fn:=C,tmps:=a.tmps,params:=w,assign:=o,body:=z,defers:=h.heap.size});simpa using this,hl,hs,⟨rfl,rfl⟩,bi.ext (aS.push p1.dom _ _)⟩;obtain⟨d,bk,bl⟩:=aaT (P:=P) (l:=h.heap.size+1) hy bd be bf ((h.alloc (.deferred (some []))).alloc (.loop {state:=.ready,pending:=none,fn:=C,tmps:=a.tmps,params:=w,assign:=o,body:=z,defers:=h.heap.size}));refine⟨_,_,_,d,_,X,_,_,bh C,bk,λ_ _=>trivial,bl,λe=>(by cases e),?_⟩;have hE:E.H.length<=q.hp.length:=by
  rcases wN E.H.length with hz|hz;·omega
  obtain⟨l0,bq⟩:=U.2.tot (E.H.length-1) (by omega);obtain⟨_,_,_,g2,_⟩:=fs.nx.ext.m _ l0 _ bq (E2 (show E.H.length-1<E.H.length by omega));grind
 have br:Mk E (μ.upd q.hp.length ⟨h.heap.size,0,0⟩) (q.hp++[.df]) (h.heap.size::rs):=by
  have h1:=aj.go Q.ext;refine⟨yy.2 ⟨λbs=>?_,h1.1⟩,λr' H=>?_⟩;·obtain⟨_,m',l',_,g1,_,g3⟩:=aj.2 _ bs;have:=fs.hr.lt m' l' g1;omega
  rcases dA.1 H with rfl|H;·exact⟨fs.nx.size,q.hp.length,⟨h.heap.size,0,0⟩,hE,by simp[Mu.upd],by simp,rfl⟩
  exact h1.2 r' H
 have bv:(q.hp++[.df])++[.yh r.f r.path j r.nt r.tm q.sl .rd]=q.hp++[.df,.yh r.f r.path j r.nt r.tm q.sl .rd]:=by simp
 rw[bv]at p2 S;have ap:(q.hp++[.df,.yh r.f r.path j r.nt r.tm q.sl .rd])[q.hp.length+1]?=some (.yh r.f r.path j r.nt r.tm q.sl .rd):=by grind
 generalize bw:(μ.upd q.hp.length ⟨h.heap.size,0,0⟩).upd (q.hp++[an.df]).length ⟨h.heap.size+1,0,0⟩=ac at p2 S;have aq:ac (q.hp.length+1)=some ⟨h.heap.size+1,0,0⟩:=by rw[<-bw];grind[Mu.upd]
 have ar:=Q.trans S;have bx:aY K ac (q.hp++[.df,.yh r.f r.path j r.nt r.tm q.sl .rd]) (.yl (q.hp.length+1)::cap) (.func (.yield (h.heap.size+1)) #[] #[]::Z):=by refine⟨by grind,λi d v e e'=>?_⟩;cases i with|zero=>cases e;cases e';exact .yl _ _ _ _ _ aq ap rfl|succ i=>exact(ba i d v e e').ext ar.ext
 have hc:=bg K ac _ _ (af.up U.1 U.2 (fs.nx.trans ar)) p2 bx;rw[show(([]:List Value).toArray++#[.func (.yield (h.heap.size+1)) #[] #[]]++Z.toArray:Array Value)=(Value.func (.yield (h.heap.size+1)) #[] #[]::Z).toArray by simp];refine CallsIn.mono (callsIn_wide (n:=m-1).2 hc) (λe w3 he=>?_);cases e with|panicked ch=>exact he.elim|outgrown=>exact he.elim|returned v=>
  obtain⟨K',cp,H,av,_⟩:=he;obtain⟨l',b',g1,g2,b2⟩:=av.ext.m _ _ _ aq ap;have key:∀{f':Nat}{p':List Bool}{j' az:Nat}{a0:List Nat}{x':List D}{s:RS}{pe:Option Code},N[q.hp.length+1]?=some (.yh f' p' j' az a0 x' s)->(∀J p,y6 s J p->J≠.busy/\p=pe)->∃A,(Instr.endLoop (h.heap.size+1)).run P w3=.ok pe A/\SP E r.tm r.nt ⟨q.sl,N.set (q.hp.length+1) .no⟩ {a with defers:=DA h.heap.size::a.defers} A:=λ{f' p' j' az a0 x' s pe}u b3=>by rw[u]at g2;cases g2;cases b2;obtain⟨rec,c1,c2,c3,c4,c5⟩:=H.blk _ _ _ g1 u;obtain⟨k1,k2⟩:=b3 _ _ c4;obtain⟨b6,b7,b8⟩:=aaV H g1 u (.loop {rec with state:=.exhausted});have a2:=S.trans (av.trans b8);exact⟨_,by rw[run_endLoop c1 k1,k2],h.heap.size::rs,K',b6,fs.go b7 (Q.trans a2),hs,by grind,br.go a2.ext⟩
  simp only[oB]at b;split at b;·rename_i u;cases b;obtain⟨A,F,G⟩:=key u (pe:=none) (λJ p B=>⟨by rw[B.1];simp,B.2⟩);exact⟨none,A,F,rfl,G⟩
  ·rename_i u;cases b;obtain⟨A,F,G⟩:=key u (pe:=some .ret) (λJ p B=>⟨by rw[B.1];simp,B.2⟩);exact⟨some .ret,A,F,wpIn_ret ⟨rfl,G⟩⟩
  ·rename_i id u;cases b;obtain⟨A,F,G⟩:=key u (pe:=some (.exit id)) (λJ p B=>⟨by rw[B.1];simp,B.2⟩);exact⟨some (.exit id),A,F,wpIn_exit ⟨rfl,G⟩⟩
  cases b;cases I|pan dd N=>rw[M]at b;simp only[oB]at b;cases b;cases I|bad=>rw[M]at b;simp only[oB]at b;cases b;cases I
  cases b;cases I
 grind
def aa0(N:P.follows .mixedOrders=true)(Q:cm P V T)(S:dI P T cl)(U:gI P T cl)(X:eQ V cl)(Y:nodup z=true)(Z:∀t∈z,t<c){f:FuncId}{fn:Func}{body:Code}(hf:P.funcs[f]?=some fn)(hb:fn.body=some body){E:En}(hT:TE T E)(n m:Nat):∀(u:aQ)(k:List Bool)(i:Code),k8 P V f c z k i u=true->jG k body=some i->∀(g o:St)(l:Ex)(a:Act)(W:World),aC V cl n u g=(l,o)->l.fin=true->SP E z c g a W->i.wpIn (FW none) m P (DB l (SP E z c o)) a W:=by intro u;induction u with
 |seq x y F H=>
 intro k i d q g o l a W h v r;cases i<;>simp only[k8,cd,zv]at d;rename_i A I;simp[D0]at d;simp[aC]at h;have w:jG (k++[false]) body=some A:=by rw[y7 _ q];rfl
 have J:jG (k++[true]) body=some I:=by rw[y7 _ q];rfl
 cases p:aC V cl n x g with|mk s st1=>rw[p]at h;cases G:s with
  |nm=>subst G;refine wpIn_seq (wpIn_mono (F _ _ d.1 w g st1 .nm a W p rfl r) (λe B w' b=>?_));cases e<;>first|(exact H _ _ d.2 J st1 o l B w' h v b.2)|(exact(b).elim)|(cases b.1;done)
  |_=>subst G;simp[wx]at h;obtain⟨rfl,rfl⟩:=h;first|(cases v;done)|(refine wpIn_seq (wpIn_mono (F _ _ d.1 w g st1 _ a W p rfl r) (λe B w' b=>?_));cases e<;>first|(cases b.1;done)|(exact b))
 |block id x K=>
 intro k i d q g o l a W h v r;cases i<;>simp only[k8,cd,zv]at d;rename_i L A;simp[D0,U3]at d;obtain⟨rfl,d⟩:=d;simp[aC]at h;have w:jG (k++[false]) body=some A:=by rw[y7 _ q];rfl
 cases p:aC V cl n x g with|mk s st1=>
 rw[p]at h;have M:s.fin=true:=by cases s<;>simp at h<;>first|rfl|grind
 refine wpIn_block (wpIn_mono (K _ _ d w g st1 s a W p M r) (λe B w' b=>?_))
 cases e with|normal=>obtain⟨rfl,b⟩:=b;cases h;exact⟨rfl,b⟩|ret=>obtain⟨rfl,b⟩:=b;cases h;exact⟨rfl,b⟩|exit L=>
 obtain⟨rfl,b⟩:=b;simp[Exit.inBlock];simp at h;split at h;·rename_i C;subst C;cases h;rw[G1 rfl];exact⟨rfl,b⟩
 rename_i C;cases h;rw[E1 C];exact⟨rfl,b⟩|_=>exact(b).elim
 |rng j x=>intro k i d q g o l a W h v r;cases i<;>grind[aaZ,k8,cd]|_=>grind[aaY,k8]
theorem aa1(ah:P.follows .mixedOrders=true)(ai:cm P V T)(cs:dI P T cl)(ak:gI P T cl)(al:eQ V cl){f:FuncId}{fn:Func}{j:aH}(U:P.funcs[f]?=some fn)(I:km P V fn j x y=true)(hd:j.dfr=none)(an:j.rg=some f){n:Nat}{args:List D}{H:ab}{d:D}{W:ab}(X:iF V cl n j args H=.ret d W){K:Kn}{μ:Mu}{vs:List Value}(hT:T K h)(hr:HR K μ H h)(Y:aY K μ H args vs):Calls P f vs.toArray h (fu K μ H h d W):=by unfold km at I;rw[hd,an]at I;simp[D0,U3,Hq,TA,fa]at I;obtain⟨⟨⟨⟨⟨⟨⟨⟨⟨z,bd⟩,ap⟩,aq⟩,ar⟩,Z⟩,aa⟩,be⟩,au⟩,av⟩:=I;cases A:fn.body with|none=>grind|some aw=>
 rw[A]at z;simp[D0,List.isEmpty_iff]at z;obtain⟨rfl,z⟩:=z;unfold iF at X;split at X
 ·rename_i ax;have ay:vs.length=j.npar:=by rw[<-Y.1];omega
  obtain⟨L,K1,a0,fs,hs,bf⟩:=vE (bs:=[]) ap aq ar Z aa (λk N=>by cases N) au ax ay hr Y;have hA:SP ⟨K,μ,H,h⟩ x _ ⟨args++List.replicate _ .u,H⟩ {tmps:=vs.toArray++Array.replicate _ undef,defers:=[]} h:=⟨[],K1,a0,fs.noL,hs,rfl,List.nodup_nil,λr hr=>by cases hr⟩;have go:∀B g,aC V cl n j.body ⟨args++List.replicate (j.nsl-j.npar) .u,H⟩=(B,g)->(B=.nm\/B=.rt)->∀ds,cW ⟨g.sl,dJ H.length g.hp⟩ j.res=some ds->Calls P f vs.toArray h (fu K μ H h (fS ds) (dJ H.length g.hp)):=by
   intro B g a2 ac ds hds;refine(callsIn_wide (n:=0)).1 (callsIn_of_wp_marks U A trivial ?_);refine wpIn_mono (aa0 ah ai cs ak al aa Z U A ⟨hT,hr⟩ n 0 _ [] aw z rfl _ g B _ h a2 (by rcases ac with rfl|rfl<;>rfl) hA) (λe a w J=>?_);have ad:SP ⟨K,μ,H,h⟩ x fn.ntmps g a w->LeavesInM Fence.wide 0 P fn _ (fu K μ H h _ _) a.defers .returning w:=λ⟨p,Q,C,c,_,a3,E⟩=>by
    rw[a3];have own:∀r∈p,bT C g.hp r:=λr i=>by obtain⟨_,F,l,_,g1,o,M⟩:=E.2 r i;exact⟨F,l,_,g1,o,rfl,M⟩
    have a4:∀r∈p,¬bT C (dJ H.length g.hp) r:=λr i⟨id,l,b,G,s,S,k4⟩=>by
     obtain⟨_,F,l',g0,g1,o,M⟩:=E.2 r i;rcases zc s with hx|⟨_,_,rfl⟩;·have:=c.hr.inj id F l l' b .df G g1 hx o S rfl (by omega);subst this;rw[Dz g0,o]at s;cases s;cases S
     cases S
    have af:=(c.hr.unmark _).shut p (λr i=>⟨a4 r i,λq v N=>c.hr.kf r q v N (own r i)⟩);have bi:∀r∈p,h.heap.size<=r:=λr i=>(E.2 r i).1;have ag:Nx K μ H h Q C (dJ H.length g.hp) (jk p w):=by
     obtain⟨o1,o2,o3⟩:=Oe p w;refine⟨⟨c.nx.ext.k,λid l b G s=>?_⟩,o1.trans c.nx.os,o2.trans c.nx.tape,o3.trans c.nx.output,by rw[Od];exact c.nx.size,λr G s=>?_,λr k=>c.nx.og r (Oc k),c.nx.kg⟩;·obtain⟨l',b',g1,o,bk⟩:=c.nx.ext.m id l b G s;grind[Dy]
     rw[Of p w r (λbl=>by grind)];exact c.nx.keep r G s
    have a9:FS ⟨K,μ,H,h⟩ x [] Q C (λ_=>none) g.sl _ _ _:=⟨af,ag,c.len,λk t e e'=>by obtain⟨d,v,g1,o,M⟩:=c.val k t e e';exact⟨d,v,g1,o,M.same (λm b e A=>Ob e A)⟩,λk t _ b=>(by grind),λk r e=>(by cases e),λk k' r e=>(by cases e)⟩;obtain⟨v,h1,h2⟩:=yG a9 av hds;exact Og p w E.1 (λr i=>by obtain⟨_,F,l,_,g1,o,rfl⟩:=E.2 r i;exact c.hr.blk F l _ g1 o) ⟨v,h1,Q,C,af,ag,h2⟩
   cases e with|normal=>exact ad J.2|ret=>exact ad J.2|exit id=>rcases ac with rfl|rfl<;>cases J.1|_=>exact J.elim
  grind
 grind
theorem aa2{n:Nat}{a:aH}{args:List D}{H:ab}{q:D}(h:iF V cl n a args H=.pan q k):False:=by grind[iF]
def aa3{n:Nat}{args:List D}{H:ab}{q:D}(h:ku V cl n args H=.pan q k):False:=by
 unfold ku m6 m5 at h;repeat' split at h
 all_goals cases h
end
end
section
variable{z:aH}{x y:List Nat}{b:Mu}{c:World}
def Y9{P:Program}{V:au}{T:Kn->World->Prop}{cl:FuncId->List D->ab->CR}(U:P.follows .mixedOrders=true)(C:cm P V T)(E:dI P T cl)(F:gI P T cl)(W:eQ V cl){f:FuncId}{fn:Func}(G:P.funcs[f]?=some fn)(o:km P V fn z x y=true)(X:z.dfr=none)(Y:z.rg=none){n:Nat}{args:List D}{H:ab}{K:Kn}{vs:List Value}(Z:T K c)(hr:HR K b H c)(I:aY K b H args vs):(∀d j,eO V cl n z args H=.ret d j->Calls P f vs.toArray c (fu K b H c d j))/\∀q j,eO V cl n z args H=.pan q j->Calls P f vs.toArray c (Cv K b H c q j):=by unfold km at o;rw[X,Y]at o;simp[D0,U3,Hq,TA,fa]at o;obtain⟨⟨⟨⟨⟨⟨⟨⟨⟨J,aq⟩,aa⟩,ac⟩,ad⟩,p⟩,r⟩,ae⟩,af⟩,ag⟩:=o;cases s:fn.body with|none=>grind|some ah=>
 rw[s]at J;unfold eO;by_cases M:args.length=z.npar
 ·rw[G1 M];have ai:vs.length=z.npar:=by rw[<-I.1];omega
  have hA:=vE aa ac ad p r ae af M ai hr I;have N:=λk i l hg=>oU (rd:=none) (m:=0) C E F r p (oI U C E F W r p) ⟨K,b,H,c⟩ ⟨Z,hr⟩ [] n _ ah J ⟨args++List.replicate _ .u,H⟩ i k _ c l hg hA;have go:∀k i,aC V cl n z.body ⟨args++List.replicate (z.nsl-z.npar) .u,H⟩=(k,i)->(k=.nm\/k=.rt)->∀ds,cW i z.res=some ds->Calls P f vs.toArray c (fu K b H c (fS ds) i.hp):=by
   intro k i l Q ds hds;refine calls_of_wp G s (wp_mono (wpIn_wide.1 (N k i l (by rcases Q with rfl|rfl<;>rfl))) (λe a w g=>?_));have S:fW ⟨K,b,H,c⟩ x y fn.ntmps [] i a w->a.defers=[]/\∃v,(results fn _).run P w=.ok v w/\fu K b H c _ i.hp (.returned v) w:=λg=>by obtain⟨L,t,A,fs,_,B⟩:=g;obtain⟨v,h1,h2⟩:=yG fs ag hds;exact⟨B,v,h1,t,A,fs.hr,fs.nx,h2⟩
   cases e with|normal=>exact S g.2|ret=>exact S g.2|exit id=>rcases Q with rfl|rfl<;>cases g.1|panic ch=>obtain⟨_,_,hx,_⟩:=g;grind|_=>exact g.elim
  refine⟨λd j h=>?_,λq j h=>?_⟩;·grind
  split at h;·grind
  ·grind
  ·rename_i q' i l;cases h;refine calls_of_wp G s (wp_mono (wpIn_wide.1 (N _ i l rfl)) (λe a w g=>?_));cases e with|panic ch=>obtain⟨q2,v,e1,rfl,L,t,A,fs,_,B,ap⟩:=g;cases e1;exact⟨B,v,t,A,rfl,fs.hr,fs.nx,ap⟩|normal=>cases g.1|ret=>cases g.1|exit id=>cases g.1|_=>exact g.elim
  grind
 grind
def FS.slot{E:En}{f i:List Nat}{K:Kn}{L:Nat->Option Nat}{j:List D}{H:ab}{tmps:Array Value}(h:FS E f i K b L j H tmps c)(m:nodup f=true){k t:Nat}(n:f[k]?=some t)(B:i.contains k=false)(C:t<tmps.size){d:D}{v:Value}(F:VR K b H d v):FS E f i K b L (j.set k d) H (tmps.setIfInBounds t v) c:=by
 have G:k<j.length:=by rw[h.len];grind
 refine⟨h.hr,h.nx,by simpa using h.len,λa l x y=>?_,λa l x y=>?_,h.own,h.inj⟩
 ·by_cases g:k=a;·grind
  obtain⟨I,u,J,M,N⟩:=h.val a l x y;grind[sS]
 have g:k≠a:=λe=>by grind
 rcases h.box a l x y with e|⟨r,o,vs,p,q,s,w,z,A⟩;·exact .inl (by rw[Hy g];exact e)
 refine .inr ⟨r,o,vs,p,q,by rw[Hy g];exact s,?_,z,A⟩;exact kw w (λe=>g (sS m k a t n (e▸x)))
def yC(K:Kn)(μ:Mu)(H:ab)(W:World)(a:ab)(e:FrameMode):Ending->FrameMode->World->Prop|.returned _,u,b=>u=e/\∃c d,HR c d a b/\Nx K μ H W c d a b|_,_,_=>False
inductive Rcv:FrameMode->FrameMode->D->Value->Prop|ret:Rcv .returning .returning .ni .nilIface|pan(x:D)(v:Value):Rcv (.panicking (qf v)) (.panicking [{v,recovered:=true}]) x v
def Za{P:Program}{V:au}{T:Kn->World->Prop}{cl:FuncId->List D->ab->CR}(S:P.follows .mixedOrders=true)(C:cm P V T)(E:dI P T cl)(F:gI P T cl)(U:eQ V cl){q:eY}(k:yr P V q=true){n:Nat}{args:List D}{x:D}{g:St}{l:Ex}{H:ab}(G:args.length=q.caps.length)(W:aC V cl n q.body ⟨(args++List.replicate (q.ns-args.length) D.u).set q.rk x,H⟩=(l,g))(I:l=.nm\/l=.rt){K:Kn}{vs:List Value}(X:T K c)(hr:HR K b H c)(J:aY K b H args vs){v:Value}(Y:VR K b H x v){u d:FrameMode}(Z:Rcv u d x v):CallsD P q.g vs.toArray u c (yC K b H c g.hp d):=by
 unfold yr at k;split at k
 ·rename_i h aa;simp only[D0,U3,Hq,TA,fa,ABz,ABC]at k;obtain⟨⟨⟨⟨⟨⟨⟨⟨⟨⟨⟨⟨s,ac⟩,bc⟩,bd⟩,ad⟩,ae⟩,af⟩,o⟩,p⟩,ag⟩,ah⟩,be⟩,bf⟩:=k;split at s
  ·rename_i id ops c2 hb;simp only[D0]at s;obtain⟨i,ai⟩:=s;split at i
   ·rename_i r w z;simp only[D0,AA5]at i;obtain⟨⟨i,aj⟩,ak⟩:=i;split at i
    ·rename_i az bh t3 t t2 am an ao ap;simp only[D0,U3,hY,Hq]at i;obtain⟨⟨⟨⟨rfl,aq⟩,bj⟩,M⟩,ar⟩:=i;have av:vs.length=q.caps.length:=by rw[<-J.1];omega
     have hA:=vE ad ae af o p ag ah G av hr J;refine callsD_of_wpS aa hb (λa f A=>wpS_seq ?_);refine wpS_region ?_;have ax:ops.size=2:=by rw[<-Array.length_toList,z];rfl
     have bk:ops[0]?=some r:=by rw[<-Array.getElem?_toList,z];rfl
     have ay:ops[1]?=some w:=by rw[<-Array.getElem?_toList,z];rfl
     have w1:∀y,Region.wanted r y=true:=λy=>by simp[Region.wanted,aj]
     have w2:∀y,Region.wanted w y=true:=λy=>by simp[Region.wanted,ak]
     have e1:∀ρ c,(execOp ρ r).run P c=.ok .recover c:=λρ c=>by simp[execOp,am,resolve,invoke,builtin]
     have e2:∀ρ c,(execOp ρ w).run P c=.ok (.value (ρ (.tmp t))) c:=λρ c=>by simp[execOp,ao]
     rw[ax];obtain⟨L,K1,a2,fs,hs,a3⟩:=hA;simp only at hs a3;have bo:t<(vs.toArray++Array.replicate (h.ntmps-vs.toArray.size) undef).size:=by grind
     have a4:wpOpsS P ops (Exit.thenS (c2.wpS P (bodyPostS P h a f (yC K b H c g.hp d))) (bodyPostS P h a f (yC K b H c g.hp d))) [1] (({tmps:=vs.toArray++Array.replicate (h.ntmps-vs.toArray.size) undef,defers:=[]}:Act).put r.dst v) ({a with mode:=d}::f) c:=by
      simp only[wpOpsS,ay,w2,if_true,e2,Oper.upon,Exit.thenS];rw[an,ap];have a5:(({tmps:=vs.toArray++Array.replicate (h.ntmps-vs.toArray.size) undef,defers:=[]}:Act).put (some t) v).eval (.tmp t)=v:=by simp only[Act.put,Act.eval];simp_all
      rw[a5];refine wpS_of_wp ?_;have a6:fW ⟨K,b,H,c⟩ q.tm q.bs _ [] ⟨(args++List.replicate (q.ns-args.length) D.u).set q.rk x,H⟩ ((({tmps:=vs.toArray++Array.replicate _ undef,defers:=[]}:Act).put (some t) v).put (some t2) v) c:=⟨L,K1,a2,by rw[G];exact(fs.tmp v (tw aq)).slot p M ar (by simp only[AAJ];rw[hs];exact o _ (lB M)) (Y.ext fs.nx.ext),by simp only[Act.put,AAJ];exact hs,rfl⟩;refine wp_mono (wpIn_wide.1 (oU (rd:=none) (m:=0) C E F p o (oI S C E F U p o) ⟨K,b,H,c⟩ ⟨X,hr⟩ [] n q.body c2 ai _ g l _ c W (by rcases I with rfl|rfl<;>rfl) a6)) (λe B w' j=>?_);have done:fW ⟨K,b,H,c⟩ q.tm q.bs h.ntmps [] g B w'->B.defers=[]/\∃N,({a with mode:=d}::f:List Frame)={a with mode:=N}::f/\∃v,(results h B.tmps).run P w'=.ok v w'/\yC K b H c g.hp d (.returned v) N w':=λj=>by obtain⟨L',K',a8,Q,_,a9⟩:=j;exact⟨a9,d,rfl,.tuple #[],by simp[results,ac],rfl,K',a8,Q.hr,Q.nx⟩
      cases e with|normal=>exact done j.2|ret=>exact done j.2|exit id=>rcases I with rfl|rfl<;>cases j.1|panic ch=>obtain⟨_,_,br,_⟩:=j;grind|_=>exact j.elim
     show wpOpsS P ops _ [0,1] _ _ _
     cases Z with|ret=>
     have ba:recoverD (a::f)=none:=by simp[recoverD,A]
     have hc:({a with mode:=.returning}:Frame)=a:=by rw[<-A]
     rw[hc]at a4;unfold wpOpsS;grind|pan x v=>
     have ba:recoverD (a::f)=some (v,{a with mode:=.panicking [{v,recovered:=true}]}::f):=by simp[recoverD,A]
     unfold wpOpsS;grind
    grind
   grind
  grind
 grind
theorem Zb{P:Program}{V:au}{T:Kn->World->Prop}{cl:FuncId->List D->ab->CR}(hm:P.follows .mixedOrders=true)(J:cm P V T)(X:dI P T cl)(Y:gI P T cl)(am:eQ V cl){f:FuncId}{fn:Func}{Z bs:List Nat}{q:eY}(hf:P.funcs[f]?=some fn)(aj:km P V fn z Z bs=true)(hd:z.dfr=some q){n:Nat}{args:List D}{H:ab}{d:D}{H':ab}(h:jK V cl n z q args H=.ret d H'){K:Kn}{μ:Mu}{vs:List Value}(hT:T K c)(hr:HR K μ H c)(hv:aY K μ H args vs):Calls P f vs.toArray c (fu K μ H c d H'):=by
 unfold km at aj;rw[hd]at aj;simp[D0,U3,Hq,TA,fa]at aj;obtain⟨⟨⟨⟨⟨⟨⟨⟨⟨an,cs⟩,bc⟩,bd⟩,be⟩,ad⟩,ae⟩,bf⟩,bg⟩,bh⟩:=aj;split at an;·grind
 ·rename_i q' c0 id ops c1 p hb;cases p;simp[D0]at an;obtain⟨⟨⟨h0,F⟩,h1⟩,L⟩:=an;unfold MI at F;split at F
  ·rename_i o1 o2 bl;simp only[D0,AA5]at F;obtain⟨⟨⟨F,bm⟩,bo⟩,bp⟩:=F;split at F
   ·rename_i g cu s t0 t cv cw bq br bt;simp only[D0,U3,hY,Hq,ABC]at F;obtain⟨⟨⟨⟨⟨⟨rfl,rfl⟩,rfl⟩,rfl⟩,ht⟩,cx⟩,bv⟩:=F;unfold jK at h;split at h
    ·rename_i bw;have bx:vs.length=z.npar:=by rw[<-hv.1];omega
     have hA:=vE bc bd be ad ae bf bg bw bx hr hv;split at h
     ·rename_i st1 b0;split at h;·cases h
      rename_i az;have az:st1.sl.all D.noBx=true:=by grind
      have cy:∀M A x,aC V cl n z.body st1=(M,A)->((M=.nm\/M=.rt)/\x=.ni\/M=.pn x)->jh V cl n z q H.length ((q.caps.map O.s).map (O.ev [] st1.sl)) x A=.ret d H'->Calls P f vs.toArray c (fu K μ H c d H'):=by
       intro M A x b1 af hl;unfold jh at hl;have b3:∃ak ag ds,aC V cl n q.body ⟨((q.caps.map O.s).map (O.ev [] st1.sl)++List.replicate (q.ns-((q.caps.map O.s).map (O.ev [] st1.sl)).length) D.u).set q.rk x,A.hp⟩=(ak,ag)/\(ak=.nm\/ak=.rt)/\cW ⟨A.sl,ag.hp⟩ z.res=some ds/\d=fS ds/\H'=ag.hp:=by grind
       obtain⟨ak,ag,ds,he3,hex3,hds,rfl,rfl⟩:=b3;refine calls_of_wp_defers hf hb (wp_seq (wp_mono (wpIn_wide.1 (oU (m:=0) J X Y ae ad (oI hm J X Y am ae ad) ⟨K,μ,H,c⟩ ⟨hT,hr⟩ [] n q.pre c0 h0 _ st1 .nm _ c b0 rfl hA)) (λe a w p=>?_)));cases e with|ret=>cases p.1|exit id=>cases p.1|panic ch=>obtain⟨_,_,a0,_⟩:=p;grind|goto l=>exact p.elim|outgrown=>exact p.elim|normal=>
       obtain⟨-,L1,N,Q,B,c2,c3⟩:=p;have a1:=J.up hT hr B.nx;have b5:FS ⟨N,Q,st1.hp,w⟩ Z bs N Q (λ_=>none) st1.sl st1.hp a.tmps w:=by
        refine⟨B.hr,.refl _ _ _ _,B.len,B.val,λk t' x y=>?_,λk r e=>(by cases e),λk k' r e=>(by cases e)⟩;rcases B.box k t' x y with e|⟨r,c5,c6,ty,g1,g2,g3,g4,g5⟩;·grind
        have:=TA.1 az _ (lB g2);cases this
       have a4:=vu (loc:=[]) B (λi o vo t' _ e=>by grind) bv (λ_ _=>trivial);refine wp_seq (wp_region_list ?_);rw[bl];have w1:∀y,Region.wanted o1 y=true:=λy=>by simp[Region.wanted,bm]
       have U:∀y,Region.wanted o2 y=true:=λy=>by simp[Region.wanted,bo]
       have e1:(execOp a.eval o1).run P w=.ok (.value (.func (.func q.g) #[] (s.map a.eval))) w:=by simp[execOp,bq,Instr.makeFunc]
       have b8:(a.put (some t) (.func (.func q.g) #[] (s.map a.eval))).eval (.tmp t)=.func (.func q.g) #[] (s.map a.eval):=by simp only[Act.put,Act.eval];simp_all
       have e2:(execOp (a.put (some t) (.func (.func q.g) #[] (s.map a.eval))).eval o2).run P w=.ok (.defer {target:=.fn (.func q.g) (s.map a.eval),args:=#[]}) w:=by simp[execOp,bt,resolve,b8,Deferred.ofValue]
       simp[wpList,w1,U,if_true];left;unfold Oper.wp;rw[e1,Oper.upon_value,br];left;rw[e2,Oper.upon_defer,bp];have ca:fW ⟨N,Q,st1.hp,w⟩ Z bs _ [{target:=.fn (.func q.g) (s.map a.eval),args:=#[]}] st1 (({a.put (some t) (.func (.func q.g) #[] (s.map a.eval))with defers:={target:=.fn (.func q.g) (s.map a.eval),args:=#[]}::(a.put (some t) (.func (.func q.g) #[] (s.map a.eval))).defers}).put none undef) w:=⟨λ_=>none,N,Q,b5.tmp _ (tw ht),by simp[Act.put,AAJ];omega,by simp only[Act.put];grind⟩;have cb:M.good=true:=by rcases af with⟨rfl|rfl,_⟩|rfl<;>rfl
       refine wp_mono (wpIn_wide.1 (oU (m:=0) J X Y ae ad (oI hm J X Y am ae ad) ⟨N,Q,st1.hp,w⟩ ⟨a1,B.hr⟩ _ n _ c1 h1 st1 A M _ w b1 cb ca)) (λe a2 U p=>?_);have a5:∀W G I(v:Value)(u u':FrameMode),FS ⟨N,Q,st1.hp,w⟩ Z bs G I W A.sl A.hp a2.tmps U->VR G I A.hp x v->Rcv u u' x v->u≠.run->Go.settle u'=.returning->a2.defers=[{target:=.fn (.func q.g) (s.map a.eval),args:=#[]}]->Leaves P fn a2.tmps (fu K μ H c (fS ds) ag.hp) a2.defers u U:=by
        intro W G I v u u' C aq hu cd ce ai;rw[ai];have cf:aY G I _ _ _:=⟨a4.1,λj d v e e'=>(a4.2 j d v e e').ext C.nx.ext⟩;have ci:=Za hm J X Y am L (by simp) he3 hex3 (J.up a1 B.hr C.nx) C.hr cf aq hu;obtain⟨S,ar,cj,ck⟩:∃S,P.funcs[q.g]?=some S/\S.body.isSome=true/\S.name≠"runtime.NumGoroutine":=by
         unfold yr at L;split at L;·rename_i S ar;simp only[D0,ABz]at L;refine⟨S,ar,?_,L.2⟩;have:=L.1.1.1.1.1.1.1.1.1.1.1.1;cases cn:S.body with|none=>rw[cn]at this;simp at this|some b=>rfl
         cases L
        refine leaves_cons (f:=q.g) (args:=(s.toList.map a.eval).toArray) cd ?_ ?_;·simp only[invoke];rw[ye ar cj ck];simp[<-Array.toList_map]
        refine ci.mono (λe u2 w3 a6=>?_);cases e with|returned _=>obtain⟨rfl,K3,cq,a7,a8⟩:=a6;show Leaves P fn _ _ [] _ w3;rw[ce];obtain⟨rv,g1,g2⟩:=yG (C.go a7 a8) bh hds;exact⟨rv,g1,K3,cq,a7,(B.nx.trans C.nx).trans a8,g2⟩|_=>exact a6.elim
       have a9:fW ⟨N,Q,st1.hp,w⟩ Z bs fn.ntmps [{target:=.fn _ _,args:=#[]}] A a2 U->x=.ni->Leaves P fn _ _ _ .returning U:=λp E=>by obtain⟨W,G,I,C,_,ai⟩:=p;subst E;exact a5 W G I .nilIface _ _ C (.ni ..) .ret (by simp) rfl ai
       cases e with|normal=>exact a9 p.2 (by rcases af with⟨_,E⟩|E<;>first|exact E|(rw[E]at p;cases p.1))|ret=>exact a9 p.2 (by rcases af with⟨_,E⟩|E<;>first|exact E|(rw[E]at p;cases p.1))|exit id=>rcases af with⟨rfl|rfl,_⟩|rfl<;>cases p.1|panic ch=>
 obtain⟨x',v,a0,rfl,W,G,I,C,_,ai,aq⟩:=p;rcases af with⟨rfl|rfl,_⟩|rfl;·grind
 ·grind
 cases a0;exact a5 W G I v _ _ C aq (.pan x v) (by simp) rfl ai|goto l=>exact p.elim|outgrown=>exact p.elim
      grind
     grind
    grind
   grind
  grind
 grind
variable{a:ab}
theorem Zc{V:au}{cl:FuncId->List D->ab->CR}{q:eY}{n:Nat}{args:List D}{H:ab}{x:D}(h:jK V cl n z q args H=.pan x a):False:=by unfold jK jh at h;grind
def yD{P:Program}{V:au}{T:Kn->World->Prop}{cl:FuncId->List D->ab->CR}(g:P.follows .mixedOrders=true)(h:cm P V T)(i:dI P T cl)(j:gI P T cl)(k:eQ V cl){f:FuncId}{fn:Func}(l:P.funcs[f]?=some fn)(m:km P V fn z x y=true)(o:z.rg=none\/z.rg=some f){n:Nat}{args:List D}{H:ab}{K:Kn}{vs:List Value}(p:T K c)(hr:HR K b H c)(r:aY K b H args vs):(∀d a,cX V cl n z args H=.ret d a->Calls P f vs.toArray c (fu K b H c d a))/\∀q a,cX V cl n z args H=.pan q a->Calls P f vs.toArray c (Cv K b H c q a):=by unfold cX;cases s:z.dfr with
 |none=>
 rcases o with e|e<;>rw[e];·exact Y9 g h i j k l m s e p hr r
 grind[aa1,aa2]|some q=>grind[Zb,Zc]
section
variable{V:au}{cl:FuncId->List D->ab->CR}
def Zd(g:∀(f:FuncId)(args:List D)(H:ab)(d:D)(i:ab),cl f args H=.ret d i->H.length<=i.length){j:af}{q:List D}{st st1:St}{d:D}(h:step V cl q st j=.v d st1):st.hp.length<=st1.hp.length:=by cases j with
 |hal e=>cases h;simp|hbx x n=>obtain⟨a,_⟩:=oW h;simp only[ka]at a;grind|haa w e p=>cases h;simp|mkm=>cases h;simp|st x v n=>
 simp[step]at h;split at h;·obtain⟨a,_⟩:=zg h;exact(Ou (base:=bn 0) a).1
 grind|bsl w len e s p=>obtain⟨a,_⟩:=oW h;exact(Oz a).1|app x y w bytes p=>obtain⟨a,_⟩:=oW h;exact(Ow (base:=bn 0) a).1|mks l c w bytes e p=>obtain⟨a,_⟩:=oW h;exact(Oy a).1|mup t m k v=>obtain⟨a,_⟩:=zg h;exact(Ox (base:=bn 0) a).1|call f b=>obtain⟨a,_⟩:=jH h;grind|calv x b=>
 simp only[step]at h;split at h
 ·split at h;·cases h
  obtain⟨a,_⟩:=jH h;grind
 ·obtain⟨a,_⟩:=jH h;grind
 grind|inv x m b=>
 simp[step]at h;split at h
 ·split at h;·obtain⟨a,_⟩:=jH h;grind
  grind
 grind|pan x=>simp[step,qB]at h;grind|cpl f b=>
 simp[step]at h;split at h
 ·split at h;·obtain⟨a,_⟩:=jH h;grind[Cs]
  grind
 grind|callp f b=>obtain⟨a,_⟩:=jH h;grind|calx f b=>obtain⟨a,_⟩:=jH h;exact g _ _ _ _ _ (Cu a).1|calvx x b=>
 simp only[step]at h;split at h
 ·split at h;·cases h
  obtain⟨a,_⟩:=jH h;exact g _ _ _ _ _ (Ct a).1
 grind|sli r w x lo hi u=>cases r<;>(obtain⟨_,o⟩:=oV h;grind)|_=>
 simp only[step]at h;repeat' split at h
 all_goals first|(obtain⟨_,o⟩:=oV h;rw[o];exact Hk _)|grind
def CT(a:∀(f:FuncId)(args:List D)(H:ab)(d:D)(e:ab),cl f args H=.ret d e->H.length<=e.length){dr:Option (Bs×Bool)}:∀{os:List ae}{g:List D}{b c:St},ops V cl dr os g b=(.nm,c)->b.hp.length<=c.hp.length
 |[],_,_,_,h=>by cases h;omega|o::os,g,b,c,h=>by
  unfold ops at h;split at h
  ·split at h
   ·split at h;·rename_i hs;have:=CT a h;have:=Zd a hs;grind
    ·split at h<;>cases h
    cases h
   grind
  ·have:=CT a h;omega
  grind
def sP(t:∀(f:FuncId)(args:List D)(H:ab)(d:D)(u:ab),cl f args H=.ret d u->H.length<=u.length)(n:Nat):∀(c:aQ)(e i:St)(ex:Ex),aC V cl n c e=(ex,i)->ex.fin=true->e.hp.length<=i.hp.length:=by intro c;induction c with
 |skip=>intro e i ex h _;cases h;omega|ret=>intro e i ex h _;cases h;omega|stuck=>intro e i ex h _;cases h;omega|exit id=>intro e i ex h _;cases h;omega|rng j x=>
 intro e i ex h k;simp[aC]at h;split at h
 ·split at h
  ·split at h;·grind
   rename_i g cap _ _;cases p:cl g (.yl (e.hp.length+1)::cap) _ with
   |ret d v=>rw[p]at h;have:=t _ _ _ _ _ p;simp only[oB]at h;simp only[Rp,fD,kx]at this;split at h<;>first|(cases h;cases k;done)|(cases h;simp only[eh];omega)
   |pan d v=>rw[p]at h;simp only[oB]at h;cases h;cases k|bad=>rw[p]at h;simp only[oB]at h;cases h;cases k
  grind
 grind|reg os y=>intro e i ex h k;have:=aa8 h k;subst this;exact CT t h|seq a b q r=>intro e i ex h k;simp[aC]at h;cases l:aC V cl n a e with|mk o st1=>rw[l]at h;cases o with|nm=>exact gp (q _ _ _ l rfl) (r _ _ _ h k)|_=>grind
 |cond c a b q r=>
 intro e i ex h k;simp[aC]at h;split at h;·exact q _ _ _ h k
 ·exact r _ _ _ h k
 cases h;cases k|block id c s=>intro e i ex h k;simp[aC]at h;cases l:aC V cl n c e with|mk o st1=>rw[l]at h;cases o with|ex z=>simp at h;split at h<;>(cases h;exact s _ _ _ l rfl)|_=>grind
 |loop c s=>
 intro e i ex h k;simp[aC]at h;have:∀(m:Nat)(e:St),iE (aC V cl n c) m e=(ex,i)->e.hp.length<=i.hp.length:=by intro m;induction m with|zero=>intro e h;cases h;cases k|succ m w=>intro e h;simp[iE]at h;cases l:aC V cl n c e with|mk o st1=>rw[l]at h;cases o with|nm=>exact gp (s _ _ _ l rfl) (w _ h)|_=>grind
 grind
def Ze(c:∀(f:FuncId)(args:List D)(H:ab)(d:D)(a:ab),cl f args H=.ret d a->H.length<=a.length){n:Nat}{args:List D}{H:ab}{d:D}(h:eO V cl n z args H=.ret d a):H.length<=a.length:=by
 unfold eO at h;split at h
 ·split at h
  ·rename_i e b;split at h;·cases h;exact sP c n _ _ _ _ b rfl
   grind
  ·rename_i e b;split at h;·cases h;exact sP c n _ _ _ _ b rfl
   grind
  ·cases h
  cases h
 grind
def Zf(c:∀(f:FuncId)(args:List D)(H:ab)(d:D)(a:ab),cl f args H=.ret d a->H.length<=a.length){n:Nat}{args:List D}{H:ab}{d:D}(h:iF V cl n z args H=.ret d a):H.length<=a.length:=by
 unfold iF at h;split at h
 ·split at h
  ·rename_i e b;split at h;·cases h;rw[y8];exact sP c n _ _ _ _ b rfl
   grind
  ·rename_i e b;split at h;·cases h;rw[y8];exact sP c n _ _ _ _ b rfl
   grind
  grind
 grind
def Zg(c:∀(f:FuncId)(args:List D)(H:ab)(d:D)(a:ab),cl f args H=.ret d a->H.length<=a.length){n:Nat}{args:List D}{H:ab}{d:D}(h:ku V cl n args H=.ret d a):H.length<=a.length:=by
 unfold ku at h;split at h
 ·rename_i y i;split at h
  ·rename_i f p j m o x q;split at h
   ·rename_i r s;split at h;·cases e:aC V cl n r.a ⟨gl x r.ps i,H⟩with|mk k st1=>rw[e]at h;cases k with
 |nm=>
  have t:=sP c n _ _ _ _ e rfl;simp[m6]at h;split at h;·rename_i u v w z A B C;cases g:aC V cl n r.b ⟨st1.sl,st1.hp.set y _⟩with|mk b E=>
   rw[g]at h;have l:b.fin=true:=by cases b<;>first|rfl|cases h
   have F:=sP c n _ _ _ _ g l;cases b<;>simp[m5]at h<;>first|grind
  grind|_=>cases h
    grind
   grind
  grind
 grind
def Zh(b:∀(f:FuncId)(args:List D)(H:ab)(d:D)(a:ab),cl f args H=.ret d a->H.length<=a.length){n:Nat}{args:List D}{H:ab}{d:D}(h:cX V cl n z args H=.ret d a):H.length<=a.length:=by
 unfold cX at h;split at h
 ·split at h;·exact Ze b h
  exact Zf b h
 unfold jK jh at h;grind
def MS(d:D)(H:ab):Gr H (jg d H).2:=by cases d<;>first|exact .push _ _|exact .refl _
def MT:∀(ds:List D)(H:ab),Gr H (vg ds H).2|[],_=>.refl _|d::ds,H=>(MS d H).trans (MT ds _)
def MU(d:D)(H:ab):Gr H (lg d H).2:=by cases d<;>first|exact MT _ _|exact MS _ _
def MV:∀(ds:List D)(H:ab),Gr H (vh ds H).2|[],_=>.refl _|d::ds,H=>(MU d H).trans (MV ds _)
def Zi(d:D)(H:ab):Gr H (place d H).2:=by cases d<;>first|exact MV _ _|exact MU _ _
def sQ(V:au)(q:∀(f:FuncId)(args:List D)(H:ab)(d:D)(a:ab),V.ext f args H=some (d,a)->H.length<=a.length):∀n,eQ V (call V n):=by intro n;induction n with|zero=>exact⟨λf args H d a h=>(by cases h),λf args H d a b _ _ h=>(by cases h),λf args H d a b _ _ _ _ h=>(by cases h)⟩|succ n i=>
 have j:∀(f:FuncId)(args:List D)(H:ab)(d:D)(a:ab)(b:aH),V.fn f=some b->b.pure=true->call V (n+1) f args H=.ret d a->Gr H a:=by
  intro f args H d a b c e h;simp[call,c,e]at h;split at h;·cases h
  rename_i ds H1 hfr;split at h
  ·rename_i d1 _;cases h;have g:Gr H (ji b.fre d1 H H1):=by
    unfold ji;split;·exact .refl _
    exact On hfr
   cases r:b.own with|true=>exact g.trans (Zi _ _)|false=>exact g
  ·cases h
  cases h
 refine⟨λf args H d a h=>?_,j,λf args H d a b c e k m h=>?_⟩;rotate_left
 ·simp[call,c,e]at h;split at h;·cases h
  rename_i ds H1 hfr;obtain⟨rfl,o⟩:=(abd bE).2 _ _ _ _ m hfr;split at h
  ·rename_i d1 p;cases h;have g:∀H,ji b.fre d1 H H=H:=λH=>by grind[ji]
   rw[k];refine⟨g _,λl=>?_⟩;simp only[call,c,e,o l,p,k];exact gb _ (g l)
  ·cases h
  cases h
 cases c:V.fn f with
 |none=>
 simp[call,c]at h;split at h;·exact Zg i.le h
 grind|some b=>cases e:b.pure with|true=>exact(j f args H d a b c e h).1|false=>
 simp[call,c,e]at h;split at h;·grind
 exact Zh i.le h
end
end
section
section
variable{V:au}{cl cl':FuncId->List D->ab->CR}
def jL(cl cl':FuncId->List D->ab->CR):Prop:=∀f args H,cl f args H≠.bad->cl' f args H=cl f args H
variable{z:List D}
def vi:∀{r:CR},r.toR z≠.bad->r≠.bad|.ret _ _,_=>nofun|.pan _ _,_=>nofun|.bad,h=>absurd rfl h
theorem CU(b:jL cl cl'){g:af}{a:St}(h:step V cl z a g≠.bad):step V cl' z a g=step V cl z a g:=by cases g with
 |call f c=>simp only[step]at h⊢;rw[b _ _ _ (vi h)]|callp f c=>simp only[step]at h⊢;rw[b _ _ _ (vi h)]|cpl f c=>simp only[step]at h⊢;cases i:V.fn f with|none=>rfl|some j=>
 rw[i]at h;simp only at h⊢;split at h
 ·have:cl f _ a.hp≠.bad:=λe=>by rw[e]at h;exact h rfl
  rw[b _ _ _ this]
 grind|calx f c=>
 simp only[step]at h⊢;have:cl f _ a.hp≠.bad:=λe=>by rw[e]at h;exact h rfl
 rw[b _ _ _ this]|calvx x c=>
 simp only[step]at h⊢;generalize x.ev z a.sl=q at h⊢;split
 ·rename_i f first captured;simp only at h;split;·rfl
  rename_i d;rw[E1 d]at h;have:cl f _ a.hp≠.bad:=λe=>by rw[e]at h;exact h rfl
  rw[b _ _ _ this]
 rfl|calv x c=>
 simp only[step]at h⊢;generalize x.ev z a.sl=q at h⊢;split
 ·simp only at h;split;·rfl
  rename_i d;rw[E1 d]at h;rw[b _ _ _ (vi h)]
 ·rw[b _ _ _ (vi h)]
 rfl|inv x m c=>
 simp only[step]at h⊢;generalize x.ev z a.sl=q at h⊢;split;·rename_i t v;simp only at h⊢;cases d:V.meth t m with|none=>rfl|some f=>rw[d]at h;simp only at h⊢;rw[b _ _ _ (vi h)]
 rfl|_=>rfl
theorem yH(c:jL cl cl'){dr:Option (Bs×Bool)}:∀{os:List ae}{a:List D}{b:St},(ops V cl dr os a b).1≠.bad->ops V cl' dr os a b=ops V cl dr os a b|[],_,_,_=>rfl|o::os,a,b,h=>by unfold ops at h⊢;cases e:o.wants a b.sl with|none=>rfl|some r=>rw[e]at h;cases r with|false=>exact yH c h|true=>cases f:o.op.fits dr a b.sl with|false=>rfl|true=>rw[f]at h;cases hs:step V cl a b o.op with|v d st1=>rw[hs]at h;rw[CU c (by rw[hs];nofun),hs];exact yH c h|p d g=>rw[CU c (by rw[hs];nofun),hs]|bad=>rw[hs]at h;exact absurd rfl h
theorem yI{b d:St->Ex×St}(e:∀a,(b a).1≠.bad->d a=b a):∀(n c:Nat)(a:St),n<=c->(iE b n a).1≠.bad->iE d c a=iE b n a|0,_,_,_,h=>absurd rfl h|n+1,0,_,g,_=>by omega|n+1,c+1,a,g,h=>by simp only[iE]at h⊢;cases f:b a with|mk i j=>
 rw[f]at h;have k:(b a).1≠.bad:=by grind
 rw[e a k,f];cases i with|nm=>exact yI e n c j (by omega) h|_=>rfl
theorem oG(i:jL cl cl'){n f:Nat}(m:n<=f):∀(c:aQ)(d:St),(aC V cl n c d).1≠.bad->aC V cl' f c d=aC V cl n c d:=by intro c;induction c with
 |skip=>intro d _;rfl|ret=>intro d _;rfl|stuck=>intro d _;rfl|rng j x=>intro d h;simp only[aC]at h⊢;cases hr:V.rnd j with|none=>rfl|some r=>
 rw[hr]at h;simp only at h⊢;split
 ·rename_i g cap o;rw[o]at h;simp only at h;by_cases k:g=yF;·grind
  rw[E1 k]at h⊢;rw[E1 k];rw[i _ _ _ (λe=>by rw[e]at h;exact h rfl)]
 rfl|exit id=>intro d _;rfl|reg os s=>intro d h;exact yH i h|seq a b p q=>grind[aC]|cond c a b p q=>grind[aC]|block id c l=>grind[aC]|loop c l=>intro d h;exact yI (λd h=>l d h) n f d m h
variable{x:Nat}{y:aH}
theorem Zk(a:jL cl cl'){n:Nat}(b:n<=x){args:List D}{H:ab}(h:eO V cl n y args H≠.bad):eO V cl' x y args H=eO V cl n y args H:=by grind[eO,oG,aC]
theorem Zl(a:jL cl cl'){n:Nat}(b:n<=x){args:List D}{H:ab}(h:iF V cl n y args H≠.bad):iF V cl' x y args H=iF V cl n y args H:=by grind[iF,oG,aC]
def Zm(a:jL cl cl'){n:Nat}(c:n<=x){y:Nat}{b:aQ}{r:Ex×St}(h:m6 V cl n y b r≠.bad):m6 V cl' x y b r=m6 V cl n y b r:=by obtain⟨d,g⟩:=r;cases d with
 |nm=>
 simp only[m6]at h⊢;split;·rename_i f;rw[f]at h;simp only at h;rw[oG a c];intro e;generalize aC V cl n b _=q at e h;obtain⟨i,j⟩:=q;subst e;exact h rfl
 rfl|_=>rfl
theorem Zn(a:jL cl cl'){n b:Nat}(c:n<=b){args:List D}{H:ab}(h:ku V cl n args H≠.bad):ku V cl' b args H=ku V cl n args H:=by
 unfold ku at h⊢;split
 ·rename_i y d;simp only at h;split;·rename_i f p j l m x g;rw[g]at h;simp only at h;cases hr:V.rnd j with|none=>rfl|some r=>
   rw[hr]at h;simp only at h⊢;split
   ·rename_i i;rw[G1 i]at h;have k:(aC V cl n r.a ⟨gl x r.ps d,H⟩).1≠.bad:=by intro e;generalize aC V cl n r.a _=q at e h;obtain⟨o,s⟩:=q;subst e;exact h rfl
    rw[oG a c _ _ k];exact Zm a c h
   rfl
  rfl
 rfl
theorem Zo(c:jL cl cl'){n b:Nat}(d:n<=b){q:eY}{base:Nat}{x:D}{a:St}(h:jh V cl n y q base z x a≠.bad):jh V cl' b y q base z x a=jh V cl n y q base z x a:=by grind[jh,oG,aC]
theorem Zp(a:jL cl cl'){n:Nat}(b:n<=x){q:eY}{args:List D}{H:ab}(h:jK V cl n y q args H≠.bad):jK V cl' x y q args H=jK V cl n y q args H:=by grind[jK,aC,oG,Zo]
theorem MX(a:jL cl cl'){n:Nat}(b:n<=x){args:List D}{H:ab}(h:cX V cl n y args H≠.bad):cX V cl' x y args H=cX V cl n y args H:=by grind[cX,Zk,Zl,Zp]
theorem Zq(a:jL cl cl'){n:Nat}(b:n<=x){args:List D}(h:mi V cl n y args≠.bad):mi V cl' x y args=mi V cl n y args:=by grind[mi,MX]
theorem Zr(a:jL cl cl'){n:Nat}(b:n<=x){f:FuncId}{args:List D}(h:iG V cl n f y args≠.bad):iG V cl' x f y args=iG V cl n f y args:=by grind[iG,Zq]
theorem sV(V:au):∀n a,n<=a->jL (call V n) (call V a):=by intro n;induction n with|zero=>intro a _ f args H h;exact absurd rfl h|succ n c=>intro a d f args H h;cases a with|zero=>omega|succ a=>simp only[call]at h⊢;cases e:V.fn f with|none=>grind[Zn]|some b=>simp only at h⊢;cases g:b.pure<;>grind[MX,aX,bE,iG,call,Zr]
end
end
section
def abu(V:au)(n a:Nat)(c:n<=a)(f:FuncId)(args:List D)(H:ab)(d:D)(b:ab)(h:call V n f args H=.ret d b):call V a f args H=.ret d b:=by rw[sV V n a c f args H (by grind),h]
def bI(V:au)(f:FuncId)(args:List D)(H:ab)(d:D)(a:ab):Prop:=∃N,∀n,N<=n->call V n f args H=.ret d a
def bI.of{V:au}{n:Nat}{f:FuncId}{args:List D}{H:ab}{d:D}{a:ab}(h:call V n f args H=.ret d a):bI V f args H d a:=⟨n,λm b=>abu V n m b _ _ _ _ _ h⟩
def ai(V:au)(f:FuncId)(ds:List D)(d:D):Prop:=∃n,iH V n f ds=.ret d
def OI(b:Bool)(d:D)(H:ab):ji b d H H=H:=by grind[ji]
def bI.pure0{V:au}{f:FuncId}{a:aH}{args ds:List D}{H H1:ab}{d:D}(b:V.fn f=some a)(c:a.pure=true)(e:aX bE H args=some (ds,H1))(h:ai V f ds d):bI V f args H (dV a.own d (ji a.fre d H H1)).1 (dV a.own d (ji a.fre d H H1)).2:=by obtain⟨n,h⟩:=h;cases n with|zero=>cases h|succ n=>refine .of (n:=n+1) ?_;grind[iH,call]
theorem bI.pure{V:au}{f:FuncId}{a:aH}{args ds:List D}{H H1:ab}{d:D}(b:V.fn f=some a)(c:a.pure=true)(e:aX bE H args=some (ds,H1))(h:ai V f ds d)(g:a.fre=false:=by first|rfl|assumption):bI V f args H (dV a.own d H1).1 (dV a.own d H1).2:=by have:=bI.pure0 b c e h;rwa[g]at this
inductive Sl(w:Nat)(rows:List (List D)):D->Prop|nil(h:rows=[]):Sl w rows .nil|z(h:rows=[]):Sl w rows .z|im:Sl w rows (.im w rows)
section
variable{w:Nat}{rows:List (List D)}{x:D}{H:ab}
theorem Sl.len(h:Sl w rows x):dj H 1 x=some (.i .i64 rows.length):=by cases h with|nil h=>subst h;rfl|z h=>subst h;rfl|im=>rfl
def Sl.cont(h:Sl w rows x):eZ H w x=some rows:=by cases h with|nil h=>subst h;rfl|z h=>subst h;rfl|im=>simp[eZ]
end
section
variable{V:au}{cl:FuncId->List D->ab->CR}{dr:Option (Bs×Bool)}{n:Nat}
def DH(a:Bool):D->Option Bool|.b y=>some (y==a)|.u=>some false|_=>none
def abv(a:af)(keep:Option Nat)(x:O)(w:Bool)(loc sl:List D):(⟨a,keep,some (x,w)⟩:ae).wants loc sl=DH w (x.ev loc sl):=by simp[ae.wants];cases x.ev loc sl<;>rfl
def abw(a:af)(loc sl:List D):a.fits none loc sl=true:=rfl
def OJ(b:aH):Ex×St->CR
 |(.nm,a)|(.rt,a)=>match cW a b.res with|some ds=>.ret (fS ds) a.hp|none=>.bad
 |(.pn d,a)=>.pan d a.hp|_=>.bad
def abx(a:aH)(args:List D)(H:ab)(h:args.length=a.npar):eO V cl n a args H=OJ a (aC V cl n a.body ⟨args++List.replicate (a.nsl-a.npar) .u,H⟩):=by unfold eO;rw[G1 h];generalize aC V cl n _ _=r;obtain⟨e,s⟩:=r;cases e<;>rfl
def DI(cl:FuncId->List D->ab->CR)(args:List D)(a:St):D->R|.fn (.func f) first b=>if f=yF then .bad else(cl f (first++args++b) a.hp).toR a.sl|.yl y=>(cl yF (.yl y::args) a.hp).toR a.sl|_=>.bad
def aby(x:O)(d:List O)(loc:List D)(c:St):step V cl loc c (.calv x d)=DI cl (d.map (O.ev loc c.sl)) c (x.ev loc c.sl):=by simp only[step];cases x.ev loc c.sl with|fn f a b=>cases f<;>rfl|_=>rfl
def OK{f:Nat}(h:f<4294967295):f≠yF:=λe=>by subst e;exact absurd h (AAp _)
section
variable(loc sl:List D)(H:ab)
def OL(i:Nat):(O.l i).ev loc sl=loc.getD i .u:=rfl
def abz(i:Nat):(O.s i).ev loc sl=sl.getD i .u:=rfl
def abA(d:D):(O.c d).ev loc sl=d:=rfl
def OM(k:Nat):Option D->Option (Nat×Nat)|some (.bx _)=>some (k,0)|_=>none
def ON:Option D->Option (Nat×Nat)|some (.lp k a)=>some (k,a)|_=>none
def abB(k:Nat):(AB.sl k).ev loc sl=OM k sl[k]?:=by simp[AB.ev];cases sl[k]? with|none=>rfl|some d=>cases d<;>rfl
def abC(i:Nat):(AB.lo i).ev loc sl=ON loc[i]?:=by simp[AB.ev];cases loc[i]? with|none=>rfl|some d=>cases d<;>rfl
def abD(k:Nat)(a:List D):OM k (some (.bx a))=some (k,0):=rfl
def abE(k a:Nat):ON (some (.lp k a))=some (k,a):=rfl
theorem OO(a:St)(d:D):aA a (some d)=.v d a:=rfl
def abF(sl:List D)(H a:ab)(d:D):gk ⟨sl,H⟩ (some (d,a))=.v d ⟨sl,a⟩:=rfl
def abG(sl:List D)(H a:ab):hZ ⟨sl,H⟩ (some a)=.v .u ⟨sl,a⟩:=rfl
variable{V:au}{cl:FuncId->List D->ab->CR}
def abH(x:O):step V cl loc ⟨sl,H⟩ (.mov x)=.v (x.ev loc sl) ⟨sl,H⟩:=rfl
def abI(c a b:O):step V cl loc ⟨sl,H⟩ (.pick c a b)=aA ⟨sl,H⟩ (sJ (c.ev loc sl) (a.ev loc sl) (b.ev loc sl)):=rfl
def abJ(a b:D):sJ (.b true) a b=some a:=rfl
def abK(a b:D):sJ (.b false) a b=some b:=rfl
def abM(a:List D):step V cl loc ⟨sl,H⟩ (.lal a)=.v (.bx a) ⟨sl,H⟩:=rfl
def abN(x:O)(n:Nat):step V cl loc ⟨sl,H⟩ (.lbx x n)=aA ⟨sl,H⟩ (((x.ev loc sl).cellsN n).map .bx):=rfl
def abO(t:Nat)(a:List D):step V cl loc ⟨sl,H⟩ (.hal t a)=.v (.hp H.length 0) ⟨sl,H++[.hb t a]⟩:=rfl
def abP(t:Nat)(x:O)(n:Nat):step V cl loc ⟨sl,H⟩ (.hbx t x n)=gk ⟨sl,H⟩ (((x.ev loc sl).cellsN n).map λa=>(.hp H.length 0,H++[.hb t a])):=rfl
def abQ(w:Nat)(a:List (List D))(p:Bool):step V cl loc ⟨sl,H⟩ (.haa w a p)=.v (.aa H.length) ⟨sl,H++[.ar w a (some a.length) p false]⟩:=rfl
def DJ(a:St)(b:Nat):Option (Nat×Nat)->R|some (k,o)=>.v (.lp k (o+b)) a|none=>.bad
def abR(a:AB)(b:Nat):step V cl loc ⟨sl,H⟩ (.lfa a b)=DJ ⟨sl,H⟩ b (a.ev loc sl):=by simp[step];cases a.ev loc sl<;>rfl
def abT(a:St)(b k o:Nat):DJ a b (some (k,o))=.v (.lp k (o+b)) a:=rfl
def abU(a:St)(w:Nat):Option (Nat×Nat)->Option Nat->R|some (k,o),some j=>.v (.lp k (o+j*w)) a|_,_=>.bad
def abV(a:St)(w k o j:Nat):abU a w (some (k,o)) (some j)=.v (.lp k (o+j*w)) a:=rfl
def zp(a:St)(n:Nat)(b:Bool):Option (Nat×Nat)->R
 |some (k,o)=>match fB a k with
  |some c=>match dS c o n with|some r=>aA a (val b r)|none=>.bad
  |none=>.bad
 |none=>.bad
def DK(a:St)(o n:Nat)(b:Bool):Option D->R
 |some (.bx c)=>match dS c o n with|some r=>aA a (val b r)|none=>.bad
 |_=>.bad
def OP(a:St)(b:Bool):Option (List D)->R|some r=>aA a (val b r)|none=>.bad
def abW(a:AB)(n:Nat)(b:Bool):step V cl loc ⟨sl,H⟩ (.lld a n b)=zp ⟨sl,H⟩ n b (a.ev loc sl):=by simp[step];cases a.ev loc sl<;>rfl
def abX(n:Nat)(a:Bool)(k o:Nat):zp ⟨sl,H⟩ n a (some (k,o))=DK ⟨sl,H⟩ o n a sl[k]?:=by simp[zp,fB];cases sl[k]? with|none=>rfl|some d=>cases d<;>rfl
def abY(b:St)(o n:Nat)(c:Bool)(a:List D):DK b o n c (some (.bx a))=OP b c (dS a o n):=by simp[DK];cases dS a o n<;>rfl
def abZ(a:St)(b:Bool)(r:List D):OP a b (some r)=aA a (val b r):=rfl
def vJ(sl:List D)(H:ab):Option (Nat×Nat)->Option (List D)->R
 |some (k,o),some vs=>match fB ⟨sl,H⟩ k with
  |some a=>match cA a o vs with|some b=>.v .u ⟨sl.set k (.bx b),H⟩|none=>.bad
  |none=>.bad
 |_,_=>.bad
def DL(sl:List D)(H:ab)(k o:Nat)(vs:List D):Option D->R
 |some (.bx a)=>match cA a o vs with|some b=>.v .u ⟨sl.set k (.bx b),H⟩|none=>.bad
 |_=>.bad
def OQ(sl:List D)(H:ab)(k:Nat):Option (List D)->R|some a=>.v .u ⟨sl.set k (.bx a),H⟩|none=>.bad
def ab0(a:AB)(x:O)(n:Nat):step V cl loc ⟨sl,H⟩ (.lst a x n)=vJ sl H (a.ev loc sl) ((x.ev loc sl).cellsN n):=by simp[step];cases a.ev loc sl with|none=>cases(x.ev loc sl).cellsN n<;>rfl|some q=>cases(x.ev loc sl).cellsN n<;>grind[vJ]
def ab1(k o:Nat)(vs:List D):vJ sl H (some (k,o)) (some vs)=DL sl H k o vs sl[k]?:=by simp[vJ,fB];cases sl[k]? with|none=>rfl|some d=>cases d<;>rfl
def ab2(k o:Nat)(vs a:List D):DL sl H k o vs (some (.bx a))=OQ sl H k (cA a o vs):=by simp[DL];cases cA a o vs<;>rfl
def ab3(k:Nat)(a:List D):OQ sl H k (some a)=.v .u ⟨sl.set k (.bx a),H⟩:=rfl
def ab4(x:O)(a:Nat):step V cl loc ⟨sl,H⟩ (.fad x a)=aA ⟨sl,H⟩ (mV (x.ev loc sl) a):=rfl
def ab5(b o a:Nat):mV (.hp b o) a=some (.hp b (o+a)):=rfl
def ab6(a n i o b:Nat):mV (.ap a n i o) b=some (.ap a n i (o+b)):=rfl
def ab7(a:List D)(b:Nat):mV (.ip a) b=if b<=a.length then some (.ip (a.drop b))else none:=rfl
def ab8(x a:O)(w:Nat):step V cl loc ⟨sl,H⟩ (.iad x a w)=aA ⟨sl,H⟩ (cJ H (x.ev loc sl) (a.ev loc sl) w):=rfl
def ab9(x a:O)(n w:Nat):step V cl loc ⟨sl,H⟩ (.iar x a n w)=aA ⟨sl,H⟩ (mg H (x.ev loc sl) (a.ev loc sl) n w):=rfl
def lE(a:St)(b:Bool):Option (List D)->R|some r=>aA a (val b r)|none=>.bad
def aca(x:O)(n:Nat)(a:Bool):step V cl loc ⟨sl,H⟩ (.ld x n a)=lE ⟨sl,H⟩ a (cN H (x.ev loc sl) n):=by simp[step];cases cN H _ n<;>rfl
def acb(x:O)(n:Nat)(a:Bool):step V cl loc ⟨sl,H⟩ (.ldh x n a)=lE ⟨sl,H⟩ a (ko H (x.ev loc sl) n):=by simp[step];cases ko H _ n<;>rfl
def acd(b a n:Nat):ko H (.hp b a) n=cN H (.hp b a) n:=rfl
def ace(a:St)(b:Bool)(r:List D):lE a b (some r)=aA a (val b r):=rfl
def acf(a:List D)(n:Nat):cN H (.ip a) n=dS a 0 n:=rfl
def OR(a n:Nat):Option an->Option (List D)|some (.hb _ b)=>dS b a n|_=>none
def acg(b a n:Nat):cN H (.hp b a) n=OR a n H[b]?:=by simp[cN];cases H[b]? with|none=>rfl|some d=>cases d<;>rfl
def ach(a n t:Nat)(b:List D):OR a n (some (.hb t b))=dS b a n:=rfl
def OS(a:List D):val true a=some (.ag a):=rfl
def aci(d:D):val false [d]=some d:=rfl
def DM(sl:List D)(H:ab)(x:D):Option (List D)->R|some vs=>hZ ⟨sl,H⟩ (fR H x vs)|none=>.bad
def acj(x v:O)(n:Nat):step V cl loc ⟨sl,H⟩ (.st x v n)=DM sl H (x.ev loc sl) ((v.ev loc sl).cellsN n):=by simp[step];cases(v.ev loc sl).cellsN n<;>rfl
def ack(x:D)(vs:List D):DM sl H x (some vs)=hZ ⟨sl,H⟩ (fR H x vs):=rfl
def acl(a:BinOp)(x y:O):step V cl loc ⟨sl,H⟩ (.bin a x y)=aA ⟨sl,H⟩ (bin a (x.ev loc sl) (y.ev loc sl)):=rfl
def acm(k:IntKind)(x y:Int):bin .add (.i k x) (.i k y)=some (.i k (k.wrap (x+y))):=by simp[bin,i9]
def acn(k:IntKind)(x y:Int):bin .sub (.i k x) (.i k y)=some (.i k (k.wrap (x-y))):=by simp[bin,i9]
def aco(k:IntKind)(x y:Int):bin .mul (.i k x) (.i k y)=some (.i k (k.wrap (x*y))):=by simp[bin,i9]
def acp(k:IntKind)(x y:Int):bin .lss (.i k x) (.i k y)=some (.b (decide (x<y))):=by simp[bin,i9]
def acq(k:IntKind)(x y:Int):bin .leq (.i k x) (.i k y)=some (.b (decide (x<=y))):=by simp[bin,i9]
def acr(k:IntKind)(x y:Int):bin .gtr (.i k x) (.i k y)=some (.b (decide (y<x))):=by simp[bin,i9]
def acs(k:IntKind)(x y:Int):bin .geq (.i k x) (.i k y)=some (.b (decide (y<=x))):=by simp[bin,i9]
def act(k:IntKind)(x y:Int):bin .eql (.i k x) (.i k y)=some (.b (decide (x=y))):=by grind[bin,i9]
def acu(k:IntKind)(x y:Int):bin .neq (.i k x) (.i k y)=some (.b (!decide (x=y))):=by grind[bin,i9]
def acv(x y:List UInt8):bin .eql (.s x) (.s y)=some (.b (decide (x=y))):=by grind[bin,uV]
def acw(x y:List UInt8):bin .neq (.s x) (.s y)=some (.b (!decide (x=y))):=by grind[bin,uV]
def acx(neg:Bool)(k:EK)(x y:O):step V cl loc ⟨sl,H⟩ (.eqv neg k x y)=aA ⟨sl,H⟩ (eF neg k (x.ev loc sl) (y.ev loc sl)):=rfl
def acy(neg x y:Bool):eF neg .b (.b x) (.b y)=some (.b ((x==y)!=neg)):=rfl
def acz(a:UnOp)(x:O):step V cl loc ⟨sl,H⟩ (.un a x)=aA ⟨sl,H⟩ (un a (x.ev loc sl)):=rfl
def acA(x:Bool):un .not (.b x)=some (.b (!x)):=rfl
def acB(k:IntKind)(n:Int):un .neg (.i k n)=some (.i k (k.wrap (0-n))):=rfl
def acC(k:IntKind)(x:O):step V cl loc ⟨sl,H⟩ (.cvi k x)=aA ⟨sl,H⟩ (sK k (x.ev loc sl)):=rfl
def acD(k a:IntKind)(n:Int):sK k (.i a n)=some (.i k (k.wrap n)):=rfl
def acE(l:List UInt8):YZ (.s l)=some (.s l):=rfl
def acF(a:List D)(b:List (Nat×Nat×O)):step V cl loc ⟨sl,H⟩ (.agc a b)=aA ⟨sl,H⟩ ((jb a (b.map λp=>(p.1,p.2.1,p.2.2.ev loc sl))).map .ag):=rfl
def DN(a:Nat)(b:List D)(c:List (Nat×Nat×D)):Option (List D)->Option (List D)
 |some vs=>match cA b a vs with|some d=>jb d c|none=>none
 |none=>none
def OT(a:List (Nat×Nat×D)):Option (List D)->Option (List D)|some b=>jb b a|none=>none
def acG(a:List D):jb a []=some a:=rfl
def acH(a:List D)(b n:Nat)(v:D)(c:List (Nat×Nat×D)):jb a ((b,n,v)::c)=DN b a c (v.cellsN n):=by rw[jb];cases v.cellsN n<;>rfl
def acI(a:Nat)(b vs:List D)(c:List (Nat×Nat×D)):DN a b c (some vs)=OT c (cA b a vs):=by simp[DN];cases cA b a vs<;>rfl
def acJ(a:List D)(b:List (Nat×Nat×D)):OT b (some a)=jb a b:=rfl
def acK(w n:Nat)(a:List D)(b:List (Nat×O))(p:Bool):step V cl loc ⟨sl,H⟩ (.bsl w n a b p)=gk ⟨sl,H⟩ (mY H w n a (b.map λq=>(q.1,q.2.ev loc sl)) p):=rfl
def acL(w n:Nat)(a:List D)(b:List (Nat×O)):step V cl loc ⟨sl,H⟩ (.bsv w n a b)=aA ⟨sl,H⟩ (oA w n a (b.map λq=>(q.1,q.2.ev loc sl))):=rfl
def acM(k:Nat)(x:O):step V cl loc ⟨sl,H⟩ (.len k x)=aA ⟨sl,H⟩ (dj H k (x.ev loc sl)):=rfl
def acN(l:List UInt8):dj H 0 (.s l)=some (.i .i64 l.length):=rfl
def acO:dj H 1 .nil=some (.i .i64 0):=rfl
def acP:dj H 1 .z=some (.i .i64 0):=rfl
def acQ(w:Nat)(rows:List (List D)):dj H 1 (.im w rows)=some (.i .i64 rows.length):=rfl
def acR(w:Nat)(rows:List (List D)):dj H 1 (.sv w rows)=some (.i .i64 rows.length):=rfl
def acS(a n b len:Nat):dj H 1 (.mu a n b len)=some (.i .i64 len):=rfl
def acT(x y:O)(w bytes:Nat)(p:Bool):step V cl loc ⟨sl,H⟩ (.app x y w bytes p)=gk ⟨sl,H⟩ (bu H (x.ev loc sl) (y.ev loc sl) w bytes p):=rfl
def acU(l c:O)(w bytes:Nat)(a:List D)(p:Bool):step V cl loc ⟨sl,H⟩ (.mks l c w bytes a p)=gk ⟨sl,H⟩ (mZ H (l.ev loc sl) (c.ev loc sl) w bytes a p):=rfl
def acV(w:Nat)(x:O)(lo hi a:Option O):step V cl loc ⟨sl,H⟩ (.sli false w x lo hi a)=aA ⟨sl,H⟩ (dc H w (x.ev loc sl) (lo.map (O.ev loc sl)) (hi.map (O.ev loc sl)) (a.map (O.ev loc sl))):=rfl
def acW(x:O)(n w:Nat)(lo hi:Option O):step V cl loc ⟨sl,H⟩ (.sla x n w lo hi)=aA ⟨sl,H⟩ (qC H (x.ev loc sl) n w (lo.map (O.ev loc sl)) (hi.map (O.ev loc sl))):=rfl
def acX(x a:O):step V cl loc ⟨sl,H⟩ (.ixs x a)=aA ⟨sl,H⟩ (qD (x.ev loc sl) (a.ev loc sl)):=rfl
def DO(a:Bool):Option (List D)->Option D|some r=>val a r|none=>none
def acY(a:Bool)(r:List D):DO a (some r)=val a r:=rfl
def acZ(g:Nat)(a:O)(n:Nat)(w:Nat):step V cl loc ⟨sl,H⟩ (.gia g a n w)=aA ⟨sl,H⟩ (mX (V.glob g) (a.ev loc sl) n w):=rfl
def ac0{g ix n w}:(af.gia g ix n w).reads=[]:=rfl
def ac1{g ix n w}:(af.gia g ix n w).writes=[]:=rfl
def ac2(x:O)(a:O)(n:Nat)(w:Nat)(b:Bool):step V cl loc ⟨sl,H⟩ (.ixa x a n w b)=aA ⟨sl,H⟩ (ox (x.ev loc sl) (a.ev loc sl) n w b):=rfl
def ac3(a:List D)(w:Nat)(b:Bool):Option Nat->Option D|some j=>DO b (dS a (j*w) w)|none=>none
def ac4(a:List D)(w j:Nat)(b:Bool):ac3 a w b (some j)=DO b (dS a (j*w) w):=rfl
def ac5(x:O)(j:Nat):step V cl loc ⟨sl,H⟩ (.ext x j)=aA ⟨sl,H⟩ (sM (x.ev loc sl) j):=rfl
def ac6(vs:List D)(j:Nat):sM (.tu vs) j=vs[j]?:=rfl
def ac7(f:Fn)(a b:List O):step V cl loc ⟨sl,H⟩ (.mkf f a b)=.v (.fn f (a.map (O.ev loc sl)) (b.map (O.ev loc sl))) ⟨sl,H⟩:=rfl
def ac8:step V cl loc ⟨sl,H⟩ .mkm=.v (.mp H.length) ⟨sl,H++[.mp []]⟩:=rfl
def ac9(a:KK)(m k:O)(b:Bool)(zero:D):step V cl loc ⟨sl,H⟩ (.lk a m k b zero)=aA ⟨sl,H⟩ (mh H a (m.ev loc sl) (k.ev loc sl) b zero):=rfl
def ada(a:KK)(m k v:O):step V cl loc ⟨sl,H⟩ (.mup a m k v)=hZ ⟨sl,H⟩ (m4 H a (m.ev loc sl) (k.ev loc sl) (v.ev loc sl)):=rfl
def adb(t:TypeId)(x:O):step V cl loc ⟨sl,H⟩ (.mki t x)=.v (.ifc t (x.ev loc sl)) ⟨sl,H⟩:=rfl
def adc(x:O)(t:TypeId)(a:Bool)(zero:D):step V cl loc ⟨sl,H⟩ (.tas x t a zero)=aA ⟨sl,H⟩ (sO (x.ev loc sl) t a zero):=rfl
def ade(x:O):step V cl loc ⟨sl,H⟩ (.nck x)=aA ⟨sl,H⟩ (mW (x.ev loc sl)):=rfl
def adf(b o:Nat):mW (.hp b o)=some (.hp b o):=rfl
def adg(a:Nat):mW (.aa a)=some (.aa a):=rfl
def adh(a:List D):mW (.ip a)=some (.ip a):=rfl
def adi(a n i o:Nat):mW (.ap a n i o)=some (.ap a n i o):=rfl
def adj(a:List O):step V cl loc ⟨sl,H⟩ (.mx a)=aA ⟨sl,H⟩ (jd qw (a.map (O.ev loc sl))):=rfl
def adk(a:List O):step V cl loc ⟨sl,H⟩ (.mn a)=aA ⟨sl,H⟩ (jd qx (a.map (O.ev loc sl))):=rfl
def adl(k:IntKind)(x y:Int):jd qw [.i k x,.i k y]=some (.i k (max x y)):=by grind[jd,sH,qw]
def adm(k:IntKind)(x y:Int):jd qx [.i k x,.i k y]=some (.i k (min x y)):=by grind[jd,sH,qx]
def adn(a:List D)(n:Nat):(D.ag a).cellsN n=if a.length=n then some a else none:=rfl
def ado(l:List UInt8):(D.s l).cellsN 1=some [.s l]:=rfl
def adp(k:IntKind)(n:Int):(D.i k n).cellsN 1=some [.i k n]:=rfl
def adq(x:Bool):(D.b x).cellsN 1=some [.b x]:=rfl
def adr:D.nil.cellsN 1=some [.nil]:=rfl
def ads:D.z.cellsN 1=some [.z]:=rfl
def adt(w:Nat)(rows:List (List D)):(D.im w rows).cellsN 1=some [.im w rows]:=rfl
def adu(w:Nat)(rows:List (List D)):(D.sv w rows).cellsN 1=some [.sv w rows]:=rfl
def adv(a n b len:Nat):(D.mu a n b len).cellsN 1=some [.mu a n b len]:=rfl
def adw(b a:Nat):(D.hp b a).cellsN 1=some [.hp b a]:=rfl
def adx(m:Nat):(D.mp m).cellsN 1=some [.mp m]:=rfl
def ady(f:Fn)(a b:List D):(D.fn f a b).cellsN 1=some [.fn f a b]:=rfl
def adz:D.np.cellsN 1=some [.np]:=rfl
def vK(a:List cU)(b:St):Option D->Option (List D)
 |some d=>match cW b a with|some ds=>some (d::ds)|none=>none
 |none=>none
def OU(d:D):Option (List D)->Option (List D)|some ds=>some (d::ds)|none=>none
def adA(a:St):cW a []=some []:=rfl
def adB(a:St)(r:cU)(b:List cU):cW a (r::b)=vK b a (r.ev a):=by rw[cW];cases r.ev a<;>rfl
def adC(a:List cU)(b:St)(d:D):vK a b (some d)=OU d (cW b a):=by simp[vK];cases cW b a<;>rfl
def adD(d:D)(ds:List D):OU d (some ds)=some (d::ds):=rfl
def adE(k:Nat):cU.ev ⟨sl,H⟩ (.s k)=sl[k]?:=rfl
def OV(n:Nat)(b:Bool):Option D->Option D|some (.bx a)=>if a.length=n then val b a else none|_=>none
def adF(k n:Nat)(a:Bool):cU.ev ⟨sl,H⟩ (.bx k n a)=OV n a sl[k]?:=by simp[cU.ev,fB];cases sl[k]? with|none=>rfl|some d=>cases d<;>rfl
def adG(n:Nat)(b:Bool)(a:List D):OV n b (some (.bx a))=if a.length=n then val b a else none:=rfl
def adH(d:D):fS [d]=d:=rfl
def adI(d e:D)(ds:List D):fS (d::e::ds)=.tu (d::e::ds):=rfl
end
end
section
variable(loc sl:List D)
def adJ(a:af)(b:Bs):a.fits (some (b,false)) loc sl=a.reads.all λx=>(x.ev loc sl).under b:=rfl
def adK(a:af)(b:Bs):a.fits (some (b,true)) loc sl=((a.reads.all λx=>(x.ev loc sl).under b)&&a.writes.all λx=>(x.ev loc sl).over b):=rfl
def adL{x}:(af.mov x).reads=[]:=rfl
def adM{x}:(af.mov x).writes=[]:=rfl
def adN{c}{a}{b}:(af.pick c a b).reads=[]:=rfl
def adO{c}{a}{b}:(af.pick c a b).writes=[]:=rfl
def adP{zs}:(af.lal zs).reads=[]:=rfl
def adQ{zs}:(af.lal zs).writes=[]:=rfl
def adR{x}{n}:(af.lbx x n).reads=[]:=rfl
def adS{x}{n}:(af.lbx x n).writes=[]:=rfl
def adT{t}{zs}:(af.hal t zs).reads=[]:=rfl
def adU{t}{zs}:(af.hal t zs).writes=[]:=rfl
def adV{t}{x}{n}:(af.hbx t x n).reads=[]:=rfl
def adW{t}{x}{n}:(af.hbx t x n).writes=[]:=rfl
def adX{w}{zs}{p}:(af.haa w zs p).reads=[]:=rfl
def adY{w}{zs}{p}:(af.haa w zs p).writes=[]:=rfl
def adZ{a}{o}:(af.lfa a o).reads=[]:=rfl
def ad0{a}{o}:(af.lfa a o).writes=[]:=rfl
def ad1{a}{n}{g}:(af.lld a n g).reads=[]:=rfl
def ad2{a}{n}{g}:(af.lld a n g).writes=[]:=rfl
def ad3{a}{x}{n}:(af.lst a x n).reads=[]:=rfl
def ad4{a}{x}{n}:(af.lst a x n).writes=[]:=rfl
def ad5{x}{o}:(af.fad x o).reads=[]:=rfl
def ad6{x}{o}:(af.fad x o).writes=[]:=rfl
def ad7{o}{x}{y}:(af.bin o x y).reads=[]:=rfl
def ad8{o}{x}{y}:(af.bin o x y).writes=[]:=rfl
def ad9{n}{k}{x}{y}:(af.eqv n k x y).reads=[]:=rfl
def aea{n}{k}{x}{y}:(af.eqv n k x y).writes=[]:=rfl
def aeb{o}{x}:(af.un o x).reads=[]:=rfl
def aec{o}{x}:(af.un o x).writes=[]:=rfl
def aed{k}{x}:(af.cvi k x).reads=[]:=rfl
def aee{k}{x}:(af.cvi k x).writes=[]:=rfl
def aef{zs}{ps}:(af.agc zs ps).reads=[]:=rfl
def aeg{zs}{ps}:(af.agc zs ps).writes=[]:=rfl
def aeh{w}{n}{zs}{ps}{p}:(af.bsl w n zs ps p).reads=[]:=rfl
def aei{w}{n}{zs}{ps}{p}:(af.bsl w n zs ps p).writes=[]:=rfl
def aej{w}{n}{zs}{ps}:(af.bsv w n zs ps).reads=[]:=rfl
def aek{w}{n}{zs}{ps}:(af.bsv w n zs ps).writes=[]:=rfl
def ael{l}{c}{w}{b}{zs}{p}:(af.mks l c w b zs p).reads=[]:=rfl
def aem{l}{c}{w}{b}{zs}{p}:(af.mks l c w b zs p).writes=[]:=rfl
def aen{x}{i}:(af.ixs x i).reads=[]:=rfl
def aeo{x}{i}:(af.ixs x i).writes=[]:=rfl
def aep:af.stk.reads=[]:=rfl
def aeq:af.stk.writes=[]:=rfl
def aer{x ix}{n}{w}{g}:(af.ixa x ix n w g).reads=[]:=rfl
def aes{x ix}{n}{w}{g}:(af.ixa x ix n w g).writes=[]:=rfl
def aet{f}{l}:(af.cpl f l).reads=[]:=rfl
def aeu{f}{l}:(af.cpl f l).writes=[]:=rfl
def aev{f}{l}:(af.calx f l).reads=[]:=rfl
def aew{f}{l}:(af.calx f l).writes=[]:=rfl
def aex{x}{l}:(af.calvx x l).reads=[]:=rfl
def aey{x}{l}:(af.calvx x l).writes=[]:=rfl
def aez{f}{l}:(af.callp f l).reads=[]:=rfl
def aeA{f}{l}:(af.callp f l).writes=[]:=rfl
def aeB{x}{j}:(af.ext x j).reads=[]:=rfl
def aeC{x}{j}:(af.ext x j).writes=[]:=rfl
def aeD{f}{a}{b}:(af.mkf f a b).reads=[]:=rfl
def aeE{f}{a}{b}:(af.mkf f a b).writes=[]:=rfl
def aeF:(af.mkm).reads=[]:=rfl
def aeG:(af.mkm).writes=[]:=rfl
def aeH{t}{x}:(af.mki t x).reads=[]:=rfl
def aeI{t}{x}:(af.mki t x).writes=[]:=rfl
def aeJ{x}{t}{o}{q}:(af.tas x t o q).reads=[]:=rfl
def aeK{x}{t}{o}{q}:(af.tas x t o q).writes=[]:=rfl
def aeL{x}:(af.nck x).reads=[]:=rfl
def aeM{x}:(af.nck x).writes=[]:=rfl
def aeN{l}:(af.mx l).reads=[]:=rfl
def aeO{l}:(af.mx l).writes=[]:=rfl
def aeP{l}:(af.mn l).reads=[]:=rfl
def aeQ{l}:(af.mn l).writes=[]:=rfl
def aeR{f}{l}:(af.call f l).reads=[]:=rfl
def aeS{f}{l}:(af.call f l).writes=[]:=rfl
def aeT{x}{l}:(af.calv x l).reads=[]:=rfl
def aeU{x}{l}:(af.calv x l).writes=[]:=rfl
def aeV{x}{m}{l}:(af.inv x m l).reads=[]:=rfl
def aeW{x}{m}{l}:(af.inv x m l).writes=[]:=rfl
def aeX{x}:(af.pan x).reads=[]:=rfl
def aeY{x}:(af.pan x).writes=[]:=rfl
def aeZ{x}{n}{g}:(af.ld x n g).reads=[x]:=rfl
def ae0{x}{n}{g}:(af.ldh x n g).reads=[]:=rfl
def ae1{x}{n}{g}:(af.ldh x n g).writes=[]:=rfl
def ae2{x}{n}{g}:(af.ld x n g).writes=[]:=rfl
def ae3{x}{i}{w}:(af.iad x i w).reads=[x]:=rfl
def ae4{x}{i}{w}:(af.iad x i w).writes=[]:=rfl
def ae5{x}{i}{n}{w}:(af.iar x i n w).reads=[x]:=rfl
def ae6{x}{i}{n}{w}:(af.iar x i n w).writes=[]:=rfl
def ae7{s}{w}{x}{a}{b}{c}:(af.sli s w x a b c).reads=[x]:=rfl
def ae8{s}{w}{x}{a}{b}{c}:(af.sli s w x a b c).writes=[]:=rfl
def ae9{x}{n}{w}{a}{b}:(af.sla x n w a b).reads=[x]:=rfl
def afa{x}{n}{w}{a}{b}:(af.sla x n w a b).writes=[]:=rfl
def afb{kk}{x}{k}{o}{q}:(af.lk kk x k o q).reads=[x]:=rfl
def afc{kk}{x}{k}{o}{q}:(af.lk kk x k o q).writes=[]:=rfl
def afd{x}{v}{n}:(af.st x v n).reads=[]:=rfl
def afe{x}{v}{n}:(af.st x v n).writes=[x]:=rfl
def aff{x}{y}{w}{b}{p}:(af.app x y w b p).reads=[]:=rfl
def afg{x}{y}{w}{b}{p}:(af.app x y w b p).writes=[x]:=rfl
def afh{kk}{x}{k}{v}:(af.mup kk x k v).reads=[]:=rfl
def afi{kk}{x}{k}{v}:(af.mup kk x k v).writes=[x]:=rfl
def afj{x}:(af.len 0 x).reads=[]:=rfl
def afk{x}:(af.len 1 x).reads=[]:=rfl
def afl{x}:(af.len 2 x).reads=[x]:=rfl
def afm{k x}:(af.len k x).writes=[]:=rfl
def afn(b:Bs):D.under b .nil=true:=rfl
def afo(b:Bs):D.under b .z=true:=rfl
def afp(b:Bs):D.under b .np=true:=rfl
def afq(b:Bs):D.under b .mnil=true:=rfl
def afr(b:Bs):D.under b .nf=true:=rfl
def afs(b:Bs):D.under b .ni=true:=rfl
def aft(b:Bs):D.under b .u=true:=rfl
def afu(b:Bs)(w:Nat)(r):D.under b (.im w r)=true:=rfl
def afv(b:Bs)(w:Nat)(r):D.under b (.sv w r)=true:=rfl
def afw(b:Bs)(r):D.under b (.ip r)=true:=rfl
def afx(b:Bs)(r):D.under b (.s r)=true:=rfl
def afy(b a o:Nat):D.under (b,[]) (.hp a o)=decide (a<b):=by simp[D.under,Bs.un]
def afz(b a n o l:Nat):D.under (b,[]) (.mu a n o l)=decide (a<b):=by simp[D.under,Bs.un]
def afA(b a n o l:Nat):D.under (b,[]) (.ap a n o l)=decide (a<b):=by simp[D.under,Bs.un]
def afB(b a:Nat):D.under (b,[]) (.mp a)=decide (a<b):=by simp[D.under,Bs.un]
def afC(b:Bs):D.over b .nil=true:=rfl
theorem Sl.under{w:Nat}{rows:List (List D)}{x:D}(h:Sl w rows x)(b:Bs):x.under b=true:=by cases h<;>rfl
end
end
section
def uu:Nat->List D|0=>[]|n+1=>.u::uu n
@[go_sem]def att:uu 0=[]:=rfl
@[go_sem]def atu{n:Nat}:uu (n+1)=.u::uu n:=rfl
theorem vL:∀n,List.replicate n D.u=uu n|0=>rfl|n+1=>by rw[AA3,vL n];rfl
def ak(V:au)(c:aQ)(a:St)(Q:Ex->St->Prop):Prop:=∃n,(aC V (call V n) n c a).1≠.bad/\Q (aC V (call V n) n c a).1 (aC V (call V n) n c a).2
def fF(V:au)(dr:Option (Bs×Bool))(os:List ae)(loc:List D)(a:St)(Q:Ex->St->Prop):Prop:=∃n,(ops V (call V n) dr os loc a).1≠.bad/\Q (ops V (call V n) dr os loc a).1 (ops V (call V n) dr os loc a).2
def ac(V:au)(f:FuncId)(args:List D)(H:ab)(K:CR->Prop):Prop:=∃n,call V n f args H≠.bad/\K (call V n f args H)
def kD(V:au)(b:aQ)(Q:Ex->St->Prop):Ex->St->Prop|.nm,s=>ak V b s Q|.ex id,s=>Q (.ex id) s|.rt,s=>Q .rt s|.pn d,s=>Q (.pn d) s|.bad,_=>False
def mt(id:Nat)(Q:Ex->St->Prop):Ex->St->Prop|.ex a,s=>if a=id then Q .nm s else Q (.ex a) s|.nm,s=>Q .nm s|.rt,s=>Q .rt s|.pn d,s=>Q (.pn d) s|.bad,_=>False
def vM(V:au)(c:aQ)(Q:Ex->St->Prop):Ex->St->Prop|.nm,s=>ak V (.loop c) s Q|.ex id,s=>Q (.ex id) s|.rt,s=>Q .rt s|.pn d,s=>Q (.pn d) s|.bad,_=>False
def vN(V:au)(a b:aQ)(c:St)(Q:Ex->St->Prop):D->Prop|.b true=>ak V a c Q|.b false=>ak V b c Q|_=>False
def tF:Option Bool->Prop->Prop->Prop|some true,A,_=>A|some false,_,B=>B|none,_,_=>False
def DP(dr:Option (Bs×Bool))(sl:List D)(Q:Ex->St->Prop)(d:D)(H:ab):Prop:=match dr with|none=>Q (.pn d) ⟨sl,H⟩|some _=>False
def aD(V:au)(dr:Option (Bs×Bool))(os:List ae)(keep:Option Nat)(loc sl:List D)(Q:Ex->St->Prop):R->Prop|.v d a=>fF V dr os (loc++[d]) ⟨dU a.sl keep d,a.hp⟩ Q|.p d b=>DP dr sl Q d b|.bad=>False
def oX(V:au)(dr:Option (Bs×Bool))(os:List ae)(keep:Option Nat)(loc sl:List D)(Q:Ex->St->Prop):CR->Prop|.ret d a=>fF V dr os (loc++[d]) ⟨dU sl keep d,a⟩ Q|.pan d a=>DP dr sl Q d a|.bad=>False
def OW(V:au)(dr:Option (Bs×Bool))(os:List ae)(keep:Option Nat)(loc sl:List D)(Q:Ex->St->Prop):R->Prop|.v d a=>fF V dr os (loc++[d]) ⟨dU a.sl keep d,a.hp⟩ Q|.p d b=>Q (.pn d) ⟨sl,b⟩|.bad=>False
def DQ(V:au)(dr:Option (Bs×Bool))(os:List ae)(keep:Option Nat)(loc sl:List D)(Q:Ex->St->Prop):CR->Prop|.ret d a=>fF V dr os (loc++[d]) ⟨dU sl keep d,a⟩ Q|.pan d a=>Q (.pn d) ⟨sl,a⟩|.bad=>False
def tG(V:au)(dr:Option (Bs×Bool))(os:List ae)(keep:Option Nat)(loc sl:List D)(Q:Ex->St->Prop):af->R->Prop|.callp _ _=>OW V dr os keep loc sl Q|_=>aD V dr os keep loc sl Q
def afD{V:au}{dr:Option (Bs×Bool)}{os:List ae}{keep:Option Nat}{loc sl:List D}{Q:Ex->St->Prop}{op:af}(h:op.pans=false):tG V dr os keep loc sl Q op=aD V dr os keep loc sl Q:=by cases op<;>first|rfl|cases h
variable{x:St}
def OX{V:au}{dr:Option (Bs×Bool)}{os:List ae}{keep:Option Nat}{loc sl:List D}{Q:Ex->St->Prop}{op:af}{d:D}:tG V dr os keep loc sl Q op (.v d x)↔fF V dr os (loc++[d]) ⟨dU x.sl keep d,x.hp⟩ Q:=by cases op<;>rfl
theorem afE{V:au}{dr:Option (Bs×Bool)}{os:List ae}{keep:Option Nat}{loc sl:List D}{Q:Ex->St->Prop}{op:af}:¬tG V dr os keep loc sl Q op .bad:=by cases op<;>exact id
variable{g:ab}
def OY{V:au}{dr:Option (Bs×Bool)}{os:List ae}{keep:Option Nat}{loc sl:List D}{Q:Ex->St->Prop}{op:af}{d:D}:tG V dr os keep loc sl Q op (.p d g)↔(dr.isNone||op.pans)=true/\Q (.pn d) ⟨sl,g⟩:=by cases op<;>cases dr<;>simp[tG,aD,OW,DP,af.pans]
def aU(V:au)(dr:Option (Bs×Bool))(os:List ae)(keep:Option Nat)(loc:List D)(a:St)(Q:Ex->St->Prop)(op:af):Prop:=∃n,tG V dr os keep loc a.sl Q op (step V (call V n) loc a op)
section
variable{V:au}{Q:Ex->St->Prop}
variable{y z:Nat}
theorem vO{n:Nat}{c:aQ}(a:n<=y)(h:(aC V (call V n) n c x).1≠.bad):aC V (call V y) y c x=aC V (call V n) n c x:=by grind[oG,sV]
theorem afF{n:Nat}{dr:Option (Bs×Bool)}{os:List ae}{loc:List D}(a:n<=y)(h:(ops V (call V n) dr os loc x).1≠.bad):ops V (call V y) dr os loc x=ops V (call V n) dr os loc x:=by grind[yH,sV]
theorem OZ{n:Nat}{f:FuncId}{args:List D}{H:ab}(a:n<=y)(h:call V n f args H≠.bad):call V y f args H=call V n f args H:=sV V n y a _ _ _ h
def ak.mono{c:aQ}{a:Ex->St->Prop}(h:ak V c x Q)(d:∀b s,Q b s->a b s):ak V c x a:=let⟨n,e,f⟩:=h;⟨n,e,d _ _ f⟩
def ac.mono{f:FuncId}{args:List D}{H:ab}{K a:CR->Prop}(h:ac V f args H K)(b:∀r,K r->a r):ac V f args H a:=let⟨n,c,d⟩:=h;⟨n,c,b _ d⟩
@[go_sem]def atv:ak V .skip x Q↔Q .nm x:=⟨λ⟨_,_,h⟩=>h,λh=>⟨0,nofun,h⟩⟩
@[go_sem]def atw:ak V .ret x Q↔Q .rt x:=⟨λ⟨_,_,h⟩=>h,λh=>⟨0,nofun,h⟩⟩
@[go_sem]def atx:ak V (.exit y) x Q↔Q (.ex y) x:=⟨λ⟨_,_,h⟩=>h,λh=>⟨0,nofun,h⟩⟩
@[go_sem]def aty{os:List ae}:ak V (.reg os none) x Q↔fF V none os [] x Q:=dG
@[go_sem]def atz{sl:List D}{H:ab}{os:List ae}:ak V (.reg os (some false)) ⟨sl,H⟩ Q↔fF V (some ((H.length,[]),false)) os [] ⟨sl,H⟩ Q:=dG
@[go_sem]def atA{sl:List D}{H:ab}{os:List ae}:ak V (.reg os (some true)) ⟨sl,H⟩ Q↔fF V (some ((H.length,ve os sl),true)) os [] ⟨sl,H⟩ Q:=dG
@[go_sem]def atB{a b:aQ}:ak V (.seq a b) x Q↔ak V a x (kD V b Q):=by
 constructor;·rintro⟨n,d,c⟩;simp only[aC]at d c;refine⟨n,?_⟩;cases e:aC V _ n a x with|mk f s=>rw[e]at d c;cases f with|nm=>exact⟨nofun,n,d,c⟩|bad=>grind|_=>exact⟨nofun,c⟩
 rintro⟨n,d,c⟩;cases e:aC V _ n a x with|mk f s=>rw[e]at d c;cases f with|nm=>obtain⟨m,g,h⟩:=c;refine⟨max n m,?_⟩;grind[aC,vO]|bad=>grind|_=>refine⟨n,?_⟩;simp only[aC];rw[e];exact⟨nofun,c⟩
@[go_sem]def atC{d:St}{c:O}{a b:aQ}:ak V (.cond c a b) d Q↔vN V a b d Q (c.ev [] d.sl):=by unfold ak;simp only[aC];generalize c.ev [] d.sl=q;cases q with|b x=>cases x<;>exact dG|_=>exact⟨λ⟨_,h,_⟩=>absurd rfl h,λh=>h.elim⟩
@[go_sem]theorem tH{c:aQ}:ak V (.block y c) x Q↔ak V c x (mt y Q):=by unfold ak;simp only[aC];refine exists_congr λn=>?_;generalize aC V _ n c x=q;obtain⟨a,s⟩:=q;cases a<;>grind[mt]
def bv{c:aQ}:ak V (.loop c) x Q↔ak V c x (vM V c Q):=by
 constructor;·rintro⟨n,b,a⟩;simp only[aC]at b a;cases n with|zero=>exact absurd rfl b|succ m=>simp only[iE]at b a;refine⟨m+1,?_⟩;cases d:aC V _ _ c x with|mk e s=>rw[d]at b a;cases e with|nm=>have f:iE _ (m+1) s=iE _ m s:=yI (λ_ _=>rfl) _ _ _ (Nat.le_succ m) b;refine⟨nofun,m+1,?_⟩;grind[aC]|bad=>grind|_=>exact⟨nofun,a⟩
 rintro⟨n,b,a⟩;cases d:aC V _ n c x with|mk e s=>
 rw[d]at b a;have g:(aC V (call V n) n c x).1≠.bad:=by grind
 cases e with|nm=>obtain⟨m,f,i⟩:=a;refine⟨max n m+1,?_⟩;grind[aC,vO,iE,yI]|bad=>grind|_=>refine⟨n+1,?_⟩;have h:aC V _ (n+1) c x=_:=vO (by omega) g;simp only[aC,iE,h,d];exact⟨nofun,a⟩
@[go_sem]def atD{b:aQ}:kD V b Q .nm x↔ak V b x Q:=dG
@[go_sem]def atE{b:aQ}:kD V b Q (.ex y) x↔Q (.ex y) x:=dG
@[go_sem]def atF{b:aQ}:kD V b Q .rt x↔Q .rt x:=dG
@[go_sem]def atG{b:aQ}{d:D}:kD V b Q (.pn d) x↔Q (.pn d) x:=dG
@[go_sem]def atH:mt y Q .nm x↔Q .nm x:=dG
@[go_sem]def atI:mt y Q (.ex z) x↔if z=y then Q .nm x else Q (.ex z) x:=dG
@[go_sem]def atJ:mt y Q .rt x↔Q .rt x:=dG
@[go_sem]def atK{d:D}:mt y Q (.pn d) x↔Q (.pn d) x:=dG
@[go_sem]def atM{c:aQ}:vM V c Q .nm x↔ak V (.loop c) x Q:=dG
@[go_sem]def atN{c:aQ}:vM V c Q (.ex y) x↔Q (.ex y) x:=dG
@[go_sem]def atO{c:aQ}:vM V c Q .rt x↔Q .rt x:=dG
@[go_sem]def atP{c:aQ}{d:D}:vM V c Q (.pn d) x↔Q (.pn d) x:=dG
@[go_sem low]def atQ{a b:aQ}{c:St}{x:Bool}:vN V a b c Q (.b x)↔(x=true->ak V a c Q)/\(x=false->ak V b c Q):=by cases x<;>simp[vN]
variable{a:List D}
@[go_sem]def atS{dr:Option (Bs×Bool)}{os:List ae}{keep:Option Nat}{loc sl:List D}{H:ab}{d:D}:aD V dr os keep loc sl Q (.v d ⟨a,H⟩)↔fF V dr os (loc++[d]) ⟨dU a keep d,H⟩ Q:=dG
@[go_sem]def atT{os:List ae}{keep:Option Nat}{loc sl:List D}{H:ab}{d:D}:aD V none os keep loc sl Q (.p d H)↔Q (.pn d) ⟨sl,H⟩:=dG
@[go_sem]def atU{dr:Option (Bs×Bool)}{os:List ae}{keep:Option Nat}{loc sl:List D}{H:ab}{d:D}:oX V dr os keep loc sl Q (.ret d H)↔fF V dr os (loc++[d]) ⟨dU sl keep d,H⟩ Q:=dG
@[go_sem]def atV{os:List ae}{keep:Option Nat}{loc sl:List D}{H:ab}{d:D}:oX V none os keep loc sl Q (.pan d H)↔Q (.pn d) ⟨sl,H⟩:=dG
@[go_sem]def atW{dr:Option (Bs×Bool)}{loc:List D}:fF V dr [] loc x Q↔Q .nm x:=⟨λ⟨_,_,h⟩=>h,λh=>⟨0,nofun,h⟩⟩
def O0{dr:Option (Bs×Bool)}{o:ae}{os:List ae}{loc:List D}:fF V dr (o::os) loc x Q↔tF (o.wants loc x.sl) (o.op.fits dr loc x.sl=true/\aU V dr os o.keep loc x Q o.op) (fF V dr os (loc++[.u]) ⟨dU x.sl o.keep .u,x.hp⟩ Q):=by unfold fF;cases a:o.wants loc x.sl with|none=>grind[tF,ops]|some r=>cases r with|false=>grind[tF,ops]|true=>simp only[tF];cases b:o.op.fits dr loc x.sl with|false=>grind[ops]|true=>
 simp only[true_and];constructor;·rintro⟨n,h⟩;refine⟨n,?_⟩;rw[ops,a]at h;simp only[b]at h;cases hs:step V _ loc x o.op with|v d st1=>rw[hs]at h;exact OX.2 ⟨n,h⟩|p d c=>rw[hs]at h;refine OY.2 ?_;grind|bad=>grind
 rintro⟨n,h⟩;cases hs:step V _ loc x o.op with|v d st1=>rw[hs]at h;obtain⟨m,e,f⟩:=OX.1 h;grind[ops,CU,sV,afF]|p d c=>rw[hs]at h;obtain⟨e,f⟩:=OY.1 h;grind[ops]|bad=>grind[afE]
def gu(V:au)(dr:Option (Bs×Bool))(op:af)(keep:Option Nat)(os:List ae)(loc sl:List D)(H:ab)(Q:Ex->St->Prop):Bool->Prop|true=>op.fits dr loc sl=true/\aU V dr os keep loc ⟨sl,H⟩ Q op|false=>fF V dr os (loc++[.u]) ⟨dU sl keep .u,H⟩ Q
def oY(V:au)(dr:Option (Bs×Bool))(op:af)(keep:Option Nat)(w:Bool)(os:List ae)(loc:List D)(j:Nat)(sl:List D)(H:ab)(Q:Ex->St->Prop):D->Prop|.b x=>(x=true->gu V dr op keep os (loc.set j (.b true)) sl H Q w)/\(x=false->gu V dr op keep os (loc.set j (.b false)) sl H Q (!w))|.u=>gu V dr op keep os loc sl H Q false|_=>False
def O1(V:au)(dr:Option (Bs×Bool))(op:af)(keep:Option Nat)(w:Bool)(os:List ae)(loc:List D)(k:Nat)(sl:List D)(H:ab)(Q:Ex->St->Prop):D->Prop|.b x=>(x=true->gu V dr op keep os loc (sl.set k (.b true)) H Q w)/\(x=false->gu V dr op keep os loc (sl.set k (.b false)) H Q (!w))|.u=>gu V dr op keep os loc sl H Q false|_=>False
def afG{l:List D}{j:Nat}{d:D}(h:l.getD j .u=d)(a:d≠.u):l.set j d=l:=by
 subst h;by_cases b:j<l.length;·rw[l4,E2 b];simp
 exfalso;apply a;rw[l4,AAB (by omega)];rfl
section
variable{dr:Option (Bs×Bool)}{op:af}{keep:Option Nat}{w:Bool}{os:List ae}{loc:List D}{j:Nat}{sl:List D}{H:ab}
@[go_sem]def atX:gu V dr op keep os loc sl H Q true↔op.fits dr loc sl=true/\aU V dr os keep loc ⟨sl,H⟩ Q op:=dG
@[go_sem]def atY:gu V dr op keep os loc sl H Q false↔fF V dr os (loc++[.u]) ⟨dU sl keep .u,H⟩ Q:=dG
@[go_sem]def atZ:fF V dr (⟨op,keep,none⟩::os) loc ⟨sl,H⟩ Q↔op.fits dr loc sl=true/\aU V dr os keep loc ⟨sl,H⟩ Q op:=by rw[O0];exact dG
def afH{x:O}:fF V dr (⟨op,keep,some (x,w)⟩::os) loc ⟨sl,H⟩ Q↔tF (DH w (x.ev loc sl)) (gu V dr op keep os loc sl H Q true) (gu V dr op keep os loc sl H Q false):=by rw[O0,abv];exact dG
@[go_sem]def at0:fF V dr (⟨op,keep,some (.l j,w)⟩::os) loc ⟨sl,H⟩ Q↔oY V dr op keep w os loc j sl H Q (loc.getD j .u):=by rw[afH,OL];generalize a:loc.getD j .u=d;cases d with|b x=>have hs:=afG a nofun;cases x<;>cases w<;>simp[oY,DH,tF,hs]|u=>exact dG|_=>exact dG
@[go_sem high]def at1:oY V dr op keep w os loc j sl H Q (.b true)↔gu V dr op keep os (loc.set j (.b true)) sl H Q w:=by simp[oY]
@[go_sem high]def at2:oY V dr op keep w os loc j sl H Q (.b false)↔gu V dr op keep os (loc.set j (.b false)) sl H Q (!w):=by simp[oY]
@[go_sem]def at3:oY V dr op keep w os loc j sl H Q .u↔gu V dr op keep os loc sl H Q false:=dG
@[go_sem low]def at4{x:Bool}:oY V dr op keep w os loc j sl H Q (.b x)↔(x=true->gu V dr op keep os (loc.set j (.b true)) sl H Q w)/\(x=false->gu V dr op keep os (loc.set j (.b false)) sl H Q (!w)):=dG
@[go_sem]def at5:O1 V dr op keep w os loc j sl H Q .u↔gu V dr op keep os loc sl H Q false:=dG
@[go_sem low]def at6{x:Bool}:O1 V dr op keep w os loc j sl H Q (.b x)↔(x=true->gu V dr op keep os loc (sl.set j (.b true)) H Q w)/\(x=false->gu V dr op keep os loc (sl.set j (.b false)) H Q (!w)):=dG
@[go_sem high]def at7{a b:aQ}:vN V a b x Q (.b true)↔ak V a x Q:=dG
@[go_sem high]def at8{a b:aQ}:vN V a b x Q (.b false)↔ak V b x Q:=dG
end
end
def tI:FuncId->List D->ab->CR:=λ_ _ _=>.bad
def af.isCall:af->Bool|.call _ _|.calv _ _|.inv _ _ _|.cpl _ _|.calx _ _|.calvx _ _|.callp _ _=>true|_=>false
section
variable{V:au}{Q:Ex->St->Prop}{dr:Option (Bs×Bool)}{os:List ae}{keep:Option Nat}{loc sl:List D}{H:ab}
def bJ{op:af}(h:op.isCall=false):aU V dr os keep loc x Q op↔aD V dr os keep loc x.sl Q (step V tI loc x op):=by
 have hs:∀a,step V a loc x op=step V tI loc x op:=λa=>by cases op<;>first|rfl|cases h
 unfold aU;rw[afD (by cases op<;>first|rfl|cases h)];simp_all
@[go_sem]def at9{x:O}:aU V dr os keep loc ⟨sl,H⟩ Q (.mov x)↔aD V dr os keep loc sl Q (.v (x.ev loc sl) ⟨sl,H⟩):=by rw[bJ rfl,abH]
@[go_sem]def aua{c a b:O}:aU V dr os keep loc ⟨sl,H⟩ Q (.pick c a b)↔aD V dr os keep loc sl Q (aA ⟨sl,H⟩ (sJ (c.ev loc sl) (a.ev loc sl) (b.ev loc sl))):=by rw[bJ rfl,abI]
variable{a:List D}
@[go_sem]def aub:aU V dr os keep loc ⟨sl,H⟩ Q (.lal a)↔aD V dr os keep loc sl Q (.v (.bx a) ⟨sl,H⟩):=by rw[bJ rfl,abM]
@[go_sem]def auc{x:O}{n:Nat}:aU V dr os keep loc ⟨sl,H⟩ Q (.lbx x n)↔aD V dr os keep loc sl Q (aA ⟨sl,H⟩ (((x.ev loc sl).cellsN n).map .bx)):=by rw[bJ rfl,abN]
@[go_sem]def aud{t:Nat}:aU V dr os keep loc ⟨sl,H⟩ Q (.hal t a)↔aD V dr os keep loc sl Q (.v (.hp H.length 0) ⟨sl,H++[.hb t a]⟩):=by rw[bJ rfl,abO]
@[go_sem]def aue{t:Nat}{x:O}{n:Nat}:aU V dr os keep loc ⟨sl,H⟩ Q (.hbx t x n)↔aD V dr os keep loc sl Q (gk ⟨sl,H⟩ (((x.ev loc sl).cellsN n).map λa=>(.hp H.length 0,H++[.hb t a]))):=by rw[bJ rfl,abP]
variable{c:List (List D)}
@[go_sem]def auf{w:Nat}{p:Bool}:aU V dr os keep loc ⟨sl,H⟩ Q (.haa w c p)↔aD V dr os keep loc sl Q (.v (.aa H.length) ⟨sl,H++[.ar w c (some c.length) p false]⟩):=by rw[bJ rfl,abQ]
variable{y z:Nat}
@[go_sem]def aug{a:AB}:aU V dr os keep loc ⟨sl,H⟩ Q (.lfa a y)↔aD V dr os keep loc sl Q (DJ ⟨sl,H⟩ y (a.ev loc sl)):=by rw[bJ rfl,abR]
variable{e:Bool}
@[go_sem]def auh{a:AB}{n:Nat}:aU V dr os keep loc ⟨sl,H⟩ Q (.lld a n e)↔aD V dr os keep loc sl Q (zp ⟨sl,H⟩ n e (a.ev loc sl)):=by rw[bJ rfl,abW]
@[go_sem]def aui{a:AB}{x:O}{n:Nat}:aU V dr os keep loc ⟨sl,H⟩ Q (.lst a x n)↔aD V dr os keep loc sl Q (vJ sl H (a.ev loc sl) ((x.ev loc sl).cellsN n)):=by rw[bJ rfl,ab0]
@[go_sem]def auj{x:O}:aU V dr os keep loc ⟨sl,H⟩ Q (.fad x y)↔aD V dr os keep loc sl Q (aA ⟨sl,H⟩ (mV (x.ev loc sl) y)):=by rw[bJ rfl,ab4]
variable{h:O}
@[go_sem]def auk{x:O}{w:Nat}:aU V dr os keep loc ⟨sl,H⟩ Q (.iad x h w)↔aD V dr os keep loc sl Q (aA ⟨sl,H⟩ (cJ H (x.ev loc sl) (h.ev loc sl) w)):=by rw[bJ rfl,ab8]
@[go_sem]def aul{x:O}{n w:Nat}:aU V dr os keep loc ⟨sl,H⟩ Q (.iar x h n w)↔aD V dr os keep loc sl Q (aA ⟨sl,H⟩ (mg H (x.ev loc sl) (h.ev loc sl) n w)):=by rw[bJ rfl,ab9]
@[go_sem]def aum{x:O}{n:Nat}:aU V dr os keep loc ⟨sl,H⟩ Q (.ld x n e)↔aD V dr os keep loc sl Q (lE ⟨sl,H⟩ e (cN H (x.ev loc sl) n)):=by rw[bJ rfl,aca]
@[go_sem]def aun{x:O}{n:Nat}:aU V dr os keep loc ⟨sl,H⟩ Q (.ldh x n e)↔aD V dr os keep loc sl Q (lE ⟨sl,H⟩ e (ko H (x.ev loc sl) n)):=by rw[bJ rfl,acb]
@[go_sem]def auo{x v:O}{n:Nat}:aU V dr os keep loc ⟨sl,H⟩ Q (.st x v n)↔aD V dr os keep loc sl Q (DM sl H (x.ev loc sl) ((v.ev loc sl).cellsN n)):=by rw[bJ rfl,acj]
@[go_sem]def aup{op:BinOp}{x y:O}:aU V dr os keep loc ⟨sl,H⟩ Q (.bin op x y)↔aD V dr os keep loc sl Q (aA ⟨sl,H⟩ (bin op (x.ev loc sl) (y.ev loc sl))):=by rw[bJ rfl,acl]
@[go_sem]def auq{k:EK}{x y:O}:aU V dr os keep loc ⟨sl,H⟩ Q (.eqv e k x y)↔aD V dr os keep loc sl Q (aA ⟨sl,H⟩ (eF e k (x.ev loc sl) (y.ev loc sl))):=by rw[bJ rfl,acx]
@[go_sem]def aur{op:UnOp}{x:O}:aU V dr os keep loc ⟨sl,H⟩ Q (.un op x)↔aD V dr os keep loc sl Q (aA ⟨sl,H⟩ (un op (x.ev loc sl))):=by rw[bJ rfl,acz]
@[go_sem]def aus{k:IntKind}{x:O}:aU V dr os keep loc ⟨sl,H⟩ Q (.cvi k x)↔aD V dr os keep loc sl Q (aA ⟨sl,H⟩ (sK k (x.ev loc sl))):=by rw[bJ rfl,acC]
@[go_sem]def aut{b:List (Nat×Nat×O)}:aU V dr os keep loc ⟨sl,H⟩ Q (.agc a b)↔aD V dr os keep loc sl Q (aA ⟨sl,H⟩ ((jb a (b.map λp=>(p.1,p.2.1,p.2.2.ev loc sl))).map .ag)):=by rw[bJ rfl,acF]
variable{k:List (Nat×O)}
@[go_sem]def auu{w n:Nat}{p:Bool}:aU V dr os keep loc ⟨sl,H⟩ Q (.bsl w n a k p)↔aD V dr os keep loc sl Q (gk ⟨sl,H⟩ (mY H w n a (k.map λq=>(q.1,q.2.ev loc sl)) p)):=by rw[bJ rfl,acK]
@[go_sem]def auv{w n:Nat}:aU V dr os keep loc ⟨sl,H⟩ Q (.bsv w n a k)↔aD V dr os keep loc sl Q (aA ⟨sl,H⟩ (oA w n a (k.map λq=>(q.1,q.2.ev loc sl)))):=by rw[bJ rfl,acL]
@[go_sem]def auw{k:Nat}{x:O}:aU V dr os keep loc ⟨sl,H⟩ Q (.len k x)↔aD V dr os keep loc sl Q (aA ⟨sl,H⟩ (dj H k (x.ev loc sl))):=by rw[bJ rfl,acM]
@[go_sem]def aux{x y:O}{w bytes:Nat}{p:Bool}:aU V dr os keep loc ⟨sl,H⟩ Q (.app x y w bytes p)↔aD V dr os keep loc sl Q (gk ⟨sl,H⟩ (bu H (x.ev loc sl) (y.ev loc sl) w bytes p)):=by rw[bJ rfl,acT]
@[go_sem]def auy{l c:O}{w bytes:Nat}{p:Bool}:aU V dr os keep loc ⟨sl,H⟩ Q (.mks l c w bytes a p)↔aD V dr os keep loc sl Q (gk ⟨sl,H⟩ (mZ H (l.ev loc sl) (c.ev loc sl) w bytes a p)):=by rw[bJ rfl,acU]
@[go_sem]def auz{w:Nat}{x:O}{lo hi a:Option O}:aU V dr os keep loc ⟨sl,H⟩ Q (.sli false w x lo hi a)↔aD V dr os keep loc sl Q (aA ⟨sl,H⟩ (dc H w (x.ev loc sl) (lo.map (O.ev loc sl)) (hi.map (O.ev loc sl)) (a.map (O.ev loc sl)))):=by rw[bJ rfl,acV]
@[go_sem]def auA{x:O}{n w:Nat}{lo hi:Option O}:aU V dr os keep loc ⟨sl,H⟩ Q (.sla x n w lo hi)↔aD V dr os keep loc sl Q (aA ⟨sl,H⟩ (qC H (x.ev loc sl) n w (lo.map (O.ev loc sl)) (hi.map (O.ev loc sl)))):=by rw[bJ rfl,acW]
@[go_sem]def auB{x:O}:aU V dr os keep loc ⟨sl,H⟩ Q (.ixs x h)↔aD V dr os keep loc sl Q (aA ⟨sl,H⟩ (qD (x.ev loc sl) (h.ev loc sl))):=by rw[bJ rfl,acX]
@[go_sem]def auC{g:Nat}{n:Nat}{w:Nat}:aU V dr os keep loc ⟨sl,H⟩ Q (.gia g h n w)↔aD V dr os keep loc sl Q (aA ⟨sl,H⟩ (mX (V.glob g) (h.ev loc sl) n w)):=by rw[bJ rfl,acZ]
@[go_sem]def auD{x:O}{n:Nat}{w:Nat}:aU V dr os keep loc ⟨sl,H⟩ Q (.ixa x h n w e)↔aD V dr os keep loc sl Q (aA ⟨sl,H⟩ (ox (x.ev loc sl) (h.ev loc sl) n w e)):=by rw[bJ rfl,ac2]
@[go_sem]def auE{x:O}{j:Nat}:aU V dr os keep loc ⟨sl,H⟩ Q (.ext x j)↔aD V dr os keep loc sl Q (aA ⟨sl,H⟩ (sM (x.ev loc sl) j)):=by rw[bJ rfl,ac5]
@[go_sem]def auF{f:Fn}{a b:List O}:aU V dr os keep loc ⟨sl,H⟩ Q (.mkf f a b)↔aD V dr os keep loc sl Q (.v (.fn f (a.map (O.ev loc sl)) (b.map (O.ev loc sl))) ⟨sl,H⟩):=by rw[bJ rfl,ac7]
@[go_sem]def auG:aU V dr os keep loc ⟨sl,H⟩ Q .mkm↔aD V dr os keep loc sl Q (.v (.mp H.length) ⟨sl,H++[.mp []]⟩):=by rw[bJ rfl,ac8]
@[go_sem]def auH{a:KK}{m k:O}{zero:D}:aU V dr os keep loc ⟨sl,H⟩ Q (.lk a m k e zero)↔aD V dr os keep loc sl Q (aA ⟨sl,H⟩ (mh H a (m.ev loc sl) (k.ev loc sl) e zero)):=by rw[bJ rfl,ac9]
@[go_sem]def auI{a:KK}{m k v:O}:aU V dr os keep loc ⟨sl,H⟩ Q (.mup a m k v)↔aD V dr os keep loc sl Q (hZ ⟨sl,H⟩ (m4 H a (m.ev loc sl) (k.ev loc sl) (v.ev loc sl))):=by rw[bJ rfl,ada]
@[go_sem]def auJ{t:TypeId}{x:O}:aU V dr os keep loc ⟨sl,H⟩ Q (.mki t x)↔aD V dr os keep loc sl Q (.v (.ifc t (x.ev loc sl)) ⟨sl,H⟩):=by rw[bJ rfl,adb]
@[go_sem]def auK{x:O}{t:TypeId}{zero:D}:aU V dr os keep loc ⟨sl,H⟩ Q (.tas x t e zero)↔aD V dr os keep loc sl Q (aA ⟨sl,H⟩ (sO (x.ev loc sl) t e zero)):=by rw[bJ rfl,adc]
@[go_sem]def auL{x:O}:aU V dr os keep loc ⟨sl,H⟩ Q (.nck x)↔aD V dr os keep loc sl Q (aA ⟨sl,H⟩ (mW (x.ev loc sl))):=by rw[bJ rfl,ade]
variable{d:List O}
@[go_sem]def auM:aU V dr os keep loc ⟨sl,H⟩ Q (.mx d)↔aD V dr os keep loc sl Q (aA ⟨sl,H⟩ (jd qw (d.map (O.ev loc sl)))):=by rw[bJ rfl,adj]
@[go_sem]def auN:aU V dr os keep loc ⟨sl,H⟩ Q (.mn d)↔aD V dr os keep loc sl Q (aA ⟨sl,H⟩ (jd qx (d.map (O.ev loc sl)))):=by rw[bJ rfl,adk]
def zq(V:au)(args:List D)(H:ab)(K:CR->Prop):D->Prop|.fn (.func f) a b=>f≠yF/\ac V f (a++args++b) H K|.yl y=>ac V yF (.yl y::args) H K|_=>False
@[go_sem]def gP{args:List D}{K:CR->Prop}{f:FuncId}{a b:List D}(h:f<4294967295):zq V args H K (.fn (.func f) a b)↔ac V f (a++args++b) H K:=⟨λh=>h.2,λg=>⟨OK h,g⟩⟩
@[go_sem]def auO{args:List D}{K:CR->Prop}{y:Nat}:zq V args H K (.yl y)↔ac V yF (.yl y::args) H K:=dG
def zr{r:CR}:aD V dr os keep loc sl Q (r.toR sl)↔r≠.bad/\oX V dr os keep loc sl Q r:=by cases r with|ret d a=>exact⟨λh=>⟨nofun,h⟩,λh=>h.2⟩|pan d a=>exact⟨λh=>⟨nofun,h⟩,λh=>h.2⟩|bad=>exact⟨λh=>h.elim,λh=>absurd rfl h.1⟩
@[go_sem]def auP{f:FuncId}:aU V dr os keep loc ⟨sl,H⟩ Q (.call f d)↔ac V f (d.map (O.ev loc sl)) H (oX V dr os keep loc sl Q):=exists_congr λ_=>zr
def DR(V:au)(args:List D)(H:ab)(K:CR->Prop):Option FuncId->Prop|some f=>ac V f args H K|none=>False
def DS(V:au)(m:String)(args:List D)(H:ab)(K:CR->Prop):D->Prop|.ifc t v=>DR V (v::args) H K (V.meth t m)|_=>False
@[go_sem]def auQ{args:List D}{K:CR->Prop}{f:FuncId}:DR V args H K (some f)↔ac V f args H K:=dG
@[go_sem]def auR{m:String}{args:List D}{K:CR->Prop}{t:TypeId}{v:D}:DS V m args H K (.ifc t v)↔DR V (v::args) H K (V.meth t m):=dG
@[go_sem]def auS{x:O}{m:String}:aU V dr os keep loc ⟨sl,H⟩ Q (.inv x m d)↔DS V m (d.map (O.ev loc sl)) H (oX V dr os keep loc sl Q) (x.ev loc sl):=by unfold aU;simp[step];generalize x.ev loc sl=q;cases q with
 |ifc t v=>simp[DS];cases V.meth t m with|some f=>exact exists_congr λ_=>zr|none=>exact⟨λ⟨_,h⟩=>h.elim,λh=>h.elim⟩
 |_=>exact⟨λ⟨_,h⟩=>h.elim,λh=>h.elim⟩
def DT(V:au)(f:FuncId)(args:List D):Bool:=match V.fn f with|some a=>a.pure&&!a.own&&mU args|none=>false
def O2(K:CR->Prop):CR->Prop|.ret d H=>K (.ret d H)|_=>False
def O3(a:ab)(K:CR->Prop):CR->Prop|.ret d H=>(∃t,H=a++t)/\K (.ret d H)|_=>False
@[go_sem]def auT{K:CR->Prop}{d:D}:O2 K (.ret d H)↔K (.ret d H):=dG
@[go_sem]def auU{K:CR->Prop}{d:D}:O3 g K (.ret d H)↔(∃t,H=g++t)/\K (.ret d H):=dG
@[go_sem]def auV{f:FuncId}{a:List O}:aU V dr os keep loc ⟨sl,H⟩ Q (.cpl f a)↔DT V f (a.map (O.ev loc sl))=true/\ac V f (a.map (O.ev loc sl)) H (O2 (oX V dr os keep loc sl Q)):=by unfold aU DT;simp[step];cases e:V.fn f with|none=>exact⟨λ⟨_,h⟩=>h.elim,λh=>by grind⟩|some b=>simp only;cases g:(b.pure&&!b.own&&mU _)with|false=>exact⟨λ⟨_,h⟩=>h.elim,λh=>by grind⟩|true=>simp[true_and];refine exists_congr λn=>?_;generalize call V n f _ H=r;cases r with|ret d c=>exact⟨λh=>⟨nofun,h⟩,λh=>h.2⟩|pan d c=>exact⟨λh=>h.elim,λh=>h.2.elim⟩|bad=>exact⟨λh=>h.elim,λh=>h.2.elim⟩
@[go_sem]def auW{d:D}:DQ V dr os keep loc sl Q (.ret d H)↔fF V dr os (loc++[d]) ⟨dU sl keep d,H⟩ Q:=dG
@[go_sem]def auX{d:D}:DQ V dr os keep loc sl Q (.pan d H)↔Q (.pn d) ⟨sl,H⟩:=dG
@[go_sem]def auY{f:FuncId}{a:List O}:aU V dr os keep loc ⟨sl,H⟩ Q (.callp f a)↔ac V f (a.map (O.ev loc sl)) H (DQ V dr os keep loc sl Q):=by unfold aU ac;simp only[step];refine exists_congr λn=>?_;generalize call V n f _ H=r;cases r with|ret d b=>exact⟨λh=>⟨nofun,h⟩,λh=>h.2⟩|pan d b=>exact⟨λh=>⟨nofun,h⟩,λh=>h.2⟩|bad=>exact⟨λh=>h.elim,λh=>h.2.elim⟩
@[go_sem]def auZ{f:FuncId}{b:List O}:aU V dr os keep loc ⟨sl,H⟩ Q (.calx f b)↔ac V f (b.map (O.ev loc sl)) H (O3 H (oX V dr os keep loc sl Q)):=by unfold aU;simp[step];refine exists_congr λn=>?_;generalize call V n f _ H=r;cases r with
 |ret d c=>simp only[sI];cases a:qy H c with|true=>exact⟨λh=>⟨nofun,(yw _ _).1 a,h⟩,λh=>h.2.2⟩|false=>exact⟨λh=>h.elim,λh=>by rw[(yw _ _).2 h.2.1]at a;cases a⟩
 |pan d c=>exact⟨λh=>h.elim,λh=>h.2.elim⟩|bad=>exact⟨λh=>h.elim,λh=>h.2.elim⟩
def afI(a:ab)(K:CR->Prop):CR->Prop|.ret d H=>qz a H=true/\K (.ret d H)|_=>False
@[go_sem]def au0{K:CR->Prop}{d:D}:afI g K (.ret d H)↔qz g H=true/\K (.ret d H):=dG
@[go_sem]def au1{x:O}:aU V dr os keep loc ⟨sl,H⟩ Q (.calv x d)↔zq V (d.map (O.ev loc sl)) H (oX V dr os keep loc sl Q) (x.ev loc sl):=by unfold aU;simp[aby];generalize x.ev loc sl=q;cases q with
 |fn f a b=>cases f with|func f=>
 by_cases c:f=yF;·simp only[DI,G1 c];exact⟨λ⟨_,h⟩=>h.elim,λh=>absurd c h.1⟩
 simp only[DI,E1 c];exact(exists_congr λ_=>zr).trans ⟨λh=>⟨c,h⟩,λh=>h.2⟩|_=>exact⟨λ⟨_,h⟩=>h.elim,λh=>h.elim⟩
 |yl y=>exact exists_congr λ_=>zr|_=>exact⟨λ⟨_,h⟩=>h.elim,λh=>h.elim⟩
theorem cC{f:FuncId}{args:List D}{d:D}(h:bI V f args H d g){K:CR->Prop}:ac V f args H K↔K (.ret d g):=by
 obtain⟨N,h⟩:=h;constructor;·rintro⟨n,a,b⟩;have:=h (max n N) (AAz _ _);grind[OZ]
 intro c;exact⟨N,by grind,by grind⟩
def bI.iff_q{f:FuncId}{args:List D}{d:D}:bI V f args H d g↔ac V f args H (·=.ret d g):=by
 constructor;·intro h;rw[cC h]
 rintro⟨n,b,a⟩;exact .of a
def dh(a:List cU)(K:CR->Prop):Ex->St->Prop|.nm,s|.rt,s=>∃ds,cW s a=some ds/\K (.ret (fS ds) s.hp)|.pn d,s=>K (.pan d s.hp)|_,_=>False
variable{i:List cU}
@[go_sem]def au2{K:CR->Prop}:dh i K .nm x↔∃ds,cW x i=some ds/\K (.ret (fS ds) x.hp):=dG
@[go_sem]def au3{K:CR->Prop}:dh i K .rt x↔∃ds,cW x i=some ds/\K (.ret (fS ds) x.hp):=dG
@[go_sem]def au4{K:CR->Prop}{d:D}:dh i K (.pn d) x↔K (.pan d x.hp):=dG
variable{b:aH}
def O4{args:List D}{K:CR->Prop}(a:args.length=b.npar):(∃n,eO V (call V n) n b args H≠.bad/\K (eO V (call V n) n b args H))↔ak V b.body ⟨args++uu (b.nsl-b.npar),H⟩ (dh b.res K):=by rw[<-vL];refine exists_congr λn=>?_;rw[abx b args H a];generalize aC V _ n _ _=q;obtain⟨c,s⟩:=q;cases c<;>grind[OJ,dh]
theorem O5{f:FuncId}(a:V.fn f=some b)(c:b.pure=false)(d:b.dfr=none)(e:b.rg=none){args:List D}(g:V.ext f args H=none){n:Nat}:call V (n+1) f args H=eO V (call V n) n b args H:=by grind[call,cX]
def ac.body{f:FuncId}{vf:aH}(b:V.fn f=some vf)(c:vf.pure=false){args:List D}{K:CR->Prop}(a:args.length=vf.npar)(h:ak V vf.body ⟨args++uu (vf.nsl-vf.npar),H⟩ (dh vf.res K))(d:V.ext f args H=none:=by first|rfl|assumption)(e:vf.dfr=none:=by first|rfl|assumption)(g:vf.rg=none:=by first|rfl|assumption):ac V f args H K:=by obtain⟨n,i,j⟩:=(O4 a).2 h;exact⟨n+1,by grind[O5],by grind[O5]⟩
def ac.beside{f:FuncId}(a:V.fn f=none)(b:f≠yF){args:List D}{d:D}(c:V.ext f args H=some (d,g)){K:CR->Prop}:ac V f args H K↔K (.ret d g):=cC (.of (n:=1) (by grind[call]))
def aE(V:au)(f:FuncId)(ds:List D)(K:PR->Prop):Prop:=∃n,iH V n f ds≠.bad/\K (iH V n f ds)
def aE.mono{f:FuncId}{ds:List D}{K a:PR->Prop}(h:aE V f ds K)(b:∀r,K r->a r):aE V f ds a:=let⟨n,c,d⟩:=h;⟨n,c,b _ d⟩
def ai.iff_q{f:FuncId}{ds:List D}{d:D}:ai V f ds d↔aE V f ds (·=.ret d):=by
 constructor;·rintro⟨n,h⟩;exact⟨n,by grind,h⟩
 rintro⟨n,_,h⟩;exact⟨n,h⟩
def fG(own:Bool)(K:PR->Prop):CR->Prop|.ret d H=>∃a,m7 own H d=some a/\K (.ret a)|.pan d H=>∃a b,bC bE H d=some (a,b)/\K (.pan a)|.bad=>False
@[go_sem]def au5{own:Bool}{K:PR->Prop}{d:D}:fG own K (.ret d H)↔∃a,m7 own H d=some a/\K (.ret a):=dG
@[go_sem]def au6{own:Bool}{K:PR->Prop}{d:D}:fG own K (.pan d H)↔∃a b,bC bE H d=some (a,b)/\K (.pan a):=dG
theorem O6{n:Nat}{ds:List D}{K:PR->Prop}(h:cX V (call V n) n b ds []≠.bad)(a:fG b.own K (cX V (call V n) n b ds [])):mi V (call V n) n b ds≠.bad/\K (mi V (call V n) n b ds):=by unfold mi;generalize cX V _ n b ds []=r at h a;cases r with|bad=>grind|ret d H=>obtain⟨c,e,f⟩:=a;grind|pan d H=>obtain⟨c,g,e,f⟩:=a;grind
def aE.body{f:FuncId}{vf:aH}(a:V.fn f=some vf){ds:List D}{K:PR->Prop}(b:ds.length=vf.npar)(h:ak V vf.body ⟨ds++uu (vf.nsl-vf.npar),[]⟩ (dh vf.res (fG vf.own K)))(c:V.pext f ds=none:=by first|rfl|assumption)(d:vf.dfr=none:=by first|rfl|assumption)(g:vf.rg=none:=by first|rfl|assumption):aE V f ds K:=by
 obtain⟨n,i,j⟩:=(O4 b).2 h;refine⟨n+1,?_⟩;simp only[iH,a,iG,c];have e:cX V (call V n) n vf ds []=eO V (call V n) n vf ds []:=by grind[cX]
 grind[O6]
def ai.body{f:FuncId}{vf:aH}(a:V.fn f=some vf){ds:List D}{d:D}(b:ds.length=vf.npar)(h:ak V vf.body ⟨ds++uu (vf.nsl-vf.npar),[]⟩ (dh vf.res (fG vf.own (·=.ret d))))(c:V.pext f ds=none:=by first|rfl|assumption)(e:vf.dfr=none:=by first|rfl|assumption)(g:vf.rg=none:=by first|rfl|assumption):ai V f ds d:=ai.iff_q.2 (.body a b h c e g)
def au7(own:Bool)(H1:ab)(K:CR->Prop):PR->Prop|.ret d=>K (.ret (dV own d H1).1 (dV own d H1).2)|.pan d=>K (.pan d H1)|.bad=>False
def DU(a:aH)(H H1:ab)(K:CR->Prop):PR->Prop|.ret d=>K (.ret (dV a.own d (ji a.fre d H H1)).1 (dV a.own d (ji a.fre d H H1)).2)|.pan d=>K (.pan d H1)|.bad=>False
def ac.pure0{f:FuncId}(e:V.fn f=some b)(g:b.pure=true){args ds:List D}{H1:ab}(i:aX bE H args=some (ds,H1)){K:CR->Prop}(h:aE V f ds (DU b H H1 K)):ac V f args H K:=by obtain⟨n,c,a⟩:=h;cases n with|zero=>exact absurd rfl c|succ n=>refine⟨n+1,?_⟩;simp only[iH,e]at c a;simp only[call,e,g,i];generalize iG V _ n f b ds=r at c a;cases r with|ret d=>exact⟨nofun,a⟩|pan d=>exact⟨nofun,a⟩|bad=>grind
def ak.at{c:aQ}(h:ak V c x Q):∃N a s,a≠.bad/\Q a s/\∀n,N<=n->aC V (call V n) n c x=(a,s):=by obtain⟨N,b,e⟩:=h;exact⟨N,_,_,b,e,λn d=>oG (sV V N n d) d c x b⟩
def ne(V:au)(e:aH)(q:eY)(base:Nat)(b:List D)(K:CR->Prop)(x:D)(c:St):Prop:=ak V q.body ⟨(b++uu (q.ns-b.length)).set q.rk x,c.hp⟩ λd a=>(d=.nm\/d=.rt)/\base<=a.hp.length/\∃ds,cW ⟨c.sl,a.hp⟩ e.res=some ds/\K (.ret (fS ds) a.hp)
def vP(V:au)(b:aH)(q:eY)(base:Nat)(c:List D)(K:CR->Prop):Ex->St->Prop|.nm,a|.rt,a=>ne V b q base c K .ni a|.pn x,a=>ne V b q base c K x a|_,_=>False
def DV(V:au)(b:aH)(q:eY)(base:Nat)(K:CR->Prop):Ex->St->Prop|.nm,a=>a.sl.all D.noBx=true/\ak V b.body a (vP V b q base ((q.caps.map O.s).map (O.ev [] a.sl)) K)|_,_=>False
variable{f:eY}
@[go_sem]def au8{base:Nat}{K:CR->Prop}:vP V b f base a K .nm x↔ne V b f base a K .ni x:=dG
@[go_sem]def au9{base:Nat}{K:CR->Prop}:vP V b f base a K .rt x↔ne V b f base a K .ni x:=dG
@[go_sem]def ava{base:Nat}{K:CR->Prop}{x:D}{s:St}:vP V b f base a K (.pn x) s↔ne V b f base a K x s:=dG
@[go_sem]def avb{base:Nat}{K:CR->Prop}:DV V b f base K .nm x↔x.sl.all D.noBx=true/\ak V b.body x (vP V b f base ((f.caps.map O.s).map (O.ev [] x.sl)) K):=dG
def afJ{base:Nat}{K:CR->Prop}{x:D}{c:St}(h:ne V b f base a K x c):∃N,∃r,r≠.bad/\K r/\∀n,N<=n->jh V (call V n) n b f base a x c=r:=by obtain⟨N,e,d,_,⟨g,i,ds,hds,hk⟩,hn⟩:=ak.at h;refine⟨N,.ret _ d.hp,nofun,hk,λn j=>?_⟩;grind[vL,jh]
def afK(v:b.dfr=some f){args:List D}{K:CR->Prop}(w:args.length=b.npar)(h:ak V f.pre ⟨args++uu (b.nsl-b.npar),H⟩ (DV V b f H.length K)):∃n,cX V (call V n) n b args H≠.bad/\K (cX V (call V n) n b args H):=by obtain⟨l,m,a,_,i,o⟩:=ak.at h;cases m with
 |nm=>
 obtain⟨y,p⟩:=i;obtain⟨q,j,d,_,c,z⟩:=ak.at p;have e:∀x,ne V b f H.length ((f.caps.map O.s).map (O.ev [] a.sl)) K x d->(∀n,aC V (call V n) n b.body a=(j,d)->aC V (call V n) n f.pre ⟨args++List.replicate (b.nsl-b.npar) .u,H⟩=(.nm,a)->cX V (call V n) n b args H=jh V (call V n) n b f H.length ((f.caps.map O.s).map (O.ev [] a.sl)) x d)->∃n,cX V (call V n) n b args H≠.bad/\K (cX V (call V n) n b args H):=λx s A=>by obtain⟨t,r,hr,B,C⟩:=afJ s;have g:=o (l+q+t) (by omega);grind[vL]
 cases j with|nm=>exact e .ni c λn k g=>by grind[cX,jK]|rt=>exact e .ni c λn k g=>by grind[cX,jK]|pn x=>exact e x c λn k g=>by grind[cX,jK]|ex id=>exact c.elim|bad=>grind
 |_=>exact i.elim
def ac.dfr{f:FuncId}{q:eY}(d:V.fn f=some b)(e:b.pure=false)(a:b.dfr=some q){args:List D}{K:CR->Prop}(c:args.length=b.npar)(h:ak V q.pre ⟨args++uu (b.nsl-b.npar),H⟩ (DV V b q H.length K))(g:V.ext f args H=none:=by first|rfl|assumption):ac V f args H K:=by obtain⟨n,i,j⟩:=afK a c h;refine⟨n+1,?_⟩;grind[call]
def tJ(P:St->Prop)(Q:Ex->St->Prop):Ex->St->Prop|.nm,s=>P s|.ex id,s=>Q (.ex id) s|.rt,s=>Q .rt s|.pn d,s=>Q (.pn d) s|.bad,_=>False
@[go_sem]def avc{P:St->Prop}:tJ P Q .nm x↔P x:=dG
@[go_sem]def avd{P:St->Prop}:tJ P Q (.ex y) x↔Q (.ex y) x:=dG
@[go_sem]def ave{P:St->Prop}:tJ P Q .rt x↔Q .rt x:=dG
@[go_sem]def avf{P:St->Prop}{d:D}:tJ P Q (.pn d) x↔Q (.pn d) x:=dG
def ak.loop{c:aQ}(I:Nat->St->Prop)(k:Nat)(b:I k x)(h:∀i s,I i s->ak V c s (tJ (λs'=>∃j,j<i/\I j s') Q)):ak V (.loop c) x Q:=by induction k using Nat.strongRecOn generalizing x with|ind k d=>rw[bv];refine(h k x b).mono λe s a=>?_;cases e with|nm=>obtain⟨j,f,g⟩:=a;exact d j f g|bad=>exact a.elim|_=>exact a
def ak.up{c:aQ}(I:Nat->St->Prop)(n:Nat)(e:I 0 x)(h:∀i s,i<=n->I i s->ak V c s (tJ (λs'=>i<n/\I (i+1) s') Q)):ak V (.loop c) x Q:=by refine ak.loop (λj s=>j<=n/\I (n-j) s) n ⟨Hk _,by grind⟩ (λj s⟨f,b⟩=>(h _ s (ACN _ _) b).mono λd s' a=>?_);cases d with|nm=>obtain⟨g,k⟩:=a;refine⟨j-1,by omega,by omega,?_⟩;grind|bad=>exact a.elim|_=>exact a
end
section
variable{H:ab}
@[go_sem]def avg:eM []=true:=rfl
@[go_sem]def avh{x:Bool}:jf (.b x)=[]:=rfl
@[go_sem]def avi{k:IntKind}{x:Int}:jf (.i k x)=[]:=rfl
@[go_sem]def avj{x:List UInt8}:jf (.s x)=[]:=rfl
@[go_sem]def avl:jf .nil=[]:=rfl
@[go_sem]def avm:jf .z=[]:=rfl
variable{c:List (List D)}
@[go_sem]def avn{w:Nat}:jf (.im w c)=[]:=rfl
@[go_sem]def avo{w:Nat}:jf (.ow w c)=[]:=rfl
variable{y z:Nat}
@[go_sem]def avp{a n l:Nat}:jf (.mu a n y l)=[a]:=rfl
@[go_sem]def avq{l:List D}:jf (.ag l)=l.flatMap ib:=rfl
@[go_sem]def avr{l:List D}:jf (.tu l)=l.flatMap gn:=rfl
@[go_sem]def avs{x:Bool}:gn (.b x)=[]:=rfl
@[go_sem]def avt{k:IntKind}{x:Int}:gn (.i k x)=[]:=rfl
@[go_sem]def avu{x:List UInt8}:gn (.s x)=[]:=rfl
@[go_sem]def avv:gn .nil=[]:=rfl
@[go_sem]def avw:gn .z=[]:=rfl
@[go_sem]def avx{w:Nat}:gn (.im w c)=[]:=rfl
@[go_sem]def avy{a n l:Nat}:gn (.mu a n y l)=[a]:=rfl
@[go_sem]def avz{l:List D}:gn (.ag l)=l.flatMap ib:=rfl
@[go_sem]def avA{x:Bool}:ib (.b x)=[]:=rfl
@[go_sem]def avB{k:IntKind}{x:Int}:ib (.i k x)=[]:=rfl
@[go_sem]def avC{x:List UInt8}:ib (.s x)=[]:=rfl
@[go_sem]def avD:ib .nil=[]:=rfl
@[go_sem]def avE:ib .z=[]:=rfl
@[go_sem]def avF{w:Nat}:ib (.im w c)=[]:=rfl
@[go_sem]def avG{a n l:Nat}:ib (.mu a n y l)=[a]:=rfl
@[go_sem]def avH{l:List D}:ia H (.tu l)=(je (gm H) l).map .tu:=rfl
@[go_sem]def avI{l:List D}:ia H (.ag l)=(je (ff H) l).map .ag:=rfl
@[go_sem]def avJ{l:List D}:gm H (.ag l)=(je (ff H) l).map .ag:=rfl
@[go_sem]def avK{x:Bool}:ia H (.b x)=some (.b x):=rfl
@[go_sem]def avL{k:IntKind}{x:Int}:ia H (.i k x)=some (.i k x):=rfl
@[go_sem]def avM{x:List UInt8}:ia H (.s x)=some (.s x):=rfl
@[go_sem]def avN:ia H .nil=some .nil:=rfl
@[go_sem]def avO:ia H .z=some .z:=rfl
@[go_sem]def avP{w:Nat}:ia H (.im w c)=some (.im w c):=rfl
@[go_sem]def avQ{a n l:Nat}:ia H (.mu a n y l)=ff H (.mu a n y l):=rfl
@[go_sem]def avR{x:Bool}:gm H (.b x)=some (.b x):=rfl
@[go_sem]def avS{k:IntKind}{x:Int}:gm H (.i k x)=some (.i k x):=rfl
@[go_sem]def avT{x:List UInt8}:gm H (.s x)=some (.s x):=rfl
@[go_sem]def avU:gm H .nil=some .nil:=rfl
@[go_sem]def avV:gm H .z=some .z:=rfl
@[go_sem]def avW{w:Nat}:gm H (.im w c)=some (.im w c):=rfl
@[go_sem]def avX{a n l:Nat}:gm H (.mu a n y l)=ff H (.mu a n y l):=rfl
@[go_sem]def avY{x:Bool}:ff H (.b x)=some (.b x):=rfl
@[go_sem]def avZ{k:IntKind}{x:Int}:ff H (.i k x)=some (.i k x):=rfl
@[go_sem]def av0{x:List UInt8}:ff H (.s x)=some (.s x):=rfl
@[go_sem]def av1:ff H .nil=some .nil:=rfl
@[go_sem]def av2:ff H .z=some .z:=rfl
@[go_sem]def av3{w:Nat}:ff H (.im w c)=some (.im w c):=rfl
@[go_sem]def av4{α β:Type}{f:α->Option β}:je f []=some []:=rfl
def afL{β:Type}(r:Option (List β)):Option β->Option (List β)|some y=>r.map (y::·)|none=>none
@[go_sem]def av5{β:Type}{y:β}{a:List β}:afL (some a) (some y)=some (y::a):=rfl
attribute[go_sem]List.flatMap_cons List.flatMap_nil
@[go_sem]def av6{α:Type}{a:α}{p:α->Prop}:(∃x,a=x/\p x)↔p a:=by grind
end
def afM(x:Bool):(x==true)=x:=by simp_all
def afN(x:Bool):(x==false)=!x:=by grind
attribute[go_sem]ac4 aer aes aet aeu aev aew aex aey aez aeA aep aeq ac0 ac1
attribute[go_sem]abw adJ adK acd ae0 ae1 adL adM adN adO adP adQ adR adS adT adU adV adW adX adY adZ ad0 ad1 ad2 ad3 ad4 ad5 ad6 ad7 ad8 ad9 aea aeb aec aed aee aef aeg aeh aei aej aek ael aem aen aeo aeB aeC aeD aeE aeF aeG aeH aeI aeJ aeK aeL aeM aeN aeO aeP aeQ aeR aeS aeT aeU aeV aeW aeX aeY aeZ ae2 ae3 ae4 ae5 ae6 ae7 ae8 ae9 afa afb afc afd afe aff afg afh afi afj afk afl afm afn afo afp afq afr afs aft afu afv afw afx afy afz afA afB afC
attribute[go_sem]OL abz abA abB abC abD abE OO abF abG abJ abK abT abV abX abY abZ ab1 ab2 ab3 ab5 ab6 ab7 ace acf acg ach OS aci ack acm acn aco acp acq acr acs act acu acv acw acy acA acB acD acE acG acH acI acJ acN acO acP acQ acR acS acY ac6 adf adg adh adi adl adm adn ado adp adq adr ads adt adu adv adw adx ady adz adA adB adC adD adE adF adG adH adI dU dS cA
attribute[go_sem]List.getD_cons_zero List.getD_cons_succ List.getD_nil List.getElem?_cons_zero List.getElem?_cons_succ List.getElem?_nil List.set_cons_zero List.set_cons_succ List.nil_append List.cons_append List.append_assoc List.append_nil List.length_cons List.length_nil List.drop_succ_cons List.drop_zero List.drop_nil List.take_succ_cons List.take_zero List.take_nil List.map_cons List.map_nil List.all_cons List.all_nil Bool.and_true Bool.true_and Bool.and_false Bool.false_and Nat.le_refl Nat.zero_add if_true if_false decide_true decide_false Bool.not_true Bool.not_false Bool.false_eq_true Bool.true_eq_false Nat.add_zero Int.cast_ofNat_Int Option.map_some Option.map_none Nat.zero_mul Option.some.injEq beq_self_eq_true afM afN Bool.not_eq_eq_eq_not decide_eq_true_eq decide_eq_false_iff_not true_implies false_implies true_and and_true forall_const
end
section
def HR.adopt{K:Kn}{μ:Mu}{H:ab}{W:World}(h:HR K μ H W)(l:br)(b:an)(E:l.blk<W.heap.size)(t:¬bT μ H l.blk)(V:∀o v,K l.blk o≠some v)(F:kC K (μ.upd H.length l) (H++[b]) W l b):HR K (μ.upd H.length l) (H++[b]) W/\aS K μ H K (μ.upd H.length l) (H++[b])/\∀r,bT (μ.upd H.length l) (H++[b]) r->bT μ H r\/r=l.blk:=by
 have u:=aS.push (K:=K) h.dom l b;have j:∀id d g,(μ.upd H.length l) id=some d->(H++[b])[id]?=some g->(id=H.length/\d=l/\g=b)\/(id<H.length/\μ id=some d/\H[id]?=some g):=by grind[Mu.upd]
 have G:∀id d,(μ.upd H.length l) id=some d->(id=H.length/\d=l)\/(id<H.length/\μ id=some d):=by
  intro id d a;simp[Mu.upd]at a;split at a;·grind
  exact .inr ⟨h.dom id d a,a⟩
 have og:∀r,bT (μ.upd H.length l) (H++[b]) r->bT μ H r\/r=l.blk:=by
  rintro r⟨id,d,g,a,c,e,f⟩;rcases j id d g a c with⟨_,rfl,_⟩|⟨_,i,k⟩;·omega
  exact .inl ⟨id,d,g,i,k,e,f⟩
 refine⟨⟨λid d a=>?_,λid hid=>?_,λid d g a c=>?_,λid d a=>?_,λid m n p q s I J L M w y e=>?_,λg o' v e=>?_,λg o' v e N=>?_⟩,u,og⟩;·grind
 ·simp[Rp,n3]at hid;by_cases hi:id=H.length;·simp_all[Mu.upd]
  obtain⟨d,X⟩:=h.tot id (by omega);grind[Mu.upd]
 ·rcases j id d g a c with⟨_,rfl,rfl⟩|⟨_,i,k⟩;·exact F
  exact(h.blk id d g i k).ext u (λ_=>rfl)
 ·rcases G id d a with⟨_,rfl⟩|⟨_,i⟩;·exact E
  exact h.lt id d i
 ·rcases j id n q I L with⟨P,Q,z1⟩|⟨P,z,A⟩<;>rcases j m p s J M with⟨S,U,z2⟩|⟨S,B,C⟩;·omega
  ·subst Q;exact(t ⟨m,p,s,B,C,y,e.symm⟩).elim
  ·subst U;exact(t ⟨id,n,q,z,A,w,e⟩).elim
  exact h.inj id m n p q s z B A C w y e
 ·exact h.kn g o' v e
 rcases og g N with x|x;·exact h.kf g o' v e x
 grind
section
variable{K1:Kn}{μ:Mu}{H1:ab}{W:World}{K':Kn}{μ':Mu}{Hc:ab}{W':World}
structure PS(K1:Kn)(μ:Mu)(H1:ab)(W:World)(K':Kn)(μ':Mu)(W':World)(used:List Nat)(μx:Mu)(Hx:ab):Prop where
 hr:HR K' μx Hx W'
 nx:Nx K1 μ H1 W K' μx Hx W'
 own:∀r,bT μx Hx r->r<W.heap.size\/∃a∈used,∃l,μ' a=some l/\l.blk=r
def PS.start(d:HR K1 μ H1 W)(g:HR K' μ' Hc W')(nx:Nx K1 aG [] W K' μ' Hc W'):PS K1 μ H1 W K' μ' W' [] μ H1:=by
 have f:∀r,¬bT aG [] r:=λr⟨id,l,b,a,_⟩=>by cases a
 have i:∀r,bT μ H1 r->r<W.heap.size:=λr⟨id,l,b,a,_,_,e⟩=>e▸d.lt id l a;have kg:∀b o v,K' b o=some v->K1 b o=some v\/W.heap.size<=b:=λb o v e=>by
  rcases nx.kg b o v e with x|x|x;·exact .inl x
  ·exact(f _ x).elim
  exact .inr x
 have ext:aS K1 μ H1 K' μ H1:=⟨nx.ext.k,λid l b a c=>⟨l,b,a,c,.refl _ _⟩⟩;refine⟨⟨d.dom,d.tot,λid l b a c=>(d.blk id l b a c).ext ext (λ_=>nx.keep _ (d.lt id l a) (f _)),λid l a=>em (d.lt id l a) nx.size,d.inj,g.kn,λb o v e j=>?_⟩,⟨ext,nx.os,nx.tape,nx.output,nx.size,λr hr _=>nx.keep r hr (f _),λr h=>.inl h,λb o v e=>(kg b o v e).imp id .inr⟩,λr h=>.inl (i r h)⟩;rcases kg b o v e with x|x;·exact d.kf b o v x j
 grind
def D.flat:D->Bool|.b _|.i _ _|.s _|.nil|.z|.im _ _|.np|.mnil|.fn _ [] []|.nf|.ni=>true|_=>false
def VR.any{K:Kn}{μ μ':Mu}{H f:ab}{d:D}{v:Value}(h:VR K μ H d v)(c:d.flat=true):VR K μ' f d v:=by
 cases h<;>first|exact .b ..|exact .i ..|exact .s ..|exact .nil ..|exact .z ..|exact .np ..|exact .mnil ..|exact .nf ..|exact .ni ..|(cases c;done)|skip
 ·exact .im _ _ _ _ _ _ _ _ (by omega) (by omega) (by omega) (by omega) (by omega)
 rename_i a b g k l m n o;cases a with|cons=>cases c|nil=>cases b with|cons=>cases c|nil=>exact .fn _ _ _ [] [] g k l m (λj d v e=>by grind) (λj d v e=>by grind)
def NU{s:List Nat}{C:Mu}{f:ab}(E:HR K' μ' Hc W')(nx:Nx K1 aG [] W K' μ' Hc W')(g:PS K1 μ H1 W K' μ' W' s C f){d t:D}{v:Value}(L:VR K' μ' Hc d v)(hs:ff Hc d=some t)(Z:∀a∈ib d,a∉s)(aa:∀a∈s,∃b,Hc[a]?=some b/\b.live=true):∃p u,PS K1 μ H1 W K' μ' W' (u++s) p (jg t f).2/\aS K' C f K' p (jg t f).2/\VR K' p (jg t f).2 (jg t f).1 v/\(∀a∈u,a∈ib d)/\∀a∈u,∃b,Hc[a]?=some b/\b.live=true:=by
 have keep:∀(e:D),jg e f=(e,f)->e.flat=true->VR K' μ' Hc e v->∃p u,PS K1 μ H1 W K' μ' W' (u++s) p (jg e f).2/\aS K' C f K' p (jg e f).2/\VR K' p (jg e f).2 (jg e f).1 v/\(∀a∈u,a∈ib d)/\∀a∈u,∃b,Hc[a]?=some b/\b.live=true:=λe he hk ae=>by rw[he];exact⟨C,[],g,.refl _ _ _,ae.any hk,λa h=>(by cases h),λa h=>(by cases h)⟩
 unfold ff at hs;split at hs<;>first|grind|(cases hs;exact keep _ rfl rfl L)|skip
 rename_i a n k len;split at hs
 ·rename_i w rows kc lk harr;split at hs;·rename_i M;obtain⟨z,F⟩:=iI harr;cases L with|mu _ _ _ _ _ _ cap blk o l w2 ax ay p2 a0 A N a1 af=>rw[z]at N;cases N;obtain⟨P,g2,G,g4,g5,g6⟩:=af F;have Q:=E.blk a l _ A z;cases lk with|true=>cases hs;obtain⟨_,H,_,I⟩:=Q;exact keep _ rfl rfl (VR.part H I F M G P _ _)|false=>
   cases hs;obtain⟨H,a6,a7,vs,ty,hW,ai,I⟩:=Q;let q:br:=⟨l.blk,l.off+k*w,l.size⟩;have S:bT μ' Hc l.blk:=⟨a,l,_,A,z,rfl,rfl⟩;have aj:W.heap.size<=l.blk:=by
    rcases nx.og _ S with⟨id,_,_,e,_⟩|x;·cases e
    exact x
   have U:=qK rows k len n F M;have ak:gO w _:=λi r e=>by obtain⟨J,_⟩:=fU rows k len i r e;exact H _ r J
   have al:l.off+k*w+len*w<=l.size:=by have:=N3 w G;have K:(k+cap)*w=k*w+cap*w:=il ..;omega
   have am:=g.hr.adopt q (.ar w ((rows.drop k).take len) none true false) (E.lt a l A) (λB=>?_) (λo v e=>E.kf _ _ _ e S) ?_
   ·obtain⟨an,V,X⟩:=am;refine⟨_,[a],⟨an,?_,λr B=>?_⟩,V,?_,λb m=>m,λb m=>?_⟩
    ·refine⟨g.nx.ext.trans V,g.nx.os,g.nx.tape,g.nx.output,g.nx.size,g.nx.keep,λr B=>?_,g.nx.kg⟩;rcases X r B with x|rfl;·exact g.nx.og r x
     exact .inr aj
    ·rcases X r B with x|rfl
     ·rcases g.own r x with y|⟨b,m,y⟩;·exact .inl y
      exact .inr ⟨b,fd _ m,y⟩
     exact .inr ⟨a,TB _ (ACF a),l,A,rfl⟩
    ·show VR K' _ _ (.mu _ _ 0 _) _;rw[U];refine .mu _ _ _ _ _ _ cap blk o q w ((rows.drop k).take len) none true false (by simp[Mu.upd]) (by simp[jg]) (by omega) (λ_=>⟨?_,by omega,G,by omega,?_,λc e=>by cases e⟩)
     ·rcases P with x|⟨x,y⟩;·exact .inl x
      exact .inr ⟨x,by simp[q,y]⟩
     simp[i4,q];have K:(k+cap)*w=k*w+cap*w:=il ..;omega
    obtain rfl:=kz.1 m;exact⟨_,z,rfl⟩
   ·rcases g.own _ B with x|⟨b,m,lb,x,y⟩;·have:q.blk=l.blk:=rfl;omega
    obtain⟨bb,z1,z2⟩:=aa b m;have:=E.inj b a lb l bb _ x A z1 z z2 rfl y;subst this;exact Z b (ACF b) m
   refine⟨ak,λc e=>(by cases e),by rw[U];exact al,vs,ty,hW,ai,λi r j d J K=>?_⟩;obtain⟨e3,hi⟩:=fU rows k len i r J;obtain⟨v,h1,Y⟩:=I _ r j d e3 K;refine⟨v,?_,Y.1,Y.2⟩;rw[<-h1];congr 1;simp[q,il];omega
  grind
 grind
def aaJ{x:Nat}{a:List Nat}(h:eM (x::a)=true):x∉a/\eM a=true:=by grind[eM]
def NW:∀{c b:List Nat},eM (c++b)=true->eM c=true/\eM b=true/\∀a∈c,a∉b|[],b,h=>⟨rfl,h,λa e=>by cases e⟩|x::c,b,h=>by obtain⟨f,d⟩:=aaJ h;obtain⟨g,i,j⟩:=NW d;grind[eM]
def yY(K1:Kn)(μ:Mu)(H1:ab)(W:World)(K':Kn)(μ':Mu)(Hc:ab)(W':World)(e f:List Nat)(g:Mu)(h d:ab)(R:Mu->Prop):Prop:=∃c u,PS K1 μ H1 W K' μ' W' (u++e) c d/\aS K' g h K' c d/\R c/\(∀a∈u,a∈f)/\∀a∈u,∃b,Hc[a]?=some b/\b.live=true
def NX(z:ab->D->Option D)(l:D->ab->D×ab)(m:D->List Nat)(G:∀(f:List Nat)(g:Mu)(c:ab)(d i:D)(v:Value),PS K1 μ H1 W K' μ' W' f g c->VR K' μ' Hc d v->z Hc d=some i->(∀a∈m d,a∉f)->eM (m d)=true->(∀a∈f,∃b,Hc[a]?=some b/\b.live=true)->yY K1 μ H1 W K' μ' Hc W' f (m d) g c (l i c).2 (λp=>VR K' p (l i c).2 (l i c).1 v))(k:List D->ab->List D×ab)(I:∀H,k [] H=([],H))(r:∀d ds H,k (d::ds) H=((l d H).1::(k ds (l d H).2).1,(k ds (l d H).2).2)):∀(ds n:List D)(vs:List Value)(f:List Nat)(g:Mu)(c:ab),PS K1 μ H1 W K' μ' W' f g c->aY K' μ' Hc ds vs->je (z Hc) ds=some n->(∀a∈ds.flatMap m,a∉f)->eM (ds.flatMap m)=true->(∀a∈f,∃b,Hc[a]?=some b/\b.live=true)->yY K1 μ H1 W K' μ' Hc W' f (ds.flatMap m) g c (k n c).2 (λp=>aY K' p (k n c).2 (k n c).1 vs):=by
 intro ds;induction ds with|nil=>
 intro n vs f g c s o hs t A w;cases hs;have:=by have:=o.1;simpa using this.symm
 subst this;rw[I];exact⟨g,[],s,.refl _ _ _,⟨rfl,λj d v e=>by simp at e⟩,λa h=>(by cases h),λa h=>(by cases h)⟩|cons d ds J=>
 intro n vs f g c s o hs t A w;simp[je]at hs;split at hs
 ·rename_i d1 K;split at hs;·rename_i L M;cases hs;cases vs with|nil=>have:=o.1;simp at this|cons v vs=>
   obtain⟨N,P,Q⟩:=NW A;obtain⟨p,u,S,U,V,B,C⟩:=G f g c d d1 v s (o.2 0 d v rfl rfl) K (λa h=>t a (TB _ h)) N w;obtain⟨X,Y,Z,E,F,aa,ac⟩:=J L vs _ p _ S ⟨by have:=o.1;simpa using this,λj i y e q=>o.2 (j+1) i y (by simpa using e) (by simpa using q)⟩ M (λa h hm=>by
 rcases bN.1 hm with x|x;·exact Q a (B a x) h
 exact t a (fd _ h) x) P (λa h=>(bN.1 h).elim (C a) (w a));refine⟨X,Y++u,by rw[dn,r];exact Z,by rw[r];exact U.trans E,?_,λa h=>?_,λa h=>(bN.1 h).elim (ac a) (C a)⟩;·rw[r];refine⟨by simp[F.1],λj i y e q=>?_⟩;cases j with|zero=>cases e;cases q;exact V.ext E|succ j=>exact F.2 j i y (by simpa using e) (by simpa using q)
   rcases bN.1 h with x|x;·exact fd _ (aa a x)
   exact TB _ (B a x)
  cases hs
 cases hs
def NY(w:HR K' μ' Hc W')(nx:Nx K1 aG [] W K' μ' Hc W')(g:List Nat)(i:Mu)(c:ab)(d j:D)(v:Value)(o:PS K1 μ H1 W K' μ' W' g i c)(p:VR K' μ' Hc d v)(hs:gm Hc d=some j)(s:∀a∈gn d,a∉g)(y:eM (gn d)=true)(q:∀a∈g,∃b,Hc[a]?=some b/\b.live=true):yY K1 μ H1 W K' μ' Hc W' g (gn d) i c (lg j c).2 (λf=>VR K' f (lg j c).2 (lg j c).1 v):=by
 have z:∀{e:D},ff Hc d=some e->gn d=ib d->(∀r,e≠.ag r)->yY K1 μ H1 W K' μ' Hc W' g (gn d) i c (lg e c).2 (λf=>VR K' f (lg e c).2 (lg e c).1 v):=λ{e}A B E=>by
  have:lg e c=jg e c:=by cases e<;>first|rfl|grind
  rw[this,B];obtain⟨f,u,k,l,h,m,n⟩:=NU w nx o p A (by grind) q;exact⟨f,u,k,l,h,m,n⟩
 cases d with|ag r=>simp[gm,ka]at hs;obtain⟨C,t,rfl⟩:=hs;obtain⟨vs,rfl,x⟩:=p.ag_inv;obtain⟨f,u,k,l,h,m,n⟩:=NX _ _ ib (λg i c d j v o p hs s _ q=>by obtain⟨f,u,k,l,h,m,n⟩:=NU w nx o p hs s q;exact⟨f,u,k,l,h,m,n⟩) vg (λ_=>rfl) (λ_ _ _=>rfl) r C vs g i c o x.1 t s y q;exact⟨f,u,k,l,.ag _ _ _ _ h.1 x.2 h.2,m,n⟩|_=>
 refine z hs rfl (λr t=>?_);subst t;simp only[gm,ff]at hs;repeat' split at hs
 all_goals first|(cases hs;done)|skip
 all_goals(repeat' split at hs)<;>cases hs
def aaK(k:HR K' μ' Hc W')(nx:Nx K1 aG [] W K' μ' Hc W')(o:HR K1 μ H1 W)(d c:D)(v:Value)(g:VR K' μ' Hc d v)(hs:ia Hc d=some c)(l:eM (jf d)=true):∃b,HR K' b (place c H1).2 W'/\Nx K1 μ H1 W K' b (place c H1).2 W'/\VR K' b (place c H1).2 (place c H1).1 v:=by
 have i:=PS.start o k nx;have n:∀{e:D},gm Hc d=some e->jf d=gn d->(∀m,e≠.tu m)->∃b,HR K' b (place e H1).2 W'/\Nx K1 μ H1 W K' b (place e H1).2 W'/\VR K' b (place e H1).2 (place e H1).1 v:=λ{e}p F G=>by
  have:place e H1=lg e H1:=by cases e<;>first|rfl|grind
  rw[this];obtain⟨b,u,f,q,j,r,s⟩:=NY k nx [] μ H1 d e v i g p (λa _ h=>by cases h) (by grind) (λa h=>by cases h);exact⟨b,f.hr,f.nx,j⟩
 cases d with|tu ds=>simp[ia,ka]at hs;obtain⟨t,w,rfl⟩:=hs;obtain⟨vs,rfl,x⟩:=g.tu_inv;obtain⟨b,u,f,q,j,r,s⟩:=NX _ _ gn (λy z A d c v i g hs B l C=>NY k nx y z A d c v i g hs B l C) vh (λ_=>rfl) (λ_ _ _=>rfl) ds t vs [] μ H1 i x w (λa _ h=>by cases h) l (λa h=>by cases h);exact⟨b,f.hr,f.nx,.tu _ _ _ _ j.1 j.2⟩|ag m=>refine n hs rfl (λH I=>?_);simp_all[ia,gm]|_=>
 refine n hs rfl (λm E=>?_);subst E;simp only[ia,gm,ff]at hs;repeat' split at hs
 all_goals first|(cases hs;done)|skip
 all_goals(repeat' split at hs)<;>cases hs
end
end
end Go.Dm
