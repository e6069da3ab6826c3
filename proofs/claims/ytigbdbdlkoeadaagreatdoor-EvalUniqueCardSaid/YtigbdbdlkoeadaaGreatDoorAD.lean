/-
  Part of the proof.
-/
import Derived.Test.YtigbdbdlkoeadaaGreatDoorAC
import Derived.OrdersIn
import Derived.RangeFuncLeaves
import Derived.RangeFuncRecord
import Derived.Recover
import Derived.Attr
import Derived.IntWalk
set_option linter.all false
namespace Go.Dm
section
section
variable {c:CX} {E:En} {nd:List Deferred} {L:Nat -> Option Nat} {K:Kn} {μ:Mu} {sl:List D} {H:ab} {a:Act} {W:World} {o:Oper} {loc:List D} {done:Nat -> Prop}
theorem afk {c:CX} {i:Nat} {vo:aq} {cl:Call} (ho:o.op = .defer cl) (h:jC c i o vo=true):vo.op = .stk:=by
 obtain⟨op,keep,guard⟩:=vo
 cases op<;>first|rfl|(exfalso;simp only[jC,ho]at h;first|(cases h;done)|(simp at h;done))
theorem F6 {i:Nat} {vo:aq} (ok:xS c i o vo) {cl:FuncId -> List D -> ab -> CR} {st:St} (hs:step c.V cl loc st vo.op ≠ .bad) : ∀ q,o.op ≠ .defer q:=fun q e=>hs (by rw[afk e ok.op];rfl)
theorem sw (rg:gU c) (ri:RI c E nd done L K μ loc sl H a W) {T:Kn -> World -> Prop} (vok:dK c.P c.V T) (hT:TE T E) {cl:FuncId -> List D -> ab -> CR} (cs:fX c.P T cl) {i:Nat} {vo:aq} (hvo:c.vos[i]?=some vo) (hd : ∀ j∈vo.locR,done j)
  (hfirst:vo.op.isBox=true -> ∀ k,vo.keep=some k -> ∀ j,done j -> c.rt[j]?≠some (some k)) {dr:Option (Bs×Bool)} {loc1:List D} {st1:St} (h:one c.V cl dr c.vos i loc ⟨sl,H⟩=some (loc1,st1))
  {next:Act -> World -> Prop} {Q:Exit -> Act -> World -> Prop} {rd:Option Nat} {m:Nat}
  (hn : ∀ L' K' μ' a' W',RI c E nd (fun j=>j=i \/ done j) L' K' μ' loc1 st1.sl st1.hp a' W' -> next a' W'):wpOpIn (FW rd) m c.P c.ops Q i next a W:=by
 have hi:i<c.ops.size:=by rw[rg.sz];exact ay hvo
 have ho:=ma hi
 have ok:=ql (rg.op i _ vo ho hvo).1
 unfold wpOpIn
 rw[ho]
 simp[one,hvo]at h
 cases hw:vo.wants loc sl with
 | none=>rw[hw]at h;cases h
 | some r =>
  have hwant:=FZ ok ri hd hw
  simp[hwant]
  cases r with
  | false =>
   rw[hw]at h
   cases h
   exact⟨fun _ _=>trivial,hn _ _ _ _ _ (ri.skipped rg ho hvo ok)⟩
  | true =>
   rw[hw]at h
   cases hf:vo.op.fits dr loc sl with
   | false=>simp only[hf]at h;cases h
   | true =>
    simp[hf]at h
    cases hs:step c.V cl loc ⟨sl,H⟩ vo.op with
    | v d st1 =>
     simp only[hs]at h
     cases h
     cases hc:vo.op.calls with
     | true=>exact ac8 rg ri vok hT ho hvo hd hc cs hs (fun K' μ' v W' r=>hn _ _ _ _ _ r)
     | false=>exact uH (F6 ok (by rw[hs];exact fun e=>by cases e))<|ae8 rg ri ho hvo hd hc hfirst hs (fun L' K' μ' a' W' r=>hn _ _ _ _ _ r)
    | p d hp =>
     simp only[hs]at h
     cases h
    | bad=>simp only[hs]at h;cases h
theorem afl (rg:gU c) {T:Kn -> World -> Prop} (vok:dK c.P c.V T) (hT:TE T E) {cl:FuncId -> List D -> ab -> CR} (cs:fX c.P T cl) (back : ∀ (i:Nat) (vo:aq),c.vos[i]?=some vo -> ∀ j∈vo.locR,j<i)
  (hfirst : ∀ (i:Nat) (vo:aq),c.vos[i]?=some vo -> vo.op.isBox=true -> ∀ k,vo.keep=some k -> ∀ j,j<i -> c.rt[j]?≠some (some k)) {st':St} {Q:Exit -> Act -> World -> Prop} {rd:Option Nat} {m:Nat}
  (hQ : ∀ L' K' μ' a' W',FS E c.tm c.bs K' μ' L' st'.sl st'.hp a'.tmps W' -> a'.tmps.size=c.nt -> a'.defers=nd -> Q .normal a' W') :
  ∀ (n i:Nat) (L:Nat -> Option Nat) (K:Kn) (μ:Mu) (loc sl:List D) (H:ab) (a:Act) (W:World),i+n=c.vos.length -> RI c E nd (fun j=>j<i) L K μ loc sl H a W -> eF c.V cl none c.vos (List.range' i n) loc ⟨sl,H⟩=(.nm,st') ->
   wpOpsIn (FW rd) m c.P c.ops Q (List.range' i n) a W:=by
 intro n
 induction n with
 | zero =>
  intro i L K μ loc sl H a W _ ri h
  simp[List.range'_zero,eF,wx,true_and]at h
  subst h
  exact hQ _ _ _ _ _ ri.fs ri.sz ri.df
 | succ n ih =>
  intro i L K μ loc sl H a W hin ri h
  rw[AB8]at h ⊢
  have hi:i<c.vos.length:=by omega
  have hvo:=Hk hi
  rw[xP]at h
  obtain⟨loc1,st1,h1,h2⟩:=h
  refine sw rg ri vok hT cs hvo (back i _ hvo) (fun hb k hk j hj=>hfirst i _ hvo hb k hk j hj) h1 (fun L' K' μ' a' W' r => ?_)
  refine ih _ L' K' μ' loc1 _ _ a' W' (by omega) ?_ h2
  grind
theorem afm (rg:gU c) {T:Kn -> World -> Prop} (vok:dK c.P c.V T) (hT:TE T E) {cl:FuncId -> List D -> ab -> CR} (cs:fX c.P T cl) (csp:ig c.P T cl) (back : ∀ (i:Nat) (vo:aq),c.vos[i]?=some vo -> ∀ j∈vo.locR,j<i)
  (hfirst : ∀ (i:Nat) (vo:aq),c.vos[i]?=some vo -> vo.op.isBox=true -> ∀ k,vo.keep=some k -> ∀ j,j<i -> c.rt[j]?≠some (some k)) {q:D} {st':St} {Q:Exit -> Act -> World -> Prop} {rd:Option Nat} {m:Nat}
  (hQ : ∀ v L' K' μ' a' W',FS E c.tm c.bs K' μ' L' st'.sl st'.hp a'.tmps W' -> a'.tmps.size=c.nt -> a'.defers=nd -> VR K' μ' st'.hp q v -> Q (.panic (rE v)) a' W') :
  ∀ (n i:Nat) (L:Nat -> Option Nat) (K:Kn) (μ:Mu) (loc sl:List D) (H:ab) (a:Act) (W:World),i+n=c.vos.length -> RI c E nd (fun j=>j<i) L K μ loc sl H a W -> eF c.V cl none c.vos (List.range' i n) loc ⟨sl,H⟩=(.pn q,st') ->
   wpOpsIn (FW rd) m c.P c.ops Q (List.range' i n) a W:=by
 intro n
 induction n with
 | zero =>
  grind[eF]
 | succ n ih =>
  intro i L K μ loc sl H a W hin ri h
  rw[AB8]at h ⊢
  rw[wpOpsIn_cons]
  have hi:i<c.vos.length:=by omega
  have hvo:=Hk hi
  rcases aeT h with⟨loc1,st1,h1,h2⟩|⟨vo,hp,h1,h2,h3,rfl⟩
  ·refine sw rg ri vok hT cs hvo (back i _ hvo) (fun hb k hk j hj=>hfirst i _ hvo hb k hk j hj) h1 (fun L' K' μ' a' W' r => ?_)
   refine ih _ L' K' μ' loc1 _ _ a' W' (by omega) ?_ h2
   grind
  ·rw[hvo]at h1
   cases h1
   have hic:i<c.ops.size:=by rw[rg.sz];exact hi
   have ho:=ma hic
   have ok:=ql (rg.op i _ _ ho hvo).1
   have hwant:=FZ ok ri (back i _ hvo) h2
   unfold wpOpIn
   rw[ho]
   simp[hwant,if_true]
   exact uH (F6 ok (by rw[h3];exact fun e=>by cases e))<|PO rg ri vok hT ho hvo (back i _ hvo) csp h3 (fun v K' μ' W' fs hv=>hQ v L K' μ' a W' fs ri.sz ri.df hv)
end
end
section
theorem r8:∀{b:List Nat},nodup b=true->∀(k a t:Nat),b[k]?=some t->b[a]?=some t->k=a|[],_,k,a,t,h,_=>by grind|x::b,h,k,a,t,e,c=>by simp only[nodup,D0,k7]at h;cases k with|zero=>grind|succ k=>cases a with|zero=>grind|succ a=>exact ka _ (r8 h.2 k a t (by grind) (by grind))
variable{x y:List Nat}
def AR:∀{os:List Oper}{seen:List Nat},uK x os seen=true->(∀(i:Nat)(o:Oper)(t:Nat),os[i]?=some o->o.dst=some t->x.contains t=false->seen.contains t=false)/\∀(i j:Nat)(o o':Oper)(t:Nat),os[i]?=some o->os[j]?=some o'->o.dst=some t->o'.dst=some t->x.contains t=false->i=j
 |[],_,_=>⟨λi o t e=>by grind,λi j o o' t e=>by grind⟩|o::os,seen,h=>by
  unfold uK at h;split at h;·rename_i c;obtain⟨a,b⟩:=AR h;grind
  rename_i t0 c;split at h;·rename_i d;obtain⟨a,b⟩:=AR h;grind
  simp only[D0,k7]at h;obtain⟨a,b⟩:=AR h.2;grind
def jO(P:Program)(V:aw)(b:Nat)(c d:List Nat)(ops:Array Oper)(a:List aq):CX:=⟨P,V,b,c,d,ops,a,r7 a⟩
def xF{P:Program}{V:aw}{d:Nat}{ops:Array Oper}{g:Option Bool}{b:List aq}(h:pI P V d x y ops g b=true)(m:nodup x=true)(n:∀t∈x,t<d):gU (jO P V d x y ops b)/\(∀(i:Nat)(a:aq),b[i]?=some a->∀j∈a.locR,j<i)/\(∀(i:Nat)(a:aq),b[i]?=some a->a.op.isBox=true->∀k,a.keep=some k->∀j,j<i->(r7 b)[j]?≠some (some k))/\(∀s,g=some s->Fi V s (r7 b) (Region.before ops) b=true/\Az ops=true):=by
 simp[pI,PY,D0,X0,TB,qb]at h;obtain⟨⟨⟨⟨⟨p,q⟩,r⟩,u⟩,z⟩,A⟩:=h;have l:∀(i:Nat)(o:Oper)(a:aq),ops[i]?=some o->b[i]?=some a->uJ (jO P V d x y ops b) i o a=true/\(r7 b)[i]?=some _/\∀j∈a.locR,j<i:=λi o a f c=>by have:=r i (ay c);rw[f,c]at this;simp[D0,X0,TB,Hq]at this;exact⟨this.1.1,this.1.2,this.2⟩
 refine⟨⟨p,q,λi o a f c=>⟨(l i o a f c).1,(l i o a f c).2.1⟩,λi j o o' t v w=>(AR u).2 i j o o' t (by rw[ABR];exact v) (by rw[ABR];exact w),r8 m,λk t e=>n t (nG e)⟩,λi a c=>by grind,λi a c B k C j E=>?_,λs hs=>by grind⟩;grind[PX,ay]
end
section
def fO(E:En)(c d:List Nat)(e:Nat)(nd:List Deferred)(b:St)(a:Act)(W:World):Prop:=∃L K μ,FS E c d K μ L b.sl b.hp a.tmps W/\a.tmps.size=e/\a.defers=nd
def F7(b:Ex)(R:Act->World->Prop):Exit->Act->World->Prop|.normal,a,w=>b=.nm/\R a w|.exit id,a,w=>b=.ex id/\R a w|.ret,a,w=>b=.rt/\R a w|_,_,_=>False
def Be(E:En)(c d:List Nat)(e:Nat)(nd:List Deferred)(b:St)(q:D)(v:Value)(a:Act)(W:World):Prop:=∃L K μ,FS E c d K μ L b.sl b.hp a.tmps W/\a.tmps.size=e/\a.defers=nd/\VR K μ b.hp q v
def sx(b:Ex)(R:Act->World->Prop)(c:D->Value->Act->World->Prop):Exit->Act->World->Prop|.normal,a,w=>b=.nm/\R a w|.exit id,a,w=>b=.ex id/\R a w|.ret,a,w=>b=.rt/\R a w|.panic d,a,w=>∃q v,b=.pn q/\d=rE v/\c q v a w|_,_,_=>False
def afn{p:Nat->Prop}(h:∃n,p n):∃n,p n/\∀k,k<n->¬p k:=by obtain⟨n,a⟩:=h;induction n using Nat.strongRecOn<;>grind
def Ex.good:Ex->Bool|.nm|.ex _|.rt|.pn _=>true|_=>false
def Rr(P:Program)(V:aw)(T:Kn->World->Prop)(j:FuncId->List D->ab->CR)(b:Nat)(c d:List Nat)(rd:Option Nat):Prop:=∀(E:En)(nd:List Deferred)(id:Nat)(ops:Array Oper)(e:Bool)(f:List aq)(g:List D)(H:ab)(h:Ex)(i:St)(a:Act)(W:World),TE T E->pI P V b c d ops (some e) f=true->Dm.ops V j (some (AH e f g H,e)) f [] ⟨g,H⟩=(h,i)->h.good=true->fO E c d b nd ⟨g,H⟩ a W->∀m,(Code.region id ops true).wpIn (FW rd) m P (sx h (fO E c d b nd i) (Be E c d b nd i)) a W
variable{b:FuncId->List D->ab->CR}
def xU{V:aw}{dr:Option (Bs×Bool)}:∀{os:List aq}{d:List D}{e f:St}{c:Ex},ops V b dr os d e=(c,f)->c.good=true->c=.nm\/(∃q,c=.pn q)
 |[],_,_,_,_,h,_=>by cases h;grind|o::os,d,e,f,c,h,a=>by
  unfold ops at h;split at h
  ·split at h
   ·split at h;·exact xU h a
    ·split at h;·grind
     cases h;cases a
    cases h;cases a
   cases h;cases a
  ·exact xU h a
  cases h;cases a
def Ex.fin:Ex->Bool|.nm|.ex _|.rt=>true|_=>false
variable{z a:List D}
def afo{V:aw}{dr:Option (Bs×Bool)}{os:List aq}{d e:St}{a:Ex}(h:ops V b dr os z d=(a,e))(c:a.fin=true):a=.nm:=by
 rcases xU h (by cases a<;>first|rfl|cases c)with rfl|⟨q,rfl⟩;·rfl
 cases c
variable{x y:List Nat}{d:Nat->Option Nat}{c:World}
def FS.clr{E:En}{K:Kn}{μ:Mu}{H:ab}{tmps:Array Value}(h:FS E x y K μ d z H tmps c):∀b,FS E x (b++y) K μ d (Dm.oh b z) H tmps c
 |[]=>h|k::b=>by
  have h:=FS.clr h b;refine⟨h.hr,h.nx,by simp[Dm.oh,h.len],λj t f a=>?_,λj t f a=>?_,h.own,h.inj⟩;·simp only[U3,ABn,ABZ,beq_eq_false_iff_ne]at a;simp only[Dm.oh,K0 (AAX a.1)];exact h.val j t f a.2
  by_cases e:j=k;·subst e;have:=h.len;have:=(uy.1 f).1;exact .inl (K2 (by omega))
  simp only[Dm.oh,K0 (AAX e)];exact h.box j t f (by simpa[e]using a)
def FS.adopt{E:En}{s:List Nat}{K:Kn}{μ:Mu}{L:Nat->Option Nat}{H:ab}{tmps:Array Value}{k:Nat}(h:FS E y (k::s) K μ L z H tmps c)(I:s.contains k=false)(C:eR ⟨z,H⟩ k=some a)(ai:∀(j p u:Nat),y[j]?=some u->y[p]?=some u->j=p):∃J M,FS E y s K M J (z.set k (.hp H.length 0)) (H++[.hb 0 a]) tmps c:=by
 have hs:z[k]?=some (.bx a):=by unfold eR at C;split at C<;>grind
 have F:=(uy.1 hs).1;obtain⟨t,G⟩:∃t,y[k]?=some t:=⟨_,Hk (h.len▸F)⟩;rcases h.box k t G (by simp)with e|⟨r,aj,vs,N,hL,i,P,Q,S⟩;·rw[hs]at e;cases e
 rw[hs]at i;cases i;obtain⟨U,V,W,X⟩:=h.own k r hL;have q:=ba.push (K:=K) h.hr.dom ⟨r,0,vs.size⟩ (.hb 0 a);obtain⟨hr,og⟩:=h.hr.takes (l:=⟨r,0,vs.size⟩) (b:=.hb 0 a) U V X ⟨rfl,vs,N,Q,rfl,S.ext q⟩;have n:=h.nx;refine⟨λj=>if j=k then none else L j,_,hr,⟨n.ext.trans q,n.os,n.tape,n.output,n.size,n.keep,λf x=>(og f x).elim (n.og f) (λe=>.inr (by show _<=_;rw[e];exact W)),n.kg⟩,by simp[h.len],λj u m o=>?_,λj u m o=>?_,λj f e=>?_,λj p f e w=>?_⟩
 ·by_cases g:j=k;·subst g;rw[G]at m;cases m;exact⟨_,_,K2 F,P,.hp _ _ _ _ ⟨r,0,vs.size⟩ 0 a (by simp[Mu.upd]) (by simp)⟩
  obtain⟨d,v,A,i,B⟩:=h.val j u m (by simp only[ABn,ABZ];exact⟨by simpa using g,o⟩);exact⟨d,v,by rw[K0 (AAX g)];exact A,i,B.ext q⟩
 ·have g:j≠k:=λe=>by subst e;rw[I]at o;cases o
  rcases h.box j u m (by simp only[ABn,o,Bool.or_true])with e|⟨f,a,Y,Z,A,i,B,e4,e5⟩;·exact .inl (by rw[K0 (AAX g)];exact e)
  exact .inr ⟨f,a,Y,Z,by simp[g,if_false];exact A,by rw[K0 (AAX g)];exact i,B,e4,e5.ext q⟩
 ·split at e;·cases e
  rename_i g;obtain⟨p1,p2,p3,p4⟩:=h.own j f e;exact⟨λho=>(og f ho).elim p1 λx=>g (h.inj j k f e (x▸hL)),p2,p3,p4⟩
 split at e;·cases e
 split at w;·cases w
 exact h.inj j p f e w
def FS.adp{E:En}{K:Kn}{tmps:Array Value}(l:∀(j m u:Nat),x[j]?=some u->x[m]?=some u->j=m):∀{g:List Nat}{a b:St}{d:Ex}{μ:Mu}{L:Nat->Option Nat},nodup (g++y)=true->FS E x (g++y) K μ L a.sl a.hp tmps c->Dm.oi g a=(d,b)->d.good=true->d=.nm/\∃n o,FS E x y K o n b.sl b.hp tmps c
 |[],a,b,d,μ,L,_,h,e,_=>by cases e;exact⟨rfl,_,_,h⟩|k::g,a,b,d,μ,L,i,h,e,p=>by
  simp only[U3,nodup,D0,k7]at i;unfold Dm.oi at e;split at e;·rename_i r q;obtain⟨n,o,f⟩:=FS.adopt h i.1 q l;exact FS.adp l i.2 f e p
  cases e;cases p
def qm{P:Program}{V:aw}{T:Kn->World->Prop}{C:Nat}{B A:List Nat}(al:dK P V T)(cs:fX P T b)(ay:ig P T b)(an:nodup B=true)(az:∀t∈B,t<C){rd:Option Nat}{m:Nat}(dr:∀A,Rr P V T b C B A rd)(E:En)(Z:TE T E)(nd:List Deferred)(n:Nat):∀(vc:aR)(r:Code),cw P V C B A r vc=true->∀(g k:St)(z:Ex)(a:Act)(W:World),aC V b n vc g=(z,k)->z.good=true->fO E B A C nd g a W->r.wpIn (FW rd) m P (sx z (fO E B A C nd k) (Be E B A C nd k)) a W:=by intro vc;induction vc with
 |skip=>
 intro r c g k z a W h u l;cases r<;>simp[cw]at c<;>first|grind|skip
 cases h;exact wpIn_skip ⟨rfl,l⟩|rng j x=>grind[cw]|stuck=>intro r c g k z a W h u l;cases h;cases u|ret=>
 intro r c g k z a W h u l;cases r<;>simp[cw]at c<;>first|grind|skip
 cases h;exact wpIn_ret ⟨rfl,l⟩|exit id=>
 intro r c g k z a W h u l;cases r<;>simp only[cw]at c<;>first|grind|skip
 simp[X0]at c;subst c;cases h;exact wpIn_exit ⟨rfl,l⟩|reg os a0=>
 intro r c g k z a W h u l;cases r<;>simp only[cw]at c<;>first|grind|skip
 rename_i id opers drw;simp[D0,X0]at c;obtain⟨hd,c⟩:=c;simp[aC]at h;have a1:=xU h u;cases a0 with|some s=>subst hd;obtain⟨I,H⟩:=g;exact dr A E nd id opers s os I H z k a W Z c h u l m|none=>
 subst hd;obtain⟨rg,back,hfirst,_⟩:=xF c an az;obtain⟨L,K,μ,fs,hs,S⟩:=l;obtain⟨I,H⟩:=g;refine wpIn_region ?_;have hl:=Q3 V b none os [] [] ⟨I,H⟩ rfl;rw[hl]at h;rcases a1 with rfl|⟨q,rfl⟩;case inr=>have:=afm (rd:=rd) (m:=m) rg al Z cs ay back hfirst (Q:=sx _ (fO E B A C nd k) (Be E B A C nd k)) (λv L' U ac F W' f1 X Y f4=>⟨q,v,rfl,rfl,L',U,ac,f1,X,Y,f4⟩) _ 0 L K μ _ I H a W (by simp[jO]) ⟨fs,λj o vo t hj=>absurd hj (by omega),hs,S,by simp[jO]⟩ h;rw[<-List.range_eq_range',show os.length=opers.size from rg.sz.symm]at this;exact this
 have:=afl (rd:=rd) (m:=m) rg al Z cs back hfirst (Q:=sx .nm (fO E B A C nd k) (Be E B A C nd k)) (λL' U ac F W' f1 X Y=>⟨rfl,L',U,ac,f1,X,Y⟩) _ 0 L K μ _ I H a W (by simp[jO]) ⟨fs,λj o vo t hj=>absurd hj (by omega),hs,S,by simp[jO]⟩ h;rw[<-List.range_eq_range',show os.length=opers.size from rg.sz.symm]at this;exact this
 |hrg os ks=>
 intro r c g k z a W h u l;cases r<;>simp only[cw]at c<;>first|grind|skip
 rename_i id opers drw;simp[D0]at c;obtain⟨⟨rfl,J⟩,c⟩:=c;obtain⟨I,H⟩:=g;obtain⟨L,K,μ,fs,hs,S⟩:=l;simp only[aC]at h;cases d:ops V b (some ((H.length,[]),false)) os [] ⟨oh ks I,H⟩with|mk e1 st1=>
 rw[d]at h;have e0:e1=.nm:=by cases e1<;>simp only[AI]at h<;>first|rfl|(cases h;cases u)
 subst e0;refine wpIn_mono (dr (ks++A) E nd id opers false os _ H .nm st1 a W Z c d rfl ⟨L,K,μ,fs.clr ks,hs,S⟩ m) (λe F w' d=>?_);have go:∀{F w'},fO E B (ks++A) C nd st1 F w'->z=.nm/\fO E B A C nd k F w':=λ⟨L',U,ac,f,X,Y⟩=>by obtain⟨g1,L2,a8,g2⟩:=FS.adp (r8 an) J f h u;exact⟨g1,L2,U,a8,g2,X,Y⟩
 cases e<;>simp only[sx]at d<;>first|exact go d.2|grind
 |seq x y ar ba=>
 intro r c g k z a W h u l;cases r<;>simp only[cw]at c<;>first|grind|skip
 simp[D0]at c;simp[aC]at h;cases G:aC V b n x g with|mk M st1=>rw[G]at h;cases J:M with
  |nm=>subst J;simp at h;refine wpIn_seq (wpIn_mono (ar _ c.1 g st1 .nm a W G rfl l) (λe F w' d=>?_));cases e<;>simp only[sx]at d<;>first|(exact ba _ c.2 st1 k z F w' h u d.2)|grind|grind|grind
  |_=>subst J;simp[wx]at h;obtain⟨rfl,rfl⟩:=h;first|(cases u;done)|(refine wpIn_seq (wpIn_mono (ar _ c.1 g st1 _ a W G rfl l) (λe F w' d=>?_));cases e<;>first|(cases d.1;done)|(exact d))
 |cond bb t e bc bd=>
 intro r c g k z a W h u l;cases r<;>simp only[cw]at c<;>first|grind|skip
 simp[D0]at c;obtain⟨⟨h0,h1⟩,h2⟩:=c;simp[aC]at h;have N:∃K μ,VR K μ g.hp (bb.ev [] g.sl) (a.eval ‹Operand›):=by obtain⟨L,K,μ,fs,hs,S⟩:=l;exact⟨K,μ,iU fs (λi o vo t _ e=>by grind) h0 (λ_ _=>trivial)⟩
 obtain⟨K,μ,N⟩:=N;split at h;·rename_i hc;rw[hc]at N;exact wpIn_cond_true N.b_inv (bc _ h1 g k z a W h u l)
 ·rename_i hc;rw[hc]at N;exact wpIn_cond_false N.b_inv (bd _ h2 g k z a W h u l)
 cases h;cases u|block id x ih=>
 intro r c g k z a W h u l;cases r<;>simp only[cw]at c<;>first|grind|skip
 simp[D0,X0]at c;obtain⟨rfl,c⟩:=c;simp[aC]at h;cases G:aC V b n x g with|mk M st1=>
 rw[G]at h;have bh:M.good=true:=by cases M<;>simp at h<;>first|rfl|grind
 refine wpIn_block (wpIn_mono (ih _ c g st1 M a W G bh l) (λe F w' d=>?_))
 cases e with|normal=>obtain⟨rfl,d⟩:=d;cases h;exact⟨rfl,d⟩|ret=>obtain⟨rfl,d⟩:=d;cases h;exact⟨rfl,d⟩|exit bi=>
 obtain⟨rfl,d⟩:=d;simp[Exit.inBlock];simp at h;split at h;·rename_i he;subst he;cases h;rw[E4 rfl];exact⟨rfl,d⟩
 rename_i he;cases h;rw[E1 he];exact⟨rfl,d⟩|panic ch=>obtain⟨q,v,rfl,rfl,d⟩:=d;cases h;exact⟨q,v,rfl,rfl,d⟩|_=>exact d.elim
 |loop x ih=>
 intro r c g k z a W h u l;cases r<;>simp[cw]at c<;>first|grind|skip
 rename_i cx;let p:=λa w m=>∃s,fO E B A C nd s a w/\jd (aC V b n x) m s=(z,k);let f:=λa w=>open Classical in if hp:∃m,p a w m then Classical.choose (afn hp)else 0;have hf:∀a w m,p a w m->p a w (f a w)/\f a w<=m:=λa w m hm=>by have hp:∃m,p a w m:=⟨m,hm⟩;grind
 refine wpIn_loop (λa w=>∃m,p a w m) f ⟨n,g,l,h⟩ (λa w⟨m,hm⟩=>?_);obtain⟨⟨s,ax,hit⟩,hle⟩:=hf a w m hm;generalize bl:f a w=q at hit;cases q with|zero=>cases hit;cases u|succ q=>simp only[jd]at hit;cases G:aC V b n x s with|mk M s1=>rw[G]at hit;cases J:M with
 |nm=>subst J;refine wpIn_mono (ih _ c s s1 .nm a w G rfl ax) (λe F w' d=>?_);cases e<;>simp only[sx]at d<;>first|(exact⟨⟨q,s1,d.2,hit⟩,by have:=(hf F w' q ⟨s1,d.2,hit⟩).2;omega⟩)|(exact d.elim)|(cases d.1;done)|(obtain⟨_,_,G,_⟩:=d;cases G)
 |_=>subst J;simp only[wx]at hit;obtain⟨rfl,rfl⟩:=hit;first|(cases u;done)|(refine wpIn_mono (ih _ c s s1 _ a w G rfl ax) (λe F w' d=>?_);cases e<;>first|(exact(show False from d).elim)|(cases d.1;done)|(exact d))
end
section
section
variable{E:En}{tm bs:List Nat}{L:Nat->Option Nat}{K:Kn}{μ:Mu}{sl:List D}{H:ab}{a:Act}{W:World}
def r9(tmps:Array Value):ResultVar->Sem Value|.tmp t=>pure (tmps.getD t undef)|.cell b t=>do loadVar t (<-asAddr (tmps.getD b undef))
def adB{P:Program}(fs:FS E tm bs K μ L sl H a.tmps W){r:ResultVar}{q:dc}(h:gJ P tm bs [r] [q]=true){d:D}(f:q.ev ⟨sl,H⟩=some d):∃v,(r9 a.tmps r).run P W=.ok v W/\VR K μ H d v:=by cases r with
 |tmp t=>cases q with|s k=>simp only[gJ,D0,X0,k7,and_true]at h;obtain⟨I,v,A,B,C⟩:=fs.val k t h.1 h.2;simp_all[dc.ev,r9,oo]|_=>grind[gJ]
 |cell b t=>cases q with
 |s k=>grind[gJ]|bx k n J=>
 simp only[gJ,D0,X0,and_true]at h;obtain⟨⟨⟨i,l⟩,m⟩,o⟩:=h;simp[dc.ev]at f;split at f
 ·rename_i M hb;split at f
  ·rename_i p;have hL:∃r,L k=some r/\a.tmps[b]?=some (.pointer (some ⟨r,0,none⟩)):=by rcases fs.box k b i l with x|⟨r,U,vs,F,g1,V,X,Y,Z⟩<;>grind[eR]
   obtain⟨r,hL,w⟩:=hL;obtain⟨vs,F,N,g⟩:=Fx (c:=⟨P,⟨λ_=>none,λ_ _=>none,λ_ _ _=>none,λ_ _=>none,λ_=>none,λ_=>none⟩,0,tm,bs,#[],[],[]⟩) fs hb hL;obtain⟨v,y,z⟩:=A2 m o (g.1.1.symm.trans p) g f ⟨r,0,none⟩ (λj v e=>by rw[f8,cell_of_row W r _ vs F _ N];grind);exact⟨v,by simp[r9,oo w,asAddr,y],z⟩
  grind
 grind|hb k n J=>
 simp only[gJ,D0,X0,k7,and_true]at h;obtain⟨⟨⟨i,l⟩,m⟩,o⟩:=h;simp[dc.ev]at f;split at f
 ·rename_i I G;split at f;·rename_i M Q;obtain⟨d2,v,A,B,C⟩:=fs.val k b i l;rw[A]at G;cases G;obtain⟨S,q,vs,w,p,g,aa⟩:=Qy fs.hr Q C;obtain⟨u,y,z⟩:=A2 (W:=W) m o (g.1.1.symm.trans p) g f ⟨S,q,none⟩ (λj v e=>by grind[f8]);exact⟨u,by simp[r9,oo B,w,asAddr,y],z⟩
  grind
 grind
def Qd{P:Program}(fs:FS E tm bs K μ L sl H a.tmps W):∀{b:List ResultVar}{c:List dc},gJ P tm bs b c=true->∀{ds:List D},de ⟨sl,H⟩ c=some ds->∃vs,(b.mapM (r9 a.tmps)).run P W=.ok vs W/\bf K μ H ds vs
 |[],[],_,ds,h=>by cases h;exact⟨[],by simp,rfl,λj d v e=>by grind⟩|[],_::_,h,_,_=>by grind[gJ]|r::_,[],h,_,_=>by grind[gJ]|r::b,q::c,h,ds,f=>by
  have g:gJ P tm bs [r] [q]=true/\gJ P tm bs b c=true:=by cases r<;>cases q<;>simp_all[gJ]
  unfold de at f;split at f
  ·rename_i d k;split at f;·rename_i o l;cases f;obtain⟨v,g1,p⟩:=adB fs g.1 k;obtain⟨vs,s,i⟩:=Qd fs g.2 l;refine⟨v::vs,by simp_all,by simp[i.1],λj m n e t=>?_⟩;cases j with|zero=>grind|succ j=>exact i.2 j m n (by grind) (by grind)
   grind
  grind
def AS{P:Program}(fs:FS E tm bs K μ L sl H a.tmps W){fn:Func}{c:List dc}(h:gJ P tm bs fn.results.toList c=true){ds:List D}(f:de ⟨sl,H⟩ c=some ds):∃v,(results fn a.tmps).run P W=.ok v W/\VR K μ H (gm ds) v:=by
 obtain⟨vs,i,b⟩:=Qd fs h f;have j:(fn.results.mapM (r9 a.tmps)).run P W=.ok vs.toArray W:=by rw[AB4];simp_all
 have g:(results fn a.tmps).run P W=.ok (if h:vs.toArray.size=1 then vs.toArray[0]else .tuple vs.toArray) W:=by
  have:results fn a.tmps=(do let vs<-fn.results.mapM (r9 a.tmps)pure (if h:vs.size=1 then vs[0]else .tuple vs)):=by constructor<;>grind
  simp_all
 refine⟨_,g,?_⟩;cases ds with|nil=>
 have:vs=[]:=by have:=b.1;grind
 subst this;constructor<;>grind|cons d ds=>cases ds with
 |nil=>have e:=b.1;match vs,e,b with|[v],_,b=>exact b.2 0 d v rfl rfl
 |cons d2 ds=>have e:=b.1;rw[dif_neg (by grind)];exact .tu _ _ _ _ b.1 b.2
end
end
section
inductive Lk:Option an->Option an->Prop|same(b:Option an):Lk b b|lock(w:Nat)(rows:List (List D))(c:Option Nat)(p l l':Bool):Lk (some (.ar w rows c p l)) (some (.ar w rows c p l'))
def Lk.symm{x y:Option an}(h:Lk x y):Lk y x:=by cases h with|same=>exact .same _|lock=>exact .lock ..
def Lk.trans{x y z:Option an}(h:Lk x y)(a:Lk y z):Lk x z:=by cases h with|same=>exact a|lock w rows c p l b=>cases a with|same=>exact .lock ..|lock=>exact .lock ..
def Sb(base:Bs)(H H':ab):Prop:=∀b,base.un b=true->Lk H[b]? H'[b]?
def bn(n:Nat):Bs:=(n,[])
theorem vq{n b:Nat}:(bn n).un b=true↔b<n:=by grind[bn,Bs.un]
def afr{base:Bs}{b:Nat}(h:base.un b=true):b<base.1:=by grind[Bs.un]
def afs{base:Bs}{a b:Nat}(h:base.ov a=true)(c:base.un b=true):a≠b:=by grind[Bs.ov,Bs.un]
def Sb.refl(base:Bs)(H:ab):Sb base H H:=λ_ _=>.same _
def Sb.symm{base:Bs}{H H':ab}(h:Sb base H H'):Sb base H' H:=λb a=>(h b a).symm
def Sb.trans{base:Bs}{H H' a:ab}(h:Sb base H H')(d:Sb base H' a):Sb base H a:=λb c=>(h b c).trans (d b c)
def Sb.mono{n:Nat}{a:Bs}{H H':ab}(h:Sb (bn n) H H')(d:a.1<=n):Sb a H H':=λb c=>h b (vq.2 (by have:=afr c;omega))
def Sb.push(H t:ab):Sb (bn H.length) H (H++t):=λb a=>by rw[vq]at a;rw[dw a];exact .same _
def Sb.set{base:Bs}{id:Nat}{H:ab}{b:an}(h:base.ov id=true):Sb base H (H.set id b):=λi hi=>by rw[K0 (afs h hi)];exact .same _
def Gr(H H':ab):Prop:=H.length<=H'.length/\Sb (bn H.length) H H'
def Gr.refl(H:ab):Gr H H:=⟨G1 _,.refl _ _⟩
def Gr.trans{H H' a:ab}(h:Gr H H')(b:Gr H' a):Gr H a:=⟨dG h.1 b.1,h.2.trans (b.2.mono h.1)⟩
def Gr.push(H t:ab):Gr H (H++t):=⟨by simp,.push H t⟩
def Gr.lock{H:ab}{a n w:Nat}{rows:List (List D)}{c:Option Nat}{p l:Bool}(h:aO H a n=some (w,rows,c,p,l))(f:Bool):Gr H (H.set a (.ar w rows c p f)):=by
 refine⟨by simp,λb d=>?_⟩;rw[vq]at d;by_cases e:a=b;·subst e;have:=(jg h).1;rw[this,K2 d];exact .lock ..
 rw[K0 e];exact .same _
def Rt(m:Nat):(∀(d:D)(H:ab)(f:D)(H':ab),bS m H d=some (f,H')->Gr H H')/\(∀(ds:List D)(H:ab)(b:List D)(H':ab),aW m H ds=some (b,H')->Gr H H')/\(∀(c:List (List D))(H:ab)(e:List (List D))(H':ab),io m H c=some (e,H')->Gr H H'):=by
 induction m with|zero=>
 refine⟨λd H f H' h=>by grind[AD,f7],λds H b H' h=>?_,λc H e H' h=>?_⟩;·cases ds<;>simp[gK,AE]at h;obtain⟨_,rfl⟩:=h;exact .refl _
 cases c<;>simp[rO,Fb]at h;obtain⟨_,rfl⟩:=h;exact .refl _|succ m l=>
 obtain⟨j,k,n⟩:=l;have o:∀(ds:List D)(H:ab)(b:List D)(H':ab),aW (m+1) H ds=some (b,H')->Gr H H':=by intro ds;induction ds with|nil=>intro H b H' h;obtain⟨_,rfl⟩:=h;exact .refl _|cons x p g=>
  intro H b H' h;simp[dM]at h;split at h
  ·rename_i d1 q a;split at h;·rename_i r s i;cases h;exact(j _ _ _ _ a).trans (g _ _ _ i)
   grind
  grind
 refine⟨λd H f H' h=>?_,o,?_⟩
 ·rw[f7]at h;split at h<;>first|(cases h;done)|(cases h;exact .refl _)|skip
  ·split at h
   ·rename_i t;split at h;·cases h;exact .lock t _
    grind
   grind
  ·split at h;·rename_i a;cases h;exact n _ _ _ _ a
   cases h
  ·split at h;·rename_i a;cases h;exact j _ _ _ _ a
   cases h
  split at h;·rename_i a;cases h;exact k _ _ _ _ a
  cases h
 intro c;induction c with|nil=>intro H e H' h;obtain⟨_,rfl⟩:=h;exact .refl _|cons x p g=>
 intro H e H' h;simp[uM]at h;split at h
 ·rename_i d1 q a;split at h;·rename_i r s i;cases h;exact(k _ _ _ _ a).trans (g _ _ _ i)
  grind
 grind
theorem aft{b a:an}(h:Fe b a=true):Lk (some b) (some a):=by
 unfold Fe at h;split at h;·have:=(Fd _ _).1 h;cases this;exact .lock ..
 rw[(Fd _ _).1 h];exact .same _
def Ru:∀{H H':ab},rU H H'=true->Gr H H'|[],H',_=>⟨AAg _,λb d=>by grind[vq]⟩|b::a,[],h=>by cases h|b::a,e::f,h=>by simp[rU,D0]at h;obtain⟨g,c⟩:=Ru h.2;refine⟨by grind,λi hi=>?_⟩;cases i with|zero=>grind[aft]|succ i=>exact c i (by grind[vq])
def afu(m:Nat):(∀(d:D)(H:ab)(i:D)(H':ab),rV d=true->bS m H d=some (i,H')->H'=H/\∀c,bS m c d=some (i,c))/\∀(ds:List D)(H:ab)(j:List D)(H':ab),nZ ds=true->aW m H ds=some (j,H')->H'=H/\∀c,aW m c ds=some (j,c):=by induction m with|zero=>refine⟨λd H i H' _ h=>(by grind[AD]),λds H j H' _ h=>?_⟩;cases ds<;>grind[gK,AE]|succ m n=>
 refine⟨λd H i H' g h=>?_,λds=>?_⟩;·rw[f7]at h;cases d with
 |ag o=>simp only at h;cases e:aW m H o with|none=>rw[e]at h;cases h|some p=>obtain⟨q,r⟩:=p;rw[e]at h;cases h;obtain⟨k,l⟩:=n.2 o H q _ (by simpa only[rV]using g) e;exact⟨k,λc=>by rw[f7];simp only[l c]⟩
 |ifc t v=>simp only at h;cases e:bS m H v with|none=>rw[e]at h;cases h|some p=>obtain⟨s,r⟩:=p;rw[e]at h;cases h;obtain⟨k,l⟩:=n.1 v H s _ (by simpa only[rV]using g) e;exact⟨k,λc=>by rw[f7];simp only[l c]⟩
 |fn f a b=>cases a<;>cases b<;>first|(simp only[rV]at g;cases g;done)|(cases h;exact⟨rfl,λc=>by rw[f7]⟩)
 |_=>first|(simp only[rV]at g;cases g;done)|(cases h;exact⟨rfl,λc=>by rw[f7]⟩)
 induction ds<;>grind[gK,nZ,dM,bS,aW]
def Rv{m:Nat}{H:ab}{ds:List D}{r:List D×ab}(h:aW m H ds=some r):Gr H r.2:=(Rt m).2.1 _ _ r.1 _ h
def Ga{H:ab}{a:List (List D)}{r:List (List D)×ab}(h:iL H a=some r):Gr H r.2:=(Rt bG).2.2 _ _ r.1 _ h
theorem Bh{base:Bs}{H H':ab}(h:Sb base H H'){a n w:Nat}{rows:List (List D)}{c:Option Nat}{p l:Bool}(b:base.un a=true)(e:aO H a n=some (w,rows,c,p,l)):∃d,aO H' a n=some (w,rows,c,p,d):=by obtain⟨f,g⟩:=jg e;have:=h a b;rw[f]at this;generalize i:H'[a]?=y at this;cases this<;>grind[aO]
theorem afv{base:Bs}{H H':ab}(h:Sb base H H'){a t:Nat}{b:List D}(c:base.un a=true)(e:H[a]?=some (.hb t b)):H'[a]?=some (.hb t b):=by have:=h a c;rw[e]at this;generalize H'[a]?=y at this;cases this;rfl
variable{z:List (D×D)}
theorem Rx{base:Bs}{H H':ab}(h:Sb base H H'){a:Nat}(b:base.un a=true)(e:H[a]?=some (.mp z)):H'[a]?=some (.mp z):=by have:=h a b;rw[e]at this;generalize H'[a]?=y at this;cases this;rfl
theorem Ry{base:Bs}{H H':ab}(h:Sb base H H'){a w:Nat}{rows:List (List D)}{c:Option Nat}{p l:Bool}(b:base.un a=true)(e:H[a]?=some (.ar w rows c p l)):∃d,H'[a]?=some (.ar w rows c p d):=by have:=h a b;rw[e]at this;generalize H'[a]?=y at this;cases this<;>grind
section
variable{base:Bs}{H H':ab}
def afw(h:Sb base H H'){x:D}{n:Nat}{r:List D}(a:x.under base=true)(e:cT H x n=some r):cT H' x n=some r:=by unfold cT at*<;>grind[cT,D.under,afv,Bh,Ry]
variable{x y:D}
def afx(h:Sb base H H'){x:D}{w:Nat}{r:D}(a:x.under base=true)(e:cG H x y w=some r):cG H' x y w=some r:=by unfold cG at*<;>grind[cG,D.under,Bh]
def afy(h:Sb base H H'){x:D}{n w:Nat}{r:D}(a:x.under base=true)(e:mX H x y n w=some r):mX H' x y n w=some r:=by unfold mX at*;split at e<;>grind[D.under,Ry]
def afz(h:Sb base H H'){x:D}{k:Nat}(a:x.under base=true)(e:dS H k x=some y):dS H' k x=some y:=by unfold dS at*<;>grind[dS,D.under,Rx]
def afA(h:Sb base H H'){x:D}(a:x.under base=true)(e:AG H x=some y):AG H' x=some y:=by unfold AG at*<;>grind[AG,D.under,Bh]
def afB(h:Sb base H H'){w:Nat}{x:D}{lo hi a:Option D}(b:x.under base=true)(e:dY H w x lo hi a=some y):dY H' w x lo hi a=some y:=by unfold dY at*;grind[D.under,Bh]
theorem afC(h:Sb base H H'){x:D}(a:x.under base=true)(e:pP H x=some z):pP H' x=some z:=by unfold pP at*<;>grind[pP,D.under,Rx]
def afD(h:Sb base H H'){a:KK}{k:D}{b:Bool}{zero:D}(c:x.under base=true)(e:mY H a x k b zero=some y):mY H' a x k b zero=some y:=by grind[mY,afC]
end
end
section
section
variable{base:Bs}{H H':ab}
def Wr(base:Bs)(a:Bool)(H H':ab):Prop:=H.length<=H'.length/\(base.1<=H.length->a=true->Sb base H H')
def Wr.of_gr(a:Bool)(h:Gr H H'):Wr base a H H':=⟨h.1,λb _=>h.2.mono b⟩
variable{z a:Bool}{e f:Nat}
def Wr.set{b:an}(h:z=true->base.ov e=true):Wr base z H (H.set e b):=⟨by simp,λ_ a=>.set (h a)⟩
def Wr.trans{a:ab}(h:Wr base z H H')(b:Wr base z H' a):Wr base z H a:=⟨dG h.1 b.1,λc d=>(h.2 c d).trans (b.2 (dG c h.1) d)⟩
def Rz{a i:Nat}{vs:List D}(b:lX H a e i f vs=some H'):Wr base (base.ov a) H H':=by
 unfold lX at b;split at b
 ·split at b
  ·split at b;·cases b;exact .set (λh=>by omega)
   grind
  grind
 grind
def RA{x:D}{vs:List D}(e:gl H x vs=some H'):Wr base (x.over base) H H':=by
 unfold gl at e;split at e
 ·split at e
  ·split at e;·cases e;exact .set (λh=>by grind[D.over])
   grind
  grind
 ·split at e
  ·split at e
   ·rename_i a;split at e;·exact(Wr.of_gr _ (Rv a)).trans (Rz e)
    grind
   grind
  ·exact Rz e
  grind
 grind
theorem RB{x d:D}{b:List (List D)}{w bytes:Nat}{p:Bool}(e:gM H x b w bytes p=some (d,H')):Wr base (x.over base) H H':=by
 have f:∀x,kI H x b w bytes p=some (d,H')->Gr H H':=λx e=>by
  unfold kI at e;split at e;·cases e;exact .refl _
  split at e;·cases e;exact .push _ _
  grind
 have g:∀{a j len:Nat}{rows:List _}{c:Option Nat}{lk:Bool},jE H a j len rows b w c p lk=some (d,H')->Wr base (base.ov a) H H':=λe=>by
  unfold jE at e;split at e;·cases e
  cases e;exact .set (λh=>by omega)
 have i:∀x w',rP H x b w' w=some (d,H')->Gr H H':=λx w' e=>by
  unfold rP at e;split at e
  ·split at e;·cases e;exact .refl _
   grind
  grind
 unfold gM at e;split at e;·exact .of_gr _ (f _ e)
 ·exact .of_gr _ (f _ e)
 ·unfold mV at e;split at e
  ·split at e
   ·split at e;·cases e;exact .of_gr _ (.refl _)
    split at e
    ·split at e;·exact g e
     grind
    split at e;·exact g e
    cases e;exact .of_gr _ (.push _ _)
   grind
  grind
 ·exact .of_gr _ (i _ _ e)
 ·exact .of_gr _ (i _ _ e)
 grind
def RC{x y d:D}{w bytes:Nat}{p:Bool}(e:bY H x y w bytes p=some (d,H')):Wr base (x.over base) H H':=by
 unfold bY at e;split at e
 ·split at e
  ·split at e;·rename_i a;exact(Wr.of_gr _ (Ga a)).trans (RB e)
   grind
  grind[RB]
 grind
def RD{a:KK}{m k v:D}(e:oe H a m k v=some H'):Wr base (m.over base) H H':=by
 unfold oe at e;split at e
 ·split at e
  ·split at e
   ·split at e;·cases e;exact .set (λh=>by grind[D.over])
    grind
   grind
  grind
 grind
variable{x y:List D}
def RE{l c d:D}{w bytes:Nat}{p:Bool}(e:oc H l c w bytes x p=some (d,H')):Gr H H':=by
 unfold oc at e;split at e
 ·split at e
  ·split at e;·cases e;exact .push _ _
   grind
  grind
 grind
def RG{w len:Nat}{a:List (Nat×D)}{p:Bool}{d:D}(e:ob H w len x a p=some (d,H')):Gr H H':=by
 unfold ob at e;split at e;·cases e;exact .refl _
 split at e
 ·split at e
  ·split at e;·rename_i b;cases e;exact(Ga b).trans (.push _ _)
   grind
  cases e;exact .push _ _
 grind
end
structure ir(V:aw)(cl:FuncId->List D->ab->CR):Prop where
 le:∀(f:FuncId)(args:List D)(H:ab)(d:D)(H':ab),cl f args H=.ret d H'->H.length<=H'.length
 gr:∀(f:FuncId)(args:List D)(H:ab)(d:D)(H':ab)(vf:aJ),V.fn f=some vf->vf.pure=true->cl f args H=.ret d H'->Gr H H'
 pl:∀(f:FuncId)(args:List D)(H:ab)(d:D)(H':ab)(vf:aJ),V.fn f=some vf->vf.pure=true->vf.own=false->nZ args=true->cl f args H=.ret d H'->H'=H/\∀H2,cl f args H2=.ret d H2
def Gb(u:Option (Nat×D))(sl:List D):List D:=match u with|none=>sl|some (k,e)=>sl.set k e
def kJ(op:aj)(loc sl c b:List D):Prop:=(∀x∈op.args,x.ev c b=x.ev loc sl)/\∀a∈op.base,a.ev c b=a.ev loc sl/\∀k o,a.ev loc sl=some (k,o)->b[k]?=sl[k]?
def HB(H H':ab):Prop:=∀(b t:Nat)(a:List D),H[b]?=some (an.hb t a)↔H'[b]?=some (an.hb t a)
def HB.refl(H:ab):HB H H:=λ_ _ _=>W0
def HB.symm{H H':ab}(h:HB H H'):HB H' H:=λb t a=>(h b t a).symm
def HB.trans{H H' a:ab}(h:HB H H')(d:HB H' a):HB H a:=λb t c=>(h b t c).trans (d b t c)
def HB.push(H:ab){b:an}(c:∀(t:Nat)(a:List D),b≠an.hb t a):HB H (H++[b]):=λi t a=>by grind
variable{z a:Bool}
def HB.set{H:ab}{a w w':Nat}{rows b:List (List D)}{c d:Option Nat}{p l e:Bool}(h:H[a]?=some (.ar w rows c p l)):HB H (H.set a (.ar w' b d z e)):=λi t f=>by grind
def Gr.hb{H H':ab}(h:Gr H H')(a:H'.length=H.length):HB H H':=λi t b=>by
 rcases lu i H.length with hi|hi;·have:=h.2 i (vq.2 hi);generalize H[i]?=x at this;generalize H'[i]?=y at this;cases this<;>grind
 grind
def RH{H H':ab}(h:HB H H'){x:D}{n:Nat}{r:List D}(e:lD H x n=some r):lD H' x n=some r:=by obtain⟨c,b,d,rfl⟩:=P1 e;simp[lD,cT]at e⊢;cases hb:H[b]? with|none=>grind|some y=>rw[hb]at e;cases y with|hb t a=>rw[(h b t a).1 hb];exact e|_=>cases e
theorem RJ{H H':ab}{x d:D}{b:List (List D)}{w bytes:Nat}{p:Bool}(e:gM H x b w bytes p=some (d,H')):HB H H':=by
 have m:∀x,kI H x b w bytes p=some (d,H')->HB H H':=λx e=>by
  unfold kI at e;split at e;·cases e;exact .refl _
  split at e;·cases e;exact .push _ (by nofun)
  grind
 have g:∀{a i len j:Nat}{rows k:List _}{c l:Option Nat}{lk p0 lk0:Bool},H[a]?=some (.ar j k l p0 lk0)->jE H a i len rows b w c p lk=some (d,H')->HB H H':=λf e=>by
  unfold jE at e;split at e;·cases e
  obtain⟨_,rfl⟩:=e;exact .set f
 have h:∀x w',rP H x b w' w=some (d,H')->HB H H':=λx w' e=>by
  unfold rP at e;split at e
  ·split at e;·cases e;exact .refl _
   grind
  grind
 unfold gM at e;split at e;·grind
 ·grind
 ·unfold mV at e;split at e
  ·rename_i f;split at e
   ·split at e;·cases e;exact .refl _
    split at e
    ·split at e;·exact g (jg f).1 e
     grind
    split at e;·exact g (jg f).1 e
    cases e;exact .push _ (by nofun)
   grind
  grind
 ·exact h _ _ e
 ·exact h _ _ e
 cases e
def afE(m:Nat):(∀(d:D)(H:ab)(c:D)(H':ab),bS m H d=some (c,H')->H'.length=H.length)/\(∀(ds:List D)(H:ab)(b:List D)(H':ab),aW m H ds=some (b,H')->H'.length=H.length)/\(∀(a:List (List D))(H:ab)(e:List (List D))(H':ab),io m H a=some (e,H')->H'.length=H.length):=by
 induction m with|zero=>
 refine⟨λd H c H' h=>by grind[AD],λds H b H' h=>?_,λa H e H' h=>?_⟩;·cases ds<;>simp[gK,AE]at h;grind
 cases a<;>simp[rO,Fb]at h;grind|succ m g=>
 have f:∀(ds:List D)(H:ab)(b:List D)(H':ab),aW (m+1) H ds=some (b,H')->H'.length=H.length:=by intro ds;induction ds<;>grind[gK,dM]
 refine⟨λd H c H' h=>?_,f,?_⟩;·grind[f7]
 intro a;induction a<;>grind[rO,uM]
variable{c:List (List D)}
def afF{H:ab}{r:List (List D)×ab}(h:iL H c=some r):HB H r.2:=(Ga h).hb ((afE bG).2.2 _ _ r.1 _ h)
def afG{H H':ab}{x y d:D}{w bytes:Nat}{p:Bool}(e:bY H x y w bytes p=some (d,H')):HB H H':=by
 unfold bY at e;split at e
 ·split at e
  ·split at e;·rename_i a;exact(afF a).trans (RJ e)
   grind
  grind[RJ]
 grind
def oC(base:Bs)(H b:ab):HC->Prop|.n|.r|.q|.h=>b=H|.w=>HB H b|.a=>Sb base H b|.d=>True
def Bi(base:Bs)(H H':ab):HC->Prop|.n=>True|.r=>Sb base H H'|.a|.d|.q|.w=>H'=H|.h=>HB H H'
def HcOut(H' b:ab):HC->ab|.n|.r|.q|.h=>H'|.a|.d|.w=>b
structure mc(V:aw)(cl:FuncId->List D->ab->CR)(base:Bs)(hc:HC)(op:aj)(loc sl:List D)(H:ab)(d:D)(st1:St)(u:Option (Nat×D)):Prop where
 slot:st1.sl=Gb u sl
 le:H.length<=st1.hp.length
 ok:oC base H st1.hp hc
 us:∀k e,u=some (k,e)->∃a x n o,op=.lst a x n/\a.ev loc sl=some (k,o)same:∀(loc' sl':List D)(H':ab),kJ op loc sl loc' sl'->Bi base H H' hc->step V cl loc' ⟨sl',H'⟩ op=.v d ⟨Gb u sl',HcOut H' st1.hp hc⟩
section
variable{V:aw}{cl:FuncId->List D->ab->CR}{base:Bs}{strict:Bool}{op:aj}{loc sl:List D}{H:ab}{d:D}{st1:St}
variable{b:HC}
theorem mc.n(f:b=.n){X:Option D}(g:X=some d)(i:st1=⟨sl,H⟩)(h:∀(c a:List D)(H':ab),kJ op loc sl c a->step V cl c ⟨a,H'⟩ op=aE ⟨a,H'⟩ X):mc V cl base b op loc sl H d st1 none:=by subst i;subst f;exact⟨rfl,G1 _,rfl,λk e h=>(by cases h),λc a H' j _=>by rw[h c a H' j,g];rfl⟩
def mc.r(f:b=.r){X:ab->Option D}(l:X H=some d)(g:st1=⟨sl,H⟩)(i:∀H',Sb base H H'->X H'=some d)(h:∀(c a:List D)(H':ab),kJ op loc sl c a->step V cl c ⟨a,H'⟩ op=aE ⟨a,H'⟩ (X H')):mc V cl base b op loc sl H d st1 none:=by subst g;subst f;exact⟨rfl,G1 _,rfl,λk e h=>(by cases h),λc a H' j hs=>by rw[h c a H' j,i H' hs];rfl⟩
def mc.w(g:b=.a\/b=.d){ov:Bool}(l:st1.sl=sl)(i:Wr base ov H st1.hp)(m:base.1<=H.length)(n:b=.a->ov=true)(h:∀(f c:List D),kJ op loc sl f c->step V cl f ⟨c,H⟩ op=.v d ⟨c,st1.hp⟩):mc V cl base b op loc sl H d st1 none:=by
 refine⟨l,i.1,?_,λk e h=>(by cases h),λf c H' j hs=>?_⟩
 ·rcases g with rfl|rfl;·exact i.2 m (n rfl)
  trivial
 rcases g with rfl|rfl;·cases hs;exact h f c j
 cases hs;exact h f c j
def mc.h(f:b=.h){X:ab->Option D}(g:st1=⟨sl,H⟩)(i:∀H',HB H H'->X H'=some d)(h:∀(c a:List D)(H':ab),kJ op loc sl c a->step V cl c ⟨a,H'⟩ op=aE ⟨a,H'⟩ (X H')):mc V cl base b op loc sl H d st1 none:=by subst g;subst f;exact⟨rfl,G1 _,rfl,λk e h=>(by cases h),λc a H' j hs=>by rw[h c a H' j,i H' hs];rfl⟩
def mc.wa(g:b=.a\/b=.w)(l:st1.sl=sl)(i:Wr base z H st1.hp)(m:HB H st1.hp)(n:base.1<=H.length)(o:b=.a->z=true)(h:∀(f c:List D),kJ op loc sl f c->step V cl f ⟨c,H⟩ op=.v d ⟨c,st1.hp⟩):mc V cl base b op loc sl H d st1 none:=by
 refine⟨l,i.1,?_,λk e h=>(by cases h),λf c H' j hs=>?_⟩
 ·rcases g with rfl|rfl;·exact i.2 n (o rfl)
  exact m
 rcases g with rfl|rfl;·cases hs;exact h f c j
 cases hs;exact h f c j
variable{x y:List D}
theorem kJ.one{x:O}{a:List D}(h:kJ op loc sl y a)(b:x∈op.args):x.ev y a=x.ev loc sl:=h.1 x b
def kJ.all{xs:List O}{a:List D}(h:kJ op loc sl y a)(b:∀x∈xs,x∈op.args):xs.map (O.ev y a)=xs.map (O.ev loc sl):=AAm λx c=>h.1 x (b x c)
def kJ.opt{x:Option O}{a b:List D}(h:kJ op loc sl a b)(c:∀y,x=some y->y∈op.args):x.map (O.ev a b)=x.map (O.ev loc sl):=by cases x with|none=>rfl|some y=>exact ka some (h.1 y (c y rfl))
def RL(h:op.fits (some (base,strict)) loc sl=true){x:O}(a:x∈op.reads):(x.ev loc sl).under base=true:=by
 cases strict<;>simp[aj.fits,TB]at h;·exact h x a
 exact h.1 x a
def RM(h:op.fits (some (base,true)) loc sl=true){x:O}(a:x∈op.writes):(x.ev loc sl).over base=true:=by grind[aj.fits]
set_option maxHeartbeats 1000000 in def afH(F:ir V cl)(j:base.1<=H.length)(m:op.fits (some (base,strict)) loc sl=true)(h:step V cl loc ⟨sl,H⟩ op=.v d st1):∃u,mc V cl base (op.hc V strict) op loc sl H d st1 u:=by
 have wr:∀{x:O},x∈op.writes->((if strict then HC.a else .d)=.a->(x.ev loc sl).over base=true):=λ{x}I G=>by cases strict with|true=>exact RM m I|false=>cases G
 have J:(if strict then HC.a else .d)=HC.a\/(if strict then HC.a else .d)=HC.d:=by cases strict<;>simp
 have r:=λ{x}=>RL (x:=x) m;cases op;case len k x=>obtain⟨b,i⟩:=qn h;clear wr;match k,m,h,b with|0,m,h,b|1,m,h,b=>exact⟨none,.n rfl b i λ_ _ _ c=>by simp only[step,c.one (x:=x) (by simp[aj.args])];rfl⟩|k+2,m,h,b=>exact⟨none,.r (H:=H) rfl b i (λH' hs=>afz hs (RL m (by simp[aj.reads])) b) λ_ _ _ c=>by simp only[step,c.one (x:=x) (by simp[aj.args])]⟩
 case call f y=>
  simp only[step]at h;obtain⟨b,i⟩:=kG h;refine⟨none,.w (ov:=match V.fn f with|some B=>B.pure|none=>false) ?_ (by rw[i]) ⟨F.le _ _ _ _ _ b,λj C=>?_⟩ j ?_ λ_ _ c=>by simp only[step];rw[c.all (xs:=y) (by simp[aj.args]),b];rfl⟩<;>try simp only[aj.hc]
  ·split;·split<;>simp
   simp
  ·split at C;·exact(F.gr _ _ _ _ _ _ ‹_› C b).2.mono j
   cases C
  cases E:V.fn f with|none=>simp|some B=>cases o:B.pure<;>simp[o]
 case cpl f y=>simp only[step]at h;cases E:V.fn f with|none=>rw[E]at h;cases h|some B=>
  rw[E]at h;simp only at h;split at h;·rename_i A;obtain⟨b,i⟩:=kG h;simp only[D0,k7]at A;obtain⟨g1,K⟩:=F.pl _ _ _ _ _ B E A.1.1 A.1.2 A.2 (EW b);refine⟨none,.n rfl (X:=some d) rfl (by rw[i,g1]) λ_ _ H' c=>?_⟩;simp only[step,E];rw[c.all (xs:=y) (by simp[aj.args]),K H'];simp only[A.1.1,A.1.2,A.2];rfl
  cases h
 all_goals try simp only[step]at h
 case pan=>unfold rW at h;split at h<;>cases h
 case app=>
  obtain⟨b,i⟩:=qp h;refine⟨none,.wa (by simp only[aj.hc];cases strict<;>simp) (by rw[i]) (RC b) (afG b) j (λG=>?_) λ_ _ c=>?_⟩;·cases strict with|true=>exact RM m (by simp[aj.writes])|false=>cases G
  have t:=c.1;simp only[aj.args,S2,AAE,or_false,forall_eq_or_imp,forall_eq]at t;simp only[step,t,b];rfl
 case' hbx=>obtain⟨b,i⟩:=qp h;refine⟨none,.w (ov:=true) (.inl rfl) (by rw[i]) (.of_gr _ ?_) j (λ_=>rfl) λl s c=>?_⟩;focus obtain⟨U,_,b⟩:=l3.1 b;simp only[wx]at b;rw[<-b.2];exact .push _ _
 case' calx=>obtain⟨b,i⟩:=kG h;obtain⟨t,L⟩:=(AF _ _).1 (EY b).2;refine⟨none,.w (ov:=true) (.inl rfl) (by rw[i]) (.of_gr _ (by rw[L];exact .push _ _)) j (λ_=>rfl) λl s c=>?_⟩
 all_goals try cases h;done
 all_goals repeat' split at h<;>try(cases h;done)
 all_goals try simp only[aj.reads,eD,forall_eq]at r
 all_goals try simp only[aj.writes,eD,forall_eq]at wr
 all_goals try(cases h;exact⟨none,.w (ov:=true) (.inl rfl) rfl (.of_gr _ (.push _ _)) j (λ_=>rfl) λ_ _ _=>rfl⟩)
 all_goals try(cases h;refine⟨none,.n rfl (X:=some _) rfl rfl λl s _ c=>?_⟩)
 all_goals try have g:=qn h;obtain⟨b,i⟩:=g;first|refine⟨none,.r (H:=H) rfl (X:=λH=>match cT H _ _ with|some r=>val _ r|none=>none) (by rw[‹cT _ _ _=_›];exact b) i (λH' hs=>by simp only[afw hs r ‹_›];exact b) λl s H' c=>?_⟩|refine⟨none,.q (H:=H) rfl (X:=λH=>match cT H _ _ with|some r=>val _ r|none=>none) (by rw[‹cT _ _ _=_›];exact b) i λl s H' c=>?_⟩|refine⟨none,.h rfl (X:=λH=>match lD H _ _ with|some r=>val _ r|none=>none) i (λH' hs=>by simp only[RH hs ‹_›];exact b) λl s H' c=>?_⟩|refine⟨none,.n rfl b i λl s _ c=>?_⟩|refine⟨none,.r (H:=H) rfl b i (λH' hs=>by first|exact afx hs r b|exact afy hs r b|exact afA hs r b|exact afD hs r b|exact afB hs r b|exact b) λl s _ c=>?_⟩|refine⟨none,.q (H:=H) rfl b i λl s _ c=>?_⟩|refine⟨none,.w (ov:=true) (.inl rfl) (by rw[i]) (by rw[i];exact .of_gr _ (.refl _)) j (λ_=>rfl) λl s c=>?_⟩
 all_goals try have g:=kG h;obtain⟨b,i⟩:=g;first|refine⟨none,.w (ov:=true) (.inl rfl) (by rw[i]) (.of_gr _ (Ru (EX b).2)) j (λ_=>rfl) λl s c=>?_⟩|refine⟨none,.w (ov:=false) (.inr rfl) (by rw[i]) ⟨F.le _ _ _ _ _ b,λ_ C=>by cases C⟩ j (λM=>by cases M) λl s c=>?_⟩
 all_goals try have g:=qp h;obtain⟨b,i⟩:=g;first|refine⟨none,.w (ov:=true) (.inl rfl) (by rw[i]) (.of_gr _ (by first|exact RG b|exact RE b)) j (λ_=>rfl) λl s c=>?_⟩
 all_goals try have g:=Bf h;obtain⟨b,i,N⟩:=g;subst i;refine⟨none,.w J (by rw[N]) (by first|exact RA b|exact RD b) j wr λl s c=>?_⟩
 all_goals try have t:=c.1;have u:=c.2;have T:=λ{y}=>c.all (xs:=y);simp only[aj.args,aj.base,S2,TA,AAE,or_false,forall_eq_or_imp,forall_eq]at t u T;first|simp only[step,t];done|simp only[step,t];rfl|simp only[step,t,b];rfl|simp only[step];rw[T λ_ h=>h];done|simp only[step];rw[T λ_ h=>h,b];rfl|simp only[step,u.1];rw[‹AB.ev loc sl _=_›];rfl|simp only[step,t.1];rw[T λ_ h=>.inr h];rw[‹O.ev loc sl _=_›];(first|simp only[E1 ‹¬_›,b];rfl|simp only[b];rfl|simp only[‹_=some _›,b];rfl)
 ·obtain⟨u,v⟩:=c.2 _ (.head _);have w:=v _ _ ‹_›;have q:=‹eR _ _=_›;simp only[eR]at q;simp only[step,u,‹AB.ev loc sl _=_›,eR,w,q,‹eQ _ _ _=_›]
 ·cases h;refine⟨some (_,.bx _),rfl,G1 _,rfl,λ_ _ e=>by cases e;exact⟨_,_,_,_,rfl,‹_›⟩,λl s _ c _=>?_⟩;obtain⟨u,v⟩:=c.2 _ (.head _);have w:=v _ _ ‹_›;have q:=‹eR _ _=_›;simp only[eR]at q;simp only[step,u,‹AB.ev loc sl _=_›,eR,w,q,c.1 _ (.head _),‹D.cellsN _ _=_›,‹cS _ _ _=_›];rfl
 ·simp only[step,c.1 _ (.head _)];cases cT H' _ _<;>rfl
 ·obtain⟨b,i⟩:=qn h;rename_i x n P _ r hr;exact⟨none,.h rfl (X:=λH=>match lD H (x.ev loc sl) n with|some r=>val P r|none=>none) i (λH' hs=>by simp only[RH hs hr];exact b) λ_ _ H' c=>by simp only[step,c.1 _ (.head _)];cases lD H' (x.ev loc sl) n<;>rfl⟩
 ·simp only[step,c.1 _ (.head _),c.1 _ (.tail _ (.head _)),‹D.cellsN _ _=_›,b];rfl
 ·refine ka (λz=>aE _ (Option.map D.ag (jF _ z))) (AAm λp o=>ka (λz=>(p.1,p.2.1,z)) (c.1 _ (fT.2 ⟨p,o,rfl⟩)))
 ·refine(ka (λz=>gO ⟨s,H⟩ (ob H _ _ _ z _)) (AAm λp o=>ka (λz=>(p.1,z)) (c.1 _ (fT.2 ⟨p,o,rfl⟩)))).trans (by rw[b];rfl)
 ·refine ka (λz=>aE _ (pU _ _ _ z)) (AAm λp o=>ka (λz=>(p.1,z)) (c.1 _ (fT.2 ⟨p,o,rfl⟩)))
 iterate 2 rename_i lo hi Q _ _;simp only[step,c.1 _ (.head _)];rw[c.opt (x:=lo) (by simp+contextual[aj.args]),c.opt (x:=hi) (by simp+contextual[aj.args]),c.opt (x:=Q) (by simp+contextual[aj.args])]
 ·rename_i lo hi;simp only[step,c.1 _ (.head _)];rw[c.opt (x:=lo) (by simp+contextual[aj.args]),c.opt (x:=hi) (by simp+contextual[aj.args]),b,i];rfl
 rename_i y S _;simp only[step];rw[c.all (xs:=y) (by simp+contextual[aj.args]),c.all (xs:=S) (by simp+contextual[aj.args])];rfl
end
end
section
section
variable {V:aw} {cl:FuncId -> List D -> ab -> CR} {base:Bs} {strict:Bool} {vos:List aq} {rt:List (Option Nat)}
def upds (us:List (Nat×D)) (sl:List D):List D:=us.foldl (fun s u=>s.set u.1 u.2) sl
theorem Gc : ∀ (us:List (Nat×D)) (sl:List D) (k:Nat),(∀ u∈us,u.1≠k) -> (upds us sl)[k]?=sl[k]?
 | [],_,_,_=>rfl
 | u::us,sl,k,h=>by
  have:=Gc us (sl.set u.1 u.2) k (fun v hv=>h v (M0 _ hv))
  grind[upds]
theorem RN : ∀ (us:List (Nat×D)) (sl:List D) (k:Nat) (d:D),(∀ u∈us,u.1≠k) -> upds us (sl.set k d)=(upds us sl).set k d
 | [],_,_,_,_=>rfl
 | u::us,sl,k,d,h=>by
  have:=RN us (sl.set u.1 u.2) k d (fun v hv=>h v (M0 _ hv))
  unfold upds at *
  rw[ta,ta, <- this,List.set_comm _ _ (h u N1).symm]
theorem RO : ∀ (vs us:List (Nat×D)) (sl:List D),(∀ u∈us, ∀ v∈vs,u.1≠v.1) -> upds vs (upds us sl)=upds us (upds vs sl)
 | [],_,_,_=>rfl
 | v::vs,us,sl,h=>by
  have:=RO vs us (sl.set v.1 v.2) (fun u hu w hw=>h u hu w (M0 _ hw))
  grind[upds,RN]
def xW (keep:Option Nat) (d:D):List (Nat×D) :=
 match keep with
 | none=>[]
 | some k=>[(k,d)]
theorem Bj (u:Option (Nat×D)) (keep:Option Nat) (d:D) (sl:List D):eS (Gb u sl) keep d=upds (u.toList++xW keep d) sl:=by
 cases u<;>cases keep<;>rfl
def LP (vos:List aq) (rt:List (Option Nat)) (loc:List D):Prop :=
 ∀ (i:Nat) (vo:aq) (k o:Nat),vos[i]?=some vo -> vo.op.isAddr=true -> loc[i]?=some (.lp k o) -> rt[i]?=some (some k)
structure qr (vos:List aq) (rt:List (Option Nat)):Prop where
 addr : ∀ (i:Nat) (vo:aq) (j:Nat),vos[i]?=some vo -> AB.lo j∈vo.op.base -> ∃ vj,vos[j]?=some vj /\ vj.op.isAddr=true
 step : ∀ (i:Nat) (vo:aq),vos[i]?=some vo -> rt[i]?=some (r6 rt vo)
structure sy (base:Bs) (vos:List aq) (rt:List (Option Nat)) (loc:List D) (st:St):Prop where
 len:loc.length=vos.length
 b:base.1 <= st.hp.length
 lp:LP vos rt loc
def mf (rt:List (Option Nat)) (o:aq) (loc sl loc' sl':List D):Prop :=
 (∀ j∈o.locR,loc'[j]?=loc[j]?) /\ ∀ k∈o.slR rt,sl'[k]?=sl[k]?
theorem mf.ev {o:aq} {loc sl loc' sl':List D} (h:mf rt o loc sl loc' sl') {x:O} (h1 : ∀ j∈x.locs,j∈o.locR) (h2 : ∀ k∈x.slots,k∈o.slR rt):x.ev loc' sl'=x.ev loc sl:=by
 cases x with
 | l i=>simp[O.ev,n0,h.1 i (h1 i (by simp[O.locs]))]
 | s k=>simp[O.ev,n0,h.2 k (h2 k (by simp[O.slots]))]
 | c d=>rfl
theorem mf.wants {o:aq} {loc sl loc' sl':List D} (h:mf rt o loc sl loc' sl'):o.wants loc' sl'=o.wants loc sl:=by
 unfold aq.wants
 cases hg:o.guard with
 | none=>rfl
 | some p =>
  obtain⟨x,w⟩:=p
  simp
  rw[h.ev (fun j hj=>by grind[aq.locR]) (fun k hk=>by grind[aq.slR])]
theorem mf.args {o:aq} {loc sl loc' sl':List D} (h:mf rt o loc sl loc' sl') {x:O} (hx:x∈o.op.args):x.ev loc' sl'=x.ev loc sl :=
 h.ev (fun j hj=>T4 _ (T4 _ (AAM.2 ⟨x,hx,hj⟩))) (fun k hk=>T4 _ (T4 _ (AAM.2 ⟨x,hx,hk⟩)))
theorem mf.like {o:aq} {i:Nat} {loc sl loc' sl':List D} (bo:qr vos rt) (ho:vos[i]?=some o) (hlp:LP vos rt loc) (h:mf rt o loc sl loc' sl'):kJ o.op loc sl loc' sl':=by
 refine⟨fun x hx=>h.args hx,fun a ha => ?_⟩
 have hl:=fun j hj=>h.1 j (T4 _ (gA _ (AAM.2 ⟨a,ha,hj⟩)))
 have hs:=fun k hk=>h.2 k (T4 _ (gA _ (AAM.2 ⟨a,ha,hk⟩)))
 cases a with
 | sl k =>
  grind[lZ,AB.ev]
 | lo j =>
  have hj:=hl j (by simp[AB.locs])
  refine⟨by grind[AB.ev],fun k' o' e => ?_⟩
  simp[AB.ev]at e
  split at e
  ·rename_i hlj
   cases e
   obtain⟨vj,h1,h2⟩:=bo.addr i o j ho ha
   exact hs k' (by simp[lZ,hlp j vj k' _ h1 h2 hlj])
  grind
theorem afI (op:aj) : ∀ x∈op.reads,x∈op.args:=by
 cases op with
 | len k x=>match k with
  | 0=>simp[aj.reads]
  | 1=>simp[aj.reads]
  | k+2=>simp[aj.reads,aj.args]
 | _=>simp[aj.reads,aj.args]
theorem afJ (op:aj) : ∀ x∈op.writes,x∈op.args:=by
 cases op<;>simp[aj.writes,aj.args]
theorem RP {α:Type} {xs:List α} {f g:α -> Bool} (h : ∀ x∈xs,f x=g x):xs.all f=xs.all g:=by
 grind
theorem mf.fits {o:aq} {loc sl loc' sl':List D} (h:mf rt o loc sl loc' sl'):o.op.fits (some (base,strict)) loc' sl'=o.op.fits (some (base,strict)) loc sl:=by
 have h1:(o.op.reads.all fun x=>(x.ev loc' sl').under base)=o.op.reads.all fun x=>(x.ev loc sl).under base :=
  RP fun x hx=>by rw[h.args (afI _ x hx)]
 have h2:(o.op.writes.all fun x=>(x.ev loc' sl').over base)=o.op.writes.all fun x=>(x.ev loc sl).over base :=
  RP fun x hx=>by rw[h.args (afJ _ x hx)]
 cases strict<;>simp[aj.fits,h1,h2]
structure afK (V:aw) (cl:FuncId -> List D -> ab -> CR) (base:Bs) (strict:Bool) (vos:List aq) (rt:List (Option Nat)) (i:Nat) (o:aq) (loc:List D) (st:St) (loc1:List D) (st1:St) (d:D) (us:List (Nat×D)):Prop where
 at_:loc1=loc.set i d
 slot:st1.sl=upds us st.sl
 ks : ∀ u∈us,u.1∈o.slW rt
 le:st.hp.length <= st1.hp.length
 ok:oC base st.hp st1.hp (o.op.hc V strict)
 same : ∀ (loc' sl':List D) (H':ab),mf rt o loc st.sl loc' sl' -> Bi base st.hp H' (o.op.hc V strict) ->
  one V cl (some (base,strict)) vos i loc' ⟨sl',H'⟩=some (loc'.set i d,⟨upds us sl',HcOut H' st1.hp (o.op.hc V strict)⟩)
theorem oC.refl (base:Bs) (H:ab) (c:HC):oC base H H c:=by
 cases c<;>first|trivial|exact Sb.refl _ _|exact HB.refl _
theorem Gd (hcl:ir V cl) (bo:qr vos rt) {i:Nat} {o:aq} {loc loc1:List D} {st st1:St} (inv:sy base vos rt loc st) (ho:vos[i]?=some o) (h:one V cl (some (base,strict)) vos i loc st=some (loc1,st1)) :
  ∃ d us,afK V cl base strict vos rt i o loc st loc1 st1 d us:=by
 obtain⟨sl,H⟩:=st
 unfold one at h
 simp[ho]at h
 split at h
 ·rename_i hw
  split at h
  ·rename_i hf
   split at h
   ·rename_i d st2 hs
    cases h
    obtain⟨u,e⟩:=afH hcl inv.b hf hs
    refine⟨d,u.toList++xW o.keep d,rfl, ?_,fun v hv => ?_,e.le,e.ok,fun loc' sl' H' hl hin => ?_⟩
    ·rw[e.slot,Bj]
    ·rcases TA.1 hv with hv|hv
     ·cases u with
      | none=>cases hv
      | some q =>
       obtain⟨k,x⟩:=q
       simp[Option.toList_some,eD]at hv
       subst hv
       obtain⟨a,x',n,off,hop,hev⟩:=e.us k x rfl
       simp only[aq.slW,hop]
       refine gA _ ?_
       cases a with
       | sl k' =>
        grind[AB.ev,lZ]
       | lo j =>
        simp[AB.ev]at hev
        split at hev
        ·rename_i hlj
         cases hev
         obtain⟨vj,h1,h2⟩:=bo.addr i o j ho (by grind[aj.base])
         simp[lZ,inv.lp j vj _ _ h1 h2 hlj]
        grind
     ·cases hk:o.keep<;>grind[xW,aq.slW]
    ·unfold one
     simp[ho,hl.wants]
     simp[hw,hl.fits,hf,e.same loc' sl' H' (hl.like bo ho inv.lp) hin,Bj]
   grind
  grind
 ·rename_i hw
  cases h
  refine⟨.u,xW _ .u,rfl,Bj none _ .u sl,fun v hv => ?_,G1 _,.refl _ _ _,fun loc' sl' H' hl hin => ?_⟩
  ·cases hk:o.keep<;>grind[xW,aq.slW]
  ·unfold one
   simp[ho,hl.wants,hw,hF,wx,St.mk.injEq,true_and]
   refine⟨Bj none _ .u sl', ?_⟩
   cases hc:o.op.hc V _<;>rw[hc]at hin<;>first|rfl|exact hin
 grind
theorem Bk (hcl:ir V cl) (bo:qr vos rt) {i:Nat} {loc loc1:List D} {st st1:St} (inv:sy base vos rt loc st) (h:one V cl (some (base,strict)) vos i loc st=some (loc1,st1)):sy base vos rt loc1 st1:=by
 cases ho:vos[i]? with
 | none=>unfold one at h;simp only[ho]at h;cases h;exact inv
 | some o =>
  obtain⟨d,us,e⟩:=Gd hcl bo inv ho h
  refine⟨by rw[e.at_];simpa using inv.len,dG inv.b e.le,fun j vo k off hj ha hl => ?_⟩
  by_cases hij:i=j
  ·subst hij
   rw[ho]at hj;cases hj
   have hi:i<loc.length:=by rw[inv.len];exact ay ho
   rw[e.at_,K2 hi]at hl
   cases hl
   have hrt:=bo.step i o ho
   rw[hrt]
   obtain⟨sl,H⟩:=st
   unfold one at h
   simp only[ho]at h
   split at h
   ·split at h
    ·split at h
     ·rename_i d' st2 hs
      have hd:d' = .lp k off:=by
       cases h
       have:=e.at_
       have h2:=ka (·[i]?) this
       simp only[K2 hi]at h2
       exact kv h2
      subst hd
      have ax : ∀ (a:AB) (o':Nat),a∈o.op.base -> a.ev loc sl=some (k,o') -> (match a with | .sl k=>some k | .lo j=>(rt[j]?).join)=some k:=fun a o' hm hev=>by
       cases a with
       | sl k' =>
        simp only[AB.ev]at hev
        split at hev
        ·cases hev;rfl
        ·cases hev
       | lo j =>
        simp only[AB.ev]at hev
        split at hev
        ·rename_i hlj
         cases hev
         obtain⟨vj,h1,h2⟩:=bo.addr i o j ho hm
         simp[inv.lp j vj _ _ h1 h2 hlj]
        ·cases hev
      cases hop:o.op<;>rw[hop]at ha<;>first|(cases ha;done)|skip
      ·rename_i a off'
       rw[hop]at hs
       simp only[step]at hs
       split at hs
       ·rename_i k' o' hev
        cases hs
        have:=ax a o' (by rw[hop];simp[aj.base]) hev
        simp only[r6,hop]
        exact ka some this
       ·cases hs
     ·cases h
    ·cases h
   ·cases h
    have:=e.at_
    have h2:=ka (·[i]?) this
    simp only[K2 hi]at h2
    cases h2
   ·cases h
  ·rw[e.at_,K0 hij]at hl
   exact inv.lp j vo k off hj ha hl
theorem Ge {a b:List Nat} (h:AJ a b=false) : ∀ x∈a,x∉b:=by grind[AJ]
structure oD (V:aw) (strict:Bool) (rt:List (Option Nat)) (i j:Nat) (x y:aq):Prop where
 l1:i∉y.locR
 l2:j∉x.locR
 s1 : ∀ k∈x.slW rt,k∉y.slR rt
 s2 : ∀ k∈x.slW rt,k∉y.slW rt
 s3 : ∀ k∈x.slR rt,k∉y.slW rt
 h:(x.op.hc V strict).free (y.op.hc V strict)=true
 p:x.op.pans=false
 q:y.op.pans=false
theorem afL {i j:Nat} {x y:aq} (hx:vos[i]?=some x) (hy:vos[j]?=some y) (h:Fh V strict rt vos i j=true):oD V strict rt i j x y:=by
 simp only[Fh,hx,hy,D0,k7]at h
 obtain⟨⟨⟨⟨⟨⟨h1,h2⟩,h3⟩,h4⟩,h5⟩,h6⟩,h7⟩:=h
 exact⟨by grind,by grind,fun k hk hm=>Ge h3 k hk (T4 _ hm),fun k hk hm=>Ge h3 k hk (gA _ hm),Ge h4,h5,h6,h7⟩
theorem Bl (hcl:ir V cl) (bo:qr vos rt) {i j:Nat} (hij:i≠j) {x y:aq} (hx:vos[i]?=some x) (hy:vos[j]?=some y) (hi:oD V strict rt i j x y) {loc loc1 loc2:List D} {st st1 st2:St} (inv:sy base vos rt loc st)
  (h1:one V cl (some (base,strict)) vos i loc st=some (loc1,st1)) (h2:one V cl (some (base,strict)) vos j loc1 st1=some (loc2,st2)) :
  ∃ loc3 st3,one V cl (some (base,strict)) vos j loc st=some (loc3,st3) /\ one V cl (some (base,strict)) vos i loc3 st3=some (loc2,st2):=by
 obtain⟨d,us,e1⟩:=Gd hcl bo inv hx h1
 obtain⟨e,vs,e2⟩:=Gd hcl bo (Bk hcl bo inv h1) hy h2
 obtain⟨sl,H⟩:=st
 obtain⟨sl1,H1⟩:=st1
 obtain⟨sl2,H2⟩:=st2
 have g1:=e1.at_
 have g2:=e2.at_
 have g3:sl1=upds us sl:=e1.slot
 have g4:sl2=upds vs sl1:=e2.slot
 have o1:oC base H H1 _:=e1.ok
 have o2:oC base H1 H2 _:=e2.ok
 have hf:=hi.h
 have k1:=e2.same loc sl H ⟨fun q hq => ?_,fun k hk => ?_⟩ ?_
 ·have k2:=e1.same (loc.set j e) (upds vs sl) (HcOut H H2 (y.op.hc V strict)) ⟨fun q hq => ?_,fun k hk => ?_⟩ ?_
  ·refine ⟨_,_,k1, ?_⟩
   rw[k2]
   refine ka some (Prod.ext ?_ ?_)
   ·simp[g1,g2]
    exact List.set_comm _ _ (AAX hij)
   ·simp [St.mk.injEq]
    refine⟨?_, ?_⟩
    ·rw[g4,g3]
     exact(RO vs us sl (fun u hu v hv he=>hi.s2 _ (e1.ks u hu) (he▸e2.ks v hv))).symm
    ·revert hf o1 o2
     cases x.op.hc V _<;>cases y.op.hc V _<;>simp[HC.free,oC,HcOut]<;>intros<;>simp_all
  ·rw[K0 (fun hh=>hi.l2 (by rw[hh];exact hq))]
  ·exact Gc vs sl k (fun v hv hh=>hi.s3 k hk (hh▸e2.ks v hv))
  ·revert hf o1 o2
   cases x.op.hc V _<;>cases y.op.hc V _<;>simp[HC.free,oC,HcOut,Bi]<;>intros<;>simp_all
   all_goals first|exact Sb.refl _ _|exact HB.refl _
 ·rw[g1,K0 (fun hh=>hi.l1 (by rw[hh];exact hq))]
 ·rw[g3];exact(Gc us sl k (fun u hu hh=>hi.s1 _ (e1.ks u hu) (hh▸hk))).symm
 ·revert hf o1 o2
  cases x.op.hc V _<;>cases y.op.hc V _<;>simp[HC.free,oC,Bi]<;>intros<;>simp_all
  all_goals first|exact Sb.refl _ _|exact HB.refl _|exact Sb.symm (by assumption)|exact HB.symm (by assumption)
theorem afM (hcl:ir V cl) (bo:qr vos rt) {j:Nat} {y:aq} (hy:vos[j]?=some y) {post:List Nat} {st':St} : ∀ (pre:List Nat) (loc:List D) (st:St),sy base vos rt loc st ->
  (∀ i∈pre,i≠j /\ ∃ x,vos[i]?=some x /\ oD V strict rt i j x y) -> eF V cl (some (base,strict)) vos (pre++j::post) loc st=(.nm,st') -> eF V cl (some (base,strict)) vos (j::(pre++post)) loc st=(.nm,st'):=by
 intro pre
 induction pre with
 | nil=>grind
 | cons i pre ih =>
  intro loc st inv hp h
  rw[U3,xP]at h
  obtain⟨loc1,st1,h1,h2⟩:=h
  have inv1:=Bk hcl bo inv h1
  have h3:=ih loc1 st1 inv1 (fun q hq=>hp q (M0 _ hq)) h2
  rw[xP]at h3
  obtain⟨hne,x,hx,hi⟩:=hp i N1
  grind[Bl,xP]
theorem afN (hcl:ir V cl) (bo:qr vos rt) {j:Nat} {y:aq} (hy:vos[j]?=some y) {post:List Nat} {r:List D×St} : ∀ (pre:List Nat) (loc:List D) (st:St),sy base vos rt loc st ->
  (∀ i∈pre,i≠j /\ ∃ x,vos[i]?=some x /\ oD V strict rt i j x y) -> oq V cl (some (base,strict)) vos (pre++j::post) loc st=some r -> oq V cl (some (base,strict)) vos (j::(pre++post)) loc st=some r:=by
 intro pre
 induction pre with
 | nil=>grind
 | cons i pre ih =>
  intro loc st inv hp h
  rw[U3,vi]at h
  obtain⟨loc1,st1,h1,h2⟩:=h
  have inv1:=Bk hcl bo inv h1
  have h3:=ih loc1 st1 inv1 (fun q hq=>hp q (M0 _ hq)) h2
  rw[vi]at h3
  obtain⟨loc2,st2,h4,h5⟩:=h3
  obtain⟨hne,x,hx,hi⟩:=hp i N1
  obtain⟨loc3,st3,h6,h7⟩:=Bl hcl bo hne hx hy hi inv h1 h4
  rw[vi]
  refine⟨loc3,st3,h6, ?_⟩
  rw[U3,vi]
  exact⟨loc2,st2,h7,h5⟩
end
end
section
def p6(acc:Array Nat)(o:Oper):Nat:=o.after.foldl (λs e=>if Region.binds .any e then s|||2^e.on|||acc.getD e.on 0 else s) 0
theorem adg(ops:Array Oper):Region.before ops=ops.toList.foldl (λacc o=>acc.push (p6 acc o)) #[]:=by unfold Region.before;rw[<-Array.foldl_toList];rfl
def Fj:∀(l:List Oper)(acc:Array Nat)(j:Nat),j<acc.size->(l.foldl (λacc o=>acc.push (p6 acc o)) acc).getD j 0=acc.getD j 0|[],_,_,_=>rfl|o::l,acc,j,h=>by rw[ta,Fj l _ j (by grind)];simp[h,Array.getElem_push,Nat.lt_succ_of_lt h]
def P5:∀(l:List Oper)(acc:Array Nat)(i:Nat)(o:Oper),l[i]?=some o->∃a:Array Nat,a.size=acc.size+i/\(∀q,q<a.size->a.getD q 0=(l.foldl (λacc o=>acc.push (p6 acc o)) acc).getD q 0)/\(l.foldl (λacc o=>acc.push (p6 acc o)) acc).getD (acc.size+i) 0=p6 a o|[],_,_,_,h=>by grind|o::l,acc,i,o',h=>by cases i with|zero=>cases h;refine⟨acc,by simp,λq b=>(Fj _ acc q b).symm,?_⟩;rw[ta,l4,Fj l _ _ (by simp)];simp_all|succ i=>obtain⟨a,c,d,e⟩:=P5 l (acc.push (p6 acc o)) i o' (by grind);grind
variable{x:Oper}
theorem adh{acc:Array Nat}{i:Nat}(h:(p6 acc x).testBit i=true):∃e∈x.after.toList,Region.binds .any e=true/\(i=e.on\/(acc.getD e.on 0).testBit i=true):=by
 unfold p6 at h;rw[<-Array.foldl_toList]at h;have:∀(l:List Edge)(s:Nat),(l.foldl (λs e=>if Region.binds .any e then s|||2^e.on|||acc.getD e.on 0 else s) s).testBit i=true->s.testBit i=true\/∃e∈l,Region.binds .any e=true/\(i=e.on\/(acc.getD e.on 0).testBit i=true):=by intro l;induction l<;>grind
 grind
def adi{ops:Array Oper}{j i:Nat}(a:ops[j]?=some x)(h:((Region.before ops).getD j 0).testBit i=true):∃e∈x.after.toList,Region.binds .any e=true/\(i=e.on\/(e.on<j/\((Region.before ops).getD e.on 0).testBit i=true)):=by obtain⟨b,c,d,f⟩:=P5 ops.toList #[] j x (by grind);grind[adg,adh]
section
variable{c:CX}{E:En}{nd:List Deferred}
def dt(listed:Array Bool)(i:Nat):Prop:=listed.getD i false=true
def AK{listed:Array Bool}{i j:Nat}(h:dt (listed.setIfInBounds i true) j):j=i\/dt listed j:=by
 unfold dt at*;by_cases a:j=i;·omega
 right;simp only[Array.getD,AAU]at*;split at h;·rename_i b;rw[<-h];simp[ABh];grind
 grind
def Fk{listed:Array Bool}{i j:Nat}(h:dt listed j):dt (listed.setIfInBounds i true) j:=by
 unfold dt at*;simp only[Array.getD,AAU]at*;split at h;·rename_i a;simp[ABh]at*;grind
 grind
theorem Fl{listed:Array Bool}{i:Nat}(h:i<listed.size):(!listed.getD i true)=true↔¬dt listed i:=by grind[dt]
structure AO(c:CX)(E:En)(nd:List Deferred)(base:Bs)(strict:Bool)(n:Nat)(listed:Array Bool)(l:List Nat)(L:Nat->Option Nat)(K:Kn)(μ:Mu)(loc:List D)(st:St)(a:Act)(W:World):Prop where
 kn:n<=c.vos.length
 z:listed.size=c.vos.length
 li:l=(List.range n).filter λi=>!listed.getD i true
 cl:∀i j,dt listed j->((Region.before c.ops).getD j 0).testBit i=true->dt listed i
 ix:∀(i j:Nat)(x y:aq),i<j->dt listed j->¬dt listed i->c.vos[i]?=some x->c.vos[j]?=some y->oD c.V strict c.rt i j x y
 ri:RI c E nd (dt listed) L K μ loc st.sl st.hp a W
 iv:sy base c.vos c.rt loc st
def xE(rg:gU c){listed:Array Bool}{i:Nat}(g:listed.size=c.vos.length):i∈Region.ready .any c.ops listed↔∃o,c.ops[i]?=some o/\¬dt listed i/\∀e∈o.after.toList,Region.binds .any e=true->dt listed e.on:=by
 simp only[Region.ready,qo,qb,D0];constructor;·rintro⟨a,b,d⟩;refine⟨_,ma a,(Fl (by grind)).1 b,λe h j=>?_⟩;rw[ma a]at d;simp only[ga,fL,Array.all_eq_true']at d;grind[dt]
 rintro⟨o,f,b,d⟩;obtain⟨a,rfl⟩:=AA7.1 f;refine⟨a,(Fl (by have:=rg.sz;omega)).2 b,?_⟩;grind[dt]
section
variable{base:Bs}{strict:Bool}{n:Nat}{listed:Array Bool}{l:List Nat}{L:Nat->Option Nat}{K:Kn}{μ:Mu}{loc:List D}{st:St}{a:Act}{W:World}
def AO.mem(h:AO c E nd base strict n listed l L K μ loc st a W){i:Nat}:i∈l↔i<n/\¬dt listed i:=by rw[h.li,qo,qb];have:=h.kn;have:=h.z;grind[Fl]
def AO.pw(h:AO c E nd base strict n listed l L K μ loc st a W):l.Pairwise (·<·):=by rw[h.li];exact .filter _ List.pairwise_lt_range
def AO.bef(h:AO c E nd base strict n listed l L K μ loc st a W){i j:Nat}(b:c.ops[i]?=some x)(d:∀e∈x.after.toList,Region.binds .any e=true->dt listed e.on)(f:((Region.before c.ops).getD i 0).testBit j=true):dt listed j:=by
 obtain⟨e,g,k,rfl|⟨_,m⟩⟩:=adi b f;·grind
 exact h.cl j e.on (d e g k) m
structure Dw(c:CX)(T:Kn->World->Prop)(E:En)(cl:FuncId->List D->ab->CR)(strict:Bool):Prop where
 rg:gU c
 vok:dK c.P c.V T
 te:TE T E
 cs:fX c.P T cl
 fit:ir c.V cl
 bo:qr c.vos c.rt
 back:∀(i:Nat)(vo:aq),c.vos[i]?=some vo->∀j∈vo.locR,j<i
 first:∀(i:Nat)(vo:aq),c.vos[i]?=some vo->vo.op.isBox=true->∀k,vo.keep=some k->∀j,j<i->c.rt[j]?≠some (some k)draw:∀(i j:Nat)(x y:aq),i<j->c.vos[i]?=some x->c.vos[j]?=some y->((Region.before c.ops).getD j 0).testBit i=true\/oD c.V strict c.rt i j x y
 edge:∀(i:Nat)(o:Oper),c.ops[i]?=some o->∀e∈o.after.toList,Region.binds .any e=true->e.on<i
theorem AO.one(h:AO c E nd base strict n listed l L K μ loc st a W){T:Kn->World->Prop}{I:FuncId->List D->ab->CR}(d:Dw c T E I strict){i:Nat}{w:aq}(s:c.vos[i]?=some w)(aa:i<n)(z:¬dt listed i)(A:∀j,((Region.before c.ops).getD i 0).testBit j=true->dt listed j)(J:∀j(x:aq),j<i->¬dt listed j->c.vos[j]?=some x->oD c.V strict c.rt j i x w){Q:Exit->Act->World->Prop}{rd:Option Nat}{m:Nat}{next:Act->World->Prop}:∃t u,l=t++i::u/\(∀j∈t,j≠i/\∃y,c.vos[j]?=some y/\oD c.V strict c.rt j i y w)/\∀{loc1 st1},Dm.one c.V I (some (base,strict)) c.vos i loc st=some (loc1,st1)->(∀M N P B C,AO c E nd base strict n (listed.setIfInBounds i true) (t++u) M N P loc1 st1 B C->next B C)->wpOpIn (FW rd) m c.P c.ops Q i next a W:=by
 have rg:=d.rg;have ac:=d.fit;have S:=d.bo;have F:=h.kn;have hz:=h.z;have G:=h.pw;obtain⟨t,u,hs⟩:=ACX (h.mem.2 ⟨aa,z⟩);rw[hs]at G;have ad:=λj b=>(m6.1 G).2.2 j b i (.head _);have ae:∀j∈u,i<j:=λj b=>ABD (m6.1 G).2.1 b;refine⟨t,u,hs,λj b=>?_,λ{loc1 st1}g1 v=>sw rg h.ri d.vok d.te d.cs s (λj b=>ot λF=>?_) (λA k v j b g=>?_) g1 λM N P B C r=>v _ _ _ _ _ ⟨F,by grind,?_,λp q f U=>?_,λp q x y V f hp X H=>?_,⟨r.fs,λj o' ag t' b=>r.lr j o' ag t' (AK b),r.sz,r.df,r.ln⟩,Bk ac S h.iv g1⟩⟩;·obtain⟨j1,j2⟩:=h.mem.1 (by rw[hs];exact T4 _ b);grind
 ·have:=d.back i _ s j b;exact(J j _ this F (Hk (by omega))).l1 b
 ·rcases lu j i with o|o;·exact d.first i _ s A k v j o g
  have an:i≠j:=λe=>z (e▸b);have Y:=Hk (by rw[<-rg.rtl];exact ay g);refine(h.ix i j _ _ (by omega) b z s Y).s1 k (by simp[aq.slW,v]) ?_;rw[S.step j _ Y]at g;refine T4 _ (gA _ ?_);unfold r6 at g;split at g<;>try(cases g;done)
  all_goals rename_i ao;rename AB=>a;cases a<;>simp_all[aj.base,lZ]
 ·have:(List.range n).filter (λj=>!(listed.setIfInBounds i true).getD j true)=l.filter (λj=>j !=i):=by
   rw[h.li,AAu];refine ABK λj b=>?_;have b:j<listed.size:=by have:=qb.1 b;omega
   by_cases o:j=i;·subst o;simp[b]
   simp[b,o,Array.getElem_setIfInBounds_ne b (AAX o)]
  rw[this,hs,vx,pb];simp[bne_self_eq_false,AAY,if_false];rw[AAk.2 λj b=>by have:=ad j b;simp;omega,AAk.2 λj b=>by have:=ae j b;simp;omega]
 ·rcases AK f with rfl|f;·exact Fk (A p U)
  exact Fk (h.cl p q f U)
 have Z:¬dt _ p:=λhh=>hp (Fk hh);rcases AK f with rfl|f;·rw[s]at H;cases H;exact J p x V Z X
 exact h.ix p q x y V f Z X H
end
variable{y:FuncId->List D->ab->CR}{z:Exit->Act->World->Prop}
def adj{T:Kn->World->Prop}{base:Bs}{strict:Bool}(d:Dw c T E y strict){g:St}{rd:Option Nat}{m:Nat}(B:∀C F G k u,FS E c.tm c.bs F G C g.sl g.hp k.tmps u->k.tmps.size=c.nt->k.defers=nd->z .normal k u):∀(fuel:Nat){listed:Array Bool}{L:Nat->Option Nat}{K:Kn}{μ:Mu}{loc:List D}{st:St}{a:Act}{W:World}{l:List Nat},AO c E nd base strict c.vos.length listed l L K μ loc st a W->l.length<=fuel->eF c.V y (some (base,strict)) c.vos l loc st=(.nm,g)->wpAnyIn (FW rd) m c.P .any c.ops z fuel listed a W:=by
 have rg:=d.rg;have v:∀{listed:Array Bool}{L:Nat->Option Nat}{K:Kn}{μ:Mu}{loc:List D}{st:St}{a:Act}{W:World},AO c E nd base strict c.vos.length listed [] L K μ loc st a W->eF c.V y (some (base,strict)) c.vos [] loc st=(.nm,g)->z .normal a W:=λh e=>by cases e;exact B _ _ _ _ _ h.ri.fs h.ri.sz h.ri.df
 intro fuel;induction fuel with|zero=>intro listed L K μ loc st a W l b n h;cases kh.1 (Nat.le_zero.1 n);refine⟨ABX.2 λi hi=>?_,v b h⟩;obtain⟨o,p,f,_⟩:=(xE rg b.z).1 hi;cases b.mem.2 ⟨by rw[<-rg.sz];grind,f⟩|succ fuel H=>
 intro listed L K μ loc st a W l b n h;refine⟨λhr=>?_,λi hi=>?_⟩;·cases l with|nil=>exact v b h|cons i l=>
  obtain⟨q,f⟩:=b.mem.1 (.head _);have hi:i<c.ops.size:=by rw[rg.sz];exact q
  have:=(xE rg b.z).2 ⟨_,ma hi,f,λe I r=>ot λs=>by
 have V:=d.edge i _ (ma hi) e I r;rcases S2.1 (b.mem.2 ⟨by omega,s⟩)with h|h;·omega
 have:=ABD b.pw h;omega⟩;rw[hr]at this;cases this
 obtain⟨o,p,f,w⟩:=(xE rg b.z).1 hi;have q:i<c.vos.length:=by rw[<-rg.sz];exact(AA7.1 p).1
 have t:=Hk q;obtain⟨J,X,hs,M,N⟩:=b.one d t q f (λj=>b.bef p w) (λj x P s Q=>(d.draw j i x _ P Q t).resolve_left λr=>s (b.bef p w r)) (Q:=z) (rd:=rd) (m:=m);rw[hs]at h n;have A:=afM d.fit d.bo t J loc st b.iv M h;rw[xP]at A;obtain⟨loc1,st1,g1,S⟩:=A;exact N g1 λ_ _ _ _ _ U=>H U (by simp at n⊢;omega) S
def adk{T:Kn->World->Prop}(V:ig c.P T y){base:Bs}{strict:Bool}(d:Dw c T E y strict){p:Nat}{r:aq}(s:c.vos[p]?=some r)(M:r.op.pans=true){q:D}{loc1:List D}{st1:St}{B:ab}(X:r.wants loc1 st1.sl=some true)(hs:step c.V y loc1 st1 r.op=.p q B){rd:Option Nat}{m:Nat}(Y:∀v Z t u w A,FS E c.tm c.bs t u Z st1.sl B w.tmps A->w.tmps.size=c.nt->w.defers=nd->VR t u B q v->z (.panic (rE v)) w A):∀(fuel:Nat){listed:Array Bool}{L:Nat->Option Nat}{K:Kn}{μ:Mu}{loc:List D}{st:St}{a:Act}{W:World}{l:List Nat},AO c E nd base strict p listed l L K μ loc st a W->l.length<fuel->(∀j,p<=j->¬dt listed j)->oq c.V y (some (base,strict)) c.vos l loc st=some (loc1,st1)->wpAnyIn (FW rd) m c.P .any c.ops z fuel listed a W:=by have rg:=d.rg;have ap:=ay s;intro fuel;induction fuel with|zero=>intro listed L K μ loc st a W l _ C;omega|succ fuel ih=>
 intro listed L K μ loc st a W l b C F h;refine⟨λhr=>?_,λi hi=>?_⟩
 ·have key:∀i,i<=p->¬dt _ i->(∀j,j<i->dt _ j)->False:=λi ac g ad=>by
   have hi:i<c.ops.size:=by rw[rg.sz];omega
   have:=(xE rg b.z).2 ⟨_,ma hi,g,λe he G=>ad _ (d.edge i _ (ma hi) e he G)⟩;rw[hr]at this;cases this
  cases l with|nil=>exact(key p (G1 _) (F p (G1 _)) λj f=>ot λg=>by cases b.mem.2 ⟨f,g⟩).elim|cons i l=>
  obtain⟨N,H⟩:=b.mem.1 (.head _);refine(key i (by omega) H λj f=>ot λg=>?_).elim;rcases S2.1 (b.mem.2 ⟨by omega,g⟩)with h|h;·omega
  have:=ABD b.pw h;omega
 obtain⟨o,n,H,P⟩:=(xE rg b.z).1 hi;have N:i<c.vos.length:=by rw[<-rg.sz];exact(AA7.1 n).1
 have k:=Hk N;have I:∀j(x:aq),j<i->¬dt _ j->c.vos[j]?=some x->oD c.V _ c.rt j i x c.vos[i]:=λj x f g hx=>(d.draw j i x _ f hx k).resolve_left λG=>g (b.bef n P G);have ac:=Nat.le_of_not_lt λag=>by have:=(I p r ag (F p (G1 _)) s).p;rw[M]at this;cases this
 by_cases ah:i=p
 ·subst ah;rw[k]at s;cases s;cases ABX.2 λj f=>by obtain⟨g1,J⟩:=b.mem.1 f;have:=(I j _ g1 J (Hk (by omega))).q;rw[M]at this;cases this
  cases h;have Q:=ql (rg.op i _ _ n k).1;have S:∀j∈(c.vos[i]).locR,dt _ j:=λj f=>ot λg=>by cases b.mem.2 ⟨d.back i _ k j f,g⟩
  unfold wpOpIn;rw[n];simp[FZ Q b.ri S X,if_true];exact uH (F6 Q (by rw[hs];exactλe=>by cases e))<|PO rg b.ri d.vok d.te n k S V hs λv t u A fs hv=>Y v L t u a A fs b.ri.sz b.ri.df hv
 obtain⟨aj,ar,ak,al,hk⟩:=b.one d k (by omega) H (λj=>b.bef n P) I (Q:=z) (rd:=rd) (m:=m);rw[ak]at h C;have U:=afN d.fit d.bo k aj loc st b.iv al h;rw[vi]at U;obtain⟨au,av,g1,J⟩:=U;exact hk g1 λ_ _ _ _ _ an=>ih an (by simp at C⊢;omega) (λj f ao=>(AK ao).elim (λe=>by omega) (F j f)) J
end
end
section
variable{x y:List Nat}
def adI{P:Program}{V:aw}{k:Nat}{l:List Nat}{ops:Array Oper}{c:List aq}(rg:gU (jO P V k x l ops c)):qr c (r7 c):=by
 have p:ops.size=c.length:=rg.sz;refine⟨λi d j f g=>?bo1,λi d f=>?bo2⟩;case bo1=>
  obtain⟨o,h⟩:∃o,ops[i]?=some o:=⟨_,ma (by grind)⟩;have a:=(ql (rg.op i o d h f).1).op;have key:∀{y:Operand},pz (jO P V k x l ops c) i (.lo j) y=true->∃e,c[j]?=some e/\e.op.isAddr=true:=λ{y}b=>by
   cases y<;>simp only[pz]at b<;>first|grind|skip
   simp only[D0]at b;obtain⟨_,b⟩:=b;split at b;·rename_i o' e q m;simp only[D0]at b;exact⟨e,m,b.2⟩
   grind
  obtain⟨n,keep,guard⟩:=d;simp only at g a;cases n<;>simp only[aj.base,AAE,eD]at g;all_goals
  subst g;simp only[jC]at a;split at a;·simp only[D0]at a;first|exact key a.1|exact key a.1.1|exact key a.1.1.1
  cases a
 case bo2=>obtain⟨o,h⟩:∃o,ops[i]?=some o:=⟨_,ma (by grind)⟩;exact(rg.op i o d h f).2
def adJ{ops:Array Oper}(a:Az ops=true):∀(i:Nat)(o:Oper),ops[i]?=some o->∀e∈o.after.toList,Region.binds .any e=true->e.on<i:=by grind[Az,ops]
def p8{P:Program}{V:aw}{T:Kn->World->Prop}{c:FuncId->List D->ab->CR}{f:Nat}{d g:List Nat}(Y:P.follows .mixedOrders=true)(Z:dK P V T)(cs:fX P T c)(ac:ig P T c)(ad:ir V c)(ae:nodup d=true)(af:∀t∈d,t<f){rd:Option Nat}:Rr P V T c f d g rd:=by
 intro E nd id ops strict vos e H ex st' a W hT hok h hg hA m;obtain⟨rg,back,hfirst,hdr⟩:=xF hok ae af;obtain⟨L,K,μ,fs,hs,ag⟩:=hA;refine wpIn_region_any Y ?_;have r:=Q3 V c (some (AH strict vos e H,strict)) vos [] [] ⟨e,H⟩ rfl;simp[bN,lA,<-List.range_eq_range']at r;rw[r]at h;have I:ops.size=vos.length:=rg.sz;have g0:∀j,¬dt (Array.replicate ops.size false) j:=λj b=>by
  unfold dt at b;simp only[Array.getD]at b;split at b;·simp at b
  cases b
 have bo:=adI rg;have ai:FS E d g K μ L e H _ _:=⟨fs.hr.drew,fs.nx.trans (.drew _ _ _ _),fs.len,fs.val,fs.box,fs.own,fs.inj⟩;have aj:∀p,p<=ops.size->(List.range p).filter (λi=>!(Array.replicate ops.size false).getD i true)=List.range p:=λp s=>AAk.2 (λj b=>by
 have:j<ops.size:=by have:=qb.1 b;omega
 simp[this]);obtain⟨J,he⟩:=hdr _ rfl;have M:Dw (jO P V f d g ops vos) T E c strict:=⟨rg,Z,hT,cs,ad,bo,back,hfirst,λi j x y al hx N=>by simp only[Fi,TB,qb,Bool.or_eq_true]at J;exact(J j (ay N) i al).imp_right (afL hx N),adJ he⟩;have Q:∀p,p<=vos.length->AO (jO P V f d g ops vos) E nd (AH strict vos e H) strict p (Array.replicate ops.size false) (List.range p) L K μ (List.replicate vos.length .u) ⟨e,H⟩ a W.drew:=λp s=>⟨s,by simp[I];rfl,(aj p (by omega)).symm,λi j b=>(g0 j b).elim,λi j x y _ b=>(g0 j b).elim,⟨ai,λj o vo t b=>(g0 j b).elim,hs,ag,by simp;rfl⟩,⟨by simp;rfl,G1 _,λi vo k o S w l=>by simp[AAo]at l⟩⟩;rcases xU (by rw[r];exact h) hg with rfl|⟨q,rfl⟩;·exact adj M (λz A B a' W' C F G=>⟨rfl,z,A,B,C,F,G⟩) _ (Q _ (G1 _)) (by rw[I];simp;exact G1 _) h
 obtain⟨n,p,l2,loc1,st1,vp,s,U,e1,X,e3,e4,e5,rfl⟩:=Q4 h;have ax:=ay X;have el:n=List.range p:=by
  have S:(List.range vos.length)[n.length]?=some p:=by rw[U];simp
  have w:=(uy.1 S).2;rw[List.getElem_range]at w;have l:(List.range vos.length).take n.length=n:=by rw[U];simp
  rw[List.take_range]at l;rw[<-l,w];congr 1;omega
 subst el;exact adk ac M X e3 e4 e5 (λv z A B a' W' C F G f4=>⟨q,v,rfl,rfl,z,A,B,C,F,G,f4⟩) _ (Q p (ABV ax)) (by simp;omega) (λj _ b=>g0 j b) e1
end
section
def F1:an->an|.df=>.no|b=>b
theorem Rj{b:an}(h:b≠.df):F1 b=b:=by cases b<;>first|rfl|grind
section
variable{base:Nat}{H:ab}
theorem F2:eA base H=H.take base++(H.drop base).map F1:=by rfl
theorem Bb:(eA base H).length=H.length:=by grind[F2]
variable{x:Nat}
theorem F3(h:x<base):(eA base H)[x]?=H[x]?:=by grind[F2]
theorem F4(h:base<=x):(eA base H)[x]?=(H[x]?).map F1:=by grind[F2]
def Rk{b:an}(h:H[x]?=some b)(a:b≠.df):(eA base H)[x]?=some b:=by grind[F3,F4,Rj]
def Bc{m:Nat}{b:an}(h:(eA base H)[m]?=some b):H[m]?=some b\/(base<=m/\H[m]?=some .df/\b=.no):=by
 rcases lu m base with x|x;·grind[F3]
 rw[F4 x]at h;obtain⟨a,c,d⟩:=l3.1 h;by_cases e:a=.df;·subst e;exact .inr ⟨x,c,d.symm⟩
 grind[Rj]
end
section
variable{K:Kn}{μ:Mu}{H H':ab}{W:World}
theorem VR.same{d:D}{v:Value}(h:VR K μ H d v)(e:∀(m:Nat)(b:an),H[m]?=some b->b≠.df->H'[m]?=some b):VR K μ H' d v:=by induction h generalizing H' with|b=>exact .b ..|i=>exact .i ..|s=>exact .s ..|nil=>exact .nil ..|z=>exact .z ..|im μ H w rows blk q cap f I J C A hr x=>constructor<;>omega|sv μ H w rows blk q cap f I J C A hr x=>exact .sv _ _ w rows blk q cap f I J C A (λi r j d a b=>x i r j d a b e)|mu μ H a n q len cap blk o l w rows F p lk g k B h=>exact .mu _ _ a n q len cap blk o l w rows F p lk g (e _ _ k (by grind)) B h|np=>exact .np ..|hp μ H b q l t E g k=>exact .hp _ _ b q l t E g (e _ _ k (by grind))|ap μ H a n i q blk o l w rows F p lk g k B h=>exact .ap _ _ a n i q blk o l w rows F p lk g (e _ _ k (by grind)) B h|aa μ H a l w rows c p lk g k=>exact .aa _ _ a l w rows c p lk g (e _ _ k (by grind))|ip μ H E blk q f C A hr x=>exact .ip _ _ E blk q f C A (λj d a=>x j d a e)|mnil=>exact .mnil ..|mp μ H m l L g k=>exact .mp _ _ m l L g (e _ _ k (by grind))|fn μ H f a b P Q S U V G W X=>constructor<;>grind|nf=>exact .nf ..|ni=>exact .ni ..|ifc μ H t d v h x=>constructor<;>grind|ag μ H E vs M A hr x=>constructor<;>grind|tu μ H ds vs M hr x=>constructor<;>grind|yb μ H a n cap blk l t N lk g k B h=>exact .yb _ _ a n cap blk l t N lk g (e _ _ k (by grind)) B h|yl μ H y l b g k G=>exact .yl _ _ y l b g (e _ _ k (by rintro rfl;cases G)) G|u=>exact .u ..
theorem lF.same{l:bI}{b:an}(h:lF K μ H W l b)(e:∀(m:Nat)(b:an),H[m]?=some b->b≠.df->H'[m]?=some b):lF K μ H' W l b:=by cases b with
 |hb t F=>obtain⟨o,vs,q,g,n,c⟩:=h;exact⟨o,vs,q,g,n,⟨c.1.1,λj d v a b=>(c.1.2 j d v a b).same e⟩,c.2⟩|ar w rows G p lk=>cases lk with|false=>obtain⟨o,A,B,vs,q,g,n,c⟩:=h;refine⟨o,A,B,vs,q,g,n,λi r j d a b=>?_⟩;obtain⟨v,x,y,z⟩:=c i r j d a b;refine⟨v,x,y,?_⟩;grind[VR.same]|true=>exact h
 |mp I=>obtain⟨C,E,o,g,n,c⟩:=h;exact⟨C,E,o,g,n,λj k v u a b=>⟨(c j k v u a b).1,(c j k v u a b).2.same e⟩⟩|yh f p j J L x s=>obtain⟨rec,g,n,c,h4,h5⟩:=h;exact⟨rec,g,n,c,h4,h5.1,λk t a=>let⟨d,v,x,y,z⟩:=h5.2 k t a;⟨d,v,x,y,z.same e⟩⟩|yt t M lk=>cases lk<;>exact h|_=>exact h
def Rl{base r:Nat}(h:cd μ (eA base H) r):cd μ H r:=by
 obtain⟨id,l,b,h1,a,h3,h4⟩:=h;rcases Bc a with x|⟨_,x,rfl⟩;·exact⟨id,l,b,h1,x,h3,h4⟩
 cases h3
def HR.unmark(h:HR K μ H W)(base:Nat):HR K μ (eA base H) W where
 dom:=λid l a=>by rw[Bb];exact h.dom id l a
 tot:=λid a=>h.tot id (by grind[Bb]);blk:=λid l b a c=>by
  rcases Bc c with x|⟨_,_,rfl⟩;·exact(h.blk id l b a x).same (λm b e f=>Rk e f)
  trivial
 lt:=h.lt;inj:=λid j l k b n a p c q e d g=>by
  have key:∀{i:Nat}{b:an},(Dm.eA base H)[i]?=some b->b.live=true->H[i]?=some b:=λ{i b}c e=>by
   rcases Bc c with x|⟨_,_,rfl⟩;·exact x
   cases e
  exact h.inj id j l k b n a p (key c e) (key q d) e d g
 kn:=h.kn;kf:=λb o v e r=>h.kf b o v e (Rl r)
def HR.away{r:Nat}{o:Obj}(h:HR K μ H W)(d:¬cd μ H r)(f:∀q v,K r q≠some v):HR K μ H (W.putObj r o)where
 dom:=h.dom;tot:=h.tot;blk:=λid l b a c=>(h.blk id l b a c).ext (.refl _ _ _) (λg=>World.putObj_heap_other (λe=>d ⟨id,l,b,a,c,g,e⟩));lt:=λid l a=>by rw[World.putObj_size];exact h.lt id l a
 inj:=h.inj;kn:=λb q v e=>by have i:b≠r:=λx=>f q v (x▸e);rw[World.cell?_of_block (World.putObj_heap_other i)];exact h.kn b q v e
 kf:=h.kf
end
def F5(r:Nat):Deferred:={target:=.collected r,args:=#[]}
def jR:List Nat->World->World|[],W=>W|r::a,W=>jR a (W.putObj r (.deferred none))
def Rm:∀(a:List Nat)(W:World),(jR a W).heap.size=W.heap.size|[],_=>rfl|r::a,W=>by rw[jR,Rm,World.putObj_size]
def Rn:∀(a:List Nat)(W:World),(jR a W).os=W.os/\(jR a W).tape=W.tape/\(jR a W).output=W.output|[],_=>⟨rfl,rfl,rfl⟩|r::a,W=>Rn a (W.putObj r (.deferred none))
def Ro:∀(a:List Nat)(W:World)(k:Nat),k∉a->(jR a W).heap[k]?=W.heap[k]?|[],_,_,_=>rfl|r::a,W,k,h=>by rw[jR,Ro a _ k (λx=>h (M0 _ x)),World.putObj_heap_other (λe=>h (by grind))]
def HR.shut{K:Kn}{μ:Mu}{H:ab}:∀(a:List Nat){W:World},HR K μ H W->(∀r∈a,¬cd μ H r/\∀q v,K r q≠some v)->HR K μ H (jR a W)|[],_,h,_=>h|r::a,_,h,hr=>HR.shut a (h.away (hr r N1).1 (hr r N1).2) (λx b=>hr x (M0 _ b))
def Rq{F:Fence}{n:Nat}{P:Program}{fn:Func}{tmps:Array Value}{R:Ending->World->Prop}:∀(a:List Nat)(W:World),a.Nodup->(∀r∈a,W.heap[r]?=some (.deferred (some [])))->(∃v,(results fn tmps).run P (jR a W)=.ok v (jR a W)/\R (.returned v) (jR a W))->LeavesInM F n P fn tmps R (a.map F5) .returning W|[],_,_,_,h=>h|r::a,W,b,hr,h=>by refine⟨by simp,.inl ⟨r,W.putObj r _,rfl,run_takeDeferred (hr r N1),?_⟩⟩;refine Rq a _ (AAI.1 b).2 (λx c=>?_) h;rw[World.putObj_heap_other (λe=>(AAI.1 b).1 (by grind))];grind
end
section
variable{x y z:List Nat}{c d e f g:Nat}{a b:Mu}{h i:World}
def xT{bs:List Nat}{npar nsl:Nat}(n:npar<=x.length)(o:nsl=x.length)(d:∀k,k<npar->x[k]?=some k)(f:∀t∈x,t<c)(p:nodup x=true)(q:∀k∈bs,npar<=k)(s:npar<=c){args:List D}{vs:List Value}{K:Kn}{H:ab}(v:args.length=npar)(w:vs.length=npar)(hr:HR K a H h)(g:bf K a H args vs):fO ⟨K,a,H,h⟩ x bs c [] ⟨args++List.replicate (nsl-npar) .u,H⟩ {tmps:=vs.toArray++Array.replicate (c-vs.toArray.size) undef,defers:=[]} h:=by
 refine⟨λ_=>none,K,a,⟨hr,.refl _ _ _ _,by grind,λk t b i=>?_,λk t b i=>?_,λk r e=>(by cases e),λk y r e=>(by cases e)⟩,by grind,rfl⟩
 ·by_cases j:k<npar
  ·have:=d k j;rw[b]at this;cases this;have l:k<args.length:=by omega
   have m:k<vs.length:=by omega
   refine⟨args[k],vs[k],by grind,by grind,g.2 k _ _ (Hk l) (Hk m)⟩
  have z:=ay b;have A:=f t (nG b);have B:npar<=t:=by grind[r8]
  refine⟨.u,undef,?_,?_,.u ..⟩;·rw[gx (by omega),AAo,E4 (by omega)]
  rw[Array.getElem?_append_right (by simp;omega),Array.getElem?_replicate,E4 (by simp;omega)]
 grind
variable{j:En}{r s:Nat->Option Nat}{l m:List D}
def FS.noL{K:Kn}{H:ab}{tmps:Array Value}(c:FS j x [] K a r l H tmps h):FS j x [] K a (λ_=>none) l H tmps h:=⟨c.hr,c.nx,c.len,c.val,λk t _ b=>(by grind),λk d e=>(by cases e),λk f d e=>(by cases e)⟩
theorem FS.base{K:Kn}{H:ab}{tmps:Array Value}(c:FS j x [] K a r l H tmps h):FS ⟨K,a,H,h⟩ x [] K a (λ_=>none) l H tmps h:=⟨c.hr,.refl _ _ _ _,c.len,c.val,λk t _ b=>(by grind),λk d e=>(by cases e),λk f d e=>(by cases e)⟩
variable{t u:Array Value}
theorem FS.over{K d:Kn}{f:Mu}{H g:ab}{tmps:Array Value}(n:FS j x [] K a r l H tmps h)(c:FS ⟨K,a,H,h⟩ x [] d f s m g u i):FS j x [] d f (λ_=>none) m g u i:=⟨c.hr,n.nx.trans c.nx,c.len,c.val,λk t _ b=>(by grind),λk o e=>(by cases e),λk p o e=>(by cases e)⟩
def Mk(E:En)(μ:Mu)(H:ab)(a:List Nat):Prop:=a.Nodup/\∀r∈a,E.w.heap.size<=r/\∃m l,E.H.length<=m/\μ m=some l/\H[m]?=some .df/\l.blk=r
variable{k:ab}
def Mk.go{K c:Kn}{H:ab}(h:Mk j a H x)(e:ba K a H c b k):Mk j b k x:=⟨h.1,λr hr=>by obtain⟨i,m,l,n,d,f,o⟩:=h.2 r hr;obtain⟨p,q,g1,s,g⟩:=e.m m l _ d f;cases g;grind⟩
def SP(E:En)(d:List Nat)(e:Nat)(b:St)(a:Act)(W:World):Prop:=∃c K μ,FS E d [] K μ (λ_=>none) b.sl b.hp a.tmps W/\a.tmps.size=e/\a.defers=c.map F5/\Mk E μ b.hp c
def ae9{P:Program}{a:Act}{g:Operand}{l:Nat}{f:FuncId}{fn:Func}(b:a.eval g=.func (.func f) t u)(c:P.funcs[f]?=some fn)(e:fn.body.isSome=true)(h:fn.name≠"runtime.NumGoroutine")(W:World):∃d,(resolve a.eval (rangeCall g l) 0).run P W=.ok d W/\(invoke d.target d.args).run P W=.ok (.enter f (t++#[.func (.yield l) #[] #[]]++u)) W:=by
 refine⟨{target:=.fn (.func f) u,args:=t++#[.func (.yield l) #[] #[]]},?_,?_⟩;·have i:∀v,a.eval (.const v)=v:=λ_=>rfl;simp[resolve,b,Deferred.ofValue,i]
 simp[invoke,Au c e h]
def Rh{K:Kn}{H:ab}(s:nodup y=true):∀{c:List Nat}{f:List Tmp}{x:List D}{tmps:Array Value}{ds:List D}{vs:List Value},m8 K a H y x tmps->(∀t∈y,t<tmps.size)->c.length=f.length->(∀(i k t:Nat),c[i]?=some k->f[i]?=some t->y[k]?=some t)->bf K a H ds vs->m8 K a H y (gP x c ds) ((f.zip vs).foldl (λtmps(q:Tmp×Value)=>tmps.setIfInBounds q.1 q.2) tmps)
 |[],[],x,tmps,ds,vs,h,_,_,_,_=>by cases ds<;>exact h|[],_::_,_,_,_,_,_,_,g,_,_=>by cases g|_::_,[],_,_,_,_,_,_,g,_,_=>by cases g|k::c,t::f,x,tmps,[],vs,h,_,_,_,b=>by
  have:vs=[]:=by have:=b.1;grind
  subst this;exact h|k::c,t::f,x,tmps,d::ds,[],_,_,_,_,b=>by have:=b.1;grind|k::c,t::f,x,tmps,d::ds,v::vs,h,hs,g,n,b=>by
  simp[gP,ACZ,ta];have o:=n 0 k t rfl rfl;refine Rh s ⟨by simpa using h.1,λl m e=>?_⟩ (λq A=>by grind) (by grind) (λi l m e u=>n (i+1) l m (by grind) (by grind)) ⟨by have:=b.1;grind,λj p r e u=>b.2 (j+1) p r (by grind) (by grind)⟩;obtain⟨p,r,w,B,C⟩:=h.2 l m e;by_cases z:k=l;·subst z;rw[o]at e;cases e;exact⟨d,v,K2 (ay w),xR (hs t (nG o)),b.2 0 d v rfl rfl⟩
  grind[r8]
section
variable{P:Program}{V:aw}{T:Kn->World->Prop}{cl:FuncId->List D->ab->CR}
def afa(a:List (Tmp×Value)):∀(tmps:Array Value),(a.foldl (λtmps(q:Tmp×Value)=>tmps.setIfInBounds q.1 q.2) tmps).size=tmps.size:=by induction a<;>grind
def Ri{K:Kn}{H:ab}(hr:HR K b H h){y:Nat}{l:bI}{f:Nat}{p:List Bool}{j:Nat}{x:List D}{s s':RS}(g:b y=some l)(k:H[y]?=some (.yh f p j d z x s)){rec rec':Loop}(B:h.heap[l.blk]?=some (.loop rec))(C:uE uD f p=some (rec.params,rec.assign,rec.body))(E:rec.tmps.size=d)(n:m8 K b H z x rec.tmps)(F:rec'.params=rec.params)(G:rec'.assign=rec.assign)(I:rec'.body=rec.body)(o:rec'.tmps=rec.tmps)(hs:A9 s' rec'.state rec'.pending):∃m,m y=some l/\HR K m (H.set y (.yh f p j d z x s')) (h.putObj l.blk (.loop rec'))/\Nx K b H h K m (H.set y (.yh f p j d z x s')) (h.putObj l.blk (.loop rec')):=by
 have q:=hr.lt y l g;have t:=ay k;have u:ba K b H K (b.upd y l) (H.set y (.yh f p j d z x s')):=⟨λ_ _ _ e=>e,λi v w a c=>by
 by_cases hi:i=y;·subst hi;rw[g]at a;rw[k]at c;cases a;cases c;exact⟨l,_,by simp[Mu.upd],K2 t,.yh ..⟩
 exact⟨v,w,by grind[Mu.upd],by grind,.refl _ _⟩⟩;refine⟨b.upd y l,by simp[Mu.upd],hr.put0 y l l _ _ g k rfl (.yh ..) rfl rfl rfl (by simp_all) (λr _ A=>World.putObj_heap_other A) (.inl rfl) (by simp_all) ?_⟩;exact⟨rec',World.putObj_heap_same q,by grind,by grind,hs,by rw[o];exact n.ext u⟩
def afb{K:Kn}{H:ab}(hr:HR K a H h){y:Nat}{l:bI}{f:Nat}{p:List Bool}{j:Nat}{x:List D}{s:RS}(b:a y=some l)(e:H[y]?=some (.yh f p j c z x s))(o:Obj):∃d,HR K d (H.set y .no) (h.putObj l.blk o)/\Nx K a H h K d (H.set y .no) (h.putObj l.blk o):=by have i:=hr.lt y l b;exact⟨a.upd y l,hr.put0 y l l _ _ b e rfl (.yn ..) rfl rfl rfl (by simp_all) (λr _ g=>World.putObj_heap_other g) (.inl rfl) (by simp_all) trivial⟩
variable{n o:Code}
def afc{r:Rnd}(a:P=uD)(h:AA P V r=true){params:Array Tmp}(b:uE uD r.f r.path=some (params,n,o)):r.ps.length=params.size/\(∀(i k t:Nat),r.ps[i]?=some k->params.toList[i]?=some t->r.tm[k]?=some t)/\cw P V r.nt r.tm [] n r.a=true/\cw P V r.nt r.tm [] o r.b=true/\nodup r.tm=true/\∀t∈r.tm,t<r.nt:=by grind[AA,PZ]
variable{p q:St}
def F0{K:Kn}{μ:Mu}{H:ab}{y:Nat}{l:bI}{f:Nat}{p:List Bool}{j:Nat}{x:List D}{s:RS}(t:μ y=some l)(u:H[y]?=some (.yh f p j c z x s)){A B:List Nat}{nd:List Deferred}{a:Act}{w:World}(C:fO ⟨K,μ,H,h⟩ B A d nd q a w){n:List Bool}{o:Nat}{iC:List Nat}(k:q.hp[y]?=some (.yh e n g o iC m .bz)){i:Option Code}{s':RS}(hs:A9 s' (if i.isNone then .ready else .done) i):∃v w',(Instr.endRound l.blk i).run P w=.ok v w'/\fW K μ H h (.b i.isNone) (q.hp.set y (.yh e n g o iC m s')) (.returned v) w':=by obtain⟨L,E,M,fs,_,_⟩:=C;obtain⟨N,Q,g1,r,F⟩:=fs.nx.ext.m y l _ t u;rw[k]at r;cases r;cases F;obtain⟨rec,c1,c2,c3,c4,c5⟩:=fs.hr.blk y l _ g1 k;obtain⟨G,_,I,J⟩:=Ri fs.hr g1 k c1 c2 c3 c5 (rec':={rec with state:=if i.isNone then .ready else .done,pending:=i}) rfl rfl rfl rfl hs;exact⟨_,_,run_endRound i c1,E,G,I,fs.nx.trans J,.b ..⟩
def afd(G:P.follows .mixedOrders=true)(g:dK P V T)(w:fX P T cl)(z:ig P T cl)(I:ir V cl){n:Nat}{args:List D}{H:ab}{d:D}{J:ab}(h:je V cl n args H=.ret d J):PN P T args H d J:=by
 unfold je at h;split at h
 ·rename_i y C;split at h
  ·rename_i f p j nt tm x i;split at h
   ·rename_i r Z;split at h;·rename_i hc;obtain⟨rfl,rfl,rfl,rfl,ac⟩:=hc;refine⟨y,C,rfl,λK μ W vs l L hr M o=>?_⟩;obtain⟨rec,b1,b2,b3,b4,b5⟩:=hr.blk y l _ o i;obtain⟨hP,ae⟩:=g.rnd j r Z;obtain⟨q1,q2,q3,q4,q5,A⟩:=afc hP ae b2;refine⟨rec,b1,by rw[<-M.1,<-ac];exact q1,λm=>?_⟩;cases N:aC V cl n r.a ⟨gP x r.ps C,H⟩with|mk e1 st1=>rw[N]at h;cases e1 with
 |nm=>
  simp[mZ]at h;split at h;·rename_i f1 p1 j1 bc bd x1 E;cases Q:aC V cl n r.b ⟨st1.sl,st1.hp.set y _⟩with|mk s ak=>
   rw[Q]at h;have al:s.fin=true:=by cases s<;>first|rfl|cases h
   have am:s.good=true:=by cases s<;>first|rfl|cases h
   have an:∀t∈r.tm,t<rec.tmps.size:=λt ht=>by grind
   have F:=Rh q5 b5 an (by omega) q2 M;have S:=afa (rec.params.toList.zip vs) rec.tmps;have ao:(rec.params.zip vs.toArray).foldl (λtmps(t,a)=>tmps.setIfInBounds t a) rec.tmps=(rec.params.toList.zip vs).foldl (λtmps q=>tmps.setIfInBounds q.1 q.2) rec.tmps:=by rw[<-Array.foldl_toList,Array.toList_zip]
   rw[ao];generalize(rec.params.toList.zip vs).foldl _ _=ap at F S;have hA:fO ⟨K,μ,H,W⟩ r.tm [] r.nt [] ⟨gP x r.ps C,H⟩ {tmps:=ap,defers:=[]} W:=⟨λ_=>none,K,μ,⟨hr,.refl _ _ _ _,F.1,λk t a _=>F.2 k t a,λk t _ b=>(by grind),λk r e=>(by cases e),λk k' r e=>(by cases e)⟩,S.trans b3,rfl⟩;refine roundIn_of_wpIn trivial ?_;refine wpIn_mono (qm g w z q5 A (λ_=>p8 G g w z I q5 A) ⟨K,μ,H,W⟩ ⟨L,hr⟩ [] n r.a _ q3 _ st1 .nm _ W N rfl hA) (λe a1 w1 c=>?_);cases e with
   |normal=>obtain⟨_,L1,K1,bj,B,aw,ax⟩:=c;obtain⟨l',b',g1,U,be⟩:=B.nx.ext.m y l _ o i;rw[E]at U;cases U;cases be;obtain⟨az,X,c2,c3,Y,c5⟩:=B.hr.blk y l _ g1 E;obtain⟨a3,_,a4,a5⟩:=Ri B.hr g1 E X c2 c3 c5 (rec':={az with state:=.busy}) rfl rfl rfl rfl (s':=.bz) ⟨rfl,Y.2⟩;refine⟨_,run_beginRound X Y.1,?_⟩;refine wpIn_mono (qm g w z q5 A (λ_=>p8 G g w z I q5 A) ⟨K,μ,H,W⟩ ⟨L,hr⟩ [] n r.b _ q4 _ ak s a1 _ Q am ⟨L1,K1,a3,B.go a4 a5,aw,ax⟩) (λe bm w3 c=>?_);cases e with
    |normal=>
 obtain⟨rfl,c⟩:=c;simp[oj]at h;split at h;·rename_i u;cases h;exact F0 o i c u ⟨rfl,rfl⟩
 grind|ret=>
 obtain⟨rfl,c⟩:=c;simp[oj]at h;split at h;·rename_i u;cases h;exact F0 o i c u ⟨rfl,rfl⟩
 grind|exit id=>
 obtain⟨rfl,c⟩:=c;simp[oj]at h;split at h;·rename_i u;cases h;exact F0 o i c u ⟨rfl,rfl⟩
 grind|panic ch=>obtain⟨q,v,rfl,_⟩:=c;cases al|_=>exact c.elim
   |panic ch=>obtain⟨q,v,e,_⟩:=c;cases e|ret=>cases c.1|exit id=>cases c.1|_=>exact c.elim
  grind|_=>cases h
    grind
   grind
  grind
 grind
def Ba:∀{p:List Bool}{c a:Code}(q:List Bool),kF p c=some a->kF (p++q) c=kF q a|[],c,a,q,h=>by cases h;rfl|b::p,c,a,q,h=>by cases b<;>cases c<;>simp[kF]at h<;>first|grind|exact Ba (p:=p) q h
theorem afe(A:P.follows .mixedOrders=true)(g:dK P V T)(l:fX P T cl)(r:ig P T cl)(B:ir V cl)(s:nodup x=true)(u:∀t∈x,t<c)(w:TE T j)(n m:Nat){i:aR}(C:cw P V c x [] o i=true){d:Ex}{a:Act}(E:aC V cl n i p=(d,q))(y:d.fin=true)(F:SP j x c p a h):o.wpIn (FW none) m P (F7 d (SP j x c q)) a h:=by obtain⟨G,K,μ,fs,hs,H,I⟩:=F;have k:∀f w',fO ⟨K,μ,p.hp,h⟩ x [] c _ q f w'->SP j x c q f w':=λf w'⟨Q,J,L,z,M,N⟩=>⟨G,J,L,fs.over z,M,N,I.go z.nx.ext⟩;refine wpIn_mono (qm g l r s u (λ_=>p8 A g l r B s u) ⟨K,μ,p.hp,h⟩ ⟨g.up w.1 w.2 fs.nx,fs.hr⟩ _ n i o C p q d a h E (by cases d<;>first|rfl|cases y) ⟨λ_=>none,K,μ,fs.base,hs,H⟩) (λe f w' b=>?_);cases e with|normal=>exact⟨b.1,k _ _ b.2⟩|ret=>exact⟨b.1,k _ _ b.2⟩|exit id=>exact⟨b.1,k _ _ b.2⟩|panic S=>obtain⟨U,v,rfl,_⟩:=b;cases y|_=>exact b.elim
theorem aff(af:dK P V T)(cs:fX P T cl)(cb:∀t∈y,t<c){f:FuncId}{fn:Func}{body:Code}(hf:P.funcs[f]?=some fn)(hb:fn.body=some body){E:En}(U:TE T E)(n m:Nat){j:Nat}{x:O}{ag:List Bool}{g:Operand}{w:Array Tmp}{z:Code}(L:lW P V f c y ag (.rangeFunc g w o z) (.rng j x)=true)(hp:kF ag body=some (.rangeFunc g w o z)){ah:St}{W:Ex}{a:Act}(b:aC V cl n (.rng j x) q=(W,ah))(I:W.fin=true)(hA:SP E y c q a h):(Code.rangeFunc g w o z).wpIn (FW none) m P (F7 W (SP E y c ah)) a h:=by
 simp[lW]at L;simp[aC]at b;split at b
 ·rename_i r hr;rw[hr]at L;simp[D0,X0]at L;obtain⟨⟨⟨⟨rfl,rfl⟩,rfl⟩,rfl⟩,a5⟩:=L;obtain⟨hP,_⟩:=af.rnd j r hr;split at b
  ·rename_i X cap hx;split at b;·cases b;cases I
   rename_i a7;obtain⟨rs,K,μ,fs,hs,hd,aj⟩:=hA;have Y:=iU (loc:=[]) fs (λi ch vo t _ e=>by grind) a5 (λ_ _=>trivial);rw[hx]at Y;generalize hy:a.eval g=v at Y;cases Y with|fn _ _ _ _ _ va Z la lb cm bb=>
   have bc:va=[]:=by grind
   subst bc;have hl:uE uD r.f r.path=some (w,o,z):=by grind[uE]
   cases M:cl X _ _ with
   |ret dd N=>
 rw[M]at b;obtain⟨⟨fg,be,bg,bh⟩,bi⟩:=(cs X _ _ dd N M).1 a7;have bj:∀C,(Instr.enterLoop C a.tmps w o z (FW none).round).run P h=_:=λC=>run_enterLoop_outer C _ w o z;refine wpIn_rangeFunc (λC _=>?_);obtain⟨p1,Q⟩:=fs.hr.push _ ⟨h.heap.size,0,0⟩ .df rfl (heap_alloc_new h _);have bk:m8 K _ _ r.tm q.sl _:=⟨fs.len,λk t e=>by obtain⟨d,v,F,G,e3⟩:=fs.val k t e rfl;exact⟨d,v,F,G,e3.ext Q.ext⟩⟩;obtain⟨p2,S⟩:=p1.push _ ⟨h.heap.size+1,0,0⟩ (.yh r.f _ j r.nt r.tm q.sl .rd) (by simp) ⟨_,by have:=heap_alloc_new (h.alloc (.deferred (some []))) (.loop {state:=.ready,pending:=none,fn:=C,tmps:=a.tmps,params:=w,assign:=o,body:=z,defers:=h.heap.size});simpa using this,hl,hs,⟨rfl,rfl⟩,bk.ext (ba.push p1.dom _ _)⟩;obtain⟨d,bm,bo⟩:=ae9 (P:=P) (l:=h.heap.size+1) hy be bg bh ((h.alloc (.deferred (some []))).alloc (.loop {state:=.ready,pending:=none,fn:=C,tmps:=a.tmps,params:=w,assign:=o,body:=z,defers:=h.heap.size}));refine⟨_,_,_,d,_,X,_,_,bj C,bm,λ_ _=>trivial,bo,λe=>(by cases e),?_⟩;have hE:E.H.length<=q.hp.length:=by
  rcases sn E.H.length with hz|hz;·omega
  obtain⟨l0,bs⟩:=U.2.tot (E.H.length-1) (by omega);obtain⟨_,_,_,g2,_⟩:=fs.nx.ext.m _ l0 _ bs (Hk (show E.H.length-1<E.H.length by omega));grind
 have bt:Mk E (μ.upd q.hp.length ⟨h.heap.size,0,0⟩) (q.hp++[.df]) (h.heap.size::rs):=by
  have h1:=aj.go Q.ext;refine⟨AAI.2 ⟨λbu=>?_,h1.1⟩,λr' H=>?_⟩;·obtain⟨_,m',l',_,g1,_,g3⟩:=aj.2 _ bu;have:=fs.hr.lt m' l' g1;omega
  rcases S2.1 H with rfl|H;·exact⟨fs.nx.size,q.hp.length,⟨h.heap.size,0,0⟩,hE,by simp[Mu.upd],by simp,rfl⟩
  exact h1.2 r' H
 have bx:(q.hp++[.df])++[.yh r.f r.path j r.nt r.tm q.sl .rd]=q.hp++[.df,.yh r.f r.path j r.nt r.tm q.sl .rd]:=by simp
 rw[bx]at p2 S;have ap:(q.hp++[.df,.yh r.f r.path j r.nt r.tm q.sl .rd])[q.hp.length+1]?=some (.yh r.f r.path j r.nt r.tm q.sl .rd):=by grind
 generalize bz:(μ.upd q.hp.length ⟨h.heap.size,0,0⟩).upd (q.hp++[an.df]).length ⟨h.heap.size+1,0,0⟩=ac at p2 S;have aq:ac (q.hp.length+1)=some ⟨h.heap.size+1,0,0⟩:=by rw[<-bz];grind[Mu.upd]
 have ar:=Q.trans S;have b0:bf K ac (q.hp++[.df,.yh r.f r.path j r.nt r.tm q.sl .rd]) (.yl (q.hp.length+1)::cap) (.func (.yield (h.heap.size+1)) #[] #[]::Z):=by refine⟨by grind,λi d v e e'=>?_⟩;cases i with|zero=>cases e;cases e';exact .yl _ _ _ _ _ aq ap rfl|succ i=>exact(bb i d v e e').ext ar.ext
 have hc:=bi K ac _ _ (af.up U.1 U.2 (fs.nx.trans ar)) p2 b0;rw[show(([]:List Value).toArray++#[.func (.yield (h.heap.size+1)) #[] #[]]++Z.toArray:Array Value)=(Value.func (.yield (h.heap.size+1)) #[] #[]::Z).toArray by simp];refine CallsIn.mono (callsIn_wide (n:=m-1).2 hc) (λe w3 he=>?_);cases e with|panicked cp=>exact he.elim|outgrown=>exact he.elim|returned v=>
  obtain⟨K',cq,H,av,_⟩:=he;obtain⟨l',b',g1,g2,b4⟩:=av.ext.m _ _ _ aq ap;have key:∀{f':Nat}{p':List Bool}{j' az:Nat}{a0:List Nat}{x':List D}{s:RS}{pe:Option Code},N[q.hp.length+1]?=some (.yh f' p' j' az a0 x' s)->(∀J p,A9 s J p->J≠.busy/\p=pe)->∃A,(Instr.endLoop (h.heap.size+1)).run P w3=.ok pe A/\SP E r.tm r.nt ⟨q.sl,N.set (q.hp.length+1) .no⟩ {a with defers:=F5 h.heap.size::a.defers} A:=λ{f' p' j' az a0 x' s pe}u b5=>by rw[u]at g2;cases g2;cases b4;obtain⟨rec,c1,c2,c3,c4,c5⟩:=H.blk _ _ _ g1 u;obtain⟨k1,k2⟩:=b5 _ _ c4;obtain⟨b8,b9,ca⟩:=afb H g1 u (.loop {rec with state:=.exhausted});have a2:=S.trans (av.trans ca);exact⟨_,by rw[run_endLoop c1 k1,k2],h.heap.size::rs,K',b8,fs.go b9 (Q.trans a2),hs,by grind,bt.go a2.ext⟩
  simp only[pY]at b;split at b;·rename_i u;cases b;obtain⟨A,F,G⟩:=key u (pe:=none) (λJ p B=>⟨by rw[B.1];simp,B.2⟩);exact⟨none,A,F,rfl,G⟩
  ·rename_i u;cases b;obtain⟨A,F,G⟩:=key u (pe:=some .ret) (λJ p B=>⟨by rw[B.1];simp,B.2⟩);exact⟨some .ret,A,F,wpIn_ret ⟨rfl,G⟩⟩
  ·rename_i id u;cases b;obtain⟨A,F,G⟩:=key u (pe:=some (.exit id)) (λJ p B=>⟨by rw[B.1];simp,B.2⟩);exact⟨some (.exit id),A,F,wpIn_exit ⟨rfl,G⟩⟩
  cases b;cases I|pan dd N=>rw[M]at b;simp only[pY]at b;cases b;cases I|bad=>rw[M]at b;simp only[pY]at b;cases b;cases I
  cases b;cases I
 grind
def afg(N:P.follows .mixedOrders=true)(Q:dK P V T)(S:fX P T cl)(U:ig P T cl)(X:ir V cl)(Y:nodup z=true)(Z:∀t∈z,t<c){f:FuncId}{fn:Func}{body:Code}(hf:P.funcs[f]?=some fn)(hb:fn.body=some body){E:En}(hT:TE T E)(n m:Nat):∀(u:aR)(k:List Bool)(i:Code),lW P V f c z k i u=true->kF k body=some i->∀(g o:St)(l:Ex)(a:Act)(W:World),aC V cl n u g=(l,o)->l.fin=true->SP E z c g a W->i.wpIn (FW none) m P (F7 l (SP E z c o)) a W:=by intro u;induction u with
 |seq x y F H=>
 intro k i d q g o l a W h v r;cases i<;>simp only[lW,cw,AAY]at d;rename_i A I;simp[D0]at d;simp[aC]at h;have w:kF (k++[false]) body=some A:=by rw[Ba _ q];rfl
 have J:kF (k++[true]) body=some I:=by rw[Ba _ q];rfl
 cases p:aC V cl n x g with|mk s st1=>rw[p]at h;cases G:s with
  |nm=>subst G;refine wpIn_seq (wpIn_mono (F _ _ d.1 w g st1 .nm a W p rfl r) (λe B w' b=>?_));cases e<;>first|(exact H _ _ d.2 J st1 o l B w' h v b.2)|(exact(b).elim)|(cases b.1;done)
  |_=>subst G;simp[wx]at h;obtain⟨rfl,rfl⟩:=h;first|(cases v;done)|(refine wpIn_seq (wpIn_mono (F _ _ d.1 w g st1 _ a W p rfl r) (λe B w' b=>?_));cases e<;>first|(cases b.1;done)|(exact b))
 |block id x K=>
 intro k i d q g o l a W h v r;cases i<;>simp only[lW,cw,AAY]at d;rename_i L A;simp[D0,X0]at d;obtain⟨rfl,d⟩:=d;simp[aC]at h;have w:kF (k++[false]) body=some A:=by rw[Ba _ q];rfl
 cases p:aC V cl n x g with|mk s st1=>
 rw[p]at h;have M:s.fin=true:=by cases s<;>simp at h<;>first|rfl|grind
 refine wpIn_block (wpIn_mono (K _ _ d w g st1 s a W p M r) (λe B w' b=>?_))
 cases e with|normal=>obtain⟨rfl,b⟩:=b;cases h;exact⟨rfl,b⟩|ret=>obtain⟨rfl,b⟩:=b;cases h;exact⟨rfl,b⟩|exit L=>
 obtain⟨rfl,b⟩:=b;simp[Exit.inBlock];simp at h;split at h;·rename_i C;subst C;cases h;rw[E4 rfl];exact⟨rfl,b⟩
 rename_i C;cases h;rw[E1 C];exact⟨rfl,b⟩|_=>exact(b).elim
 |rng j x=>intro k i d q g o l a W h v r;cases i<;>grind[aff,lW,cw]|_=>grind[afe,lW]
theorem afh(ah:P.follows .mixedOrders=true)(ai:dK P V T)(cs:fX P T cl)(ak:ig P T cl)(al:ir V cl){f:FuncId}{fn:Func}{j:aJ}(U:P.funcs[f]?=some fn)(I:lC P V fn j x y=true)(hd:j.dfr=none)(an:j.rg=some f){n:Nat}{args:List D}{H:ab}{d:D}{W:ab}(X:iR V cl n j args H=.ret d W){K:Kn}{μ:Mu}{vs:List Value}(hT:T K h)(hr:HR K μ H h)(Y:bf K μ H args vs):Calls P f vs.toArray h (fW K μ H h d W):=by unfold lC at I;rw[hd,an]at I;simp[D0,X0,Hq,TB,qb]at I;obtain⟨⟨⟨⟨⟨⟨⟨⟨⟨z,bd⟩,ap⟩,aq⟩,ar⟩,Z⟩,aa⟩,be⟩,au⟩,av⟩:=I;cases A:fn.body with|none=>grind|some aw=>
 rw[A]at z;simp[D0,List.isEmpty_iff]at z;obtain⟨rfl,z⟩:=z;unfold iR at X;split at X
 ·rename_i ax;have ay:vs.length=j.npar:=by rw[<-Y.1];omega
  obtain⟨L,K1,a0,fs,hs,bg⟩:=xT (bs:=[]) ap aq ar Z aa (λk N=>by cases N) au ax ay hr Y;have hA:SP ⟨K,μ,H,h⟩ x _ ⟨args++List.replicate _ .u,H⟩ {tmps:=vs.toArray++Array.replicate _ undef,defers:=[]} h:=⟨[],K1,a0,fs.noL,hs,rfl,ACP,λr hr=>by cases hr⟩;have go:∀B g,aC V cl n j.body ⟨args++List.replicate (j.nsl-j.npar) .u,H⟩=(B,g)->(B=.nm\/B=.rt)->∀ds,de ⟨g.sl,eA H.length g.hp⟩ j.res=some ds->Calls P f vs.toArray h (fW K μ H h (gm ds) (eA H.length g.hp)):=by
   intro B g a2 ac ds hds;refine(callsIn_wide (n:=0)).1 (callsIn_of_wp_marks U A trivial ?_);refine wpIn_mono (afg ah ai cs ak al aa Z U A ⟨hT,hr⟩ n 0 _ [] aw z rfl _ g B _ h a2 (by rcases ac with rfl|rfl<;>rfl) hA) (λe a w J=>?_);have ad:SP ⟨K,μ,H,h⟩ x fn.ntmps g a w->LeavesInM Fence.wide 0 P fn _ (fW K μ H h _ _) a.defers .returning w:=λ⟨p,Q,C,c,_,a3,E⟩=>by
    rw[a3];have own:∀r∈p,cd C g.hp r:=λr i=>by obtain⟨_,F,l,_,g1,o,M⟩:=E.2 r i;exact⟨F,l,_,g1,o,rfl,M⟩
    have a4:∀r∈p,¬cd C (eA H.length g.hp) r:=λr i⟨id,l,b,G,s,S,k4⟩=>by
     obtain⟨_,F,l',g0,g1,o,M⟩:=E.2 r i;rcases Bc s with hx|⟨_,_,rfl⟩;·have:=c.hr.inj id F l l' b .df G g1 hx o S rfl (by omega);subst this;rw[F4 g0,o]at s;cases s;cases S
     cases S
    have af:=(c.hr.unmark _).shut p (λr i=>⟨a4 r i,λq v N=>c.hr.kf r q v N (own r i)⟩);have bj:∀r∈p,h.heap.size<=r:=λr i=>(E.2 r i).1;have ag:Nx K μ H h Q C (eA H.length g.hp) (jR p w):=by
     obtain⟨o1,o2,o3⟩:=Rn p w;refine⟨⟨c.nx.ext.k,λid l b G s=>?_⟩,o1.trans c.nx.os,o2.trans c.nx.tape,o3.trans c.nx.output,by rw[Rm];exact c.nx.size,λr G s=>?_,λr k=>c.nx.og r (Rl k),c.nx.kg⟩;·obtain⟨l',b',g1,o,bl⟩:=c.nx.ext.m id l b G s;grind[F3]
     rw[Ro p w r (λbm=>by grind)];exact c.nx.keep r G s
    have a9:FS ⟨K,μ,H,h⟩ x [] Q C (λ_=>none) g.sl _ _ _:=⟨af,ag,c.len,λk t e e'=>by obtain⟨d,v,g1,o,M⟩:=c.val k t e e';exact⟨d,v,g1,o,M.same (λm b e A=>Rk e A)⟩,λk t _ b=>(by grind),λk r e=>(by cases e),λk k' r e=>(by cases e)⟩;obtain⟨v,h1,h2⟩:=AS a9 av hds;exact Rq p w E.1 (λr i=>by obtain⟨_,F,l,_,g1,o,rfl⟩:=E.2 r i;exact c.hr.blk F l _ g1 o) ⟨v,h1,Q,C,af,ag,h2⟩
   cases e with|normal=>exact ad J.2|ret=>exact ad J.2|exit id=>rcases ac with rfl|rfl<;>cases J.1|_=>exact J.elim
  grind
 grind
theorem afi{n:Nat}{a:aJ}{args:List D}{H:ab}{q:D}(h:iR V cl n a args H=.pan q k):False:=by grind[iR]
def afj{n:Nat}{args:List D}{H:ab}{q:D}(h:je V cl n args H=.pan q k):False:=by
 unfold je mZ oj at h;repeat' split at h
 all_goals cases h
end
end
section
variable{z:aJ}{x y:List Nat}{b:Mu}{c:World}
def adr{P:Program}{V:aw}{T:Kn->World->Prop}{cl:FuncId->List D->ab->CR}(U:P.follows .mixedOrders=true)(C:dK P V T)(E:fX P T cl)(F:ig P T cl)(W:ir V cl){f:FuncId}{fn:Func}(G:P.funcs[f]?=some fn)(o:lC P V fn z x y=true)(X:z.dfr=none)(Y:z.rg=none){n:Nat}{args:List D}{H:ab}{K:Kn}{vs:List Value}(Z:T K c)(hr:HR K b H c)(I:bf K b H args vs):(∀d j,fi V cl n z args H=.ret d j->Calls P f vs.toArray c (fW K b H c d j))/\∀q j,fi V cl n z args H=.pan q j->Calls P f vs.toArray c (EZ K b H c q j):=by unfold lC at o;rw[X,Y]at o;simp[D0,X0,Hq,TB,qb]at o;obtain⟨⟨⟨⟨⟨⟨⟨⟨⟨J,aq⟩,aa⟩,ac⟩,ad⟩,p⟩,r⟩,ae⟩,af⟩,ag⟩:=o;cases s:fn.body with|none=>grind|some ah=>
 rw[s]at J;unfold fi;by_cases M:args.length=z.npar
 ·rw[E4 M];have ai:vs.length=z.npar:=by rw[<-I.1];omega
  have hA:=xT aa ac ad p r ae af M ai hr I;have N:=λk i l hg=>qm (rd:=none) (m:=0) C E F r p (λ_=>p8 U C E F W r p) ⟨K,b,H,c⟩ ⟨Z,hr⟩ [] n _ ah J ⟨args++List.replicate _ .u,H⟩ i k _ c l hg hA;have go:∀k i,aC V cl n z.body ⟨args++List.replicate (z.nsl-z.npar) .u,H⟩=(k,i)->(k=.nm\/k=.rt)->∀ds,de i z.res=some ds->Calls P f vs.toArray c (fW K b H c (gm ds) i.hp):=by
   intro k i l Q ds hds;refine calls_of_wp G s (wp_mono (wpIn_wide.1 (N k i l (by rcases Q with rfl|rfl<;>rfl))) (λe a w g=>?_));have S:fO ⟨K,b,H,c⟩ x y fn.ntmps [] i a w->a.defers=[]/\∃v,(results fn _).run P w=.ok v w/\fW K b H c _ i.hp (.returned v) w:=λg=>by obtain⟨L,t,A,fs,_,B⟩:=g;obtain⟨v,h1,h2⟩:=AS fs ag hds;exact⟨B,v,h1,t,A,fs.hr,fs.nx,h2⟩
   cases e with|normal=>exact S g.2|ret=>exact S g.2|exit id=>rcases Q with rfl|rfl<;>cases g.1|panic ch=>obtain⟨_,_,hx,_⟩:=g;grind|_=>exact g.elim
  refine⟨λd j h=>?_,λq j h=>?_⟩;·grind
  split at h;·grind
  ·grind
  ·rename_i q' i l;cases h;refine calls_of_wp G s (wp_mono (wpIn_wide.1 (N _ i l rfl)) (λe a w g=>?_));cases e with|panic ch=>obtain⟨q2,v,e1,rfl,L,t,A,fs,_,B,ap⟩:=g;cases e1;exact⟨B,v,t,A,rfl,fs.hr,fs.nx,ap⟩|normal=>cases g.1|ret=>cases g.1|exit id=>cases g.1|_=>exact g.elim
  grind
 grind
def FS.slot{E:En}{f i:List Nat}{K:Kn}{L:Nat->Option Nat}{j:List D}{H:ab}{tmps:Array Value}(h:FS E f i K b L j H tmps c)(m:nodup f=true){k t:Nat}(n:f[k]?=some t)(B:i.contains k=false)(C:t<tmps.size){d:D}{v:Value}(F:VR K b H d v):FS E f i K b L (j.set k d) H (tmps.setIfInBounds t v) c:=by
 have G:k<j.length:=by rw[h.len];grind
 refine⟨h.hr,h.nx,by simpa using h.len,λa l x y=>?_,λa l x y=>?_,h.own,h.inj⟩
 ·by_cases g:k=a;·grind
  obtain⟨I,u,J,M,N⟩:=h.val a l x y;grind[r8]
 have g:k≠a:=λe=>by grind
 rcases h.box a l x y with e|⟨r,o,vs,p,q,s,w,z,A⟩;·exact .inl (by rw[K0 g];exact e)
 refine .inr ⟨r,o,vs,p,q,by rw[K0 g];exact s,?_,z,A⟩;exact oB w (λe=>g (r8 m k a t n (e▸x)))
def AN(K:Kn)(μ:Mu)(H:ab)(W:World)(a:ab)(e:FrameMode):Ending->FrameMode->World->Prop|.returned _,u,b=>u=e/\∃c d,HR c d a b/\Nx K μ H W c d a b|_,_,_=>False
inductive Rcv:FrameMode->FrameMode->D->Value->Prop|ret:Rcv .returning .returning .ni .nilIface|pan(x:D)(v:Value):Rcv (.panicking (rE v)) (.panicking [{v,recovered:=true}]) x v
def ads{P:Program}{V:aw}{T:Kn->World->Prop}{cl:FuncId->List D->ab->CR}(S:P.follows .mixedOrders=true)(C:dK P V T)(E:fX P T cl)(F:ig P T cl)(U:ir V cl){q:ft}(k:AC P V q=true){n:Nat}{args:List D}{x:D}{g:St}{l:Ex}{H:ab}(G:args.length=q.caps.length)(W:aC V cl n q.body ⟨(args++List.replicate (q.ns-args.length) D.u).set q.rk x,H⟩=(l,g))(I:l=.nm\/l=.rt){K:Kn}{vs:List Value}(X:T K c)(hr:HR K b H c)(J:bf K b H args vs){v:Value}(Y:VR K b H x v){u d:FrameMode}(Z:Rcv u d x v):CallsD P q.g vs.toArray u c (AN K b H c g.hp d):=by
 unfold AC at k;split at k
 ·rename_i h aa;simp only[D0,X0,Hq,TB,qb,AB2,ABL]at k;obtain⟨⟨⟨⟨⟨⟨⟨⟨⟨⟨⟨⟨s,ac⟩,bc⟩,bd⟩,ad⟩,ae⟩,af⟩,o⟩,p⟩,ag⟩,ah⟩,be⟩,bg⟩:=k;split at s
  ·rename_i id ops c2 hb;simp only[D0]at s;obtain⟨i,ai⟩:=s;split at i
   ·rename_i r w z;simp only[D0,AB3]at i;obtain⟨⟨i,aj⟩,ak⟩:=i;split at i
    ·rename_i az bi t3 t t2 am an ao ap;simp only[D0,X0,k7,Hq]at i;obtain⟨⟨⟨⟨rfl,aq⟩,bk⟩,M⟩,ar⟩:=i;have au:vs.length=q.caps.length:=by rw[<-J.1];omega
     have hA:=xT ad ae af o p ag ah G au hr J;refine callsD_of_wpS aa hb (λa f A=>wpS_seq ?_);refine wpS_region ?_;have ax:ops.size=2:=by rw[<-Array.length_toList,z];rfl
     have bl:ops[0]?=some r:=by rw[<-Array.getElem?_toList,z];rfl
     have ay:ops[1]?=some w:=by rw[<-Array.getElem?_toList,z];rfl
     have w1:∀y,Region.wanted r y=true:=λy=>by simp[Region.wanted,aj]
     have w2:∀y,Region.wanted w y=true:=λy=>by simp[Region.wanted,ak]
     have e1:∀ρ c,(execOp ρ r).run P c=.ok .recover c:=λρ c=>by simp[execOp,am,resolve,invoke,builtin]
     have e2:∀ρ c,(execOp ρ w).run P c=.ok (.value (ρ (.tmp t))) c:=λρ c=>by simp[execOp,ao]
     rw[ax];obtain⟨L,K1,a2,fs,hs,a3⟩:=hA;simp only at hs a3;have bp:t<(vs.toArray++Array.replicate (h.ntmps-vs.toArray.size) undef).size:=by grind
     have a4:wpOpsS P ops (Exit.thenS (c2.wpS P (bodyPostS P h a f (AN K b H c g.hp d))) (bodyPostS P h a f (AN K b H c g.hp d))) [1] (({tmps:=vs.toArray++Array.replicate (h.ntmps-vs.toArray.size) undef,defers:=[]}:Act).put r.dst v) ({a with mode:=d}::f) c:=by
      simp only[wpOpsS,ay,w2,if_true,e2,Oper.upon,Exit.thenS];rw[an,ap];have a5:(({tmps:=vs.toArray++Array.replicate (h.ntmps-vs.toArray.size) undef,defers:=[]}:Act).put (some t) v).eval (.tmp t)=v:=by simp only[Act.put,Act.eval];simp_all
      rw[a5];refine wpS_of_wp ?_;have a6:fO ⟨K,b,H,c⟩ q.tm q.bs _ [] ⟨(args++List.replicate (q.ns-args.length) D.u).set q.rk x,H⟩ ((({tmps:=vs.toArray++Array.replicate _ undef,defers:=[]}:Act).put (some t) v).put (some t2) v) c:=⟨L,K1,a2,by rw[G];exact(fs.tmp v (A8 aq)).slot p M ar (by simp only[AAU];rw[hs];exact o _ (nG M)) (Y.ext fs.nx.ext),by simp only[Act.put,AAU];exact hs,rfl⟩;refine wp_mono (wpIn_wide.1 (qm (rd:=none) (m:=0) C E F p o (λ_=>p8 S C E F U p o) ⟨K,b,H,c⟩ ⟨X,hr⟩ [] n q.body c2 ai _ g l _ c W (by rcases I with rfl|rfl<;>rfl) a6)) (λe B w' j=>?_);have done:fO ⟨K,b,H,c⟩ q.tm q.bs h.ntmps [] g B w'->B.defers=[]/\∃N,({a with mode:=d}::f:List Frame)={a with mode:=N}::f/\∃v,(results h B.tmps).run P w'=.ok v w'/\AN K b H c g.hp d (.returned v) N w':=λj=>by obtain⟨L',K',a8,Q,_,a9⟩:=j;exact⟨a9,d,rfl,.tuple #[],by simp[results,ac],rfl,K',a8,Q.hr,Q.nx⟩
      cases e with|normal=>exact done j.2|ret=>exact done j.2|exit id=>rcases I with rfl|rfl<;>cases j.1|panic ch=>obtain⟨_,_,bs,_⟩:=j;grind|_=>exact j.elim
     show wpOpsS P ops _ [0,1] _ _ _
     cases Z with|ret=>
     have ba:recoverD (a::f)=none:=by simp[recoverD,A]
     have hc:({a with mode:=.returning}:Frame)=a:=by rw[<-A]
     rw[hc]at a4;unfold wpOpsS;grind|pan x v=>
     have ba:recoverD (a::f)=some (v,{a with mode:=.panicking [{v,recovered:=true}]}::f):=by simp[recoverD,A]
     unfold wpOpsS;grind
    grind
   grind
  grind
 grind
theorem adt{P:Program}{V:aw}{T:Kn->World->Prop}{cl:FuncId->List D->ab->CR}(hm:P.follows .mixedOrders=true)(J:dK P V T)(X:fX P T cl)(Y:ig P T cl)(am:ir V cl){f:FuncId}{fn:Func}{Z bs:List Nat}{q:ft}(hf:P.funcs[f]?=some fn)(aj:lC P V fn z Z bs=true)(hd:z.dfr=some q){n:Nat}{args:List D}{H:ab}{d:D}{H':ab}(h:jM V cl n z q args H=.ret d H'){K:Kn}{μ:Mu}{vs:List Value}(hT:T K c)(hr:HR K μ H c)(hv:bf K μ H args vs):Calls P f vs.toArray c (fW K μ H c d H'):=by
 unfold lC at aj;rw[hd]at aj;simp[D0,X0,Hq,TB,qb]at aj;obtain⟨⟨⟨⟨⟨⟨⟨⟨⟨an,cs⟩,bc⟩,bd⟩,be⟩,ad⟩,ae⟩,bg⟩,bh⟩,bi⟩:=aj;split at an;·grind
 ·rename_i q' c0 id ops c1 p hb;cases p;simp[D0]at an;obtain⟨⟨⟨h0,F⟩,h1⟩,L⟩:=an;unfold P0 at F;split at F
  ·rename_i o1 o2 bm;simp only[D0,AB3]at F;obtain⟨⟨⟨F,bo⟩,bp⟩,bq⟩:=F;split at F
   ·rename_i g cu s t0 t cv cw br bt bu;simp only[D0,X0,k7,Hq,ABL]at F;obtain⟨⟨⟨⟨⟨⟨rfl,rfl⟩,rfl⟩,rfl⟩,ht⟩,cx⟩,bw⟩:=F;unfold jM at h;split at h
    ·rename_i bx;have bz:vs.length=z.npar:=by rw[<-hv.1];omega
     have hA:=xT bc bd be ad ae bg bh bx bz hr hv;split at h
     ·rename_i st1 b1;split at h;·cases h
      rename_i az;have az:st1.sl.all D.noBx=true:=by grind
      have cy:∀M A x,aC V cl n z.body st1=(M,A)->((M=.nm\/M=.rt)/\x=.ni\/M=.pn x)->jf V cl n z q H.length ((q.caps.map O.s).map (O.ev [] st1.sl)) x A=.ret d H'->Calls P f vs.toArray c (fW K μ H c d H'):=by
       intro M A x b2 af hl;unfold jf at hl;have b4:∃ak ag ds,aC V cl n q.body ⟨((q.caps.map O.s).map (O.ev [] st1.sl)++List.replicate (q.ns-((q.caps.map O.s).map (O.ev [] st1.sl)).length) D.u).set q.rk x,A.hp⟩=(ak,ag)/\(ak=.nm\/ak=.rt)/\de ⟨A.sl,ag.hp⟩ z.res=some ds/\d=gm ds/\H'=ag.hp:=by grind
       obtain⟨ak,ag,ds,he3,hex3,hds,rfl,rfl⟩:=b4;refine calls_of_wp_defers hf hb (wp_seq (wp_mono (wpIn_wide.1 (qm (m:=0) J X Y ae ad (λ_=>p8 hm J X Y am ae ad) ⟨K,μ,H,c⟩ ⟨hT,hr⟩ [] n q.pre c0 h0 _ st1 .nm _ c b1 rfl hA)) (λe a w p=>?_)));cases e with|ret=>cases p.1|exit id=>cases p.1|panic ch=>obtain⟨_,_,a0,_⟩:=p;grind|goto l=>exact p.elim|outgrown=>exact p.elim|normal=>
       obtain⟨-,L1,N,Q,B,c2,c3⟩:=p;have a1:=J.up hT hr B.nx;have b6:FS ⟨N,Q,st1.hp,w⟩ Z bs N Q (λ_=>none) st1.sl st1.hp a.tmps w:=by
        refine⟨B.hr,.refl _ _ _ _,B.len,B.val,λk t' x y=>?_,λk r e=>(by cases e),λk k' r e=>(by cases e)⟩;rcases B.box k t' x y with e|⟨r,c5,c6,ty,g1,g2,g3,g4,g5⟩;·grind
        have:=TB.1 az _ (nG g2);cases this
       have a4:=xK (loc:=[]) B (λi o vo t' _ e=>by grind) bw (λ_ _=>trivial);refine wp_seq (wp_region_list ?_);rw[bm];have w1:∀y,Region.wanted o1 y=true:=λy=>by simp[Region.wanted,bo]
       have U:∀y,Region.wanted o2 y=true:=λy=>by simp[Region.wanted,bp]
       have e1:(execOp a.eval o1).run P w=.ok (.value (.func (.func q.g) #[] (s.map a.eval))) w:=by simp[execOp,br,Instr.makeFunc]
       have b9:(a.put (some t) (.func (.func q.g) #[] (s.map a.eval))).eval (.tmp t)=.func (.func q.g) #[] (s.map a.eval):=by simp only[Act.put,Act.eval];simp_all
       have e2:(execOp (a.put (some t) (.func (.func q.g) #[] (s.map a.eval))).eval o2).run P w=.ok (.defer {target:=.fn (.func q.g) (s.map a.eval),args:=#[]}) w:=by simp[execOp,bu,resolve,b9,Deferred.ofValue]
       simp[wpList,w1,U,if_true];left;unfold Oper.wp;rw[e1,Oper.upon_value,bt];left;rw[e2,Oper.upon_defer,bq];have cb:fO ⟨N,Q,st1.hp,w⟩ Z bs _ [{target:=.fn (.func q.g) (s.map a.eval),args:=#[]}] st1 (({a.put (some t) (.func (.func q.g) #[] (s.map a.eval))with defers:={target:=.fn (.func q.g) (s.map a.eval),args:=#[]}::(a.put (some t) (.func (.func q.g) #[] (s.map a.eval))).defers}).put none undef) w:=⟨λ_=>none,N,Q,b6.tmp _ (A8 ht),by simp[Act.put,AAU];omega,by simp only[Act.put];grind⟩;have cc:M.good=true:=by rcases af with⟨rfl|rfl,_⟩|rfl<;>rfl
       refine wp_mono (wpIn_wide.1 (qm (m:=0) J X Y ae ad (λ_=>p8 hm J X Y am ae ad) ⟨N,Q,st1.hp,w⟩ ⟨a1,B.hr⟩ _ n _ c1 h1 st1 A M _ w b2 cc cb)) (λe a2 U p=>?_);have a5:∀W G I(v:Value)(u u':FrameMode),FS ⟨N,Q,st1.hp,w⟩ Z bs G I W A.sl A.hp a2.tmps U->VR G I A.hp x v->Rcv u u' x v->u≠.run->Go.settle u'=.returning->a2.defers=[{target:=.fn (.func q.g) (s.map a.eval),args:=#[]}]->Leaves P fn a2.tmps (fW K μ H c (gm ds) ag.hp) a2.defers u U:=by
        intro W G I v u u' C aq hu ce cf ai;rw[ai];have cg:bf G I _ _ _:=⟨a4.1,λj d v e e'=>(a4.2 j d v e e').ext C.nx.ext⟩;have cj:=ads hm J X Y am L (by simp) he3 hex3 (J.up a1 B.hr C.nx) C.hr cg aq hu;obtain⟨S,ar,ck,cm⟩:∃S,P.funcs[q.g]?=some S/\S.body.isSome=true/\S.name≠"runtime.NumGoroutine":=by
         unfold AC at L;split at L;·rename_i S ar;simp only[D0,AB2]at L;refine⟨S,ar,?_,L.2⟩;have:=L.1.1.1.1.1.1.1.1.1.1.1.1;cases cn:S.body with|none=>rw[cn]at this;simp at this|some b=>rfl
         cases L
        refine leaves_cons (f:=q.g) (args:=(s.toList.map a.eval).toArray) ce ?_ ?_;·simp only[invoke];rw[Au ar ck cm];simp[<-Array.toList_map]
        refine cj.mono (λe u2 w3 a6=>?_);cases e with|returned _=>obtain⟨rfl,K3,cq,a7,a8⟩:=a6;show Leaves P fn _ _ [] _ w3;rw[cf];obtain⟨rv,g1,g2⟩:=AS (C.go a7 a8) bi hds;exact⟨rv,g1,K3,cq,a7,(B.nx.trans C.nx).trans a8,g2⟩|_=>exact a6.elim
       have a9:fO ⟨N,Q,st1.hp,w⟩ Z bs fn.ntmps [{target:=.fn _ _,args:=#[]}] A a2 U->x=.ni->Leaves P fn _ _ _ .returning U:=λp E=>by obtain⟨W,G,I,C,_,ai⟩:=p;subst E;exact a5 W G I .nilIface _ _ C (.ni ..) .ret (by simp) rfl ai
       cases e with|normal=>exact a9 p.2 (by rcases af with⟨_,E⟩|E<;>first|exact E|(rw[E]at p;cases p.1))|ret=>exact a9 p.2 (by rcases af with⟨_,E⟩|E<;>first|exact E|(rw[E]at p;cases p.1))|exit id=>rcases af with⟨rfl|rfl,_⟩|rfl<;>cases p.1|panic ch=>
 obtain⟨x',v,a0,rfl,W,G,I,C,_,ai,aq⟩:=p;rcases af with⟨rfl|rfl,_⟩|rfl;·grind
 ·grind
 cases a0;exact a5 W G I v _ _ C aq (.pan x v) (by simp) rfl ai|goto l=>exact p.elim|outgrown=>exact p.elim
      grind
     grind
    grind
   grind
  grind
 grind
variable{a:ab}
theorem adu{V:aw}{cl:FuncId->List D->ab->CR}{q:ft}{n:Nat}{args:List D}{H:ab}{x:D}(h:jM V cl n z q args H=.pan x a):False:=by unfold jM jf at h;grind
def AP{P:Program}{V:aw}{T:Kn->World->Prop}{cl:FuncId->List D->ab->CR}(g:P.follows .mixedOrders=true)(h:dK P V T)(i:fX P T cl)(j:ig P T cl)(k:ir V cl){f:FuncId}{fn:Func}(l:P.funcs[f]?=some fn)(m:lC P V fn z x y=true)(o:z.rg=none\/z.rg=some f){n:Nat}{args:List D}{H:ab}{K:Kn}{vs:List Value}(p:T K c)(hr:HR K b H c)(r:bf K b H args vs):(∀d a,cX V cl n z args H=.ret d a->Calls P f vs.toArray c (fW K b H c d a))/\∀q a,cX V cl n z args H=.pan q a->Calls P f vs.toArray c (EZ K b H c q a):=by unfold cX;cases s:z.dfr with
 |none=>
 rcases o with e|e<;>rw[e];·exact adr g h i j k l m s e p hr r
 grind[afh,afi]|some q=>grind[adt,adu]
section
variable{V:aw}{cl:FuncId->List D->ab->CR}
def adv(g:∀(f:FuncId)(args:List D)(H:ab)(d:D)(i:ab),cl f args H=.ret d i->H.length<=i.length){j:aj}{q:List D}{st st1:St}{d:D}(h:step V cl q st j=.v d st1):st.hp.length<=st1.hp.length:=by cases j with
 |hal e=>cases h;simp|hbx x n=>obtain⟨a,_⟩:=qp h;simp only[l3]at a;grind|haa w e p=>cases h;simp|mkm=>cases h;simp|st x v n=>
 simp[step]at h;split at h;·obtain⟨a,_⟩:=Bf h;exact(RA (base:=bn 0) a).1
 grind|bsl w len e s p=>obtain⟨a,_⟩:=qp h;exact(RG a).1|app x y w bytes p=>obtain⟨a,_⟩:=qp h;exact(RC (base:=bn 0) a).1|mks l c w bytes e p=>obtain⟨a,_⟩:=qp h;exact(RE a).1|mup t m k v=>obtain⟨a,_⟩:=Bf h;exact(RD (base:=bn 0) a).1|call f b=>obtain⟨a,_⟩:=kG h;grind|calv x b=>
 simp only[step]at h;split at h
 ·split at h;·cases h
  obtain⟨a,_⟩:=kG h;grind
 ·obtain⟨a,_⟩:=kG h;grind
 grind|inv x m b=>
 simp[step]at h;split at h
 ·split at h;·obtain⟨a,_⟩:=kG h;grind
  grind
 grind|pan x=>simp[step,rW]at h;grind|cpl f b=>
 simp[step]at h;split at h
 ·split at h;·obtain⟨a,_⟩:=kG h;grind[EW]
  grind
 grind|callp f b=>obtain⟨a,_⟩:=kG h;grind|calx f b=>obtain⟨a,_⟩:=kG h;exact g _ _ _ _ _ (EY a).1|calvx x b=>
 simp only[step]at h;split at h
 ·split at h;·cases h
  obtain⟨a,_⟩:=kG h;exact g _ _ _ _ _ (EX a).1
 grind|sli r w x lo hi u=>cases r<;>(obtain⟨_,o⟩:=qn h;grind)|_=>
 simp only[step]at h;repeat' split at h
 all_goals first|(obtain⟨_,o⟩:=qn h;rw[o];exact G1 _)|grind
def AQ(a:∀(f:FuncId)(args:List D)(H:ab)(d:D)(c:ab),cl f args H=.ret d c->H.length<=c.length){dr:Option (Bs×Bool)}:∀{os:List aq}{e:List D}{st b:St},ops V cl dr os e st=(.nm,b)->st.hp.length<=b.hp.length
 |[],_,_,_,h=>by cases h;omega|o::os,e,st,b,h=>by
  unfold ops at h;split at h
  ·split at h
   ·split at h;·rename_i hs;have:=AQ a h;have:=adv a hs;grind
    ·split at h<;>cases h
    cases h
   grind
  ·have:=AQ a h;omega
  grind
def P8:∀{d:List Nat}{a b:St}{c:Ex},oi d a=(c,b)->a.hp.length<=b.hp.length
 |[],a,b,c,h=>by cases h;omega|k::d,a,b,c,h=>by
  unfold oi at h;split at h;·have:=P8 h;simp at this;omega
  cases h;omega
def uU(q:∀(f:FuncId)(args:List D)(H:ab)(d:D)(u:ab),cl f args H=.ret d u->H.length<=u.length)(n:Nat):∀(c:aR)(e k:St)(ex:Ex),aC V cl n c e=(ex,k)->ex.fin=true->e.hp.length<=k.hp.length:=by intro c;induction c with
 |skip=>intro e k ex h _;cases h;omega|ret=>intro e k ex h _;cases h;omega|stuck=>intro e k ex h _;cases h;omega|exit id=>intro e k ex h _;cases h;omega|rng j x=>
 intro e k ex h i;simp[aC]at h;split at h
 ·split at h
  ·split at h;·grind
   rename_i g cap _ _;cases o:cl g (.yl (e.hp.length+1)::cap) _ with
   |ret d w=>rw[o]at h;have:=q _ _ _ _ _ o;simp only[pY]at h;simp only[N3,fA,lA]at this;split at h<;>first|(cases h;cases i;done)|(cases h;simp only[gb];omega)
   |pan d w=>rw[o]at h;simp only[pY]at h;cases h;cases i|bad=>rw[o]at h;simp only[pY]at h;cases h;cases i
  grind
 grind|reg os z=>intro e k ex h i;have:=afo h i;subst this;exact AQ q h|hrg os v=>intro e k ex h i;simp only[aC]at h;cases o:ops V cl (some ((e.hp.length,[]),false)) os [] ⟨oh v e.sl,e.hp⟩with|mk p st1=>rw[o]at h;cases p<;>simp only[AI]at h<;>first|(cases h;cases i;done)|exact dG (AQ (st:=⟨oh v e.sl,e.hp⟩) q o) (P8 h)
 |seq a b r s=>intro e k ex h i;simp[aC]at h;cases l:aC V cl n a e with|mk p st1=>rw[l]at h;cases p with|nm=>exact dG (r _ _ _ l rfl) (s _ _ _ h i)|_=>grind
 |cond c a b r s=>
 intro e k ex h i;simp[aC]at h;split at h;·exact r _ _ _ h i
 ·exact s _ _ _ h i
 cases h;cases i|block id c t=>intro e k ex h i;simp[aC]at h;cases l:aC V cl n c e with|mk p st1=>rw[l]at h;cases p with|ex A=>simp at h;split at h<;>(cases h;exact t _ _ _ l rfl)|_=>grind
 |loop c t=>
 intro e k ex h i;simp[aC]at h;have:∀(m:Nat)(e:St),jd (aC V cl n c) m e=(ex,k)->e.hp.length<=k.hp.length:=by intro m;induction m with|zero=>intro e h;cases h;cases i|succ m y=>intro e h;simp[jd]at h;cases l:aC V cl n c e with|mk p st1=>rw[l]at h;cases p with|nm=>exact dG (t _ _ _ l rfl) (y _ h)|_=>grind
 grind
def adw(c:∀(f:FuncId)(args:List D)(H:ab)(d:D)(a:ab),cl f args H=.ret d a->H.length<=a.length){n:Nat}{args:List D}{H:ab}{d:D}(h:fi V cl n z args H=.ret d a):H.length<=a.length:=by
 unfold fi at h;split at h
 ·split at h
  ·rename_i e b;split at h;·cases h;exact uU c n _ _ _ _ b rfl
   grind
  ·rename_i e b;split at h;·cases h;exact uU c n _ _ _ _ b rfl
   grind
  ·cases h
  cases h
 grind
def adx(c:∀(f:FuncId)(args:List D)(H:ab)(d:D)(a:ab),cl f args H=.ret d a->H.length<=a.length){n:Nat}{args:List D}{H:ab}{d:D}(h:iR V cl n z args H=.ret d a):H.length<=a.length:=by
 unfold iR at h;split at h
 ·split at h
  ·rename_i e b;split at h;·cases h;rw[Bb];exact uU c n _ _ _ _ b rfl
   grind
  ·rename_i e b;split at h;·cases h;rw[Bb];exact uU c n _ _ _ _ b rfl
   grind
  grind
 grind
def ady(c:∀(f:FuncId)(args:List D)(H:ab)(d:D)(a:ab),cl f args H=.ret d a->H.length<=a.length){n:Nat}{args:List D}{H:ab}{d:D}(h:je V cl n args H=.ret d a):H.length<=a.length:=by
 unfold je at h;split at h
 ·rename_i y i;split at h
  ·rename_i f p j m o x q;split at h
   ·rename_i r s;split at h;·cases e:aC V cl n r.a ⟨gP x r.ps i,H⟩with|mk k st1=>rw[e]at h;cases k with
 |nm=>
  have t:=uU c n _ _ _ _ e rfl;simp[mZ]at h;split at h;·rename_i u v w z A B C;cases g:aC V cl n r.b ⟨st1.sl,st1.hp.set y _⟩with|mk b E=>
   rw[g]at h;have l:b.fin=true:=by cases b<;>first|rfl|cases h
   have F:=uU c n _ _ _ _ g l;cases b<;>simp[oj]at h<;>first|grind
  grind|_=>cases h
    grind
   grind
  grind
 grind
def adz(b:∀(f:FuncId)(args:List D)(H:ab)(d:D)(a:ab),cl f args H=.ret d a->H.length<=a.length){n:Nat}{args:List D}{H:ab}{d:D}(h:cX V cl n z args H=.ret d a):H.length<=a.length:=by
 unfold cX at h;split at h
 ·split at h;·exact adw b h
  exact adx b h
 unfold jM jf at h;grind
def P9(d:D)(H:ab):Gr H (jL d H).2:=by cases d<;>first|exact .push _ _|exact .refl _
def Qa:∀(ds:List D)(H:ab),Gr H (xC ds H).2|[],_=>.refl _|d::ds,H=>(P9 d H).trans (Qa ds _)
def Qb(d:D)(H:ab):Gr H (lY d H).2:=by cases d<;>first|exact Qa _ _|exact P9 _ _
def Qc:∀(ds:List D)(H:ab),Gr H (xD ds H).2|[],_=>.refl _|d::ds,H=>(Qb d H).trans (Qc ds _)
def adA(d:D)(H:ab):Gr H (place d H).2:=by cases d<;>first|exact Qc _ _|exact Qb _ _
def uV(V:aw)(q:∀(f:FuncId)(args:List D)(H:ab)(d:D)(a:ab),V.ext f args H=some (d,a)->H.length<=a.length):∀n,ir V (call V n):=by intro n;induction n with|zero=>exact⟨λf args H d a h=>(by cases h),λf args H d a b _ _ h=>(by cases h),λf args H d a b _ _ _ _ h=>(by cases h)⟩|succ n i=>
 have j:∀(f:FuncId)(args:List D)(H:ab)(d:D)(a:ab)(b:aJ),V.fn f=some b->b.pure=true->call V (n+1) f args H=.ret d a->Gr H a:=by
  intro f args H d a b c e h;simp[call,c,e]at h;split at h;·cases h
  rename_i ds H1 hfr;split at h
  ·rename_i d1 _;cases h;have g:Gr H (jN b.fre d1 H H1):=by
    unfold jN;split;·exact .refl _
    exact Rv hfr
   cases r:b.own with|true=>exact g.trans (adA _ _)|false=>exact g
  ·cases h
  cases h
 refine⟨λf args H d a h=>?_,j,λf args H d a b c e k m h=>?_⟩;rotate_left
 ·simp[call,c,e]at h;split at h;·cases h
  rename_i ds H1 hfr;obtain⟨rfl,o⟩:=(afu bG).2 _ _ _ _ m hfr;split at h
  ·rename_i d1 p;cases h;have g:∀H,jN b.fre d1 H H=H:=λH=>by grind[jN]
   rw[k];refine⟨g _,λl=>?_⟩;simp only[call,c,e,o l,p,k];exact ka _ (g l)
  ·cases h
  cases h
 cases c:V.fn f with
 |none=>
 simp[call,c]at h;split at h;·exact ady i.le h
 grind|some b=>cases e:b.pure with|true=>exact(j f args H d a b c e h).1|false=>
 simp[call,c,e]at h;split at h;·grind
 exact adz i.le h
end
end
section
section
variable{V:aw}{cl cl':FuncId->List D->ab->CR}
def jP(cl cl':FuncId->List D->ab->CR):Prop:=∀f args H,cl f args H≠.bad->cl' f args H=cl f args H
variable{z:List D}
def xG:∀{r:CR},r.toR z≠.bad->r≠.bad|.ret _ _,_=>nofun|.pan _ _,_=>nofun|.bad,h=>absurd rfl h
theorem Fo(b:jP cl cl'){g:aj}{a:St}(h:step V cl z a g≠.bad):step V cl' z a g=step V cl z a g:=by cases g with
 |call f c=>simp only[step]at h⊢;rw[b _ _ _ (xG h)]|callp f c=>simp only[step]at h⊢;rw[b _ _ _ (xG h)]|cpl f c=>simp only[step]at h⊢;cases i:V.fn f with|none=>rfl|some j=>
 rw[i]at h;simp only at h⊢;split at h
 ·have:cl f _ a.hp≠.bad:=λe=>by rw[e]at h;exact h rfl
  rw[b _ _ _ this]
 grind|calx f c=>
 simp only[step]at h⊢;have:cl f _ a.hp≠.bad:=λe=>by rw[e]at h;exact h rfl
 rw[b _ _ _ this]|calvx x c=>
 simp only[step]at h⊢;generalize x.ev z a.sl=q at h⊢;split
 ·rename_i f first captured;simp only at h;split;·rfl
  rename_i d;rw[E1 d]at h;have:cl f _ a.hp≠.bad:=λe=>by rw[e]at h;exact h rfl
  rw[b _ _ _ this]
 rfl|calv x c=>
 simp only[step]at h⊢;generalize x.ev z a.sl=q at h⊢;split
 ·simp only at h;split;·rfl
  rename_i d;rw[E1 d]at h;rw[b _ _ _ (xG h)]
 ·rw[b _ _ _ (xG h)]
 rfl|inv x m c=>
 simp only[step]at h⊢;generalize x.ev z a.sl=q at h⊢;split;·rename_i t v;simp only at h⊢;cases d:V.meth t m with|none=>rfl|some f=>rw[d]at h;simp only at h⊢;rw[b _ _ _ (xG h)]
 rfl|_=>rfl
theorem xH(c:jP cl cl'){dr:Option (Bs×Bool)}:∀{os:List aq}{a:List D}{b:St},(ops V cl dr os a b).1≠.bad->ops V cl' dr os a b=ops V cl dr os a b|[],_,_,_=>rfl|o::os,a,b,h=>by unfold ops at h⊢;cases e:o.wants a b.sl with|none=>rfl|some r=>rw[e]at h;cases r with|false=>exact xH c h|true=>cases f:o.op.fits dr a b.sl with|false=>rfl|true=>rw[f]at h;cases hs:step V cl a b o.op with|v d st1=>rw[hs]at h;rw[Fo c (by rw[hs];nofun),hs];exact xH c h|p d g=>rw[Fo c (by rw[hs];nofun),hs]|bad=>rw[hs]at h;exact absurd rfl h
theorem AT{b d:St->Ex×St}(e:∀a,(b a).1≠.bad->d a=b a):∀(n c:Nat)(a:St),n<=c->(jd b n a).1≠.bad->jd d c a=jd b n a|0,_,_,_,h=>absurd rfl h|n+1,0,_,g,_=>by omega|n+1,c+1,a,g,h=>by simp only[jd]at h⊢;cases f:b a with|mk i j=>
 rw[f]at h;have k:(b a).1≠.bad:=by grind
 rw[e a k,f];cases i with|nm=>exact AT e n c j (by omega) h|_=>rfl
theorem p7(f:jP cl cl'){n i:Nat}(m:n<=i):∀(c:aR)(d:St),(aC V cl n c d).1≠.bad->aC V cl' i c d=aC V cl n c d:=by intro c;induction c with
 |skip=>intro d _;rfl|ret=>intro d _;rfl|stuck=>intro d _;rfl|rng j x=>intro d h;simp only[aC]at h⊢;cases hr:V.rnd j with|none=>rfl|some r=>
 rw[hr]at h;simp only at h⊢;split
 ·rename_i g cap o;rw[o]at h;simp only at h;by_cases k:g=yF;·grind
  rw[E1 k]at h⊢;rw[E1 k];rw[f _ _ _ (λe=>by rw[e]at h;exact h rfl)]
 rfl|exit id=>intro d _;rfl|reg os t=>intro d h;exact xH f h|hrg os u=>intro d h;simp only[aC]at h⊢;rw[xH f λe=>h (by generalize ops V cl _ os [] _=q at e;cases q;cases e;rfl)]|seq a b p s=>grind[aC]|cond c a b p s=>grind[aC]|block id c l=>grind[aC]|loop c l=>intro d h;exact AT (λd h=>l d h) n i d m h
variable{x:Nat}{y:aJ}
theorem adC(a:jP cl cl'){n:Nat}(b:n<=x){args:List D}{H:ab}(h:fi V cl n y args H≠.bad):fi V cl' x y args H=fi V cl n y args H:=by grind[fi,p7,aC]
theorem adD(a:jP cl cl'){n:Nat}(b:n<=x){args:List D}{H:ab}(h:iR V cl n y args H≠.bad):iR V cl' x y args H=iR V cl n y args H:=by grind[iR,p7,aC]
def adE(a:jP cl cl'){n:Nat}(c:n<=x){y:Nat}{b:aR}{r:Ex×St}(h:mZ V cl n y b r≠.bad):mZ V cl' x y b r=mZ V cl n y b r:=by obtain⟨d,g⟩:=r;cases d with
 |nm=>
 simp only[mZ]at h⊢;split;·rename_i f;rw[f]at h;simp only at h;rw[p7 a c];intro e;generalize aC V cl n b _=q at e h;obtain⟨i,j⟩:=q;subst e;exact h rfl
 rfl|_=>rfl
theorem Qe(a:jP cl cl'){n b:Nat}(c:n<=b){args:List D}{H:ab}(h:je V cl n args H≠.bad):je V cl' b args H=je V cl n args H:=by
 unfold je at h⊢;split
 ·rename_i y d;simp only at h;split;·rename_i f p j l m x g;rw[g]at h;simp only at h;cases hr:V.rnd j with|none=>rfl|some r=>
   rw[hr]at h;simp only at h⊢;split
   ·rename_i i;rw[E4 i]at h;have k:(aC V cl n r.a ⟨gP x r.ps d,H⟩).1≠.bad:=by intro e;generalize aC V cl n r.a _=q at e h;obtain⟨o,s⟩:=q;subst e;exact h rfl
    rw[p7 a c _ _ k];exact adE a c h
   rfl
  rfl
 rfl
theorem adF(c:jP cl cl'){n b:Nat}(d:n<=b){q:ft}{base:Nat}{x:D}{a:St}(h:jf V cl n y q base z x a≠.bad):jf V cl' b y q base z x a=jf V cl n y q base z x a:=by grind[jf,p7,aC]
theorem adG(a:jP cl cl'){n:Nat}(b:n<=x){q:ft}{args:List D}{H:ab}(h:jM V cl n y q args H≠.bad):jM V cl' x y q args H=jM V cl n y q args H:=by grind[jM,aC,p7,adF]
theorem Fp(a:jP cl cl'){n:Nat}(b:n<=x){args:List D}{H:ab}(h:cX V cl n y args H≠.bad):cX V cl' x y args H=cX V cl n y args H:=by grind[cX,adC,adD,adG]
theorem AU(a:jP cl cl'){n:Nat}(b:n<=x){vf:aJ}{args:List D}(h:gS V cl n vf args≠.bad):gS V cl' x vf args=gS V cl n vf args:=by grind[gS,Fp]
theorem adH(a:jP cl cl'){n:Nat}(b:n<=x){f:FuncId}{args:List D}(h:dU V cl n f y args≠.bad):dU V cl' x f y args=dU V cl n f y args:=by grind[dU,AU]
theorem se(V:aw):∀n a,n<=a->jP (call V n) (call V a):=by intro n;induction n with|zero=>intro a _ f args H h;exact absurd rfl h|succ n c=>intro a d f args H h;cases a with|zero=>omega|succ a=>simp only[call]at h⊢;cases e:V.fn f with|none=>grind[Qe]|some b=>simp only at h⊢;cases g:b.pure<;>grind[Fp,aW,bG,dU,call,adH]
end
end
section
def afO(V:aw)(n a:Nat)(c:n<=a)(f:FuncId)(args:List D)(H:ab)(d:D)(b:ab)(h:call V n f args H=.ret d b):call V a f args H=.ret d b:=by rw[se V n a c f args H (by grind),h]
def cz(V:aw)(f:FuncId)(args:List D)(H:ab)(d:D)(a:ab):Prop:=∃N,∀n,N<=n->call V n f args H=.ret d a
def cz.of{V:aw}{n:Nat}{f:FuncId}{args:List D}{H:ab}{d:D}{a:ab}(h:call V n f args H=.ret d a):cz V f args H d a:=⟨n,λm b=>afO V n m b _ _ _ _ _ h⟩
def ai(V:aw)(f:FuncId)(ds:List D)(d:D):Prop:=∃n,dh V n f ds=.ret d
def RQ(b:Bool)(d:D)(H:ab):jN b d H H=H:=by grind[jN]
def cz.pure0{V:aw}{f:FuncId}{a:aJ}{args ds:List D}{H b:ab}{d:D}(c:V.fn f=some a)(e:a.pure=true)(g:aW bG H args=some (ds,b))(h:ai V f ds d):cz V f args H (eT a.own d (jN a.fre d H b)).1 (eT a.own d (jN a.fre d H b)).2:=by obtain⟨n,h⟩:=h;cases n with|zero=>cases h|succ n=>refine .of (n:=n+1) ?_;grind[dh,call]
theorem cz.pure{V:aw}{f:FuncId}{a:aJ}{args ds:List D}{H b:ab}{d:D}(c:V.fn f=some a)(e:a.pure=true)(g:aW bG H args=some (ds,b))(h:ai V f ds d)(i:a.fre=false:=by first|rfl|assumption):cz V f args H (eT a.own d b).1 (eT a.own d b).2:=by have:=cz.pure0 c e g h;rwa[i]at this
inductive Sl(w:Nat)(rows:List (List D)):D->Prop|nil(h:rows=[]):Sl w rows .nil|z(h:rows=[]):Sl w rows .z|im:Sl w rows (.im w rows)
section
variable{w:Nat}{rows:List (List D)}{x:D}{H:ab}
theorem Sl.len(h:Sl w rows x):dS H 1 x=some (.i .i64 rows.length):=by cases h with|nil h=>subst h;rfl|z h=>subst h;rfl|im=>rfl
def Sl.cont(h:Sl w rows x):fM H w x=some rows:=by cases h with|nil h=>subst h;rfl|z h=>subst h;rfl|im=>simp[fM]
end
section
variable{V:aw}{cl:FuncId->List D->ab->CR}{dr:Option (Bs×Bool)}{n:Nat}
def Gf(a:Bool):D->Option Bool|.b y=>some (y==a)|.u=>some false|_=>none
def afP(a:aj)(keep:Option Nat)(x:O)(w:Bool)(loc sl:List D):(⟨a,keep,some (x,w)⟩:aq).wants loc sl=Gf w (x.ev loc sl):=by simp[aq.wants];cases x.ev loc sl<;>rfl
def afQ(a:aj)(loc sl:List D):a.fits none loc sl=true:=rfl
def RR(b:aJ):Ex×St->CR
 |(.nm,a)|(.rt,a)=>match de a b.res with|some ds=>.ret (gm ds) a.hp|none=>.bad
 |(.pn d,a)=>.pan d a.hp|_=>.bad
def afR(a:aJ)(args:List D)(H:ab)(h:args.length=a.npar):fi V cl n a args H=RR a (aC V cl n a.body ⟨args++List.replicate (a.nsl-a.npar) .u,H⟩):=by unfold fi;rw[E4 h];generalize aC V cl n _ _=r;obtain⟨e,s⟩:=r;cases e<;>rfl
def Gg(cl:FuncId->List D->ab->CR)(args:List D)(a:St):D->R|.fn (.func f) first b=>if f=yF then .bad else(cl f (first++args++b) a.hp).toR a.sl|.yl y=>(cl yF (.yl y::args) a.hp).toR a.sl|_=>.bad
def afS(x:O)(d:List O)(loc:List D)(c:St):step V cl loc c (.calv x d)=Gg cl (d.map (O.ev loc c.sl)) c (x.ev loc c.sl):=by simp only[step];cases x.ev loc c.sl with|fn f a b=>cases f<;>rfl|_=>rfl
def RU{f:Nat}(h:f<4294967295):f≠yF:=λe=>by subst e;exact absurd h (AA8 _)
section
variable(loc sl:List D)(H:ab)
def RW(i:Nat):(O.l i).ev loc sl=loc.getD i .u:=rfl
def afT(i:Nat):(O.s i).ev loc sl=sl.getD i .u:=rfl
def afU(d:D):(O.c d).ev loc sl=d:=rfl
def RX(k:Nat):Option D->Option (Nat×Nat)|some (.bx _)=>some (k,0)|_=>none
def RY:Option D->Option (Nat×Nat)|some (.lp k a)=>some (k,a)|_=>none
def afV(k:Nat):(AB.sl k).ev loc sl=RX k sl[k]?:=by simp[AB.ev];cases sl[k]? with|none=>rfl|some d=>cases d<;>rfl
def afW(i:Nat):(AB.lo i).ev loc sl=RY loc[i]?:=by simp[AB.ev];cases loc[i]? with|none=>rfl|some d=>cases d<;>rfl
def afX(k:Nat)(a:List D):RX k (some (.bx a))=some (k,0):=rfl
def afY(k a:Nat):RY (some (.lp k a))=some (k,a):=rfl
theorem RZ(a:St)(d:D):aE a (some d)=.v d a:=rfl
def afZ(sl:List D)(H a:ab)(d:D):gO ⟨sl,H⟩ (some (d,a))=.v d ⟨sl,a⟩:=rfl
def af0(sl:List D)(H a:ab):iO ⟨sl,H⟩ (some a)=.v .u ⟨sl,a⟩:=rfl
variable{V:aw}{cl:FuncId->List D->ab->CR}
def af1(x:O):step V cl loc ⟨sl,H⟩ (.mov x)=.v (x.ev loc sl) ⟨sl,H⟩:=rfl
def af2(c a b:O):step V cl loc ⟨sl,H⟩ (.pick c a b)=aE ⟨sl,H⟩ (uQ (c.ev loc sl) (a.ev loc sl) (b.ev loc sl)):=rfl
def af3(a b:D):uQ (.b true) a b=some a:=rfl
def af4(a b:D):uQ (.b false) a b=some b:=rfl
def af5(a:List D):step V cl loc ⟨sl,H⟩ (.lal a)=.v (.bx a) ⟨sl,H⟩:=rfl
def af6(x:O)(n:Nat):step V cl loc ⟨sl,H⟩ (.lbx x n)=aE ⟨sl,H⟩ (((x.ev loc sl).cellsN n).map .bx):=rfl
def af7(t:Nat)(a:List D):step V cl loc ⟨sl,H⟩ (.hal t a)=.v (.hp H.length 0) ⟨sl,H++[.hb t a]⟩:=rfl
def af8(t:Nat)(x:O)(n:Nat):step V cl loc ⟨sl,H⟩ (.hbx t x n)=gO ⟨sl,H⟩ (((x.ev loc sl).cellsN n).map λa=>(.hp H.length 0,H++[.hb t a])):=rfl
def af9(w:Nat)(a:List (List D))(p:Bool):step V cl loc ⟨sl,H⟩ (.haa w a p)=.v (.aa H.length) ⟨sl,H++[.ar w a (some a.length) p false]⟩:=rfl
def Gh(a:St)(b:Nat):Option (Nat×Nat)->R|some (k,o)=>.v (.lp k (o+b)) a|none=>.bad
def aga(a:AB)(b:Nat):step V cl loc ⟨sl,H⟩ (.lfa a b)=Gh ⟨sl,H⟩ b (a.ev loc sl):=by simp[step];cases a.ev loc sl<;>rfl
def agb(a:St)(b k o:Nat):Gh a b (some (k,o))=.v (.lp k (o+b)) a:=rfl
def agd(a:St)(w:Nat):Option (Nat×Nat)->Option Nat->R|some (k,o),some j=>.v (.lp k (o+j*w)) a|_,_=>.bad
def agf(a:St)(w k o j:Nat):agd a w (some (k,o)) (some j)=.v (.lp k (o+j*w)) a:=rfl
def Bm(a:St)(n:Nat)(b:Bool):Option (Nat×Nat)->R
 |some (k,o)=>match eR a k with
  |some c=>match eQ c o n with|some r=>aE a (val b r)|none=>.bad
  |none=>.bad
 |none=>.bad
def Gi(a:St)(o n:Nat)(b:Bool):Option D->R
 |some (.bx c)=>match eQ c o n with|some r=>aE a (val b r)|none=>.bad
 |_=>.bad
def R0(a:St)(b:Bool):Option (List D)->R|some r=>aE a (val b r)|none=>.bad
def agh(a:AB)(n:Nat)(b:Bool):step V cl loc ⟨sl,H⟩ (.lld a n b)=Bm ⟨sl,H⟩ n b (a.ev loc sl):=by simp[step];cases a.ev loc sl<;>rfl
def agi(n:Nat)(a:Bool)(k o:Nat):Bm ⟨sl,H⟩ n a (some (k,o))=Gi ⟨sl,H⟩ o n a sl[k]?:=by simp[Bm,eR];cases sl[k]? with|none=>rfl|some d=>cases d<;>rfl
def agj(b:St)(o n:Nat)(c:Bool)(a:List D):Gi b o n c (some (.bx a))=R0 b c (eQ a o n):=by simp[Gi];cases eQ a o n<;>rfl
def agk(a:St)(b:Bool)(r:List D):R0 a b (some r)=aE a (val b r):=rfl
def xX(sl:List D)(H:ab):Option (Nat×Nat)->Option (List D)->R
 |some (k,o),some vs=>match eR ⟨sl,H⟩ k with
  |some a=>match cS a o vs with|some b=>.v .u ⟨sl.set k (.bx b),H⟩|none=>.bad
  |none=>.bad
 |_,_=>.bad
def Gj(sl:List D)(H:ab)(k o:Nat)(vs:List D):Option D->R
 |some (.bx a)=>match cS a o vs with|some b=>.v .u ⟨sl.set k (.bx b),H⟩|none=>.bad
 |_=>.bad
def R4(sl:List D)(H:ab)(k:Nat):Option (List D)->R|some a=>.v .u ⟨sl.set k (.bx a),H⟩|none=>.bad
def agl(a:AB)(x:O)(n:Nat):step V cl loc ⟨sl,H⟩ (.lst a x n)=xX sl H (a.ev loc sl) ((x.ev loc sl).cellsN n):=by simp[step];cases a.ev loc sl with|none=>cases(x.ev loc sl).cellsN n<;>rfl|some q=>cases(x.ev loc sl).cellsN n<;>grind[xX]
def agm(k o:Nat)(vs:List D):xX sl H (some (k,o)) (some vs)=Gj sl H k o vs sl[k]?:=by simp[xX,eR];cases sl[k]? with|none=>rfl|some d=>cases d<;>rfl
def agn(k o:Nat)(vs a:List D):Gj sl H k o vs (some (.bx a))=R4 sl H k (cS a o vs):=by simp[Gj];cases cS a o vs<;>rfl
def ago(k:Nat)(a:List D):R4 sl H k (some a)=.v .u ⟨sl.set k (.bx a),H⟩:=rfl
def agp(x:O)(a:Nat):step V cl loc ⟨sl,H⟩ (.fad x a)=aE ⟨sl,H⟩ (n7 (x.ev loc sl) a):=rfl
def agq(b o a:Nat):n7 (.hp b o) a=some (.hp b (o+a)):=rfl
def agr(a n i o b:Nat):n7 (.ap a n i o) b=some (.ap a n i (o+b)):=rfl
def ags(a:List D)(b:Nat):n7 (.ip a) b=if b<=a.length then some (.ip (a.drop b))else none:=rfl
def agt(x a:O)(w:Nat):step V cl loc ⟨sl,H⟩ (.iad x a w)=aE ⟨sl,H⟩ (cG H (x.ev loc sl) (a.ev loc sl) w):=rfl
def agu(x a:O)(n w:Nat):step V cl loc ⟨sl,H⟩ (.iar x a n w)=aE ⟨sl,H⟩ (mX H (x.ev loc sl) (a.ev loc sl) n w):=rfl
def mg(a:St)(b:Bool):Option (List D)->R|some r=>aE a (val b r)|none=>.bad
def agv(x:O)(n:Nat)(a:Bool):step V cl loc ⟨sl,H⟩ (.ld x n a)=mg ⟨sl,H⟩ a (cT H (x.ev loc sl) n):=by simp[step];cases cT H _ n<;>rfl
def agw(x:O)(n:Nat)(a:Bool):step V cl loc ⟨sl,H⟩ (.ldh x n a)=mg ⟨sl,H⟩ a (lD H (x.ev loc sl) n):=by simp[step];cases lD H _ n<;>rfl
def agx(b a n:Nat):lD H (.hp b a) n=cT H (.hp b a) n:=rfl
def agy(a:St)(b:Bool)(r:List D):mg a b (some r)=aE a (val b r):=rfl
def agz(a:List D)(n:Nat):cT H (.ip a) n=eQ a 0 n:=rfl
def R5(a n:Nat):Option an->Option (List D)|some (.hb _ b)=>eQ b a n|_=>none
def agA(b a n:Nat):cT H (.hp b a) n=R5 a n H[b]?:=by simp[cT];cases H[b]? with|none=>rfl|some d=>cases d<;>rfl
def agB(a n t:Nat)(b:List D):R5 a n (some (.hb t b))=eQ b a n:=rfl
def agC(a:List D):val true a=some (.ag a):=rfl
def agD(d:D):val false [d]=some d:=rfl
def Gk(sl:List D)(H:ab)(x:D):Option (List D)->R|some vs=>iO ⟨sl,H⟩ (gl H x vs)|none=>.bad
def agE(x v:O)(n:Nat):step V cl loc ⟨sl,H⟩ (.st x v n)=Gk sl H (x.ev loc sl) ((v.ev loc sl).cellsN n):=by simp[step];cases(v.ev loc sl).cellsN n<;>rfl
def agF(x:D)(vs:List D):Gk sl H x (some vs)=iO ⟨sl,H⟩ (gl H x vs):=rfl
def agG(a:BinOp)(x y:O):step V cl loc ⟨sl,H⟩ (.bin a x y)=aE ⟨sl,H⟩ (bin a (x.ev loc sl) (y.ev loc sl)):=rfl
def agH(k:IntKind)(x y:Int):bin .add (.i k x) (.i k y)=some (.i k (k.wrap (x+y))):=by simp[bin,jD]
def agI(k:IntKind)(x y:Int):bin .sub (.i k x) (.i k y)=some (.i k (k.wrap (x-y))):=by simp[bin,jD]
def agJ(k:IntKind)(x y:Int):bin .mul (.i k x) (.i k y)=some (.i k (k.wrap (x*y))):=by simp[bin,jD]
def agK(k:IntKind)(x y:Int):bin .lss (.i k x) (.i k y)=some (.b (decide (x<y))):=by simp[bin,jD]
def agL(k:IntKind)(x y:Int):bin .leq (.i k x) (.i k y)=some (.b (decide (x<=y))):=by simp[bin,jD]
def agM(k:IntKind)(x y:Int):bin .gtr (.i k x) (.i k y)=some (.b (decide (y<x))):=by simp[bin,jD]
def agN(k:IntKind)(x y:Int):bin .geq (.i k x) (.i k y)=some (.b (decide (y<=x))):=by simp[bin,jD]
def agO(k:IntKind)(x y:Int):bin .eql (.i k x) (.i k y)=some (.b (decide (x=y))):=by grind[bin,jD]
def agP(k:IntKind)(x y:Int):bin .neq (.i k x) (.i k y)=some (.b (!decide (x=y))):=by grind[bin,jD]
def agQ(x y:List UInt8):bin .eql (.s x) (.s y)=some (.b (decide (x=y))):=by grind[bin,xx]
def agR(x y:List UInt8):bin .neq (.s x) (.s y)=some (.b (!decide (x=y))):=by grind[bin,xx]
def agS(neg:Bool)(k:EK)(x y:O):step V cl loc ⟨sl,H⟩ (.eqv neg k x y)=aE ⟨sl,H⟩ (ej neg k (x.ev loc sl) (y.ev loc sl)):=rfl
def agT(neg x y:Bool):ej neg .b (.b x) (.b y)=some (.b ((x==y)!=neg)):=rfl
def agU(a:UnOp)(x:O):step V cl loc ⟨sl,H⟩ (.un a x)=aE ⟨sl,H⟩ (un a (x.ev loc sl)):=rfl
def agV(x:Bool):un .not (.b x)=some (.b (!x)):=rfl
def agW(k:IntKind)(n:Int):un .neg (.i k n)=some (.i k (k.wrap (0-n))):=rfl
def agX(k:IntKind)(x:O):step V cl loc ⟨sl,H⟩ (.cvi k x)=aE ⟨sl,H⟩ (uR k (x.ev loc sl)):=rfl
def agY(k a:IntKind)(n:Int):uR k (.i a n)=some (.i k (k.wrap n)):=rfl
def agZ(l:List UInt8):adf (.s l)=some (.s l):=rfl
def ag0(a:List D)(b:List (Nat×Nat×O)):step V cl loc ⟨sl,H⟩ (.agc a b)=aE ⟨sl,H⟩ ((jF a (b.map λp=>(p.1,p.2.1,p.2.2.ev loc sl))).map .ag):=rfl
def Gl(a:Nat)(b:List D)(c:List (Nat×Nat×D)):Option (List D)->Option (List D)
 |some vs=>match cS b a vs with|some d=>jF d c|none=>none
 |none=>none
def R6(a:List (Nat×Nat×D)):Option (List D)->Option (List D)|some b=>jF b a|none=>none
def ag1(a:List D):jF a []=some a:=rfl
def ag2(a:List D)(b n:Nat)(v:D)(c:List (Nat×Nat×D)):jF a ((b,n,v)::c)=Gl b a c (v.cellsN n):=by rw[jF];cases v.cellsN n<;>rfl
def ag3(a:Nat)(b vs:List D)(c:List (Nat×Nat×D)):Gl a b c (some vs)=R6 c (cS b a vs):=by simp[Gl];cases cS b a vs<;>rfl
def ag4(a:List D)(b:List (Nat×Nat×D)):R6 b (some a)=jF a b:=rfl
def ag5(w n:Nat)(a:List D)(b:List (Nat×O))(p:Bool):step V cl loc ⟨sl,H⟩ (.bsl w n a b p)=gO ⟨sl,H⟩ (ob H w n a (b.map λq=>(q.1,q.2.ev loc sl)) p):=rfl
def ag6(w n:Nat)(a:List D)(b:List (Nat×O)):step V cl loc ⟨sl,H⟩ (.bsv w n a b)=aE ⟨sl,H⟩ (pU w n a (b.map λq=>(q.1,q.2.ev loc sl))):=rfl
def ag7(k:Nat)(x:O):step V cl loc ⟨sl,H⟩ (.len k x)=aE ⟨sl,H⟩ (dS H k (x.ev loc sl)):=rfl
def ag8(l:List UInt8):dS H 0 (.s l)=some (.i .i64 l.length):=rfl
def ag9:dS H 1 .nil=some (.i .i64 0):=rfl
def aha:dS H 1 .z=some (.i .i64 0):=rfl
def ahb(w:Nat)(rows:List (List D)):dS H 1 (.im w rows)=some (.i .i64 rows.length):=rfl
def ahc(w:Nat)(rows:List (List D)):dS H 1 (.sv w rows)=some (.i .i64 rows.length):=rfl
def ahd(a n b len:Nat):dS H 1 (.mu a n b len)=some (.i .i64 len):=rfl
def ahe(x y:O)(w bytes:Nat)(p:Bool):step V cl loc ⟨sl,H⟩ (.app x y w bytes p)=gO ⟨sl,H⟩ (bY H (x.ev loc sl) (y.ev loc sl) w bytes p):=rfl
def ahf(l c:O)(w bytes:Nat)(a:List D)(p:Bool):step V cl loc ⟨sl,H⟩ (.mks l c w bytes a p)=gO ⟨sl,H⟩ (oc H (l.ev loc sl) (c.ev loc sl) w bytes a p):=rfl
def ahg(w:Nat)(x:O)(lo hi a:Option O):step V cl loc ⟨sl,H⟩ (.sli false w x lo hi a)=aE ⟨sl,H⟩ (dY H w (x.ev loc sl) (lo.map (O.ev loc sl)) (hi.map (O.ev loc sl)) (a.map (O.ev loc sl))):=rfl
def ahh(x:O)(n w:Nat)(lo hi:Option O):step V cl loc ⟨sl,H⟩ (.sla x n w lo hi)=aE ⟨sl,H⟩ (rX H (x.ev loc sl) n w (lo.map (O.ev loc sl)) (hi.map (O.ev loc sl))):=rfl
def ahi(x a:O):step V cl loc ⟨sl,H⟩ (.ixs x a)=aE ⟨sl,H⟩ (rY (x.ev loc sl) (a.ev loc sl)):=rfl
def Gm(a:Bool):Option (List D)->Option D|some r=>val a r|none=>none
def ahj(a:Bool)(r:List D):Gm a (some r)=val a r:=rfl
def ahk(g:Nat)(a:O)(n:Nat)(w:Nat):step V cl loc ⟨sl,H⟩ (.gia g a n w)=aE ⟨sl,H⟩ (n9 (V.glob g) (a.ev loc sl) n w):=rfl
def ahl{g ix n w}:(aj.gia g ix n w).reads=[]:=rfl
def ahm{g ix n w}:(aj.gia g ix n w).writes=[]:=rfl
def ahn(x:O)(a:O)(n:Nat)(w:Nat)(b:Bool):step V cl loc ⟨sl,H⟩ (.ixa x a n w b)=aE ⟨sl,H⟩ (pT (x.ev loc sl) (a.ev loc sl) n w b):=rfl
def aho(a:List D)(w:Nat)(b:Bool):Option Nat->Option D|some j=>Gm b (eQ a (j*w) w)|none=>none
def ahp(a:List D)(w j:Nat)(b:Bool):aho a w b (some j)=Gm b (eQ a (j*w) w):=rfl
def ahq(x:O)(j:Nat):step V cl loc ⟨sl,H⟩ (.ext x j)=aE ⟨sl,H⟩ (uS (x.ev loc sl) j):=rfl
def ahr(vs:List D)(j:Nat):uS (.tu vs) j=vs[j]?:=rfl
def ahs(f:Fn)(a b:List O):step V cl loc ⟨sl,H⟩ (.mkf f a b)=.v (.fn f (a.map (O.ev loc sl)) (b.map (O.ev loc sl))) ⟨sl,H⟩:=rfl
def aht:step V cl loc ⟨sl,H⟩ .mkm=.v (.mp H.length) ⟨sl,H++[.mp []]⟩:=rfl
def ahu(a:KK)(m k:O)(b:Bool)(zero:D):step V cl loc ⟨sl,H⟩ (.lk a m k b zero)=aE ⟨sl,H⟩ (mY H a (m.ev loc sl) (k.ev loc sl) b zero):=rfl
def ahv(a:KK)(m k v:O):step V cl loc ⟨sl,H⟩ (.mup a m k v)=iO ⟨sl,H⟩ (oe H a (m.ev loc sl) (k.ev loc sl) (v.ev loc sl)):=rfl
def ahw(t:TypeId)(x:O):step V cl loc ⟨sl,H⟩ (.mki t x)=.v (.ifc t (x.ev loc sl)) ⟨sl,H⟩:=rfl
def ahx(x:O)(t:TypeId)(a:Bool)(zero:D):step V cl loc ⟨sl,H⟩ (.tas x t a zero)=aE ⟨sl,H⟩ (uT (x.ev loc sl) t a zero):=rfl
def ahy(x:O):step V cl loc ⟨sl,H⟩ (.nck x)=aE ⟨sl,H⟩ (n8 (x.ev loc sl)):=rfl
def ahz(b o:Nat):n8 (.hp b o)=some (.hp b o):=rfl
def ahA(a:Nat):n8 (.aa a)=some (.aa a):=rfl
def ahB(a:List D):n8 (.ip a)=some (.ip a):=rfl
def ahC(a n i o:Nat):n8 (.ap a n i o)=some (.ap a n i o):=rfl
def ahD(a:List O):step V cl loc ⟨sl,H⟩ (.mx a)=aE ⟨sl,H⟩ (jI rR (a.map (O.ev loc sl))):=rfl
def ahE(a:List O):step V cl loc ⟨sl,H⟩ (.mn a)=aE ⟨sl,H⟩ (jI rS (a.map (O.ev loc sl))):=rfl
def ahF(k:IntKind)(x y:Int):jI rR [.i k x,.i k y]=some (.i k (max x y)):=by grind[jI,uO,rR]
def ahG(k:IntKind)(x y:Int):jI rS [.i k x,.i k y]=some (.i k (min x y)):=by grind[jI,uO,rS]
def ahH(a:List D)(n:Nat):(D.ag a).cellsN n=if a.length=n then some a else none:=rfl
def ahI(l:List UInt8):(D.s l).cellsN 1=some [.s l]:=rfl
def ahJ(k:IntKind)(n:Int):(D.i k n).cellsN 1=some [.i k n]:=rfl
def ahK(x:Bool):(D.b x).cellsN 1=some [.b x]:=rfl
def ahL:D.nil.cellsN 1=some [.nil]:=rfl
def ahM:D.z.cellsN 1=some [.z]:=rfl
def ahN(w:Nat)(rows:List (List D)):(D.im w rows).cellsN 1=some [.im w rows]:=rfl
def ahO(w:Nat)(rows:List (List D)):(D.sv w rows).cellsN 1=some [.sv w rows]:=rfl
def ahP(a n b len:Nat):(D.mu a n b len).cellsN 1=some [.mu a n b len]:=rfl
def ahQ(b a:Nat):(D.hp b a).cellsN 1=some [.hp b a]:=rfl
def ahR(m:Nat):(D.mp m).cellsN 1=some [.mp m]:=rfl
def ahS(f:Fn)(a b:List D):(D.fn f a b).cellsN 1=some [.fn f a b]:=rfl
def ahT:D.np.cellsN 1=some [.np]:=rfl
def sA(a:List dc)(b:St):Option D->Option (List D)
 |some d=>match de b a with|some ds=>some (d::ds)|none=>none
 |none=>none
def R7(d:D):Option (List D)->Option (List D)|some ds=>some (d::ds)|none=>none
def ahU(a:St):de a []=some []:=rfl
def ahV(a:St)(r:dc)(b:List dc):de a (r::b)=sA b a (r.ev a):=by rw[de];cases r.ev a<;>rfl
def ahW(a:List dc)(b:St)(d:D):sA a b (some d)=R7 d (de b a):=by simp[sA];cases de b a<;>rfl
def ahX(d:D)(ds:List D):R7 d (some ds)=some (d::ds):=rfl
def ahY(k:Nat):dc.ev ⟨sl,H⟩ (.s k)=sl[k]?:=rfl
def R8(n:Nat)(b:Bool):Option D->Option D|some (.bx a)=>if a.length=n then val b a else none|_=>none
def ahZ(k n:Nat)(a:Bool):dc.ev ⟨sl,H⟩ (.bx k n a)=R8 n a sl[k]?:=by simp[dc.ev,eR];cases sl[k]? with|none=>rfl|some d=>cases d<;>rfl
def ah0(n:Nat)(b:Bool)(a:List D):R8 n b (some (.bx a))=if a.length=n then val b a else none:=rfl
def ah1(d:D):gm [d]=d:=rfl
def ah2(d e:D)(ds:List D):gm (d::e::ds)=.tu (d::e::ds):=rfl
end
end
section
variable(loc sl:List D)
def ah3(a:aj)(b:Bs):a.fits (some (b,false)) loc sl=a.reads.all λx=>(x.ev loc sl).under b:=rfl
def ah4(a:aj)(b:Bs):a.fits (some (b,true)) loc sl=((a.reads.all λx=>(x.ev loc sl).under b)&&a.writes.all λx=>(x.ev loc sl).over b):=rfl
def ah5{x}:(aj.mov x).reads=[]:=rfl
def ah6{x}:(aj.mov x).writes=[]:=rfl
def ah7{c}{a}{b}:(aj.pick c a b).reads=[]:=rfl
def ah8{c}{a}{b}:(aj.pick c a b).writes=[]:=rfl
def ah9{zs}:(aj.lal zs).reads=[]:=rfl
def aia{zs}:(aj.lal zs).writes=[]:=rfl
def aib{x}{n}:(aj.lbx x n).reads=[]:=rfl
def aic{x}{n}:(aj.lbx x n).writes=[]:=rfl
def aid{t}{zs}:(aj.hal t zs).reads=[]:=rfl
def aie{t}{zs}:(aj.hal t zs).writes=[]:=rfl
def aif{t}{x}{n}:(aj.hbx t x n).reads=[]:=rfl
def aig{t}{x}{n}:(aj.hbx t x n).writes=[]:=rfl
def aih{w}{zs}{p}:(aj.haa w zs p).reads=[]:=rfl
def aii{w}{zs}{p}:(aj.haa w zs p).writes=[]:=rfl
def aij{a}{o}:(aj.lfa a o).reads=[]:=rfl
def aik{a}{o}:(aj.lfa a o).writes=[]:=rfl
def ail{a}{n}{g}:(aj.lld a n g).reads=[]:=rfl
def aim{a}{n}{g}:(aj.lld a n g).writes=[]:=rfl
def ain{a}{x}{n}:(aj.lst a x n).reads=[]:=rfl
def aio{a}{x}{n}:(aj.lst a x n).writes=[]:=rfl
def aip{x}{o}:(aj.fad x o).reads=[]:=rfl
def aiq{x}{o}:(aj.fad x o).writes=[]:=rfl
def air{o}{x}{y}:(aj.bin o x y).reads=[]:=rfl
def ais{o}{x}{y}:(aj.bin o x y).writes=[]:=rfl
def ait{n}{k}{x}{y}:(aj.eqv n k x y).reads=[]:=rfl
def aiu{n}{k}{x}{y}:(aj.eqv n k x y).writes=[]:=rfl
def aiv{o}{x}:(aj.un o x).reads=[]:=rfl
def aiw{o}{x}:(aj.un o x).writes=[]:=rfl
def aix{k}{x}:(aj.cvi k x).reads=[]:=rfl
def aiy{k}{x}:(aj.cvi k x).writes=[]:=rfl
def aiz{zs}{ps}:(aj.agc zs ps).reads=[]:=rfl
def aiA{zs}{ps}:(aj.agc zs ps).writes=[]:=rfl
def aiB{w}{n}{zs}{ps}{p}:(aj.bsl w n zs ps p).reads=[]:=rfl
def aiC{w}{n}{zs}{ps}{p}:(aj.bsl w n zs ps p).writes=[]:=rfl
def aiD{w}{n}{zs}{ps}:(aj.bsv w n zs ps).reads=[]:=rfl
def aiE{w}{n}{zs}{ps}:(aj.bsv w n zs ps).writes=[]:=rfl
def aiF{l}{c}{w}{b}{zs}{p}:(aj.mks l c w b zs p).reads=[]:=rfl
def aiG{l}{c}{w}{b}{zs}{p}:(aj.mks l c w b zs p).writes=[]:=rfl
def aiH{x}{i}:(aj.ixs x i).reads=[]:=rfl
def aiI{x}{i}:(aj.ixs x i).writes=[]:=rfl
def aiJ:aj.stk.reads=[]:=rfl
def aiK:aj.stk.writes=[]:=rfl
def aiL{x ix}{n}{w}{g}:(aj.ixa x ix n w g).reads=[]:=rfl
def aiM{x ix}{n}{w}{g}:(aj.ixa x ix n w g).writes=[]:=rfl
def aiN{f}{l}:(aj.cpl f l).reads=[]:=rfl
def aiO{f}{l}:(aj.cpl f l).writes=[]:=rfl
def aiP{f}{l}:(aj.calx f l).reads=[]:=rfl
def aiQ{f}{l}:(aj.calx f l).writes=[]:=rfl
def aiR{x}{l}:(aj.calvx x l).reads=[]:=rfl
def aiS{x}{l}:(aj.calvx x l).writes=[]:=rfl
def aiT{f}{l}:(aj.callp f l).reads=[]:=rfl
def aiU{f}{l}:(aj.callp f l).writes=[]:=rfl
def aiV{x}{j}:(aj.ext x j).reads=[]:=rfl
def aiW{x}{j}:(aj.ext x j).writes=[]:=rfl
def aiX{f}{a}{b}:(aj.mkf f a b).reads=[]:=rfl
def aiY{f}{a}{b}:(aj.mkf f a b).writes=[]:=rfl
def aiZ:(aj.mkm).reads=[]:=rfl
def ai0:(aj.mkm).writes=[]:=rfl
def ai1{t}{x}:(aj.mki t x).reads=[]:=rfl
def ai2{t}{x}:(aj.mki t x).writes=[]:=rfl
def ai3{x}{t}{o}{q}:(aj.tas x t o q).reads=[]:=rfl
def ai4{x}{t}{o}{q}:(aj.tas x t o q).writes=[]:=rfl
def ai5{x}:(aj.nck x).reads=[]:=rfl
def ai6{x}:(aj.nck x).writes=[]:=rfl
def ai7{l}:(aj.mx l).reads=[]:=rfl
def ai8{l}:(aj.mx l).writes=[]:=rfl
def ai9{l}:(aj.mn l).reads=[]:=rfl
def aja{l}:(aj.mn l).writes=[]:=rfl
def ajb{f}{l}:(aj.call f l).reads=[]:=rfl
def ajc{f}{l}:(aj.call f l).writes=[]:=rfl
def ajd{x}{l}:(aj.calv x l).reads=[]:=rfl
def aje{x}{l}:(aj.calv x l).writes=[]:=rfl
def ajf{x}{m}{l}:(aj.inv x m l).reads=[]:=rfl
def ajg{x}{m}{l}:(aj.inv x m l).writes=[]:=rfl
def ajh{x}:(aj.pan x).reads=[]:=rfl
def aji{x}:(aj.pan x).writes=[]:=rfl
def ajj{x}{n}{g}:(aj.ld x n g).reads=[x]:=rfl
def ajk{x}{n}{g}:(aj.ldh x n g).reads=[]:=rfl
def ajl{x}{n}{g}:(aj.ldh x n g).writes=[]:=rfl
def ajm{x}{n}{g}:(aj.ld x n g).writes=[]:=rfl
def ajn{x}{i}{w}:(aj.iad x i w).reads=[x]:=rfl
def ajo{x}{i}{w}:(aj.iad x i w).writes=[]:=rfl
def ajp{x}{i}{n}{w}:(aj.iar x i n w).reads=[x]:=rfl
def ajq{x}{i}{n}{w}:(aj.iar x i n w).writes=[]:=rfl
def ajr{s}{w}{x}{a}{b}{c}:(aj.sli s w x a b c).reads=[x]:=rfl
def ajs{s}{w}{x}{a}{b}{c}:(aj.sli s w x a b c).writes=[]:=rfl
def ajt{x}{n}{w}{a}{b}:(aj.sla x n w a b).reads=[x]:=rfl
def aju{x}{n}{w}{a}{b}:(aj.sla x n w a b).writes=[]:=rfl
def ajv{kk}{x}{k}{o}{q}:(aj.lk kk x k o q).reads=[x]:=rfl
def ajw{kk}{x}{k}{o}{q}:(aj.lk kk x k o q).writes=[]:=rfl
def ajx{x}{v}{n}:(aj.st x v n).reads=[]:=rfl
def ajy{x}{v}{n}:(aj.st x v n).writes=[x]:=rfl
def ajz{x}{y}{w}{b}{p}:(aj.app x y w b p).reads=[]:=rfl
def ajA{x}{y}{w}{b}{p}:(aj.app x y w b p).writes=[x]:=rfl
def ajB{kk}{x}{k}{v}:(aj.mup kk x k v).reads=[]:=rfl
def ajC{kk}{x}{k}{v}:(aj.mup kk x k v).writes=[x]:=rfl
def ajD{x}:(aj.len 0 x).reads=[]:=rfl
def ajE{x}:(aj.len 1 x).reads=[]:=rfl
def ajF{x}:(aj.len 2 x).reads=[x]:=rfl
def ajG{k x}:(aj.len k x).writes=[]:=rfl
def ajH(b:Bs):D.under b .nil=true:=rfl
def ajI(b:Bs):D.under b .z=true:=rfl
def ajJ(b:Bs):D.under b .np=true:=rfl
def ajK(b:Bs):D.under b .mnil=true:=rfl
def ajL(b:Bs):D.under b .nf=true:=rfl
def ajM(b:Bs):D.under b .ni=true:=rfl
def ajN(b:Bs):D.under b .u=true:=rfl
def ajO(b:Bs)(w:Nat)(r):D.under b (.im w r)=true:=rfl
def ajP(b:Bs)(w:Nat)(r):D.under b (.sv w r)=true:=rfl
def ajQ(b:Bs)(r):D.under b (.ip r)=true:=rfl
def ajR(b:Bs)(r):D.under b (.s r)=true:=rfl
def ajS(b a o:Nat):D.under (b,[]) (.hp a o)=decide (a<b):=by simp[D.under,Bs.un]
def ajT(b a n o l:Nat):D.under (b,[]) (.mu a n o l)=decide (a<b):=by simp[D.under,Bs.un]
def ajU(b a n o l:Nat):D.under (b,[]) (.ap a n o l)=decide (a<b):=by simp[D.under,Bs.un]
def ajV(b a:Nat):D.under (b,[]) (.mp a)=decide (a<b):=by simp[D.under,Bs.un]
def ajW(b:Bs):D.over b .nil=true:=rfl
theorem Sl.under{w:Nat}{rows:List (List D)}{x:D}(h:Sl w rows x)(b:Bs):x.under b=true:=by cases h<;>rfl
end
end
section
def uu:Nat->List D|0=>[]|n+1=>.u::uu n
@[go_sem]def azQ:uu 0=[]:=rfl
@[go_sem]def azR{n:Nat}:uu (n+1)=.u::uu n:=rfl
theorem xY:∀n,List.replicate n D.u=uu n|0=>rfl|n+1=>by rw[ABB,xY n];rfl
def ak(V:aw)(c:aR)(a:St)(Q:Ex->St->Prop):Prop:=∃n,(aC V (call V n) n c a).1≠.bad/\Q (aC V (call V n) n c a).1 (aC V (call V n) n c a).2
def fC(V:aw)(dr:Option (Bs×Bool))(os:List aq)(loc:List D)(a:St)(Q:Ex->St->Prop):Prop:=∃n,(ops V (call V n) dr os loc a).1≠.bad/\Q (ops V (call V n) dr os loc a).1 (ops V (call V n) dr os loc a).2
def ac(V:aw)(f:FuncId)(args:List D)(H:ab)(K:CR->Prop):Prop:=∃n,call V n f args H≠.bad/\K (call V n f args H)
def kK(V:aw)(b:aR)(Q:Ex->St->Prop):Ex->St->Prop|.nm,s=>ak V b s Q|.ex id,s=>Q (.ex id) s|.rt,s=>Q .rt s|.pn d,s=>Q (.pn d) s|.bad,_=>False
def lG(id:Nat)(Q:Ex->St->Prop):Ex->St->Prop|.ex a,s=>if a=id then Q .nm s else Q (.ex a) s|.nm,s=>Q .nm s|.rt,s=>Q .rt s|.pn d,s=>Q (.pn d) s|.bad,_=>False
def xZ(V:aw)(c:aR)(Q:Ex->St->Prop):Ex->St->Prop|.nm,s=>ak V (.loop c) s Q|.ex id,s=>Q (.ex id) s|.rt,s=>Q .rt s|.pn d,s=>Q (.pn d) s|.bad,_=>False
def x7(V:aw)(a b:aR)(c:St)(Q:Ex->St->Prop):D->Prop|.b true=>ak V a c Q|.b false=>ak V b c Q|_=>False
def vu:Option Bool->Prop->Prop->Prop|some true,A,_=>A|some false,_,B=>B|none,_,_=>False
def Gn(dr:Option (Bs×Bool))(sl:List D)(Q:Ex->St->Prop)(d:D)(H:ab):Prop:=match dr with|none=>Q (.pn d) ⟨sl,H⟩|some _=>False
def aI(V:aw)(dr:Option (Bs×Bool))(os:List aq)(keep:Option Nat)(loc sl:List D)(Q:Ex->St->Prop):R->Prop|.v d a=>fC V dr os (loc++[d]) ⟨eS a.sl keep d,a.hp⟩ Q|.p d b=>Gn dr sl Q d b|.bad=>False
def qt(V:aw)(dr:Option (Bs×Bool))(os:List aq)(keep:Option Nat)(loc sl:List D)(Q:Ex->St->Prop):CR->Prop|.ret d a=>fC V dr os (loc++[d]) ⟨eS sl keep d,a⟩ Q|.pan d a=>Gn dr sl Q d a|.bad=>False
def R9(V:aw)(dr:Option (Bs×Bool))(os:List aq)(keep:Option Nat)(loc sl:List D)(Q:Ex->St->Prop):R->Prop|.v d a=>fC V dr os (loc++[d]) ⟨eS a.sl keep d,a.hp⟩ Q|.p d b=>Q (.pn d) ⟨sl,b⟩|.bad=>False
def Gp(V:aw)(dr:Option (Bs×Bool))(os:List aq)(keep:Option Nat)(loc sl:List D)(Q:Ex->St->Prop):CR->Prop|.ret d a=>fC V dr os (loc++[d]) ⟨eS sl keep d,a⟩ Q|.pan d a=>Q (.pn d) ⟨sl,a⟩|.bad=>False
def vv(V:aw)(dr:Option (Bs×Bool))(os:List aq)(keep:Option Nat)(loc sl:List D)(Q:Ex->St->Prop):aj->R->Prop|.callp _ _=>R9 V dr os keep loc sl Q|_=>aI V dr os keep loc sl Q
def ajX{V:aw}{dr:Option (Bs×Bool)}{os:List aq}{keep:Option Nat}{loc sl:List D}{Q:Ex->St->Prop}{op:aj}(h:op.pans=false):vv V dr os keep loc sl Q op=aI V dr os keep loc sl Q:=by cases op<;>first|rfl|cases h
variable{x:St}
def Sa{V:aw}{dr:Option (Bs×Bool)}{os:List aq}{keep:Option Nat}{loc sl:List D}{Q:Ex->St->Prop}{op:aj}{d:D}:vv V dr os keep loc sl Q op (.v d x)↔fC V dr os (loc++[d]) ⟨eS x.sl keep d,x.hp⟩ Q:=by cases op<;>rfl
theorem ajY{V:aw}{dr:Option (Bs×Bool)}{os:List aq}{keep:Option Nat}{loc sl:List D}{Q:Ex->St->Prop}{op:aj}:¬vv V dr os keep loc sl Q op .bad:=by cases op<;>exact id
variable{e:ab}
def Sc{V:aw}{dr:Option (Bs×Bool)}{os:List aq}{keep:Option Nat}{loc sl:List D}{Q:Ex->St->Prop}{op:aj}{d:D}:vv V dr os keep loc sl Q op (.p d e)↔(dr.isNone||op.pans)=true/\Q (.pn d) ⟨sl,e⟩:=by cases op<;>cases dr<;>simp[vv,aI,R9,Gn,aj.pans]
def aY(V:aw)(dr:Option (Bs×Bool))(os:List aq)(keep:Option Nat)(loc:List D)(a:St)(Q:Ex->St->Prop)(op:aj):Prop:=∃n,vv V dr os keep loc a.sl Q op (step V (call V n) loc a op)
section
variable{V:aw}{Q:Ex->St->Prop}
variable{y z:Nat}
theorem x8{n:Nat}{c:aR}(a:n<=y)(h:(aC V (call V n) n c x).1≠.bad):aC V (call V y) y c x=aC V (call V n) n c x:=by grind[p7,se]
theorem ajZ{n:Nat}{dr:Option (Bs×Bool)}{os:List aq}{loc:List D}(a:n<=y)(h:(ops V (call V n) dr os loc x).1≠.bad):ops V (call V y) dr os loc x=ops V (call V n) dr os loc x:=by grind[xH,se]
theorem Sd{n:Nat}{f:FuncId}{args:List D}{H:ab}(a:n<=y)(h:call V n f args H≠.bad):call V y f args H=call V n f args H:=se V n y a _ _ _ h
def ak.mono{c:aR}{a:Ex->St->Prop}(h:ak V c x Q)(d:∀b s,Q b s->a b s):ak V c x a:=let⟨n,e,f⟩:=h;⟨n,e,d _ _ f⟩
def ac.mono{f:FuncId}{args:List D}{H:ab}{K a:CR->Prop}(h:ac V f args H K)(b:∀r,K r->a r):ac V f args H a:=let⟨n,c,d⟩:=h;⟨n,c,b _ d⟩
@[go_sem]def azS:ak V .skip x Q↔Q .nm x:=⟨λ⟨_,_,h⟩=>h,λh=>⟨0,nofun,h⟩⟩
@[go_sem]def azT:ak V .ret x Q↔Q .rt x:=⟨λ⟨_,_,h⟩=>h,λh=>⟨0,nofun,h⟩⟩
@[go_sem]def azU:ak V (.exit y) x Q↔Q (.ex y) x:=⟨λ⟨_,_,h⟩=>h,λh=>⟨0,nofun,h⟩⟩
@[go_sem]def azV{os:List aq}:ak V (.reg os none) x Q↔fC V none os [] x Q:=W0
@[go_sem]def azW{sl:List D}{H:ab}{os:List aq}:ak V (.reg os (some false)) ⟨sl,H⟩ Q↔fC V (some ((H.length,[]),false)) os [] ⟨sl,H⟩ Q:=W0
@[go_sem]def azX{sl:List D}{H:ab}{os:List aq}:ak V (.reg os (some true)) ⟨sl,H⟩ Q↔fC V (some ((H.length,xB os sl),true)) os [] ⟨sl,H⟩ Q:=W0
def mh(Q:Ex->St->Prop):List Nat->Ex->St->Prop
 |[],.nm,a=>Q .nm a|k::b,.nm,a=>match a.sl[k]? with|some (.bx c)=>mh Q b .nm ⟨a.sl.set k (.hp a.hp.length 0),a.hp++[.hb 0 c]⟩|_=>False
 |_,_,_=>False
def Se:∀(b:List Nat)(a:St),mh Q b .nm a↔(oi b a).1≠.bad/\Q (oi b a).1 (oi b a).2|[],a=>by simp[mh,oi]|k::b,a=>by simp only[mh,oi,eR];cases a.sl[k]? with|none=>simp|some d=>cases d<;>first|exact Se b _|simp
variable{i:List Nat}
@[go_sem]def azY{sl:List D}{H:ab}{os:List aq}:ak V (.hrg os i) ⟨sl,H⟩ Q↔fC V (some ((H.length,[]),false)) os [] ⟨oh i sl,H⟩ (mh Q i):=by unfold ak fC;refine exists_congr λn=>?_;simp only[aC];generalize ops V _ _ os [] _=q;obtain⟨a,s⟩:=q;cases a<;>simp[AI,Se,mh];all_goals cases i<;>simp[mh]
@[go_sem]def azZ{sl:List D}:oh [] sl=sl:=rfl
@[go_sem]def az0{k:Nat}{sl:List D}:oh (k::i) sl=(oh i sl).set k .u:=rfl
@[go_sem]def az1:mh Q [] .nm x↔Q .nm x:=W0
def Sf(Q:Ex->St->Prop)(k:Nat)(a:List Nat)(sl:List D)(H:ab):Option D->Prop|some (.bx b)=>mh Q a .nm ⟨sl.set k (.hp H.length 0),H++[.hb 0 b]⟩|_=>False
@[go_sem]def az2{k:Nat}{sl:List D}{H:ab}:mh Q (k::i) .nm ⟨sl,H⟩↔Sf Q k i sl H sl[k]?:=W0
variable{a:List D}
@[go_sem]def az3{k:Nat}{sl:List D}{H:ab}:Sf Q k i sl H (some (.bx a))↔mh Q i .nm ⟨sl.set k (.hp H.length 0),H++[.hb 0 a]⟩:=W0
@[go_sem]def az4{a b:aR}:ak V (.seq a b) x Q↔ak V a x (kK V b Q):=by
 constructor;·rintro⟨n,d,c⟩;simp only[aC]at d c;refine⟨n,?_⟩;cases e:aC V _ n a x with|mk f s=>rw[e]at d c;cases f with|nm=>exact⟨nofun,n,d,c⟩|bad=>grind|_=>exact⟨nofun,c⟩
 rintro⟨n,d,c⟩;cases e:aC V _ n a x with|mk f s=>rw[e]at d c;cases f with|nm=>obtain⟨m,g,h⟩:=c;refine⟨max n m,?_⟩;grind[aC,x8]|bad=>grind|_=>refine⟨n,?_⟩;simp only[aC];rw[e];exact⟨nofun,c⟩
@[go_sem]def az5{d:St}{c:O}{a b:aR}:ak V (.cond c a b) d Q↔x7 V a b d Q (c.ev [] d.sl):=by unfold ak;simp only[aC];generalize c.ev [] d.sl=q;cases q with|b x=>cases x<;>exact W0|_=>exact⟨λ⟨_,h,_⟩=>absurd rfl h,λh=>h.elim⟩
@[go_sem]theorem vz{c:aR}:ak V (.block y c) x Q↔ak V c x (lG y Q):=by unfold ak;simp only[aC];refine exists_congr λn=>?_;generalize aC V _ n c x=q;obtain⟨a,s⟩:=q;cases a<;>grind[lG]
def bJ{c:aR}:ak V (.loop c) x Q↔ak V c x (xZ V c Q):=by
 constructor;·rintro⟨n,b,a⟩;simp only[aC]at b a;cases n with|zero=>exact absurd rfl b|succ m=>simp only[jd]at b a;refine⟨m+1,?_⟩;cases d:aC V _ _ c x with|mk e s=>rw[d]at b a;cases e with|nm=>have f:jd _ (m+1) s=jd _ m s:=AT (λ_ _=>rfl) _ _ _ (Nat.le_succ m) b;refine⟨nofun,m+1,?_⟩;grind[aC]|bad=>grind|_=>exact⟨nofun,a⟩
 rintro⟨n,b,a⟩;cases d:aC V _ n c x with|mk e s=>
 rw[d]at b a;have g:(aC V (call V n) n c x).1≠.bad:=by grind
 cases e with|nm=>obtain⟨m,f,i⟩:=a;refine⟨max n m+1,?_⟩;grind[aC,x8,jd,AT]|bad=>grind|_=>refine⟨n+1,?_⟩;have h:aC V _ (n+1) c x=_:=x8 (by omega) g;simp only[aC,jd,h,d];exact⟨nofun,a⟩
@[go_sem]def az6{b:aR}:kK V b Q .nm x↔ak V b x Q:=W0
@[go_sem]def az7{b:aR}:kK V b Q (.ex y) x↔Q (.ex y) x:=W0
@[go_sem]def az8{b:aR}:kK V b Q .rt x↔Q .rt x:=W0
@[go_sem]def az9{b:aR}{d:D}:kK V b Q (.pn d) x↔Q (.pn d) x:=W0
@[go_sem]def aAa:lG y Q .nm x↔Q .nm x:=W0
@[go_sem]def aAb:lG y Q (.ex z) x↔if z=y then Q .nm x else Q (.ex z) x:=W0
@[go_sem]def aAc:lG y Q .rt x↔Q .rt x:=W0
@[go_sem]def aAd{d:D}:lG y Q (.pn d) x↔Q (.pn d) x:=W0
@[go_sem]def aAe{c:aR}:xZ V c Q .nm x↔ak V (.loop c) x Q:=W0
@[go_sem]def aAf{c:aR}:xZ V c Q (.ex y) x↔Q (.ex y) x:=W0
@[go_sem]def aAg{c:aR}:xZ V c Q .rt x↔Q .rt x:=W0
@[go_sem]def aAh{c:aR}{d:D}:xZ V c Q (.pn d) x↔Q (.pn d) x:=W0
@[go_sem low]def aAi{a b:aR}{c:St}{x:Bool}:x7 V a b c Q (.b x)↔(x=true->ak V a c Q)/\(x=false->ak V b c Q):=by cases x<;>simp[x7]
@[go_sem]def aAj{dr:Option (Bs×Bool)}{os:List aq}{keep:Option Nat}{loc sl:List D}{H:ab}{d:D}:aI V dr os keep loc sl Q (.v d ⟨a,H⟩)↔fC V dr os (loc++[d]) ⟨eS a keep d,H⟩ Q:=W0
@[go_sem]def aAk{os:List aq}{keep:Option Nat}{loc sl:List D}{H:ab}{d:D}:aI V none os keep loc sl Q (.p d H)↔Q (.pn d) ⟨sl,H⟩:=W0
@[go_sem]def aAl{dr:Option (Bs×Bool)}{os:List aq}{keep:Option Nat}{loc sl:List D}{H:ab}{d:D}:qt V dr os keep loc sl Q (.ret d H)↔fC V dr os (loc++[d]) ⟨eS sl keep d,H⟩ Q:=W0
@[go_sem]def aAm{os:List aq}{keep:Option Nat}{loc sl:List D}{H:ab}{d:D}:qt V none os keep loc sl Q (.pan d H)↔Q (.pn d) ⟨sl,H⟩:=W0
@[go_sem]def aAn{dr:Option (Bs×Bool)}{loc:List D}:fC V dr [] loc x Q↔Q .nm x:=⟨λ⟨_,_,h⟩=>h,λh=>⟨0,nofun,h⟩⟩
def Sg{dr:Option (Bs×Bool)}{o:aq}{os:List aq}{loc:List D}:fC V dr (o::os) loc x Q↔vu (o.wants loc x.sl) (o.op.fits dr loc x.sl=true/\aY V dr os o.keep loc x Q o.op) (fC V dr os (loc++[.u]) ⟨eS x.sl o.keep .u,x.hp⟩ Q):=by unfold fC;cases a:o.wants loc x.sl with|none=>grind[vu,ops]|some r=>cases r with|false=>grind[vu,ops]|true=>simp only[vu];cases b:o.op.fits dr loc x.sl with|false=>grind[ops]|true=>
 simp only[true_and];constructor;·rintro⟨n,h⟩;refine⟨n,?_⟩;rw[ops,a]at h;simp only[b]at h;cases hs:step V _ loc x o.op with|v d st1=>rw[hs]at h;exact Sa.2 ⟨n,h⟩|p d c=>rw[hs]at h;refine Sc.2 ?_;grind|bad=>grind
 rintro⟨n,h⟩;cases hs:step V _ loc x o.op with|v d st1=>rw[hs]at h;obtain⟨m,e,f⟩:=Sa.1 h;grind[ops,Fo,se,ajZ]|p d c=>rw[hs]at h;obtain⟨e,f⟩:=Sc.1 h;grind[ops]|bad=>grind[ajY]
def gV(V:aw)(dr:Option (Bs×Bool))(op:aj)(keep:Option Nat)(os:List aq)(loc sl:List D)(H:ab)(Q:Ex->St->Prop):Bool->Prop|true=>op.fits dr loc sl=true/\aY V dr os keep loc ⟨sl,H⟩ Q op|false=>fC V dr os (loc++[.u]) ⟨eS sl keep .u,H⟩ Q
def qw(V:aw)(dr:Option (Bs×Bool))(op:aj)(keep:Option Nat)(w:Bool)(os:List aq)(loc:List D)(j:Nat)(sl:List D)(H:ab)(Q:Ex->St->Prop):D->Prop|.b x=>(x=true->gV V dr op keep os (loc.set j (.b true)) sl H Q w)/\(x=false->gV V dr op keep os (loc.set j (.b false)) sl H Q (!w))|.u=>gV V dr op keep os loc sl H Q false|_=>False
def Sh(V:aw)(dr:Option (Bs×Bool))(op:aj)(keep:Option Nat)(w:Bool)(os:List aq)(loc:List D)(k:Nat)(sl:List D)(H:ab)(Q:Ex->St->Prop):D->Prop|.b x=>(x=true->gV V dr op keep os loc (sl.set k (.b true)) H Q w)/\(x=false->gV V dr op keep os loc (sl.set k (.b false)) H Q (!w))|.u=>gV V dr op keep os loc sl H Q false|_=>False
def aj0{l:List D}{j:Nat}{d:D}(h:l.getD j .u=d)(a:d≠.u):l.set j d=l:=by
 subst h;by_cases b:j<l.length;·rw[n0,Hk b];simp
 exfalso;apply a;rw[n0,AA1 (by omega)];rfl
section
variable{dr:Option (Bs×Bool)}{op:aj}{keep:Option Nat}{w:Bool}{os:List aq}{loc:List D}{j:Nat}{sl:List D}{H:ab}
@[go_sem]def aAo:gV V dr op keep os loc sl H Q true↔op.fits dr loc sl=true/\aY V dr os keep loc ⟨sl,H⟩ Q op:=W0
@[go_sem]def aAp:gV V dr op keep os loc sl H Q false↔fC V dr os (loc++[.u]) ⟨eS sl keep .u,H⟩ Q:=W0
@[go_sem]def aAq:fC V dr (⟨op,keep,none⟩::os) loc ⟨sl,H⟩ Q↔op.fits dr loc sl=true/\aY V dr os keep loc ⟨sl,H⟩ Q op:=by rw[Sg];exact W0
def aj1{x:O}:fC V dr (⟨op,keep,some (x,w)⟩::os) loc ⟨sl,H⟩ Q↔vu (Gf w (x.ev loc sl)) (gV V dr op keep os loc sl H Q true) (gV V dr op keep os loc sl H Q false):=by rw[Sg,afP];exact W0
@[go_sem]def aAr:fC V dr (⟨op,keep,some (.l j,w)⟩::os) loc ⟨sl,H⟩ Q↔qw V dr op keep w os loc j sl H Q (loc.getD j .u):=by rw[aj1,RW];generalize a:loc.getD j .u=d;cases d with|b x=>have hs:=aj0 a nofun;cases x<;>cases w<;>simp[qw,Gf,vu,hs]|u=>exact W0|_=>exact W0
@[go_sem high]def aAs:qw V dr op keep w os loc j sl H Q (.b true)↔gV V dr op keep os (loc.set j (.b true)) sl H Q w:=by simp[qw]
@[go_sem high]def aAt:qw V dr op keep w os loc j sl H Q (.b false)↔gV V dr op keep os (loc.set j (.b false)) sl H Q (!w):=by simp[qw]
@[go_sem]def aAu:qw V dr op keep w os loc j sl H Q .u↔gV V dr op keep os loc sl H Q false:=W0
@[go_sem low]def aAv{x:Bool}:qw V dr op keep w os loc j sl H Q (.b x)↔(x=true->gV V dr op keep os (loc.set j (.b true)) sl H Q w)/\(x=false->gV V dr op keep os (loc.set j (.b false)) sl H Q (!w)):=W0
@[go_sem]def aAw:Sh V dr op keep w os loc j sl H Q .u↔gV V dr op keep os loc sl H Q false:=W0
@[go_sem low]def aAx{x:Bool}:Sh V dr op keep w os loc j sl H Q (.b x)↔(x=true->gV V dr op keep os loc (sl.set j (.b true)) H Q w)/\(x=false->gV V dr op keep os loc (sl.set j (.b false)) H Q (!w)):=W0
@[go_sem high]def aAy{a b:aR}:x7 V a b x Q (.b true)↔ak V a x Q:=W0
@[go_sem high]def aAz{a b:aR}:x7 V a b x Q (.b false)↔ak V b x Q:=W0
end
end
def ya:FuncId->List D->ab->CR:=λ_ _ _=>.bad
def aj.isCall:aj->Bool|.call _ _|.calv _ _|.inv _ _ _|.cpl _ _|.calx _ _|.calvx _ _|.callp _ _=>true|_=>false
section
variable{V:aw}{Q:Ex->St->Prop}{dr:Option (Bs×Bool)}{os:List aq}{keep:Option Nat}{loc sl:List D}{H:ab}
def bX{op:aj}(h:op.isCall=false):aY V dr os keep loc x Q op↔aI V dr os keep loc x.sl Q (step V ya loc x op):=by
 have hs:∀a,step V a loc x op=step V ya loc x op:=λa=>by cases op<;>first|rfl|cases h
 unfold aY;rw[ajX (by cases op<;>first|rfl|cases h)];simp_all
@[go_sem]def aAA{x:O}:aY V dr os keep loc ⟨sl,H⟩ Q (.mov x)↔aI V dr os keep loc sl Q (.v (x.ev loc sl) ⟨sl,H⟩):=by rw[bX rfl,af1]
@[go_sem]def aAB{c a b:O}:aY V dr os keep loc ⟨sl,H⟩ Q (.pick c a b)↔aI V dr os keep loc sl Q (aE ⟨sl,H⟩ (uQ (c.ev loc sl) (a.ev loc sl) (b.ev loc sl))):=by rw[bX rfl,af2]
variable{a:List D}
@[go_sem]def aAC:aY V dr os keep loc ⟨sl,H⟩ Q (.lal a)↔aI V dr os keep loc sl Q (.v (.bx a) ⟨sl,H⟩):=by rw[bX rfl,af5]
@[go_sem]def aAD{x:O}{n:Nat}:aY V dr os keep loc ⟨sl,H⟩ Q (.lbx x n)↔aI V dr os keep loc sl Q (aE ⟨sl,H⟩ (((x.ev loc sl).cellsN n).map .bx)):=by rw[bX rfl,af6]
@[go_sem]def aAE{t:Nat}:aY V dr os keep loc ⟨sl,H⟩ Q (.hal t a)↔aI V dr os keep loc sl Q (.v (.hp H.length 0) ⟨sl,H++[.hb t a]⟩):=by rw[bX rfl,af7]
@[go_sem]def aAF{t:Nat}{x:O}{n:Nat}:aY V dr os keep loc ⟨sl,H⟩ Q (.hbx t x n)↔aI V dr os keep loc sl Q (gO ⟨sl,H⟩ (((x.ev loc sl).cellsN n).map λa=>(.hp H.length 0,H++[.hb t a]))):=by rw[bX rfl,af8]
variable{c:List (List D)}
@[go_sem]def aAG{w:Nat}{p:Bool}:aY V dr os keep loc ⟨sl,H⟩ Q (.haa w c p)↔aI V dr os keep loc sl Q (.v (.aa H.length) ⟨sl,H++[.ar w c (some c.length) p false]⟩):=by rw[bX rfl,af9]
variable{y z:Nat}
@[go_sem]def aAH{a:AB}:aY V dr os keep loc ⟨sl,H⟩ Q (.lfa a y)↔aI V dr os keep loc sl Q (Gh ⟨sl,H⟩ y (a.ev loc sl)):=by rw[bX rfl,aga]
variable{f:Bool}
@[go_sem]def aAI{a:AB}{n:Nat}:aY V dr os keep loc ⟨sl,H⟩ Q (.lld a n f)↔aI V dr os keep loc sl Q (Bm ⟨sl,H⟩ n f (a.ev loc sl)):=by rw[bX rfl,agh]
@[go_sem]def aAJ{a:AB}{x:O}{n:Nat}:aY V dr os keep loc ⟨sl,H⟩ Q (.lst a x n)↔aI V dr os keep loc sl Q (xX sl H (a.ev loc sl) ((x.ev loc sl).cellsN n)):=by rw[bX rfl,agl]
@[go_sem]def aAK{x:O}:aY V dr os keep loc ⟨sl,H⟩ Q (.fad x y)↔aI V dr os keep loc sl Q (aE ⟨sl,H⟩ (n7 (x.ev loc sl) y)):=by rw[bX rfl,agp]
variable{g:O}
@[go_sem]def aAL{x:O}{w:Nat}:aY V dr os keep loc ⟨sl,H⟩ Q (.iad x g w)↔aI V dr os keep loc sl Q (aE ⟨sl,H⟩ (cG H (x.ev loc sl) (g.ev loc sl) w)):=by rw[bX rfl,agt]
@[go_sem]def aAM{x:O}{n w:Nat}:aY V dr os keep loc ⟨sl,H⟩ Q (.iar x g n w)↔aI V dr os keep loc sl Q (aE ⟨sl,H⟩ (mX H (x.ev loc sl) (g.ev loc sl) n w)):=by rw[bX rfl,agu]
@[go_sem]def aAN{x:O}{n:Nat}:aY V dr os keep loc ⟨sl,H⟩ Q (.ld x n f)↔aI V dr os keep loc sl Q (mg ⟨sl,H⟩ f (cT H (x.ev loc sl) n)):=by rw[bX rfl,agv]
@[go_sem]def aAO{x:O}{n:Nat}:aY V dr os keep loc ⟨sl,H⟩ Q (.ldh x n f)↔aI V dr os keep loc sl Q (mg ⟨sl,H⟩ f (lD H (x.ev loc sl) n)):=by rw[bX rfl,agw]
@[go_sem]def aAP{x v:O}{n:Nat}:aY V dr os keep loc ⟨sl,H⟩ Q (.st x v n)↔aI V dr os keep loc sl Q (Gk sl H (x.ev loc sl) ((v.ev loc sl).cellsN n)):=by rw[bX rfl,agE]
@[go_sem]def aAQ{op:BinOp}{x y:O}:aY V dr os keep loc ⟨sl,H⟩ Q (.bin op x y)↔aI V dr os keep loc sl Q (aE ⟨sl,H⟩ (bin op (x.ev loc sl) (y.ev loc sl))):=by rw[bX rfl,agG]
@[go_sem]def aAR{k:EK}{x y:O}:aY V dr os keep loc ⟨sl,H⟩ Q (.eqv f k x y)↔aI V dr os keep loc sl Q (aE ⟨sl,H⟩ (ej f k (x.ev loc sl) (y.ev loc sl))):=by rw[bX rfl,agS]
@[go_sem]def aAS{op:UnOp}{x:O}:aY V dr os keep loc ⟨sl,H⟩ Q (.un op x)↔aI V dr os keep loc sl Q (aE ⟨sl,H⟩ (un op (x.ev loc sl))):=by rw[bX rfl,agU]
@[go_sem]def aAT{k:IntKind}{x:O}:aY V dr os keep loc ⟨sl,H⟩ Q (.cvi k x)↔aI V dr os keep loc sl Q (aE ⟨sl,H⟩ (uR k (x.ev loc sl))):=by rw[bX rfl,agX]
@[go_sem]def aAU{b:List (Nat×Nat×O)}:aY V dr os keep loc ⟨sl,H⟩ Q (.agc a b)↔aI V dr os keep loc sl Q (aE ⟨sl,H⟩ ((jF a (b.map λp=>(p.1,p.2.1,p.2.2.ev loc sl))).map .ag)):=by rw[bX rfl,ag0]
variable{l:List (Nat×O)}
@[go_sem]def aAV{w n:Nat}{p:Bool}:aY V dr os keep loc ⟨sl,H⟩ Q (.bsl w n a l p)↔aI V dr os keep loc sl Q (gO ⟨sl,H⟩ (ob H w n a (l.map λq=>(q.1,q.2.ev loc sl)) p)):=by rw[bX rfl,ag5]
@[go_sem]def aAW{w n:Nat}:aY V dr os keep loc ⟨sl,H⟩ Q (.bsv w n a l)↔aI V dr os keep loc sl Q (aE ⟨sl,H⟩ (pU w n a (l.map λq=>(q.1,q.2.ev loc sl)))):=by rw[bX rfl,ag6]
@[go_sem]def aAX{k:Nat}{x:O}:aY V dr os keep loc ⟨sl,H⟩ Q (.len k x)↔aI V dr os keep loc sl Q (aE ⟨sl,H⟩ (dS H k (x.ev loc sl))):=by rw[bX rfl,ag7]
@[go_sem]def aAY{x y:O}{w bytes:Nat}{p:Bool}:aY V dr os keep loc ⟨sl,H⟩ Q (.app x y w bytes p)↔aI V dr os keep loc sl Q (gO ⟨sl,H⟩ (bY H (x.ev loc sl) (y.ev loc sl) w bytes p)):=by rw[bX rfl,ahe]
@[go_sem]def aAZ{l c:O}{w bytes:Nat}{p:Bool}:aY V dr os keep loc ⟨sl,H⟩ Q (.mks l c w bytes a p)↔aI V dr os keep loc sl Q (gO ⟨sl,H⟩ (oc H (l.ev loc sl) (c.ev loc sl) w bytes a p)):=by rw[bX rfl,ahf]
@[go_sem]def aA0{w:Nat}{x:O}{lo hi a:Option O}:aY V dr os keep loc ⟨sl,H⟩ Q (.sli false w x lo hi a)↔aI V dr os keep loc sl Q (aE ⟨sl,H⟩ (dY H w (x.ev loc sl) (lo.map (O.ev loc sl)) (hi.map (O.ev loc sl)) (a.map (O.ev loc sl)))):=by rw[bX rfl,ahg]
@[go_sem]def aA1{x:O}{n w:Nat}{lo hi:Option O}:aY V dr os keep loc ⟨sl,H⟩ Q (.sla x n w lo hi)↔aI V dr os keep loc sl Q (aE ⟨sl,H⟩ (rX H (x.ev loc sl) n w (lo.map (O.ev loc sl)) (hi.map (O.ev loc sl)))):=by rw[bX rfl,ahh]
@[go_sem]def aA2{x:O}:aY V dr os keep loc ⟨sl,H⟩ Q (.ixs x g)↔aI V dr os keep loc sl Q (aE ⟨sl,H⟩ (rY (x.ev loc sl) (g.ev loc sl))):=by rw[bX rfl,ahi]
@[go_sem]def aA3{g:Nat}{a:O}{n:Nat}{w:Nat}:aY V dr os keep loc ⟨sl,H⟩ Q (.gia g a n w)↔aI V dr os keep loc sl Q (aE ⟨sl,H⟩ (n9 (V.glob g) (a.ev loc sl) n w)):=by rw[bX rfl,ahk]
@[go_sem]def aA4{x:O}{n:Nat}{w:Nat}:aY V dr os keep loc ⟨sl,H⟩ Q (.ixa x g n w f)↔aI V dr os keep loc sl Q (aE ⟨sl,H⟩ (pT (x.ev loc sl) (g.ev loc sl) n w f)):=by rw[bX rfl,ahn]
@[go_sem]def aA5{x:O}{j:Nat}:aY V dr os keep loc ⟨sl,H⟩ Q (.ext x j)↔aI V dr os keep loc sl Q (aE ⟨sl,H⟩ (uS (x.ev loc sl) j)):=by rw[bX rfl,ahq]
@[go_sem]def aA6{f:Fn}{a b:List O}:aY V dr os keep loc ⟨sl,H⟩ Q (.mkf f a b)↔aI V dr os keep loc sl Q (.v (.fn f (a.map (O.ev loc sl)) (b.map (O.ev loc sl))) ⟨sl,H⟩):=by rw[bX rfl,ahs]
@[go_sem]def aA7:aY V dr os keep loc ⟨sl,H⟩ Q .mkm↔aI V dr os keep loc sl Q (.v (.mp H.length) ⟨sl,H++[.mp []]⟩):=by rw[bX rfl,aht]
@[go_sem]def aA8{a:KK}{k:O}{zero:D}:aY V dr os keep loc ⟨sl,H⟩ Q (.lk a g k f zero)↔aI V dr os keep loc sl Q (aE ⟨sl,H⟩ (mY H a (g.ev loc sl) (k.ev loc sl) f zero)):=by rw[bX rfl,ahu]
@[go_sem]def aA9{a:KK}{k v:O}:aY V dr os keep loc ⟨sl,H⟩ Q (.mup a g k v)↔aI V dr os keep loc sl Q (iO ⟨sl,H⟩ (oe H a (g.ev loc sl) (k.ev loc sl) (v.ev loc sl))):=by rw[bX rfl,ahv]
@[go_sem]def aBa{t:TypeId}{x:O}:aY V dr os keep loc ⟨sl,H⟩ Q (.mki t x)↔aI V dr os keep loc sl Q (.v (.ifc t (x.ev loc sl)) ⟨sl,H⟩):=by rw[bX rfl,ahw]
@[go_sem]def aBb{x:O}{t:TypeId}{zero:D}:aY V dr os keep loc ⟨sl,H⟩ Q (.tas x t f zero)↔aI V dr os keep loc sl Q (aE ⟨sl,H⟩ (uT (x.ev loc sl) t f zero)):=by rw[bX rfl,ahx]
@[go_sem]def aBc{x:O}:aY V dr os keep loc ⟨sl,H⟩ Q (.nck x)↔aI V dr os keep loc sl Q (aE ⟨sl,H⟩ (n8 (x.ev loc sl))):=by rw[bX rfl,ahy]
variable{d:List O}
@[go_sem]def aBd:aY V dr os keep loc ⟨sl,H⟩ Q (.mx d)↔aI V dr os keep loc sl Q (aE ⟨sl,H⟩ (jI rR (d.map (O.ev loc sl)))):=by rw[bX rfl,ahD]
@[go_sem]def aBe:aY V dr os keep loc ⟨sl,H⟩ Q (.mn d)↔aI V dr os keep loc sl Q (aE ⟨sl,H⟩ (jI rS (d.map (O.ev loc sl)))):=by rw[bX rfl,ahE]
def Bn(V:aw)(args:List D)(H:ab)(K:CR->Prop):D->Prop|.fn (.func f) a b=>f≠yF/\ac V f (a++args++b) H K|.yl y=>ac V yF (.yl y::args) H K|_=>False
@[go_sem]def iu{args:List D}{K:CR->Prop}{f:FuncId}{a b:List D}(h:f<4294967295):Bn V args H K (.fn (.func f) a b)↔ac V f (a++args++b) H K:=⟨λh=>h.2,λg=>⟨RU h,g⟩⟩
@[go_sem]def aBf{args:List D}{K:CR->Prop}{y:Nat}:Bn V args H K (.yl y)↔ac V yF (.yl y::args) H K:=W0
def Bo{r:CR}:aI V dr os keep loc sl Q (r.toR sl)↔r≠.bad/\qt V dr os keep loc sl Q r:=by cases r with|ret d a=>exact⟨λh=>⟨nofun,h⟩,λh=>h.2⟩|pan d a=>exact⟨λh=>⟨nofun,h⟩,λh=>h.2⟩|bad=>exact⟨λh=>h.elim,λh=>absurd rfl h.1⟩
@[go_sem]def aBg{f:FuncId}:aY V dr os keep loc ⟨sl,H⟩ Q (.call f d)↔ac V f (d.map (O.ev loc sl)) H (qt V dr os keep loc sl Q):=exists_congr λ_=>Bo
def Gq(V:aw)(args:List D)(H:ab)(K:CR->Prop):Option FuncId->Prop|some f=>ac V f args H K|none=>False
def Gs(V:aw)(m:String)(args:List D)(H:ab)(K:CR->Prop):D->Prop|.ifc t v=>Gq V (v::args) H K (V.meth t m)|_=>False
@[go_sem]def aBh{args:List D}{K:CR->Prop}{f:FuncId}:Gq V args H K (some f)↔ac V f args H K:=W0
@[go_sem]def aBi{m:String}{args:List D}{K:CR->Prop}{t:TypeId}{v:D}:Gs V m args H K (.ifc t v)↔Gq V (v::args) H K (V.meth t m):=W0
@[go_sem]def aBj{x:O}{m:String}:aY V dr os keep loc ⟨sl,H⟩ Q (.inv x m d)↔Gs V m (d.map (O.ev loc sl)) H (qt V dr os keep loc sl Q) (x.ev loc sl):=by unfold aY;simp[step];generalize x.ev loc sl=q;cases q with
 |ifc t v=>simp[Gs];cases V.meth t m with|some f=>exact exists_congr λ_=>Bo|none=>exact⟨λ⟨_,h⟩=>h.elim,λh=>h.elim⟩
 |_=>exact⟨λ⟨_,h⟩=>h.elim,λh=>h.elim⟩
def Gu(V:aw)(f:FuncId)(args:List D):Bool:=match V.fn f with|some a=>a.pure&&!a.own&&nZ args|none=>false
def Si(K:CR->Prop):CR->Prop|.ret d H=>K (.ret d H)|_=>False
def Sj(a:ab)(K:CR->Prop):CR->Prop|.ret d H=>(∃t,H=a++t)/\K (.ret d H)|_=>False
@[go_sem]def aBk{K:CR->Prop}{d:D}:Si K (.ret d H)↔K (.ret d H):=W0
@[go_sem]def aBl{K:CR->Prop}{d:D}:Sj e K (.ret d H)↔(∃t,H=e++t)/\K (.ret d H):=W0
@[go_sem]def aBm{f:FuncId}{a:List O}:aY V dr os keep loc ⟨sl,H⟩ Q (.cpl f a)↔Gu V f (a.map (O.ev loc sl))=true/\ac V f (a.map (O.ev loc sl)) H (Si (qt V dr os keep loc sl Q)):=by unfold aY Gu;simp[step];cases e:V.fn f with|none=>exact⟨λ⟨_,h⟩=>h.elim,λh=>by grind⟩|some b=>simp only;cases g:(b.pure&&!b.own&&nZ _)with|false=>exact⟨λ⟨_,h⟩=>h.elim,λh=>by grind⟩|true=>simp[true_and];refine exists_congr λn=>?_;generalize call V n f _ H=r;cases r with|ret d c=>exact⟨λh=>⟨nofun,h⟩,λh=>h.2⟩|pan d c=>exact⟨λh=>h.elim,λh=>h.2.elim⟩|bad=>exact⟨λh=>h.elim,λh=>h.2.elim⟩
@[go_sem]def aBn{d:D}:Gp V dr os keep loc sl Q (.ret d H)↔fC V dr os (loc++[d]) ⟨eS sl keep d,H⟩ Q:=W0
@[go_sem]def aBo{d:D}:Gp V dr os keep loc sl Q (.pan d H)↔Q (.pn d) ⟨sl,H⟩:=W0
@[go_sem]def aBp{f:FuncId}{a:List O}:aY V dr os keep loc ⟨sl,H⟩ Q (.callp f a)↔ac V f (a.map (O.ev loc sl)) H (Gp V dr os keep loc sl Q):=by unfold aY ac;simp only[step];refine exists_congr λn=>?_;generalize call V n f _ H=r;cases r with|ret d b=>exact⟨λh=>⟨nofun,h⟩,λh=>h.2⟩|pan d b=>exact⟨λh=>⟨nofun,h⟩,λh=>h.2⟩|bad=>exact⟨λh=>h.elim,λh=>h.2.elim⟩
@[go_sem]def aBq{f:FuncId}{b:List O}:aY V dr os keep loc ⟨sl,H⟩ Q (.calx f b)↔ac V f (b.map (O.ev loc sl)) H (Sj H (qt V dr os keep loc sl Q)):=by unfold aY;simp[step];refine exists_congr λn=>?_;generalize call V n f _ H=r;cases r with
 |ret d c=>simp only[uP];cases a:rT H c with|true=>exact⟨λh=>⟨nofun,(AF _ _).1 a,h⟩,λh=>h.2.2⟩|false=>exact⟨λh=>h.elim,λh=>by rw[(AF _ _).2 h.2.1]at a;cases a⟩
 |pan d c=>exact⟨λh=>h.elim,λh=>h.2.elim⟩|bad=>exact⟨λh=>h.elim,λh=>h.2.elim⟩
def aj2(a:ab)(K:CR->Prop):CR->Prop|.ret d H=>rU a H=true/\K (.ret d H)|_=>False
@[go_sem]def aBr{K:CR->Prop}{d:D}:aj2 e K (.ret d H)↔rU e H=true/\K (.ret d H):=W0
@[go_sem]def aBs{x:O}:aY V dr os keep loc ⟨sl,H⟩ Q (.calv x d)↔Bn V (d.map (O.ev loc sl)) H (qt V dr os keep loc sl Q) (x.ev loc sl):=by unfold aY;simp[afS];generalize x.ev loc sl=q;cases q with
 |fn f a b=>cases f with|func f=>
 by_cases c:f=yF;·simp only[Gg,E4 c];exact⟨λ⟨_,h⟩=>h.elim,λh=>absurd c h.1⟩
 simp only[Gg,E1 c];exact(exists_congr λ_=>Bo).trans ⟨λh=>⟨c,h⟩,λh=>h.2⟩|_=>exact⟨λ⟨_,h⟩=>h.elim,λh=>h.elim⟩
 |yl y=>exact exists_congr λ_=>Bo|_=>exact⟨λ⟨_,h⟩=>h.elim,λh=>h.elim⟩
theorem dO{f:FuncId}{args:List D}{d:D}(h:cz V f args H d e){K:CR->Prop}:ac V f args H K↔K (.ret d e):=by
 obtain⟨N,h⟩:=h;constructor;·rintro⟨n,a,b⟩;have:=h (max n N) (AAL _ _);grind[Sd]
 intro c;exact⟨N,by grind,by grind⟩
def cz.iff_q{f:FuncId}{args:List D}{d:D}:cz V f args H d e↔ac V f args H (·=.ret d e):=by
 constructor;·intro h;rw[dO h]
 rintro⟨n,b,a⟩;exact .of a
def du(a:List dc)(K:CR->Prop):Ex->St->Prop|.nm,s|.rt,s=>∃ds,de s a=some ds/\K (.ret (gm ds) s.hp)|.pn d,s=>K (.pan d s.hp)|_,_=>False
variable{k:List dc}
@[go_sem]def aBt{K:CR->Prop}:du k K .nm x↔∃ds,de x k=some ds/\K (.ret (gm ds) x.hp):=W0
@[go_sem]def aBu{K:CR->Prop}:du k K .rt x↔∃ds,de x k=some ds/\K (.ret (gm ds) x.hp):=W0
@[go_sem]def aBv{K:CR->Prop}{d:D}:du k K (.pn d) x↔K (.pan d x.hp):=W0
variable{b:aJ}
def Sk{args:List D}{K:CR->Prop}(a:args.length=b.npar):(∃n,fi V (call V n) n b args H≠.bad/\K (fi V (call V n) n b args H))↔ak V b.body ⟨args++uu (b.nsl-b.npar),H⟩ (du b.res K):=by rw[<-xY];refine exists_congr λn=>?_;rw[afR b args H a];generalize aC V _ n _ _=q;obtain⟨c,s⟩:=q;cases c<;>grind[RR,du]
theorem Sm{f:FuncId}(a:V.fn f=some b)(c:b.pure=false)(d:b.dfr=none)(e:b.rg=none){args:List D}(g:V.ext f args H=none){n:Nat}:call V (n+1) f args H=fi V (call V n) n b args H:=by grind[call,cX]
def ac.body{f:FuncId}{vf:aJ}(b:V.fn f=some vf)(c:vf.pure=false){args:List D}{K:CR->Prop}(a:args.length=vf.npar)(h:ak V vf.body ⟨args++uu (vf.nsl-vf.npar),H⟩ (du vf.res K))(d:V.ext f args H=none:=by first|rfl|assumption)(e:vf.dfr=none:=by first|rfl|assumption)(g:vf.rg=none:=by first|rfl|assumption):ac V f args H K:=by obtain⟨n,i,j⟩:=(Sk a).2 h;exact⟨n+1,by grind[Sm],by grind[Sm]⟩
def ac.beside{f:FuncId}(a:V.fn f=none)(b:f≠yF){args:List D}{d:D}(c:V.ext f args H=some (d,e)){K:CR->Prop}:ac V f args H K↔K (.ret d e):=dO (.of (n:=1) (by grind[call]))
def aH(V:aw)(f:FuncId)(ds:List D)(K:PR->Prop):Prop:=∃n,dh V n f ds≠.bad/\K (dh V n f ds)
def aH.mono{f:FuncId}{ds:List D}{K a:PR->Prop}(h:aH V f ds K)(b:∀r,K r->a r):aH V f ds a:=let⟨n,c,d⟩:=h;⟨n,c,b _ d⟩
def ai.iff_q{f:FuncId}{ds:List D}{d:D}:ai V f ds d↔aH V f ds (·=.ret d):=by
 constructor;·rintro⟨n,h⟩;exact⟨n,by grind,h⟩
 rintro⟨n,_,h⟩;exact⟨n,h⟩
def fE(own:Bool)(K:PR->Prop):CR->Prop|.ret d H=>∃a,ol own H d=some a/\K (.ret a)|.pan d H=>∃a b,bS bG H d=some (a,b)/\K (.pan a)|.bad=>False
@[go_sem]def aBw{own:Bool}{K:PR->Prop}{d:D}:fE own K (.ret d H)↔∃a,ol own H d=some a/\K (.ret a):=W0
@[go_sem]def aBx{own:Bool}{K:PR->Prop}{d:D}:fE own K (.pan d H)↔∃a b,bS bG H d=some (a,b)/\K (.pan a):=W0
theorem Sn{n:Nat}{ds:List D}{K:PR->Prop}(h:cX V (call V n) n b ds []≠.bad)(a:fE b.own K (cX V (call V n) n b ds [])):gS V (call V n) n b ds≠.bad/\K (gS V (call V n) n b ds):=by unfold gS;generalize cX V _ n b ds []=r at h a;cases r with|bad=>grind|ret d H=>obtain⟨c,e,f⟩:=a;grind|pan d H=>obtain⟨c,g,e,f⟩:=a;grind
def aH.body{f:FuncId}{vf:aJ}(a:V.fn f=some vf){ds:List D}{K:PR->Prop}(b:ds.length=vf.npar)(h:ak V vf.body ⟨ds++uu (vf.nsl-vf.npar),[]⟩ (du vf.res (fE vf.own K)))(c:V.pext f ds=none:=by first|rfl|assumption)(d:vf.dfr=none:=by first|rfl|assumption)(g:vf.rg=none:=by first|rfl|assumption):aH V f ds K:=by
 obtain⟨n,i,j⟩:=(Sk b).2 h;refine⟨n+1,?_⟩;simp only[dh,a,dU,c];have e:cX V (call V n) n vf ds []=fi V (call V n) n vf ds []:=by grind[cX]
 grind[Sn]
def ai.body{f:FuncId}{vf:aJ}(a:V.fn f=some vf){ds:List D}{d:D}(b:ds.length=vf.npar)(h:ak V vf.body ⟨ds++uu (vf.nsl-vf.npar),[]⟩ (du vf.res (fE vf.own (·=.ret d))))(c:V.pext f ds=none:=by first|rfl|assumption)(e:vf.dfr=none:=by first|rfl|assumption)(g:vf.rg=none:=by first|rfl|assumption):ai V f ds d:=ai.iff_q.2 (.body a b h c e g)
def aBy(own:Bool)(a:ab)(K:CR->Prop):PR->Prop|.ret d=>K (.ret (eT own d a).1 (eT own d a).2)|.pan d=>K (.pan d a)|.bad=>False
def Gv(a:aJ)(H b:ab)(K:CR->Prop):PR->Prop|.ret d=>K (.ret (eT a.own d (jN a.fre d H b)).1 (eT a.own d (jN a.fre d H b)).2)|.pan d=>K (.pan d b)|.bad=>False
def ac.pure0{f:FuncId}(g:V.fn f=some b)(i:b.pure=true){args ds:List D}(j:aW bG H args=some (ds,e)){K:CR->Prop}(h:aH V f ds (Gv b H e K)):ac V f args H K:=by obtain⟨n,c,a⟩:=h;cases n with|zero=>exact absurd rfl c|succ n=>refine⟨n+1,?_⟩;simp only[dh,g]at c a;simp only[call,g,i,j];generalize dU V _ n f b ds=r at c a;cases r with|ret d=>exact⟨nofun,a⟩|pan d=>exact⟨nofun,a⟩|bad=>grind
def ak.at{c:aR}(h:ak V c x Q):∃N a s,a≠.bad/\Q a s/\∀n,N<=n->aC V (call V n) n c x=(a,s):=by obtain⟨N,b,e⟩:=h;exact⟨N,_,_,b,e,λn d=>p7 (se V N n d) d c x b⟩
def mi(V:aw)(e:aJ)(q:ft)(base:Nat)(b:List D)(K:CR->Prop)(x:D)(c:St):Prop:=ak V q.body ⟨(b++uu (q.ns-b.length)).set q.rk x,c.hp⟩ λd a=>(d=.nm\/d=.rt)/\base<=a.hp.length/\∃ds,de ⟨c.sl,a.hp⟩ e.res=some ds/\K (.ret (gm ds) a.hp)
def yc(V:aw)(b:aJ)(q:ft)(base:Nat)(c:List D)(K:CR->Prop):Ex->St->Prop|.nm,a|.rt,a=>mi V b q base c K .ni a|.pn x,a=>mi V b q base c K x a|_,_=>False
def Gw(V:aw)(b:aJ)(q:ft)(base:Nat)(K:CR->Prop):Ex->St->Prop|.nm,a=>a.sl.all D.noBx=true/\ak V b.body a (yc V b q base ((q.caps.map O.s).map (O.ev [] a.sl)) K)|_,_=>False
variable{h:ft}
@[go_sem]def aBz{base:Nat}{K:CR->Prop}:yc V b h base a K .nm x↔mi V b h base a K .ni x:=W0
@[go_sem]def aBA{base:Nat}{K:CR->Prop}:yc V b h base a K .rt x↔mi V b h base a K .ni x:=W0
@[go_sem]def aBB{base:Nat}{K:CR->Prop}{x:D}{s:St}:yc V b h base a K (.pn x) s↔mi V b h base a K x s:=W0
@[go_sem]def aBC{base:Nat}{K:CR->Prop}:Gw V b h base K .nm x↔x.sl.all D.noBx=true/\ak V b.body x (yc V b h base ((h.caps.map O.s).map (O.ev [] x.sl)) K):=W0
def aj3{base:Nat}{K:CR->Prop}{x:D}{c:St}(d:mi V b h base a K x c):∃N,∃r,r≠.bad/\K r/\∀n,N<=n->jf V (call V n) n b h base a x c=r:=by obtain⟨N,f,e,_,⟨g,i,ds,hds,hk⟩,hn⟩:=ak.at d;refine⟨N,.ret _ e.hp,nofun,hk,λn j=>?_⟩;grind[xY,jf]
def aj4(v:b.dfr=some h){args:List D}{K:CR->Prop}(w:args.length=b.npar)(k:ak V h.pre ⟨args++uu (b.nsl-b.npar),H⟩ (Gw V b h H.length K)):∃n,cX V (call V n) n b args H≠.bad/\K (cX V (call V n) n b args H):=by obtain⟨l,m,a,_,g,o⟩:=ak.at k;cases m with
 |nm=>
 obtain⟨y,p⟩:=g;obtain⟨q,i,d,_,c,z⟩:=ak.at p;have e:∀x,mi V b h H.length ((h.caps.map O.s).map (O.ev [] a.sl)) K x d->(∀n,aC V (call V n) n b.body a=(i,d)->aC V (call V n) n h.pre ⟨args++List.replicate (b.nsl-b.npar) .u,H⟩=(.nm,a)->cX V (call V n) n b args H=jf V (call V n) n b h H.length ((h.caps.map O.s).map (O.ev [] a.sl)) x d)->∃n,cX V (call V n) n b args H≠.bad/\K (cX V (call V n) n b args H):=λx s A=>by obtain⟨t,r,hr,B,C⟩:=aj3 s;have f:=o (l+q+t) (by omega);grind[xY]
 cases i with|nm=>exact e .ni c λn j f=>by grind[cX,jM]|rt=>exact e .ni c λn j f=>by grind[cX,jM]|pn x=>exact e x c λn j f=>by grind[cX,jM]|ex id=>exact c.elim|bad=>grind
 |_=>exact g.elim
def ac.dfr{f:FuncId}(e:V.fn f=some b)(g:b.pure=false)(a:b.dfr=some h){args:List D}{K:CR->Prop}(c:args.length=b.npar)(d:ak V h.pre ⟨args++uu (b.nsl-b.npar),H⟩ (Gw V b h H.length K))(i:V.ext f args H=none:=by first|rfl|assumption):ac V f args H K:=by obtain⟨n,j,k⟩:=aj4 a c d;refine⟨n+1,?_⟩;grind[call]
def vA(P:St->Prop)(Q:Ex->St->Prop):Ex->St->Prop|.nm,s=>P s|.ex id,s=>Q (.ex id) s|.rt,s=>Q .rt s|.pn d,s=>Q (.pn d) s|.bad,_=>False
@[go_sem]def aBD{P:St->Prop}:vA P Q .nm x↔P x:=W0
@[go_sem]def aBE{P:St->Prop}:vA P Q (.ex y) x↔Q (.ex y) x:=W0
@[go_sem]def aBF{P:St->Prop}:vA P Q .rt x↔Q .rt x:=W0
@[go_sem]def aBG{P:St->Prop}{d:D}:vA P Q (.pn d) x↔Q (.pn d) x:=W0
def ak.loop{c:aR}(I:Nat->St->Prop)(k:Nat)(b:I k x)(h:∀i s,I i s->ak V c s (vA (λs'=>∃j,j<i/\I j s') Q)):ak V (.loop c) x Q:=by induction k using Nat.strongRecOn generalizing x with|ind k d=>rw[bJ];refine(h k x b).mono λe s a=>?_;cases e with|nm=>obtain⟨j,f,g⟩:=a;exact d j f g|bad=>exact a.elim|_=>exact a
def ak.up{c:aR}(I:Nat->St->Prop)(n:Nat)(e:I 0 x)(h:∀i s,i<=n->I i s->ak V c s (vA (λs'=>i<n/\I (i+1) s') Q)):ak V (.loop c) x Q:=by refine ak.loop (λj s=>j<=n/\I (n-j) s) n ⟨G1 _,by grind⟩ (λj s⟨f,b⟩=>(h _ s (ACS _ _) b).mono λd s' a=>?_);cases d with|nm=>obtain⟨g,k⟩:=a;refine⟨j-1,by omega,by omega,?_⟩;grind|bad=>exact a.elim|_=>exact a
end
section
variable{H:ab}
@[go_sem]def aBH:fw []=true:=rfl
@[go_sem]def aBI{x:Bool}:jK (.b x)=[]:=rfl
@[go_sem]def aBJ{k:IntKind}{x:Int}:jK (.i k x)=[]:=rfl
@[go_sem]def aBK{x:List UInt8}:jK (.s x)=[]:=rfl
@[go_sem]def aBL:jK .nil=[]:=rfl
@[go_sem]def aBM:jK .z=[]:=rfl
variable{c:List (List D)}
@[go_sem]def aBN{w:Nat}:jK (.im w c)=[]:=rfl
@[go_sem]def aBO{w:Nat}:jK (.ow w c)=[]:=rfl
variable{y z:Nat}
@[go_sem]def aBP{a n l:Nat}:jK (.mu a n y l)=[a]:=rfl
@[go_sem]def aBQ{l:List D}:jK (.ag l)=l.flatMap iQ:=rfl
@[go_sem]def aBR{l:List D}:jK (.tu l)=l.flatMap gR:=rfl
@[go_sem]def aBS{x:Bool}:gR (.b x)=[]:=rfl
@[go_sem]def aBT{k:IntKind}{x:Int}:gR (.i k x)=[]:=rfl
@[go_sem]def aBU{x:List UInt8}:gR (.s x)=[]:=rfl
@[go_sem]def aBV:gR .nil=[]:=rfl
@[go_sem]def aBW:gR .z=[]:=rfl
@[go_sem]def aBX{w:Nat}:gR (.im w c)=[]:=rfl
@[go_sem]def aBY{a n l:Nat}:gR (.mu a n y l)=[a]:=rfl
@[go_sem]def aBZ{l:List D}:gR (.ag l)=l.flatMap iQ:=rfl
@[go_sem]def aB0{x:Bool}:iQ (.b x)=[]:=rfl
@[go_sem]def aB1{k:IntKind}{x:Int}:iQ (.i k x)=[]:=rfl
@[go_sem]def aB2{x:List UInt8}:iQ (.s x)=[]:=rfl
@[go_sem]def aB3:iQ .nil=[]:=rfl
@[go_sem]def aB4:iQ .z=[]:=rfl
@[go_sem]def aB5{w:Nat}:iQ (.im w c)=[]:=rfl
@[go_sem]def aB6{a n l:Nat}:iQ (.mu a n y l)=[a]:=rfl
@[go_sem]def aB7{l:List D}:iP H (.tu l)=(jJ (gQ H) l).map .tu:=rfl
@[go_sem]def aB8{l:List D}:iP H (.ag l)=(jJ (fN H) l).map .ag:=rfl
@[go_sem]def aB9{l:List D}:gQ H (.ag l)=(jJ (fN H) l).map .ag:=rfl
@[go_sem]def aCa{x:Bool}:iP H (.b x)=some (.b x):=rfl
@[go_sem]def aCb{k:IntKind}{x:Int}:iP H (.i k x)=some (.i k x):=rfl
@[go_sem]def aCc{x:List UInt8}:iP H (.s x)=some (.s x):=rfl
@[go_sem]def aCd:iP H .nil=some .nil:=rfl
@[go_sem]def aCe:iP H .z=some .z:=rfl
@[go_sem]def aCf{w:Nat}:iP H (.im w c)=some (.im w c):=rfl
@[go_sem]def aCg{a n l:Nat}:iP H (.mu a n y l)=fN H (.mu a n y l):=rfl
@[go_sem]def aCh{x:Bool}:gQ H (.b x)=some (.b x):=rfl
@[go_sem]def aCi{k:IntKind}{x:Int}:gQ H (.i k x)=some (.i k x):=rfl
@[go_sem]def aCj{x:List UInt8}:gQ H (.s x)=some (.s x):=rfl
@[go_sem]def aCk:gQ H .nil=some .nil:=rfl
@[go_sem]def aCl:gQ H .z=some .z:=rfl
@[go_sem]def aCm{w:Nat}:gQ H (.im w c)=some (.im w c):=rfl
@[go_sem]def aCn{a n l:Nat}:gQ H (.mu a n y l)=fN H (.mu a n y l):=rfl
@[go_sem]def aCo{x:Bool}:fN H (.b x)=some (.b x):=rfl
@[go_sem]def aCp{k:IntKind}{x:Int}:fN H (.i k x)=some (.i k x):=rfl
@[go_sem]def aCq{x:List UInt8}:fN H (.s x)=some (.s x):=rfl
@[go_sem]def aCr:fN H .nil=some .nil:=rfl
@[go_sem]def aCs:fN H .z=some .z:=rfl
@[go_sem]def aCt{w:Nat}:fN H (.im w c)=some (.im w c):=rfl
@[go_sem]def aCu{α β:Type}{f:α->Option β}:jJ f []=some []:=rfl
def aj5{β:Type}(r:Option (List β)):Option β->Option (List β)|some y=>r.map (y::·)|none=>none
@[go_sem]def aCv{β:Type}{y:β}{a:List β}:aj5 (some a) (some y)=some (y::a):=rfl
attribute[go_sem]List.flatMap_cons List.flatMap_nil
@[go_sem]def aCw{α:Type}{a:α}{p:α->Prop}:(∃x,a=x/\p x)↔p a:=by grind
end
def aj6(x:Bool):(x==true)=x:=by simp_all
def aj7(x:Bool):(x==false)=!x:=by grind
attribute[go_sem]ahp aiL aiM aiN aiO aiP aiQ aiR aiS aiT aiU aiJ aiK ahl ahm
attribute[go_sem]afQ ah3 ah4 agx ajk ajl ah5 ah6 ah7 ah8 ah9 aia aib aic aid aie aif aig aih aii aij aik ail aim ain aio aip aiq air ais ait aiu aiv aiw aix aiy aiz aiA aiB aiC aiD aiE aiF aiG aiH aiI aiV aiW aiX aiY aiZ ai0 ai1 ai2 ai3 ai4 ai5 ai6 ai7 ai8 ai9 aja ajb ajc ajd aje ajf ajg ajh aji ajj ajm ajn ajo ajp ajq ajr ajs ajt aju ajv ajw ajx ajy ajz ajA ajB ajC ajD ajE ajF ajG ajH ajI ajJ ajK ajL ajM ajN ajO ajP ajQ ajR ajS ajT ajU ajV ajW
attribute[go_sem]RW afT afU afV afW afX afY RZ afZ af0 af3 af4 agb agf agi agj agk agm agn ago agq agr ags agy agz agA agB agC agD agF agH agI agJ agK agL agM agN agO agP agQ agR agT agV agW agY agZ ag1 ag2 ag3 ag4 ag8 ag9 aha ahb ahc ahd ahj ahr ahz ahA ahB ahC ahF ahG ahH ahI ahJ ahK ahL ahM ahN ahO ahP ahQ ahR ahS ahT ahU ahV ahW ahX ahY ahZ ah0 ah1 ah2 eS eQ cS
attribute[go_sem]List.getD_cons_zero List.getD_cons_succ List.getD_nil List.getElem?_cons_zero List.getElem?_cons_succ List.getElem?_nil List.set_cons_zero List.set_cons_succ List.nil_append List.cons_append List.append_assoc List.append_nil List.length_cons List.length_nil List.drop_succ_cons List.drop_zero List.drop_nil List.take_succ_cons List.take_zero List.take_nil List.map_cons List.map_nil List.all_cons List.all_nil Bool.and_true Bool.true_and Bool.and_false Bool.false_and Nat.le_refl Nat.zero_add if_true if_false decide_true decide_false Bool.not_true Bool.not_false Bool.false_eq_true Bool.true_eq_false Nat.add_zero Int.cast_ofNat_Int Option.map_some Option.map_none Nat.zero_mul Option.some.injEq beq_self_eq_true aj6 aj7 Bool.not_eq_eq_eq_not decide_eq_true_eq decide_eq_false_iff_not true_implies false_implies true_and and_true forall_const
end
section
def HR.adopt{K:Kn}{μ:Mu}{H:ab}{W:World}(h:HR K μ H W)(l:bI)(b:an)(E:l.blk<W.heap.size)(t:¬cd μ H l.blk)(V:∀o v,K l.blk o≠some v)(F:lF K (μ.upd H.length l) (H++[b]) W l b):HR K (μ.upd H.length l) (H++[b]) W/\ba K μ H K (μ.upd H.length l) (H++[b])/\∀r,cd (μ.upd H.length l) (H++[b]) r->cd μ H r\/r=l.blk:=by
 have u:=ba.push (K:=K) h.dom l b;have j:∀id d g,(μ.upd H.length l) id=some d->(H++[b])[id]?=some g->(id=H.length/\d=l/\g=b)\/(id<H.length/\μ id=some d/\H[id]?=some g):=by grind[Mu.upd]
 have G:∀id d,(μ.upd H.length l) id=some d->(id=H.length/\d=l)\/(id<H.length/\μ id=some d):=by
  intro id d a;simp[Mu.upd]at a;split at a;·grind
  exact .inr ⟨h.dom id d a,a⟩
 have og:∀r,cd (μ.upd H.length l) (H++[b]) r->cd μ H r\/r=l.blk:=by
  rintro r⟨id,d,g,a,c,e,f⟩;rcases j id d g a c with⟨_,rfl,_⟩|⟨_,i,k⟩;·omega
  exact .inl ⟨id,d,g,i,k,e,f⟩
 refine⟨⟨λid d a=>?_,λid hid=>?_,λid d g a c=>?_,λid d a=>?_,λid m n p q s I J L M w y e=>?_,λg o' v e=>?_,λg o' v e N=>?_⟩,u,og⟩;·grind
 ·simp[N3,qu]at hid;by_cases hi:id=H.length;·simp_all[Mu.upd]
  obtain⟨d,X⟩:=h.tot id (by omega);grind[Mu.upd]
 ·rcases j id d g a c with⟨_,rfl,rfl⟩|⟨_,i,k⟩;·exact F
  exact(h.blk id d g i k).ext u (λ_=>rfl)
 ·rcases G id d a with⟨_,rfl⟩|⟨_,i⟩;·exact E
  exact h.lt id d i
 ·rcases j id n q I L with⟨P,Q,z1⟩|⟨P,z,A⟩<;>rcases j m p s J M with⟨S,U,z2⟩|⟨S,B,C⟩;·omega
  ·subst Q;exact(t ⟨m,p,s,B,C,y,e.symm⟩).elim
  ·subst U;exact(t ⟨id,n,q,z,A,w,e⟩).elim
  exact h.inj id m n p q s z B A C w y e
 ·exact h.kn g o' v e
 rcases og g N with x|x;·exact h.kf g o' v e x
 grind
section
variable{K1:Kn}{μ:Mu}{H1:ab}{W:World}{K':Kn}{μ':Mu}{Hc:ab}{W':World}
structure PS(K1:Kn)(μ:Mu)(H1:ab)(W:World)(K':Kn)(μ':Mu)(W':World)(used:List Nat)(μx:Mu)(Hx:ab):Prop where
 hr:HR K' μx Hx W'
 nx:Nx K1 μ H1 W K' μx Hx W'
 own:∀r,cd μx Hx r->r<W.heap.size\/∃a∈used,∃l,μ' a=some l/\l.blk=r
def PS.start(d:HR K1 μ H1 W)(g:HR K' μ' Hc W')(nx:Nx K1 aK [] W K' μ' Hc W'):PS K1 μ H1 W K' μ' W' [] μ H1:=by
 have f:∀r,¬cd aK [] r:=λr⟨id,l,b,a,_⟩=>by cases a
 have i:∀r,cd μ H1 r->r<W.heap.size:=λr⟨id,l,b,a,_,_,e⟩=>e▸d.lt id l a;have kg:∀b o v,K' b o=some v->K1 b o=some v\/W.heap.size<=b:=λb o v e=>by
  rcases nx.kg b o v e with x|x|x;·exact .inl x
  ·exact(f _ x).elim
  exact .inr x
 have ext:ba K1 μ H1 K' μ H1:=⟨nx.ext.k,λid l b a c=>⟨l,b,a,c,.refl _ _⟩⟩;refine⟨⟨d.dom,d.tot,λid l b a c=>(d.blk id l b a c).ext ext (λ_=>nx.keep _ (d.lt id l a) (f _)),λid l a=>hI (d.lt id l a) nx.size,d.inj,g.kn,λb o v e j=>?_⟩,⟨ext,nx.os,nx.tape,nx.output,nx.size,λr hr _=>nx.keep r hr (f _),λr h=>.inl h,λb o v e=>(kg b o v e).imp id .inr⟩,λr h=>.inl (i r h)⟩;rcases kg b o v e with x|x;·exact d.kf b o v x j
 grind
def D.flat:D->Bool|.b _|.i _ _|.s _|.nil|.z|.im _ _|.np|.mnil|.fn _ [] []|.nf|.ni=>true|_=>false
def VR.any{K:Kn}{μ μ':Mu}{H f:ab}{d:D}{v:Value}(h:VR K μ H d v)(c:d.flat=true):VR K μ' f d v:=by
 cases h<;>first|exact .b ..|exact .i ..|exact .s ..|exact .nil ..|exact .z ..|exact .np ..|exact .mnil ..|exact .nf ..|exact .ni ..|(cases c;done)|skip
 ·exact .im _ _ _ _ _ _ _ _ (by omega) (by omega) (by omega) (by omega) (by omega)
 rename_i a b g k l m n o;cases a with|cons=>cases c|nil=>cases b with|cons=>cases c|nil=>exact .fn _ _ _ [] [] g k l m (λj d v e=>by grind) (λj d v e=>by grind)
def Q5{s:List Nat}{C:Mu}{f:ab}(E:HR K' μ' Hc W')(nx:Nx K1 aK [] W K' μ' Hc W')(g:PS K1 μ H1 W K' μ' W' s C f){d t:D}{v:Value}(L:VR K' μ' Hc d v)(hs:fN Hc d=some t)(Z:∀a∈iQ d,a∉s)(aa:∀a∈s,∃b,Hc[a]?=some b/\b.live=true):∃p u,PS K1 μ H1 W K' μ' W' (u++s) p (jL t f).2/\ba K' C f K' p (jL t f).2/\VR K' p (jL t f).2 (jL t f).1 v/\(∀a∈u,a∈iQ d)/\∀a∈u,∃b,Hc[a]?=some b/\b.live=true:=by
 have keep:∀(e:D),jL e f=(e,f)->e.flat=true->VR K' μ' Hc e v->∃p u,PS K1 μ H1 W K' μ' W' (u++s) p (jL e f).2/\ba K' C f K' p (jL e f).2/\VR K' p (jL e f).2 (jL e f).1 v/\(∀a∈u,a∈iQ d)/\∀a∈u,∃b,Hc[a]?=some b/\b.live=true:=λe he hk ae=>by rw[he];exact⟨C,[],g,.refl _ _ _,ae.any hk,λa h=>(by cases h),λa h=>(by cases h)⟩
 unfold fN at hs;split at hs<;>first|grind|(cases hs;exact keep _ rfl rfl L)|skip
 rename_i a n k len;split at hs
 ·rename_i w rows kc lk harr;split at hs;·rename_i M;obtain⟨z,F⟩:=jg harr;cases L with|mu _ _ _ _ _ _ cap blk o l w2 ax ay p2 a0 A N a1 af=>rw[z]at N;cases N;obtain⟨P,g2,G,g4,g5,g6⟩:=af F;have Q:=E.blk a l _ A z;cases lk with|true=>cases hs;obtain⟨_,H,_,I⟩:=Q;exact keep _ rfl rfl (VR.part H I F M G P _ _)|false=>
   cases hs;obtain⟨H,a6,a7,vs,ty,hW,ai,I⟩:=Q;let q:bI:=⟨l.blk,l.off+k*w,l.size⟩;have S:cd μ' Hc l.blk:=⟨a,l,_,A,z,rfl,rfl⟩;have aj:W.heap.size<=l.blk:=by
    rcases nx.og _ S with⟨id,_,_,e,_⟩|x;·cases e
    exact x
   have U:=sc rows k len n F M;have ak:iq w _:=λi r e=>by obtain⟨J,_⟩:=gn rows k len i r e;exact H _ r J
   have al:l.off+k*w+len*w<=l.size:=by have:=M4 w G;have K:(k+cap)*w=k*w+cap*w:=k6 ..;omega
   have am:=g.hr.adopt q (.ar w ((rows.drop k).take len) none true false) (E.lt a l A) (λB=>?_) (λo v e=>E.kf _ _ _ e S) ?_
   ·obtain⟨an,V,X⟩:=am;refine⟨_,[a],⟨an,?_,λr B=>?_⟩,V,?_,λb m=>m,λb m=>?_⟩
    ·refine⟨g.nx.ext.trans V,g.nx.os,g.nx.tape,g.nx.output,g.nx.size,g.nx.keep,λr B=>?_,g.nx.kg⟩;rcases X r B with x|rfl;·exact g.nx.og r x
     exact .inr aj
    ·rcases X r B with x|rfl
     ·rcases g.own r x with y|⟨b,m,y⟩;·exact .inl y
      exact .inr ⟨b,gA _ m,y⟩
     exact .inr ⟨a,T4 _ (ACH a),l,A,rfl⟩
    ·show VR K' _ _ (.mu _ _ 0 _) _;rw[U];refine .mu _ _ _ _ _ _ cap blk o q w ((rows.drop k).take len) none true false (by simp[Mu.upd]) (by simp[jL]) (by omega) (λ_=>⟨?_,by omega,G,by omega,?_,λc e=>by cases e⟩)
     ·rcases P with x|⟨x,y⟩;·exact .inl x
      exact .inr ⟨x,by simp[q,y]⟩
     simp[lB,q];have K:(k+cap)*w=k*w+cap*w:=k6 ..;omega
    obtain rfl:=eD.1 m;exact⟨_,z,rfl⟩
   ·rcases g.own _ B with x|⟨b,m,lb,x,y⟩;·have:q.blk=l.blk:=rfl;omega
    obtain⟨bb,z1,z2⟩:=aa b m;have:=E.inj b a lb l bb _ x A z1 z z2 rfl y;subst this;exact Z b (ACH b) m
   refine⟨ak,λc e=>(by cases e),by rw[U];exact al,vs,ty,hW,ai,λi r j d J K=>?_⟩;obtain⟨e3,hi⟩:=gn rows k len i r J;obtain⟨v,h1,Y⟩:=I _ r j d e3 K;refine⟨v,?_,Y.1,Y.2⟩;rw[<-h1];congr 1;simp[q,k6];omega
  grind
 grind
def aeV{x:Nat}{a:List Nat}(h:fw (x::a)=true):x∉a/\fw a=true:=by grind[fw]
def Q6:∀{c b:List Nat},fw (c++b)=true->fw c=true/\fw b=true/\∀a∈c,a∉b|[],b,h=>⟨rfl,h,λa e=>by cases e⟩|x::c,b,h=>by obtain⟨f,d⟩:=aeV h;obtain⟨g,i,j⟩:=Q6 d;grind[fw]
def A7(K1:Kn)(μ:Mu)(H1:ab)(W:World)(K':Kn)(μ':Mu)(Hc:ab)(W':World)(e f:List Nat)(g:Mu)(h d:ab)(R:Mu->Prop):Prop:=∃c u,PS K1 μ H1 W K' μ' W' (u++e) c d/\ba K' g h K' c d/\R c/\(∀a∈u,a∈f)/\∀a∈u,∃b,Hc[a]?=some b/\b.live=true
def Q7(z:ab->D->Option D)(l:D->ab->D×ab)(m:D->List Nat)(G:∀(f:List Nat)(g:Mu)(c:ab)(d i:D)(v:Value),PS K1 μ H1 W K' μ' W' f g c->VR K' μ' Hc d v->z Hc d=some i->(∀a∈m d,a∉f)->fw (m d)=true->(∀a∈f,∃b,Hc[a]?=some b/\b.live=true)->A7 K1 μ H1 W K' μ' Hc W' f (m d) g c (l i c).2 (λp=>VR K' p (l i c).2 (l i c).1 v))(k:List D->ab->List D×ab)(I:∀H,k [] H=([],H))(r:∀d ds H,k (d::ds) H=((l d H).1::(k ds (l d H).2).1,(k ds (l d H).2).2)):∀(ds n:List D)(vs:List Value)(f:List Nat)(g:Mu)(c:ab),PS K1 μ H1 W K' μ' W' f g c->bf K' μ' Hc ds vs->jJ (z Hc) ds=some n->(∀a∈ds.flatMap m,a∉f)->fw (ds.flatMap m)=true->(∀a∈f,∃b,Hc[a]?=some b/\b.live=true)->A7 K1 μ H1 W K' μ' Hc W' f (ds.flatMap m) g c (k n c).2 (λp=>bf K' p (k n c).2 (k n c).1 vs):=by
 intro ds;induction ds with|nil=>
 intro n vs f g c s o hs t A w;cases hs;have:=by have:=o.1;simpa using this.symm
 subst this;rw[I];exact⟨g,[],s,.refl _ _ _,⟨rfl,λj d v e=>by simp at e⟩,λa h=>(by cases h),λa h=>(by cases h)⟩|cons d ds J=>
 intro n vs f g c s o hs t A w;simp[jJ]at hs;split at hs
 ·rename_i d1 K;split at hs;·rename_i L M;cases hs;cases vs with|nil=>have:=o.1;simp at this|cons v vs=>
   obtain⟨N,P,Q⟩:=Q6 A;obtain⟨p,u,S,U,V,B,C⟩:=G f g c d d1 v s (o.2 0 d v rfl rfl) K (λa h=>t a (T4 _ h)) N w;obtain⟨X,Y,Z,E,F,aa,ac⟩:=J L vs _ p _ S ⟨by have:=o.1;simpa using this,λj i y e q=>o.2 (j+1) i y (by simpa using e) (by simpa using q)⟩ M (λa h hm=>by
 rcases TA.1 hm with x|x;·exact Q a (B a x) h
 exact t a (gA _ h) x) P (λa h=>(TA.1 h).elim (C a) (w a));refine⟨X,Y++u,by rw[gC,r];exact Z,by rw[r];exact U.trans E,?_,λa h=>?_,λa h=>(TA.1 h).elim (ac a) (C a)⟩;·rw[r];refine⟨by simp[F.1],λj i y e q=>?_⟩;cases j with|zero=>cases e;cases q;exact V.ext E|succ j=>exact F.2 j i y (by simpa using e) (by simpa using q)
   rcases TA.1 h with x|x;·exact gA _ (aa a x)
   exact T4 _ (B a x)
  cases hs
 cases hs
def Q8(w:HR K' μ' Hc W')(nx:Nx K1 aK [] W K' μ' Hc W')(g:List Nat)(i:Mu)(c:ab)(d j:D)(v:Value)(o:PS K1 μ H1 W K' μ' W' g i c)(p:VR K' μ' Hc d v)(hs:gQ Hc d=some j)(s:∀a∈gR d,a∉g)(y:fw (gR d)=true)(q:∀a∈g,∃b,Hc[a]?=some b/\b.live=true):A7 K1 μ H1 W K' μ' Hc W' g (gR d) i c (lY j c).2 (λf=>VR K' f (lY j c).2 (lY j c).1 v):=by
 have z:∀{e:D},fN Hc d=some e->gR d=iQ d->(∀r,e≠.ag r)->A7 K1 μ H1 W K' μ' Hc W' g (gR d) i c (lY e c).2 (λf=>VR K' f (lY e c).2 (lY e c).1 v):=λ{e}A B E=>by
  have:lY e c=jL e c:=by cases e<;>first|rfl|grind
  rw[this,B];obtain⟨f,u,k,l,h,m,n⟩:=Q5 w nx o p A (by grind) q;exact⟨f,u,k,l,h,m,n⟩
 cases d with|ag r=>simp[gQ,l3]at hs;obtain⟨C,t,rfl⟩:=hs;obtain⟨vs,rfl,x⟩:=p.ag_inv;obtain⟨f,u,k,l,h,m,n⟩:=Q7 _ _ iQ (λg i c d j v o p hs s _ q=>by obtain⟨f,u,k,l,h,m,n⟩:=Q5 w nx o p hs s q;exact⟨f,u,k,l,h,m,n⟩) xC (λ_=>rfl) (λ_ _ _=>rfl) r C vs g i c o x.1 t s y q;exact⟨f,u,k,l,.ag _ _ _ _ h.1 x.2 h.2,m,n⟩|_=>
 refine z hs rfl (λr t=>?_);subst t;simp only[gQ,fN]at hs;repeat' split at hs
 all_goals first|(cases hs;done)|skip
 all_goals(repeat' split at hs)<;>cases hs
def aeW(k:HR K' μ' Hc W')(nx:Nx K1 aK [] W K' μ' Hc W')(o:HR K1 μ H1 W)(d c:D)(v:Value)(g:VR K' μ' Hc d v)(hs:iP Hc d=some c)(l:fw (jK d)=true):∃b,HR K' b (place c H1).2 W'/\Nx K1 μ H1 W K' b (place c H1).2 W'/\VR K' b (place c H1).2 (place c H1).1 v:=by
 have i:=PS.start o k nx;have n:∀{e:D},gQ Hc d=some e->jK d=gR d->(∀m,e≠.tu m)->∃b,HR K' b (place e H1).2 W'/\Nx K1 μ H1 W K' b (place e H1).2 W'/\VR K' b (place e H1).2 (place e H1).1 v:=λ{e}p F G=>by
  have:place e H1=lY e H1:=by cases e<;>first|rfl|grind
  rw[this];obtain⟨b,u,f,q,j,r,s⟩:=Q8 k nx [] μ H1 d e v i g p (λa _ h=>by cases h) (by grind) (λa h=>by cases h);exact⟨b,f.hr,f.nx,j⟩
 cases d with|tu ds=>simp[iP,l3]at hs;obtain⟨t,w,rfl⟩:=hs;obtain⟨vs,rfl,x⟩:=g.tu_inv;obtain⟨b,u,f,q,j,r,s⟩:=Q7 _ _ gR (λy z A d c v i g hs B l C=>Q8 k nx y z A d c v i g hs B l C) xD (λ_=>rfl) (λ_ _ _=>rfl) ds t vs [] μ H1 i x w (λa _ h=>by cases h) l (λa h=>by cases h);exact⟨b,f.hr,f.nx,.tu _ _ _ _ j.1 j.2⟩|ag m=>refine n hs rfl (λH I=>?_);simp_all[iP,gQ]|_=>
 refine n hs rfl (λm E=>?_);subst E;simp only[iP,gQ,fN]at hs;repeat' split at hs
 all_goals first|(cases hs;done)|skip
 all_goals(repeat' split at hs)<;>cases hs
end
end
section
@[go_sem]theorem cg{x:Bool}:(D.b x).flat=true:=rfl
@[go_sem]theorem jj{k:IntKind}{x:Int}:(D.i k x).flat=true:=rfl
@[go_sem]def lH{x:List UInt8}:(D.s x).flat=true:=rfl
@[go_sem]def aCx:D.nil.flat=true:=rfl
@[go_sem]def aCy:D.z.flat=true:=rfl
@[go_sem]def aCz{w:Nat}{r:List (List D)}:(D.im w r).flat=true:=rfl
@[go_sem]def aCA:D.np.flat=true:=rfl
@[go_sem]def aCB:D.mnil.flat=true:=rfl
@[go_sem]def aCC:D.nf.flat=true:=rfl
@[go_sem]def aCD:D.ni.flat=true:=rfl
theorem Sl.flat{w:Nat}{rows:List (List D)}{x:D}(h:Sl w rows x):x.flat=true:=by cases h<;>rfl
theorem ah{d:D}(h:d.flat=true)(m:Nat)(H:ab):bS (m+1) H d=some (d,H):=by
 cases d<;>first|rfl|(cases h;done)|skip
 rename_i f a b;cases a with|cons=>cases h|nil=>cases b with|cons=>cases h|nil=>rfl
theorem Bp(m:Nat)(H:ab):∀{ds:List D},(∀d∈ds,d.flat=true)->aW (m+2) H ds=some (ds,H)|[],_=>gK _ _|d::ds,h=>by rw[dM,ah (h d N1)];simp;rw[Bp m H (λe a=>h e (M0 _ a))]
def Bq(m:Nat)(H:ab):∀{rs:List (List D)},(∀r∈rs,∀d∈r,d.flat=true)->io (m+3) H rs=some (rs,H)|[],_=>rO _ _|r::rs,h=>by rw[uM,Bp m H (h r N1)];simp;rw[Bq m H (λe a=>h e (M0 _ a))]
variable{b:List (List D)}
theorem oE(H:ab)(h:∀r∈b,∀d∈r,d.flat=true):iL H b=some (b,H):=Bq 9 H h
def vB(m:Nat)(ds:List D):Option (D×ab)->Option (List D×ab)
 |some (a,H')=>match aW (m+1) H' ds with|some (b,c)=>some (a::b,c)|none=>none
 |none=>none
def yd(a:D):Option (List D×ab)->Option (List D×ab)|some (b,c)=>some (a::b,c)|none=>none
section
variable{H:ab}
@[go_sem]def aj8:bG=12:=rfl
variable{y:Nat}
@[go_sem]def aj9:aW y H []=some ([],H):=gK _ _
@[go_sem]def aka{d:D}{ds:List D}:aW (y+1) H (d::ds)=vB y ds (bS y H d):=by rw[dM];cases bS y H d with|none=>rfl|some q=>rfl
@[go_sem]def akb{a:D}{ds:List D}:vB y ds (some (a,H))=yd a (aW (y+1) H ds):=by simp[vB];cases aW _ H ds<;>rfl
@[go_sem]def akc{a:D}{ds:List D}:yd a (some (ds,H))=some (a::ds,H):=rfl
@[go_sem]def aCE{x:Bool}:bS (y+1) H (.b x)=some ((.b x),H):=rfl
@[go_sem]def aCF{k:IntKind}{x:Int}:bS (y+1) H (.i k x)=some ((.i k x),H):=rfl
@[go_sem]def aCG{x:List UInt8}:bS (y+1) H (.s x)=some ((.s x),H):=rfl
@[go_sem]def aCH:bS (y+1) H .nil=some (.nil,H):=rfl
@[go_sem]def aCI:bS (y+1) H .z=some (.z,H):=rfl
@[go_sem]def aCJ{w:Nat}{r:List (List D)}:bS (y+1) H (.im w r)=some ((.im w r),H):=rfl
@[go_sem]def aCK:bS (y+1) H .np=some (.np,H):=rfl
@[go_sem]def aCL:bS (y+1) H .mnil=some (.mnil,H):=rfl
@[go_sem]def aCM:bS (y+1) H .nf=some (.nf,H):=rfl
@[go_sem]def aCN:bS (y+1) H .ni=some (.ni,H):=rfl
@[go_sem]def aCO{f:Fn}:bS (y+1) H (.fn f [] [])=some (.fn f [] [],H):=rfl
def Br:Option (List D×ab)->Option (D×ab)|some (ds,H)=>some (.ag ds,H)|none=>none
variable{z:List D}
@[go_sem]def aCP:bS (y+1) H (.ag z)=Br (aW y H z):=by rw[f7];simp;cases aW y H z<;>rfl
@[go_sem]def aCQ{ds:List D}:Br (some (ds,H))=some (.ag ds,H):=rfl
def ye(H:ab)(a off len:Nat):Option (Nat×List (List D)×Option Nat×Bool×Bool)->Option (D×ab)|some (w,rows,cap,true,_)=>if off+len<=rows.length then some (.im w ((rows.drop off).take len),H.set a (.ar w rows cap true true))else none|_=>none
@[go_sem]theorem So{a n off len:Nat}:bS (y+1) H (.mu a n off len)=ye H a off len (aO H a n):=by grind[f7,aO,ye]
@[go_sem]def aCR{a off len w:Nat}{rows:List (List D)}{cap:Option Nat}{lk:Bool}:ye H a off len (some (w,rows,cap,true,lk))=if off+len<=rows.length then some (.im w ((rows.drop off).take len),H.set a (.ar w rows cap true true))else none:=rfl
def vC:Option (D×ab)->Option D|some (d,_)=>some d|none=>none
def yf:Option (List D×ab)->Option D|some (ds,_)=>some (.tu ds)|none=>none
def Bt{d:D}:rZ H d=vC (bS 12 H d):=by grind[rZ,vC,bG]
@[go_sem]def aCS{d:D}:vC (some (d,H))=some d:=rfl
@[go_sem]def aCT{d:List D}:yf (some (d,H))=some (.tu d):=rfl
@[go_sem]def aCU{ds:List D}:eE H (.tu ds)=yf (aW 12 H ds):=by grind[eE,yf,bG]
def iV{d:D}(h:d.flat=true):eE H d=some d:=by
 have:eE H d=rZ H d:=by cases d<;>first|rfl|cases h
 rw[this,Bt,ah h];rfl
@[go_sem]def aCV{x:Bool}:eE H (.b x)=some (.b x):=rfl
@[go_sem]def aCW{k:IntKind}{x:Int}:eE H (.i k x)=some (.i k x):=rfl
@[go_sem]def aCX{x:List UInt8}:eE H (.s x)=some (.s x):=rfl
@[go_sem]def aCY:eE H .nil=some .nil:=rfl
@[go_sem]def aCZ:eE H .z=some .z:=rfl
@[go_sem]def aC0{w:Nat}{r:List (List D)}:eE H (.im w r)=some (.im w r):=rfl
@[go_sem]def aC1:eE H .np=some .np:=rfl
@[go_sem]def aC2:eE H .mnil=some .mnil:=rfl
@[go_sem]def aC3:eE H .nf=some .nf:=rfl
@[go_sem]def aC4:eE H .ni=some .ni:=rfl
@[go_sem]def aC5:eE H (.ag z)=vC (bS 12 H (.ag z)):=Bt
@[go_sem]def aC6{a n off len:Nat}:eE H (.mu a n off len)=vC (bS 12 H (.mu a n off len)):=Bt
def Sp(t:TypeId):Option (D×ab)->Option (D×ab)|some (d,H)=>some (.ifc t d,H)|none=>none
@[go_sem]def aC7{t:TypeId}{d:D}:bS (y+1) H (.ifc t d)=Sp t (bS y H d):=by rw[f7];simp;cases bS y H d<;>rfl
@[go_sem]def aC8{t:TypeId}{d:D}:Sp t (some (d,H))=some (.ifc t d,H):=rfl
@[go_sem]def aC9{d:D}:ol false H d=eE H d:=rfl
@[go_sem]def aDa{d:D}:ol true H d=if fw (jK d)then iP H d else none:=rfl
@[go_sem]def sB{d:D}:eT false d H=(d,H):=rfl
@[go_sem]def aDb{d:D}:eT true d H=place d H:=rfl
theorem akd{d:D}(h:d.flat=true):place d H=(d,H):=by cases d<;>first|rfl|(cases h;done)
end
section
variable{V:aw}{H:ab}{f:FuncId}{vf:aJ}{K:CR->Prop}
def eU(a:V.fn f=some vf)(b:vf.pure=true){args ds:List D}{H1:ab}{d:D}(h:ai V f ds d)(c:aW bG H args=some (ds,H1))(e:vf.fre=false:=by first|rfl|assumption):ac V f args H K↔K (.ret (eT vf.own d H1).1 (eT vf.own d H1).2):=by grind[dO,cz.pure]
def D.plain:D->Bool|.ag ds=>ds.all D.flat|d=>d.flat
def Sl.pl{w:Nat}{rows:List (List D)}{x:D}(h:Sl w rows x):x.plain=true:=by cases h<;>rfl
@[go_sem]def jS{x:Bool}:(D.b x).plain=true:=rfl
@[go_sem]theorem aZ{k:IntKind}{x:Int}:(D.i k x).plain=true:=rfl
@[go_sem]def oF{x:List UInt8}:(D.s x).plain=true:=rfl
@[go_sem]def aDc:D.nil.plain=true:=rfl
@[go_sem]theorem bO{l:List D}:(D.ag l).plain=l.all D.flat:=rfl
def ake{d:D}(h:d.plain=true)(m:Nat)(H:ab):bS (m+6) H d=some (d,H):=by grind[D.plain,f7,Bp,ah]
def mj{H:ab}:∀{ds:List D},(∀d∈ds,d.plain=true)->aW bG H ds=some (ds,H)|[],_=>gK _ _|d::ds,h=>by have b:bS 11 H d=some _:=ake (h d N1) 5 H;have c:aW 12 H ds=some _:=mj λe a=>h e (M0 _ a);show aW 12 H _=_;grind[dM]
theorem ai.c{ds:List D}{d:D}(h:ai V f ds d)(b:V.fn f=some vf)(c:vf.pure=true)(e:ds.all D.plain=true)(a:vf.own=false\/d.flat=true):ac V f ds H K↔K (.ret d H):=by
 rw[dO (cz.pure0 b c (mj (by grind)) h),RQ];rcases a with a|a;·rw[a];rfl
 cases g:vf.own<;>grind[eT,akd]
end
theorem wr{x:Int}(a:-9223372036854775808<=x)(b:x<9223372036854775808):IntKind.i64.wrap x=x:=IntWalk.i64_in _ (by omega)
@[go_sem]def aDd{i:Nat}:((i:Int)-1).toNat=i-1:=by omega
@[go_sem]def aDe{i:Nat}:((i:Int)+1).toNat=i+1:=by omega
@[go_sem]def aDf{i j:Nat}:((i:Int)+j).toNat=i+j:=by omega
attribute[go_sem]Int.toNat_natCast Int.toNat_zero Int.toNat_one Int.natCast_add List.length_map List.length_append List.length_set List.length_replicate List.length_singleton Int.sub_zero Int.add_zero Int.zero_add Nat.sub_zero St.mk.injEq List.cons.injEq D.i.injEq D.b.injEq D.s.injEq D.ag.injEq D.bx.injEq D.mu.injEq D.im.injEq CR.ret.injEq PR.ret.injEq true_and and_true exists_eq_left exists_eq_right exists_eq_left' exists_eq_right' exists_eq exists_eq' exists_and_left exists_and_right
section
variable{V:aw}{Q:Ex->St->Prop}{dr:Option (Bs×Bool)}{os:List aq}{keep:Option Nat}{loc sl sl':List D}{H H':ab}{w:Nat}{α:Type}[Inhabited α]{enc:α->List D}{l:List α}{d:D}{k:IntKind}{x:Int}
def Sl.q(h:Sl w (l.map enc) d):aI V dr os keep loc sl Q (aE ⟨sl',H⟩ (cG H' d (.i k x) w))↔(0<=x/\x<l.length)/\aI V dr os keep loc sl Q (.v (.ip (enc l[x.toNat]!)) ⟨sl',H⟩):=by
 have a:∀{d},cG H' d (.i k x) w=none->¬(0<=x/\x<l.length)->(aI V dr os keep loc sl Q (aE ⟨sl',H⟩ (cG H' d _ w))↔(0<=x/\x<l.length)/\aI V dr os keep loc sl Q (.v (.ip (enc l[x.toNat]!)) ⟨sl',H⟩)):=λ{d}e b=>by rw[e];exact⟨λh=>h.elim,λh=>(b h.1).elim⟩
 cases h with|nil h=>
 have:l=[]:=by simp_all
 subst this;exact a rfl (by simp)|z h=>
 have:l=[]:=by simp_all
 subst this;exact a rfl (by simp)|im=>grind[cG,fh,RZ]
omit[Inhabited α]in theorem Sl.n(h:Sl w (l.map enc) d):dS H 1 d=some (.i .i64 l.length):=by rw[h.len,T3]
def Sl.c1{rows:List (List D)}(h:Sl w rows d):d.cellsN 1=some [d]:=by cases h<;>rfl
end
def Gx(n:Nat):Option an->Option (Nat×List (List D)×Option Nat×Bool×Bool)|some (.ar w rows cap p lk)=>if rows.length=n then some (w,rows,cap,p,lk)else none|_=>none
@[go_sem]theorem akf{H:ab}{a n:Nat}:aO H a n=Gx n H[a]?:=by grind[aO,Gx]
@[go_sem]theorem akg{n w:Nat}{rows:List (List D)}{cap:Option Nat}{p lk:Bool}:Gx n (some (.ar w rows cap p lk))=if rows.length=n then some (w,rows,cap,p,lk)else none:=rfl
def Bu(a n off len w:Nat)(b:D):Option (Nat×List (List D)×Option Nat×Bool×Bool)->Option D
 |some (w',_,_,_,_)=>match fh b len with|some j=>if w'=w then some (.ap a n (off+j) 0)else none|none=>none
 |none=>none
@[go_sem]def aDg{H:ab}{a n off len w:Nat}{b:D}:cG H (.mu a n off len) b w=Bu a n off len w b (aO H a n):=by grind[cG,Bu]
def Bv(off k:Nat)(i:Nat):Option (Nat×List (List D)×Option Nat×Bool×Bool)->Option (List D)
 |some (_,rows,_,_,_)=>match rows[i]? with|some r=>eQ r off k|none=>none
 |none=>none
def Bw(off k:Nat):Option (List D)->Option (List D)|some r=>eQ r off k|none=>none
@[go_sem]def aDh{H:ab}{a n i off k:Nat}:cT H (.ap a n i off) k=Bv off k i (aO H a n):=by grind[cT,Bv]
@[go_sem]def aDi{off k i w:Nat}{rows:List (List D)}{cap:Option Nat}{p lk:Bool}:Bv off k i (some (w,rows,cap,p,lk))=Bw off k rows[i]?:=by simp[Bv];cases rows[i]?<;>rfl
@[go_sem]def aDj{off k:Nat}{r:List D}:Bw off k (some r)=eQ r off k:=rfl
def Gy(H:ab)(a n i off:Nat)(vs:List D):Option (Nat×List (List D)×Option Nat×Bool×Bool)->Option ab
 |some (w,rows,cap,true,lk)=>match aW bG H vs with
  |some (b,H')=>match aO H' a n with|some (_,_,_,true,_)=>lX H' a n i off b|_=>none
  |none=>none
 |some (_,_,_,false,_)=>lX H a n i off vs|none=>none
def akh{H:ab}{a n i off:Nat}{vs:List D}:gl H (.ap a n i off) vs=Gy H a n i off vs (aO H a n):=by grind[gl,Gy]
def oG(H:ab)(a w:Nat)(rows:List (List D))(i off:Nat)(vs:List D)(cap:Option Nat)(p:Bool):Option (List D)->Option ab
 |some r=>match cS r off vs with|some b=>some (H.set a (.ar w (rows.set i b) cap p false))|none=>none
 |none=>none
def Bx(H:ab)(a w:Nat)(rows:List (List D))(i:Nat)(cap:Option Nat)(p:Bool):Option (List D)->Option ab|some b=>some (H.set a (.ar w (rows.set i b) cap p false))|none=>none
theorem aki{H:ab}{a n i off w:Nat}{rows:List (List D)}{cap:Option Nat}{p:Bool}{vs:List D}(h:aO H a n=some (w,rows,cap,p,false)):lX H a n i off vs=oG H a w rows i off vs cap p rows[i]?:=by grind[lX,oG]
@[go_sem]theorem akj{H:ab}{a w:Nat}{rows:List (List D)}{i off:Nat}{vs r:List D}{cap:Option Nat}{p:Bool}:oG H a w rows i off vs cap p (some r)=Bx H a w rows i cap p (cS r off vs):=by simp[oG];cases cS r off vs<;>rfl
@[go_sem]def aDk{H:ab}{a w:Nat}{rows:List (List D)}{i:Nat}{r:List D}{cap:Option Nat}{p:Bool}:Bx H a w rows i cap p (some r)=some (H.set a (.ar w (rows.set i r) cap p false)):=rfl
def Sq{H:ab}{a n i off:Nat}{vs:List D}{w:Nat}{rows:List (List D)}{cap:Option Nat}{p:Bool}(b:vs.all D.flat=true)(h:aO H a n=some (w,rows,cap,p,false)):gl H (.ap a n i off) vs=oG H a w rows i off vs cap p rows[i]?:=by rw[akh,h];cases p<;>grind[Gy,aki,bG,Bp]
def By:=gl
def Bz(H:ab)(a n i off:Nat)(vs:List D):Option an->Option ab|some (.ar w rows cap p false)=>if rows.length=n then(if vs.all D.flat then oG H a w rows i off vs cap p rows[i]? else By H (.ap a n i off) vs)else none|_=>By H (.ap a n i off) vs
@[go_sem]theorem akk{H:ab}{a n i off:Nat}{vs:List D}:gl H (.ap a n i off) vs=Bz H a n i off vs H[a]?:=by cases h:H[a]? with|none=>rfl|some b=>cases b with
 |ar w rows cap p lk=>cases lk with|true=>rfl|false=>
 simp only[Bz];split
 ·rename_i c;split;·rename_i d;exact Sq d (by simp[aO,h,c])
  rfl
 rename_i c;simp[gl,aO,h,c]|_=>rfl
@[go_sem]def aDl{H:ab}{a n i off w:Nat}{vs:List D}{rows:List (List D)}{cap:Option Nat}{p:Bool}:Bz H a n i off vs (some (.ar w rows cap p false))=if rows.length=n then(if vs.all D.flat then oG H a w rows i off vs cap p rows[i]? else By H (.ap a n i off) vs)else none:=rfl
section
variable{V:aw}{Q:Ex->St->Prop}{dr:Option (Bs×Bool)}{os:List aq}{keep:Option Nat}{loc sl sl':List D}{H H':ab}{w w':Nat}{α:Type}[Inhabited α]{enc:α->List D}{l:List α}{d:D}{k:IntKind}{x:Int}
@[go_sem]def aDm{a n off len:Nat}{rows:List (List D)}{cap:Option Nat}{p lk:Bool}:aI V dr os keep loc sl Q (aE ⟨sl',H⟩ (Bu a n off len w (.i k x) (some (w,rows,cap,p,lk))))↔(0<=x/\x<len)/\aI V dr os keep loc sl Q (.v (.ap a n (off+x.toNat) 0) ⟨sl',H⟩):=by grind[Bu,fh,aE,aI]
@[go_sem]def aDn{a:Bool}{i off n:Nat}:aI V dr os keep loc sl Q (mg ⟨sl',H⟩ a (Bw off n (l.map enc)[i]?))↔i<l.length/\aI V dr os keep loc sl Q (mg ⟨sl',H⟩ a (eQ (enc l[i]!) off n)):=by grind[Bw,mg,aI]
@[go_sem]def akl{a i off:Nat}{vs:List D}{cap:Option Nat}{p:Bool}:aI V dr os keep loc sl Q (iO ⟨sl',H⟩ (oG H' a w (l.map enc) i off vs cap p (l.map enc)[i]?))↔i<l.length/\aI V dr os keep loc sl Q (iO ⟨sl',H⟩ (Bx H' a w (l.map enc) i cap p (cS (enc l[i]!) off vs))):=by grind[akj,oG,iO,aI]
end
def Sr(a:List (List D))(w i:Nat)(b:List (Nat×D)):Option (List D)->Option (List (List D))|some vs=>if i<a.length then jG (a.set i vs) w b else none|none=>none
@[go_sem]def aDo{w:Nat}:jG b w []=some b:=rfl
variable{a:List (Nat×D)}
@[go_sem]def aDp{w i:Nat}{v:D}:jG b w ((i,v)::a)=Sr b w i a (v.cellsN w):=by rw[jG];cases v.cellsN w<;>rfl
@[go_sem]def aDq{w i:Nat}{vs:List D}:Sr b w i a (some vs)=if i<b.length then jG (b.set i vs) w a else none:=rfl
def zz(a:List D):Nat->List (List D)|0=>[]|n+1=>a::zz a n
def Ss(a:List D):∀n,List.replicate n a=zz a n|0=>rfl|n+1=>by rw[ABB,Ss a n];rfl
variable{z:List D}
@[go_sem]def aDr:zz z 0=[]:=rfl
@[go_sem]def aDs{n:Nat}:zz z (n+1)=z::zz z n:=rfl
@[go_sem]def aDt{w:Nat}{b:List D}:pU w 0 b a=some .z:=rfl
@[go_sem]def aDu{w n:Nat}:pU w (n+1) z a=(jG (zz z (n+1)) w a).map λrows=>.sv w rows:=by rw[<-Ss];rfl
@[go_sem]def aDv{H:ab}{w:Nat}{b:List D}{p:Bool}:ob H w 0 b a p=some (.z,H):=rfl
section
variable{V:aw}{Q:Ex->St->Prop}{dr:Option (Bs×Bool)}{os:List aq}{keep:Option Nat}{loc sl sl':List D}{H H':ab}
@[go_sem]def aDw{k a:IntKind}{x c:Int}{w bytes:Nat}{p:Bool}:aI V dr os keep loc sl Q (gO ⟨sl',H'⟩ (oc H (.i k x) (.i a c) w bytes z p))↔((0<=c/\c<=140737488355328)/\(0<=x/\x<=c)/\c.toNat*bytes<=140737488355328)/\aI V dr os keep loc sl Q (.v (.mu H.length c.toNat 0 x.toNat) ⟨sl',H++[.ar w (List.replicate c.toNat z) (some c.toNat) p false]⟩):=by grind[oc,ij,fu,gO,aI]
end
def bD(H0:ab)(x0:D)(rows:List (List D)):D:=match rows with|[]=>x0|_::_=>.mu H0.length rows.length 0 rows.length
def bH(H0:ab)(w:Nat)(rows:List (List D)):ab:=match rows with|[]=>H0|_::_=>H0++[.ar w rows none true false]
def iW(x0:D)(w:Nat)(rows:List (List D)):D:=match rows with|[]=>x0|_::_=>.im w rows
def lI(x0:D):Bool:=match x0 with|.nil|.z=>true|_=>false
@[go_sem]def aDx:lI .nil=true:=rfl
@[go_sem]def aDy:lI .z=true:=rfl
def oH{x0:D}(a:lI x0=true)(w:Nat)(rows:List (List D)):Sl w rows (iW x0 w rows):=by cases rows with
 |nil=>cases x0<;>first|exact .nil rfl|exact .z rfl|cases a
 |cons r rows=>exact .im
theorem Gz{n b:Nat}(h:n*b<=140737488355328)(a:n<=140737488355328):fu n b=true:=by grind[fu]
section
variable{H0:ab}{x0:D}{w bytes:Nat}{rows:List (List D)}{r:List D}
theorem akm(a:lI x0=true)(b:r.all D.flat=true)(c:fu (rows.length+1) bytes=true):bY (bH H0 w rows) (bD H0 x0 rows) (.sv w [r]) w bytes true=some (bD H0 x0 (rows++[r]),bH H0 w (rows++[r])):=by
 have d:∀H,iL H [r]=some _:=λH=>oE H (λq f=>by grind)
 cases rows with|nil=>
 have e:gM H0 x0 [r] w bytes true=kI H0 x0 [r] w bytes true:=by cases x0<;>first|rfl|cases a
 grind[bH,bD,bY,fM,kI]|cons u g=>simp_all[aO,bH,bY,bD,fM,gM,mV,jE]
def akn{α:Type}{enc:α->List D}{l:List α}(a:lI x0=true)(b:r.all D.flat=true)(c:(l.length+1)*bytes<=140737488355328)(d:l.length<140737488355328):bY (bH H0 w (l.map enc)) (bD H0 x0 (l.map enc)) (.sv w [r]) w bytes true=some (bD H0 x0 (l.map enc++[r]),bH H0 w (l.map enc++[r])):=by grind[akm,Gz]
def ako:=bY
def BA{α:Type}{enc:α->List D}{l:List α}{y x0:D}(c:lI x0=true)(d:Sl w (l.map enc) y)(g:∀a,(enc a).all D.flat=true)(h:l.length*bytes<=140737488355328)(i:l.length<=140737488355328){H:ab}:bY H x0 y w bytes true=some (bD H x0 (l.map enc),bH H w (l.map enc)):=by
 have f:iL H (l.map enc)=some _:=oE H (λq j=>by grind);have e:∀b,gM H x0 b w bytes true=kI H x0 b w bytes true:=λb=>by cases x0<;>first|rfl|cases c
 simp[bY,d.cont,f,e];cases l<;>grind[fu,kI,bD,bH]
theorem m9{α:Type}{enc:α->List D}{l:List α}(a:(l.length+1)*bytes<=140737488355328)(b:l.length<140737488355328):bY (bH H0 w (l.map enc)) (bD H0 .nil (l.map enc)) (.sv w [r]) w bytes true=if r.all D.flat then some (bD H0 .nil (l.map enc++[r]),bH H0 w (l.map enc++[r]))else ako (bH H0 w (l.map enc)) (bD H0 .nil (l.map enc)) (.sv w [r]) w bytes true:=by
 split;·rename_i c;exact akn rfl c a b
 rfl
def akp(a:lI x0=true){H:ab}:dS H 1 (bD H0 x0 rows)=some (.i .i64 rows.length):=by cases rows with
 |nil=>cases x0<;>first|rfl|cases a
 |cons r rows=>rfl
def akq(a:lI x0=true):(bD H0 x0 rows).cellsN 1=some [bD H0 x0 rows]:=by cases rows with
 |nil=>cases x0<;>first|rfl|cases a
 |cons r rows=>rfl
def akr(a:lI x0=true):(bD H0 x0 rows).under ((bH H0 w rows).length,[])=true:=by cases rows with
 |nil=>cases x0<;>first|rfl|cases a
 |cons r rows=>grind[bD,bH,D.under,Bs.un]
def Su(a:lI x0=true)(m:Nat):∃H',bS (m+1) (bH H0 w rows) (bD H0 x0 rows)=some (iW x0 w rows,H')/\H'.length=(bH H0 w rows).length/\∀b,b<H0.length->H'[b]?=H0[b]?:=by cases rows with
 |nil=>cases x0<;>first|exact⟨H0,rfl,rfl,λ_ _=>rfl⟩|cases a
 |cons r rows=>grind[bH,So,bD,aO,ye,iW]
def GB(a:lI x0=true):eE (bH H0 w rows) (bD H0 x0 rows)=some (iW x0 w rows):=by
 obtain⟨H',e,_⟩:=Su (H0:=H0) (w:=w) (rows:=rows) a 11;have:eE (bH H0 w rows) (bD H0 x0 rows)=rZ (bH H0 w rows) (bD H0 x0 rows):=by cases rows with
 |nil=>cases x0<;>first|rfl|cases a
 |cons r rows=>rfl
 rw[this,Bt,e];rfl
def aks{i:Nat}(hi:i<rows.length){k:IntKind}:cG (bH H0 w rows) (bD H0 x0 rows) (.i k i) w=some (.ap H0.length rows.length i 0):=by cases rows<;>grind[aO,bH,bD,cG,fh]
theorem Sv(hr:rows≠[]):aO (bH H0 w rows) H0.length rows.length=some (w,rows,none,true,false):=by cases rows<;>grind[bH,aO]
theorem akt(hr:rows≠[]){i:Nat}:(bH H0 w rows).set H0.length (.ar w (rows.set i r) none true false)=bH H0 w (rows.set i r):=by cases rows with|nil=>grind|cons q rows=>cases i<;>simp[bH]
end
def bP(H0:ab)(n i off:Nat):D:=.ap H0.length n i off
def GC(H0:ab)(w:Nat)(rows:List (List D))(i:Nat):Option (List D)->Option ab|some r=>some (bH H0 w (rows.set i r))|none=>none
theorem vD{H0:ab}{x0:D}{rows rows':List (List D)}(h:rows.length=rows'.length):bD H0 x0 rows=bD H0 x0 rows':=by cases rows with|nil=>grind|cons=>cases rows'<;>grind[bD]
section
variable{V:aw}{Q:Ex->St->Prop}{dr:Option (Bs×Bool)}{os:List aq}{keep:Option Nat}{loc sl sl':List D}{H0 H H':ab}{w n i o off:Nat}{α:Type}{enc:α->List D}{l:List α}{k:IntKind}{x:Int}{rows:List (List D)}
@[go_sem]def aDz:dS H 1 (bD H0 .nil (l.map enc))=some (.i .i64 l.length):=by rw[akp rfl,T3]
@[go_sem]def aDA:(bD H0 .nil rows).cellsN 1=some [bD H0 .nil rows]:=akq rfl
@[go_sem]def aDB:(bD H0 .nil rows).under ((bH H0 w rows).length,[])=true:=akr rfl
@[go_sem]def aDC:n7 (bP H0 n i o) off=some (bP H0 n i (o+off)):=rfl
@[go_sem]def aDD:(bP H0 n i o).under ((bH H0 w (l.map enc)).length,[])=decide (0<l.length):=by cases l<;>simp[bP,bH,D.under,Bs.un]
@[go_sem]def aDE{b:an}:(bH (b::H0) w rows)[0]?=some b:=by cases rows<;>rfl
@[go_sem]def aDF:aI V dr os keep loc sl Q (aE ⟨sl',H'⟩ (cG (bH H0 w (l.map enc)) (bD H0 .nil (l.map enc)) (.i k x) w))↔(0<=x/\x<l.length)/\aI V dr os keep loc sl Q (.v (bP H0 l.length x.toNat 0) ⟨sl',H'⟩):=by
 by_cases a:0<=x/\x<l.length
 ·obtain⟨i,rfl⟩:=AAG a.1;have hi:i<(l.map enc).length:=by grind
  rw[aks hi];simp[a,true_and,aE,dA,T3];rfl
 have:cG (bH H0 w (l.map enc)) (bD H0 .nil (l.map enc)) (.i k x) w=none:=by cases l<;>grind[bD,cG,fh]
 grind[aE,aI]
@[go_sem]def aDG[Inhabited α]{a:Bool}:aI V dr os keep loc sl Q (mg ⟨sl',H'⟩ a (cT (bH H0 w (l.map enc)) (bP H0 l.length i off) n))↔i<l.length/\aI V dr os keep loc sl Q (mg ⟨sl',H'⟩ a (eQ (enc l[i]!) off n)):=by cases l<;>grind[cT,bP,aO,mg,aI,Sv]
@[go_sem]def aDH[Inhabited α]{vs:List D}:aI V dr os keep loc sl Q (iO ⟨sl',H'⟩ (gl (bH H0 w (l.map enc)) (bP H0 l.length i off) vs))↔if vs.all D.flat then i<l.length/\aI V dr os keep loc sl Q (iO ⟨sl',H'⟩ (GC H0 w (l.map enc) i (cS (enc l[i]!) off vs)))else aI V dr os keep loc sl Q (iO ⟨sl',H'⟩ (By (bH H0 w (l.map enc)) (bP H0 l.length i off) vs)):=by
 split;·rename_i b;cases l with|nil=>grind[gl,bH,bP,aO,iO,aI]|cons a l=>
  have c:aO (bH H0 w ((a::l).map enc)) H0.length (a::l).length=some (w,(a::l).map enc,none,true,false):=by grind[Sv]
  unfold bP;rw[Sq b c,akl];grind[cS,Bx,GC,akt]
 exact W0
@[go_sem]def aDI{r:List D}:GC H0 w rows i (some r)=some (bH H0 w (rows.set i r)):=rfl
@[go_sem]def aDJ:eE (bH H0 w rows) (bD H0 .nil rows)=some (iW .nil w rows):=GB rfl
def bL(H0:ab)(w:Nat)(rows:List (List D)):ab:=match rows with|[]=>H0|_::_=>H0++[.ar w rows none true true]
variable{y:Nat}
@[go_sem]def aDK:bS (y+1) (bH H0 w rows) (bD H0 .nil rows)=some (iW .nil w rows,bL H0 w rows):=by cases rows with|nil=>rfl|cons r rows=>grind[So,bD,bH,aO,ye,iW,bL]
theorem mo[Inhabited α](h:l≠[]):bH H0 w (l.map enc)=H0++[.ar w (l.map enc) none true false]/\bD H0 .nil (l.map enc)=.mu H0.length l.length 0 l.length:=by cases l with|nil=>grind|cons a l=>exact⟨rfl,by simp[bD]⟩
end
section
variable{V:aw}{H:ab}{f:FuncId}{vf:aJ}{K:CR->Prop}
def aku(K:CR->Prop):PR->Prop|.ret d=>∀H,K (.ret d H)|.pan d=>∀H,K (.pan d H)|.bad=>False
def ac.fz(c:V.fn f=some vf)(e:vf.pure=true)(g:vf.own=false){args ds:List D}(a:∃b,aW bG H args=some (ds,b))(h:aH V f ds (aku K)):ac V f args H K:=by obtain⟨b,a⟩:=a;refine ac.pure0 c e a (h.mono λr hr=>?_);cases r with|ret d=>simp[Gv,g];exact hr _|pan d=>exact hr b|bad=>exact hr
def akv{H0:ab}{x0:D}{w:Nat}{rows:List (List D)}(a:lI x0=true):∃b,aW bG (bH H0 w rows) [bD H0 x0 rows]=some ([iW x0 w rows],b):=by obtain⟨H',e,_⟩:=Su (H0:=H0) (w:=w) (rows:=rows) a 10;simp_all[aj8,aka,akb,aj9,akc]
def ac.pl(a:V.fn f=some vf)(b:vf.pure=true)(c:vf.own=false){ds:List D}(e:ds.all D.plain=true)(h:aH V f ds (λr=>match r with|.ret d=>K (.ret d H)|.pan d=>K (.pan d H)|.bad=>False)):ac V f ds H K:=by refine ac.pure0 a b (mj (by grind)) (h.mono λr hr=>?_);cases r with|ret d=>simp[Gv,c,RQ];exact hr|pan d=>exact hr|bad=>exact hr
end
end
section
section
variable{α:Type}[Inhabited α]{p:α->Bool}{l:List α}{i:Nat}
structure xI(p:α->Bool)(l:List α)(i:Nat):Prop where h:∀k,k<i->p l[k]! =false
def adK:xI p l 0:=⟨λk a=>by omega⟩
def adL:xI p l (i+1)↔xI p l i/\p l[i]! =false:=by
 refine⟨λh=>⟨⟨λk a=>h.h k (by omega)⟩,h.h i (by omega)⟩,λh=>⟨λk a=>?_⟩⟩;by_cases e:k=i;·grind
 exact h.1.h k (by omega)
theorem adM(hi:i<l.length)(h:p l[i]! =true):l.any p=true:=by grind
theorem adN(h:xI p l l.length):l.any p=false:=by rw[List.any_eq_false];intro x a;obtain⟨k,b,rfl⟩:=kz.1 a;have:=h.h k b;grind
end
section
variable{α β:Type}[Inhabited α]
def tf(p:α->Bool)(g:α->β)(l:List α)(i:Nat):List β:=((l.take i).filter p).map g
end
def Qf(w:Nat)(agg:Bool):aR:=(.seq (.reg [⟨.bin .lss (.s 5) (.s 6),some 3,none⟩] none) (.seq (.cond (.s 3) .skip (.exit 0)) (.seq (.block 1 (.seq (.reg [⟨.mov (.s 5),none,none⟩,⟨.mov (.l 0),some 7,none⟩] none) (.seq (.reg [⟨.mov (.s 1),none,none⟩,⟨.mov (.s 0),none,none⟩,⟨.mov (.s 7),none,none⟩,⟨.iad (.l 1) (.l 2) w,none,none⟩,⟨.ld (.l 3) w agg,none,none⟩,⟨.calv (.l 0) [(.l 4)],some 4,none⟩] none) (.cond (.s 4) (.seq (.reg [⟨.mov (.s 7),none,none⟩,⟨.mov (.l 0),some 2,none⟩] none) .ret) .skip)))) (.reg [⟨.bin .add (.s 5) (.c (.i .i64 1)),none,none⟩,⟨.mov (.l 0),some 5,none⟩] none))))
def Fs(w:Nat)(agg:Bool):aJ:=⟨2,8,[.s 2],(.seq (.reg [⟨.mov (.c (.i .i64 0)),some 2,none⟩] none) (.seq (.seq (.reg [⟨.mov (.s 0),none,none⟩,⟨.len 1 (.l 0),some 6,none⟩,⟨.mov (.c (.i .i64 0)),some 5,none⟩] none) (.block 0 (.loop (Qf w agg)))) (.seq (.reg [⟨.mov (.c (.i .i64 (-1))),some 2,none⟩] none) .ret))),false,false,none,false,none⟩
def Qg(g:FuncId):aJ:=⟨2,3,[.s 2],(.seq (.reg [⟨.mov (.c (.b false)),some 2,none⟩] none) (.seq (.reg [⟨.mov (.s 0),none,none⟩,⟨.mov (.s 1),none,none⟩,⟨.call g [(.l 0),(.l 1)],none,none⟩,⟨.bin .geq (.l 2) (.c (.i .i64 0)),none,none⟩,⟨.mov (.l 3),some 2,none⟩] none) .ret)),false,false,none,false,none⟩
section
variable{α:Type}[Inhabited α]{V:aw}{f h g:FuncId}{w:Nat}{agg:Bool}{enc:α->List D}{key:α->D}{l:List α}{x:D}{H:ab}{cp:List D}{p:α->Bool}
def adO(j:V.fn f=some (Fs w agg))(c:Sl w (l.map enc) x)(v:l.length<4611686018427387904)(k:∀a,(enc a).length=w)(m:∀a,val agg (enc a)=some (key a))(y:g<4294967295)(n:∀a K,ac V g (key a::cp) H K↔K (.ret (.b (p a)) H))(o:V.ext f [x,.fn (.func g) [] cp] H=none:=by first|rfl|assumption):ac V f [x,.fn (.func g) [] cp] H (λr=>∃i:Int,r=.ret (.i .i64 i) H/\decide (0<=i)=l.any p):=by refine .body j rfl rfl ?_ o;simp[go_sem,Fs,c.n];refine ak.up (λi s=>xI p l i/\∃d e h,s=⟨[x,.fn _ [] cp,.i .i64 0,d,e,.i .i64 i,.i .i64 _,h],H⟩) l.length ⟨adK,.u,.u,.u,rfl⟩ ?_;rintro i s hi⟨q,d,e,h,rfl⟩;have t:∀a,(enc a).take w=enc a:=λa=>E2 (by grind);simp(disch:=omega)only[go_sem,Int.reduceLE,Qf,c.q,k,t,m,n,wr,adL,q];grind[adN,adM]
def xJ(c:V.fn f=some (Qg h))(d:V.fn h=some (Fs w agg))(e:Sl w (l.map enc) x)(j:l.length<4611686018427387904)(k:∀a,(enc a).length=w)(m:∀a,val agg (enc a)=some (key a))(n:g<4294967295)(o:∀a K,ac V g (key a::cp) H K↔K (.ret (.b (p a)) H))(q:V.ext f [x,.fn (.func g) [] cp] H=none:=by first|rfl|assumption)(s:V.ext h [x,.fn (.func g) [] cp] H=none:=by first|rfl|assumption){K:CR->Prop}:ac V f [x,.fn (.func g) [] cp] H K↔K (.ret (.b (l.any p)) H):=by refine dO (cz.iff_q.2 (.body c rfl rfl ?_ q));simp[go_sem,Qg];refine(adO d e j k m n o s).mono ?_;rintro r⟨i,rfl,hi⟩;simp[go_sem,hi]
end
end
section
def ds(B n:Nat):List Nat:=if h:n=0\/B<2 then[]else n%B::ds B (n/B)termination_by n decreasing_by exact ABU (by omega) (by omega)
def vl(B:Nat):List Nat->Nat|[]=>0|a::l=>a+B*vl B l
def lm(B:Nat)(l:List Nat):Prop:=∀a∈l,a<B
def tp(l:List Nat):Prop:=l≠[]->l[l.length-1]!≠0
section
variable{B:Nat}
theorem bE:ds B 0=[]:=by grind[ds]
theorem gF{n:Nat}(a:2<=B)(h:n≠0):ds B n=n%B::ds B (n/B):=by grind[ds]
theorem bF(a:2<=B)(n:Nat):vl B (ds B n)=n:=by induction n using Nat.strongRecOn with|ind n b=>
 by_cases h:n=0;·rw[h,bE];rfl
 rw[gF a h,vl,b _ (ABU (by omega) (by omega))];exact zv n B
theorem ie:lm B []:=λ_ h=>by cases h
def jA{a:Nat}{l:List Nat}:lm B (a::l)↔a<B/\lm B l:=List.forall_mem_cons
def co(a:2<=B)(n:Nat):lm B (ds B n):=by induction n using Nat.strongRecOn with|ind n b=>
 by_cases h:n=0;·grind[bE,ie]
 rw[gF a h,jA];exact⟨mm _ (by omega),b _ (ABU (by omega) (by omega))⟩
def Aj{l m:List Nat}:lm B (l++m)↔lm B l/\lm B m:=List.forall_mem_append
theorem gj{l:List Nat}(h:lm B l)(i:Nat):lm B (l.take i):=λa b=>h a (AA4 b)
def Ak{l:List Nat}(h:lm B l)(i:Nat):lm B (l.drop i):=λa b=>h a (AA5 b)
def gG{l:List Nat}(h:lm B l){i v:Nat}(d:v<B):lm B (l.set i v):=λa c=>by
 rcases List.mem_or_eq_of_mem_set c with b|b;·exact h a b
 omega
def cF{l:List Nat}(h:lm B l){i:Nat}(hi:i<l.length):l[i]!<B:=by rw[Hy l i hi];exact h _ (hY hi)
def nX{k v:Nat}(b:v<B):lm B (List.replicate k v):=λa c=>by grind
def dR(b:2<=B):∀{l:List Nat},lm B l->vl B l<B^l.length|[],_=>by simp[vl]|a::l,h=>by have c:=jA.1 h;have d:=dR b c.2;rw[vl,fA,oa];have:B*(vl B l+1)<=B*B^l.length:=gp _ d;grind
theorem rA{l m:List Nat}:vl B (l++m)=vl B l+B^l.length*vl B m:=by induction l with|nil=>simp[vl]|cons a l b=>grind[vl]
theorem xk(k:Nat):vl B (List.replicate k 0)=0:=by induction k<;>grind[vl]
theorem fe(l:List Nat)(i:Nat)(hi:i<=l.length):vl B l=vl B (l.take i)+B^i*vl B (l.drop i):=by have:=rA (B:=B) (l:=l.take i) (m:=l.drop i);simp_all
theorem rB{l:List Nat}{i:Nat}(hi:i<l.length):l.drop i=l[i]!::l.drop (i+1):=by simp_all
theorem fq{l:List Nat}{i:Nat}(hi:i<l.length):vl B (l.take (i+1))=vl B (l.take i)+B^i*l[i]!:=by rw[fD hi,rA,il,AAA (by omega),Hy l i hi];simp[vl]
theorem dJ{l:List Nat}{i:Nat}(hi:i<l.length):vl B (l.drop i)=l[i]!+B*vl B (l.drop (i+1)):=by rw[rB hi,vl]
theorem ku{l:List Nat}{i v:Nat}(hi:i<l.length):vl B (l.set i v)+B^i*l[i]! =vl B l+B^i*v:=by
 have a:l.set i v=l.take i++v::l.drop (i+1):=by rw[AAf,E4 hi]
 grind[rB,vl,rA,fe,dJ]
def uv(e:2<=B){l:List Nat}{k c:Nat}(h:vl B l<B^k*c)(b:k<l.length):l[k]!<c:=by have d:=fe (B:=B) l k (by omega);rw[dJ b]at d;have f:B^k*l[k]!<=B^k*(l[k]!+B*vl B (l.drop (k+1))):=gp _ (by omega);exact AAd (a:=B^k) (by omega)
theorem xl(c:2<=B):∀{l:List Nat},lm B l->tp l->ds B (vl B l)=l
 |[],_,_=>by rw[vl,bE]|a::l,h,g=>by
  have d:=jA.1 h;have i:tp l:=λm=>by have:=g (by simp);grind
  have j:=xl c d.2 i;have k:vl B (a::l)≠0:=by rw[vl];cases l with|nil=>have:=g (by simp);grind|cons b l=>
   intro e;have n:vl B (b::l)=0:=by
    rcases sn (vl B (b::l))with f|f;·exact f
    have:=p5 (c) f;omega
   grind[bE]
  rw[gF c k,vl,ABC,m0 d.1,AAR _ _ (by omega),AAW d.1,lB,j]
theorem lT{n:Nat}(a:2<=B)(h:n≠0):ds B n≠[]:=by grind[gF]
def PB{n:Nat}(a:2<=B):ds B n=[]↔n=0:=by refine⟨λh=>?_,λh=>by rw[h,bE]⟩;have:=bF a n;rw[h]at this;exact this.symm
def uw(c:2<=B)(n:Nat):tp (ds B n):=by induction n using Nat.strongRecOn with|ind n f=>
 by_cases h:n=0;·rw[h,bE];exactλh=>absurd rfl h
 rw[gF c h];intro _;by_cases d:n/B=0
 ·rw[d,bE];have:n<B:=by
   rcases lu n B with b|b;·exact b
   have:=ACd b (by omega);omega
  simpa[m0 this]using h
 have b:=f _ (ABU (by omega) (by omega)) (lT c d);cases e:ds B _ with|nil=>exact absurd e (lT c d)|cons a l=>rw[e]at b;simpa using b
theorem jB(a:2<=B){n k:Nat}:(ds B n).length<=k↔n<B^k:=by
 constructor;·intro h;have:=dR a (co a n);rw[bF a]at this;exact hI this (m4 (by omega) h)
 intro h;rcases lu k (ds B n).length with b|b;·have f:=uw a n (λe=>by rw[e]at b;simp at b);have c:=bF a n;have d:=fe (B:=B) (ds B n) ((ds B n).length-1) (by omega);rw[c,dJ (by omega)]at d;have g:B^k<=B^((ds B n).length-1):=m4 (by omega) (by omega);have i:B^((ds B n).length-1)*1<=B^((ds B n).length-1)*((ds B n)[(ds B n).length-1]!+B*vl B ((ds B n).drop ((ds B n).length-1+1))):=gp _ (by omega);omega
 exact b
def fV(a:2<=B){m n:Nat}(h:m<=n):(ds B m).length<=(ds B n).length:=(jB a).2 (kx h ((jB a).1 (G1 _)))
theorem uz(a:2<=B){m n:Nat}(h:ds B m=ds B n):m=n:=by grind[bF]
theorem xm(a:2<=B){l:List Nat}{k:Nat}(h:lm B l)(b:k<=l.length)(c:vl B (l.drop k)=0)(d:tp (l.take k)):ds B (vl B l)=l.take k:=by grind[fe,xl,gj]
def Am(a:2<=B){l m:List Nat}(b:lm B l){i:Nat}(hi:i<l.length)(f:l.length=m.length)(c:l.drop (i+1)=m.drop (i+1))(h:l[i]!<m[i]!):vl B l<vl B m:=by
 have d:=fe (B:=B) l i (by omega);have e:=fe (B:=B) m i (by omega);rw[dJ hi]at d;rw[dJ (by omega),<-c]at e;have g:vl B (l.take i)<B^i:=by have:=dR a (gj b i);grind
 have j:B^i*(l[i]!+1)<=B^i*m[i]!:=gp _ h;grind
end
def PC{B:Nat}:∀{l:List Nat},(∀a∈l,a=0)->vl B l=0|[],_=>rfl|a::l,h=>by rw[vl,h a N1,PC (λb c=>h b (M0 _ c))];omega
theorem acT{B c:Nat}{l:List Nat}(h:∀k,c<=k->k<l.length->l[k]! =0):vl B (l.drop c)=0:=PC λa b=>by obtain⟨i,hi,rfl⟩:=kz.1 b;simp_all
def u32(a:Nat):List D:=[.i .u32 (a:Int)]
def u16(a:Nat):List D:=[.i .u16 (a:Int)]
structure br(n:Nat)(x:D):Prop where sl:Sl 1 ((ds 4294967296 n).map u32) x
structure bc(n:Nat)(x:D):Prop where sl:Sl 1 ((ds 65536 n).map u16) x
def aB:2<=4294967296:=by omega
def aM:2<=65536:=by omega
end
section
def EO(d:D)(lo hi:Nat):D:=match d with|.im w rows=>.im w ((rows.drop lo).take (hi-lo))|d=>d
def Sl.slC{w:Nat}{rows:List (List D)}{d:D}(h:Sl w rows d)(lo hi:Nat):Sl w ((rows.drop lo).take (hi-lo)) (EO d lo hi):=by cases h with|nil h=>subst h;exact .nil (by simp)|z h=>subst h;exact .z (by simp)|im=>exact .im
def Sl.slM{α:Type}{enc:α->List D}{l:List α}{w:Nat}{d:D}(h:Sl w (l.map enc) d)(lo hi:Nat):Sl w (((l.drop lo).take (hi-lo)).map enc) (Dm.EO d lo hi):=by have:=h.slC lo hi;simp_all
def Sl.slT{α:Type}{enc:α->List D}{l:List α}{w:Nat}{d:D}(h:Sl w (l.map enc) d)(hi:Nat):Sl w ((l.take hi).map enc) (Dm.EO d 0 hi):=by have:=h.slM 0 hi;grind
section
variable{V:aw}{Q:Ex->St->Prop}{dr:Option (Bs×Bool)}{os:List aq}{keep:Option Nat}{loc sl sl':List D}{H H':ab}{w:Nat}{α:Type}{enc:α->List D}{l:List α}{d:D}{k k':IntKind}{x y:Int}
def Sl.sD(h:Sl w (l.map enc) d){lo hi:Option D}{a b:Nat}(c:eo lo hi l.length l.length=some (a,b)):dY H w d lo hi none=some (Dm.EO d a b):=by
 cases h with|nil h=>
 have:l=[]:=by simpa using h
 subst this;simp only[lA]at c;simp only[dY,c,Dm.EO]|z h=>
 have:l=[]:=by simpa using h
 subst this;simp only[lA]at c;simp only[dY,c,Dm.EO]|im=>simp only[dY,T3,c,decide_true,Dm.EO]
def Sl.sN(h:Sl w (l.map enc) d){lo hi:Option D}(a:eo lo hi l.length l.length=none):dY H w d lo hi none=none:=by
 cases h with|nil h=>
 have:l=[]:=by simpa using h
 subst this;simp only[lA]at a;simp only[dY,a]|z h=>
 have:l=[]:=by simpa using h
 subst this;simp only[lA]at a;simp only[dY,a]|im=>simp only[dY,T3,a,decide_true]
def Sl.hi(h:Sl w (l.map enc) d):aI V dr os keep loc sl Q (aE ⟨sl',H⟩ (dY H' w d none (some (.i k x)) none))↔(0<=x/\x<=l.length)/\aI V dr os keep loc sl Q (.v (Dm.EO d 0 x.toNat) ⟨sl',H⟩):=by
 by_cases c:0<=x/\x<=l.length;·rw[h.sD (a:=0) (b:=x.toNat) (by grind[eo,jH,ij])];grind[aE]
 rw[h.sN (by grind[eo,jH,ij])];grind[aE,aI]
end
@[go_sem]def ay9:(true !=false)=true:=rfl
@[go_sem]def aza:(false !=false)=false:=rfl
@[go_sem]def azb:(true !=true)=false:=rfl
@[go_sem]def azc:(false !=true)=true:=rfl
@[go_sem]def azd:(true==false)=false:=rfl
@[go_sem]def aze:(false==false)=true:=rfl
@[go_sem]def azf:(true==true)=true:=rfl
@[go_sem]def azg:(false==true)=false:=rfl
@[go_sem]def azh{a:Nat}:fw [a]=true:=rfl
@[go_sem]def azi:gm []=.tu []:=rfl
def rC(a n off len w:Nat)(lo hi:Option D):Option (Nat×List (List D)×Option Nat×Bool×Bool)->Option D
 |some (w',_,_,_,_)=>match decide (w'=w),eo lo hi len (n-off)with|true,some (k,h)=>some (.mu a n (off+k) (h-k))|_,_=>none
 |none=>none
@[go_sem]def azj{H:ab}{w a n off len:Nat}{lo hi:Option D}:dY H w (.mu a n off len) lo hi none=rC a n off len w lo hi (aO H a n):=by simp[dY,rC];grind
section
variable{V:aw}{Q:Ex->St->Prop}{dr:Option (Bs×Bool)}{os:List aq}{keep:Option Nat}{loc sl sl':List D}{H:ab}{a n off len w:Nat}{k k':IntKind}{x y:Int}{rows:List (List D)}{cap:Option Nat}{p lk:Bool}
@[go_sem]def azk:aI V dr os keep loc sl Q (aE ⟨sl',H⟩ (rC a n off len w none (some (.i k x)) (some (w,rows,cap,p,lk))))↔(0<=x/\x<=(n-off:Nat))/\aI V dr os keep loc sl Q (.v (.mu a n off x.toNat) ⟨sl',H⟩):=by
 by_cases b:0<=x/\x<=(n-off:Nat);·simp_all[eo,jH,ij,rC,aE]
 grind[eo,jH,ij,rC,aE,aI]
@[go_sem]def azl:aI V dr os keep loc sl Q (aE ⟨sl',H⟩ (rC a n off len w (some (.i k x)) (some (.i k' y)) (some (w,rows,cap,p,lk))))↔(0<=x/\x<=y/\y<=(n-off:Nat))/\aI V dr os keep loc sl Q (.v (.mu a n (off+x.toNat) (y.toNat-x.toNat)) ⟨sl',H⟩):=by grind[eo,jH,ij,rC,aE,aI]
end
def An(a n w:Nat)(b:D):Option an->Option D
 |some (.ar w' rows (some _) _ _)=>match fh b n with|some j=>if w'=w/\rows.length=n then some (.ap a n j 0)else none|none=>none
 |_=>none
@[go_sem]def azm{H:ab}{a n w:Nat}{c:D}:mX H (.aa a) c n w=An a n w c H[a]?:=by simp[mX];cases d:fh c n<;>cases h:H[a]? with|none=>rfl|some b=>cases b with|ar w' rows cap p lk=>cases cap<;>simp[An,d]|_=>rfl
def Ao(a n w:Nat)(lo hi:Option D):Option an->Option D|some (.ar w' rows (some c) _ false)=>if w'=w/\rows.length=n/\c=n then match eo lo hi n n with|some (k,h)=>some (.mu a n k (h-k))|none=>none else none|_=>none
@[go_sem]def azn{H:ab}{a n w:Nat}{lo hi:Option D}:rX H (.aa a) n w lo hi=Ao a n w lo hi H[a]?:=by grind[rX,Ao]
section
variable{V:aw}{Q:Ex->St->Prop}{dr:Option (Bs×Bool)}{os:List aq}{keep:Option Nat}{loc sl sl':List D}{H:ab}{a n w c:Nat}{k:IntKind}{x:Int}{rows:List (List D)}{p lk:Bool}
@[go_sem]def azo:aI V dr os keep loc sl Q (aE ⟨sl',H⟩ (An a n w (.i k x) (some (.ar w rows (some c) p lk))))↔rows.length=n/\(0<=x/\x<n)/\aI V dr os keep loc sl Q (.v (.ap a n x.toNat 0) ⟨sl',H⟩):=by grind[An,fh,aE,aI]
@[go_sem]def azp:aI V dr os keep loc sl Q (aE ⟨sl',H⟩ (Ao a n w none (some (.i k x)) (some (.ar w rows (some c) p false))))↔(rows.length=n/\c=n)/\(0<=x/\x<=n)/\aI V dr os keep loc sl Q (.v (.mu a n 0 x.toNat) ⟨sl',H⟩):=by grind[eo,jH,ij,Ao,aE,aI]
end
section
variable{V:aw}{f:FuncId}{args:List D}
def aH.ex{P:D->Prop}(h:aH V f args (λr=>∃d,r=.ret d/\P d)):∃d,ai V f args d/\P d:=by obtain⟨n,c,d,a,b⟩:=h;exact⟨d,⟨n,a⟩,b⟩
def ac.fzr{a:aJ}(b:V.fn f=some a)(c:a.pure=true)(e:a.own=false){H:ab}{K:CR->Prop}{ds:List D}{d:D}(h:ai V f ds d)(g:∃i,aW bG H args=some (ds,i))(j:∀H',K (.ret d H')):ac V f args H K:=ac.fz b c e g ((ai.iff_q.1 h).mono (λr hr=>by subst hr;exact j))
end
end
end Go.Dm
