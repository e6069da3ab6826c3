/-
  Part of the proof.
-/
import Derived.Test.YtigbdbdlkoeadaaGreatDoorAS
set_option linter.all false
namespace Go.Proofs.YtigbdbdlkoeadaaGreatDoor.Dv
section
open Go.Dm
set_option maxRecDepth 10000
end
section
open Go.Dm
set_option maxRecDepth 10000
section
variable{I:bU}{B:BW}{O:bB}{K:Int}{Al:Nat->Prop}{Fr:List (Nat×an)}{H:ab}{e:Ex}{d:Int}
def att(u:Cx O B K Al)(v:bA Al e)(hs:e.en.size<=100000)(w:0<=d/\d<65536){a b c:Nat}(f:H[a]?=some (.hb 88 [.hp I.v 0]))(g:H[b]?=some (.hb 39 e.row))(o:H[c]?=some (.hb 3 [.i .i64 d]))(h:EV I B af.nil Fr H):ac VS 37 [.hp a 0,.hp b 0,.hp c 0] H (eG I B Fr (aN (bk O B.wd) (.term e.en d) af.nil)):=by
 have j:=aoZ u v hs w h;obtain⟨S,x⟩:=h.h;have p:=x.hv;rw[Ex.row_eq]at g;refine .body akR rfl rfl ?_;simp[go_sem,auN,f,g,o,p];refine⟨ay f,ay p,ay g,ay o,ay f,?_⟩;have y:e.d=.ag [.i .u8 e.op,.s e.name,.i .u8 e.v.k,.b e.v.f.s,e.v.f.x,.b e.v.f.t,e.v.f.y,.i .i64 e.v.i,e.sl]:=by rw[<-Ex.row_eq];rfl
 rw[y]at j;unfold wD at j;refine j.mono λr hr=>?_;rcases hr.h with⟨F,k,l,rfl,m,⟨q,_⟩,n⟩|⟨e,k,l,rfl,⟨q,_⟩,n⟩;·obtain⟨d,z,A⟩:=acS m;have t:=λ{H K}=>z.c (H:=H) (K:=K) GI rfl (by simp[m.pl]) (.inl rfl);obtain⟨C,G,rfl,E⟩:=A.av m.o;simp[AV.c]at t⊢;simp[go_sem,t];exact⟨.inl ⟨C,k,l,rfl,E,by grind,n⟩⟩
 simp[go_sem];exact⟨.inr ⟨e,k,l,rfl,q,n⟩⟩
end
structure m8(O:bB)(p:Pl)(l:List Fc)(e:Ex)(d known:Int)(r:PR):Prop where n:(fU e&&dW p l d)=false->r=.ret (.tu [ls,.i .i64 2])y:(fU e&&dW p l d)=true->(∃v y M,aN (bk O (p.bw l known).wd) (.term e.en d) af.nil (.ok v) M/\VD v y/\NV.ok v/\r=.ret (.tu [y,.i .i64 0]))\/(∃er M,aN (bk O (p.bw l known).wd) (.term e.en d) af.nil (.er er) M/\r=.ret (.tu [ls,.i .i64 er]))
def atu(p:Pl){O:bB}(w:vZ O){l:List Fc}{x:D}(y:Sl 11 (l.map Fc.c) x){e:Ex}(z:bA (λ_=>True) e){d known:Int}(c:p.few l known):aH VS 16 [p.d,x,.ag e.row,.i .i64 d,.i .i64 known] (m8 O p l e d known):=by
 rw[Ex.row_eq];have A:Hs [an.hb 39 [.i .u8 e.op,.s e.name,.i .u8 e.v.k,.b e.v.f.s,e.v.f.x,.b e.v.f.t,e.v.f.y,.i .i64 e.v.i,e.sl],.hb 3 [.i .i64 d]] [(1,.hb 3 [.i .i64 d]),(0,.hb 39 [.i .u8 e.op,.s e.name,.i .u8 e.v.k,.b e.v.f.s,e.v.f.x,.b e.v.f.t,e.v.f.y,.i .i64 e.v.i,e.sl])]:=by grind[Hs]
 have t:=λ{K}=>In p y (d:=d) (known:=known) c.d c.t c.f c.c A (K:=K);have k:=λ{H K}=>Ik e (H:=H) (K:=K);refine .body BF rfl ?_;unfold Pl.d at t⊢;cases f:fU e with|false=>rw[f]at k;simp[go_sem,Zi,k];exact⟨λ_=>rfl,λh=>by simp[f]at h⟩|true=>
 rw[f]at k;simp[go_sem,Zi,k];refine t (λB=>?_) (λu I C E=>?_);·simp[go_sem,simprocAttr];exact⟨λ_=>rfl,λh=>by simp[B]at h⟩
 have F:0<=d/\d<65536:=by grind[dW]
 have G:p.bounded=true:=by grind[dW]
 have hr:dP l=true:=by grind[dW]
 have J:=Cq p w G c.f hr c.k c.x;have L:=E.new (x:=.hb 88 [.hp I.v 0]);have g:=(L.new (x:=.hb 36 cr)).new (x:=.hb 54 [.i .i64 0]);simp only[go_sem];refine acQ (by decide) ?_;simp only[gC,U3,bN,N3,fA,lA]at g⊢;obtain⟨q,M⟩:∃q,q=C.length:=⟨_,rfl⟩;rw[<-M]at g⊢;have N:=g.drop.drop.fr;have g1:=g.drop.drop.drop.drop.fr;have g0:=g.drop.drop.drop.fr;refine(att J z (dG (V7 f) (by omega)) F N (by rw[Ex.row_eq];exact g1) g0 g).mono λr hr=>?_;rcases hr.h with⟨a,n,P,rfl,m,o,j⟩|⟨v,n,P,rfl,o,j⟩;·refine⟨a,rfl,m,j.drop.fr,j.fr,?_⟩;obtain⟨Q,S,U,V⟩:=m.fl;simp[AV.c];simp[go_sem,ah Q,ah S,ah U,ah V];exact⟨λh=>by simp[f,u]at h,λ_=>.inl ⟨a.v,_,n,o,m.d,m.o,rfl⟩⟩
 refine⟨v,rfl,j.drop.fr,j.fr,?_⟩;unfold ls cr;simp[go_sem];exact⟨λh=>by simp[f,u]at h,λ_=>.inr ⟨v,n,o,rfl⟩⟩
end
section
open Go.Dm
set_option maxRecDepth 10000
section
variable{W:Wd}{d:Int}{M M1:af}{r:NR}{x e w c:Ex}
noncomputable abbrev Bd(W:Wd):=bk fG W
end
end
section
open Go.Dm
set_option maxRecDepth 10000
end
section
open Go.Dm
set_option maxRecDepth 10000
def KK(v:NV):Prop:=1<=v.k/\v.k<=6
def g9:NR->Prop|.ok v=>KK v|.er e=>e≠0
def QK:EQ->Prop|.ok _=>True|.error e=>e≠0
def MK(M:af):Prop:=∀p∈M.vals,KK p.2
inductive KE:EN->Prop where|mk{o:Nat}{n:Nm}{v:Option NV}{m:Int}{a:List EN}:(∀x,v=some x->KK x)->(∀e∈a,KE e)->KE (.mk o n v m a)
def JK:aL->Prop|.term e _=>KE e|.pair _ _=>True
inductive Ez:Tr->Prop where|ret{v:NV}:KK v->Ez (.ret v)|err{e:Int}:e≠0->Ez (.err e)|st{u:af->af}{k:af->Tr}:(∀M,MK M->MK (u M))->(∀M,MK M->Ez (k M))->Ez (.st u k)|call{j:aL}{k:NV->Tr}:JK j->(∀v,KK v->Ez (k v))->Ez (.call j k)
def Ez.run{rec:aL->af->Option (NR×af)}(hr:∀j M r a,JK j->MK M->rec j M=some (r,a)->g9 r/\MK a){t:Tr}(h:Ez t):∀{M r a},MK M->cI rec t M=some (r,a)->g9 r/\MK a:=by induction h with|ret h=>intro M r a b e;cases e;exact⟨h,b⟩|err h=>intro M r a b e;cases e;exact⟨h,b⟩|st g i d=>intro M r a b e;exact d M b (g M b) e|@call j k l i d=>intro M r a b e;simp[cI]at e;cases f:rec j M with|none=>grind|some p=>obtain⟨x,M1⟩:=p;obtain⟨m,n⟩:=hr j M x M1 l b f;rw[f]at e;cases x with|er c=>grind|ok v=>exact d v m n e
def Yu{body:aL->Tr}(f:∀j,JK j->Ez (body j)):∀(n:Nat)(j:aL)(M:af)(r:NR)(d:af),JK j->MK M->gv body n j M=some (r,d)->g9 r/\MK d|0,_,_,_,_,_,_,e=>by cases e|n+1,j,_,_,_,g,h,e=>(f j g).run (λj M r d a b c=>Yu f n j M r d a b c) h e
def NR.tr_k{r:NR}(h:g9 r):Ez r.tr:=by cases r with|ok v=>exact .ret h|er e=>exact .err h
def EQ.tr_k{r:EQ}{k:Nat}(a:1<=k/\k<=6)(h:QK r):Ez (r.tr k):=by cases r with|ok v=>exact .ret a|error e=>exact .err h
def wK{a:Int}{b:Nat}:QK (ti a b):=by
 unfold ti;split;·trivial
 exact(by decide:(3:Int)≠0)
theorem Yv:∀(l:List aD)(q:Fq),QK (jX l q)
 |[],_=>trivial|s::l,q=>by
  unfold jX;have a:QK (nM (s.v.n,s.v.m) (s.to-s.frm,1)):=wK;split;·grind
  rename_i p _;have b:QK (nO q p):=wK;split;·grind
  exact Yv l _
variable{x:Int}
def Yw{l:List aD}{a b:Int}(h:gf l a b=.error x):x≠0:=by grind[gf]
def Yx(l:List aD)(a b:Int):QK (wA l a b):=by
 unfold wA;split;·rename_i e c;exact Yw c
 split;·grind[Yv]
 exact(by decide:(2:Int)≠0)
def atz(l:List aD)(a b:Int):QK (oX l a b):=by
 unfold oX;split
 ·split;·trivial
  have h:=Yx l a b;split;·grind
  exact wK
 exact(by decide:(2:Int)≠0)
def atA(l:List aD)(a b:Int):QK (wg l a b):=by
 unfold wg;have h:=Yx ((l.drop (lM l a)).take (nF l b-lM l a)) a b;split;·grind
 exact wK
theorem Jh{set:List (Int×Int)}{l:List aD}{a b:Int}{n:Nat}:∀(k m:Nat)(o:Option Fq),QK (mB set l a b n k m o)
 |0,_,o=>by cases o with|none=>exact(by decide:(6:Int)≠0)|some q=>trivial
 |k+1,m,o=>by
  unfold mB;split
  ·split
   ·have h:=atA l (bT m) (bT (m+n));split;·grind
    exact Jh k _ _
   exact Jh k _ _
  cases o with|none=>exact(by decide:(6:Int)≠0)|some q=>trivial
def atB(l:List aD)(a b n:Int):QK (wh l a b n):=by
 unfold wh;split;·grind[Jh]
 exact(by decide:(2:Int)≠0)
def atC{rows:List bV}{y:Int}{acc:Fq}:QK (sK rows x acc y):=by unfold sK qJ;cases nP _ y with|none=>exact(by decide:(6:Int)≠0)|some r=>
 dsimp only;have h:QK (nO (1,1) (r.n,r.m)):=wK;split;·grind
 exact wK
theorem Ji{rows:List bV}{lo hi:Int}:∀(n y:Nat)(acc:Fq),QK (jV rows x lo hi n y acc)
 |0,_,_=>trivial|n+1,y,acc=>by
  unfold jV;split;·trivial
  split;·exact Ji n _ _
  have h:QK (sK rows x acc y):=atC;split;·grind
  exact Ji n _ _
def atD{a:Bool}{rows:List bV}{lo hi:Int}:QK (kN a rows lo hi x):=by
 unfold kN;split;·exact(by decide:(2:Int)≠0)
 split;·grind[Ji]
 exact(by decide:(2:Int)≠0)
def tA(b:Bool):KK (dI b):=by cases b<;>exact⟨by decide,by decide⟩
theorem Dh{k:Nat}(c:1<=k/\k<=6){a:Int}{b:Nat}:g9 (pr k a b):=by
 unfold pr;split;·exact c
 exact(by decide:(3:Int)≠0)
theorem Di{k:Nat}(a:1<=k/\k<=6){n:Int}:g9 (rn k n):=by
 unfold rn;split;·exact(by decide:(3:Int)≠0)
 exact a
theorem Jj{n:Int}:g9 (rp n):=by
 unfold rp;split;·exact(by decide:(30:Int)≠0)
 constructor<;>grind
def Dj(c:Nat)(d:List Nat):Bool:=match c,d with|7,[a,b]=>a !=4||b==5||b==6|8,[a,b]=>a !=4||b==4||b==5||b==6|_,_=>true
def atE:((List.range 27).all λa=>sO.all λb=>!cm a b||Dj a b)=true:=by kernel_rfl
def atF{c:Nat}{a:List Nat}(d:a.length<=3)(e:∀k∈a,1<=k/\k<=6)(h:cm c a=true):Dj c a=true:=by have b:=h;unfold cm at b;simp only[D0,Hq]at b;have f:=TB.1 (TB.1 atE c (qb.2 b.1)) a (HO b.2.1 d e);grind
def atG{a:Nat}{x y:NV}(b:KK x)(d:KK y)(h:¬((a=7\/a=8)/\x.k=4/\y.k=6))(hs:Dj a [x.k,y.k]=true):g9 (rq a x y):=by
 have c:1<=max x.k y.k/\max x.k y.k<=6:=by grind[KK]
 unfold rq;split
 ·rename_i e;have f:x.k=4->y.k=4\/y.k=5:=λg=>by grind[Dj]
  unfold EL;dsimp;split;·grind[Di,Jj]
  split;·exact Di b
  exact Dh b
 split;·exact Dh c
 split
 ·split;·exact(by decide:(181:Int)≠0)
  grind[Dh]
 split;·show KK (if _ then x else y);grind
 split<;>exact tA _
end
section
open Go.Dm
set_option maxRecDepth 10000
theorem atH {op:Nat} {x y:NV}:g9 (sM op x y):=by
 have go : ∀ p:Int×Int,g9 (if p.2=0 then rp p.1 else .er p.2):=fun p=>by
  split
  ·exact Jj
  ·rename_i h;exact h
 exact go _
theorem atI {x y:NV}:g9 (vW x y):=by
 unfold vW
 split
 ·exact Di ⟨by decide,by decide⟩
 ·rename_i h;exact h
theorem atJ {x:NV}:g9 (yI x):=by
 unfold yI
 split
 ·split
  ·exact Di ⟨by decide,by decide⟩
  ·exact(by decide:(3:Int)≠0)
 ·exact(by decide:(22:Int)≠0)
theorem atK {x:NV}:g9 (yJ x):=by
 unfold yJ
 split<;>exact(⟨by decide,by decide⟩:1 <= 2 /\ 2 <= 6)
theorem atM {x:NV}:g9 (yK x):=by
 unfold yK
 split
 ·split
  ·exact Jj
  ·rename_i h;exact h
 ·rename_i h;exact h
theorem atN {m:Int} {x y:NV} (hx:KK x):g9 (vV m x y):=by
 unfold vV
 split
 ·exact(by decide:(185:Int)≠0)
 ·split
  ·exact(by decide:(181:Int)≠0)
  ·exact Dh hx
theorem atO {op:Nat} (hop : ¬ (3 <= op /\ op <= 6) /\ ¬ (21 <= op /\ op <= 23)) {md:Int} {vs:List NV} (hl:vs.length <= 3) (hv : ∀ a∈vs,KK a) (hf:cm op (vs.map NV.k)=true):g9 (gq op md vs):=by
 have hk : ∀ k∈vs.map NV.k,1 <= k /\ k <= 6:=by
  intro k hk
  obtain⟨a,ha,rfl⟩:=fT.1 hk
  exact hv a ha
 have hl':(vs.map NV.k).length <= 3:=by rw[T3];exact hl
 have ho:=Ch hl' hk hf
 have hs:=(HP hl' hk hf).2
 have hb:=atF hl' hk hf
 have hc:(7 <= op /\ op <= 14) \/ op=17 \/ op=19 \/ op=20 \/ op=24 \/ op=25 \/ op=26:=by omega
 unfold gq
 dsimp only
 rcases hc with hc|rfl|rfl|rfl|rfl|rfl|rfl
 ·rw [E1 (by omega),E1 (by omega),E1 (by omega),E1 (by omega),E1 (by omega),E1 (by omega)]
  split
  ·exact atH
  ·rename_i hm
   match vs,hs,hv,hb,hm with
   | [a,b],_,hv,hb,hm=>exact atG (hv a (by simp)) (hv b (by simp)) hm hb
   | [],hs,_,_,_ =>
    have:op=7 \/ op=8 \/ op=9 \/ op=10 \/ op=11 \/ op=12 \/ op=13 \/ op=14:=by omega
    rcases this with rfl|rfl|rfl|rfl|rfl|rfl|rfl|rfl<;>cases hs
   | [_],hs,_,_,_ =>
    have:op=7 \/ op=8 \/ op=9 \/ op=10 \/ op=11 \/ op=12 \/ op=13 \/ op=14:=by omega
    rcases this with rfl|rfl|rfl|rfl|rfl|rfl|rfl|rfl<;>cases hs
   | _::_::_::_,hs,_,_,_ =>
    have:op=7 \/ op=8 \/ op=9 \/ op=10 \/ op=11 \/ op=12 \/ op=13 \/ op=14:=by omega
    rcases this with rfl|rfl|rfl|rfl|rfl|rfl|rfl|rfl<;>cases hs
 ·exact tA _
 ·match vs,hs,hv with
  | [a,b],_,hv=>exact atN (hv a (by simp))
  | [],hs,_=>cases hs
  | [_],hs,_=>cases hs
  | _::_::_::_,hs,_=>cases hs
 ·exact atI
 ·exact atJ
 ·exact atK
 ·exact atM
theorem KE.un {e:EN} (h:KE e):(∀ x,e.val=some x -> KK x) /\ ∀ a∈e.args,KE a:=by
 cases h with|mk h1 h2=>exact⟨h1,h2⟩
structure WK (W:Wd):Prop where
 v : ∀ k l d v,W.view k = .ok l -> bQ l d=some v -> KK v
 e : ∀ k e,W.view k = .error e -> e≠0
 c : ∀ i,KE (W.clause i).when /\ KE (W.clause i).thn
 l : ∀ n d p,p∈W.cl n d -> KE p.2.when
section
variable {W:Wd} (hW:WK W)
theorem wL {e:EN} {d:Int} {k:Bool -> Tr} (he:KE e) (hk : ∀ b,Ez (k b)):Ez (dX e d k):=by
 refine .call he fun v _ => ?_
 split
 ·exact hk _
 ·exact .err (by decide)
theorem Yy {d:Int} {k:List NV -> Tr} : ∀ {l:List EN} {acc:List NV},(∀ e∈l,KE e) -> (∀ v∈acc,KK v) -> (∀ vs,vs.length=acc.length+l.length -> (∀ v∈vs,KK v) -> Ez (k vs)) -> Ez (gZ d k l acc)
 | [],acc,_,ha,hk=>hk acc (by simp) ha
 | e::l,acc,hl,ha,hk=>by
  refine .call (hl e (by simp)) fun v hv=>Yy (fun x hx=>hl x (by simp[hx])) (fun x hx => ?_) fun vs hn h=>hk vs (by simp at hn ⊢;omega) h
  rcases TA.1 hx with hx|hx
  ·exact ha x hx
  ·simp at hx;rw[hx];exact hv
theorem Yz {d:Int} {k:Nat -> Tr} (hk : ∀ c,Ez (k c)) : ∀ {l:List (Nat×eK)} {c n:Nat},(∀ p∈l,KE p.2.when) -> Ez (bC d k l c n)
 | [],c,n,_=>by
  unfold bC
  split
  ·exact .err (by decide)
  ·split
   ·exact .err (by decide)
   ·exact hk c
 | (i,x)::l,c,n,h=>by
  refine wL (h (i,x) (by simp)) fun b => ?_
  split<;>exact Yz hk fun p hp=>h p (by simp[hp])
include hW
theorem atP {op:Nat} {nm:Nm} {d:Int}:Ez (fI W op nm d):=by
 unfold fI
 split
 ·rename_i e he;exact .err (hW.e _ _ he)
 ·rename_i l hl
  split
  ·exact .ret (tA _)
  ·split
   ·rename_i v hv;exact .ret (hW.v _ _ _ _ hl hv)
   ·exact .err (by decide)
theorem atQ {nm:Nm} {vs:List NV}:Ez (eC W nm vs):=by
 have two : ∀ n m,Ez (.ret ⟨2,n,m,0⟩):=fun n m => .ret (⟨by decide,by decide⟩:1 <= 2 /\ 2 <= 6)
 have six:Ez (.err 6) := .err (by decide)
 unfold eC
 repeat' split
 all_goals first|exact two _ _|exact six|exact .err (by decide)
theorem atS {op:Nat} {nm:Nm} {vs:List NV}:Ez (fp fG W op nm vs):=by
 unfold fp
 split
 ·rename_i e he;exact .err (hW.e _ _ he)
 ·split
  ·rename_i e he;exact .err (Yw he)
  ·split
   ·exact EQ.tr_k ⟨by decide,by decide⟩ (atz _ _ _)
   ·exact EQ.tr_k ⟨by decide,by decide⟩ (atB _ _ _ _)
theorem atT {op:Nat} {nm:Nm} {md:Int} {vs:List NV} (hl:vs.length <= 3) (hv : ∀ a∈vs,KK a):Ez (cB fG W op nm md vs):=by
 unfold cB
 split
 ·rename_i hf
  split
  ·exact .st (fun _ h=>h) fun _ _=>atP hW
  ·split
   ·exact .st (fun _ h=>h) fun _ _=>atQ hW
   ·split
    ·split
     ·split
      ·exact .err (by decide)
      ·exact .ret (⟨by decide,by decide⟩:1 <= 2 /\ 2 <= 6)
     ·exact .st (fun _ h=>h) fun _ _=>atS hW
    ·split
     ·refine .st (fun _ h=>h) fun _ _ => ?_
      split
      ·exact .err (by decide)
      ·exact EQ.tr_k ⟨by decide,by decide⟩ atD
     ·have hk : ∀ k∈vs.map NV.k,1 <= k /\ k <= 6:=by
       intro k hk
       obtain⟨a,ha,rfl⟩:=fT.1 hk
       exact hv a ha
      have ho:=Ch (by rw[T3];exact hl) hk hf
      exact NR.tr_k (atO (by omega) hl hv hf)
 ·exact .err (by decide)
theorem atU {e:EN} {d:Int} (he:KE e):Ez (bM fG W e d):=by
 obtain⟨h1,h2⟩:=he.un
 have ha : ∀ i,i<e.args.length -> KE e.args[i]! := fun i hi=>by
  rw[Hy e.args i hi]
  exact h2 _ (hY hi)
 unfold bM
 split
 ·rename_i hf
  unfold EN.formed at hf
  simp only[D0,Hq]at hf
  have h3:=VM e.op
  have two:e.op=15 \/ e.op=16 -> e.args.length=2:=fun h=>by
   have:=hf.2
   rcases h with h|h<;>rw[h]at this<;>simp[ic]at this<;>omega
  have three:e.op=18 -> e.args.length=3:=fun h=>by
   have:=hf.2
   rw[h]at this;simp[ic]at this;omega
  by_cases c1:e.op=1
  ·rw[E4 c1]at hf ⊢
   cases hv:e.val with
   | none=>rw[hv]at hf;cases hf.1
   | some x=>exact .ret (h1 x hv)
  rw[E1 c1]
  by_cases c2:e.op=2
  ·rw[E4 c2]
   exact .ret (⟨by decide,by decide⟩:1 <= 4 /\ 4 <= 6)
  rw[E1 c2]
  by_cases c3:e.op=15
  ·rw[E4 c3]
   have:=two (.inl c3)
   refine wL (ha 0 (by omega)) fun b => ?_
   cases b with
   | true=>rw[E4 rfl];exact wL (ha 1 (by omega)) fun c => .ret (tA c)
   | false=>exact .ret (tA _)
  rw[E1 c3]
  by_cases c4:e.op=16
  ·rw[E4 c4]
   have:=two (.inr c4)
   refine wL (ha 0 (by omega)) fun b => ?_
   cases b with
   | true=>exact .ret (tA _)
   | false=>rw[E1 (by decide)];exact wL (ha 1 (by omega)) fun c => .ret (tA c)
  rw[E1 c4]
  by_cases c5:e.op=18
  ·rw[E4 c5]
   have:=three c5
   refine wL (ha 0 (by omega)) fun b => ?_
   cases b with
   | true=>exact .call (ha 1 (by omega)) fun v h => .ret h
   | false=>exact .call (ha 2 (by omega)) fun v h => .ret h
  rw[E1 c5]
  refine Yy h2 (by simp) fun vs hn hv => ?_
  by_cases c6:e.op=5
  ·rw[E4 c6]
   unfold kX
   split
   ·exact .call trivial fun v h => .ret h
   ·exact .err (by decide)
  ·rw[E1 c6]
   exact atT hW (by simp at hn;omega) hv
 ·exact .err (by decide)
theorem atV {nm:Nm} {d:Int}:Ez (jY W nm d):=by
 refine .st (fun _ h=>h) fun M hM => ?_
 split
 ·rename_i v hv
  obtain⟨p,hp,e⟩ : ∃ p∈M.vals,p.2=v:=by
   have : ∀ l:List ((Nm×Int)×NV),l.lookup (nm,d)=some v -> ∃ p∈l,p.2=v:=by
    intro l
    induction l with
    | nil=>intro h;cases h
    | cons q l ih =>
     intro h
     obtain⟨a,b⟩:=q
     rw[AAj]at h
     split at h
     ·cases h;exact⟨(a,v),by simp,rfl⟩
     ·obtain⟨p,hp,e⟩:=ih h
      exact⟨p,by simp[hp],e⟩
   exact this _ hv
  exact .ret (e▸hM p hp)
 ·unfold eY
  refine .st (fun _ h=>h) fun M2 hM2 => ?_
  split
  ·exact .err (by decide)
  refine .st (fun _ h=>h) fun M3 hM3 => ?_
  split
  ·exact .err (by decide)
  refine .st (fun _ h=>h) fun M4 hM4 => ?_
  split
  ·exact .err (by decide)
  refine Yz (fun c => ?_) fun p hp=>hW.l _ _ p hp
  refine .call (hW.c c).2 fun v hv => ?_
  split
  ·refine .st (fun M h p hp => ?_) fun _ _ => .ret hv
   obtain⟨a,b⟩:=p
   rcases qM hp with⟨_,rfl⟩|hp
   ·exact hv
   ·exact h _ hp
  ·exact .err (by decide)
theorem atW (j:aL) (h:JK j):Ez (Bd W j):=by
 cases j with
 | term e d=>exact atU hW h
 | pair n d=>exact atV hW
theorem YA {j:aL} (hj:JK j) {M M':af} (hM:MK M) {r:NR} (h:aN (Bd W) j M r M'):g9 r /\ MK M':=by
 obtain⟨n,h⟩:=h
 exact Yu (fun j hj=>atW hW j hj) n j M r M' hj hM h
end
mutual
theorem Ex.ke : ∀ e:Dv.Ex,KE e.en
 | .mk o n v y a=>by
  rw[Ex.en]
  refine .mk (fun x hx => ?_) (YB a)
  by_cases h:v.valid=true
  ·rw[E4 h]at hx;cases hx;exact(Vl.nv_ok h).2.k
  ·rw[E1 h]at hx;cases hx
theorem YB : ∀ l:List Dv.Ex, ∀ e∈tg l,KE e
 | []=>by intro e h;rw[tg]at h;cases h
 | a::l=>by
  intro e h
  rw[tg]at h
  rcases S2.1 h with rfl|h
  ·exact Ex.ke a
  ·exact YB l e h
end
theorem YC (p:Pl) {l:List Fc} {known:Int} (hr:dP l=true):WK (p.bw l known).wd:=by
 refine⟨fun k s d v h1 h2 => ?_,fun k e h=>(by cases h),fun i=>⟨Ex.ke _,Ex.ke _⟩,fun n d q hq => ?_⟩
 ·cases h1
  rw[kT,(qO hr k known).2 d]at h2
  unfold gc at h2
  split at h2
  ·rename_i f hc
   split at h2
   ·cases h2
   ·rename_i hg
    cases h2
    have hm:=(H8 (qo.1 (List.mem_of_getLast? hc)).1).1
    obtain⟨g,hg',rfl⟩:=fT.1 hm
    have:=vT hr g hg'
    unfold Fc.right at this
    rw[E1 (show ¬ g.gone=true from hg)]at this
    simp only[D0]at this
    have e:g.n.v=g.v.nv:=E1 (show ¬ g.gone=true from hg)
    rw[e]
    exact(Vl.nv_ok this.2).2.k
  ·cases h2
 ·obtain⟨i,_,rfl⟩:=fT.1 hq
  exact Ex.ke _
end
section
open Go.Dm
set_option maxRecDepth 10000
structure gh(p:Pl)(l:List Fc)(x:D)(e:Dv.Ex)(d known:Int)(r:NR)(y:D):Prop where
 q:ai VS 16 [p.d,x,.ag e.row,.i .i64 d,.i .i64 known] (.tu [y,.i .i64 r.e])v:VD r.v y
 n:(ds 65536 r.v.n.natAbs).length<70368744177665/\(ds 65536 r.v.m).length<70368744177665
 c:(fU e=false/\r=.er 2)\/(fU e=true/\∃M,aN (Bd (p.bw l known).wd) (.term e.en d) af.nil r M)
def wM:VD default ls:=by
 have a:Sl 1 ((ds 65536 0).map u16) .nil:=by rw[bE];exact .nil rfl
 exact⟨⟨_,_,rfl,⟨a⟩,⟨a⟩⟩⟩
def o8{p:Pl}{l:List Fc}{x:D}(k:Sl 11 (l.map Fc.c) x){e:Dv.Ex}(m:bA (λ_=>True) e){d b:Int}(h:nI p l d)(i:∀c∈p.cls,LX c.w/\LX c.t)(o:b<=9223372036854775807):∃r y,gh p l x e d b r y:=by
 have q:=h.f;have z:=q.d;have A:=q.c;have B:=q.t;have C:=q.f;have s:∀c∈p.cls,bA _ c.w/\bA _ c.t:=λc h=>⟨(i c h).1.x,(i c h).2.x⟩;obtain⟨n,_,j⟩:=atu p CB k m (d:=d) (known:=b) ⟨by omega,by omega,by omega,by omega,o,s⟩;have a:(ds 65536 0).length<70368744177665:=by grind[bE]
 cases hs:fU e with|false=>exact⟨.er 2,ls,⟨n,j.n (by rw[hs];rfl)⟩,wM,⟨a,a⟩,.inl ⟨hs,rfl⟩⟩|true=>
 rcases j.y (by rw[hs,h.b];rfl)with⟨v,y,M,f,t,u,g⟩|⟨w,M,f,g⟩;·exact⟨.ok v,y,⟨n,g⟩,t,B7 u,.inr ⟨hs,M,f⟩⟩
 exact⟨.er w,ls,⟨n,g⟩,wM,⟨a,a⟩,.inr ⟨hs,M,f⟩⟩
end
section
open Go.Dm
set_option maxRecDepth 10000
section
variable(W:Wd)
noncomputable def qP(a:Nm)(d:Int):Tr:=match W.kind a with|none=>.err 6|some _=>jt W a d λc=>.call (.term (W.clause c).thn d) λv=>if W.kind a=some v.k then .ret v else .err 185
noncomputable def dv:aL->Tr|.term e d=>bM fG W e d|.pair a d=>qP W a d
end
def dC(rec:aL->Option NV):Tr->Option NV|.ret v=>some v|.err _=>none|.st _ k=>dC rec (k af.nil)|.call j k=>match rec j with|none=>none|some v=>dC rec (k v)
def cM(body:aL->Tr):Nat->aL->Option NV|0,_=>none|n+1,j=>dC (cM body n) (body j)
def CS{f g:aL->Option NV}(h:∀j v,f j=some v->g j=some v):∀(t:Tr)(v:NV),dC f t=some v->dC g t=some v|.ret _,_,e=>e|.err _,_,e=>e|.st _ k,v,e=>CS h (k af.nil) v e|.call j k,v,e=>by simp only[dC]at e⊢;cases a:f j with|none=>rw[a]at e;cases e|some w=>rw[a]at e;rw[h j w a];exact CS h (k w) v e
def IS{body:aL->Tr}:∀(n:Nat)(j:aL)(v:NV),cM body n j=some v->cM body (n+1) j=some v|0,_,_,e=>by cases e|n+1,j,v,e=>CS (λj v e=>IS n j v e) (body j) v e
variable{x:Nat}
def CT{body:aL->Tr}{n:Nat}(h:n<=x){j:aL}{v:NV}(e:cM body n j=some v):cM body x j=some v:=by induction h with|refl=>exact e|step _ a=>exact IS _ _ _ a
def FJ(W:Wd)(j:aL)(v:NV):Prop:=∃n,cM (dv W) n j=some v
def FR(W:Wd)(t:Tr)(v:NV):Prop:=∃n,dC (cM (dv W) n) t=some v
section
variable{W:Wd}{j:aL}{v w:NV}{t:Tr}
def FJ.det(h:FJ W j v)(c:FJ W j w):v=w:=by obtain⟨n,h⟩:=h;obtain⟨m,c⟩:=c;have a:=CT (ABE n m) h;have b:=CT (AAL n m) c;rw[a]at b;exact kv b
def FJ.of(h:FR W (dv W j) v):FJ W j v:=by obtain⟨n,h⟩:=h;exact⟨n+1,h⟩
def FR.ret:FR W (.ret v) v:=⟨0,rfl⟩
def FR.st{u:af->af}{k:af->Tr}(h:FR W (k af.nil) v):FR W (.st u k) v:=h
theorem FR.call{k:NV->Tr}(h:FJ W j w)(a:FR W (k w) v):FR W (.call j k) v:=by obtain⟨n,h⟩:=h;obtain⟨m,a⟩:=a;refine⟨max n m,?_⟩;simp only[dC,CT (ABE n m) h];exact CS (λj v e=>CT (AAL n m) e) _ _ a
end
inductive TE:EN->Prop where|mk{e:EN}:(e.op=5->∃a,e.args=[a]/\a.op=2)->(∀a∈e.args,TE a)->TE e
def JT(d:Int):aL->Prop|.term e a=>a=d/\TE e|.pair _ a=>a=d
def RT:aL->NV->Prop|.term e d,v=>e.op=2->v=⟨4,0,0,d⟩|.pair _ _,_=>True
inductive Nt(d:Int):Tr->Prop where|ret{v:NV}:Nt d (.ret v)|err{e:Int}:Nt d (.err e)|st{u:af->af}{k:af->Tr}:(∀M,(u M).vals=M.vals/\(u M).begun=M.begun)->(∀M,k M=k af.nil)->Nt d (k af.nil)->Nt d (.st u k)|call{j:aL}{k:NV->Tr}:JT d j->(∀v,RT j v->Nt d (k v))->Nt d (.call j k)
section
variable{W:Wd}{d:Int}
def NR.tr_n{r:NR}:Nt d r.tr:=by cases r<;>first|exact .ret|exact .err
def EQ.tr_n{r:EQ}{k:Nat}:Nt d (r.tr k):=by cases r<;>first|exact .ret|exact .err
variable{y:Nm}
def aru{a:Nat}{x:Int}:Nt d (fI W a y x):=by
 unfold fI;repeat' split
 all_goals first|exact .ret|exact .err
def arv{vs:List NV}:Nt d (eC W y vs):=by
 unfold eC;repeat' split
 all_goals first|exact .ret|exact .err
def arw{vs:List NV}:Nt d (fp fG W x y vs):=by
 unfold fp;repeat' split
 all_goals first|exact .err|exact EQ.tr_n
def arx{b:Int}{vs:List NV}:Nt d (cB fG W x y b vs):=by
 have a:∀{u:af->af}{t:Tr},(∀M,(u M).vals=M.vals/\(u M).begun=M.begun)->Nt d t->Nt d (.st u λ_=>t):=λc e=>.st c (λ_=>rfl) e;unfold cB;split
 ·split;·exact a (λ_=>⟨rfl,rfl⟩) aru
  split;·exact a (λ_=>⟨rfl,rfl⟩) arv
  split
  ·split
   ·split;·exact .err
    exact .ret
   exact a (λ_=>⟨rfl,rfl⟩) arw
  split
  ·refine a (λ_=>⟨rfl,rfl⟩) ?_;split;·exact .err
   exact EQ.tr_n
  exact NR.tr_n
 exact .err
def zi{e:EN}{k:Bool->Tr}(a:TE e)(c:∀b,Nt d (k b)):Nt d (dX e d k):=by
 refine .call ⟨rfl,a⟩ λv _=>?_;split;·exact c _
 exact .err
def Xs{k:List NV->Tr}(a:∀vs,Nt d (k vs)):∀{l:List EN}{acc:List NV},(∀e∈l,TE e)->Nt d (gZ d k l acc)|[],acc,_=>a acc|e::l,acc,b=>.call ⟨rfl,b e (by simp)⟩ λv _=>Xs a λx c=>b x (by simp[c])
theorem TE.un{e:EN}(h:TE e):(e.op=5->∃a,e.args=[a]/\a.op=2)/\∀a∈e.args,TE a:=by cases h with|mk b c=>exact⟨b,c⟩
def Xt{e:EN}(r:TE e):Nt d (bM fG W e d):=by
 obtain⟨s,j⟩:=r.un;have f:∀i,i<e.args.length->TE e.args[i]!:=λi hi=>by rw[Hy e.args i hi];exact j _ (hY hi)
 unfold bM;split
 ·rename_i g;unfold EN.formed at g;simp only[D0,Hq]at g;have n:e.op=15\/e.op=16->e.args.length=2:=λh=>by have:=g.2;rcases h with h|h<;>rw[h]at this<;>simp[ic]at this<;>omega
  have t:e.op=18->e.args.length=3:=λh=>by have:=g.2;rw[h]at this;simp[ic]at this;omega
  by_cases o:e.op=1;·rw[E4 o];exact .ret
  rw[E1 o];by_cases p:e.op=2;·rw[E4 p];exact .ret
  rw[E1 p];by_cases c3:e.op=15;·rw[E4 c3];have:=n (.inl c3);refine zi (f 0 (by omega)) λb=>?_;cases b with|true=>rw[E4 rfl];exact zi (f 1 (by omega)) λc=>.ret|false=>exact .ret
  rw[E1 c3];by_cases k:e.op=16;·rw[E4 k];have:=n (.inr k);refine zi (f 0 (by omega)) λb=>?_;cases b with|true=>exact .ret|false=>rw[E1 (by decide)];exact zi (f 1 (by omega)) λc=>.ret
  rw[E1 k];by_cases l:e.op=18;·rw[E4 l];have:=t l;refine zi (f 0 (by omega)) λb=>?_;cases b with|true=>exact .call ⟨rfl,f 1 (by omega)⟩ λv _=>.ret|false=>exact .call ⟨rfl,f 2 (by omega)⟩ λv _=>.ret
  rw[E1 l];by_cases m:e.op=5;·obtain⟨a,q,u⟩:=s m;rw[q];refine .call ⟨rfl,j a (by rw[q];simp)⟩ λv w=>?_;show Nt d (if e.op=5 then kX e.name v else cB fG W e.op e.name e.md [v]);rw[E4 m,w u];exact .call rfl λv _=>.ret
  refine Xs (λvs=>?_) j;rw[E1 m];exact arx
 exact .err
end
end
section
open Go.Dm
set_option maxRecDepth 10000
section
variable {W:Wd} {d:Int}
def Vd (W:Wd) (d:Int) (M:af):Prop := ∀ p v,M.vals.lookup p=some v -> p.2=d -> FJ W (.pair p.1 p.2) v
theorem ary {n:Nat} {j:aL} {M M':af} {v:NV} (h:gv (Bd W) n j M=some (.ok v,M')):RT j v:=by
 cases n with
 | zero=>cases h
 | succ n =>
  cases j with
  | pair=>trivial
  | term e d =>
   intro h2
   simp only[gv]at h
   change cI _ (bM fG W e d) M=_ at h
   unfold bM at h
   split at h
   ·rw[E1 (show ¬ e.op=1 by omega)]at h
    try rw[E4 h2]at h
    cases h;rfl
   ·cases h
theorem arz {n:Nat} {j:aL} {v:NV} (h:cM (dv W) n j=some v):RT j v:=by
 cases n with
 | zero=>cases h
 | succ n =>
  cases j with
  | pair=>trivial
  | term e d =>
   intro h2
   simp only[cM]at h
   change dC _ (bM fG W e d)=_ at h
   unfold bM at h
   split at h
   ·rw[E1 (show ¬ e.op=1 by omega)]at h
    try rw[E4 h2]at h
    cases h;rfl
   ·cases h
def CU (W:Wd) (d:Int) (rec:aL -> af -> Option (NR×af)):Prop := ∀ j M v M',JT d j -> Vd W d M -> rec j M=some (.ok v,M') -> FJ W j v /\ Vd W d M' /\ RT j v
theorem Nt.snd {rec:aL -> af -> Option (NR×af)} (hr:CU W d rec) {t:Tr} (h:Nt d t) : ∀ {M v M'},Vd W d M -> cI rec t M=some (.ok v,M') -> FR W t v /\ Vd W d M':=by
 induction h with
 | ret=>intro M v M' hm e;cases e;exact⟨.ret,hm⟩
 | err=>intro M v M' hm e;cases e
 | @st u k hu hk _ ih =>
  intro M v M' hm e
  change cI rec (k M) (u M)=_ at e
  rw[hk M]at e
  have hm':Vd W d (u M):=fun p v h=>hm p v (by rw[(hu M).1]at h;exact h)
  obtain⟨h1,h2⟩:=ih hm' e
  exact⟨.st h1,h2⟩
 | @call j k hj _ ih =>
  intro M v M' hm e
  simp only[cI]at e
  cases hc:rec j M with
  | none=>rw[hc]at e;cases e
  | some p =>
   obtain⟨x,M1⟩:=p
   rw[hc]at e
   cases x with
   | er c=>cases e
   | ok w =>
    obtain⟨h1,h2,h3⟩:=hr j M w M1 hj hm hc
    obtain⟨h4,h5⟩:=ih w h3 h2 e
    exact⟨.call h1 h4,h5⟩
def TV (W:Wd) (d:Int) (q:Nat×eK) (b:Bool):Prop := ∃ x,FJ W (.term q.2.when d) x /\ x.k=1 /\ decide (x.i=1)=b
def CW (W:Wd) (d:Int) (l:List (Nat×eK)) (c n c':Nat):Prop:=(n=1 /\ c'=c /\ ∀ q∈l,TV W d q false) \/ (n=0 /\ ∃ l1 q l2,l=l1++q::l2 /\ c'=q.1 /\ TV W d q true /\ (∀ q'∈l1,TV W d q' false) /\ ∀ q'∈l2,TV W d q' false)
theorem IT {rec:aL -> af -> Option (NR×af)} (hr:CU W d rec) {K:Nat -> Tr} {v:NV} {M':af} : ∀ {l:List (Nat×eK)} {c n:Nat} {M:af},(∀ q∈l,TE q.2.when) -> Vd W d M -> cI rec (bC d K l c n) M=some (.ok v,M') -> ∃ c' M1,CW W d l c n c' /\ Vd W d M1 /\ cI rec (K c') M1=some (.ok v,M')
 | [],c,n,M,_,hm,e=>by
  unfold bC at e
  split at e
  ·cases e
  ·split at e
   ·cases e
   ·exact⟨c,M,.inl ⟨by omega,rfl,fun _ h=>by cases h⟩,hm,e⟩
 | (i, x)::l,c,n,M,hl,hm,e=>by
  change cI rec (.call (.term x.when d) fun v=>if v.k=1 then(if decide (v.i=1)=true then bC d K l i (n+1)else bC d K l c n)else .err 185) M=_ at e
  simp only[cI]at e
  cases hc:rec (.term x.when d) M with
  | none=>rw[hc]at e;cases e
  | some p =>
   obtain⟨y,M1⟩:=p
   rw[hc]at e
   cases y with
   | er c=>cases e
   | ok w =>
    obtain⟨h1,h2,_⟩:=hr (.term x.when d) M w M1 ⟨rfl,hl (i,x) (by simp)⟩ hm hc
    dsimp only at e
    by_cases hk:w.k=1
    ·rw [E4 hk]at e
     have hl' : ∀ q∈l,TE q.2.when:=fun q hq=>hl q (by simp[hq])
     by_cases hb:w.i=1
     ·rw[E4 (by simpa using hb)]at e
      obtain⟨c',M2,o,h3,h4⟩:=IT hr hl' h2 e
      refine⟨c',M2, ?_,h3,h4⟩
      rcases o with⟨o1,o2,o3⟩|⟨o1,_⟩
      ·exact .inr ⟨by omega,[],(i,x),l,rfl,o2,⟨w,h1,hk,by simpa using hb⟩,fun _ h=>(by cases h),o3⟩
      ·omega
     ·rw [E1 (by simpa using hb)]at e
      obtain⟨c',M2,o,h3,h4⟩:=IT hr hl' h2 e
      have hf:TV W d (i,x) false:=⟨w,h1,hk,by simpa using hb⟩
      refine⟨c',M2, ?_,h3,h4⟩
      rcases o with⟨o1,o2,o3⟩|⟨o1,l1,q,l2,rfl,o2,o3,o4,o5⟩
      ·refine .inl ⟨o1,o2,fun q hq => ?_⟩
       rcases S2.1 hq with rfl|hq
       ·exact hf
       ·exact o3 q hq
      ·refine .inr ⟨o1,(i,x)::l1,q,l2,rfl,o2,o3,fun q hq => ?_,o5⟩
       rcases S2.1 hq with rfl|hq
       ·exact hf
       ·exact o4 q hq
    ·rw[E1 hk]at e;cases e
theorem IU {K:Nat -> Tr} {v:NV} {q:Nat×eK} {l:List (Nat×eK)} {c n:Nat} {b:Bool} (h:TV W d q b) (h2:FR W (if b=true then bC d K l q.1 (n+1)else bC d K l c n) v):FR W (bC d K (q::l) c n) v:=by
 obtain⟨x,h1,hk,rfl⟩:=h
 obtain⟨i,y⟩:=q
 refine FR.call h1 ?_
 show FR W (if x.k=1 then _ else _) v
 rw[E4 hk]
 exact h2
theorem CY {K:Nat -> Tr} {v:NV} {c':Nat} (hK:FR W (K c') v) : ∀ {l:List (Nat×eK)} {c n:Nat},CW W d l c n c' -> FR W (bC d K l c n) v
 | [],c,n,o=>by
  rcases o with⟨o1,o2,_⟩|⟨_,l1,q,l2,h,_⟩
  ·unfold bC
   rw[E1 (by omega),E1 (by omega), <- o2]
   exact hK
  ·cases l1<;>cases h
 | q :: l,c,n,o=>by
  rcases o with⟨o1,o2,o3⟩|⟨o1,l1,q',l2,h,o2,o3,o4,o5⟩
  ·exact IU (o3 q (by simp)) (CY hK (.inl ⟨o1,o2,fun q hq=>o3 q (by simp[hq])⟩))
  ·cases l1 with
   | nil =>
    cases h
    exact IU o3 (CY hK (.inl ⟨by omega,o2,o5⟩))
   | cons a l1 =>
    cases h
    exact IU (o4 _ (by simp)) (CY hK (.inr ⟨o1,l1,q',l2,rfl,o2,o3,fun q hq=>o4 q (by simp[hq]),o5⟩))
noncomputable abbrev CZ (W:Wd) (nm:Nm) (d:Int) (c:Nat):Tr := .call (.term (W.clause c).thn d) fun v=>if W.kind nm=some v.k then .st (oY (nm,d) v) fun _ => .ret v else .err 185
theorem arA {n:Nat} {nm:Nm} {M M':af} {v:NV} (h:gv (Bd W) (n+1) (.pair nm d) M=some (.ok v,M')):(M.vals.lookup (nm,d)=some v /\ M'=M) \/ (M.vals.lookup (nm,d)=none /\ (nm,d)∉M.begun /\ (∃ k,W.kind nm=some k) /\ cI (gv (Bd W) n) (jt W nm d (CZ W nm d)) (kY (nm,d) (js (nm,d) M))=some (.ok v,M')):=by
 simp only[gv]at h
 change cI _ (jY W nm d) M=_ at h
 unfold jY at h
 simp only[cI,id]at h
 cases hl:M.vals.lookup (nm,d)with
 | some w=>rw[hl]at h;cases h;exact .inl ⟨rfl,rfl⟩
 | none =>
  rw[hl]at h
  unfold eY at h
  simp only[cI,id]at h
  split at h
  ·cases h
  ·rename_i hb
   simp only[cI]at h
   split at h
   ·cases h
   ·simp only[cI]at h
    split at h
    ·cases h
    ·rename_i k hk
     exact .inr ⟨rfl,hb,⟨k,hk⟩,h⟩
structure WT (W:Wd) (d:Int):Prop where
 w : ∀ nm, ∀ q∈W.cl nm d,TE q.2.when
 t : ∀ c,TE (W.clause c).thn
theorem arB {nm:Nm} {c:Nat} {v:NV} (h:CW W d (W.cl nm d) 0 0 c) (ht:FJ W (.term (W.clause c).thn d) v) (hk:W.kind nm=some v.k):FJ W (.pair nm d) v:=by
 refine .of ?_
 show FR W (qP W nm d) v
 have:qP W nm d=jt W nm d fun c => .call (.term (W.clause c).thn d) fun v=>if W.kind nm=some v.k then .ret v else .err 185:=by
  unfold qP
  split
  ·rename_i h0;rw[hk]at h0;cases h0
  ·rfl
 rw[this]
 exact CY (.call ht (by rw[E4 hk];exact .ret)) h
theorem arD {rec:aL -> af -> Option (NR×af)} (hr:CU W d rec) (hW:WT W d) {nm:Nm} {c:Nat} {v:NV} {M M':af} (hm:Vd W d M) (h:cI rec (CZ W nm d c) M=some (.ok v,M')):FJ W (.term (W.clause c).thn d) v /\ W.kind nm=some v.k /\ ∃ M1,Vd W d M1 /\ M'=oY (nm,d) v M1:=by
 simp only[cI]at h
 cases hc:rec (.term (W.clause c).thn d) M with
 | none=>rw[hc]at h;cases h
 | some p =>
  obtain⟨x,M1⟩:=p
  rw[hc]at h
  cases x with
  | er c=>cases h
  | ok w =>
   obtain⟨h1,h2,_⟩:=hr (.term (W.clause c).thn d) M w M1 ⟨rfl,hW.t c⟩ hm hc
   dsimp only at h
   split at h
   ·rename_i hk
    cases h
    exact⟨h1,hk,M1,h2,rfl⟩
   ·cases h
theorem C0 {k p:Nm×Int} {v:NV} : ∀ {l:List ((Nm×Int)×NV)},(aS k v l).lookup p=if p=k then some v else l.lookup p
 | []=>by
  show List.lookup p [(k,v)]=_
  rw[AAj]
  by_cases h:p=k
  ·rw[E4 h,show(p==k)=true by simpa using h]
  ·rw[E1 h,show(p==k)=false by simpa using h]
 | (a,b)::l=>by
  have ih:=C0 (k:=k) (p:=p) (v:=v) (l:=l)
  unfold aS
  by_cases h:k=a
  ·rw[E4 h,AAj,AAj]
   by_cases h2:p=k
   ·rw[E4 h2,show(p==k)=true by simpa using h2]
   ·rw[E1 h2,show(p==k)=false by simpa using h2,show(p==a)=false by rw[<- h];simpa using h2]
  ·rw [E1 h,AAj,AAj,ih]
   by_cases h2:p=a
   ·have h3 : ¬ p=k:=fun e=>h (e.symm.trans h2)
    rw[show(p==a)=true by simpa using h2,E1 h3,E1 h3]
   ·rw[show(p==a)=false by simpa using h2]
theorem IV (hW:WT W d) : ∀ n,CU W d (gv (Bd W) n)
 | 0,_,_,_,_,_,_,e=>by cases e
 | n + 1,j,M,v,M',hj,hm,e=>by
  have hrt:=ary e
  have ih:=IV hW n
  cases j with
  | term x d' =>
   obtain⟨rfl,hx⟩:=hj
   obtain⟨h1,h2⟩:=(Xt (W:=W) hx).snd ih hm e
   exact⟨.of h1,h2,hrt⟩
  | pair nm d' =>
   obtain rfl:d'=d:=hj
   rcases arA e with⟨h1,rfl⟩|⟨_,_,_,h4⟩
   ·exact⟨hm (nm,d') v h1 rfl,hm,hrt⟩
   ·obtain ⟨c',M1,o,h5,h6⟩:=IT ih (hW.w nm) (by exact hm) h4
    obtain⟨h7,h8,M2,h9,rfl⟩:=arD ih hW h5 h6
    have hp:=arB o h7 h8
    refine⟨hp,fun p w hl hd => ?_,hrt⟩
    have hl':(aS (nm,d') v M2.vals).lookup p=some w:=hl
    rw[C0]at hl'
    split at hl'
    ·rename_i he
     cases hl'
     rw[he];exact hp
    ·exact h9 p w hl' hd
end
end
section
open Go.Dm
set_option maxRecDepth 10000
section
variable {W:Wd} {d:Int} {n:Nat} {M M1 M':af} {v:NV}
structure Iv (W:Wd) (d:Int) (n:Nat) (M:af):Prop where
 v:Vd W d M
 nd:M.begun.Nodup
 nm : ∀ p∈M.begun,W.kind p.1≠none /\ p.2=d
 s : ∀ p∈M.begun,M.vals.lookup p=none -> cM (dv W) n (.pair p.1 p.2)=none
structure Po (W:Wd) (d:Int) (M M':af):Prop where
 v:Vd W d M'
 nd:M'.begun.Nodup
 nm : ∀ p∈M'.begun,W.kind p.1≠none /\ p.2=d
 s : ∀ p∈M'.begun,M'.vals.lookup p=none -> p∈M.begun /\ M.vals.lookup p=none
theorem Iv.po (h:Iv W d n M):Po W d M M:=⟨h.v,h.nd,h.nm,fun _ a b=>⟨a,b⟩⟩
theorem Po.iv (h:Po W d M M') (i:Iv W d n M):Iv W d n M':=⟨h.v,h.nd,h.nm,fun p a b=>by
 obtain⟨x,y⟩:=h.s p a b
 exact i.s p x y⟩
theorem Po.trans (h:Po W d M M1) (h2:Po W d M1 M'):Po W d M M':=⟨h2.v,h2.nd,h2.nm,fun p a b=>by
 obtain⟨x,y⟩:=h2.s p a b
 exact h.s p x y⟩
theorem Iv.le (h:Iv W d (n+1) M):Iv W d n M:=⟨h.v,h.nd,h.nm,fun p a b=>by
 have:=h.s p a b
 cases hc:cM (dv W) n (.pair p.1 p.2)with
 | none=>rfl
 | some w=>rw[IS _ _ _ hc]at this;cases this⟩
def IW (W:Wd) (d:Int) (n:Nat):Prop := ∀ j v M,JT d j -> cM (dv W) n j=some v -> Iv W d n M -> ∃ M',aN (Bd W) j M (.ok v) M' /\ Po W d M M'
theorem Nt.cmp (hr:IW W d n) {t:Tr} (h:Nt d t) : ∀ {M v},dC (cM (dv W) n) t=some v -> Iv W d n M -> ∃ M',aG (Bd W) t M (.ok v) M' /\ Po W d M M':=by
 induction h with
 | ret=>intro M v e hm;cases e;exact⟨M,.ret,hm.po⟩
 | err=>intro M v e hm;cases e
 | @st u k hu hk _ ih =>
  intro M v e hm
  obtain⟨u1,u2⟩:=hu M
  have hm':Iv W d n (u M):=by
   obtain⟨a,b,c,e⟩:=hm
   refine⟨?_, ?_, ?_, ?_⟩
   ·unfold Vd;rw[u1];exact a
   ·rw[u2];exact b
   ·rw[u2];exact c
   ·rw[u1,u2];exact e
  obtain⟨M',h1,h2⟩:=ih (M:=u M) e hm'
  refine⟨M',.st (by rw[hk M];exact h1),⟨h2.v,h2.nd,h2.nm, ?_⟩⟩
  have:=h2.s
  rw[u1,u2]at this
  exact this
 | @call j k hj _ ih =>
  intro M v e hm
  simp only[dC]at e
  cases hc:cM (dv W) n j with
  | none=>rw[hc]at e;cases e
  | some w =>
   rw[hc]at e
   obtain⟨M1,h1,h2⟩:=hr j w M hj hc hm
   obtain⟨M2,h3,h4⟩:=ih w (arz hc) e (h2.iv hm)
   exact⟨M2,.call h1 h3,h2.trans h4⟩
theorem C1 (hr:IW W d n) {KF KM:Nat -> Tr} {g:af -> af} {r:NV} (hK : ∀ c M,dC (cM (dv W) n) (KF c)=some v -> Iv W d n M -> ∃ M2,aG (Bd W) (KM c) M (.ok r) (g M2) /\ Po W d M M2) : ∀ {l:List (Nat×eK)} {c m:Nat} {M:af},(∀ q∈l,TE q.2.when) -> dC (cM (dv W) n) (bC d KF l c m)=some v -> Iv W d n M -> ∃ M2,aG (Bd W) (bC d KM l c m) M (.ok r) (g M2) /\ Po W d M M2
 | [],c,m,M,_,e,hm=>by
  unfold bC at e ⊢
  split at e
  ·cases e
  ·rename_i c1
   rw[E1 c1]
   split at e
   ·cases e
   ·rename_i c2
    rw[E1 c2]
    exact hK c M e hm
 | (i,x)::l,c,m,M,hl,e,hm=>by
  change dC _ (.call (.term x.when d) fun v=>if v.k=1 then(if decide (v.i=1)=true then bC d KF l i (m+1)else bC d KF l c m)else .err 185)=_ at e
  simp only[dC]at e
  cases hc:cM (dv W) n (.term x.when d)with
  | none=>rw[hc]at e;cases e
  | some w =>
   rw[hc]at e
   dsimp only at e
   obtain⟨M1,h1,h2⟩:=hr (.term x.when d) w M ⟨rfl,hl (i,x) (by simp)⟩ hc hm
   have hl' : ∀ q∈l,TE q.2.when:=fun q hq=>hl q (by simp[hq])
   by_cases hk:w.k=1
   ·rw [E4 hk]at e
    by_cases hb:w.i=1
    ·rw[E4 (by simpa using hb)]at e
     obtain⟨M2,h3,h4⟩:=C1 hr hK hl' e (h2.iv hm)
     refine⟨M2,.call h1 ?_,h2.trans h4⟩
     rw[E4 hk]
     dsimp only
     rw[E4 (by simpa using hb)]
     exact h3
    ·rw[E1 (by simpa using hb)]at e
     obtain⟨M2,h3,h4⟩:=C1 hr hK hl' e (h2.iv hm)
     refine⟨M2,.call h1 ?_,h2.trans h4⟩
     rw[E4 hk]
     dsimp only
     rw[E1 (by simpa using hb)]
     exact h3
   ·rw[E1 hk]at e;cases e
def WN (W:Wd) (d:Int):Prop := ∀ L:List (Nm×Int),L.Nodup -> (∀ p∈L,W.kind p.1≠none /\ p.2=d) -> L.length<4096
theorem Xu (i:Iv W d (n+1) M) {nm:Nm} (hk:W.kind nm≠none) (hb:(nm,d)∉M.begun) (hn:cM (dv W) n (.pair nm d)=none):Iv W d n (kY (nm,d) (js (nm,d) M)):=by
 refine⟨i.v, ?_, ?_, ?_⟩
 ·show(M.begun++[(nm,d)]).Nodup
  rw[AAH]
  refine⟨i.nd,by simp,fun a ha b hb' e => ?_⟩
  rw[eD]at hb'
  exact hb (hb'▸e▸ha)
 ·intro p hp
  rcases TA.1 (show p∈M.begun++[(nm,d)]from hp)with hp|hp
  ·exact i.nm p hp
  ·rw[eD]at hp;subst hp;exact⟨hk,rfl⟩
 ·intro p hp hl
  rcases TA.1 (show p∈M.begun++[(nm,d)]from hp)with hp|hp
  ·exact i.le.s p hp hl
  ·rw[eD]at hp;subst hp;exact hn
theorem arE {r:NR} {nm:Nm} {k:Nat} (hl:M.vals.lookup (nm,d)=none) (hb:(nm,d)∉M.begun) (hlen:M.begun.length≠4096) (hk:W.kind nm=some k) (h:aG (Bd W) (jt W nm d (CZ W nm d)) (kY (nm,d) (js (nm,d) M)) r M'):aN (Bd W) (.pair nm d) M r M':=by
 refine .of ?_
 show aG _ (jY W nm d) M r M'
 unfold jY
 refine .st ?_
 try dsimp only[id]
 rw[hl]
 try dsimp only
 unfold eY
 refine .st ?_
 try dsimp only[id]
 rw[E1 hb]
 refine .st ?_
 try dsimp only
 rw[E1 hlen]
 refine .st ?_
 try dsimp only
 split
 ·rename_i h0;rw[hk]at h0;cases h0
 ·exact h
theorem Xv {nm:Nm} (h:dC (cM (dv W) n) (qP W nm d)=some v):(∃ k,W.kind nm=some k) /\ dC (cM (dv W) n) (jt W nm d fun c => .call (.term (W.clause c).thn d) fun v=>if W.kind nm=some v.k then .ret v else .err 185)=some v:=by
 unfold qP at h
 split at h
 ·cases h
 ·rename_i k hk
  exact⟨⟨k,hk⟩,h⟩
theorem C2 (hW:WT W d) (hN:WN W d) : ∀ n,IW W d n
 | 0,_,_,_,_,e,_=>by cases e
 | n + 1,j,v,M,hj,e,i=>by
  have ih:=C2 hW hN n
  cases j with
  | term x d' =>
   obtain⟨rfl,hx⟩:=hj
   have h:=(Xt (W:=W) hx).cmp ih (M:=M) e i.le
   obtain⟨M',h1,h2⟩:=h
   exact⟨M',.of h1,h2⟩
  | pair nm d' =>
   obtain rfl:d'=d:=hj
   cases hl:M.vals.lookup (nm,d')with
   | some w =>
    obtain rfl:w=v:=(i.v (nm,d') w hl rfl).det ⟨n+1,e⟩
    refine⟨M,.of ?_,i.po⟩
    show aG _ (jY W nm d') M _ M
    unfold jY
    refine .st ?_
    try dsimp only[id]
    rw[hl]
    exact .ret
   | none =>
    cases hn:cM (dv W) n (.pair nm d')with
    | some w =>
     obtain rfl:w=v:=FJ.det ⟨n,hn⟩ ⟨n+1,e⟩
     exact ih (.pair nm d') w M rfl hn i.le
    | none =>
     have hb:(nm,d')∉M.begun:=fun hb=>by
      have:=i.s _ hb hl
      rw[e]at this;cases this
     obtain⟨⟨k,hk⟩,hp⟩:=Xv (show dC (cM (dv W) n) (qP W nm d')=some v from e)
     have i1:=Xu i (by rw[hk];exact nofun) hb hn
     have hlen:=hN _ i.nd i.nm
     obtain ⟨M2,h1,h2⟩:=C1 (KM:=CZ W nm d') (g:=oY (nm,d') v) (r:=v) ih (fun c M3 h3 i3=>by
      simp only[dC]at h3
      cases hc:cM (dv W) n (.term (W.clause c).thn d')with
      | none=>rw[hc]at h3;cases h3
      | some w =>
       rw[hc]at h3
       dsimp only at h3
       obtain⟨M4,h4,h5⟩:=ih (.term (W.clause c).thn d') w M3 ⟨rfl,hW.t c⟩ hc i3
       split at h3
       ·rename_i hkw
        cases h3
        refine⟨M4,.call h4 ?_,h5⟩
        rw[E4 hkw]
        exact .st .ret
       ·cases h3) (hW.w nm) hp i1
     refine⟨_,arE hl hb (by omega) hk h1,⟨fun p w hl' hd => ?_,h2.nd,h2.nm,fun p hp' hl' => ?_⟩⟩
     ·have hl2:(aS (nm,d') v M2.vals).lookup p=some w:=hl'
      rw[C0]at hl2
      split at hl2
      ·rename_i he
       cases hl2
       rw[he];exact⟨n+1,e⟩
      ·exact h2.v p w hl2 hd
     ·have hl2:(aS (nm,d') v M2.vals).lookup p=none:=hl'
      rw[C0]at hl2
      split at hl2
      ·cases hl2
      ·rename_i hne
       obtain⟨x,y⟩:=h2.s p hp' hl2
       rcases TA.1 (show p∈M.begun++[(nm,d')]from x)with x|x
       ·exact⟨x,y⟩
       ·rw[eD]at x;exact(hne x).elim
end
end
section
open Go.Dm
set_option maxRecDepth 10000
def C3 (P:Prop) (f:FuncId) (ds:List D):Prop := ∃ b:Bool,ai VS f ds (.b b) /\ (b=true -> P)
theorem C3.of {P:Prop} {f:FuncId} {ds:List D} (h:aH VS f ds fun r => ∃ b,r = .ret (.b b) /\ (b=true -> P)):C3 P f ds:=by
 obtain⟨n,h1,b,h2,h3⟩:=h
 exact⟨b,⟨n,h2⟩,h3⟩
theorem Xw {e:Dv.Ex} (h:LX e):C3 (TE e.en) 46 [e.d]:=by
 induction h with | @mk e _ hl _ ih =>
 refine .of (.body qA rfl ?_)
 simp only[Ex.d,Ex.row_eq]at ih ⊢
 have main : ∀ a2,(e.op=5 -> ∃ a,e.args=[a] /\ a.op=2) -> ak VS (.loop DE) ⟨[.ag [.i .u8 e.op,.s e.name,.i .u8 e.v.k,.b e.v.f.s,e.v.f.x,.b e.v.f.t,e.v.f.y,.i .i64 e.v.i,e.sl],.b false,a2,.u,.u,.bx [.i .u8 e.op,.s e.name,.i .u8 e.v.k,.b e.v.f.s,e.v.f.x,.b e.v.f.t,e.v.f.y,.i .i64 e.v.i,e.sl],.i .i64 0,.i .i64 e.args.length,e.sl,.u],[]⟩ (lG 0 (kK VS (.seq (.reg [⟨.mov (.c (.b true)),some 1,none⟩] none) .ret) (du [.s 1] (fE false fun r => ∃ b,r = .ret (.b b) /\ (b=true -> TE e.en))))):=by
  intro a2 h5
  refine ak.up (fun i s => ∃ (a2 a3 a4 a9:D),(∀ a∈e.args.take i,TE a.en) /\ s=⟨[.ag [.i .u8 e.op,.s _,.i .u8 e.v.k,.b _,e.v.f.x,.b _,e.v.f.y,.i .i64 e.v.i,e.sl],.b false,a2,a3,a4,.bx [.i .u8 e.op,.s _,.i .u8 e.v.k,.b _,e.v.f.x,.b _,e.v.f.y,.i .i64 e.v.i,e.sl],.i .i64 i,.i .i64 _,e.sl,a9],[]⟩) e.args.length ⟨_,_,_,_,fun _ h=>(by simp at h),rfl⟩ ?_
  rintro i s hi ⟨a2,a3,a4,a9,hT,rfl⟩
  by_cases hlt:i<e.args.length
  ·have c1:(i:Int)<e.args.length:=by omega
   have c2:(0:Int) <= i:=by omega
   obtain⟨a,ha⟩ : ∃ a,a=e.args[i]! := ⟨_,rfl⟩
   obtain⟨k,hk,hkT⟩:=ih a (ha▸sT hlt)
   have e1:=fun{H K}=>hk.c (H:=H) (K:=K) qA rfl (by simp[a.rpl]) (.inl rfl)
   cases k with
   | true =>
    simp(disch:=omega) only[go_sem,wQ,c1,c2,e.hsl.q, <- ha,Ex.row_eq,e1,wr]
    refine⟨by omega,fun b hb => ?_⟩
    rw[fD hlt]at hb
    rcases TA.1 hb with hb|hb
    ·exact hT b hb
    ·rw[eD]at hb
     rw[hb, <- getElem!_pos e.args i hlt, <- ha]
     exact hkT rfl
   | false =>
    simp  [go_sem,wQ,e.hsl.q, <- ha,Ex.row_eq,e1]
    intro h;omega
  ·have c1 : ¬ (i:Int)<e.args.length:=by omega
   simp  [go_sem,wQ,c1]
   refine .mk (fun h => ?_) fun a ha => ?_
   ·rw[Ex.en_op]at h
    obtain⟨b,hb,hb2⟩:=h5 h
    exact⟨b.en,by rw[Ex.en_args,hb];rfl,by rw[Ex.en_op];exact hb2⟩
   ·rw[Ex.en_args]at ha
    obtain⟨b,hb,rfl⟩:=fT.1 ha
    exact hT b (by rw[E2 (by omega)];exact hb)
 by_cases c5:(e.op:Int)=5
 ·have d5:=iff_of_true c5 trivial
  by_cases c1:(e.args.length:Int)=1
  ·have d1:=iff_of_true c1 trivial
   have c2:(0:Int)<e.args.length:=by omega
   obtain⟨a,ha⟩ : ∃ a,a=e.args[0]! := ⟨_,rfl⟩
   by_cases c3:(a.op:Int)=2
   ·simp  only[go_sem,simprocAttr,qV,d5,d1,c2,e.hsl.n,e.hsl.q, <- ha,Ex.row_eq,c3]
    exact main _ fun _=>⟨a,by
     match hq:e.args,c1 with
     | [b],_=>rw[ha,hq];rfl
     | [],c=>simp[hq]at c1
     | _::_::_,c=>simp[hq]at c1;omega,by omega⟩
   ·simp  only[go_sem,simprocAttr,qV,d5,d1,c2,e.hsl.n,e.hsl.q, <- ha,Ex.row_eq,c3]
    try exact⟨_,rfl⟩
  ·simp  [go_sem,simprocAttr,qV,d5,c1,e.hsl.n]
   try exact⟨_,rfl⟩
 ·simp  only[go_sem,simprocAttr,qV,c5,e.hsl.n]
  exact main _ fun h=>(c5 (by omega)).elim
section
variable {p:Pl} {l:List Fc} {x:D}
theorem arF (hn:p.cls.length <= 16) (hc : ∀ c∈p.cls,LX c.w /\ LX c.t):C3 (∀ c∈p.cls,TE c.w.en /\ TE c.t.en) 21 [p.d]:=by
 have n3:=fun{H:ab}=>p.hc.n (H:=H)
 refine .of (.body BH rfl ?_)
 unfold Pl.d
 simp  only[go_sem,Zm,n3]
 refine ak.up (fun i s => ∃ a2 a3 a8:D,(∀ c∈p.cls.take i,TE c.w.en /\ TE c.t.en) /\ s=⟨[.ag [.s _,p.dD,p.tD,p.cD],.b false,a2,a3,.bx [.s _,p.dD,p.tD,p.cD],.i .i64 i,.i .i64 _,p.cD,a8],[]⟩) p.cls.length ⟨_,_,_,fun _ h=>(by simp at h),rfl⟩ ?_
 rintro i s hi ⟨a2,a3,a8,hT,rfl⟩
 by_cases hlt:i<p.cls.length
 ·have c1:(i:Int)<p.cls.length:=by omega
  have c2:(0:Int) <= i:=by omega
  obtain⟨c,hu⟩ : ∃ c,c=p.cls[i]! := ⟨_,rfl⟩
  obtain⟨ow,ot⟩:=hc c (hu▸sT hlt)
  obtain⟨a,ha,ta⟩:=Xw ow
  obtain⟨b,hb,tb⟩:=Xw ot
  have e1:=fun{H K}=>ha.c (H:=H) (K:=K) qA rfl (by simp[c.w.pl]) (.inl rfl)
  have e2:=fun{H K}=>hb.c (H:=H) (K:=K) qA rfl (by simp[c.t.pl]) (.inl rfl)
  simp[Ex.d,Ex.row_eq]at e1 e2
  cases a with
  | false =>
   simp  [go_sem,simprocAttr,qU,p.hc.q, <- hu,Cl.row,Ex.row_eq,e1]
   intro h;omega
  | true =>
   cases b with
   | false =>
    simp  [go_sem,simprocAttr,qU,p.hc.q, <- hu,Cl.row,Ex.row_eq,e1,e2]
    intro h;omega
   | true =>
    simp(disch:=omega) only[go_sem,simprocAttr,qU,c1,c2,p.hc.q, <- hu,Cl.row,Ex.row_eq,e1,e2,wr]
    refine⟨by omega,fun y hy => ?_⟩
    rw[fD hlt]at hy
    rcases TA.1 hy with hy|hy
    ·exact hT y hy
    ·rw[eD]at hy
     rw[hy, <- getElem!_pos p.cls i hlt, <- hu]
     exact⟨ta rfl,tb rfl⟩
 ·have c1 : ¬ (i:Int)<p.cls.length:=by omega
  simp  [go_sem,qU,c1]
  intro y hy
  exact hT y (by rw[E2 (by omega)];exact hy)
theorem arG {p:Pl} {l:List Fc} {x:D} (hx:Sl 11 (l.map Fc.c) x) (hd:p.defs.length<1000000000000000) (hc : ∀ c∈p.cls,LX c.w /\ LX c.t) {d:Int} : ∃ b,ai VS 7 [p.d,x,.i .i64 d] (.b b) /\ (b=true -> nI p l d /\ ∀ c∈p.cls,TE c.w.en /\ TE c.t.en):=by
  obtain ⟨r,h1,b,h2,h3⟩ : ∃ r,aH VS 20 [p.d,x] (· = r) /\ ∃ b,r = .ret (.b b) /\ (b=true -> sU p l):=by
    obtain⟨n,g1,g2⟩:=WA hx hd hc
    exact⟨_,⟨n,g1,rfl⟩,g2⟩
  subst h2
  have f1:=fun{H K}=>(ai.iff_q.2 h1).c (H:=H) (K:=K) GG rfl (by simp[p.pl,hx.pl]) (.inl rfl)
  suffices h : ∃ r,ai VS 7 [p.d,x,.i .i64 d] r /\ ∃ b,r = .b b /\ (b=true -> nI p l d /\ ∀ c∈p.cls,TE c.w.en /\ TE c.t.en)by
    grind
  refine aH.ex (.body vF rfl ?_)
  unfold Pl.d at f1 ⊢
  cases b with
  | false =>
    simp  [go_sem,ki,f1]
  | true =>
    have hB:=h3 rfl
    have q1:=hB.d
    have q2:=hB.c
    have q3:=hB.t
    have q4:=hB.f
    obtain⟨t,ht,tt⟩:=arF q2 hc
    have f2:=fun{H K}=>ht.c (H:=H) (K:=K) BH rfl (by simp[p.pl]) (.inl rfl)
    have f3:=fun{H K}=>(Il p (by omega) (by omega) (by omega)).c (H:=H) (K:=K) BI rfl (by simp[p.pl]) (.inl rfl)
    obtain⟨r,hr1,hr2⟩:=X8 hx (by omega)
    have f4:=fun{H K}=>hr1.c (H:=H) (K:=K) GH rfl (by simp[hx.pl]) (.inl rfl)
    unfold Pl.d at f2 f3
    cases t with
    | false =>
      simp  [go_sem,ki,f1,f2]
    | true =>
      cases hb:p.bounded with
      | false =>
        rw[hb]at f3
        simp  [go_sem,ki,f1,f2,f3]
      | true =>
        rw[hb]at f3
        cases r with
        | false =>
          simp  [go_sem,ki,f1,f2,f3,f4]
        | true =>
          have hr:=hr2 rfl
          by_cases c1:0 <= d
          · by_cases c2:d<65536
            · simp  [go_sem,ki,f1,f2,f3,f4,c1,c2]
              exact⟨⟨hB,by grind[dW]⟩,tt rfl⟩
            · simp  [go_sem,ki,f1,f2,f3,f4,c2]
          · simp  [go_sem,ki,f1,f2,f3,f4,c1]
end
end
section
open Go.Dm
set_option maxRecDepth 10000
def arH{g:FuncId}{cap:List D}{H:ab}{K:CR->Prop}(s:g<4294967295)(h:ac VS g cap (H++[.hb 3 [.i .i64 0],.hb 54 [.i .i64 0]]) (λr=>match r with|.ret d c=>∃a:Int,d=.i .i64 a/\c[H.length]?=some (.hb 3 [.i .i64 0])/\c[H.length+1]?=some (.hb 54 [.i .i64 0])/\K (.ret (.tu [.i .i64 a,.i .i64 0]) ((c.set H.length (.hb 3 [.i .i64 a])).set (H.length+1) (.hb 54 [.i .i64 0])))|.pan d c=>∃e,d=eO e/\c[H.length]?=some (.hb 3 [.i .i64 0])/\c[H.length+1]?=some (.hb 54 [.i .i64 0])/\K (.ret (.tu [.i .i64 0,.i .i64 e]) ((c.set H.length (.hb 3 [.i .i64 0])).set (H.length+1) (.hb 54 [.i .i64 e])))|.bad=>False)):ac VS 39 [.fn (.func g) [] cap] H K:=by
 refine .dfr akS rfl rfl rfl ?_;simp(disch:=omega)only[go_sem,e39,J6];refine⟨rfl,h.mono λr hr=>?_⟩;cases r with|bad=>grind|ret d c=>
 obtain⟨a,rfl,j,f,k⟩:=hr;have n:H.length+1<c.length:=ay f;have l:((c.set H.length (.hb 3 [.i .i64 a])).set (H.length+1) (.hb 54 [.i .i64 0]))[H.length]?=some (.hb 3 [.i .i64 a]):=by grind
 have m:((c.set H.length (.hb 3 [.i .i64 a])).set (H.length+1) (.hb 54 [.i .i64 0]))[H.length+1]?=some (.hb 54 [.i .i64 0]):=by grind
 simp(disch:=omega)only[go_sem,simprocAttr,j,f,mi,K0];refine⟨.inl trivial,by omega,[.i .i64 a,.i .i64 0],?_,k⟩;simp[dc.ev,cT,l,m,sA,de];try rfl|pan d c=>
 obtain⟨e,rfl,j,f,k⟩:=hr;have n:H.length+1<c.length:=ay f;have o:=λ{H K}=>acP (e:=e) (H:=H) (K:=K);have l:((c.set H.length (.hb 3 [.i .i64 0])).set (H.length+1) (.hb 54 [.i .i64 e]))[H.length]?=some (.hb 3 [.i .i64 0]):=by grind
 have m:((c.set H.length (.hb 3 [.i .i64 0])).set (H.length+1) (.hb 54 [.i .i64 e]))[H.length+1]?=some (.hb 54 [.i .i64 e]):=by grind
 have p:ej true EK.ifc (eO e) D.ni=some (.b true):=rfl;have q:(c.set H.length (.hb 3 [.i .i64 0]))[H.length+1]?=some (.hb 54 [.i .i64 0]):=by grind
 simp only[go_sem,simprocAttr,j,q,mi,o,p];refine⟨.inl trivial,by omega,[.i .i64 0,.i .i64 e],?_,k⟩;simp[dc.ev,cT,l,m,sA,de];try rfl
section
variable{I:bU}{B:BW}{O:bB}{K:Int}{Al:Nat->Prop}{Fr:List (Nat×an)}{H:ab}{nm:Nm}{d:Int}
def EV.mem{I:bU}{B:BW}{M:af}{H:ab}:∀{Fr:List (Nat×an)}{p:Nat×an},EV I B M Fr H->p∈Fr->H[p.1]?=some p.2
 |(i,x)::Fr,p,h,a=>by
  rcases S2.1 a with rfl|a;·exact h.fr
  exact EV.mem h.drop a
structure arI(O:bB)(I:bU)(B:BW)(Fr:List (Nat×an))(nm:Nm)(d:Int)(r:CR):Prop where h:(∃(c:Nat)(M':af)(H':ab),r=.ret (.i .i64 (c:Int)) H'/\c<B.cls.length/\(∀κ x M2,aG (bk O B.wd) (κ c) M' x M2->aG (bk O B.wd) (eY B.wd (nm,d) (jt B.wd nm d κ)) af.nil x M2)/\EV I B M' Fr H')\/(∃(e:Int)(M':af)(H':ab),r=.pan (eO e) H'/\(∀κ,aG (bk O B.wd) (eY B.wd (nm,d) (jt B.wd nm d κ)) af.nil (.er e) M')/\EV I B M' Fr H')
def arJ(g:Cx O B K Al)(y:0<=d/\d<65536){a b c:Nat}(z:H[a]?=some (.hb 88 [.hp I.v 0]))(A:H[b]?=some (.hb 9 [.s nm]))(C:H[c]?=some (.hb 3 [.i .i64 d]))(E:(a,an.hb 88 [.hp I.v 0])∈Fr)(F:(b,an.hb 9 [.s nm])∈Fr)(G:(c,an.hb 3 [.i .i64 d])∈Fr)(h:EV I B af.nil Fr H):ac VS 40 [.hp a 0,.hp b 0,.hp c 0] H (arI O I B Fr nm d):=by
 have J:0<=K:=by have:=g.w nm d 0;omega
 have hr:=af.rdy (s:=0) ⟨J,g.k⟩ (by decide);have X:=g.w nm d 0;have L:=V3 (O:=O) (nm:=nm) (d:=d) hr.ok h;obtain⟨S,M⟩:=h.h;have N:=M.hv;refine .body akT rfl rfl ?_;simp[go_sem,auP,z,A,C,N];refine L.mono λr l=>?_;rcases l.h with⟨j,rfl,k,P,f⟩|⟨e,M1,j,rfl,k,f⟩
 ·obtain⟨Y,Q⟩:=f.h;have t:=Q.hv;have m:j[a]?=_:=f.mem E;have u:j[b]?=_:=f.mem F;have v:j[c]?=_:=f.mem G;have U:eJ K 4095 K (kY (nm,d) _):=eJ.beg hr P;have w:=V0 (nm:=nm) g (Ih g 4095).2 y (U.le (by omega)) f;unfold wD at w;simp[go_sem,m,u,v,t];refine⟨ay m,ay t,ay u,ay v,ay m,w.mono λr l=>?_⟩;rcases l.h with⟨c,n,o,rfl,V,p,_,_,q⟩|⟨e,n,o,rfl,p,q⟩;·simp[go_sem];exact⟨.inl ⟨c,n,o,rfl,V,λκ x Z W=>k _ _ _ (p _ _ _ W),q⟩⟩
  simp[go_sem];exact⟨.inr ⟨e,n,o,rfl,λκ=>k _ _ _ (p κ),q⟩⟩
 simp[go_sem];exact⟨.inr ⟨e,M1,j,rfl,λκ=>k _,f⟩⟩
end
structure Xx(O:bB)(p:Pl)(l:List Fc)(nm:Nm)(d known:Int)(r:PR):Prop where n:dW p l d=false->r=.ret (.tu [.i .i64 0,.i .i64 2])y:dW p l d=true->(∃(c:Nat)(M':af),c<p.cls.length/\(∀κ x M2,aG (bk O (p.bw l known).wd) (κ c) M' x M2->aG (bk O (p.bw l known).wd) (eY (p.bw l known).wd (nm,d) (jt (p.bw l known).wd nm d κ)) af.nil x M2)/\r=.ret (.tu [.i .i64 c,.i .i64 0]))\/(∃e M',(∀κ,aG (bk O (p.bw l known).wd) (eY (p.bw l known).wd (nm,d) (jt (p.bw l known).wd nm d κ)) af.nil (.er e) M')/\r=.ret (.tu [.i .i64 0,.i .i64 e]))
def arK(p:Pl){O:bB}(n:vZ O){l:List Fc}{x:D}(o:Sl 11 (l.map Fc.c) x){nm:Nm}{d known:Int}(a:p.few l known):aH VS 18 [p.d,x,.s nm,.i .i64 d,.i .i64 known] (Xx O p l nm d known):=by
 have t:Hs [an.hb 9 [D.s nm],.hb 3 [.i .i64 d]] [(1,.hb 3 [.i .i64 d]),(0,.hb 9 [.s nm])]:=by grind[Hs]
 have j:=λ{K}=>In p o (d:=d) (known:=known) a.d a.t a.f a.c t (K:=K);refine .body GF rfl ?_;unfold Pl.d at j⊢;simp[go_sem,auy];refine j (λu=>?_) (λk I v w=>?_);·simp[go_sem,simprocAttr];exact⟨λ_=>rfl,λh=>by simp[u]at h⟩
 have y:0<=d/\d<65536:=by grind[dW]
 have z:p.bounded=true:=by grind[dW]
 have hr:dP l=true:=by grind[dW]
 have A:=Cq p n z a.f hr a.k a.x;have B:=w.new (x:=.hb 88 [.hp I.v 0]);have b:=(B.new (x:=.hb 3 [.i .i64 0])).new (x:=.hb 54 [.i .i64 0]);simp only[go_sem];refine arH (by decide) ?_;simp only[gC,U3,bN,N3,fA,lA]at b⊢;obtain⟨q,C⟩:∃q,q=v.length:=⟨_,rfl⟩;rw[<-C]at b⊢;have E:=b.drop.drop.fr;have g1:=b.drop.drop.drop.drop.fr;have g0:=b.drop.drop.drop.fr;refine(arJ A y E g1 g0 (by simp) (by simp) (by simp) b).mono λr hr=>?_;rcases hr.h with⟨c,f,F,rfl,G,g,e⟩|⟨m,f,F,rfl,g,e⟩;·refine⟨c,rfl,e.drop.fr,e.fr,?_⟩;simp[go_sem];exact⟨λh=>by simp[k]at h,λ_=>.inl ⟨c,f,G,g,rfl⟩⟩
 refine⟨m,rfl,e.drop.fr,e.fr,?_⟩;simp[go_sem];exact⟨λh=>by simp[k]at h,λ_=>.inr ⟨m,f,g,rfl⟩⟩
end
section
open Go.Dm
set_option maxRecDepth 10000
section
variable{W:Wd}{d:Int}{n:Nat}{v:NV}{nm:Nm}
def Xy{j:aL}:∀n,cM (dv W) n j=some v->∃m,cM (dv W) (m+1) j=some v/\cM (dv W) m j=none|0,h=>by cases h|n+1,h=>by cases a:cM (dv W) n j with|none=>exact⟨n,h,a⟩|some w=>have e:w=v:=FJ.det ⟨n,a⟩ ⟨n+1,h⟩;exact Xy n (by rw[a,e])
def IX{K:Nat->Tr}:∀{l:List (Nat×eK)}{c m:Nat},dC (cM (dv W) n) (bC d K l c m)=some v->∃f,CW W d l c m f/\dC (cM (dv W) n) (K f)=some v/\∀(a:Nat->Tr)(b:NV),dC (cM (dv W) n) (a f)=some b->dC (cM (dv W) n) (bC d a l c m)=some b
 |[],c,m,e=>by
  unfold bC at e;split at e;·cases e
  rename_i B;split at e;·cases e
  rename_i C;refine⟨c,.inl ⟨by omega,rfl,λ_ h=>by cases h⟩,e,λa b h=>?_⟩;unfold bC;rw[E1 B,E1 C];exact h|(i,x)::l,c,m,e=>by change dC _ (.call (.term x.when d) λv=>if v.k=1 then(if decide (v.i=1)=true then bC d K l i (m+1)else bC d K l c m)else .err 185)=_ at e;simp only[dC]at e;cases p:cM (dv W) n (.term x.when d)with|none=>rw[p]at e;cases e|some w=>
 rw[p]at e;dsimp only at e;have z:∀(a:Nat->Tr)(b:NV),dC (cM (dv W) n) (if w.k=1 then(if decide (w.i=1)=true then bC d a l i (m+1)else bC d a l c m)else .err 185)=some b->dC (cM (dv W) n) (bC d a ((i,x)::l) c m)=some b:=λa b h=>by change dC _ (.call (.term x.when d) λv=>if v.k=1 then(if decide (v.i=1)=true then bC d a l i (m+1)else bC d a l c m)else .err 185)=_;simp only[dC];rw[p];exact h
 by_cases j:w.k=1
 ·rw[E4 j]at e;by_cases k:w.i=1
  ·rw[E4 (by simpa using k)]at e;obtain⟨f,o,u,y⟩:=IX e;refine⟨f,?_,u,λa b h=>z a b ?_⟩
   ·rcases o with⟨r,s,t⟩|⟨r,_⟩;·exact .inr ⟨by omega,[],(i,x),l,rfl,s,⟨w,⟨n,p⟩,j,by simpa using k⟩,λ_ h=>(by cases h),t⟩
    omega
   rw[E4 j,E4 (by simpa using k)];exact y a b h
  rw[E1 (by simpa using k)]at e;obtain⟨f,o,u,y⟩:=IX e;have A:TV W d (i,x) false:=⟨w,⟨n,p⟩,j,by simpa using k⟩;refine⟨f,?_,u,λa b h=>z a b ?_⟩
  ·rcases o with⟨r,s,t⟩|⟨r,E,q,F,rfl,s,t,G,H⟩
   ·refine .inl ⟨r,s,λq g=>?_⟩;rcases S2.1 g with rfl|g;·exact A
    exact t q g
   refine .inr ⟨r,(i,x)::E,q,F,rfl,s,t,λq g=>?_,H⟩;rcases S2.1 g with rfl|g;·exact A
   exact G q g
  rw[E4 j,E1 (by simpa using k)];exact y a b h
 rw[E1 j]at e;cases e
def Xz{n:Nat}:Iv W d n af.nil:=⟨λp v h=>(by cases h),ACP,λ_ h=>(by cases h),λ_ h=>(by cases h)⟩
def XA(a:WT W d)(b:WN W d){e:EN}(c:TE e)(h:FJ W (.term e d) v):∃M,aN (Bd W) (.term e d) af.nil (.ok v) M:=by obtain⟨n,h⟩:=h;obtain⟨M,f,_⟩:=C2 a b n (.term e d) v af.nil ⟨rfl,c⟩ h Xz;exact⟨M,f⟩
def nL(c:Nat):NV:=⟨1,0,0,c⟩
structure IY(W:Wd)(nm:Nm)(d:Int)(v:NV)(c:Nat):Prop where
 o:∃l1 q l2,W.cl nm d=l1++q::l2/\c=q.1/\(∃x M,aN (Bd W) (.term q.2.when d) af.nil (.ok x) M/\x.k=1/\x.i=1)/\(∀q'∈l1++l2,∃x M,aN (Bd W) (.term q'.2.when d) af.nil (.ok x) M/\x.k=1/\x.i≠1)t:∃M,aN (Bd W) (.term (W.clause c).thn d) af.nil (.ok v) M
 k:W.kind nm=some v.k
 a:∃M,aG (Bd W) (eY W (nm,d) (jt W nm d λc'=>.ret (nL c'))) af.nil (.ok (nL c)) M
def arL(f:WT W d)(y:WN W d){M:af}(h:aN (Bd W) (.pair nm d) af.nil (.ok v) M):∃c,IY W nm d v c:=by
 obtain⟨n,h⟩:=h;obtain⟨⟨n,h⟩,_,_⟩:=IV f n (.pair nm d) af.nil v M rfl (λp v h=>by cases h) h;obtain⟨m,C,E⟩:=Xy n h;obtain⟨⟨k,A⟩,F⟩:=Xv (show dC (cM (dv W) m) (qP W nm d)=some v from C);obtain⟨c,o,e,G⟩:=IX F;have tv:∀q∈W.cl nm d,∀b,TV W d q b->∃x M,aN (Bd W) (.term q.2.when d) af.nil (.ok x) M/\x.k=1/\decide (x.i=1)=b:=λq a b⟨x,j,l,s⟩=>by obtain⟨M,H⟩:=XA f y (f.w nm q a) j;exact⟨x,M,H,l,s⟩
 simp only[dC]at e;cases z:cM (dv W) m (.term (W.clause c).thn d)with|none=>rw[z]at e;cases e|some w=>
 rw[z]at e;dsimp only at e;split at e
 ·rename_i I;cases e;refine⟨c,?_,XA f y (f.t c) ⟨m,z⟩,I,?_⟩
  ·rcases o with⟨t,_⟩|⟨_,J,q,K,t,L,N,P,Q⟩;·cases t
   refine⟨J,q,K,t,L,?_,λu a=>?_⟩;·obtain⟨x,M,j,l,s⟩:=tv q (by rw[t];simp) true N;exact⟨x,M,j,l,by simpa using s⟩
   have S:u∈W.cl nm d:=by
    rw[t];rcases TA.1 a with a|a;·exact T4 _ a
    exact gA _ (M0 _ a)
   obtain⟨x,M,j,l,s⟩:=tv u S false (by
 rcases TA.1 a with a|a;·exact P u a
 exact Q u a);exact⟨x,M,j,l,by simpa using s⟩
  have U:Iv W d m (kY (nm,d) (js (nm,d) af.nil)):=Xu Xz (by rw[A];exact nofun) (λh=>by cases h) E;obtain⟨V,X,_⟩:=C1 (KF:=λi=>.ret (nL i)) (KM:=λi=>.ret (nL i)) (g:=id) (r:=nL c) (C2 f y m) (λi Y Z i3=>by cases Z;exact⟨Y,.ret,i3.po⟩) (f.w nm) (G (λi=>.ret (nL i)) (nL c) rfl) U;refine⟨V,?_⟩;unfold eY;refine .st ?_;try dsimp only[id]
  rw[E1 (λh=>by cases h)];refine .st ?_;try dsimp only
  rw[E1 (by decide)];refine .st ?_;try dsimp only
  split;·rename_i B;rw[A]at B;cases B
  exact X
 cases e
end
end
section
open Go.Dm
set_option maxRecDepth 10000
def XB:TE (default:Dv.Ex).en:=.mk (λh=>by rw[Ex.en_op]at h;cases h) (λa h=>by rw[Ex.en_args]at h;cases h)
variable{x:Int}
def arM(p:Pl){l:List Fc}{d:Int}(h:∀c∈p.cls,TE c.w.en/\TE c.t.en):WT (p.bw l x).wd d:=by
 have a:∀i:Nat,TE (p.cls[i]!).w.en/\TE (p.cls[i]!).t.en:=λi=>by
  by_cases hi:i<p.cls.length;·rw[Hy p.cls i hi];exact h _ (hY hi)
  rw[getElem!_neg p.cls i hi];exact⟨XB,XB⟩
 refine⟨λe q b=>?_,λc=>(a c).2⟩;obtain⟨i,_,rfl⟩:=fT.1 b;exact(a i).1
def zc{α:Type}[DecidableEq α]:∀{L K:List α},L.Nodup->(∀a∈L,a∈K)->L.length<=K.length|[],_,_,_=>AAg _|a::L,K,f,hs=>by obtain⟨g,h⟩:=AAI.1 f;have c:=hs a (by simp);have:=zc (K:=K.erase a) h λb d=>(List.mem_erase_of_ne (show b≠a fromλe=>g (by rw[<-e];exact d))).2 (hs b (by simp[d]));rw[List.length_erase_of_mem c]at this;have:=List.length_pos_of_mem c;simp only[fA];omega
def XC{k:Nm}{v:Nat}:∀{m:List (Nm×Nat)},(aS k v m).length<=m.length+1|[]=>by simp[aS]|p::m=>by have:=XC (k:=k) (v:=v) (m:=m);unfold aS;split<;>simp<;>omega
def XD:∀{l:List Df}{m:List (Nm×Nat)},(l.foldl jm m).length<=m.length+l.length
 |[],m=>by simp|a::l,m=>by
  have b:=XD (l:=l) (m:=jm m a);have c:(jm m a).length<=m.length+1:=by
   unfold jm;split;·exact XC
   omega
  rw[ta,fA];omega
def arN(p:Pl){l:List Fc}{o d:Int}(h:p.defs.length<=66):WN (p.bw l o).wd d:=by
 intro L r c;have s:(L.map Prod.fst).length<=((jn p.defs).map Prod.fst).length:=by
  refine zc ?_ λa f=>?_;·refine AAy.2 (r.imp_of_mem λ{a b}f t u e=>u ?_);obtain⟨x,y⟩:=a;obtain⟨z,w⟩:=b;have g:=(c _ f).2;have i:=(c _ t).2;cases e;dsimp only at g i;rw[g,i]
  obtain⟨q,v,rfl⟩:=fT.1 f;have:=(c q v).1;change aA q.1 (jn p.defs)≠none at this;cases j:aA q.1 (jn p.defs)with|none=>exact(this j).elim|some k=>exact fT.2 ⟨(q.1,k),iZ j,rfl⟩
 have n:=XD (l:=p.defs) (m:=[]);change(jn p.defs).length<=_ at n;simp at s n;omega
def XE{nm:Nm}:∀{l:List Df}{m:List (Nm×Nat)},aA nm (l.foldl jm m)=match aA nm m with|some k=>some k|none=>(l.find? λf=>decide (f.name=nm)&&!f.fact).map (·.kind)
 |[],m=>by show aA nm m=_;cases aA nm m<;>rfl|a::l,m=>by
  have g:=XE (nm:=nm) (l:=l) (m:=jm m a);have c:∀v,aA nm (aS a.name v m)=if nm=a.name then some v else aA nm m:=λv=>sf _ _ _ m;rw[ta,g];unfold jm;by_cases b:a.name=nm;·subst b;cases d:a.fact with|true=>simp[d]|false=>cases h:aA a.name m with|some k=>simp[h]|none=>have:=c a.kind;rw[E4 rfl]at this;simp[this,d]
  have i:aA nm (if(aA a.name m).isNone&&!a.fact then aS a.name a.kind m else m)=aA nm m:=by
   split;·rw[c,E1 (λe=>b e.symm)]
   rfl
  rw[i];simp[b]
def arO{p:Pl}{l:List Fc}{x:D}(g:Sl 11 (l.map Fc.c) x){e:Nm}{d f:Int}{r:NR}{y:D}{M:af}(h:ai VS 9 [p.d,x,.s e,.i .i64 d,.i .i64 f] (.tu [y,jp M,.i .i64 r.e]))(j:VD r.v y):ai VS 17 [p.d,x,.s e,.i .i64 d,.i .i64 f] (.tu [y,.i .i64 r.e]):=by have c:=λ{H K}=>h.c (H:=H) (K:=K) vG rfl (by simp[p.pl,g.pl,aZ,oF]) (.inl rfl);obtain⟨a,b,rfl,k,m⟩:=j.h;refine .body SK rfl ?_;unfold Pl.d at c⊢;unfold jp at c;simp[go_sem,aux,c,ah k.sl.flat,ah m.sl.flat,vB,yd,Br,yf]
end
section
open Go.Dm
set_option maxRecDepth 10000
def arP{B:BW}{b:Nm}{d:Int}{v:NV}{c:Nat}(h:IY B.wd b d v c):c∈B.infr b d/\∀i∈B.infr b d,∃x M,aN (Bd B.wd) (.term (B.cls[i]!).w.en d) af.nil (.ok x) M/\x.k=1/\(x.i=1↔i=c):=by
 obtain⟨l,q,m,e,f,⟨o,p,k,r,s⟩,t⟩:=h.o;have u:∀q∈B.wd.cl b d,q.1∈B.infr b d/\q.2=B.cls[q.1]!.n:=λq g=>by obtain⟨i,hi,rfl⟩:=fT.1 g;exact⟨hi,rfl⟩
 have g:q∈B.wd.cl b d:=by rw[e];simp
 obtain⟨y,z⟩:=u q g;rw[z,<-f]at k;refine⟨f▸y,λi hi=>?_⟩;by_cases j:i=c;·subst j;exact⟨o,p,k,r,λ_=>rfl,λ_=>s⟩
 have a:(i,B.cls[i]!.n)∈B.wd.cl b d:=fT.2 ⟨i,hi,rfl⟩;rw[e]at a;have A:(i,B.cls[i]!.n)∈l++m:=by
  rcases TA.1 a with a|a;·exact T4 _ a
  rcases S2.1 a with a|a;·exact(j (by rw[f,<-a])).elim
  exact gA _ a
 obtain⟨x,M,C,E,F⟩:=t _ A;exact⟨x,M,C,E,λh=>(F h).elim,λh=>(j h).elim⟩
def arQ{B:BW}{f:Nm}{d:Int}{v:NV}{c:Nat}(h:IY B.wd f d v c){p:Pl}{l:List Fc}{g:Int}(m:B=p.bw l g)(n:dW p l d=true){r:PR}(hr:Xx fG p l f d g r):c<p.cls.length/\r=.ret (.tu [.i .i64 c,.i .i64 0]):=by
 subst m;obtain⟨M,h⟩:=h.a;rcases hr.y n with⟨a,j,o,b,q⟩|⟨e,j,b,_⟩
 ·have:=(b (λa=>.ret (nL a)) _ j .ret).det h;have e:=NR.ok.inj this.1;have:a=c:=by have k:=ka NV.i e;unfold nL at k;dsimp only at k;omega
  subst this;exact⟨o,q⟩
 have:=((b (λa=>.ret (nL a))).det h).1;cases this
end
section
open Go.Dm
set_option maxRecDepth 10000
def arR{α:Type}[Inhabited α]{q:α->Bool}{l:List α}{i:Nat}(b:i<l.length)(h:∀f∈l.take i,q f=false)(c:q l[i]! =true):l.find? q=some l[i]!:=by rw[List.find?_eq_some_iff_append];refine⟨c,l.take i,l.drop (i+1),?_,λa d=>by rw[h a d];rfl⟩;rw[Hy l i b,<-List.drop_eq_getElem_cons b,rr]
set_option maxHeartbeats 4000000 in def arS(p:Pl){l:List Fc}{x:D}(w:Sl 11 (l.map Fc.c) x)(hd:p.defs.length<1000000000000000)(N:∀c∈p.cls,LX c.w/\LX c.t){n:Nm}{d a:Int}(ha:a<=9223372036854775807):ai VS 6 [p.d,x,.s n,.i .i64 d,.i .i64 a] (.b true):=by obtain⟨u,hu,hU⟩:=arG w hd N (d:=d);have S:=λ{H K}=>hu.c (H:=H) (K:=K) vF rfl (by simp[p.pl,w.pl,aZ]) (.inl rfl);have e7:=λ{H K}=>BC (H:=H) (K:=K);refine .body (vf:=v6) fn6 rfl ?_;cases u with|false=>unfold Pl.d at S⊢;simp(disch:=omega)only[go_sem,simprocAttr,JB,S,e7]|true=>
 obtain⟨U,hT⟩:=hU rfl;have hb:=U.b;have V:=hb;unfold dW at V;simp only[D0,Hq]at V;have q1:=U.f.d;have q2:=U.f.c;have q3:=U.f.t
 have q4:=U.f.f;have b5:∀c∈p.cls,bA _ c.w/\bA _ c.t:=λc h=>⟨(N c h).1.x,(N c h).2.x⟩;obtain⟨r,y,M,t1,I⟩:=y7 w (nm:=n) (d:=d) (known:=a) U N ha;have an:=λ{H K}=>(arO w t1 I.v).c (H:=H) (K:=K) SK rfl (by simp[p.pl,w.pl,aZ,oF]) (.inl rfl);obtain⟨a3,_,bj⟩:=arK p CB w (nm:=n) (d:=d) (known:=a) ⟨by omega,by omega,by omega,by omega,ha,b5⟩;cases r with|er q=>
 have hq:¬q=0:=(YA (YC p V.2) (j:=.pair n d) trivial (λ_ h=>by cases h) I.j).1;have hv:=I.v;have ao:=λ{H K}=>(sV (show VD default y from hv) wM I.n).c (H:=H) (K:=K) qz rfl (by simp[I.v.pl,wM.pl]) (.inl rfl);obtain⟨ci,ei,a4⟩:∃ci ei:Int,dh VS a3 18 [p.d,x,.s n,.i .i64 d,.i .i64 a]=.ret (.tu [.i .i64 ci,.i .i64 ei]):=by
  rcases bj.y hb with⟨c,M',_,_,h⟩|⟨e,M',_,h⟩;·exact⟨_,_,h⟩
  exact⟨_,_,h⟩
 have ad:=λ{H K}=>(show ai VS 18 _ _ from⟨a3,a4⟩).c (H:=H) (K:=K) GF rfl (by simp[p.pl,w.pl,aZ,oF]) (.inl rfl);obtain⟨a1,b1,W,_⟩:=hv.h;replace W:y=.ag [.i .u8 0,.b false,a1,.b false,b1,.i .i64 0]:=W;subst W;unfold ls cr at ao;unfold Pl.d at S an ad⊢;simp(maxSteps:=2000000)(disch:=omega)only[go_sem,simprocAttr,JB,S,e7,an,ad,ao,hq,show(NR.er q).e=q from rfl]|ok v=>
 obtain⟨c,ar⟩:=arL (arM p hT) (arN p q1) I.j;obtain⟨b7,a4⟩:=arQ ar rfl hb bj;obtain⟨b8,b9⟩:=arP ar;have ad:=λ{H K}=>(show ai VS 18 _ _ from⟨a3,a4⟩).c (H:=H) (K:=K) GF rfl (by simp[p.pl,w.pl,aZ,oF]) (.inl rfl);have hB:=We p V.1.2 (show l.length<40 by omega) V.2 ha;have a6:=λ{H K}=>(VX (nm:=n) (d:=d) hB).c (H:=H) (K:=K) BG rfl (by simp[bO,lH,hB.d.1,hB.d.2,hB.c.flat];exact⟨rfl,rfl,rfl⟩) (.inl rfl);obtain⟨L,hL⟩:∃L,L=fJ (p.cls.map Cl.row) n d a:=⟨_,rfl⟩;change∀{H K},ac VS 19 [.ag [.s p.name,p.dD,p.tD,p.cD],.s n,.i .i64 d,.i .i64 a] H K↔K (.ret (cO 1 ((fJ (p.cls.map Cl.row) n d a).map aV)) H)at a6;rw[<-hL]at a6;have af:Sl 1 (L.map aV) _:=iB;have co:=VW (B:=p.bw l a) hL hB.cl;have h0:¬(c:Int)<0:=by omega
 have h1:¬(p.cls.length:Int)<=(c:Int):=by omega
 have z0:(NR.ok v).e=0:=rfl;have z1:(NR.ok v).v=v:=rfl;obtain⟨a1,b1,W,_⟩:=I.v.h;rw[z1]at W;subst W;unfold Pl.d at S an ad⊢;simp(maxSteps:=2000000)(disch:=omega)only[go_sem,simprocAttr,JB,S,e7,an,ad,a6,h0,h1,z0,z1,p.hc.n,af.n];refine ak.up (λ(i:Nat)s=>∃j9 a7 a8 a9 ba:D,s=⟨[.ag [.s p.name,p.dD,p.tD,p.cD],x,.s n,.i .i64 d,.i .i64 a,.b false,.b false,.b false,.b false,j9,a7,.u,.u,.u,.bx [.s p.name,p.dD,p.tD,p.cD],.i .i64 0,.bx [.i .u8 v.k,.b (decide (v.n<0)),a1,.b false,b1,.i .i64 v.i],.i .i64 0,.i .i64 c,.b (decide ((c:Int)∈L.take i)),.i .i64 i,.i .i64 L.length,cO 1 (L.map aV),a8,a9,ba,.u,.u,.u,.u,.u,.u],[]⟩) L.length ⟨.u,.u,.u,.u,.u,by simp⟩ ?_;rintro i s hi⟨j9,a7,a8,a9,ba,rfl⟩;have bp:∀k:Nat,k<p.cls.length->p.cls[k]!∈p.cls:=λk E=>by rw[Hy p.cls k E];exact hY E
 have CL:∀e∈p.cls,fU e.w=true/\fU e.t=true:=λe A=>by have:=V.1.2;unfold Pl.bounded at this;simp only[D0]at this;have:=TB.1 this.1.2 e A;unfold Cl.sz at this;simpa only[D0]using this
 by_cases o:i<L.length
 ·have X:(i:Int)<(L.length:Int):=by omega
  have bb:=Cn hL (show L[i]!∈L by rw[Hy L i o];exact hY o);rw[T3]at bb;obtain⟨k,E⟩:∃k:Nat,L[i]! =k:=⟨L[i]!.toNat,by omega⟩;rw[E]at bb;have kl:k<p.cls.length:=by omega
  have cd:k∈(p.bw l a).infr n d:=by refine fT.2 ⟨L[i]!,?_,by rw[E];rfl⟩;show L[i]!∈fJ (p.cls.map Cl.row) n d a;rw[<-hL,Hy L i o];exact hY o
  obtain⟨e,A⟩:∃e,e=p.cls[k]!:=⟨_,rfl⟩;have ah:e∈p.cls:=A▸bp k kl;obtain⟨C,M',g1,g2,g3⟩:=b9 k cd;obtain⟨r',y',F⟩:=o8 w (N e ah).1.x U N ha;have be:r'=.ok C:=by
   rcases F.c with⟨h,_⟩|⟨_,M2,h⟩;·rw[(CL e ah).1]at h;cases h
   rw[A]at h;exact(h.det g1).1
  subst be;have G:=λ{H K}=>F.q.c (H:=H) (K:=K) BF rfl (by simp[p.pl,w.pl,aZ,show(D.ag e.w.row).plain=true from e.w.pl]) (.inl rfl);obtain⟨a2,b2,P,_⟩:=F.v.h;replace P:y'=.ag [.i .u8 C.k,.b (decide (C.n<0)),a2,.b false,b2,.i .i64 C.i]:=P;subst P;have aw:((C.k:Nat):Int)=1:=by omega
  have Y:e.row=[.s e.nm,.s e.lb,.i .i64 e.frm,.i .i64 e.to,.i .i64 e.known,.b e.off,.i .u8 e.w.op,.s e.w.name,.i .u8 e.w.v.k,.b e.w.v.f.s,e.w.v.f.x,.b e.w.v.f.t,e.w.v.f.y,.i .i64 e.w.v.i,e.w.sl,.i .u8 e.t.op,.s e.t.name,.i .u8 e.t.v.k,.b e.t.v.f.s,e.t.v.f.x,.b e.t.v.f.t,e.t.v.f.y,.i .i64 e.t.v.i,e.t.sl]:=by rw[Cl.row,Ex.row_eq,Ex.row_eq];rfl
  rw[Ex.row_eq e.w]at G;unfold Pl.d at G;have k0:(k:Int)<(p.cls.length:Int):=by omega
  have tk:L.take (i+1)=L.take i++[(k:Int)]:=by rw[fD o,<-E,Hy L i o]
  by_cases bg:k=c
  ·have g4:C.i=1:=g3.2 bg;subst bg;have Z:decide ((k:Int)∈L.take (i+1))=true:=by rw[tk];simp
   by_cases Q:(k:Int)∈L.take i;·simp(maxSteps:=2000000)(disch:=omega)only[go_sem,simprocAttr,zq,X,af.q,aV,E,p.hc.q,<-A,Y,G,aw,p.hc.under,show(NR.ok C).e=0 from rfl,wr,g4,Q];refine⟨by omega,⟨by omega,by omega⟩,o,Z.symm⟩
   simp(maxSteps:=2000000)(disch:=omega)only[go_sem,simprocAttr,zq,X,af.q,aV,E,p.hc.q,<-A,Y,G,aw,p.hc.under,show(NR.ok C).e=0 from rfl,wr,g4,Q];refine⟨by omega,⟨by omega,by omega⟩,o,Z.symm⟩
  have g4:¬C.i=1:=λh=>bg (g3.1 h);have br:¬((k:Nat):Int)=(c:Int):=by omega
  have cg:¬((c:Nat):Int)=(k:Int):=by omega
  by_cases Q:(c:Int)∈L.take i
  ·have Z:decide ((c:Int)∈L.take (i+1))=true:=by rw[tk];simp[Q]
   simp(maxSteps:=2000000)(disch:=omega)only[go_sem,simprocAttr,zq,X,af.q,aV,E,p.hc.q,<-A,Y,G,aw,p.hc.under,show(NR.ok C).e=0 from rfl,wr,g4,Q,br];refine⟨by omega,⟨by omega,by omega⟩,o,Z.symm⟩
  have Z:decide ((c:Int)∈L.take (i+1))=false:=by rw[tk];simp[Q,cg]
  simp(maxSteps:=2000000)(disch:=omega)only[go_sem,simprocAttr,zq,X,af.q,aV,E,p.hc.q,<-A,Y,G,aw,p.hc.under,show(NR.ok C).e=0 from rfl,wr,g4,Q,br];refine⟨by omega,⟨by omega,by omega⟩,o,Z.symm⟩
 obtain rfl:i=L.length:=by omega
 have X:¬(L.length:Int)<(L.length:Int):=by omega
 have ch:(c:Int)∈L.take L.length:=by
  rw[o5];obtain⟨z,hz,e⟩:=fT.1 b8;change z∈fJ (p.cls.map Cl.row) n d a at hz;have bb:=Cn rfl hz;rw[hL];have:z=(c:Int):=by omega
  rw[<-this];exact hz
 obtain⟨e,A⟩:∃e,e=p.cls[c]!:=⟨_,rfl⟩;have ah:e∈p.cls:=A▸bp c b7;obtain⟨M',g1⟩:=ar.t;change aN _ (.term (p.cls[c]!).t.en d) _ _ _ at g1;obtain⟨r',y',F⟩:=o8 w (N e ah).2.x U N ha;have be:r'=.ok v:=by
  rcases F.c with⟨h,_⟩|⟨_,M2,h⟩;·rw[(CL e ah).2]at h;cases h
  rw[A]at h;exact(h.det g1).1
 subst be;have G:=λ{H K}=>F.q.c (H:=H) (K:=K) BF rfl (by simp[p.pl,w.pl,aZ,show(D.ag e.t.row).plain=true from e.t.pl]) (.inl rfl);have ao:=λ{H K}=>(sV F.v I.v F.n).c (H:=H) (K:=K) qz rfl (by simp[F.v.pl,I.v.pl]) (.inl rfl);obtain⟨a2,b2,P,_⟩:=F.v.h;replace P:y'=.ag [.i .u8 v.k,.b (decide (v.n<0)),a2,.b false,b2,.i .i64 v.i]:=P;subst P;have Y:e.row=[.s e.nm,.s e.lb,.i .i64 e.frm,.i .i64 e.to,.i .i64 e.known,.b e.off,.i .u8 e.w.op,.s e.w.name,.i .u8 e.w.v.k,.b e.w.v.f.s,e.w.v.f.x,.b e.w.v.f.t,e.w.v.f.y,.i .i64 e.w.v.i,e.w.sl,.i .u8 e.t.op,.s e.t.name,.i .u8 e.t.v.k,.b e.t.v.f.s,e.t.v.f.x,.b e.t.v.f.t,e.t.v.f.y,.i .i64 e.t.v.i,e.t.sl]:=by rw[Cl.row,Ex.row_eq,Ex.row_eq];rfl
 rw[Ex.row_eq e.t]at G;unfold Pl.d at G;have k0:(c:Int)<(p.cls.length:Int):=by omega
 simp(maxSteps:=2000000)(disch:=omega)only[go_sem,simprocAttr,zq,X,p.hc.q,<-A,Y,G,ao,ch,p.hc.under,show(NR.ok v).e=0 from rfl,p.hd.n];have ax:(p.defs.find? λf=>decide (f.name=n)&&!f.fact).map (·.kind)=some v.k:=by have:=XE (nm:=n) (l:=p.defs) (m:=[]);rw[show aA n ([]:List (Nm×Nat))=none from rfl]at this;exact this.symm.trans ar.k
 refine⟨⟨by omega,by omega⟩,?_⟩;refine ak.up (λ(i:Nat)s=>∃bs bt bu:D,(∀f∈p.defs.take i,(decide (f.name=n)&&!f.fact)=false)/\s=⟨[.ag [.s p.name,p.dD,p.tD,p.cD],x,.s n,.i .i64 d,.i .i64 a,.b false,.b false,.b false,.b false,.b false,a7,.b false,bs,bt,.bx [.s p.name,p.dD,p.tD,p.cD],.i .i64 0,.bx [.i .u8 v.k,.b (decide (v.n<0)),a1,.b false,b1,.i .i64 v.i],.i .i64 0,.i .i64 c,.b true,.i .i64 L.length,.i .i64 L.length,cO 1 (L.map aV),a8,a9,ba,.i .i64 0,.bx [.i .u8 v.k,.b (decide (v.n<0)),a2,.b false,b2,.i .i64 v.i],.i .i64 i,.i .i64 p.defs.length,p.dD,bu],[]⟩) p.defs.length ⟨_,_,_,λ_ h=>(by simp at h),rfl⟩ ?_;rintro i s cq⟨bs,bt,bu,hA,rfl⟩;by_cases o:i<p.defs.length
 ·have c2:(i:Int)<(p.defs.length:Int):=by omega
  obtain⟨f,hf⟩:∃f,f=p.defs[i]!:=⟨_,rfl⟩;have bv:(decide (f.name=n)&&!f.fact)=false->∀g∈p.defs.take (i+1),(decide (g.name=n)&&!g.fact)=false:=λh g J=>by
   rw[fD o]at J;rcases TA.1 J with J|J;·exact hA g J
   rw[eD]at J;rw[J,<-getElem!_pos p.defs i o,<-hf];exact h
  by_cases hn:f.name=n;·cases az:f.fact with|true=>simp(maxSteps:=2000000)(disch:=omega)only[go_sem,simprocAttr,JA,c2,p.hd.q,<-hf,Df.c,hn,az,wr];exact⟨by omega,o,bv (by rw[az];simp)⟩|false=>have cj:=arR (q:=λf:Df=>decide (f.name=n)&&!f.fact) o hA (by rw[<-hf];simp[hn,az]);rw[cj,<-hf]at ax;have ck:f.kind=v.k:=kv ax;simp(maxSteps:=2000000)(disch:=omega)only[go_sem,simprocAttr,JA,c2,p.hd.q,<-hf,Df.c,hn,az,wr,ck,e7];omega
  simp(maxSteps:=2000000)(disch:=omega)only[go_sem,simprocAttr,JA,c2,p.hd.q,<-hf,Df.c,hn,wr];exact⟨by omega,o,bv (by simp[hn])⟩
 obtain rfl:i=p.defs.length:=by omega
 rw[o5]at hA;have:p.defs.find? (λf=>decide (f.name=n)&&!f.fact)=none:=List.find?_eq_none.2 λg J h=>by rw[hA g J]at h;cases h
 rw[this]at ax;cases ax
end
end Go.Proofs.YtigbdbdlkoeadaaGreatDoor.Dv
