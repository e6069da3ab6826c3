/-
  Part of the proof.
-/
import Derived.Test.YtigbdbdlkoeadaaGreatDoorAS
set_option linter.all false
namespace Go.Proofs.YtigbdbdlkoeadaaGreatDoor.Dv
section
open Go.Dm
set_option maxRecDepth 10000
def I7{p:Pl}{l:List Fc}{x:D}(j:Sl 11 (l.map Fc.c) x)(u:p.defs.length<1000000000000000)(m:∀c∈p.cls,LX c.w/\LX c.t){d:Int}:∃b,ai VS 7 [p.d,x,.i .i64 d] (.b b)/\(b=true->nI p l d):=by
 obtain⟨r,v,b,w,y⟩:∃r,aH VS 20 [p.d,x] (·=r)/\∃b,r=.ret (.b b)/\(b=true->sU p l):=by obtain⟨n,g1,z⟩:=WA j u m;exact⟨_,⟨n,g1,rfl⟩,z⟩
 subst w;have a:=λ{H K}=>(ai.iff_q.2 v).c (H:=H) (K:=K) GG rfl (by simp[p.pl,j.pl]) (.inl rfl);suffices h:∃r,ai VS 7 [p.d,x,.i .i64 d] r/\∃b,r=.b b/\(b=true->nI p l d)by grind
 refine aH.ex (.body vF rfl ?_);unfold Pl.d at a⊢;cases b with|false=>simp[go_sem,ki,a]|true=>have g:=y rfl;have F:=g.d;have A:=g.c;have G:=g.t;have I:=g.f;obtain⟨t,B⟩:=apW A m;have f:=λ{H K}=>B.c (H:=H) (K:=K) BH rfl (by simp[p.pl]) (.inl rfl);have e:=λ{H K}=>(Il p (by omega) (by omega) (by omega)).c (H:=H) (K:=K) BI rfl (by simp[p.pl]) (.inl rfl);obtain⟨r,C,E⟩:=X8 j (by omega);have k:=λ{H K}=>C.c (H:=H) (K:=K) GH rfl (by simp[j.pl]) (.inl rfl);unfold Pl.d at f e;cases t with|false=>simp[go_sem,ki,a,f]|true=>cases o:p.bounded with|false=>rw[o]at e;simp[go_sem,ki,a,f,e]|true=>rw[o]at e;cases r with|false=>simp[go_sem,ki,a,f,e,k]|true=>
 have hr:=E rfl;by_cases q:0<=d
 · by_cases s:d<65536;·simp[go_sem,ki,a,f,e,k,q,s];exact⟨g,by grind[dW]⟩
   simp[go_sem,ki,a,f,e,k,s]
 simp[go_sem,ki,a,f,e,k,q]
end
section
open Go.Dm
set_option maxRecDepth 10000
section
variable{I:bU}{B:BW}{O:bB}{K:Int}{Al:Nat->Prop}{Fr:List (Nat×an)}{H:ab}{e:Ex}{d:Int}
def att(u:Cx O B K Al)(v:bA Al e)(hs:e.en.size<=100000)(w:0<=d/\d<65536){a b c:Nat}(f:H[a]?=some (.hb 88 [.hp I.v 0]))(g:H[b]?=some (.hb 39 e.row))(o:H[c]?=some (.hb 3 [.i .i64 d]))(h:EV I B af.nil Fr H):ac VS 37 [.hp a 0,.hp b 0,.hp c 0] H (eG I B Fr (aN (bk O B.wd) (.term e.en d) af.nil)):=by
 have j:=aoZ u v hs w h;obtain⟨S,x⟩:=h.h;have p:=x.hv;rw[Ex.row_eq]at g;refine .body akR rfl rfl ?_;simp[go_sem,auN,f,g,o,p];refine⟨ay f,ay p,ay g,ay o,ay f,?_⟩;have y:e.d=.ag [.i .u8 e.op,.s e.name,.i .u8 e.v.k,.b e.v.f.s,e.v.f.x,.b e.v.f.t,e.v.f.y,.i .i64 e.v.i,e.sl]:=by rw[<-Ex.row_eq];rfl
 rw[y]at j;unfold wD at j;refine j.mono λr hr=>?_;rcases hr.h with⟨F,k,l,rfl,m,⟨q,_⟩,n⟩|⟨e,k,l,rfl,⟨q,_⟩,n⟩;·obtain⟨d,z,A⟩:=acS m;have t:=λ{H K}=>z.c (H:=H) (K:=K) GI rfl (by simp[m.pl]) (.inl rfl);obtain⟨C,G,rfl,E⟩:=A.av m.o;simp[AV.c]at t⊢;simp[go_sem,t];exact⟨.inl ⟨C,k,l,rfl,E,by grind,n⟩⟩
 simp[go_sem];exact⟨.inr ⟨e,k,l,rfl,q,n⟩⟩
end
structure m8(O:bB)(p:Pl)(l:List Fc)(e:Ex)(d known:Int)(r:PR):Prop where n:(fU e&&dW p l d)=false->r=.ret (.tu [ls,.i .i64 2])y:(fU e&&dW p l d)=true->(∃v y M,aN (bk O (p.bw l known).wd) (.term e.en d) af.nil (.ok v) M/\VD v y/\NV.ok v/\r=.ret (.tu [y,.i .i64 0]))\/(∃er M,aN (bk O (p.bw l known).wd) (.term e.en d) af.nil (.er er) M/\r=.ret (.tu [ls,.i .i64 er]))
def atu(p:Pl){O:bB}(w:vZ O){l:List Fc}{x:D}(y:Sl 11 (l.map Fc.c) x){e:Ex}(z:bA (λ_=>True) e){d known:Int}(c:p.few l known):aH VS 16 [p.d,x,.ag e.row,.i .i64 d,.i .i64 known] (m8 O p l e d known):=by
 rw[Ex.row_eq];have A:Hs [an.hb 39 [.i .u8 e.op,.s e.name,.i .u8 e.v.k,.b e.v.f.s,e.v.f.x,.b e.v.f.t,e.v.f.y,.i .i64 e.v.i,e.sl],.hb 3 [.i .i64 d]] [(1,.hb 3 [.i .i64 d]),(0,.hb 39 [.i .u8 e.op,.s e.name,.i .u8 e.v.k,.b e.v.f.s,e.v.f.x,.b e.v.f.t,e.v.f.y,.i .i64 e.v.i,e.sl])]:=by grind[Hs]
 have t:=λ{K}=>In p y (d:=d) (known:=known) c.d c.t c.f c.c A (K:=K);have k:=λ{H K}=>Ik e (H:=H) (K:=K);refine .body BF rfl ?_;unfold Pl.d at t⊢;cases f:fU e with|false=>rw[f]at k;simp[go_sem,Zi,k];exact⟨λ_=>rfl,λh=>by simp[f]at h⟩|true=>
 rw[f]at k;simp[go_sem,Zi,k];refine t (λB=>?_) (λu I C E=>?_);·simp[go_sem,simprocAttr];exact⟨λ_=>rfl,λh=>by simp[B]at h⟩
 have F:0<=d/\d<65536:=by grind[dW]
 have G:p.bounded=true:=by grind[dW]
 have hr:dP l=true:=by grind[dW]
 have J:=Cq p w G c.f hr c.k c.x;have L:=E.new (x:=.hb 88 [.hp I.v 0]);have g:=(L.new (x:=.hb 36 cr)).new (x:=.hb 54 [.i .i64 0]);simp only[go_sem];refine acQ (by decide) ?_;simp only[gC,U3,bN,N3,fA,lA]at g⊢;obtain⟨q,M⟩:∃q,q=C.length:=⟨_,rfl⟩;rw[<-M]at g⊢;have N:=g.drop.drop.fr;have g1:=g.drop.drop.drop.drop.fr;have g0:=g.drop.drop.drop.fr;refine(att J z (dG (V7 f) (by omega)) F N (by rw[Ex.row_eq];exact g1) g0 g).mono λr hr=>?_;rcases hr.h with⟨a,n,P,rfl,m,o,j⟩|⟨v,n,P,rfl,o,j⟩;·refine⟨a,rfl,m,j.drop.fr,j.fr,?_⟩;obtain⟨Q,S,U,V⟩:=m.fl;simp[AV.c];simp[go_sem,ah Q,ah S,ah U,ah V];exact⟨λh=>by simp[f,u]at h,λ_=>.inl ⟨a.v,_,n,o,m.d,m.o,rfl⟩⟩
 refine⟨v,rfl,j.drop.fr,j.fr,?_⟩;unfold ls cr;simp[go_sem];exact⟨λh=>by simp[f,u]at h,λ_=>.inr ⟨v,n,o,rfl⟩⟩
end
section
open Go.Dm
set_option maxRecDepth 10000
section
variable{W:Wd}{d:Int}{M M1:af}{r:NR}{x e w c:Ex}
noncomputable abbrev Bd(W:Wd):=bk fG W
def nR(r:NR)(k:Bool->NR):NR:=match r with|.er f=>.er f|.ok v=>if v.k=1 then k (decide (v.i=1))else .er 185
def Jc{k:Bool->Tr}{s:Bool->NR}(a:aN (Bd W) (.term e.en d) M r M1)(c:∀b,aG (Bd W) (k b) M1 (s b) M1):aG (Bd W) (dX e.en d k) M (nR r s) M1:=by cases r with|er f=>exact .calle a|ok v=>
 refine .call a ?_;show aG _ (if v.k=1 then k (decide (v.i=1))else .err 185) M1 (if v.k=1 then s (decide (v.i=1))else .er 185) M1;split;·exact c _
 exact .err
def wI{n:Nat}(a:x.op≠1)(b:x.args.length=n)(h:decide ((ic x.op).1<=(n:Int)/\(n:Int)<=(ic x.op).2)=true):x.en.formed=true:=by rw[Ex.en_formed];unfold Ex.formed;rw[E1 a,b,h];rfl
def atv(a:x.op=15)(f:x.args=[e,w])(g:∀M,aN (Bd W) (.term w.en d) M (.er 181) M)(h:aN (Bd W) (.term e.en d) M r M1):aN (Bd W) (.term x.en d) M (nR r λb=>if b then .er 181 else .ok (dI false)) M1:=by refine .of ?_;show aG _ (bM fG W x.en d) _ _ _;unfold bM;rw[E4 (wI (n:=2) (by omega) (by rw[f];rfl) (by rw[a];rfl)),Ex.en_op,Ex.en_args,a,f];change aG (Bd W) (dX e.en d λb=>if b=true then dX w.en d λc=>.ret (dI c)else .ret (dI false)) M _ M1;refine Jc h λb=>?_;cases b with|true=>exact .calle (g M1)|false=>exact .ret
def atw(a:x.op=16)(f:x.args=[e,w])(g:∀M,aN (Bd W) (.term w.en d) M (.er 181) M)(h:aN (Bd W) (.term e.en d) M r M1):aN (Bd W) (.term x.en d) M (nR r λb=>if b then .ok (dI true)else .er 181) M1:=by refine .of ?_;show aG _ (bM fG W x.en d) _ _ _;unfold bM;rw[E4 (wI (n:=2) (by omega) (by rw[f];rfl) (by rw[a];rfl)),Ex.en_op,Ex.en_args,a,f];change aG (Bd W) (dX e.en d λb=>if b=true then .ret (dI true)else dX w.en d λc=>.ret (dI c)) M _ M1;refine Jc h λb=>?_;cases b with|true=>exact .ret|false=>exact .calle (g M1)
def Yr{a g:NR}(i:x.op=18)(j:x.args=[e,w,c])(l:∀M,aN (Bd W) (.term w.en d) M a M)(m:∀M,aN (Bd W) (.term c.en d) M g M)(o:aN (Bd W) (.term e.en d) M r M1):aN (Bd W) (.term x.en d) M (nR r λb=>if b then a else g) M1:=by
 have k:∀{y:Ex}{s:NR},(∀M,aN (Bd W) (.term y.en d) M s M)->aG (Bd W) (.call (.term y.en d) .ret) M1 s M1:=λ{y s}h=>by cases s with|ok v=>exact .call (h M1) .ret|er f=>exact .calle (h M1)
 refine .of ?_;show aG _ (bM fG W x.en d) _ _ _;unfold bM;rw[E4 (wI (n:=3) (by omega) (by rw[j];rfl) (by rw[i];rfl)),Ex.en_op,Ex.en_args,i,j];change aG (Bd W) (dX e.en d λb=>if b=true then .call (.term w.en d) .ret else .call (.term c.en d) .ret) M _ M1;refine Jc o λb=>?_;cases b with|true=>exact k l|false=>exact k m
def Dd{v:Vl}(a:v.valid=true):aN (Bd W) (.term (Ex.mk 1 [] v .n []).en d) M (.ok v.nv) M:=by
 refine .of ?_;show aG _ (bM fG W (Ex.mk 1 [] v .n []).en d) _ _ _;unfold bM;have b:(Ex.mk 1 [] v .n []).en.formed=true:=by rw[Ex.en_formed];unfold Ex.formed;rw[E4 (show(Ex.mk 1 [] v .n []).op=1 from rfl)];show(v.valid&&_)=true;rw[a];rfl
 rw[E4 b,Ex.en_op,Ex.en_val];show aG _ (.ret ((if v.valid=true then some v.nv else none).getD default)) _ _ _;rw[E4 a];exact .ret
def Ys{n:Nat}(h:x.op=15\/x.op=13)(f:x.args=[w,e])(g:∀M,aN (Bd W) (.term w.en d) M (.er 181) M):aN (Bd W) (.term x.en d) M (.er 181) M:=by
 refine .of ?_;show aG _ (bM fG W x.en d) _ _ _;unfold bM;rcases h with a|a;·rw[E4 (wI (n:=2) (by omega) (by rw[f];rfl) (by rw[a];rfl)),Ex.en_op,Ex.en_args,a,f];change aG (Bd W) (dX w.en d λb=>if b=true then dX e.en d λc=>.ret (dI c)else .ret (dI false)) M _ M;exact .calle (g M)
 rw[E4 (wI (n:=2) (by omega) (by rw[f];rfl) (by rw[a];rfl)),Ex.en_op,Ex.en_args,a,f];change aG (Bd W) (.call (.term w.en d) λv=>gZ d _ [e.en] [v]) M _ M;exact .calle (g M)
end
end
section
open Go.Dm
set_option maxRecDepth 10000
def Jd(n:Nat)(x:D)(l:List Nat)(h:Sl 1 (l.map u16) x)(a:lm 65536 l)(b:l.length<=1):Vl:=⟨2,⟨false,x,false,.im 1 [[.i .u16 1]],l,[1],h,.im,a,jA.2 ⟨by omega,ie⟩,by omega,by simp⟩,0⟩
def ju:Vl:=Jd 1 (.im 1 [[.i .u16 1]]) [1] .im (jA.2 ⟨by omega,ie⟩) (by simp)
def mJ:Vl:=Jd 2 (.im 1 [[.i .u16 2]]) [2] .im (jA.2 ⟨by omega,ie⟩) (by simp)
def o7:Vl:=Jd 0 .nil [] (.nil rfl) ie (by simp)
def wJ:ju.valid=true/\ju.nv=⟨2,1,1,0⟩:=⟨by decide,by rfl⟩
def De:mJ.valid=true/\mJ.nv=⟨2,2,1,0⟩:=⟨by decide,by rfl⟩
def Yt:o7.valid=true/\o7.nv=⟨2,0,1,0⟩:=⟨by decide,by rfl⟩
def iG(v:Vl):Ex:=.mk 1 [] v .n []
def k8(o:Nat)(l:List Ex):Ex:=.mk o [] default .n l
def gz:Ex:=k8 10 [iG ju,iG o7]
def k9:Ex:=k8 13 [gz,gz]
def atx{a:Int}:gq 10 a [⟨2,1,1,0⟩,⟨2,0,1,0⟩]=.er 181:=by unfold gq;simp;unfold rq;rw[E1 (by decide),E1 (by decide),E4 rfl,E4 rfl]
def Je{W:Wd}{d:Int}{M:af}:aN (Bd W) (.term gz.en d) M (.er 181) M:=by refine .of ?_;show aG _ (bM fG W gz.en d) _ _ _;unfold bM;rw[E4 (wI (x:=gz) (n:=2) (by decide) rfl rfl),Ex.en_op,Ex.en_args];change aG (Bd W) (.call (.term (iG ju).en d) λv=>.call (.term (iG o7).en d) λu=>cB fG W 10 gz.en.name gz.en.md [v,u]) M _ M;refine .call (Dd wJ.1) (.call (Dd Yt.1) ?_);rw[wJ.2,Yt.2];unfold cB;rw[E4 (by decide)];simp only[show¬(10=3\/10=4)by decide,show¬(10=6)by decide,show¬(10=21\/10=22)by decide,show¬(10=23)by decide,if_false];unfold fG;dsimp only;rw[atx];exact .err
def Dg{W:Wd}{d:Int}(M:af):aN (Bd W) (.term k9.en d) M (.er 181) M:=Ys (n:=0) (.inr rfl) rfl λM=>Je
def Jf:ai VS 14 [.i .u8 2,.i .i64 1,.i .i64 1] ju.d/\ai VS 14 [.i .u8 2,.i .i64 2,.i .i64 1] mJ.d/\ai VS 14 [.i .u8 2,.i .i64 0,.i .i64 1] o7.d:=⟨⟨60,by kernel_rfl⟩,⟨60,by kernel_rfl⟩,⟨60,by kernel_rfl⟩⟩
def Jg(v:Vl):ai VS 13 [v.d] (.ag (iG v).row):=by refine .body BD rfl ?_;rw[Ex.row_eq];simp only[Vl.d,Vl.cells];simp(disch:=omega)only[go_sem,simprocAttr,auv,ah v.f.hx.flat,ah v.f.hy.flat,vB,yd,Br,vC,dM,gK,ah cg,ah jj];exact⟨rfl,rfl,rfl,rfl,rfl,rfl,rfl,rfl,rfl⟩
def aty{o:Nat}{R:List (List D)}(c:∀r∈R,∀d∈r,d.flat=true){H:ab}{K:CR->Prop}:ac VS 12 [.i .u8 (o:Int),.sv 9 R] H K↔K (.ret (.ag [.i .u8 (o:Int),.s [],.i .u8 0,.b false,.nil,.b false,.nil,.i .i64 0,.im 9 R]) H):=by
 have h:ai VS 12 [.i .u8 (o:Int),.im 9 R] (.ag [.i .u8 (o:Int),.s [],.i .u8 0,.b false,.nil,.b false,.nil,.i .i64 0,.im 9 R]):=by refine .body SJ rfl ?_;simp(disch:=omega)only[go_sem,simprocAttr,auu]
 have a:=eU (K:=K) SJ rfl h (args:=[.i .u8 (o:Int),.sv 9 R]) (H:=H) (H1:=H) (by show aW 12 _ _=_;have:=Bq 7 H c;rw[dM,ah jj];dsimp only;rw[dM,f7];simp only[this,gK]);simp only[sB,show Ds.own=false from rfl]at a;exact a
end
section
open Go.Dm
set_option maxRecDepth 10000
def KK(v:NV):Prop:=1<=v.k/\v.k<=6
def g9:NR->Prop|.ok v=>KK v|.er e=>e≠0
def QK:EQ->Prop|.ok _=>True|.error e=>e≠0
def MK(M:af):Prop:=∀p∈M.vals,KK p.2
inductive KE:EN->Prop where|mk{o:Nat}{n:Nm}{v:Option NV}{m:Int}{a:List EN}:(∀x,v=some x->KK x)->(∀e∈a,KE e)->KE (.mk o n v m a)
def JK:aL->Prop|.term e _=>KE e|.pair _ _=>True
inductive Ez:Tr->Prop where|ret{v:NV}:KK v->Ez (.ret v)|err{e:Int}:e≠0->Ez (.err e)|st{u:af->af}{k:af->Tr}:(∀M,MK M->MK (u M))->(∀M,MK M->Ez (k M))->Ez (.st u k)|call{j:aL}{k:NV->Tr}:JK j->(∀v,KK v->Ez (k v))->Ez (.call j k)
def Ez.run{rec:aL->af->Option (NR×af)}(hr:∀j M r a,JK j->MK M->rec j M=some (r,a)->g9 r/\MK a){t:Tr}(h:Ez t):∀{M r a},MK M->cI rec t M=some (r,a)->g9 r/\MK a:=by induction h with|ret h=>intro M r a b e;cases e;exact⟨h,b⟩|err h=>intro M r a b e;cases e;exact⟨h,b⟩|st g i d=>intro M r a b e;exact d M b (g M b) e|@call j k l i d=>intro M r a b e;simp[cI]at e;cases f:rec j M with|none=>grind|some p=>obtain⟨x,M1⟩:=p;obtain⟨m,n⟩:=hr j M x M1 l b f;rw[f]at e;cases x with|er c=>grind|ok v=>exact d v m n e
def Yu{body:aL->Tr}(f:∀j,JK j->Ez (body j)):∀(n:Nat)(j:aL)(M:af)(r:NR)(d:af),JK j->MK M->gv body n j M=some (r,d)->g9 r/\MK d|0,_,_,_,_,_,_,e=>by cases e|n+1,j,_,_,_,g,h,e=>(f j g).run (λj M r d a b c=>Yu f n j M r d a b c) h e
def NR.tr_k{r:NR}(h:g9 r):Ez r.tr:=by cases r with|ok v=>exact .ret h|er e=>exact .err h
def EQ.tr_k{r:EQ}{k:Nat}(a:1<=k/\k<=6)(h:QK r):Ez (r.tr k):=by cases r with|ok v=>exact .ret a|error e=>exact .err h
def wK{a:Int}{b:Nat}:QK (ti a b):=by
 unfold ti;split;·trivial
 exact(by decide:(3:Int)≠0)
theorem Yv:∀(l:List aD)(q:Fq),QK (jX l q)
 |[],_=>trivial|s::l,q=>by
  unfold jX;have a:QK (nM (s.v.n,s.v.m) (s.to-s.frm,1)):=wK;split;·grind
  rename_i p _;have b:QK (nO q p):=wK;split;·grind
  exact Yv l _
variable{x:Int}
def Yw{l:List aD}{a b:Int}(h:gf l a b=.error x):x≠0:=by grind[gf]
def Yx(l:List aD)(a b:Int):QK (wA l a b):=by
 unfold wA;split;·rename_i e c;exact Yw c
 split;·grind[Yv]
 exact(by decide:(2:Int)≠0)
def atz(l:List aD)(a b:Int):QK (oX l a b):=by
 unfold oX;split
 ·split;·trivial
  have h:=Yx l a b;split;·grind
  exact wK
 exact(by decide:(2:Int)≠0)
def atA(l:List aD)(a b:Int):QK (wg l a b):=by
 unfold wg;have h:=Yx ((l.drop (lM l a)).take (nF l b-lM l a)) a b;split;·grind
 exact wK
theorem Jh{set:List (Int×Int)}{l:List aD}{a b:Int}{n:Nat}:∀(k m:Nat)(o:Option Fq),QK (mB set l a b n k m o)
 |0,_,o=>by cases o with|none=>exact(by decide:(6:Int)≠0)|some q=>trivial
 |k+1,m,o=>by
  unfold mB;split
  ·split
   ·have h:=atA l (bT m) (bT (m+n));split;·grind
    exact Jh k _ _
   exact Jh k _ _
  cases o with|none=>exact(by decide:(6:Int)≠0)|some q=>trivial
def atB(l:List aD)(a b n:Int):QK (wh l a b n):=by
 unfold wh;split;·grind[Jh]
 exact(by decide:(2:Int)≠0)
def atC{rows:List bV}{y:Int}{acc:Fq}:QK (sK rows x acc y):=by unfold sK qJ;cases nP _ y with|none=>exact(by decide:(6:Int)≠0)|some r=>
 dsimp only;have h:QK (nO (1,1) (r.n,r.m)):=wK;split;·grind
 exact wK
theorem Ji{rows:List bV}{lo hi:Int}:∀(n y:Nat)(acc:Fq),QK (jV rows x lo hi n y acc)
 |0,_,_=>trivial|n+1,y,acc=>by
  unfold jV;split;·trivial
  split;·exact Ji n _ _
  have h:QK (sK rows x acc y):=atC;split;·grind
  exact Ji n _ _
def atD{a:Bool}{rows:List bV}{lo hi:Int}:QK (kN a rows lo hi x):=by
 unfold kN;split;·exact(by decide:(2:Int)≠0)
 split;·grind[Ji]
 exact(by decide:(2:Int)≠0)
def tA(b:Bool):KK (dI b):=by cases b<;>exact⟨by decide,by decide⟩
theorem Dh{k:Nat}(c:1<=k/\k<=6){a:Int}{b:Nat}:g9 (pr k a b):=by
 unfold pr;split;·exact c
 exact(by decide:(3:Int)≠0)
theorem Di{k:Nat}(a:1<=k/\k<=6){n:Int}:g9 (rn k n):=by
 unfold rn;split;·exact(by decide:(3:Int)≠0)
 exact a
theorem Jj{n:Int}:g9 (rp n):=by
 unfold rp;split;·exact(by decide:(30:Int)≠0)
 constructor<;>grind
def Dj(c:Nat)(d:List Nat):Bool:=match c,d with|7,[a,b]=>a !=4||b==5||b==6|8,[a,b]=>a !=4||b==4||b==5||b==6|_,_=>true
def atE:((List.range 27).all λa=>sO.all λb=>!cm a b||Dj a b)=true:=by kernel_rfl
def atF{c:Nat}{a:List Nat}(d:a.length<=3)(e:∀k∈a,1<=k/\k<=6)(h:cm c a=true):Dj c a=true:=by have b:=h;unfold cm at b;simp only[D0,Hq]at b;have f:=TB.1 (TB.1 atE c (qb.2 b.1)) a (HO b.2.1 d e);grind
def atG{a:Nat}{x y:NV}(b:KK x)(d:KK y)(h:¬((a=7\/a=8)/\x.k=4/\y.k=6))(hs:Dj a [x.k,y.k]=true):g9 (rq a x y):=by
 have c:1<=max x.k y.k/\max x.k y.k<=6:=by grind[KK]
 unfold rq;split
 ·rename_i e;have f:x.k=4->y.k=4\/y.k=5:=λg=>by grind[Dj]
  unfold EL;dsimp;split;·grind[Di,Jj]
  split;·exact Di b
  exact Dh b
 split;·exact Dh c
 split
 ·split;·exact(by decide:(181:Int)≠0)
  grind[Dh]
 split;·show KK (if _ then x else y);grind
 split<;>exact tA _
end
section
open Go.Dm
set_option maxRecDepth 10000
theorem atH {op:Nat} {x y:NV}:g9 (sM op x y):=by
 have go : ∀ p:Int×Int,g9 (if p.2=0 then rp p.1 else .er p.2):=fun p=>by
  split
  ·exact Jj
  ·rename_i h;exact h
 exact go _
theorem atI {x y:NV}:g9 (vW x y):=by
 unfold vW
 split
 ·exact Di ⟨by decide,by decide⟩
 ·rename_i h;exact h
theorem atJ {x:NV}:g9 (yI x):=by
 unfold yI
 split
 ·split
  ·exact Di ⟨by decide,by decide⟩
  ·exact(by decide:(3:Int)≠0)
 ·exact(by decide:(22:Int)≠0)
theorem atK {x:NV}:g9 (yJ x):=by
 unfold yJ
 split<;>exact(⟨by decide,by decide⟩:1 <= 2 /\ 2 <= 6)
theorem atM {x:NV}:g9 (yK x):=by
 unfold yK
 split
 ·split
  ·exact Jj
  ·rename_i h;exact h
 ·rename_i h;exact h
theorem atN {m:Int} {x y:NV} (hx:KK x):g9 (vV m x y):=by
 unfold vV
 split
 ·exact(by decide:(185:Int)≠0)
 ·split
  ·exact(by decide:(181:Int)≠0)
  ·exact Dh hx
theorem atO {op:Nat} (hop : ¬ (3 <= op /\ op <= 6) /\ ¬ (21 <= op /\ op <= 23)) {md:Int} {vs:List NV} (hl:vs.length <= 3) (hv : ∀ a∈vs,KK a) (hf:cm op (vs.map NV.k)=true):g9 (gq op md vs):=by
 have hk : ∀ k∈vs.map NV.k,1 <= k /\ k <= 6:=by
  intro k hk
  obtain⟨a,ha,rfl⟩:=fT.1 hk
  exact hv a ha
 have hl':(vs.map NV.k).length <= 3:=by rw[T3];exact hl
 have ho:=Ch hl' hk hf
 have hs:=(HP hl' hk hf).2
 have hb:=atF hl' hk hf
 have hc:(7 <= op /\ op <= 14) \/ op=17 \/ op=19 \/ op=20 \/ op=24 \/ op=25 \/ op=26:=by omega
 unfold gq
 dsimp only
 rcases hc with hc|rfl|rfl|rfl|rfl|rfl|rfl
 ·rw [E1 (by omega),E1 (by omega),E1 (by omega),E1 (by omega),E1 (by omega),E1 (by omega)]
  split
  ·exact atH
  ·rename_i hm
   match vs,hs,hv,hb,hm with
   | [a,b],_,hv,hb,hm=>exact atG (hv a (by simp)) (hv b (by simp)) hm hb
   | [],hs,_,_,_ =>
    have:op=7 \/ op=8 \/ op=9 \/ op=10 \/ op=11 \/ op=12 \/ op=13 \/ op=14:=by omega
    rcases this with rfl|rfl|rfl|rfl|rfl|rfl|rfl|rfl<;>cases hs
   | [_],hs,_,_,_ =>
    have:op=7 \/ op=8 \/ op=9 \/ op=10 \/ op=11 \/ op=12 \/ op=13 \/ op=14:=by omega
    rcases this with rfl|rfl|rfl|rfl|rfl|rfl|rfl|rfl<;>cases hs
   | _::_::_::_,hs,_,_,_ =>
    have:op=7 \/ op=8 \/ op=9 \/ op=10 \/ op=11 \/ op=12 \/ op=13 \/ op=14:=by omega
    rcases this with rfl|rfl|rfl|rfl|rfl|rfl|rfl|rfl<;>cases hs
 ·exact tA _
 ·match vs,hs,hv with
  | [a,b],_,hv=>exact atN (hv a (by simp))
  | [],hs,_=>cases hs
  | [_],hs,_=>cases hs
  | _::_::_::_,hs,_=>cases hs
 ·exact atI
 ·exact atJ
 ·exact atK
 ·exact atM
theorem KE.un {e:EN} (h:KE e):(∀ x,e.val=some x -> KK x) /\ ∀ a∈e.args,KE a:=by
 cases h with|mk h1 h2=>exact⟨h1,h2⟩
structure WK (W:Wd):Prop where
 v : ∀ k l d v,W.view k = .ok l -> bQ l d=some v -> KK v
 e : ∀ k e,W.view k = .error e -> e≠0
 c : ∀ i,KE (W.clause i).when /\ KE (W.clause i).thn
 l : ∀ n d p,p∈W.cl n d -> KE p.2.when
section
variable {W:Wd} (hW:WK W)
theorem wL {e:EN} {d:Int} {k:Bool -> Tr} (he:KE e) (hk : ∀ b,Ez (k b)):Ez (dX e d k):=by
 refine .call he fun v _ => ?_
 split
 ·exact hk _
 ·exact .err (by decide)
theorem Yy {d:Int} {k:List NV -> Tr} : ∀ {l:List EN} {acc:List NV},(∀ e∈l,KE e) -> (∀ v∈acc,KK v) -> (∀ vs,vs.length=acc.length+l.length -> (∀ v∈vs,KK v) -> Ez (k vs)) -> Ez (gZ d k l acc)
 | [],acc,_,ha,hk=>hk acc (by simp) ha
 | e::l,acc,hl,ha,hk=>by
  refine .call (hl e (by simp)) fun v hv=>Yy (fun x hx=>hl x (by simp[hx])) (fun x hx => ?_) fun vs hn h=>hk vs (by simp at hn ⊢;omega) h
  rcases TA.1 hx with hx|hx
  ·exact ha x hx
  ·simp at hx;rw[hx];exact hv
theorem Yz {d:Int} {k:Nat -> Tr} (hk : ∀ c,Ez (k c)) : ∀ {l:List (Nat×eK)} {c n:Nat},(∀ p∈l,KE p.2.when) -> Ez (bC d k l c n)
 | [],c,n,_=>by
  unfold bC
  split
  ·exact .err (by decide)
  ·split
   ·exact .err (by decide)
   ·exact hk c
 | (i,x)::l,c,n,h=>by
  refine wL (h (i,x) (by simp)) fun b => ?_
  split<;>exact Yz hk fun p hp=>h p (by simp[hp])
include hW
theorem atP {op:Nat} {nm:Nm} {d:Int}:Ez (fI W op nm d):=by
 unfold fI
 split
 ·rename_i e he;exact .err (hW.e _ _ he)
 ·rename_i l hl
  split
  ·exact .ret (tA _)
  ·split
   ·rename_i v hv;exact .ret (hW.v _ _ _ _ hl hv)
   ·exact .err (by decide)
theorem atQ {nm:Nm} {vs:List NV}:Ez (eC W nm vs):=by
 have two : ∀ n m,Ez (.ret ⟨2,n,m,0⟩):=fun n m => .ret (⟨by decide,by decide⟩:1 <= 2 /\ 2 <= 6)
 have six:Ez (.err 6) := .err (by decide)
 unfold eC
 repeat' split
 all_goals first|exact two _ _|exact six|exact .err (by decide)
theorem atS {op:Nat} {nm:Nm} {vs:List NV}:Ez (fp fG W op nm vs):=by
 unfold fp
 split
 ·rename_i e he;exact .err (hW.e _ _ he)
 ·split
  ·rename_i e he;exact .err (Yw he)
  ·split
   ·exact EQ.tr_k ⟨by decide,by decide⟩ (atz _ _ _)
   ·exact EQ.tr_k ⟨by decide,by decide⟩ (atB _ _ _ _)
theorem atT {op:Nat} {nm:Nm} {md:Int} {vs:List NV} (hl:vs.length <= 3) (hv : ∀ a∈vs,KK a):Ez (cB fG W op nm md vs):=by
 unfold cB
 split
 ·rename_i hf
  split
  ·exact .st (fun _ h=>h) fun _ _=>atP hW
  ·split
   ·exact .st (fun _ h=>h) fun _ _=>atQ hW
   ·split
    ·split
     ·split
      ·exact .err (by decide)
      ·exact .ret (⟨by decide,by decide⟩:1 <= 2 /\ 2 <= 6)
     ·exact .st (fun _ h=>h) fun _ _=>atS hW
    ·split
     ·refine .st (fun _ h=>h) fun _ _ => ?_
      split
      ·exact .err (by decide)
      ·exact EQ.tr_k ⟨by decide,by decide⟩ atD
     ·have hk : ∀ k∈vs.map NV.k,1 <= k /\ k <= 6:=by
       intro k hk
       obtain⟨a,ha,rfl⟩:=fT.1 hk
       exact hv a ha
      have ho:=Ch (by rw[T3];exact hl) hk hf
      exact NR.tr_k (atO (by omega) hl hv hf)
 ·exact .err (by decide)
theorem atU {e:EN} {d:Int} (he:KE e):Ez (bM fG W e d):=by
 obtain⟨h1,h2⟩:=he.un
 have ha : ∀ i,i<e.args.length -> KE e.args[i]! := fun i hi=>by
  rw[Hy e.args i hi]
  exact h2 _ (hY hi)
 unfold bM
 split
 ·rename_i hf
  unfold EN.formed at hf
  simp only[D0,Hq]at hf
  have h3:=VM e.op
  have two:e.op=15 \/ e.op=16 -> e.args.length=2:=fun h=>by
   have:=hf.2
   rcases h with h|h<;>rw[h]at this<;>simp[ic]at this<;>omega
  have three:e.op=18 -> e.args.length=3:=fun h=>by
   have:=hf.2
   rw[h]at this;simp[ic]at this;omega
  by_cases c1:e.op=1
  ·rw[E4 c1]at hf ⊢
   cases hv:e.val with
   | none=>rw[hv]at hf;cases hf.1
   | some x=>exact .ret (h1 x hv)
  rw[E1 c1]
  by_cases c2:e.op=2
  ·rw[E4 c2]
   exact .ret (⟨by decide,by decide⟩:1 <= 4 /\ 4 <= 6)
  rw[E1 c2]
  by_cases c3:e.op=15
  ·rw[E4 c3]
   have:=two (.inl c3)
   refine wL (ha 0 (by omega)) fun b => ?_
   cases b with
   | true=>rw[E4 rfl];exact wL (ha 1 (by omega)) fun c => .ret (tA c)
   | false=>exact .ret (tA _)
  rw[E1 c3]
  by_cases c4:e.op=16
  ·rw[E4 c4]
   have:=two (.inr c4)
   refine wL (ha 0 (by omega)) fun b => ?_
   cases b with
   | true=>exact .ret (tA _)
   | false=>rw[E1 (by decide)];exact wL (ha 1 (by omega)) fun c => .ret (tA c)
  rw[E1 c4]
  by_cases c5:e.op=18
  ·rw[E4 c5]
   have:=three c5
   refine wL (ha 0 (by omega)) fun b => ?_
   cases b with
   | true=>exact .call (ha 1 (by omega)) fun v h => .ret h
   | false=>exact .call (ha 2 (by omega)) fun v h => .ret h
  rw[E1 c5]
  refine Yy h2 (by simp) fun vs hn hv => ?_
  by_cases c6:e.op=5
  ·rw[E4 c6]
   unfold kX
   split
   ·exact .call trivial fun v h => .ret h
   ·exact .err (by decide)
  ·rw[E1 c6]
   exact atT hW (by simp at hn;omega) hv
 ·exact .err (by decide)
theorem atV {nm:Nm} {d:Int}:Ez (jY W nm d):=by
 refine .st (fun _ h=>h) fun M hM => ?_
 split
 ·rename_i v hv
  obtain⟨p,hp,e⟩ : ∃ p∈M.vals,p.2=v:=by
   have : ∀ l:List ((Nm×Int)×NV),l.lookup (nm,d)=some v -> ∃ p∈l,p.2=v:=by
    intro l
    induction l with
    | nil=>intro h;cases h
    | cons q l ih =>
     intro h
     obtain⟨a,b⟩:=q
     rw[AAj]at h
     split at h
     ·cases h;exact⟨(a,v),by simp,rfl⟩
     ·obtain⟨p,hp,e⟩:=ih h
      exact⟨p,by simp[hp],e⟩
   exact this _ hv
  exact .ret (e▸hM p hp)
 ·unfold eY
  refine .st (fun _ h=>h) fun M2 hM2 => ?_
  split
  ·exact .err (by decide)
  refine .st (fun _ h=>h) fun M3 hM3 => ?_
  split
  ·exact .err (by decide)
  refine .st (fun _ h=>h) fun M4 hM4 => ?_
  split
  ·exact .err (by decide)
  refine Yz (fun c => ?_) fun p hp=>hW.l _ _ p hp
  refine .call (hW.c c).2 fun v hv => ?_
  split
  ·refine .st (fun M h p hp => ?_) fun _ _ => .ret hv
   obtain⟨a,b⟩:=p
   rcases qM hp with⟨_,rfl⟩|hp
   ·exact hv
   ·exact h _ hp
  ·exact .err (by decide)
theorem atW (j:aL) (h:JK j):Ez (Bd W j):=by
 cases j with
 | term e d=>exact atU hW h
 | pair n d=>exact atV hW
theorem YA {j:aL} (hj:JK j) {M M':af} (hM:MK M) {r:NR} (h:aN (Bd W) j M r M'):g9 r /\ MK M':=by
 obtain⟨n,h⟩:=h
 exact Yu (fun j hj=>atW hW j hj) n j M r M' hj hM h
end
mutual
theorem Ex.ke : ∀ e:Dv.Ex,KE e.en
 | .mk o n v y a=>by
  rw[Ex.en]
  refine .mk (fun x hx => ?_) (YB a)
  by_cases h:v.valid=true
  ·rw[E4 h]at hx;cases hx;exact(Vl.nv_ok h).2.k
  ·rw[E1 h]at hx;cases hx
theorem YB : ∀ l:List Dv.Ex, ∀ e∈tg l,KE e
 | []=>by intro e h;rw[tg]at h;cases h
 | a::l=>by
  intro e h
  rw[tg]at h
  rcases S2.1 h with rfl|h
  ·exact Ex.ke a
  ·exact YB l e h
end
theorem YC (p:Pl) {l:List Fc} {known:Int} (hr:dP l=true):WK (p.bw l known).wd:=by
 refine⟨fun k s d v h1 h2 => ?_,fun k e h=>(by cases h),fun i=>⟨Ex.ke _,Ex.ke _⟩,fun n d q hq => ?_⟩
 ·cases h1
  rw[kT,(qO hr k known).2 d]at h2
  unfold gc at h2
  split at h2
  ·rename_i f hc
   split at h2
   ·cases h2
   ·rename_i hg
    cases h2
    have hm:=(H8 (qo.1 (List.mem_of_getLast? hc)).1).1
    obtain⟨g,hg',rfl⟩:=fT.1 hm
    have:=vT hr g hg'
    unfold Fc.right at this
    rw[E1 (show ¬ g.gone=true from hg)]at this
    simp only[D0]at this
    have e:g.n.v=g.v.nv:=E1 (show ¬ g.gone=true from hg)
    rw[e]
    exact(Vl.nv_ok this.2).2.k
  ·cases h2
 ·obtain⟨i,_,rfl⟩:=fT.1 hq
  exact Ex.ke _
end
section
open Go.Dm
set_option maxRecDepth 10000
structure gh(p:Pl)(l:List Fc)(x:D)(e:Dv.Ex)(d known:Int)(r:NR)(y:D):Prop where
 q:ai VS 16 [p.d,x,.ag e.row,.i .i64 d,.i .i64 known] (.tu [y,.i .i64 r.e])v:VD r.v y
 n:(ds 65536 r.v.n.natAbs).length<70368744177665/\(ds 65536 r.v.m).length<70368744177665
 c:(fU e=false/\r=.er 2)\/(fU e=true/\∃M,aN (Bd (p.bw l known).wd) (.term e.en d) af.nil r M)
def wM:VD default ls:=by
 have a:Sl 1 ((ds 65536 0).map u16) .nil:=by rw[bE];exact .nil rfl
 exact⟨⟨_,_,rfl,⟨a⟩,⟨a⟩⟩⟩
def o8{p:Pl}{l:List Fc}{x:D}(k:Sl 11 (l.map Fc.c) x){e:Dv.Ex}(m:bA (λ_=>True) e){d b:Int}(h:nI p l d)(i:∀c∈p.cls,LX c.w/\LX c.t)(o:b<=9223372036854775807):∃r y,gh p l x e d b r y:=by
 have q:=h.f;have z:=q.d;have A:=q.c;have B:=q.t;have C:=q.f;have s:∀c∈p.cls,bA _ c.w/\bA _ c.t:=λc h=>⟨(i c h).1.x,(i c h).2.x⟩;obtain⟨n,_,j⟩:=atu p CB k m (d:=d) (known:=b) ⟨by omega,by omega,by omega,by omega,o,s⟩;have a:(ds 65536 0).length<70368744177665:=by grind[bE]
 cases hs:fU e with|false=>exact⟨.er 2,ls,⟨n,j.n (by rw[hs];rfl)⟩,wM,⟨a,a⟩,.inl ⟨hs,rfl⟩⟩|true=>
 rcases j.y (by rw[hs,h.b];rfl)with⟨v,y,M,f,t,u,g⟩|⟨w,M,f,g⟩;·exact⟨.ok v,y,⟨n,g⟩,t,B7 u,.inr ⟨hs,M,f⟩⟩
 exact⟨.er w,ls,⟨n,g⟩,wM,⟨a,a⟩,.inr ⟨hs,M,f⟩⟩
def tB{p:Pl}{l:List Fc}{x:D}(c:Sl 11 (l.map Fc.c) x){e:Dv.Ex}{d a:Int}{r:NR}{y:D}(h:gh p l x e d a r y){G:ab}{K:CR->Prop}:ac VS 15 [.ag e.row,.hp 0 0,.hp 1 0,.hp 2 0,.hp 3 0] ([.hb 26 [.s p.name,p.dD,p.tD,p.cD],.hb 27 [x],.hb 3 [.i .i64 d],.hb 3 [.i .i64 a]]++G) K↔K (.ret (.tu [y,.i .i64 r.e]) ([.hb 26 [.s p.name,p.dD,p.tD,p.cD],.hb 27 [x],.hb 3 [.i .i64 d],.hb 3 [.i .i64 a]]++G)):=by have b:=λ{H K}=>h.q.c (H:=H) (K:=K) BF rfl (by simp[p.pl,c.pl,aZ,show(D.ag e.row).plain=true from e.pl]) (.inl rfl);obtain⟨f,g,rfl,_⟩:=h.v.h;unfold Pl.d at b;rw[Ex.row_eq]at b⊢;refine dO (cz.iff_q.2 (.body akM rfl rfl ?_));simp[go_sem,auw,b]
end
section
open Go.Dm
set_option maxRecDepth 10000
def Dk{v:Vl}:bA (λ_=>True) (iG v):=.mk (by show 1<256;decide) trivial (λa h=>by cases h)
def tC{o:Nat}{l:List Dv.Ex}(b:o<256)(c:∀a∈l,bA (λ_=>True) a):bA (λ_=>True) (k8 o l):=.mk b trivial c
def Dl:bA (λ_=>True) gz:=tC (by decide) (by
 intro a h;rcases S2.1 h with rfl|h;·exact Dk
 rw[eD]at h;rw[h];exact Dk)
def Dn:bA (λ_=>True) k9:=tC (by decide) (by
 intro a h;rcases S2.1 h with rfl|h;·exact Dl
 rw[eD]at h;rw[h];exact Dl)
def atX:fU k9=true:=by kernel_rfl
section
variable{p:Pl}{l:List Fc}{x:D}{e:Dv.Ex}{d known:Int}{r r1:NR}{y y1:D}
def gh.err(h:gh p l x e d known r y)(hr:dP l=true):g9 r:=by
 rcases h.c with⟨_,rfl⟩|⟨_,M,h⟩;·exact(by decide:(2:Int)≠0)
 exact(YA (YC p hr) (j:=.term e.en d) (Ex.ke e) (λ_ h=>by cases h) h).1
def gh.wro(h:gh p l x k9 d known r y):r=.er 181:=by
 rcases h.c with⟨c,_⟩|⟨_,M,h⟩;·rw[atX]at c;cases c
 exact(h.det (Dg _)).1
def gh.and(hs:fU e=true)(h:gh p l x e d known r y)(a:gh p l x (k8 15 [e,k9]) d known r1 y1):r1=.er 2\/r1=nR r λb=>if b then .er 181 else .ok (dI false):=by
 rcases h.c with⟨c,_⟩|⟨_,M,h⟩;·rw[hs]at c;cases c
 rcases a.c with⟨_,rfl⟩|⟨_,M1,a⟩;·exact .inl rfl
 exact .inr (a.det (atv rfl rfl (λM=>Dg M) h)).1
def gh.or(hs:fU e=true)(h:gh p l x e d known r y)(a:gh p l x (k8 16 [e,k9]) d known r1 y1):r1=.er 2\/r1=nR r λb=>if b then .ok (dI true)else .er 181:=by
 rcases h.c with⟨c,_⟩|⟨_,M,h⟩;·rw[hs]at c;cases c
 rcases a.c with⟨_,rfl⟩|⟨_,M1,a⟩;·exact .inl rfl
 exact .inr (a.det (atw rfl rfl (λM=>Dg M) h)).1
theorem gh.one(hs:fU e=true)(h:gh p l x e d known r y)(a:gh p l x (k8 18 [e,iG ju,gz]) d known r1 y1):r1=.er 2\/r1=nR r λb=>if b then .ok ju.nv else .er 181:=by
 rcases h.c with⟨c,_⟩|⟨_,M,h⟩;·rw[hs]at c;cases c
 rcases a.c with⟨_,rfl⟩|⟨_,M1,a⟩;·exact .inl rfl
 exact .inr (a.det (Yr rfl rfl (λM=>Dd wJ.1) (λM=>Je) h)).1
def gh.two(hs:fU e=true)(h:gh p l x e d known r y)(a:gh p l x (k8 18 [e,gz,iG mJ]) d known r1 y1):r1=.er 2\/r1=nR r λb=>if b then .er 181 else .ok mJ.nv:=by
 rcases h.c with⟨c,_⟩|⟨_,M,h⟩;·rw[hs]at c;cases c
 rcases a.c with⟨_,rfl⟩|⟨_,M1,a⟩;·exact .inl rfl
 exact .inr (a.det (Yr rfl rfl (λM=>Je) (λM=>Dd De.1) h)).1
def gh.late(a:gh p l x (k8 15 [k9,e]) d known r1 y1):r1=.er 2\/r1=.er 181:=by
 rcases a.c with⟨_,rfl⟩|⟨_,M1,a⟩;·exact .inl rfl
 exact .inr (a.det (Ys (n:=0) (.inl rfl) rfl (λM=>Dg M))).1
end
end
section
open Go.Dm
set_option maxRecDepth 10000
def YD:(iG ju).row=[.i .u8 1,.s [],.i .u8 2,.b false,.im 1 [[.i .u16 1]],.b false,.im 1 [[.i .u16 1]],.i .i64 0,.nil]:=by rw[Ex.row_eq];rfl
def YE:(iG mJ).row=[.i .u8 1,.s [],.i .u8 2,.b false,.im 1 [[.i .u16 2]],.b false,.im 1 [[.i .u16 1]],.i .i64 0,.nil]:=by rw[Ex.row_eq];rfl
def YF:(iG o7).row=[.i .u8 1,.s [],.i .u8 2,.b false,.nil,.b false,.im 1 [[.i .u16 1]],.i .i64 0,.nil]:=by rw[Ex.row_eq];rfl
def Jk(o:Nat)(l:List Dv.Ex):(k8 o l).row=[.i .u8 o,.s [],.i .u8 0,.b false,.nil,.b false,.nil,.i .i64 0,(k8 o l).sl]:=by rw[Ex.row_eq];rfl
def atY(e:Dv.Ex):∀d∈e.row,d.flat=true:=by have:=e.pl;unfold Ex.d at this;rw[bO]at this;exact TB.1 this
def tF(o:Nat)(a:Dv.Ex)(l:List Dv.Ex){H:ab}{K:CR->Prop}:ac VS 12 [.i .u8 (o:Int),.sv 9 ((a::l).map Ex.row)] H K↔K (.ret (.ag [.i .u8 (o:Int),.s [],.i .u8 0,.b false,.nil,.b false,.nil,.i .i64 0,(k8 o (a::l)).sl]) H):=by refine aty λr hr d c=>?_;obtain⟨e,_,rfl⟩:=fT.1 hr;exact atY e d c
def atZ:gz.row=[.i .u8 10,.s [],.i .u8 0,.b false,.nil,.b false,.nil,.i .i64 0,gz.sl]:=Jk 10 _
def at0:k9.row=[.i .u8 13,.s [],.i .u8 0,.b false,.nil,.b false,.nil,.i .i64 0,k9.sl]:=Jk 13 _
end
section
open Go.Dm
set_option maxRecDepth 10000
def Jl (w k1 k2 k3 k4:Int) (i:Nat) (s:St):Prop := ∃ (z0 z1 z2 z3 z4 z5 z6 z7 z8 z9 tH tI tJ tK tL tM tN tO tP tQ tR tS tT tU tV tW tX tY:D) (tZ ua z31 z32:D) (z36 z37 z38 z39 z40 z41:D) (H:ab),s=⟨[z0,z1,z2,z3,z4,z5,z6,z7,z8,z9,tH,tI,tJ,tK,tL,tM,tN,tO,tP,tQ,tR,tS,tT,tU,tV,tW,tX,tY,.i .i64 w,tZ,ua,z31,z32,.i .i64 i,.i .i64 4,.sv 1 [[.i .i64 k1],[.i .i64 k2],[.i .i64 k3],[.i .i64 k4]],z36,z37,z38,z39,z40,z41],H⟩
theorem YG {H:ab} {a b c d:D}:cG H (.sv 1 [[a],[b],[c],[d]]) (.i .i64 0) 1=some (.ip [a]):=rfl
theorem YH {H:ab} {a b c d:D}:cG H (.sv 1 [[a],[b],[c],[d]]) (.i .i64 1) 1=some (.ip [b]):=rfl
theorem YI {H:ab} {a b c d:D}:cG H (.sv 1 [[a],[b],[c],[d]]) (.i .i64 2) 1=some (.ip [c]):=rfl
theorem YJ {H:ab} {a b c d:D}:cG H (.sv 1 [[a],[b],[c],[d]]) (.i .i64 3) 1=some (.ip [d]):=rfl
theorem YK {w k1 k2 k3 k4:Int} (h1:k1=w \/ k1=2) (h2:k2=w \/ k2=2) (h3:k3=w \/ k3=2) (h4:k4=w \/ k4=2) {s:St} (h:Jl w k1 k2 k3 k4 0 s) {Q:Dm.Ex -> St -> Prop} (hQ : ∀ s,Jl w k1 k2 k3 k4 4 s -> Q .nm s):ak VS Jy.loop s (lG 0 Q):=by
 refine ak.up (Jl w k1 k2 k3 k4) 4 h ?_
 rintro i s hi ⟨z0,z1,z2,z3,z4,z5,z6,z7,z8,z9,tH,tI,tJ,tK,tL,tM,tN,tO,tP,tQ,tR,tS,tT,tU,tV,tW,tX,tY,tZ,ua,z31,z32,z36,z37,z38,z39,z40,z41,H,rfl⟩
 by_cases hlt:i<4
 ·have:i=0 \/ i=1 \/ i=2 \/ i=3:=by omega
  rcases this with rfl|rfl|rfl|rfl
  ·by_cases c:k1=w
   ·subst c
    simp(disch:=omega) [go_sem,o9,YG]
    exact⟨_,_,_,_,_,_,_,_,_,_,_,_,_,_,_,_,_,_,_,_,_,_,_,_,_,_,_,_,_,_,_,_,_,_,_,_,_,_,_,rfl⟩
   ·have c2:k1=2:=h1.resolve_left c
    subst c2
    simp(disch:=omega) [go_sem,o9,YG,c]
    exact⟨_,_,_,_,_,_,_,_,_,_,_,_,_,_,_,_,_,_,_,_,_,_,_,_,_,_,_,_,_,_,_,_,_,_,_,_,_,_,_,rfl⟩
  ·by_cases c:k2=w
   ·subst c
    simp(disch:=omega) [go_sem,o9,YH]
    exact⟨_,_,_,_,_,_,_,_,_,_,_,_,_,_,_,_,_,_,_,_,_,_,_,_,_,_,_,_,_,_,_,_,_,_,_,_,_,_,_,rfl⟩
   ·have c2:k2=2:=h2.resolve_left c
    subst c2
    simp(disch:=omega) [go_sem,o9,YH,c]
    exact⟨_,_,_,_,_,_,_,_,_,_,_,_,_,_,_,_,_,_,_,_,_,_,_,_,_,_,_,_,_,_,_,_,_,_,_,_,_,_,_,rfl⟩
  ·by_cases c:k3=w
   ·subst c
    simp(disch:=omega) [go_sem,o9,YI]
    exact⟨_,_,_,_,_,_,_,_,_,_,_,_,_,_,_,_,_,_,_,_,_,_,_,_,_,_,_,_,_,_,_,_,_,_,_,_,_,_,_,rfl⟩
   ·have c2:k3=2:=h3.resolve_left c
    subst c2
    simp(disch:=omega) [go_sem,o9,YI,c]
    exact⟨_,_,_,_,_,_,_,_,_,_,_,_,_,_,_,_,_,_,_,_,_,_,_,_,_,_,_,_,_,_,_,_,_,_,_,_,_,_,_,rfl⟩
  ·by_cases c:k4=w
   ·subst c
    simp(disch:=omega) [go_sem,o9,YJ]
    exact⟨_,_,_,_,_,_,_,_,_,_,_,_,_,_,_,_,_,_,_,_,_,_,_,_,_,_,_,_,_,_,_,_,_,_,_,_,_,_,_,rfl⟩
   ·have c2:k4=2:=h4.resolve_left c
    subst c2
    simp(disch:=omega) [go_sem,o9,YJ,c]
    exact⟨_,_,_,_,_,_,_,_,_,_,_,_,_,_,_,_,_,_,_,_,_,_,_,_,_,_,_,_,_,_,_,_,_,_,_,_,_,_,_,rfl⟩
 ·obtain rfl:i=4:=by omega
  simp(disch:=omega) [go_sem,o9]
  exact hQ _ ⟨_,_,_,_,_,_,_,_,_,_,_,_,_,_,_,_,_,_,_,_,_,_,_,_,_,_,_,_,_,_,_,_,_,_,_,_,_,_,_,rfl⟩
end
section
open Go.Dm
set_option maxRecDepth 10000
set_option maxHeartbeats 4000000 in def at1(p:Pl){l:List Fc}{x:D}(g:Sl 11 (l.map Fc.c) x)(hd:p.defs.length<1000000000000000)(k:∀c∈p.cls,LX c.w/\LX c.t){t:Nat}(ht:t<256){d a:Int}(m:a<=9223372036854775807):ai VS 5 [p.d,x,.i .u8 t,.i .i64 d,.i .i64 a] (.b true):=by obtain⟨u,hu,hU⟩:=I7 g hd k (d:=d);have E:=λ{H K}=>hu.c (H:=H) (K:=K) vF rfl (by simp[p.pl,g.pl,aZ]) (.inl rfl);have n:=λ{H K}=>BC (H:=H) (K:=K);refine .body (vf:=v5) fn5 rfl ?_;cases u with|false=>unfold Pl.d at E⊢;simp(disch:=omega)only[go_sem,simprocAttr,Jz,E,n,g.c1]|true=>
 by_cases h0:p.cls.length=0
 ·have aa:(p.cls.length:Int)=0:=by omega
  unfold Pl.d at E⊢;simp(disch:=omega)only[go_sem,simprocAttr,Jz,E,n,p.hc.n,p.hc.c1,g.c1,aa]
 have aa:¬(p.cls.length:Int)=0:=by omega
 have U:=hU rfl;obtain⟨i,hi⟩:∃i,i=t%p.cls.length:=⟨_,rfl⟩;have N:i<p.cls.length:=by rw[hi];exact mm _ (by omega)
 have ew:IntKind.i64.wrap (t:Int)=t:=wr (by omega) (by omega);have er:(t:Int).tmod (p.cls.length:Int)=(i:Int):=by rw[hi];rfl
 obtain⟨c,ab⟩:∃c,c=p.cls[i]!:=⟨_,rfl⟩;have aw:c∈p.cls:=by rw[ab,Hy p.cls i N];exact hY N
 have F:bA (λ_=>True) c.w:=(k c aw).1.x;have A:=U.b;unfold dW at A;simp only[D0]at A;have P:fU c.w=true:=by have:=A.1.2;unfold Pl.bounded at this;simp only[D0]at this;have:=TB.1 this.1.2 c aw;unfold Cl.sz at this;simp only[D0]at this;exact this.1
 have Q:∀{a b:Dv.Ex},bA (λ_=>True) a->bA (λ_=>True) b->∀x∈[a,b],bA (λ_=>True) x:=λm A x h=>by
  rcases S2.1 h with rfl|h;·exact m
  rw[eD]at h;rw[h];exact A
 have ax:∀{a b c:Dv.Ex},bA (λ_=>True) a->bA (λ_=>True) b->bA (λ_=>True) c->∀x∈[a,b,c],bA (λ_=>True) x:=λm A k x h=>by
  rcases S2.1 h with rfl|h;·exact m
  exact Q A k x h
 obtain⟨r0,y0,T0⟩:=o8 g Dn U k m;obtain⟨r,y,T⟩:=o8 g F U k m;obtain⟨r1,y1,T1⟩:=o8 g (tC (o:=15) (by decide) (Q F Dn)) U k m;obtain⟨r2,y2,T2⟩:=o8 g (tC (o:=16) (by decide) (Q F Dn)) U k m;obtain⟨r3,y3,I⟩:=o8 g (tC (o:=18) (by decide) (ax F (Dk (v:=ju)) Dl)) U k m;obtain⟨r4,y4,J⟩:=o8 g (tC (o:=18) (by decide) (ax F Dl (Dk (v:=mJ)))) U k m;obtain⟨r5,y5,S⟩:=o8 g (tC (o:=15) (by decide) (Q Dn F)) U k m;have c0:=T0.wro;subst c0;have j:=T.and P T1;have w:=T.or P T2;have c3:=T.one P I;have z:=T.two P J;have c5:=S.late;have ce:=T.err A.2;have f0:=λ{K}=>tB g T0 (G:=[]) (K:=K);have f:=λ{K}=>tB g T (G:=[]) (K:=K);have f1:=λ{K}=>tB g T1 (G:=[]) (K:=K);have f2:=λ{K}=>tB g T2 (G:=[]) (K:=K);have f3:=λ{K}=>tB g I (G:=[]) (K:=K);have f4:=λ{K}=>tB g J (G:=[]) (K:=K);have f5:=λ{K}=>tB g S (G:=[]) (K:=K);have v5:r5.v=default:=by rcases c5 with rfl|rfl<;>rfl
 have W:=S.v;have m5:=S.n;rw[v5]at W m5;have s5:=λ{H K}=>(sV W wM m5).c (H:=H) (K:=K) qz rfl (by simp[W.pl,wM.pl]) (.inl rfl);unfold ls cr at s5;obtain⟨a5,b5,h5,_⟩:=W.h;replace h5:y5=.ag [.i .u8 0,.b false,a5,.b false,b5,.i .i64 0]:=h5;subst h5;have g1:=λ{H K}=>tF 15 c.w [k9] (H:=H) (K:=K);have g2:=λ{H K}=>tF 16 c.w [k9] (H:=H) (K:=K);have g3:=λ{H K}=>tF 18 c.w [iG ju,gz] (H:=H) (K:=K);have g4:=λ{H K}=>tF 18 c.w [gz,iG mJ] (H:=H) (K:=K);have g5:=λ{H K}=>tF 15 k9 [c.w] (H:=H) (K:=K);have g6:=λ{H K}=>tF 10 (iG ju) [iG o7] (H:=H) (K:=K);have g7:=λ{H K}=>tF 13 gz [gz] (H:=H) (K:=K);have n1:=λ{H K}=>Jf.1.c (H:=H) (K:=K) GE rfl (by simp[aZ]) (.inl rfl);have n2:=λ{H K}=>Jf.2.1.c (H:=H) (K:=K) GE rfl (by simp[aZ]) (.inl rfl);have n3:=λ{H K}=>Jf.2.2.c (H:=H) (K:=K) GE rfl (by simp[aZ]) (.inl rfl);have k1:=λ{H K}=>(Jg ju).c (H:=H) (K:=K) BD rfl (by kernel_rfl) (.inl rfl);have k2:=λ{H K}=>(Jg mJ).c (H:=H) (K:=K) BD rfl (by kernel_rfl) (.inl rfl);have k3:=λ{H K}=>(Jg o7).c (H:=H) (K:=K) BD rfl (by kernel_rfl) (.inl rfl);obtain⟨a0,cq,rfl,_⟩:=T0.v.h;obtain⟨ae,be,rfl,_⟩:=T.v.h;obtain⟨a1,cv,rfl,_⟩:=T1.v.h;obtain⟨a2,cx,rfl,_⟩:=T2.v.h;obtain⟨a3,cz,rfl,_⟩:=I.v.h;obtain⟨a4,c2,rfl,_⟩:=J.v.h;simp only[kb,AAK,Jk,YD,YE,YF,atZ,at0,Ex.row_eq c.w,oy,show((10:Nat):Int)=10 from rfl,show((13:Nat):Int)=13 from rfl,show((15:Nat):Int)=15 from rfl,show((16:Nat):Int)=16 from rfl,show((18:Nat):Int)=18 from rfl]at f0 f f1 f2 f3 f4 f5 g1 g2 g3 g4 g5 g6 g7;have b6:k8 10 [iG ju,iG o7]=gz:=rfl;have b7:k8 13 [gz,gz]=k9:=rfl;rw[b6]at g6;rw[b7]at g7;have ro:∀v:Vl,D.ag v.cells=v.d:=λ_=>rfl;rw[YD]at k1;rw[YE]at k2;rw[YF]at k3;have bu:c.row=[.s c.nm,.s c.lb,.i .i64 c.frm,.i .i64 c.to,.i .i64 c.known,.b c.off,.i .u8 c.w.op,.s c.w.name,.i .u8 c.w.v.k,.b c.w.v.f.s,c.w.v.f.x,.b c.w.v.f.t,c.w.v.f.y,.i .i64 c.w.v.i,c.w.sl,.i .u8 c.t.op,.s c.t.name,.i .u8 c.t.v.k,.b c.t.v.f.s,c.t.v.f.x,.b c.t.v.f.t,c.t.v.f.y,.i .i64 c.t.v.i,c.t.sl]:=by rw[Cl.row,Ex.row_eq,Ex.row_eq];rfl
 have cf:=λ{args H K}{a b:List D}=>iu (V:=VS) (args:=args) (H:=H) (K:=K) (f:=15) (a:=a) (b:=b) (by decide);unfold Pl.d at E⊢;have c6:(p.cls.map Cl.row)[i]! =c.row:=by rw[ab,Hy _ i (by simpa using N),Hy p.cls i N,wv]
 simp(maxSteps:=2000000)(disch:=omega)only[go_sem,simprocAttr,Jz,E,n,p.hc.n,p.hc.q,p.hc.c1,g.c1,aa,ew,er,ab.symm,bu,n1,n2,n3,k1,k2,k3,g1,g2,g3,g4,g5,g6,g7,f0,f,f1,f2,f3,f4,f5,cf,bN,U3,p.hc.under,show(NR.er 181).e=181 from rfl,s5];refine⟨⟨by omega,by omega⟩,?_⟩;have X:r5.e=2\/r5.e=181:=by
  rcases c5 with rfl|rfl;·exact .inl rfl
  exact .inr rfl
 have o1:ju.nv=⟨2,1,1,0⟩:=wJ.2;have o2:mJ.nv=⟨2,2,1,0⟩:=De.2;rcases X with X|X<;>·simp(maxSteps:=2000000)(disch:=omega)only[go_sem,simprocAttr,X];cases r with|er q=>have hf:¬q=0:=ce;have q1:r1.e=q\/r1.e=2:=j.elim (λh=>.inr (h▸rfl)) (λh=>.inl (h▸rfl));have q2:r2.e=q\/r2.e=2:=w.elim (λh=>.inr (h▸rfl)) (λh=>.inl (h▸rfl));have q3:r3.e=q\/r3.e=2:=c3.elim (λh=>.inr (h▸rfl)) (λh=>.inl (h▸rfl));have q4:r4.e=q\/r4.e=2:=z.elim (λh=>.inr (h▸rfl)) (λh=>.inl (h▸rfl));simp(maxSteps:=2000000)(disch:=omega)only[go_sem,simprocAttr,show(NR.er q).e=q from rfl,hf];refine YK q1 q2 q3 q4 ⟨_,_,_,_,_,_,_,_,_,_,_,_,_,_,_,_,_,_,_,_,_,_,_,_,_,_,_,_,_,_,_,_,_,_,_,_,_,_,_,rfl⟩ ?_;rintro s⟨z0,z1,z2,z3,z4,z5,z6,z7,z8,z9,tH,tI,tJ,tK,tL,tM,tN,tO,tP,tQ,tR,tS,tT,tU,tV,tW,tX,tY,tZ,ua,bx,bz,b0,b1,b2,b3,b4,b8,H,rfl⟩;simp(disch:=omega)only[go_sem,simprocAttr,n]|ok v=>
 have z0:(NR.ok v).e=0:=rfl;have z1:(NR.ok v).v=v:=rfl;by_cases hk:v.k=1
 ·have B:((v.k:Nat):Int)=1:=by omega
  have lz:∀s,nR (.ok v) s=s (decide (v.i=1)):=λs=>E4 hk;rw[lz]at j w c3 z;by_cases C:r1.e=2;·simp(maxSteps:=2000000)(disch:=omega)only[go_sem,simprocAttr,z0,z1,B,C,n]
  by_cases L:r2.e=2;·simp(maxSteps:=2000000)(disch:=omega)only[go_sem,simprocAttr,z0,z1,B,C,L,n]
  by_cases M:r3.e=2;·simp(maxSteps:=2000000)(disch:=omega)only[go_sem,simprocAttr,z0,z1,B,C,L,M,n]
  by_cases Y:r4.e=2;·simp(maxSteps:=2000000)(disch:=omega)only[go_sem,simprocAttr,z0,z1,B,C,L,M,Y,n]
  replace j:=j.resolve_left λh=>C (h▸rfl);replace w:=w.resolve_left λh=>L (h▸rfl);replace c3:=c3.resolve_left λh=>M (h▸rfl);replace z:=z.resolve_left λh=>Y (h▸rfl);by_cases Z:v.i=1;·rw[Rp Z]at j w c3 z;have x1:r1.e=181:=j▸rfl;have x2:r2.e=0:=w▸rfl;have w2:r2.v.i=1:=w▸rfl;have x3:r3.e=0:=c3▸rfl;have w3:r3.v=ju.nv:=c3▸rfl;have x4:r4.e=181:=z▸rfl;have s3:=λ{H K}=>(sV I.v (w3▸(Vl.nv_ok wJ.1).1) I.n).c (H:=H) (K:=K) qz rfl (by simp[I.v.pl,(Vl.nv_ok wJ.1).1.pl]) (.inl rfl);simp(maxSteps:=2000000)(disch:=omega)only[go_sem,simprocAttr,z0,z1,B,C,L,M,Y,Z,x1,x2,w2,x3,x4,n1,s3,n]
  rw[N2 Z]at j w c3 z;have x1:r1.e=0:=j▸rfl;have w1:r1.v.i=0:=j▸rfl;have cd:((r1.v.k:Nat):Int)=1:=j▸rfl;have x2:r2.e=181:=w▸rfl;have x3:r3.e=181:=c3▸rfl;have x4:r4.e=0:=z▸rfl;have w4:r4.v=mJ.nv:=z▸rfl;have s4:=λ{H K}=>(sV J.v (w4▸(Vl.nv_ok De.1).1) J.n).c (H:=H) (K:=K) qz rfl (by simp[J.v.pl,(Vl.nv_ok De.1).1.pl]) (.inl rfl);simp(maxSteps:=2000000)(disch:=omega)only[go_sem,simprocAttr,z0,z1,B,C,L,M,Y,Z,x1,w1,cd,x2,x3,x4,n2,s4,n]
 have B:¬((v.k:Nat):Int)=1:=by omega
 have lz:∀s,nR (.ok v) s=.er 185:=λs=>E1 hk;rw[lz]at j w c3 z;have q1:r1.e=185\/r1.e=2:=j.elim (λh=>.inr (h▸rfl)) (λh=>.inl (h▸rfl));have q2:r2.e=185\/r2.e=2:=w.elim (λh=>.inr (h▸rfl)) (λh=>.inl (h▸rfl));have q3:r3.e=185\/r3.e=2:=c3.elim (λh=>.inr (h▸rfl)) (λh=>.inl (h▸rfl));have q4:r4.e=185\/r4.e=2:=z.elim (λh=>.inr (h▸rfl)) (λh=>.inl (h▸rfl));simp(maxSteps:=2000000)(disch:=omega)only[go_sem,simprocAttr,z0,z1,B];refine YK q1 q2 q3 q4 ⟨_,_,_,_,_,_,_,_,_,_,_,_,_,_,_,_,_,_,_,_,_,_,_,_,_,_,_,_,_,_,_,_,_,_,_,_,_,_,_,rfl⟩ ?_;rintro s⟨z0,z1,z2,z3,z4,z5,z6,z7,z8,z9,tH,tI,tJ,tK,tL,tM,tN,tO,tP,tQ,tR,tS,tT,tU,tV,tW,tX,tY,tZ,ua,bx,bz,b0,b1,b2,b3,b4,b8,H,rfl⟩;simp(disch:=omega)only[go_sem,simprocAttr,n]
end
end Go.Proofs.YtigbdbdlkoeadaaGreatDoor.Dv
