/-
  Part of the proof.
-/
import Derived.Test.YtigbdbdlkoeadaaGreatDoorAS
set_option linter.all false
namespace Go.Proofs.YtigbdbdlkoeadaaGreatDoor.Dv
section
open Go.Dm
set_option maxRecDepth 10000
def I7{p:Pl}{l:List Fc}{x:D}(j:Sl 11 (l.map Fc.c) x)(u:p.defs.length<1000000000000000)(m:∀c∈p.cls,LX c.w/\LX c.t){d:Int}:∃b,ai VS 7 [p.d,x,.i .i64 d] (.b b)/\(b=true->nI p l d):=by
 obtain⟨r,v,b,w,y⟩:∃r,aH VS 20 [p.d,x] (·=r)/\∃b,r=.ret (.b b)/\(b=true->sU p l):=by obtain⟨n,g1,z⟩:=WA j u m;exact⟨_,⟨n,g1,rfl⟩,z⟩
 subst w;have a:=λ{H K}=>(ai.iff_q.2 v).c (H:=H) (K:=K) GG rfl (by simp[p.pl,j.pl]) (.inl rfl);suffices h:∃r,ai VS 7 [p.d,x,.i .i64 d] r/\∃b,r=.b b/\(b=true->nI p l d)by grind
 refine aH.ex (.body vF rfl ?_);unfold Pl.d at a⊢;cases b with|false=>simp[go_sem,ki,a]|true=>have g:=y rfl;have F:=g.d;have A:=g.c;have G:=g.t;have I:=g.f;obtain⟨t,B⟩:=apW A m;have f:=λ{H K}=>B.c (H:=H) (K:=K) BH rfl (by simp[p.pl]) (.inl rfl);have e:=λ{H K}=>(Il p (by omega) (by omega) (by omega)).c (H:=H) (K:=K) BI rfl (by simp[p.pl]) (.inl rfl);obtain⟨r,C,E⟩:=X8 j (by omega);have k:=λ{H K}=>C.c (H:=H) (K:=K) GH rfl (by simp[j.pl]) (.inl rfl);unfold Pl.d at f e;cases t with|false=>simp[go_sem,ki,a,f]|true=>cases o:p.bounded with|false=>rw[o]at e;simp[go_sem,ki,a,f,e]|true=>rw[o]at e;cases r with|false=>simp[go_sem,ki,a,f,e,k]|true=>
 have hr:=E rfl;by_cases q:0<=d
 · by_cases s:d<65536;·simp[go_sem,ki,a,f,e,k,q,s];exact⟨g,by grind[dW]⟩
   simp[go_sem,ki,a,f,e,k,s]
 simp[go_sem,ki,a,f,e,k,q]
end
section
open Go.Dm
set_option maxRecDepth 10000
def iE{α:Type}(l:List α)(k:Nat)(a:α):List α:=l.take k++a::l.drop k
def as3{α β:Type}{g:α->β}{l:List α}{k:Nat}{a:α}:(iE l k a).map g=iE (l.map g) k (g a):=by simp_all[iE]
def iF(k i:Nat):Nat:=if i<k then i else i+1
theorem I8{α:Type}[Inhabited α]{l:List α}{k:Nat}{a:α}(b:k<=l.length)(i:Nat):(iE l k a)[iF k i]! =l[i]!:=by grind[iE,iF]
theorem X9{α:Type}[Inhabited α]{l:List α}{k:Nat}{a:α}(b:k<=l.length):(iE l k a)[k]! =a:=by grind[iE]
theorem Ya{k:Nat}{x:Nm}:∀{m:List (Nm×Nat)},km x (m.map λq=>(q.1,iF k q.2))=(km x m).map (iF k)|[]=>rfl|(y,i)::m=>by have a:=Ya (k:=k) (x:=x) (m:=m);grind[km]
theorem Yb{k i:Nat}{x:Nm}:∀{m:List (Nm×Nat)},ja x (iF k i) (m.map λq=>(q.1,iF k q.2))=(ja x i m).map λq=>(q.1,iF k q.2)|[]=>rfl|(y,j)::m=>by have a:=Yb (k:=k) (i:=i) (x:=x) (m:=m);grind[ja]
def as4{rows:List (List D)}{r:List D}{k:Nat}(b:k<=rows.length){nm:Nm}{d a:Int}(i:Nat)(m:List (Nm×Nat)):jw (iE rows k r) nm d a (m.map λq=>(q.1,iF k q.2)) (iF k i)=(jw rows nm d a m i).map λq=>(q.1,iF k q.2):=by grind[jw,I8,Ya,km,ug,Yb]
variable{x:Nm}
def Yc{rows:List (List D)}{r:List D}{k:Nat}(f:k<=rows.length){d a:Int}(h:wY x d a r=false):∀n,dQ (iE rows k r) x d a (if n<k then n else n+1)=(dQ rows x d a n).map λq=>(q.1,iF k q.2)
 |0=>by by_cases c:k=0<;>grind[dQ,jw,X9]|n+1=>by
  have b:=Yc f h n;have hs:=as4 (r:=r) f (nm:=x) (d:=d) (a:=a) n (dQ rows x d a n);unfold iF at hs b;by_cases c:n<k
  ·rw[E4 c]at b hs;have e:dQ (iE rows k r) x d a (n+1)=(dQ rows x d a (n+1)).map λq=>(q.1,iF k q.2):=by show jw _ x d a _ n=_;rw[b];exact hs
   by_cases g:n+1<k;·rw[E4 g];exact e
   rw[E1 g];have i:n+1=k:=by omega
   show jw _ x d a _ _=_;rw[e];unfold jw;rw[i,X9 f,h];rfl
  rw[E1 c]at b hs;rw[E1 (by omega)];show jw _ x d a _ _=_;rw[b];exact hs
def nQ(k:Nat)(x:Int):Int:=if x<k then x else x+1
def Yd{k:Nat}{x:Int}:∀{l:List Int},lR (nQ k x) (l.map (nQ k))=(lR x l).map (nQ k)|[]=>rfl|y::l=>by have a:=Yd (k:=k) (x:=x) (l:=l);grind[nQ,lR]
def Ye{k:Nat}:∀{l:List Int},cV (l.map (nQ k))=(cV l).map (nQ k)|[]=>rfl|x::l=>by simp[kb,cV];rw[Ye,Yd]
def as5{rows:List (List D)}{r:List D}{k:Nat}(b:k<=rows.length){d a:Int}(h:wY x d a r=false):fJ (iE rows k r) x d a=(fJ rows x d a).map (nQ k):=by
 have e:=Yc b h rows.length;rw[E1 (by omega)]at e;unfold fJ;rw[show(iE rows k r).length=rows.length+1 by grind[iE],e,<-Ye,vn,AAi,AAi];congr 1;have c:((λq=>!kj (iE rows k r)[q.2]!)∘λq:Nm×Nat=>(q.1,iF k q.2))=λq=>!kj rows[q.2]!:=by grind[I8]
 rw[c];congr 1;grind[iF,nQ]
def Yf{α β γ:Type}{R:β->γ->Prop}{f:α->β}{g:α->γ}:∀{l:List α},(∀x∈l,R (f x) (g x))->cL R (l.map f) (l.map g)|[],_=>.nil|_::_,h=>.cons (h _ N1) (Yf λx q=>h x (M0 _ q))
def I9(b:List Cl)(c:Nm)(d a:Int):List (Nat×eK):=((fJ (b.map Cl.row) c d a).map Int.toNat).map λi=>(i,b[i]!.n)
def o6(c b:List Cl)(e:Nm)(d a:Int):Prop:=cL (λx y:Nat×eK=>x.2.when=y.2.when/\(c[x.1]!.n).thn=(b[y.1]!.n).thn) (I9 c e d a) (I9 b e d a)
def cL.trans{α β γ:Type}{R:α->β->Prop}{S:β->γ->Prop}{T:α->γ->Prop}(h:∀a b c,R a b->S b c->T a c):∀{l m n},cL R l m->cL S m n->cL T l n|_,_,_,.nil,.nil=>.nil|_,_,_,.cons g r,.cons d e=>.cons (h _ _ _ g d) (cL.trans h r e)
def o6.trans{c b e:List Cl}{d a:Int}(h:o6 c b x d a)(f:o6 b e x d a):o6 c e x d a:=cL.trans (λ_ _ _ p q=>⟨p.1.trans q.1,p.2.trans q.2⟩) h f
def o6.refl(c:List Cl)(b:Nm)(d a:Int):o6 c c b d a:=cL.refl (λ_=>⟨rfl,rfl⟩) _
def as6{cls:List Cl}{c:Cl}{k:Nat}(f:k<=cls.length){d a:Int}(h:wY x d a c.row=false):o6 (iE cls k c) cls x d a:=by
 unfold o6 I9;rw[as3,as5 (by grind) h,AAi,AAi,AAi];refine Yf λz b=>?_;have g:=(Cn rfl b).1;have e:(nQ k z).toNat=iF k z.toNat:=by grind[nQ,iF]
 grind[I8]
def C8{nm:Nm}{d a:Int}{p:Cl->Bool}(h:∀c,p c=false->wY nm d a c.row=false):∀b f:List Cl,o6 (b++f) (b++f.filter p) nm d a|b,[]=>.refl _ _ _ _|b,c::f=>by cases i:p c with|true=>have g:=C8 h (b++[c]) f;grind|false=>
 have g:=C8 h b f;rw[pb,E1 (by grind)];have e:iE (b++f) b.length c=b++c::f:=by simp[iE]
 have:=as6 (cls:=b++f) (k:=b.length) (by simp) (h c i);rw[e]at this;exact this.trans g
def as7{F:List FN}{key:Nm}{a:Int}:cZ (F.filter λf=>decide (f.known<=a)) key a=cZ F key a:=by simp_all[cZ]
def Ja{a:Int}:∀{l acc:List bV},bK a (l.filter λr=>decide (r.known<=a)) acc=bK a l acc
 |[],_=>rfl|r::l,acc=>by
  by_cases c:r.known<=a;·rw[pb,E4 (by grind)];unfold bK;simp[Ja]
  rw[pb,E1 (by grind),Ja];grind[bK]
structure C9(a:Int)(t t':Tb):Prop where
 n:t'.name=t.name
 w:t'.two=t.two
 r:t'.rows=t.rows.filter λr=>decide (r.known<=a)
inductive Da(R:Tb->Tb->Prop):Option Tb->Option Tb->Prop where|no:Da R none none|yes{t t':Tb}:R t t'->Da R (some t) (some t')
def Yg{R:Tb->Tb->Prop}(d:∀t b,R t b->b.name=t.name){T T':List Tb}(h:cL R T T'):∀m a:List (Nm×Tb),(∀k,Da R (aA k m) (aA k a))->∀k,Da R (aA k (T.foldl kR m)) (aA k (T'.foldl kR a)):=by induction h with|nil=>grind|cons g r f=>
 rename_i t b T T';refineλm a h=>f _ _ λk=>?_;have c:=h t.name;unfold kR;rw[d _ _ g];have e:(aA t.name m).isNone=(aA t.name a).isNone:=by generalize aA _ m=x at c;generalize aA _ a=y at c;cases c<;>rfl
 rw[<-e];split
 ·rw[show aA k _=if k=t.name then some t else aA k m from sf _ _ _ m,show aA k _=if k=t.name then some b else aA k a from sf _ _ _ a];split;·exact .yes g
  exact h k
 grind
def as8{p q:Pl}{l:List Fc}{a:Int}(i:q.defs=p.defs)(j:q.cls=p.cls.filter λc=>decide (c.known<=a))(m:cL (C9 a) p.tabs q.tabs)(hr:dP l=true){M:af}:kZ (p.bw l a).wd (q.bw (l.filter λf=>decide (f.known<=a)) a).wd M:=by
 refine⟨λy e=>⟨?_,?_⟩,λy e=>?_,λy e=>?_⟩;·show aA _ (jn _)=aA _ (jn _);rw[i]
 ·have:=C8 (p:=λc=>decide (c.known<=a)) (λc h=>by show(c.nm==y.1&&decide (c.frm<=y.2)&&decide (y.2<c.to)&&decide (c.known<=a))=false;grind) [] p.cls;rw[bN,bN,<-j]at this;exact this
 ·have b:cZ ((l.filter λf=>decide (f.known<=a)).map Fc.n) y.1 a=cZ (l.map Fc.n) y.1 a:=by rw[show(l.filter λf=>decide _).map Fc.n=(l.map Fc.n).filter λf=>decide (f.known<=a)by rw[vn];rfl,as7]
  refine⟨_,_,rfl,rfl,?_,?_,?_,λd o s=>?_⟩;·rw[kT];exact(qO hr _ _).1
  ·rw[kT,b];exact(qO hr _ _).1
  ·rw[kT,kT,b]
  rw[kT,kT,b]
 show(aA y (jo _)).map _=(aA y (jo _)).map _;have:=Yg (λ_ _ g=>g.n) m [] [] (λk=>.no) y;unfold jo;generalize aA y _=u at this;generalize aA y _=v at this;cases this with|no=>rfl|yes h=>rename_i t n;show some (t.two,bK a _ [])=some (n.two,bK a _ []);rw[h.w,h.r,show(t.rows.filter λr=>decide _).map Rw.n=(t.rows.map Rw.n).filter λr=>decide (r.known<=a)by rw[vn];rfl,Ja]
end
section
open Go.Dm
set_option maxRecDepth 10000
def Yh{l:List Fc}(p:Fc->Bool)(hr:dP l=true):dP (l.filter p)=true:=by
 have c:=vT hr;have i:gX l []=true:=by unfold dP at hr;simp only[D0]at hr;exact hr.2
 have j:l.length<=2000:=by unfold dP at hr;simp only[D0,Hq]at hr;exact hr.1.1
 have d:∀f∈l,f.gone=true->f.v.k=0:=λf a b=>by have:=c f a;unfold Fc.right at this;simp only[b,D0,if_true]at this;have:=this.2;unfold Vl.eq at this;simp only[D0,Hq]at this;exact this.1.1
 have m:∀f∈l,f.gone=false->f.v.k≠0:=λf a b=>by have:=c f a;unfold Fc.right at this;simp only[b,D0]at this;have:=this.2;intro n;simp[Vl.valid,n]at this
 have hs:∀f∈l.filter p,f∈l:=λf a=>(qo.1 a).1;unfold dP;simp only[D0,Hq,TB];refine⟨⟨dG (n4 _ _) j,λf a=>c f (hs f a)⟩,X7 (P:=[]) (λkey h=>absurd rfl h) (λf a=>d f (hs f a)) λf a g b=>.inl λo q r=>?_⟩;obtain⟨k,_,e⟩:=IA (key:=g.key) i d m;rw[e f (hs f a) o q,e g (hs g b) rfl r]
def Db(r s:Rw):Prop:=r.a<s.a\/(r.a=s.a/\(r.b<s.b\/(r.b=s.b/\r.known<=s.known)))
def Yi(r s:Rw):(!decide (ny s r<0))=true↔Db r s:=by simp only[k7,vy];unfold ny iX Db;grind
def Yj{α:Type}{p:α->α->Bool}{R:α->α->Prop}(c:∀r s,R r s->p r s=true):∀{l:List α},l.Pairwise R->mw p l=true|[],_=>rfl|[_],_=>rfl|a::b::l,h=>by obtain⟨d,e⟩:=hM.1 h;show(p a b&&mw p (b::l))=true;rw[c a b (d b N1),Yj c e];rfl
def as9{l m:List Rw}(b:m.Sublist l)(h:nz l=true):nz m=true:=by have a:l.Pairwise Db:=Cd (λr s h=>(Yi r s).1 h) (λr s u a c=>by unfold Db at*;omega) h;exact Yj (λr s h=>(Yi r s).2 h) (a.sublist b)
structure Jb(t t':Tb):Prop where
 n:t'.name=t.name
 w:t'.two=t.two
 s:t'.rows.Sublist t.rows
def ata{t b:Tb}(h:Jb t b)(a:t.v=true):b.v=true:=by unfold Tb.v at a⊢;simp only[D0,Hq,TB]at a⊢;rw[h.n,h.w];exact⟨⟨⟨a.1.1.1,a.1.1.2.1,dG h.s.length_le a.1.1.2.2⟩,as9 h.s a.1.2⟩,λr hr=>a.2 r (h.s.subset hr)⟩
theorem cL.len{α β:Type}{R:α->β->Prop}{l:List α}{m:List β}(h:cL R l m):m.length=l.length:=by induction h with|nil=>rfl|cons _ _ a=>simp[a]
def cL.mem{α β:Type}{R:α->β->Prop}{l:List α}{m:List β}(h:cL R l m):∀b∈m,∃a∈l,R a b:=by induction h with|nil=>intro b c;cases c|cons g _ d=>
 intro b c;rcases S2.1 c with rfl|c;·exact⟨_,N1,g⟩
 obtain⟨a,e,f⟩:=d b c;exact⟨a,M0 _ e,f⟩
def Yk{p q:Pl}{l:List Fc}{d:Int}{k:Cl->Bool}(m:Fc->Bool)(b:q.defs=p.defs)(e:q.cls=p.cls.filter k)(f:cL Jb p.tabs q.tabs)(h:nI p l d):nI q (l.filter m) d:=by
 obtain⟨⟨g,x,y,i⟩,a⟩:=h;have z:q.cls.length<=p.cls.length:=by rw[e];exact n4 _ _
 have A:=f.len;refine⟨⟨by rw[b];exact g,by omega,by omega,dG (n4 _ _) i⟩,?_⟩;unfold dW Pl.bounded at a⊢;simp only[D0,Hq,TB]at a⊢;obtain⟨⟨j,⟨n,o⟩,r⟩,s⟩:=a;refine⟨⟨j,⟨⟨by rw[b];exact n.1,by omega,by omega⟩,λc h=>?_⟩,λt h=>?_⟩,Yh _ s⟩;·rw[e]at h;exact o c (qo.1 h).1
 obtain⟨u,v,w⟩:=f.mem t h;exact ata w (r u v)
def atb{p q:Pl}{l:List Fc}{a d:Int}(b:q.defs=p.defs)(e:q.cls=p.cls.filter λc=>decide (c.known<=a))(i:cL (C9 a) p.tabs q.tabs)(h:nI p l d):nI q (l.filter λf=>decide (f.known<=a)) d:=Yk _ b e (i.imp λ_ _ g=>⟨g.n,g.w,by rw[g.r];exact List.filter_sublist⟩) h
end
section
open Go.Dm
set_option maxRecDepth 10000
def Cl.pl(c:Cl):(D.ag c.row).plain=true:=by simp[Cl.row,Ex.row_eq,bO,lH,jj,cg,c.w.hsl.flat,c.t.hsl.flat,c.w.v.f.hx.flat,c.w.v.f.hy.flat,c.t.v.f.hx.flat,c.t.v.f.hy.flat]
def atc{H b:ab}{x:D}{w bytes:Nat}{r a:List D}(h:aW 11 H r=some (a,b))(c:∀d∈a,d.flat=true):bY H x (.sv w [r]) w bytes true=bY b x (.sv w [a]) w bytes true:=by
 have e:iL H [r]=some ([a],b):=by show io 12 H [r]=_;grind[uM,rO]
 grind[iL,oE,bY,fM]
def cL.snoc{α β:Type}{R:α->β->Prop}{l:List α}{m:List β}{a:α}{b:β}(h:cL R l m)(g:R a b):cL R (l++[a]) (m++[b]):=by induction h with|nil=>exact .cons g .nil|cons q _ c=>exact .cons q c
def LR.fz{w:Nat}{x:D}{rows:List (List D)}{L B:List (Nat×an)}{H:ab}(h:LR w x rows L)(a:Hs H (L++B)):∃b,(∀m,Dm.bS (m+1) H x=some (cO w rows,b))/\Hs b B:=by obtain⟨b,d,f⟩:=h.im (H:=H) (λq c=>a.at_ q (T4 _ c));exact⟨b,d,⟨(a.sub (List.sublist_append_right _ _)).nd,λq c=>by
 rw[f q.1 (λg i e=>?_)];·exact a.at_ q (gA _ c)
 have:=a.nd;grind⟩⟩
def Yl{M:af}:(jp M).plain=true:=by simp[jp,bO,iB.flat]
abbrev kn(a:Int)(k:Int):Bool:=decide (k<=a)
def zm{α:Type}[Inhabited α]{q:α->Bool}{l:List α}{i:Nat}(h:i<l.length):(l.take (i+1)).filter q=if q l[i]! then(l.take i).filter q++[l[i]!]else(l.take i).filter q:=by rw[fD h,vx,Hy l i h];grind
structure KcI(p:Pl)(x:D)(nm:Nm)(d a:Int)(i:Nat)(s:St):Prop where h:∃v L H,LR 24 v (((p.cls.take i).filter λc=>kn a c.known).map Cl.row) L/\Hs H L/\∃s7 s8 s19,s=⟨[.ag [.s p.name,p.dD,p.tD,p.cD],x,.s nm,.i .i64 d,.i .i64 a,.b false,.b false,s7,s8,.u,.u,.u,.u,.u,.bx [.s p.name,p.dD,p.tD,p.cD],.bx [.s p.name,p.dD,.nil,v],.i .i64 (i:Int),.i .i64 (p.cls.length:Int),p.cD,s19,.u,.u,.u,.u,.u,.u,.u,.u,.u,.u,.u,.u,.u,.u,.u,.u,.u,.u,.u,.u],H⟩
structure KtI(p:Pl)(x:D)(nm:Nm)(d a:Int)(v:D)(L:List (Nat×an))(i:Nat)(s:St):Prop where h:∃vt Lt H T,LR 3 vt (T.map Tb.c) Lt/\cL (C9 a) (p.tabs.take i) T/\Hs H (Lt++L)/\∃s7 s8 s9 s10 s11 s16 s17 s18 s19 s23 s24 s25 s26 s27 s28,s=⟨[.ag [.s p.name,p.dD,p.tD,p.cD],x,.s nm,.i .i64 d,.i .i64 a,.b false,.b false,s7,s8,s9,s10,s11,.u,.u,.bx [.s p.name,p.dD,p.tD,p.cD],.bx [.s p.name,p.dD,vt,v],s16,s17,s18,s19,.i .i64 (i:Int),.i .i64 (p.tabs.length:Int),p.tD,s23,s24,s25,s26,s27,s28,.u,.u,.u,.u,.u,.u,.u,.u,.u,.u,.u],H⟩
structure KrI(p:Pl)(x:D)(nm:Nm)(d a:Int)(v vt s8 s16 s17 s18 s19:D)(t:Tb)(B:List (Nat×an))(i:Nat)(j:Nat)(s:St):Prop where h:∃vr Lr H,LR 7 vr (((t.rows.take j).filter λr=>kn a r.known).map Rw.c) Lr/\Hs H (Lr++B)/\∃s7 s9 s10 s11 s28,s=⟨[.ag [.s p.name,p.dD,p.tD,p.cD],x,.s nm,.i .i64 d,.i .i64 a,.b false,.b false,s7,s8,s9,s10,s11,.u,.u,.bx [.s p.name,p.dD,p.tD,p.cD],.bx [.s p.name,p.dD,vt,v],s16,s17,s18,s19,.i .i64 (i:Int),.i .i64 (p.tabs.length:Int),p.tD,.bx [.s t.name,.b t.two,t.x],.bx [.s t.name,.b t.two,vr],.i .i64 (j:Int),.i .i64 (t.rows.length:Int),t.x,s28,.u,.u,.u,.u,.u,.u,.u,.u,.u,.u,.u],H⟩
structure KfI(p:Pl)(x:D)(nm:Nm)(d a:Int)(l:List Fc)(vt v:D)(B:List (Nat×an))(i:Nat)(s:St):Prop where h:∃vf Lf H,LR 11 vf (((l.take i).filter λf=>kn a f.known).map Fc.c) Lf/\Hs H (Lf++B)/\∃s7 s8 s9 s10 s11 s12 s13 s16 s17 s18 s19 s20 s23 s24 s25 s26 s27 s28 s33,s=⟨[.ag [.s p.name,p.dD,p.tD,p.cD],x,.s nm,.i .i64 d,.i .i64 a,.b false,.b false,s7,s8,s9,s10,s11,s12,s13,.bx [.s p.name,p.dD,p.tD,p.cD],.bx [.s p.name,p.dD,vt,v],s16,s17,s18,s19,s20,.i .i64 (p.tabs.length:Int),p.tD,s23,s24,s25,s26,s27,s28,vf,.i .i64 (i:Int),.i .i64 (l.length:Int),x,s33,.u,.u,.u,.u,.u,.u],H⟩
def ath(p:Pl){l:List Fc}{x:D}(F:Sl 11 (l.map Fc.c) x)(hd:p.defs.length<1000000000000000)(Y:∀c∈p.cls,LX c.w/\LX c.t){z:Nm}{d a:Int}(ha:a<=9223372036854775807):ai VS 3 [p.d,x,.s z,.i .i64 d,.i .i64 a] (.b true):=by obtain⟨u,hu,hU⟩:=I7 F hd Y (d:=d);have Z:=λ{H K}=>hu.c (H:=H) (K:=K) vF rfl (by simp[p.pl,F.pl,aZ]) (.inl rfl);have e7:=λ{H K}=>BC (H:=H) (K:=K);refine .body fn3 rfl ?_;unfold Pl.d at Z⊢;cases u with|false=>simp[go_sem,YY,Z,e7]|true=>
 have U:=hU rfl;obtain⟨f1,f2,f3,f4⟩:=U.f;simp[go_sem,simprocAttr,YY,Z,p.hc.n];refine ak.up (KcI p x z d a) p.cls.length ⟨.nil,[],[],.nil,⟨.nil,λ_ h=>by cases h⟩,.u,.u,.u,rfl⟩ ?_;rintro i s hi⟨v,L,H,hL,g,s7,s8,ab,rfl⟩;by_cases m:i<p.cls.length
 ·have o:(i:Int)<p.cls.length:=by omega
  obtain⟨c,av⟩:∃c,c=p.cls[i]!:=⟨_,rfl⟩;have E:=zm (q:=λc=>kn a c.known) m;have ad:c.row=[.s c.nm,.s c.lb,.i .i64 c.frm,.i .i64 c.to,.i .i64 c.known,.b c.off,.i .u8 c.w.op,.s c.w.name,.i .u8 c.w.v.k,.b c.w.v.f.s,c.w.v.f.x,.b c.w.v.f.t,c.w.v.f.y,.i .i64 c.w.v.i,c.w.sl,.i .u8 c.t.op,.s c.t.name,.i .u8 c.t.v.k,.b c.t.v.f.s,c.t.v.f.x,.b c.t.v.f.t,c.t.v.f.y,.i .i64 c.t.v.i,c.t.sl]:=by simp_all[Cl.row,Ex.row_eq]
  by_cases k:c.known<=a;·obtain⟨G,I,J,n,C,N⟩:=hL.app (A:=[]) (B:=[]) (bytes:=320) (r:=c.row) (by simpa using g) (bO.symm.trans c.pl) (by grind) (by grind);rw[ad]at n;simp only[go_sem,simprocAttr,Jt,o,p.hc.q,<-av,ad,k,n];refine⟨by omega,?_⟩;simp(disch:=omega)[go_sem,C.c1,wr];refine⟨m,⟨G,J,I,?_,by grind,_,_,_,rfl⟩⟩;grind
  simp(disch:=omega)only[go_sem,simprocAttr,Jt,o,p.hc.q,<-av,ad,k,wr];refine⟨by omega,m,⟨v,L,H,?_,g,_,_,_,rfl⟩⟩;grind
 have o:¬(i:Int)<p.cls.length:=by omega
 obtain rfl:i=p.cls.length:=by omega
 rw[E2 (G1 _)]at hL;simp[go_sem,simprocAttr,Jt,p.ht.n];refine ak.up (KtI p x z d a v L) p.tabs.length ⟨.nil,[],H,[],.nil,.nil,by grind,_,_,_,_,_,_,_,_,_,_,_,_,_,_,_,rfl⟩ ?_;rintro i s hi⟨Q,Lt,H,T,hLt,hT,g,s7,s8,s9,bj,bk,a2,a3,a4,ab,bl,bm,bo,bp,bq,br,rfl⟩;have bd:=hT.len;by_cases m:i<p.tabs.length
 ·have o:(i:Int)<p.tabs.length:=by omega
  obtain⟨t,aw⟩:∃t,t=p.tabs[i]!:=⟨_,rfl⟩;simp only[go_sem,YW,o,p.ht.q,<-aw,Tb.c,t.hx.n];refine⟨by omega,ak.up (KrI p x z d a v Q s8 a2 a3 a4 ab t (Lt++L) i) t.rows.length ⟨.nil,[],H,.nil,by grind,_,_,_,_,_,rfl⟩ ?_⟩;rintro j s hj⟨vr,Lr,H,S,g,t7,t9,cc,cd,ce,rfl⟩;by_cases ae:j<t.rows.length
  ·have k:(j:Int)<t.rows.length:=by omega
   obtain⟨r,af⟩:∃r,r=t.rows[j]!:=⟨_,rfl⟩;have E:=zm (q:=λr=>kn a r.known) ae;rw[<-af]at E;have bf:((t.rows.take j).filter λr=>kn a r.known).length<=t.rows.length:=dG (n4 _ _) (by simp;omega);have hl:=t.hl;by_cases c3:r.known<=a;·obtain⟨G,I,J,n,C,N⟩:=S.app (A:=[]) (bytes:=88) (r:=r.c) (by simpa using g) (bO.symm.trans r.pl) (by simp;omega) (by simp;omega);unfold Rw.c at n;simp only[go_sem,simprocAttr,Ju,k,t.hx.q,<-af,Rw.c,c3,n];refine⟨by omega,?_⟩;simp(disch:=omega)only[go_sem,C.c1,wr];refine⟨ae,⟨G,J,I,?_,by simpa using N,_,_,_,_,_,rfl⟩⟩;rw[E,E4 (by simpa using c3),eH];exact C
   simp(disch:=omega)only[go_sem,simprocAttr,Ju,k,t.hx.q,<-af,Rw.c,c3,wr];refine⟨by omega,ae,⟨vr,Lr,H,?_,g,_,_,_,_,_,rfl⟩⟩;rw[E,E1 (by simpa using c3)];exact S
  have k:¬(j:Int)<t.rows.length:=by omega
  obtain rfl:j=t.rows.length:=by omega
  rw[E2 (G1 _)]at S;obtain⟨H1,bg,aj⟩:=S.fz g;have ef:aW 11 H [.s t.name,.b t.two,vr]=some ([.s t.name,.b t.two,cO 7 ((t.rows.filter λr=>kn a r.known).map Rw.c)],H1):=by rw[dM,ah lH];dsimp only;rw[dM,ah cg];dsimp only;rw[dM,bg];dsimp only;rw[gK]
  have az:∀e∈[D.s t.name,.b t.two,cO 7 ((t.rows.filter λr=>kn a r.known).map Rw.c)],e.flat=true:=by have:=(iB (rows:=(t.rows.filter λr=>kn a r.known).map Rw.c) (w:=7)).flat;simp[lH,cg,this]
  have ch:T.length<=18:=by rw[bd];simp;omega
  obtain⟨G,I,J,n,C,N⟩:=hLt.app (A:=[]) (bytes:=48) (by simpa using aj) (TB.2 az) (by simp;omega) (by simp;omega);rw[<-atc ef az]at n;simp(disch:=omega)only[go_sem,simprocAttr,Ju,k,n,C.c1,wr];have bh:=t.hl;refine⟨m,⟨G,J,I,T++[⟨t.name,t.two,cO 7 _,t.rows.filter λr=>kn a r.known,iB,kx (n4 _ _) bh,t.hn⟩],?_,?_,by simpa using N,_,_,_,_,_,_,_,_,_,_,_,_,_,_,_,rfl⟩⟩;·rw[eH];exact C
  rw[fD m,<-getElem!_pos _ i m,<-aw];exact hT.snoc ⟨rfl,rfl,rfl⟩
 have o:¬(i:Int)<p.tabs.length:=by omega
 obtain rfl:i=p.tabs.length:=by omega
 rw[E2 (G1 _)]at hT;simp[go_sem,YW,F.n];refine ak.up (KfI p x z d a l Q v _) l.length ⟨.nil,[],H,.nil,by simpa using g,_,_,_,_,_,_,_,_,_,_,_,_,_,_,_,_,_,_,_,rfl⟩ ?_;rintro i s hi⟨vf,Lf,H,V,g,s7,s8,s9,bj,bk,ci,cj,a2,a3,a4,ab,ck,bl,bm,bo,bp,bq,br,cl,rfl⟩;by_cases m:i<l.length
 ·have o:(i:Int)<l.length:=by omega
  obtain⟨f,am⟩:∃f,f=l[i]!:=⟨_,rfl⟩;have E:=zm (q:=λf=>kn a f.known) m;rw[<-am]at E;have bf:((l.take i).filter λf=>kn a f.known).length<=30:=dG (n4 _ _) (by simp;omega);by_cases k:f.known<=a;·obtain⟨G,I,J,n,C,N⟩:=V.app (A:=[]) (bytes:=128) (by simpa using g) f.fl (by simp;omega) (by simp;omega);unfold Fc.c at n;simp(disch:=omega)only[go_sem,simprocAttr,Jv,o,F.q,<-am,Fc.c,k,n,wr];refine⟨by omega,m,⟨G,J,I,?_,by simpa using N,_,_,_,_,_,_,_,_,_,_,_,_,_,_,_,_,_,_,_,rfl⟩⟩;rw[E,E4 (by simpa using k),eH];exact C
  simp(disch:=omega)only[go_sem,simprocAttr,Jv,o,F.q,<-am,Fc.c,k,wr];refine⟨by omega,m,⟨vf,Lf,H,?_,g,_,_,_,_,_,_,_,_,_,_,_,_,_,_,_,_,_,_,_,rfl⟩⟩;rw[E,E1 (by simpa using k)];exact V
 have o:¬(i:Int)<l.length:=by omega
 obtain rfl:i=l.length:=by omega
 rw[E2 (G1 _)]at V;simp[go_sem,Jv];obtain⟨H1,g1,aj⟩:=hLt.fz (g.perm (by rw[<-List.append_assoc,<-List.append_assoc];exact List.Perm.append_right _ ACQ));obtain⟨H2,g2,bu⟩:=hL.fz (B:=Lf) (aj.perm ACQ);obtain⟨H3,g3,_⟩:=V.fz (B:=[]) (by simpa using bu);obtain⟨q,W⟩:∃q:Pl,q=⟨p.name,p.defs,T,p.cls.filter λc=>kn a c.known,p.dD,cO 3 _,cO 24 _,p.hd,iB,iB⟩:=⟨_,rfl⟩;have q1:q.defs=p.defs:=by rw[W]
 have q2:q.cls=p.cls.filter λc=>kn a c.known:=by rw[W]
 have q3:cL (C9 a) p.tabs q.tabs:=by rw[W];exact hT
 have bx:Sl 11 ((l.filter λf=>kn a f.known).map Fc.c) _:=iB;have bz:∀c∈q.cls,LX c.w/\LX c.t:=λc h=>by rw[q2]at h;exact Y c (qo.1 h).1
 obtain⟨r,y,M,t1,P⟩:=y7 F (nm:=z) U Y ha;obtain⟨r',y',M',t2,X⟩:=y7 bx (nm:=z) (d:=d) (atb q1 q2 q3 U) bz ha;have hb:=U.b;unfold dW at hb;simp only[D0]at hb;obtain⟨rfl,rfl⟩:=(XU P.j (as8 (l:=l) q1 q2 q3 hb.2)).det X.j;obtain⟨y1,y2,rfl,_⟩:=P.v.h;obtain⟨y3,y4,rfl,_⟩:=X.v.h;have e2:=λ{H K}=>t1.c (H:=H) (K:=K) vG rfl (by simp[p.pl,F.pl,aZ,oF]) (.inl rfl);have ef:Dm.bS 11 H (.ag [.s p.name,p.dD,Q,v])=some (q.d,H2):=by rw[f7];dsimp;rw[dM,ah lH];dsimp only;rw[dM,ah p.hd.flat];dsimp only;rw[dM,g1];dsimp only;rw[dM,g2];dsimp only;rw[gK,W];rfl
 have e3:∀{K:CR->Prop},ac VS 9 [.ag [.s _,p.dD,Q,v],vf,.s z,.i .i64 d,.i .i64 a] H K↔K (.ret (.tu [.ag [.i .u8 r.v.k,.b _,y3,.b false,y4,.i .i64 r.v.i],jp M,.i .i64 r.e]) H3):=λ{K}=>by have ec:=eU (K:=K) vG rfl t2 (by show aW 12 _ _=_;rw[dM,ef];dsimp only;rw[dM,g3];dsimp only;rw[show aW 12 _ _=_ from mj (ds:=[.s z,.i .i64 d,.i .i64 a]) (by simp[aZ,oF])]);exact ec
 have e4:=λ{H K}=>(sV P.v X.v P.n).c (H:=H) (K:=K) qz rfl (by simp[P.v.pl,X.v.pl]) (.inl rfl);have e5:=λ{H K}=>(WG P.m).c (H:=H) (K:=K) GD rfl (by simp[Yl]) (.inl rfl);unfold Pl.d at e2;unfold jp at e2 e3 e5;simp[go_sem,e2,e3,e4,e5,e7]
end
end Go.Proofs.YtigbdbdlkoeadaaGreatDoor.Dv
