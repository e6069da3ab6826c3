/-
  Part of the proof.
-/
import Derived.Test.YtigbdbdlkoeadaaGreatDoorAS
set_option linter.all false
namespace Go.Proofs.YtigbdbdlkoeadaaGreatDoor.Dv
section
open Go.Dm
set_option maxRecDepth 10000
def I7{p:Pl}{l:List Fc}{x:D}(j:Sl 11 (l.map Fc.c) x)(u:p.defs.length<1000000000000000)(m:∀c∈p.cls,LX c.w/\LX c.t){d:Int}:∃b,ai VS 7 [p.d,x,.i .i64 d] (.b b)/\(b=true->nI p l d):=by
 obtain⟨r,v,b,w,y⟩:∃r,aH VS 20 [p.d,x] (·=r)/\∃b,r=.ret (.b b)/\(b=true->sU p l):=by obtain⟨n,g1,z⟩:=WA j u m;exact⟨_,⟨n,g1,rfl⟩,z⟩
 subst w;have a:=λ{H K}=>(ai.iff_q.2 v).c (H:=H) (K:=K) GG rfl (by simp[p.pl,j.pl]) (.inl rfl);suffices h:∃r,ai VS 7 [p.d,x,.i .i64 d] r/\∃b,r=.b b/\(b=true->nI p l d)by grind
 refine aH.ex (.body vF rfl ?_);unfold Pl.d at a⊢;cases b with|false=>simp[go_sem,ki,a]|true=>have g:=y rfl;have F:=g.d;have A:=g.c;have G:=g.t;have I:=g.f;obtain⟨t,B⟩:=apW A m;have f:=λ{H K}=>B.c (H:=H) (K:=K) BH rfl (by simp[p.pl]) (.inl rfl);have e:=λ{H K}=>(Il p (by omega) (by omega) (by omega)).c (H:=H) (K:=K) BI rfl (by simp[p.pl]) (.inl rfl);obtain⟨r,C,E⟩:=X8 j (by omega);have k:=λ{H K}=>C.c (H:=H) (K:=K) GH rfl (by simp[j.pl]) (.inl rfl);unfold Pl.d at f e;cases t with|false=>simp[go_sem,ki,a,f]|true=>cases o:p.bounded with|false=>rw[o]at e;simp[go_sem,ki,a,f,e]|true=>rw[o]at e;cases r with|false=>simp[go_sem,ki,a,f,e,k]|true=>
 have hr:=E rfl;by_cases q:0<=d
 · by_cases s:d<65536;·simp[go_sem,ki,a,f,e,k,q,s];exact⟨g,by grind[dW]⟩
   simp[go_sem,ki,a,f,e,k,s]
 simp[go_sem,ki,a,f,e,k,q]
end
section
open Go.Dm
set_option maxRecDepth 10000
def iE{α:Type}(l:List α)(k:Nat)(a:α):List α:=l.take k++a::l.drop k
def as3{α β:Type}{g:α->β}{l:List α}{k:Nat}{a:α}:(iE l k a).map g=iE (l.map g) k (g a):=by simp_all[iE]
def iF(k i:Nat):Nat:=if i<k then i else i+1
theorem I8{α:Type}[Inhabited α]{l:List α}{k:Nat}{a:α}(b:k<=l.length)(i:Nat):(iE l k a)[iF k i]! =l[i]!:=by grind[iE,iF]
theorem X9{α:Type}[Inhabited α]{l:List α}{k:Nat}{a:α}(b:k<=l.length):(iE l k a)[k]! =a:=by grind[iE]
theorem Ya{k:Nat}{x:Nm}:∀{m:List (Nm×Nat)},km x (m.map λq=>(q.1,iF k q.2))=(km x m).map (iF k)|[]=>rfl|(y,i)::m=>by have a:=Ya (k:=k) (x:=x) (m:=m);grind[km]
theorem Yb{k i:Nat}{x:Nm}:∀{m:List (Nm×Nat)},ja x (iF k i) (m.map λq=>(q.1,iF k q.2))=(ja x i m).map λq=>(q.1,iF k q.2)|[]=>rfl|(y,j)::m=>by have a:=Yb (k:=k) (i:=i) (x:=x) (m:=m);grind[ja]
def as4{rows:List (List D)}{r:List D}{k:Nat}(b:k<=rows.length){nm:Nm}{d a:Int}(i:Nat)(m:List (Nm×Nat)):jw (iE rows k r) nm d a (m.map λq=>(q.1,iF k q.2)) (iF k i)=(jw rows nm d a m i).map λq=>(q.1,iF k q.2):=by grind[jw,I8,Ya,km,ug,Yb]
variable{x:Nm}
def Yc{rows:List (List D)}{r:List D}{k:Nat}(f:k<=rows.length){d a:Int}(h:wY x d a r=false):∀n,dQ (iE rows k r) x d a (if n<k then n else n+1)=(dQ rows x d a n).map λq=>(q.1,iF k q.2)
 |0=>by by_cases c:k=0<;>grind[dQ,jw,X9]|n+1=>by
  have b:=Yc f h n;have hs:=as4 (r:=r) f (nm:=x) (d:=d) (a:=a) n (dQ rows x d a n);unfold iF at hs b;by_cases c:n<k
  ·rw[E4 c]at b hs;have e:dQ (iE rows k r) x d a (n+1)=(dQ rows x d a (n+1)).map λq=>(q.1,iF k q.2):=by show jw _ x d a _ n=_;rw[b];exact hs
   by_cases g:n+1<k;·rw[E4 g];exact e
   rw[E1 g];have i:n+1=k:=by omega
   show jw _ x d a _ _=_;rw[e];unfold jw;rw[i,X9 f,h];rfl
  rw[E1 c]at b hs;rw[E1 (by omega)];show jw _ x d a _ _=_;rw[b];exact hs
def nQ(k:Nat)(x:Int):Int:=if x<k then x else x+1
def Yd{k:Nat}{x:Int}:∀{l:List Int},lR (nQ k x) (l.map (nQ k))=(lR x l).map (nQ k)|[]=>rfl|y::l=>by have a:=Yd (k:=k) (x:=x) (l:=l);grind[nQ,lR]
def Ye{k:Nat}:∀{l:List Int},cV (l.map (nQ k))=(cV l).map (nQ k)|[]=>rfl|x::l=>by simp[kb,cV];rw[Ye,Yd]
def as5{rows:List (List D)}{r:List D}{k:Nat}(b:k<=rows.length){d a:Int}(h:wY x d a r=false):fJ (iE rows k r) x d a=(fJ rows x d a).map (nQ k):=by
 have e:=Yc b h rows.length;rw[E1 (by omega)]at e;unfold fJ;rw[show(iE rows k r).length=rows.length+1 by grind[iE],e,<-Ye,vn,AAi,AAi];congr 1;have c:((λq=>!kj (iE rows k r)[q.2]!)∘λq:Nm×Nat=>(q.1,iF k q.2))=λq=>!kj rows[q.2]!:=by grind[I8]
 rw[c];congr 1;grind[iF,nQ]
def Yf{α β γ:Type}{R:β->γ->Prop}{f:α->β}{g:α->γ}:∀{l:List α},(∀x∈l,R (f x) (g x))->cL R (l.map f) (l.map g)|[],_=>.nil|_::_,h=>.cons (h _ N1) (Yf λx q=>h x (M0 _ q))
def I9(b:List Cl)(c:Nm)(d a:Int):List (Nat×eK):=((fJ (b.map Cl.row) c d a).map Int.toNat).map λi=>(i,b[i]!.n)
def o6(c b:List Cl)(e:Nm)(d a:Int):Prop:=cL (λx y:Nat×eK=>x.2.when=y.2.when/\(c[x.1]!.n).thn=(b[y.1]!.n).thn) (I9 c e d a) (I9 b e d a)
def cL.trans{α β γ:Type}{R:α->β->Prop}{S:β->γ->Prop}{T:α->γ->Prop}(h:∀a b c,R a b->S b c->T a c):∀{l m n},cL R l m->cL S m n->cL T l n|_,_,_,.nil,.nil=>.nil|_,_,_,.cons g r,.cons d e=>.cons (h _ _ _ g d) (cL.trans h r e)
def o6.trans{c b e:List Cl}{d a:Int}(h:o6 c b x d a)(f:o6 b e x d a):o6 c e x d a:=cL.trans (λ_ _ _ p q=>⟨p.1.trans q.1,p.2.trans q.2⟩) h f
def o6.refl(c:List Cl)(b:Nm)(d a:Int):o6 c c b d a:=cL.refl (λ_=>⟨rfl,rfl⟩) _
def as6{cls:List Cl}{c:Cl}{k:Nat}(f:k<=cls.length){d a:Int}(h:wY x d a c.row=false):o6 (iE cls k c) cls x d a:=by
 unfold o6 I9;rw[as3,as5 (by grind) h,AAi,AAi,AAi];refine Yf λz b=>?_;have g:=(Cn rfl b).1;have e:(nQ k z).toNat=iF k z.toNat:=by grind[nQ,iF]
 grind[I8]
def C8{nm:Nm}{d a:Int}{p:Cl->Bool}(h:∀c,p c=false->wY nm d a c.row=false):∀b f:List Cl,o6 (b++f) (b++f.filter p) nm d a|b,[]=>.refl _ _ _ _|b,c::f=>by cases i:p c with|true=>have g:=C8 h (b++[c]) f;grind|false=>
 have g:=C8 h b f;rw[pb,E1 (by grind)];have e:iE (b++f) b.length c=b++c::f:=by simp[iE]
 have:=as6 (cls:=b++f) (k:=b.length) (by simp) (h c i);rw[e]at this;exact this.trans g
def as7{F:List FN}{key:Nm}{a:Int}:cZ (F.filter λf=>decide (f.known<=a)) key a=cZ F key a:=by simp_all[cZ]
def Ja{a:Int}:∀{l acc:List bV},bK a (l.filter λr=>decide (r.known<=a)) acc=bK a l acc
 |[],_=>rfl|r::l,acc=>by
  by_cases c:r.known<=a;·rw[pb,E4 (by grind)];unfold bK;simp[Ja]
  rw[pb,E1 (by grind),Ja];grind[bK]
structure C9(a:Int)(t t':Tb):Prop where
 n:t'.name=t.name
 w:t'.two=t.two
 r:t'.rows=t.rows.filter λr=>decide (r.known<=a)
inductive Da(R:Tb->Tb->Prop):Option Tb->Option Tb->Prop where|no:Da R none none|yes{t t':Tb}:R t t'->Da R (some t) (some t')
def Yg{R:Tb->Tb->Prop}(d:∀t b,R t b->b.name=t.name){T T':List Tb}(h:cL R T T'):∀m a:List (Nm×Tb),(∀k,Da R (aA k m) (aA k a))->∀k,Da R (aA k (T.foldl kR m)) (aA k (T'.foldl kR a)):=by induction h with|nil=>grind|cons g r f=>
 rename_i t b T T';refineλm a h=>f _ _ λk=>?_;have c:=h t.name;unfold kR;rw[d _ _ g];have e:(aA t.name m).isNone=(aA t.name a).isNone:=by generalize aA _ m=x at c;generalize aA _ a=y at c;cases c<;>rfl
 rw[<-e];split
 ·rw[show aA k _=if k=t.name then some t else aA k m from sf _ _ _ m,show aA k _=if k=t.name then some b else aA k a from sf _ _ _ a];split;·exact .yes g
  exact h k
 grind
def as8{p q:Pl}{l:List Fc}{a:Int}(i:q.defs=p.defs)(j:q.cls=p.cls.filter λc=>decide (c.known<=a))(m:cL (C9 a) p.tabs q.tabs)(hr:dP l=true){M:af}:kZ (p.bw l a).wd (q.bw (l.filter λf=>decide (f.known<=a)) a).wd M:=by
 refine⟨λy e=>⟨?_,?_⟩,λy e=>?_,λy e=>?_⟩;·show aA _ (jn _)=aA _ (jn _);rw[i]
 ·have:=C8 (p:=λc=>decide (c.known<=a)) (λc h=>by show(c.nm==y.1&&decide (c.frm<=y.2)&&decide (y.2<c.to)&&decide (c.known<=a))=false;grind) [] p.cls;rw[bN,bN,<-j]at this;exact this
 ·have b:cZ ((l.filter λf=>decide (f.known<=a)).map Fc.n) y.1 a=cZ (l.map Fc.n) y.1 a:=by rw[show(l.filter λf=>decide _).map Fc.n=(l.map Fc.n).filter λf=>decide (f.known<=a)by rw[vn];rfl,as7]
  refine⟨_,_,rfl,rfl,?_,?_,?_,λd o s=>?_⟩;·rw[kT];exact(qO hr _ _).1
  ·rw[kT,b];exact(qO hr _ _).1
  ·rw[kT,kT,b]
  rw[kT,kT,b]
 show(aA y (jo _)).map _=(aA y (jo _)).map _;have:=Yg (λ_ _ g=>g.n) m [] [] (λk=>.no) y;unfold jo;generalize aA y _=u at this;generalize aA y _=v at this;cases this with|no=>rfl|yes h=>rename_i t n;show some (t.two,bK a _ [])=some (n.two,bK a _ []);rw[h.w,h.r,show(t.rows.filter λr=>decide _).map Rw.n=(t.rows.map Rw.n).filter λr=>decide (r.known<=a)by rw[vn];rfl,Ja]
end
section
open Go.Dm
set_option maxRecDepth 10000
def Yh{l:List Fc}(p:Fc->Bool)(hr:dP l=true):dP (l.filter p)=true:=by
 have c:=vT hr;have i:gX l []=true:=by unfold dP at hr;simp only[D0]at hr;exact hr.2
 have j:l.length<=2000:=by unfold dP at hr;simp only[D0,Hq]at hr;exact hr.1.1
 have d:∀f∈l,f.gone=true->f.v.k=0:=λf a b=>by have:=c f a;unfold Fc.right at this;simp only[b,D0,if_true]at this;have:=this.2;unfold Vl.eq at this;simp only[D0,Hq]at this;exact this.1.1
 have m:∀f∈l,f.gone=false->f.v.k≠0:=λf a b=>by have:=c f a;unfold Fc.right at this;simp only[b,D0]at this;have:=this.2;intro n;simp[Vl.valid,n]at this
 have hs:∀f∈l.filter p,f∈l:=λf a=>(qo.1 a).1;unfold dP;simp only[D0,Hq,TB];refine⟨⟨dG (n4 _ _) j,λf a=>c f (hs f a)⟩,X7 (P:=[]) (λkey h=>absurd rfl h) (λf a=>d f (hs f a)) λf a g b=>.inl λo q r=>?_⟩;obtain⟨k,_,e⟩:=IA (key:=g.key) i d m;rw[e f (hs f a) o q,e g (hs g b) rfl r]
def Db(r s:Rw):Prop:=r.a<s.a\/(r.a=s.a/\(r.b<s.b\/(r.b=s.b/\r.known<=s.known)))
def Yi(r s:Rw):(!decide (ny s r<0))=true↔Db r s:=by simp only[k7,vy];unfold ny iX Db;grind
def Yj{α:Type}{p:α->α->Bool}{R:α->α->Prop}(c:∀r s,R r s->p r s=true):∀{l:List α},l.Pairwise R->mw p l=true|[],_=>rfl|[_],_=>rfl|a::b::l,h=>by obtain⟨d,e⟩:=hM.1 h;show(p a b&&mw p (b::l))=true;rw[c a b (d b N1),Yj c e];rfl
def as9{l m:List Rw}(b:m.Sublist l)(h:nz l=true):nz m=true:=by have a:l.Pairwise Db:=Cd (λr s h=>(Yi r s).1 h) (λr s u a c=>by unfold Db at*;omega) h;exact Yj (λr s h=>(Yi r s).2 h) (a.sublist b)
structure Jb(t t':Tb):Prop where
 n:t'.name=t.name
 w:t'.two=t.two
 s:t'.rows.Sublist t.rows
def ata{t b:Tb}(h:Jb t b)(a:t.v=true):b.v=true:=by unfold Tb.v at a⊢;simp only[D0,Hq,TB]at a⊢;rw[h.n,h.w];exact⟨⟨⟨a.1.1.1,a.1.1.2.1,dG h.s.length_le a.1.1.2.2⟩,as9 h.s a.1.2⟩,λr hr=>a.2 r (h.s.subset hr)⟩
theorem cL.len{α β:Type}{R:α->β->Prop}{l:List α}{m:List β}(h:cL R l m):m.length=l.length:=by induction h with|nil=>rfl|cons _ _ a=>simp[a]
def cL.mem{α β:Type}{R:α->β->Prop}{l:List α}{m:List β}(h:cL R l m):∀b∈m,∃a∈l,R a b:=by induction h with|nil=>intro b c;cases c|cons g _ d=>
 intro b c;rcases S2.1 c with rfl|c;·exact⟨_,N1,g⟩
 obtain⟨a,e,f⟩:=d b c;exact⟨a,M0 _ e,f⟩
def Yk{p q:Pl}{l:List Fc}{d:Int}{k:Cl->Bool}(m:Fc->Bool)(b:q.defs=p.defs)(e:q.cls=p.cls.filter k)(f:cL Jb p.tabs q.tabs)(h:nI p l d):nI q (l.filter m) d:=by
 obtain⟨⟨g,x,y,i⟩,a⟩:=h;have z:q.cls.length<=p.cls.length:=by rw[e];exact n4 _ _
 have A:=f.len;refine⟨⟨by rw[b];exact g,by omega,by omega,dG (n4 _ _) i⟩,?_⟩;unfold dW Pl.bounded at a⊢;simp only[D0,Hq,TB]at a⊢;obtain⟨⟨j,⟨n,o⟩,r⟩,s⟩:=a;refine⟨⟨j,⟨⟨by rw[b];exact n.1,by omega,by omega⟩,λc h=>?_⟩,λt h=>?_⟩,Yh _ s⟩;·rw[e]at h;exact o c (qo.1 h).1
 obtain⟨u,v,w⟩:=f.mem t h;exact ata w (r u v)
def atb{p q:Pl}{l:List Fc}{a d:Int}(b:q.defs=p.defs)(e:q.cls=p.cls.filter λc=>decide (c.known<=a))(i:cL (C9 a) p.tabs q.tabs)(h:nI p l d):nI q (l.filter λf=>decide (f.known<=a)) d:=Yk _ b e (i.imp λ_ _ g=>⟨g.n,g.w,by rw[g.r];exact List.filter_sublist⟩) h
end
section
open Go.Dm
set_option maxRecDepth 10000
def Cl.pl(c:Cl):(D.ag c.row).plain=true:=by simp[Cl.row,Ex.row_eq,bO,lH,jj,cg,c.w.hsl.flat,c.t.hsl.flat,c.w.v.f.hx.flat,c.w.v.f.hy.flat,c.t.v.f.hx.flat,c.t.v.f.hy.flat]
def atc{H b:ab}{x:D}{w bytes:Nat}{r a:List D}(h:aW 11 H r=some (a,b))(c:∀d∈a,d.flat=true):bY H x (.sv w [r]) w bytes true=bY b x (.sv w [a]) w bytes true:=by
 have e:iL H [r]=some ([a],b):=by show io 12 H [r]=_;grind[uM,rO]
 grind[iL,oE,bY,fM]
def cL.snoc{α β:Type}{R:α->β->Prop}{l:List α}{m:List β}{a:α}{b:β}(h:cL R l m)(g:R a b):cL R (l++[a]) (m++[b]):=by induction h with|nil=>exact .cons g .nil|cons q _ c=>exact .cons q c
def LR.fz{w:Nat}{x:D}{rows:List (List D)}{L B:List (Nat×an)}{H:ab}(h:LR w x rows L)(a:Hs H (L++B)):∃b,(∀m,Dm.bS (m+1) H x=some (cO w rows,b))/\Hs b B:=by obtain⟨b,d,f⟩:=h.im (H:=H) (λq c=>a.at_ q (T4 _ c));exact⟨b,d,⟨(a.sub (List.sublist_append_right _ _)).nd,λq c=>by
 rw[f q.1 (λg i e=>?_)];·exact a.at_ q (gA _ c)
 have:=a.nd;grind⟩⟩
def Yl{M:af}:(jp M).plain=true:=by simp[jp,bO,iB.flat]
abbrev kn(a:Int)(k:Int):Bool:=decide (k<=a)
def zm{α:Type}[Inhabited α]{q:α->Bool}{l:List α}{i:Nat}(h:i<l.length):(l.take (i+1)).filter q=if q l[i]! then(l.take i).filter q++[l[i]!]else(l.take i).filter q:=by rw[fD h,vx,Hy l i h];grind
structure KcI(p:Pl)(x:D)(nm:Nm)(d a:Int)(i:Nat)(s:St):Prop where h:∃v L H,LR 24 v (((p.cls.take i).filter λc=>kn a c.known).map Cl.row) L/\Hs H L/\∃s7 s8 s19,s=⟨[.ag [.s p.name,p.dD,p.tD,p.cD],x,.s nm,.i .i64 d,.i .i64 a,.b false,.b false,s7,s8,.u,.u,.u,.u,.u,.bx [.s p.name,p.dD,p.tD,p.cD],.bx [.s p.name,p.dD,.nil,v],.i .i64 (i:Int),.i .i64 (p.cls.length:Int),p.cD,s19,.u,.u,.u,.u,.u,.u,.u,.u,.u,.u,.u,.u,.u,.u,.u,.u,.u,.u,.u,.u],H⟩
structure KtI(p:Pl)(x:D)(nm:Nm)(d a:Int)(v:D)(L:List (Nat×an))(i:Nat)(s:St):Prop where h:∃vt Lt H T,LR 3 vt (T.map Tb.c) Lt/\cL (C9 a) (p.tabs.take i) T/\Hs H (Lt++L)/\∃s7 s8 s9 s10 s11 s16 s17 s18 s19 s23 s24 s25 s26 s27 s28,s=⟨[.ag [.s p.name,p.dD,p.tD,p.cD],x,.s nm,.i .i64 d,.i .i64 a,.b false,.b false,s7,s8,s9,s10,s11,.u,.u,.bx [.s p.name,p.dD,p.tD,p.cD],.bx [.s p.name,p.dD,vt,v],s16,s17,s18,s19,.i .i64 (i:Int),.i .i64 (p.tabs.length:Int),p.tD,s23,s24,s25,s26,s27,s28,.u,.u,.u,.u,.u,.u,.u,.u,.u,.u,.u],H⟩
structure KrI(p:Pl)(x:D)(nm:Nm)(d a:Int)(v vt s8 s16 s17 s18 s19:D)(t:Tb)(B:List (Nat×an))(i:Nat)(j:Nat)(s:St):Prop where h:∃vr Lr H,LR 7 vr (((t.rows.take j).filter λr=>kn a r.known).map Rw.c) Lr/\Hs H (Lr++B)/\∃s7 s9 s10 s11 s28,s=⟨[.ag [.s p.name,p.dD,p.tD,p.cD],x,.s nm,.i .i64 d,.i .i64 a,.b false,.b false,s7,s8,s9,s10,s11,.u,.u,.bx [.s p.name,p.dD,p.tD,p.cD],.bx [.s p.name,p.dD,vt,v],s16,s17,s18,s19,.i .i64 (i:Int),.i .i64 (p.tabs.length:Int),p.tD,.bx [.s t.name,.b t.two,t.x],.bx [.s t.name,.b t.two,vr],.i .i64 (j:Int),.i .i64 (t.rows.length:Int),t.x,s28,.u,.u,.u,.u,.u,.u,.u,.u,.u,.u,.u],H⟩
structure KfI(p:Pl)(x:D)(nm:Nm)(d a:Int)(l:List Fc)(vt v:D)(B:List (Nat×an))(i:Nat)(s:St):Prop where h:∃vf Lf H,LR 11 vf (((l.take i).filter λf=>kn a f.known).map Fc.c) Lf/\Hs H (Lf++B)/\∃s7 s8 s9 s10 s11 s12 s13 s16 s17 s18 s19 s20 s23 s24 s25 s26 s27 s28 s33,s=⟨[.ag [.s p.name,p.dD,p.tD,p.cD],x,.s nm,.i .i64 d,.i .i64 a,.b false,.b false,s7,s8,s9,s10,s11,s12,s13,.bx [.s p.name,p.dD,p.tD,p.cD],.bx [.s p.name,p.dD,vt,v],s16,s17,s18,s19,s20,.i .i64 (p.tabs.length:Int),p.tD,s23,s24,s25,s26,s27,s28,vf,.i .i64 (i:Int),.i .i64 (l.length:Int),x,s33,.u,.u,.u,.u,.u,.u],H⟩
def ath(p:Pl){l:List Fc}{x:D}(F:Sl 11 (l.map Fc.c) x)(hd:p.defs.length<1000000000000000)(Y:∀c∈p.cls,LX c.w/\LX c.t){z:Nm}{d a:Int}(ha:a<=9223372036854775807):ai VS 3 [p.d,x,.s z,.i .i64 d,.i .i64 a] (.b true):=by obtain⟨u,hu,hU⟩:=I7 F hd Y (d:=d);have Z:=λ{H K}=>hu.c (H:=H) (K:=K) vF rfl (by simp[p.pl,F.pl,aZ]) (.inl rfl);have e7:=λ{H K}=>BC (H:=H) (K:=K);refine .body fn3 rfl ?_;unfold Pl.d at Z⊢;cases u with|false=>simp[go_sem,YY,Z,e7]|true=>
 have U:=hU rfl;obtain⟨f1,f2,f3,f4⟩:=U.f;simp[go_sem,simprocAttr,YY,Z,p.hc.n];refine ak.up (KcI p x z d a) p.cls.length ⟨.nil,[],[],.nil,⟨.nil,λ_ h=>by cases h⟩,.u,.u,.u,rfl⟩ ?_;rintro i s hi⟨v,L,H,hL,g,s7,s8,ab,rfl⟩;by_cases m:i<p.cls.length
 ·have o:(i:Int)<p.cls.length:=by omega
  obtain⟨c,av⟩:∃c,c=p.cls[i]!:=⟨_,rfl⟩;have E:=zm (q:=λc=>kn a c.known) m;have ad:c.row=[.s c.nm,.s c.lb,.i .i64 c.frm,.i .i64 c.to,.i .i64 c.known,.b c.off,.i .u8 c.w.op,.s c.w.name,.i .u8 c.w.v.k,.b c.w.v.f.s,c.w.v.f.x,.b c.w.v.f.t,c.w.v.f.y,.i .i64 c.w.v.i,c.w.sl,.i .u8 c.t.op,.s c.t.name,.i .u8 c.t.v.k,.b c.t.v.f.s,c.t.v.f.x,.b c.t.v.f.t,c.t.v.f.y,.i .i64 c.t.v.i,c.t.sl]:=by simp_all[Cl.row,Ex.row_eq]
  by_cases k:c.known<=a;·obtain⟨G,I,J,n,C,N⟩:=hL.app (A:=[]) (B:=[]) (bytes:=320) (r:=c.row) (by simpa using g) (bO.symm.trans c.pl) (by grind) (by grind);rw[ad]at n;simp only[go_sem,simprocAttr,Jt,o,p.hc.q,<-av,ad,k,n];refine⟨by omega,?_⟩;simp(disch:=omega)[go_sem,C.c1,wr];refine⟨m,⟨G,J,I,?_,by grind,_,_,_,rfl⟩⟩;grind
  simp(disch:=omega)only[go_sem,simprocAttr,Jt,o,p.hc.q,<-av,ad,k,wr];refine⟨by omega,m,⟨v,L,H,?_,g,_,_,_,rfl⟩⟩;grind
 have o:¬(i:Int)<p.cls.length:=by omega
 obtain rfl:i=p.cls.length:=by omega
 rw[E2 (G1 _)]at hL;simp[go_sem,simprocAttr,Jt,p.ht.n];refine ak.up (KtI p x z d a v L) p.tabs.length ⟨.nil,[],H,[],.nil,.nil,by grind,_,_,_,_,_,_,_,_,_,_,_,_,_,_,_,rfl⟩ ?_;rintro i s hi⟨Q,Lt,H,T,hLt,hT,g,s7,s8,s9,bj,bk,a2,a3,a4,ab,bl,bm,bo,bp,bq,br,rfl⟩;have bd:=hT.len;by_cases m:i<p.tabs.length
 ·have o:(i:Int)<p.tabs.length:=by omega
  obtain⟨t,aw⟩:∃t,t=p.tabs[i]!:=⟨_,rfl⟩;simp only[go_sem,YW,o,p.ht.q,<-aw,Tb.c,t.hx.n];refine⟨by omega,ak.up (KrI p x z d a v Q s8 a2 a3 a4 ab t (Lt++L) i) t.rows.length ⟨.nil,[],H,.nil,by grind,_,_,_,_,_,rfl⟩ ?_⟩;rintro j s hj⟨vr,Lr,H,S,g,t7,t9,cc,cd,ce,rfl⟩;by_cases ae:j<t.rows.length
  ·have k:(j:Int)<t.rows.length:=by omega
   obtain⟨r,af⟩:∃r,r=t.rows[j]!:=⟨_,rfl⟩;have E:=zm (q:=λr=>kn a r.known) ae;rw[<-af]at E;have bf:((t.rows.take j).filter λr=>kn a r.known).length<=t.rows.length:=dG (n4 _ _) (by simp;omega);have hl:=t.hl;by_cases c3:r.known<=a;·obtain⟨G,I,J,n,C,N⟩:=S.app (A:=[]) (bytes:=88) (r:=r.c) (by simpa using g) (bO.symm.trans r.pl) (by simp;omega) (by simp;omega);unfold Rw.c at n;simp only[go_sem,simprocAttr,Ju,k,t.hx.q,<-af,Rw.c,c3,n];refine⟨by omega,?_⟩;simp(disch:=omega)only[go_sem,C.c1,wr];refine⟨ae,⟨G,J,I,?_,by simpa using N,_,_,_,_,_,rfl⟩⟩;rw[E,E4 (by simpa using c3),eH];exact C
   simp(disch:=omega)only[go_sem,simprocAttr,Ju,k,t.hx.q,<-af,Rw.c,c3,wr];refine⟨by omega,ae,⟨vr,Lr,H,?_,g,_,_,_,_,_,rfl⟩⟩;rw[E,E1 (by simpa using c3)];exact S
  have k:¬(j:Int)<t.rows.length:=by omega
  obtain rfl:j=t.rows.length:=by omega
  rw[E2 (G1 _)]at S;obtain⟨H1,bg,aj⟩:=S.fz g;have ef:aW 11 H [.s t.name,.b t.two,vr]=some ([.s t.name,.b t.two,cO 7 ((t.rows.filter λr=>kn a r.known).map Rw.c)],H1):=by rw[dM,ah lH];dsimp only;rw[dM,ah cg];dsimp only;rw[dM,bg];dsimp only;rw[gK]
  have az:∀e∈[D.s t.name,.b t.two,cO 7 ((t.rows.filter λr=>kn a r.known).map Rw.c)],e.flat=true:=by have:=(iB (rows:=(t.rows.filter λr=>kn a r.known).map Rw.c) (w:=7)).flat;simp[lH,cg,this]
  have ch:T.length<=18:=by rw[bd];simp;omega
  obtain⟨G,I,J,n,C,N⟩:=hLt.app (A:=[]) (bytes:=48) (by simpa using aj) (TB.2 az) (by simp;omega) (by simp;omega);rw[<-atc ef az]at n;simp(disch:=omega)only[go_sem,simprocAttr,Ju,k,n,C.c1,wr];have bh:=t.hl;refine⟨m,⟨G,J,I,T++[⟨t.name,t.two,cO 7 _,t.rows.filter λr=>kn a r.known,iB,kx (n4 _ _) bh,t.hn⟩],?_,?_,by simpa using N,_,_,_,_,_,_,_,_,_,_,_,_,_,_,_,rfl⟩⟩;·rw[eH];exact C
  rw[fD m,<-getElem!_pos _ i m,<-aw];exact hT.snoc ⟨rfl,rfl,rfl⟩
 have o:¬(i:Int)<p.tabs.length:=by omega
 obtain rfl:i=p.tabs.length:=by omega
 rw[E2 (G1 _)]at hT;simp[go_sem,YW,F.n];refine ak.up (KfI p x z d a l Q v _) l.length ⟨.nil,[],H,.nil,by simpa using g,_,_,_,_,_,_,_,_,_,_,_,_,_,_,_,_,_,_,_,rfl⟩ ?_;rintro i s hi⟨vf,Lf,H,V,g,s7,s8,s9,bj,bk,ci,cj,a2,a3,a4,ab,ck,bl,bm,bo,bp,bq,br,cl,rfl⟩;by_cases m:i<l.length
 ·have o:(i:Int)<l.length:=by omega
  obtain⟨f,am⟩:∃f,f=l[i]!:=⟨_,rfl⟩;have E:=zm (q:=λf=>kn a f.known) m;rw[<-am]at E;have bf:((l.take i).filter λf=>kn a f.known).length<=30:=dG (n4 _ _) (by simp;omega);by_cases k:f.known<=a;·obtain⟨G,I,J,n,C,N⟩:=V.app (A:=[]) (bytes:=128) (by simpa using g) f.fl (by simp;omega) (by simp;omega);unfold Fc.c at n;simp(disch:=omega)only[go_sem,simprocAttr,Jv,o,F.q,<-am,Fc.c,k,n,wr];refine⟨by omega,m,⟨G,J,I,?_,by simpa using N,_,_,_,_,_,_,_,_,_,_,_,_,_,_,_,_,_,_,_,rfl⟩⟩;rw[E,E4 (by simpa using k),eH];exact C
  simp(disch:=omega)only[go_sem,simprocAttr,Jv,o,F.q,<-am,Fc.c,k,wr];refine⟨by omega,m,⟨vf,Lf,H,?_,g,_,_,_,_,_,_,_,_,_,_,_,_,_,_,_,_,_,_,_,rfl⟩⟩;rw[E,E1 (by simpa using k)];exact V
 have o:¬(i:Int)<l.length:=by omega
 obtain rfl:i=l.length:=by omega
 rw[E2 (G1 _)]at V;simp[go_sem,Jv];obtain⟨H1,g1,aj⟩:=hLt.fz (g.perm (by rw[<-List.append_assoc,<-List.append_assoc];exact List.Perm.append_right _ ACQ));obtain⟨H2,g2,bu⟩:=hL.fz (B:=Lf) (aj.perm ACQ);obtain⟨H3,g3,_⟩:=V.fz (B:=[]) (by simpa using bu);obtain⟨q,W⟩:∃q:Pl,q=⟨p.name,p.defs,T,p.cls.filter λc=>kn a c.known,p.dD,cO 3 _,cO 24 _,p.hd,iB,iB⟩:=⟨_,rfl⟩;have q1:q.defs=p.defs:=by rw[W]
 have q2:q.cls=p.cls.filter λc=>kn a c.known:=by rw[W]
 have q3:cL (C9 a) p.tabs q.tabs:=by rw[W];exact hT
 have bx:Sl 11 ((l.filter λf=>kn a f.known).map Fc.c) _:=iB;have bz:∀c∈q.cls,LX c.w/\LX c.t:=λc h=>by rw[q2]at h;exact Y c (qo.1 h).1
 obtain⟨r,y,M,t1,P⟩:=y7 F (nm:=z) U Y ha;obtain⟨r',y',M',t2,X⟩:=y7 bx (nm:=z) (d:=d) (atb q1 q2 q3 U) bz ha;have hb:=U.b;unfold dW at hb;simp only[D0]at hb;obtain⟨rfl,rfl⟩:=(XU P.j (as8 (l:=l) q1 q2 q3 hb.2)).det X.j;obtain⟨y1,y2,rfl,_⟩:=P.v.h;obtain⟨y3,y4,rfl,_⟩:=X.v.h;have e2:=λ{H K}=>t1.c (H:=H) (K:=K) vG rfl (by simp[p.pl,F.pl,aZ,oF]) (.inl rfl);have ef:Dm.bS 11 H (.ag [.s p.name,p.dD,Q,v])=some (q.d,H2):=by rw[f7];dsimp;rw[dM,ah lH];dsimp only;rw[dM,ah p.hd.flat];dsimp only;rw[dM,g1];dsimp only;rw[dM,g2];dsimp only;rw[gK,W];rfl
 have e3:∀{K:CR->Prop},ac VS 9 [.ag [.s _,p.dD,Q,v],vf,.s z,.i .i64 d,.i .i64 a] H K↔K (.ret (.tu [.ag [.i .u8 r.v.k,.b _,y3,.b false,y4,.i .i64 r.v.i],jp M,.i .i64 r.e]) H3):=λ{K}=>by have ec:=eU (K:=K) vG rfl t2 (by show aW 12 _ _=_;rw[dM,ef];dsimp only;rw[dM,g3];dsimp only;rw[show aW 12 _ _=_ from mj (ds:=[.s z,.i .i64 d,.i .i64 a]) (by simp[aZ,oF])]);exact ec
 have e4:=λ{H K}=>(sV P.v X.v P.n).c (H:=H) (K:=K) qz rfl (by simp[P.v.pl,X.v.pl]) (.inl rfl);have e5:=λ{H K}=>(WG P.m).c (H:=H) (K:=K) GD rfl (by simp[Yl]) (.inl rfl);unfold Pl.d at e2;unfold jp at e2 e3 e5;simp[go_sem,e2,e3,e4,e5,e7]
end
section
open Go.Dm
set_option maxRecDepth 10000
def jZ(M:af)(f:FN):Bool:=M.facts.any λx=>decide (x.1=f.key/\f.frm<x.2.2/\x.2.1<f.to)
structure zn(N:List Nm)(t t':Tb):Prop where
 n:t'.name=t.name
 w:t'.two=t.two
 y:t.name∈N->t'.rows=t.rows
 z:t.name∉N->t'.rows=[]
def zn.s{N:List Nm}{t a:Tb}(h:zn N t a):Jb t a:=⟨h.n,h.w,by
 by_cases c:t.name∈N;·rw[h.y c];exact AAz _
 rw[h.z c];exact List.nil_sublist _⟩
def ati{F:List FN}{M:af}{y:Nm×Int×Int}(b:y∈M.facts){a d:Int}(h:y.2.1<=d)(i:d<y.2.2):gc (cZ F y.1 a) d=gc (cZ (F.filter (jZ M)) y.1 a) d:=by
 have:fQ (cZ F y.1 a) d=fQ (cZ (F.filter (jZ M)) y.1 a) d:=by
  unfold fQ cZ;rw[Iz,Iz,AAu,AAu,AAu];congr 2;refine ABK λf _=>?_;by_cases c:f.key=y.1
  ·by_cases e:f.frm<=d/\d<f.to;·have g:jZ M f=true:=List.any_eq_true.2 ⟨y,b,Rp ⟨c.symm,by omega,by omega⟩⟩;simp[g]
   simp[e]
  simp[c]
 unfold gc;rw[this]
def atj{p q:Pl}{l:List Fc}{a:Int}{M:af}(r:q.defs=p.defs)(s:q.cls=p.cls.filter λc=>decide (c.nm∈M.pairs.map Prod.fst))(u:cL (zn M.tabs) p.tabs q.tabs)(hr:dP l=true):kZ (p.bw l a).wd (q.bw (l.filter λf=>jZ M f.n) a).wd M:=by
 have n:=Yh (λf=>jZ M f.n) hr;refine⟨λy i=>⟨?_,?_⟩,λy i=>?_,λy i=>?_⟩;·show aA _ (jn p.defs)=aA _ (jn q.defs);rw[r]
 ·have:=C8 (p:=λc=>decide (c.nm∈M.pairs.map Prod.fst)) (nm:=y.1) (d:=y.2) (a:=a) (λc h=>by show(c.nm==y.1&&decide (c.frm<=y.2)&&decide (y.2<c.to)&&decide (c.known<=a))=false;have:¬c.nm=y.1:=λe=>ACb h (e▸od i);simp[this]) [] p.cls;rw[bN,bN,<-s]at this;exact this
 ·refine⟨_,_,rfl,rfl,?_,?_,?_,λd w x=>?_⟩;·rw[kT];exact(qO hr _ _).1
  ·rw[kT];exact(qO n _ _).1
  ·rw[kT,kT];exact(WL hr _ _).trans (WL n _ _).symm
  rw[kT,kT];rw[(qO hr _ _).2,(qO n _ _).2,show(l.filter λf=>jZ M f.n).map Fc.n=(l.map Fc.n).filter (jZ M)by rw[vn];rfl];exact ati i w x
 show(aA y (jo p.tabs)).map _=(aA y (jo q.tabs)).map _;have b:=Yg (λ_ _ g=>g.n) u [] [] (λk=>.no) y;cases j:aA y (jo p.tabs)with|none=>unfold jo at j⊢;rw[j]at b;generalize aA y (q.tabs.foldl kR [])=v at b;cases b;rfl|some t=>
 obtain⟨_,z⟩:=(Wb (l:=p.tabs) (m:=[]) (y,t) (iZ j)).resolve_left λh=>by cases h
 unfold jo at j⊢;rw[j]at b;generalize aA y (q.tabs.foldl kR [])=v at b;cases b with|yes g=>rename_i o;show some (t.two,bK a (t.rows.map Rw.n) [])=some (o.two,bK a (o.rows.map Rw.n) []);rw[g.w,g.y (by have:t.name=y:=z;rw[this];exact i)]
end
section
open Go.Dm
set_option maxRecDepth 10000
def ct(m:List (Nm×Nat))(key:Nm):Nat:=(@List.lookup Nm Nat instBEqOfDecidableEq key m).getD 0
def cE(m:List (Nm×Nat)):List (D×D):=dN (λs:Nm=>D.s s) (λn:Nat=>D.i .i64 n) m
variable{x:List (Nm×Nat)}
def wH{key:Nm}:fj (.c 2) (.s key) false (.i .i64 0) (some (.mp (cE x)))=some (.i .i64 (ct x key)):=by
 unfold cE ct;rw[sj (ek:=λs:Nm=>D.s s) uX key x false _];have:∀o:Option Nat,(Option.map (λn:Nat=>D.i .i64 (n:Int)) o).getD (.i .i64 0)=.i .i64 ((o.getD 0:Nat):Int):=λo=>by cases o<;>rfl
 grind
def Ym{key:Nm}{n:Nat}{H:ab}{i:Nat}:iS H (.c 2) i (.s key) (.i .i64 n) (some (.mp (cE x)))=some (H.set i (.mp (cE (aS key n x)))):=om (ev:=λn:Nat=>D.i .i64 n) uX i key n x
def cA(m:List (Nm×Nat))(s:Nm):List (Nm×Nat):=aS s (ct m s+1) m
def cN(L:List Nm):List (Nm×Nat):=L.foldl cA []
def atk{s k:Nm}{n:Nat}:ct (aS s n x) k=if k=s then n else ct x k:=by unfold ct;rw[sf];split<;>rfl
def Yn{k:Nm}:∀{L:List Nm}{m:List (Nm×Nat)},ct (L.foldl cA m) k=ct m k+L.countP λs=>decide (k=s)
 |[],m=>rfl|s::L,m=>by
  rw[ta,Yn,List.countP_cons];unfold cA;rw[atk];by_cases c:k=s;·subst c;simp;omega
  simp[c]
variable{y:List Nm}
def Yo{k:Nm}:ct (cN y) k=y.countP λs=>decide (k=s):=by unfold cN;rw[Yn];simp[ct]
def Yp{k:Nm}{L:List Nm}:ct (cN L) k<=L.length:=by rw[Yo];exact List.countP_le_length
def Dc{k:Nm}:(0:Int)<(ct (cN y) k:Int)↔k∈y:=by
 rw[Yo];have:0<y.countP (λs=>decide (k=s))↔k∈y:=by rw[List.countP_pos_iff];exact⟨λ⟨s,h,e⟩=>by have:=hO e;exact this▸h,λh=>⟨k,h,Rp rfl⟩⟩
 rw[<-this];omega
def Yq{s:Nm}:cN (y++[s])=aS s (ct (cN y) s+1) (cN y):=by unfold cN;rw[AAx];rfl
def mE(M:af):List (Nat×an):=[(0,.mp (cE (cN (M.pairs.map Prod.fst)))),(1,.mp (cE (cN M.tabs)))]
structure RaI(p:Pl)(x:D)(nm:Nm)(d a e:Int)(R1 R2 R3:D)(V:List D)(M:af)(i:Nat)(s:St):Prop where h:∃j6 j7 j8 j9 j10 j11 j12 j13 j14 j15 j16 j23 j24 j25 j26 j28 j29 j30 j31 j32 j33 j34 j35 j36 j37 j38 j39 j40 j41 j42 j43 j44 j45 j46 j47 j49 j51 j52,s=⟨[.ag [.s p.name,p.dD,p.tD,p.cD],x,.s nm,.i .i64 d,.i .i64 a,.b false,j6,j7,j8,j9,j10,j11,j12,j13,j14,j15,j16,.bx [.s p.name,p.dD,p.tD,p.cD],.bx [R1,R2,R3],.i .i64 (i:Int),.i .i64 (M.pairs.length:Int),R1,.mp 0,j23,j24,j25,j26,.mp 1,j28,j29,j30,j31,j32,j33,j34,j35,j36,j37,j38,j39,j40,j41,j42,j43,j44,j45,j46,j47,.i .i64 e,j49,.bx V,j51,j52],[.mp (cE (cN ((M.pairs.take i).map Prod.fst))),.mp (cE [])]⟩
structure RbI(p:Pl)(x:D)(nm:Nm)(d a e:Int)(R1 R2 R3:D)(V:List D)(M:af)(i:Nat)(s:St):Prop where h:∃j6 j7 j8 j9 j10 j11 j12 j13 j14 j15 j16 j19 j20 j21 j23 j28 j29 j30 j31 j32 j33 j34 j35 j36 j37 j38 j39 j40 j41 j42 j43 j44 j45 j46 j47 j49 j51 j52,s=⟨[.ag [.s p.name,p.dD,p.tD,p.cD],x,.s nm,.i .i64 d,.i .i64 a,.b false,j6,j7,j8,j9,j10,j11,j12,j13,j14,j15,j16,.bx [.s p.name,p.dD,p.tD,p.cD],.bx [R1,R2,R3],j19,j20,j21,.mp 0,j23,.i .i64 (i:Int),.i .i64 (M.tabs.length:Int),R3,.mp 1,j28,j29,j30,j31,j32,j33,j34,j35,j36,j37,j38,j39,j40,j41,j42,j43,j44,j45,j46,j47,.i .i64 e,j49,.bx V,j51,j52],[.mp (cE (cN (M.pairs.map Prod.fst))),.mp (cE (cN (M.tabs.take i)))]⟩
structure RcI(p:Pl)(x:D)(nm:Nm)(d a e:Int)(R1 R2 R3:D)(V:List D)(M:af)(i:Nat)(s:St):Prop where h:∃v L H,LR 24 v (((p.cls.take i).filter λc=>decide (c.nm∈M.pairs.map Prod.fst)).map Cl.row) L/\Hs H (L++mE M)/\∃j6 j7 j8 j9 j10 j11 j12 j13 j14 j15 j16 j19 j20 j21 j23 j24 j25 j26 j28 j33 j34 j35 j36 j37 j38 j39 j40 j41 j42 j43 j44 j45 j46 j47 j49 j51 j52,s=⟨[.ag [.s p.name,p.dD,p.tD,p.cD],x,.s nm,.i .i64 d,.i .i64 a,.b false,j6,j7,j8,j9,j10,j11,j12,j13,j14,j15,j16,.bx [.s p.name,p.dD,p.tD,p.cD],.bx [R1,R2,R3],j19,j20,j21,.mp 0,j23,j24,j25,j26,.mp 1,j28,.bx [.s p.name,p.dD,.nil,v],.i .i64 (i:Int),.i .i64 (p.cls.length:Int),p.cD,j33,j34,j35,j36,j37,j38,j39,j40,j41,j42,j43,j44,j45,j46,j47,.i .i64 e,j49,.bx V,j51,j52],H⟩
structure RtI(p:Pl)(x:D)(nm:Nm)(d a e:Int)(R1 R2 R3:D)(V:List D)(M:af)(v:D)(L:List (Nat×an))(i:Nat)(s:St):Prop where h:∃vt Lt H T,LR 3 vt (T.map Tb.c) Lt/\cL (zn M.tabs) (p.tabs.take i) T/\Hs H (Lt++(L++mE M))/\∃j6 j7 j8 j9 j10 j11 j12 j13 j14 j15 j16 j19 j20 j21 j23 j24 j25 j26 j28 j30 j31 j32 j33 j37 j38 j39 j40 j41 j42 j43 j44 j45 j46 j47 j49 j51 j52,s=⟨[.ag [.s p.name,p.dD,p.tD,p.cD],x,.s nm,.i .i64 d,.i .i64 a,.b false,j6,j7,j8,j9,j10,j11,j12,j13,j14,j15,j16,.bx [.s p.name,p.dD,p.tD,p.cD],.bx [R1,R2,R3],j19,j20,j21,.mp 0,j23,j24,j25,j26,.mp 1,j28,.bx [.s p.name,p.dD,vt,v],j30,j31,j32,j33,.i .i64 (i:Int),.i .i64 (p.tabs.length:Int),p.tD,j37,j38,j39,j40,j41,j42,j43,j44,j45,j46,j47,.i .i64 e,j49,.bx V,j51,j52],H⟩
structure RfI(p:Pl)(x:D)(nm:Nm)(d a e:Int)(R1 R2 R3:D)(V:List D)(M:af)(l:List Fc)(v vt:D)(B:List (Nat×an))(i:Nat)(s:St):Prop where h:∃vf Lf H,LR 11 vf (((l.take i).filter λf=>jZ M f.n).map Fc.c) Lf/\Hs H (Lf++B)/\∃j6 j7 j8 j9 j10 j11 j12 j13 j14 j15 j16 j19 j20 j21 j22 j23 j24 j25 j26 j27 j28 j30 j31 j32 j33 j34 j35 j36 j37 j42 j43 j44 j45 j46 j47 j49 j51 j52,s=⟨[.ag [.s p.name,p.dD,p.tD,p.cD],x,.s nm,.i .i64 d,.i .i64 a,.b false,j6,j7,j8,j9,j10,j11,j12,j13,j14,j15,j16,.bx [.s p.name,p.dD,p.tD,p.cD],.bx [R1,R2,R3],j19,j20,j21,j22,j23,j24,j25,j26,j27,j28,.bx [.s p.name,p.dD,vt,v],j30,j31,j32,j33,j34,j35,j36,j37,vf,.i .i64 (i:Int),.i .i64 (l.length:Int),x,j42,j43,j44,j45,j46,j47,.i .i64 e,j49,.bx V,j51,j52],H⟩
structure RmI(p:Pl)(x:D)(nm:Nm)(d a e:Int)(R1 R2 R3:D)(V:List D)(M:af)(l:List Fc)(v vt vf:D)(f:Fc)(k:Nat)(H:ab)(i:Nat)(s:St):Prop where h:∃b,b=((M.facts.take i).any λy=>decide (y.1=f.key/\f.frm<y.2.2/\y.2.1<f.to))/\∃j6 j7 j8 j9 j10 j11 j12 j13 j14 j15 j16 j19 j20 j21 j22 j23 j24 j25 j26 j27 j28 j30 j31 j32 j33 j34 j35 j36 j37 j46 j49 j51 j52,s=⟨[.ag [.s p.name,p.dD,p.tD,p.cD],x,.s nm,.i .i64 d,.i .i64 a,.b false,j6,j7,j8,j9,j10,j11,j12,j13,j14,j15,j16,.bx [.s p.name,p.dD,p.tD,p.cD],.bx [R1,R2,R3],j19,j20,j21,j22,j23,j24,j25,j26,j27,j28,.bx [.s p.name,p.dD,vt,v],j30,j31,j32,j33,j34,j35,j36,j37,vf,.i .i64 (k:Int),.i .i64 (l.length:Int),x,.b b,.i .i64 (i:Int),.i .i64 (M.facts.length:Int),R2,j46,.bx f.c,.i .i64 e,j49,.bx V,j51,j52],H⟩
def atr(p:Pl){l:List Fc}{x:D}(hx:Sl 11 (l.map Fc.c) x)(hd:p.defs.length<1000000000000000)(hc:∀c∈p.cls,LX c.w/\LX c.t){w:Nm}{d a:Int}(ha:a<=9223372036854775807):ai VS 4 [p.d,x,.s w,.i .i64 d,.i .i64 a] (.b true):=by obtain⟨u,hu,hU⟩:=I7 hx hd hc (d:=d);have e1:=λ{H K}=>hu.c (H:=H) (K:=K) vF rfl (by simp[p.pl,hx.pl,aZ]) (.inl rfl);have e7:=λ{H K}=>BC (H:=H) (K:=K);refine .body (vf:=v4) fn4 rfl ?_;unfold Pl.d at e1⊢;cases u with|false=>simp(disch:=omega)only[go_sem,simprocAttr,Y8,e1,e7]|true=>
 have U:=hU rfl;obtain⟨f1,f2,f3,f4⟩:=U.f;obtain⟨r,y,M,t1,I⟩:=y7 hx (nm:=w) (d:=d) (known:=a) U hc ha;obtain⟨y1,y2,hy,_⟩:=I.v.h;have e2:=λ{H K}=>t1.c (H:=H) (K:=K) vG rfl (by simp[p.pl,hx.pl,aZ,oF]) (.inl rfl);unfold Pl.d at e2;unfold jp at e2;have s1:Sl 2 (M.pairs.map i5) _:=iB;have s2:Sl 3 (M.facts.map iA) _:=iB;have s3:Sl 1 (M.tabs.map nC) _:=iB;have dz:=I.m.p;have d0:=I.m.f;have d3:=I.m.t;obtain⟨R1,br⟩:∃R,R=cO 2 (M.pairs.map i5):=⟨_,rfl⟩;obtain⟨R2,bs⟩:∃R,R=cO 3 (M.facts.map iA):=⟨_,rfl⟩;obtain⟨R3,bt⟩:∃R,R=cO 1 (M.tabs.map nC):=⟨_,rfl⟩;rw[<-br,<-bs,<-bt]at e2;rw[<-br]at s1;rw[<-bs]at s2;rw[<-bt]at s3;rw[hy]at e2;simp(disch:=omega)only[go_sem,simprocAttr,Y8,e1,e2,s1.n];obtain⟨V,hV⟩:∃V,V=[.i .u8 r.v.k,.b (decide (r.v.n<0)),y1,.b false,y2,.i .i64 r.v.i]:=⟨_,rfl⟩;obtain⟨e,he⟩:∃e,e=r.e:=⟨_,rfl⟩;rw[<-hV,<-he];have J:=U.b;unfold dW at J;simp only[D0]at J;refine ak.up (RaI p x w d a e R1 R2 R3 V M) M.pairs.length ⟨_,_,_,_,_,_,_,_,_,_,_,_,_,_,_,_,_,_,_,_,_,_,_,_,_,_,_,_,_,_,_,_,_,_,_,_,_,_,rfl⟩ ?_;rintro i s hi⟨j6,j7,j8,j9,ax,ay,az,a0,a1,a2,a3,a4,bv,bw,bx,a5,c6,bz,b0,b1,a6,b2,b3,b4,a7,b5,b6,b7,b8,a8,a9,ba,bb,bc,bd,be,bf,bg,rfl⟩;by_cases m:i<M.pairs.length
 ·have j:(i:Int)<(M.pairs.length:Int):=by omega
  obtain⟨z,E⟩:∃z,z=M.pairs[i]!:=⟨_,rfl⟩;have ht:(M.pairs.take (i+1)).map Prod.fst=(M.pairs.take i).map Prod.fst++[z.1]:=by rw[fD m,eH,<-getElem!_pos M.pairs i m,<-E];rfl
  obtain⟨N,P⟩:∃N,N=(M.pairs.take i).map Prod.fst:=⟨_,rfl⟩;rw[<-P]at ht;rw[<-P];have c7:=Yp (k:=z.1) (L:=N);have c8:N.length<=M.pairs.length:=by rw[P];simp;omega
  have hm:iS [.mp (cE (cN N)),.mp (cE [])] (.c 2) 0 (.s z.1) (.i .i64 ((ct (cN N) z.1:Int)+1)) (some (.mp (cE (cN N))))=some [.mp (cE (cN (N++[z.1]))),.mp (cE [])]:=by rw[Yq];exact Ym (n:=ct (cN N) z.1+1) (i:=0)
  simp(disch:=omega)only[go_sem,simprocAttr,Y0,j,s1.q,<-E,i5,wH,wr,hm];rw[<-ht];exact⟨by omega,m,⟨_,_,_,_,_,_,_,_,_,_,_,_,_,_,_,_,_,_,_,_,_,_,_,_,_,_,_,_,_,_,_,_,_,_,_,_,_,_,rfl⟩⟩
 have j:¬(i:Int)<(M.pairs.length:Int):=by omega
 obtain rfl:i=M.pairs.length:=by omega
 rw[E2 (G1 _)];simp(disch:=omega)only[go_sem,simprocAttr,Y0,j,s3.n];refine ak.up (RbI p x w d a e R1 R2 R3 V M) M.tabs.length ⟨_,_,_,_,_,_,_,_,_,_,_,_,_,_,_,_,_,_,_,_,_,_,_,_,_,_,_,_,_,_,_,_,_,_,_,_,_,_,rfl⟩ ?_;rintro i s hi⟨j6,j7,j8,j9,ax,ay,az,a0,a1,a2,a3,ca,cb,cc,a4,a5,c6,bz,b0,b1,a6,b2,b3,b4,a7,b5,b6,b7,b8,a8,a9,ba,bb,bc,bd,be,bf,bg,rfl⟩;by_cases m:i<M.tabs.length
 ·have j:(i:Int)<(M.tabs.length:Int):=by omega
  obtain⟨z,E⟩:∃z,z=M.tabs[i]!:=⟨_,rfl⟩;have ht:M.tabs.take (i+1)=M.tabs.take i++[z]:=by rw[fD m,<-getElem!_pos M.tabs i m,<-E]
  obtain⟨N,P⟩:∃N,N=M.tabs.take i:=⟨_,rfl⟩;rw[<-P]at ht;rw[<-P];have c7:=Yp (k:=z) (L:=N);have c8:N.length<=M.tabs.length:=by rw[P];simp;omega
  have hm:iS [.mp (cE (cN (M.pairs.map Prod.fst))),.mp (cE (cN N))] (.c 2) 1 (.s z) (.i .i64 ((ct (cN N) z:Int)+1)) (some (.mp (cE (cN N))))=some [.mp (cE (cN (M.pairs.map Prod.fst))),.mp (cE (cN (N++[z])))]:=by rw[Yq];exact Ym (n:=ct (cN N) z+1) (i:=1)
  simp(disch:=omega)only[go_sem,simprocAttr,Y2,j,s3.q,<-E,nC,wH,wr,hm];rw[<-ht];exact⟨by omega,m,⟨_,_,_,_,_,_,_,_,_,_,_,_,_,_,_,_,_,_,_,_,_,_,_,_,_,_,_,_,_,_,_,_,_,_,_,_,_,_,rfl⟩⟩
 have j:¬(i:Int)<(M.tabs.length:Int):=by omega
 obtain rfl:i=M.tabs.length:=by omega
 rw[E2 (G1 _)];simp(disch:=omega)only[go_sem,simprocAttr,Y2,j,p.hc.n];have da:Hs [.mp (cE (cN (M.pairs.map Prod.fst))),.mp (cE (cN M.tabs))] (mE M):=⟨by simp[mE],λq Q=>by simp only[mE,S2,AAE,or_false]at Q;rcases Q with rfl|rfl<;>rfl⟩;refine ak.up (RcI p x w d a e R1 R2 R3 V M) p.cls.length ⟨.nil,[],_,.nil,by simpa using da,_,_,_,_,_,_,_,_,_,_,_,_,_,_,_,_,_,_,_,_,_,_,_,_,_,_,_,_,_,_,_,_,_,_,_,_,_,rfl⟩ ?_;rintro i s hi⟨v,L,H,hL,C,j6,j7,j8,j9,ax,ay,az,a0,a1,a2,a3,ca,cb,cc,a4,bv,bw,bx,a5,a6,b2,b3,b4,a7,b5,b6,b7,b8,a8,a9,ba,bb,bc,bd,be,bf,bg,rfl⟩;have h0:H[0]?=some (.mp (cE (cN (M.pairs.map Prod.fst)))):=C.at_ (0,_) (by simp[mE]);by_cases m:i<p.cls.length
 ·have j:(i:Int)<(p.cls.length:Int):=by omega
  obtain⟨c,cd⟩:∃c,c=p.cls[i]!:=⟨_,rfl⟩;have S:=zm (q:=λc:Cl=>decide (c.nm∈M.pairs.map Prod.fst)) m;rw[<-cd]at S;have db:((p.cls.take i).filter λc=>decide (c.nm∈M.pairs.map Prod.fst)).length<=16:=dG (n4 _ _) (by simp;omega);have ce:c.row=[.s c.nm,.s c.lb,.i .i64 c.frm,.i .i64 c.to,.i .i64 c.known,.b c.off,.i .u8 c.w.op,.s c.w.name,.i .u8 c.w.v.k,.b c.w.v.f.s,c.w.v.f.x,.b c.w.v.f.t,c.w.v.f.y,.i .i64 c.w.v.i,c.w.sl,.i .u8 c.t.op,.s c.t.name,.i .u8 c.t.v.k,.b c.t.v.f.s,c.t.v.f.x,.b c.t.v.f.t,c.t.v.f.y,.i .i64 c.t.v.i,c.t.sl]:=by rw[Cl.row,Ex.row_eq,Ex.row_eq];rfl
  by_cases o:c.nm∈M.pairs.map Prod.fst;·have c3:(0:Int)<((ct (cN (M.pairs.map Prod.fst)) c.nm:Nat):Int):=Dc.2 o;obtain⟨W,X,Y,F,G,Z⟩:=hL.app (A:=[]) (B:=mE M) (bytes:=320) (r:=c.row) (by simpa using C) (bO.symm.trans c.pl) (by simp;omega) (by simp;omega);rw[ce]at F;simp(disch:=omega)only[go_sem,simprocAttr,Jw,j,p.hc.q,<-cd,ce,h0,wH,hL.c1,F,G.c1,wr];refine⟨by omega,λ_=>?_,λh=>absurd c3 h⟩;refine⟨m,⟨W,Y,X,?_,by simpa using Z,_,_,_,_,_,_,_,_,_,_,_,_,_,_,_,_,_,_,_,_,_,_,_,_,_,_,_,_,_,_,_,_,_,_,_,_,_,rfl⟩⟩;rw[S,E4 (by simpa using o),eH];exact G
  have c3:¬(0:Int)<((ct (cN (M.pairs.map Prod.fst)) c.nm:Nat):Int):=λh=>o (Dc.1 h);simp(disch:=omega)only[go_sem,simprocAttr,Jw,j,p.hc.q,<-cd,ce,h0,wH,wr];refine⟨by omega,λh=>absurd h c3,λ_=>⟨m,⟨v,L,H,?_,C,_,_,_,_,_,_,_,_,_,_,_,_,_,_,_,_,_,_,_,_,_,_,_,_,_,_,_,_,_,_,_,_,_,_,_,_,_,rfl⟩⟩⟩;rw[S,E1 (by simpa using o)];exact hL
 have j:¬(i:Int)<(p.cls.length:Int):=by omega
 obtain rfl:i=p.cls.length:=by omega
 rw[E2 (G1 _)]at hL;simp(disch:=omega)only[go_sem,simprocAttr,Jw,j,p.ht.n];refine ak.up (RtI p x w d a e R1 R2 R3 V M v L) p.tabs.length ⟨.nil,[],H,[],.nil,.nil,by simpa using C,_,_,_,_,_,_,_,_,_,_,_,_,_,_,_,_,_,_,_,_,_,_,_,_,_,_,_,_,_,_,_,_,_,_,_,_,_,rfl⟩ ?_;rintro i s hi⟨vt,Lt,H,T,hLt,hT,C,j6,j7,j8,j9,ax,ay,az,a0,a1,a2,a3,ca,cb,cc,a4,bv,bw,bx,a5,bz,b0,b1,a6,a7,b5,b6,b7,b8,a8,a9,ba,bb,bc,bd,be,bf,bg,rfl⟩;have dc:=hT.len;have h1:H[1]?=some (.mp (cE (cN M.tabs))):=C.at_ (1,_) (by simp[mE]);by_cases m:i<p.tabs.length
 ·have j:(i:Int)<(p.tabs.length:Int):=by omega
  obtain⟨t,cf⟩:∃t,t=p.tabs[i]!:=⟨_,rfl⟩;have d4:T.length<=18:=by rw[dc];simp;omega
  have bh:p.tabs.take (i+1)=p.tabs.take i++[t]:=by rw[fD m,<-getElem!_pos p.tabs i m,<-cf]
  by_cases o:t.name∈M.tabs
  ·have c3:(0:Int)<((ct (cN M.tabs) t.name:Nat):Int):=Dc.2 o;have c4:¬((ct (cN M.tabs) t.name:Nat):Int)=0:=by omega
   obtain⟨W,X,Y,F,G,Z⟩:=hLt.app (A:=[]) (B:=L++mE M) (bytes:=48) (r:=t.c) (by simpa using C) t.fl (by simp;omega) (by simp;omega);unfold Tb.c at F;simp(disch:=omega)only[go_sem,simprocAttr,Jx,j,p.ht.q,<-cf,Tb.c,h1,wH,c4,hLt.c1,F,G.c1,wr];refine⟨by omega,m,⟨W,Y,X,T++[t],?_,?_,by simpa using Z,_,_,_,_,_,_,_,_,_,_,_,_,_,_,_,_,_,_,_,_,_,_,_,_,_,_,_,_,_,_,_,_,_,_,_,_,_,rfl⟩⟩;·rw[eH];exact G
   rw[bh];exact hT.snoc ⟨rfl,rfl,λ_=>rfl,λh=>absurd o h⟩
  have c4:((ct (cN M.tabs) t.name:Nat):Int)=0:=by have c5:¬(0:Int)<((ct (cN M.tabs) t.name:Nat):Int):=λh=>o (Dc.1 h);omega
  obtain⟨u,hu⟩:∃u:Tb,u=⟨t.name,t.two,.nil,[],.nil rfl,by simp,t.hn⟩:=⟨_,rfl⟩;obtain⟨W,X,Y,F,G,Z⟩:=hLt.app (A:=[]) (B:=L++mE M) (bytes:=48) (r:=u.c) (by simpa using C) u.fl (by simp;omega) (by simp;omega);rw[show u.c=[.s t.name,.b t.two,.nil]by rw[hu];rfl]at F G;simp(disch:=omega)only[go_sem,simprocAttr,Jx,j,p.ht.q,<-cf,Tb.c,h1,wH,c4,hLt.c1,F,G.c1,wr];refine⟨by omega,m,⟨W,Y,X,T++[u],?_,?_,by simpa using Z,_,_,_,_,_,_,_,_,_,_,_,_,_,_,_,_,_,_,_,_,_,_,_,_,_,_,_,_,_,_,_,_,_,_,_,_,_,rfl⟩⟩;·rw[eH,show[u].map Tb.c=[[.s t.name,.b t.two,.nil]]by rw[hu];rfl];exact G
  rw[bh];exact hT.snoc (by rw[hu];exact⟨rfl,rfl,λh=>absurd h o,λ_=>rfl⟩)
 have j:¬(i:Int)<(p.tabs.length:Int):=by omega
 obtain rfl:i=p.tabs.length:=by omega
 rw[E2 (G1 _)]at hT;simp(disch:=omega)only[go_sem,simprocAttr,Jx,j,hx.n];refine ak.up (RfI p x w d a e R1 R2 R3 V M l v vt (Lt++(L++mE M))) l.length ⟨.nil,[],H,.nil,by simpa using C,_,_,_,_,_,_,_,_,_,_,_,_,_,_,_,_,_,_,_,_,_,_,_,_,_,_,_,_,_,_,_,_,_,_,_,_,_,_,rfl⟩ ?_;rintro i s hi⟨vf,Lf,H,bj,C,j6,j7,j8,j9,ax,ay,az,a0,a1,a2,a3,ca,cb,cc,d6,a4,bv,bw,bx,d7,a5,bz,b0,b1,a6,b2,b3,b4,a7,a8,a9,ba,bb,bc,bd,be,bf,bg,rfl⟩;by_cases m:i<l.length
 ·have j:(i:Int)<(l.length:Int):=by omega
  obtain⟨f,cs⟩:∃f,f=l[i]!:=⟨_,rfl⟩;have S:=zm (q:=λf:Fc=>jZ M f.n) m;rw[<-cs]at S;have db:((l.take i).filter λf=>jZ M f.n).length<=30:=dG (n4 _ _) (by simp;omega);simp(disch:=omega)only[go_sem,simprocAttr,Y7,j,hx.q,<-cs,Fc.c,s2.n,wr];refine⟨by omega,ak.up (RmI p x w d a e R1 R2 R3 V M l v vt vf f i H) M.facts.length ⟨false,rfl,_,_,_,_,_,_,_,_,_,_,_,_,_,_,_,_,_,_,_,_,_,_,_,_,_,_,_,_,_,_,_,_,_,rfl⟩ ?_⟩;rintro k s hk⟨b,J,d9,ea,eb,ed,ee,eg,eh,ei,ek,el,em,en,eo,ep,eq,er,es,et,eu,ev,ew,ex,ey,ez,e0,e6,e8,e9,fa,fb,fd,fe,ff,rfl⟩;by_cases aj:k<M.facts.length
  ·have o:(k:Int)<(M.facts.length:Int):=by omega
   obtain⟨z,E⟩:∃z,z=M.facts[k]!:=⟨_,rfl⟩;have bh:M.facts.take (k+1)=M.facts.take k++[z]:=by rw[fD aj,<-getElem!_pos M.facts k aj,<-E]
   have bk:((M.facts.take (k+1)).any λy=>decide (y.1=f.key/\f.frm<y.2.2/\y.2.1<f.to))=(b||decide (z.1=f.key/\f.frm<z.2.2/\z.2.1<f.to)):=by rw[bh,List.any_append,<-J];simp
   cases b with|true=>simp(disch:=omega)only[go_sem,simprocAttr,wO,o,s2.q,<-E,iA,Fc.c,wr];exact⟨by omega,aj,⟨true,by rw[bk];rfl,_,_,_,_,_,_,_,_,_,_,_,_,_,_,_,_,_,_,_,_,_,_,_,_,_,_,_,_,_,_,_,_,_,rfl⟩⟩|false=>
   by_cases d1:z.1=f.key
   ·by_cases d2:f.frm<z.2.2;·simp(disch:=omega)only[go_sem,simprocAttr,wO,o,s2.q,<-E,iA,Fc.c,wr,d1,d2];exact⟨by omega,aj,⟨decide (z.2.1<f.to),by rw[bk];simp[d1,d2],_,_,_,_,_,_,_,_,_,_,_,_,_,_,_,_,_,_,_,_,_,_,_,_,_,_,_,_,_,_,_,_,_,rfl⟩⟩
    simp(disch:=omega)only[go_sem,simprocAttr,wO,o,s2.q,<-E,iA,Fc.c,wr,d1,d2];exact⟨by omega,aj,⟨false,by rw[bk];simp[d2],_,_,_,_,_,_,_,_,_,_,_,_,_,_,_,_,_,_,_,_,_,_,_,_,_,_,_,_,_,_,_,_,_,rfl⟩⟩
   simp(disch:=omega)only[go_sem,simprocAttr,wO,o,s2.q,<-E,iA,Fc.c,wr,d1];exact⟨by omega,aj,⟨false,by rw[bk];simp[d1],_,_,_,_,_,_,_,_,_,_,_,_,_,_,_,_,_,_,_,_,_,_,_,_,_,_,_,_,_,_,_,_,_,rfl⟩⟩
  have o:¬(k:Int)<(M.facts.length:Int):=by omega
  obtain rfl:k=M.facts.length:=by omega
  rw[E2 (G1 _)]at J;have cu:b=jZ M f.n:=J;cases b with|true=>obtain⟨W,X,Y,F,G,Z⟩:=bj.app (A:=[]) (B:=Lt++(L++mE M)) (bytes:=128) (r:=f.c) (by simpa using C) f.fl (by simp;omega) (by simp;omega);unfold Fc.c at F;simp(disch:=omega)only[go_sem,simprocAttr,wO,o,Fc.c,F,wr];refine⟨m,⟨W,Y,X,?_,by simpa using Z,_,_,_,_,_,_,_,_,_,_,_,_,_,_,_,_,_,_,_,_,_,_,_,_,_,_,_,_,_,_,_,_,_,_,_,_,_,_,rfl⟩⟩;rw[S,E4 cu.symm,eH];exact G|false=>simp(disch:=omega)only[go_sem,simprocAttr,wO,o,Fc.c,wr];refine⟨m,⟨vf,Lf,H,?_,C,_,_,_,_,_,_,_,_,_,_,_,_,_,_,_,_,_,_,_,_,_,_,_,_,_,_,_,_,_,_,_,_,_,_,_,_,_,_,rfl⟩⟩;rw[S,E1 (by rw[<-cu];exact ACa)];exact bj
 have j:¬(i:Int)<(l.length:Int):=by omega
 obtain rfl:i=l.length:=by omega
 rw[E2 (G1 _)]at bj;simp(disch:=omega)only[go_sem,simprocAttr,Y7,j];obtain⟨H1,g1,dd⟩:=hLt.fz (B:=Lf++(L++mE M)) (C.perm (ABq _ _ _));obtain⟨H2,g2,dh⟩:=hL.fz (B:=Lf++mE M) (dd.perm (ABq _ _ _));obtain⟨H3,g3,_⟩:=bj.fz (B:=mE M) dh;obtain⟨q,Q⟩:∃q:Pl,q=⟨p.name,p.defs,T,p.cls.filter λc=>decide (c.nm∈M.pairs.map Prod.fst),p.dD,cO 3 (T.map Tb.c),cO 24 ((p.cls.filter λc=>decide (c.nm∈M.pairs.map Prod.fst)).map Cl.row),p.hd,iB,iB⟩:=⟨_,rfl⟩;have q1:q.defs=p.defs:=by rw[Q]
 have q2:q.cls=p.cls.filter λc=>decide (c.nm∈M.pairs.map Prod.fst):=by rw[Q]
 have q3:cL (zn M.tabs) p.tabs q.tabs:=by rw[Q];exact hT
 have dl:Sl 11 ((l.filter λf=>jZ M f.n).map Fc.c) (cO 11 ((l.filter λf=>jZ M f.n).map Fc.c)):=iB;have dm:∀c∈q.cls,LX c.w/\LX c.t:=λc h=>by rw[q2]at h;exact hc c (qo.1 h).1
 obtain⟨r',y',M',t2,T2⟩:=y7 dl (nm:=w) (d:=d) (known:=a) (Yk (λf=>jZ M f.n) q1 q2 (q3.imp λ_ _ g=>g.s) U) dm ha;obtain⟨rfl,rfl⟩:=(XU I.j (atj (l:=l) q1 q2 q3 J.2)).det T2.j;have e4:=λ{H K}=>(sV I.v T2.v I.n).c (H:=H) (K:=K) qz rfl (by simp[I.v.pl,T2.v.pl]) (.inl rfl);obtain⟨y3,y4,dq,_⟩:=T2.v.h;have ef:Dm.bS 11 H (.ag [.s p.name,p.dD,vt,v])=some (q.d,H2):=by rw[f7];dsimp only;rw[dM,ah lH];dsimp only;rw[dM,ah p.hd.flat];dsimp only;rw[dM,g1];dsimp only;rw[dM,g2];dsimp only;rw[gK,Q];rfl
 have e3:∀{K:CR->Prop},ac VS 9 [.ag [.s p.name,p.dD,vt,v],vf,.s w,.i .i64 d,.i .i64 a] H K↔K (.ret (.tu [y',jp M,.i .i64 r.e]) H3):=λ{K}=>by have ec:=eU (K:=K) vG rfl t2 (args:=[.ag [.s p.name,p.dD,vt,v],vf,.s w,.i .i64 d,.i .i64 a]) (H:=H) (H1:=H3) (by show aW 12 _ _=_;rw[dM,ef];dsimp only;rw[dM,g3];dsimp only;rw[show aW 12 _ _=_ from mj (ds:=[.s w,.i .i64 d,.i .i64 a]) (by simp[aZ,oF])]);simp only[sB,show v9.own=false from rfl]at ec;exact ec
 have e5:=λ{H K}=>(WG I.m).c (H:=H) (K:=K) GD rfl (by simp[Yl]) (.inl rfl);unfold jp at e3 e5;rw[<-br,<-bs,<-bt]at e3 e5;rw[hy,<-hV]at e4;rw[dq]at e3 e4;rw[<-he]at e3;have bm:=ase I.j;have cz:0<M.pairs.length:=by
  rcases sn M.pairs.length with h|h;·rw[kh.1 h]at bm;cases bm
  exact h
 have dt:M.pairs[0]! =(w,d):=by rw[Hy M.pairs 0 cz];rw[Hk cz]at bm;exact kv bm
 have c9:(0:Int)<(M.pairs.length:Int):=by omega
 have qe:ej false (.st [2,1]) (.ag [.s w,.i .i64 d]) (.ag [.s w,.i .i64 d])=some (.b true):=by grind[ej,uL,dj,fZ,fY]
 subst hV;simp(disch:=omega)only[go_sem,simprocAttr,e3,e4,e5,e7,s1.n,c9,s1.q,dt,i5,qe]
end
end Go.Proofs.YtigbdbdlkoeadaaGreatDoor.Dv
