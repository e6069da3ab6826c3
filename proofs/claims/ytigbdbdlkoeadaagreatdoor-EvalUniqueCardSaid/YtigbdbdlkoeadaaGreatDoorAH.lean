/-
  Part of the proof.
-/
import Derived.Test.YtigbdbdlkoeadaaGreatDoorAG
set_option linter.all false
namespace Go.Proofs.YtigbdbdlkoeadaaGreatDoor.Dv
section
open Go.Dm
set_option maxRecDepth 10000
structure Fr(n:Int)(m:Nat)(d:D):Prop where h:∃x y,d=.ag [.b (decide (n<0)),x,.b false,y]/\bc n.natAbs x/\bc m y
structure eL(n:Int)(m:Nat):Prop where
 z:m≠0
 g:Nat.gcd n.natAbs m=1
 bn:n.natAbs<cap 256
 bm:m<cap 256
def Fr.pl{n:Int}{m:Nat}{d:D}(h:Fr n m d):d.plain=true:=by obtain⟨x,y,rfl,a,b⟩:=h.h;simp[bO,cg,a.sl.flat,b.sl.flat]
def eM{n:Int}{x:D}(h:bc n.natAbs x):Wh n (.ag [.b (decide (n<0)),x]):=⟨x,rfl,h⟩
variable{x:Nat}
def cQ{y:D}(h:bc x y):Wh (x:Int) (.ag [.b false,y]):=⟨y,by simp,h⟩
def pj(m:Nat):decide ((m:Int)<0)=false:=by simp
def Ab{a:Int}{d1 d2:D}(f:Wh a d1)(c:Wh (x:Int) d2)(s:x≠0)(k:a.natAbs<cap 1023)(h:x<cap 1023):∃d,ai VS 185 [d1,d2] d/\Fr (a/(Nat.gcd a.natAbs x:Nat)) (x/Nat.gcd a.natAbs x) d:=by
 obtain⟨E,rfl,F⟩:=f.h;obtain⟨I,rfl,J⟩:=c.h;rw[pj]at c⊢;obtain⟨g,g1,b⟩:=Pt f c (aQ k (by omega)) (aQ h (by omega));have t:((x:Int)).natAbs=x:=rfl;rw[t]at b;obtain⟨G,i⟩:∃G,G=Nat.gcd a.natAbs x:=⟨_,rfl⟩;have l:G≠0:=by rw[i];exactλe=>s (ABQ e)
 have m:G<=x:=by rw[i];exact ACD _ (by omega)
 rw[<-i]at b⊢;obtain⟨L,r1,u,v,_⟩:=Aa f b l k (kx m (aQ h (by omega)));obtain⟨M,r2,w,n,_⟩:=Aa c b l h (kx m (aQ h (by omega)));have o:=λ{H K}=>g1.c (H:=H) (K:=K) BS rfl (by simp[f.pl,c.pl]) (.inl rfl);have p:=λ{H K}=>u.c (H:=H) (K:=K) vK rfl (by simp[f.pl,b.pl]) (.inl rfl);have j:=λ{H K}=>w.c (H:=H) (K:=K) vK rfl (by simp[c.pl,b.pl]) (.inl rfl);obtain⟨N,rfl,P⟩:=b.h;obtain⟨y,rfl,q⟩:=v.h;have z:x/G=((x/G:Nat):Int):=by simp
 rw[z]at n;obtain⟨A,rfl,r⟩:=n.h;rw[pj]at j;rw[pj]at o p j;have B:=λx H=>ah q.sl.flat x H;have C:=λx H=>ah r.sl.flat x H;refine⟨_,.body qE rfl ?_,⟨y,A,rfl,q,r⟩⟩;simp[go_sem,simprocAttr,aao,o,p,j,B,C]
structure RF where
 s:Bool
 x:D
 t:Bool
 y:D
 l:List Nat
 m:List Nat
 hx:Sl 1 (l.map u16) x
 hy:Sl 1 (m.map u16) y
 hl:lm 65536 l
 hm:lm 65536 m
 nl:l.length<70368744177665
 nm:m.length<70368744177665
def RF.cells(r:RF):List D:=[.b r.s,r.x,.b r.t,r.y]
def RF.d(r:RF):D:=.ag r.cells
def RF.v(r:RF):Bool:=cW r.s r.l r.t r.m
instance:Inhabited RF:=⟨⟨false,.nil,false,.nil,[],[],.nil rfl,.nil rfl,ie,ie,by simp,by simp⟩⟩
def RF.pl(r:RF):r.d.plain=true:=by simp[RF.d,RF.cells,bO,cg,r.hx.flat,r.hy.flat]
def RF.valid_c(r:RF){H:ab}{K:CR->Prop}:ac VS 102 [r.d] H K↔K (.ret (.b r.v) H):=(ayv r.hx r.hy r.hl r.hm r.nl r.nm).c S9 rfl (by simp[show(D.ag [.b r.s,r.x,.b r.t,r.y]).plain=true from r.pl]) (.inl rfl)
def ayw(r:RF){H:ab}{K:CR->Prop}:ac VS 219 (r.d::[]) H K↔K (.ret (.b (!r.v)) H):=by have a:=λ{H K}=>r.valid_c (H:=H) (K:=K);refine ai.c ?_ TP rfl (by simp[r.pl]) (.inl rfl);refine .body TP rfl ?_;simp only[RF.d,RF.cells]at a⊢;simp[go_sem,av1,a]
def ayx(r1 r2:RF):ai VS 177 [.im 4 [r1.cells,r2.cells]] (.b (r1.v&&r2.v)):=by have e:=λ{H K}=>xJ (agg:=true) (l:=[r1,r2]) (x:=.im 4 [r1.cells,r2.cells]) (H:=H) (K:=K) (alw.trans (by kernel_rfl)) (alE.trans (by kernel_rfl)) .im (by simp) (λ_=>rfl) (λ_=>rfl) (by decide) (λa K=>ayw a);refine .body Tw rfl ?_;simp only[go_sem,avJ,e];grind
def xf(r1 r2:RF){H:ab}{K:CR->Prop}:ac VS 177 [.sv 4 [r1.cells,r2.cells]] H K↔K (.ret (.b (r1.v&&r2.v)) H):=by have a:=λm H=>ah r1.hx.flat m H;have c:=λm H=>ah r1.hy.flat m H;have d:=λm H=>ah r2.hx.flat m H;have e:=λm H=>ah r2.hy.flat m H;rw[eU (H1:=H) Tw rfl (ayx r1 r2) (by simp[go_sem,RF.cells,a,c,d,e])];exact W0
def Fr.rf{n:Int}{m:Nat}{d:D}(h:Fr n m d)(c:eL n m):∃r:RF,r.d=d/\r.v=true/\r.s=decide (n<0)/\r.t=false/\bc n.natAbs r.x/\bc m r.y:=by obtain⟨x,y,rfl,a,b⟩:=h.h;refine⟨⟨decide _,x,false,y,ds 65536 _,ds 65536 m,a.sl,b.sl,co aM _,co aM _,mQ c.bn (by omega),mQ c.bm (by omega)⟩,rfl,?_,rfl,rfl,a,b⟩;have i:=jx.2 c.bn;have j:=jx.2 c.bm;have e:=zX (neg:=decide (n<0)) (aQ c.bn (show 256<=1024 by omega)) (λf=>by grind);have g:=zX (aQ c.bm (show 256<=1024 by omega)) (λf=>rfl);have k:=lT aM c.z;show cW _ _ _ _=true;unfold cW;rw[e,g,bF aM,bF aM,c.g];grind
def RF.fr(r:RF)(h:r.v=true):Fr (lh r.s r.l) (vl 65536 r.m) r.d/\eL (lh r.s r.l) (vl 65536 r.m):=by
 have b:cW r.s r.l r.t r.m=true:=h;unfold cW at b;simp only[D0,Hq,k7,X0]at b;obtain⟨⟨⟨⟨⟨⟨i,j⟩,k⟩,f⟩,g⟩,l⟩,s⟩:=b;obtain⟨m,t,n,o⟩:=xd r.hx r.hl k;rw[g]at f;obtain⟨u,v,w,a⟩:=xd r.hy r.hm f;obtain⟨x,c,p⟩:=m.h;injection c with c;injection c with d e;injection e with e _;subst e;refine⟨⟨r.x,r.y,?_,p,⟨by rw[a];exact r.hy⟩⟩,⟨?_,by grind,?_,?_⟩⟩;·simp only[RF.d,RF.cells,g];injection d with d;rw[<-d]
 ·intro q;rw[q,bE]at a;exact l a.symm
 ·rw[n,<-jx,o];exact i
 rw[<-jx,a];exact j
def pk:D:=.ag [.b false,.nil,.b false,.nil]
structure gD(a:Int)(b:Nat)(r:D):Prop where h:∃d,((a/(Nat.gcd a.natAbs b:Nat)).natAbs<cap 256/\b/Nat.gcd a.natAbs b<cap 256/\r=.tu [d,.i .i64 0]/\Fr (a/(Nat.gcd a.natAbs b:Nat)) (b/Nat.gcd a.natAbs b) d)\/(¬((a/(Nat.gcd a.natAbs b:Nat)).natAbs<cap 256/\b/Nat.gcd a.natAbs b<cap 256)/\r=.tu [pk,.i .i64 3])
def rj(n:Int)(m:Nat)(d:D):D:=if n.natAbs<cap 256/\m<cap 256 then .tu [d,.i .i64 0]else .tu [pk,.i .i64 3]
def Ac{n:Int}{m:Nat}{d:D}(h:Fr n m d):ai VS 186 [d] (rj n m d):=by
 unfold rj;obtain⟨x,y,rfl,a,b⟩:=h.h;have f:=λ{H K}=>(acw (s:=decide (n<0)) (t:=false) a.sl b.sl).c (H:=H) (K:=K) G6 rfl (by simp[bO,cg,a.sl.flat,b.sl.flat]) (.inl rfl);have g:=λm H=>ah a.sl.flat m H;have i:=λm H=>ah b.sl.flat m H;refine .body sI rfl ?_;by_cases e:n.natAbs<cap 256/\m<cap 256;·rw[E4 e];have j:=jx.2 e.1;have k:=jx.2 e.2;rw[show(decide _||decide _)=false by simp;omega]at f;simp[go_sem,aap,f,g,i]
 rw[E1 e];rw[<-jx,<-jx]at e;rw[show(decide _||decide _)=true by simp;omega]at f;simp[go_sem,aap,f,pk]
def gD.of{a:Int}{b:Nat}{d:D}(h:Fr (a/(Nat.gcd a.natAbs b:Nat)) (b/Nat.gcd a.natAbs b) d):gD a b (rj (a/(Nat.gcd a.natAbs b:Nat)) (b/Nat.gcd a.natAbs b) d):=by unfold rj;refine⟨d,?_⟩;grind
def gD.pl{a:Int}{b:Nat}{r:D}(h:gD a b r):∃c f c3 g e,r=.tu [.ag [c,f,c3,g],.i .i64 e]/\c.flat=true/\f.flat=true/\c3.flat=true/\g.flat=true:=by
 obtain⟨d,⟨_,_,rfl,j⟩|⟨_,rfl⟩⟩:=h.h;·obtain⟨x,y,rfl,k,l⟩:=j.h;exact⟨_,_,_,_,_,rfl,rfl,k.sl.flat,rfl,l.sl.flat⟩
 exact⟨_,_,_,_,_,rfl,rfl,rfl,rfl,rfl⟩
section
variable{n1 n2:Int}{m1 m2:Nat}{d1 d2:D}
def acy(s:Fr n1 m1 d1)(t:Fr n2 m2 d2)(a:eL n1 m1)(b:eL n2 m2):∃r,ai VS 130 [d1,d2] r/\gD (n1*n2) (m1*m2) r:=by obtain⟨r1,rfl,u,v,t1,g,h⟩:=s.rf a;obtain⟨r2,rfl,w,x,y,i,j⟩:=t.rf b;have d:=λ{H K}=>xf r1 r2 (H:=H) (K:=K);rw[u,w]at d;obtain⟨p,z,l⟩:=jy (eM g) (eM i) (aQ a.bn (by omega)) (aQ b.bn (by omega));obtain⟨q,A,n⟩:=jy (cQ h) (cQ j) (aQ a.bm (by omega)) (aQ b.bm (by omega));have B:=λ{H K}=>z.c (H:=H) (K:=K) iw rfl (by simp[(eM g).pl,(eM i).pl]) (.inl rfl);have C:=λ{H K}=>A.c (H:=H) (K:=K) iw rfl (by simp[(cQ h).pl,(cQ j).pl]) (.inl rfl);obtain⟨k,E,f⟩:=Ab l n (by exact qq a.z b.z) (by rw[za];exact ko a.bn b.bn (by omega)) (ko a.bm b.bm (by omega));have F:=λ{H K}=>E.c (H:=H) (K:=K) qE rfl (by simp[l.pl,n.pl]) (.inl rfl);have o:=λ{H K}=>(Ac f).c (H:=H) (K:=K) sI rfl (by simp[f.pl]) (.inl rfl);have hr:=gD.of f;generalize rj _ _ _=r at o hr;obtain⟨S,U,c3,V,e,rfl,G,I,J,L⟩:=hr.pl;refine⟨_,.body GR rfl ?_,hr⟩;have M:=λm H=>ah G m H;have N:=λm H=>ah I m H;have P:=λm H=>ah J m H;have Q:=λm H=>ah L m H;simp only[RF.d,RF.cells,v,t1,x,y]at d⊢;simp[go_sem,simprocAttr,avt,d,B,C,F,o,M,N,P,Q]
def acz(y:Fr n1 m1 d1)(z:Fr n2 m2 d2)(a:eL n1 m1)(b:eL n2 m2):∃r,ai VS 167 [d1,d2] r/\gD (n1*m2+n2*m1) (m1*m2) r:=by
 obtain⟨r1,rfl,A,B,t1,i,d⟩:=y.rf a;obtain⟨r2,rfl,C,E,F,j,f⟩:=z.rf b;have g:=λ{H K}=>xf r1 r2 (H:=H) (K:=K);rw[A,C]at g;obtain⟨p,G,l⟩:=jy (eM i) (cQ f) (aQ a.bn (by omega)) (aQ b.bm (by omega));obtain⟨o,I,n⟩:=jy (eM j) (cQ d) (aQ b.bn (by omega)) (aQ a.bm (by omega));obtain⟨q,J,s⟩:=jy (cQ d) (cQ f) (aQ a.bm (by omega)) (aQ b.bm (by omega));have u:(n1*m2).natAbs<cap 512:=by rw[za];exact ko a.bn b.bm (by omega)
 have v:(n2*m1).natAbs<cap 512:=by rw[za];exact ko b.bn a.bm (by omega)
 obtain⟨t,L,w⟩:=EC l n (aQ u (by omega)) (aQ v (by omega));have M:=λ{H K}=>G.c (H:=H) (K:=K) iw rfl (by simp[(eM i).pl,(cQ f).pl]) (.inl rfl);have N:=λ{H K}=>I.c (H:=H) (K:=K) iw rfl (by simp[(eM j).pl,(cQ d).pl]) (.inl rfl);have P:=λ{H K}=>J.c (H:=H) (K:=K) iw rfl (by simp[(cQ d).pl,(cQ f).pl]) (.inl rfl);have Q:=λ{H K}=>L.c (H:=H) (K:=K) vL rfl (by simp[l.pl,n.pl]) (.inl rfl);have S:(n1*m2+n2*m1).natAbs<cap 513:=kx (Int.natAbs_add_le _ _) (EA u v (by omega));obtain⟨k,U,h⟩:=Ab w s (qq a.z b.z) (aQ S (by omega)) (ko a.bm b.bm (by omega));have V:=λ{H K}=>U.c (H:=H) (K:=K) qE rfl (by simp[w.pl,s.pl]) (.inl rfl);have x:=λ{H K}=>(Ac h).c (H:=H) (K:=K) sI rfl (by simp[h.pl]) (.inl rfl);have hr:=gD.of h;generalize rj _ _ _=r at x hr;obtain⟨c1,c2,c3,c4,e,rfl,W,X,Y,Z⟩:=hr.pl;refine⟨_,.body GV rfl ?_,hr⟩;have aa:=λm H=>ah W m H;have ab:=λm H=>ah X m H;have ac:=λm H=>ah Y m H;have ad:=λm H=>ah Z m H;simp only[RF.d,RF.cells,B,t1,E,F]at g⊢;simp[go_sem,simprocAttr,avF,g,M,N,V,x,P,Q,aa,ab,ac,ad]
def ayy(B:Fr n1 m1 d1)(C:Fr n2 m2 d2)(a:eL n1 m1)(b:eL n2 m2):∃r,ai VS 188 [d1,d2] r/\gD (n1*m2+-(n2*m1)) (m1*m2) r:=by
 obtain⟨r1,rfl,E,F,t1,i,d⟩:=B.rf a;obtain⟨r2,rfl,G,I,J,j,f⟩:=C.rf b;have g:=λ{H K}=>xf r1 r2 (H:=H) (K:=K);rw[E,G]at g;obtain⟨p,L,l⟩:=jy (eM i) (cQ f) (aQ a.bn (by omega)) (aQ b.bm (by omega));obtain⟨o,M,n⟩:=jy (eM j) (cQ d) (aQ b.bn (by omega)) (aQ a.bm (by omega));obtain⟨q,N,s⟩:=jy (cQ d) (cQ f) (aQ a.bm (by omega)) (aQ b.bm (by omega));have u:(n1*m2).natAbs<cap 512:=by rw[za];exact ko a.bn b.bm (by omega)
 have v:(n2*m1).natAbs<cap 512:=by rw[za];exact ko b.bn a.bm (by omega)
 obtain⟨w,P,x⟩:=Pu n (aQ v (by omega));have y:(-(n2*m1)).natAbs<cap 512:=by rw[ABj];exact v
 obtain⟨t,Q,z⟩:=EC l x (aQ u (by omega)) (aQ y (by omega));have S:=λ{H K}=>L.c (H:=H) (K:=K) iw rfl (by simp[(eM i).pl,(cQ f).pl]) (.inl rfl);have U:=λ{H K}=>M.c (H:=H) (K:=K) iw rfl (by simp[(eM j).pl,(cQ d).pl]) (.inl rfl);have V:=λ{H K}=>N.c (H:=H) (K:=K) iw rfl (by simp[(cQ d).pl,(cQ f).pl]) (.inl rfl);have W:=λ{H K}=>P.c (H:=H) (K:=K) BU rfl (by simp[n.pl]) (.inl rfl);have X:=λ{H K}=>Q.c (H:=H) (K:=K) vL rfl (by simp[l.pl,x.pl]) (.inl rfl);have Y:(n1*m2+-(n2*m1)).natAbs<cap 513:=kx (Int.natAbs_add_le _ _) (EA u y (by omega));obtain⟨k,Z,h⟩:=Ab z s (qq a.z b.z) (aQ Y (by omega)) (ko a.bm b.bm (by omega));have e3:=λ{H K}=>Z.c (H:=H) (K:=K) qE rfl (by simp[z.pl,s.pl]) (.inl rfl);have A:=λ{H K}=>(Ac h).c (H:=H) (K:=K) sI rfl (by simp[h.pl]) (.inl rfl);have hr:=gD.of h;generalize rj _ _ _=r at A hr;obtain⟨c1,c2,c3,c4,e,rfl,f1,f2,f3,f4⟩:=hr.pl;refine⟨_,.body Tx rfl ?_,hr⟩;have af:=λm H=>ah f1 m H;have ag:=λm H=>ah f2 m H;have aj:=λm H=>ah f3 m H;have ak:=λm H=>ah f4 m H;simp only[RF.d,RF.cells,F,t1,I,J]at g⊢;simp[go_sem,simprocAttr,avP,g,S,U,e3,A,V,X,W,af,ag,aj,ak]
def xg(l:Fr n1 m1 d1)(m:Fr n2 m2 d2)(a:eL n1 m1)(b:eL n2 m2):ai VS 127 [d1,d2] (.i .i64 (di (n1*m2) (n2*m1))):=by
 obtain⟨r1,rfl,n,q,t1,e,f⟩:=l.rf a;obtain⟨r2,rfl,r,s,t,g,h⟩:=m.rf b;have d:=λ{H K}=>xf r1 r2 (H:=H) (K:=K);rw[n,r]at d;obtain⟨p,u,j⟩:=jy (eM e) (cQ h) (aQ a.bn (by omega)) (aQ b.bm (by omega));obtain⟨o,v,k⟩:=jy (eM g) (cQ f) (aQ b.bn (by omega)) (aQ a.bm (by omega));have w:(n1*m2).natAbs<cap 512:=by rw[za];exact ko a.bn b.bm (by omega)
 have x:(n2*m1).natAbs<cap 512:=by rw[za];exact ko b.bn a.bm (by omega)
 have y:=λ{H K}=>u.c (H:=H) (K:=K) iw rfl (by simp[(eM e).pl,(cQ h).pl]) (.inl rfl);have z:=λ{H K}=>v.c (H:=H) (K:=K) iw rfl (by simp[(eM g).pl,(cQ f).pl]) (.inl rfl);have A:=λ{H K}=>(act j k (aQ w (by omega)) (aQ x (by omega))).c (H:=H) (K:=K) GZ rfl (by simp[j.pl,k.pl]) (.inl rfl);refine .body sG rfl ?_;simp only[RF.d,RF.cells,q,t1,s,t]at d⊢;simp[go_sem,simprocAttr,avs,d,y,z,A]
def Pv{n:Int}(f:-9223372036854775808<=n/\n<9223372036854775808):∃d,ai VS 90 [.i .i64 n] d/\Fr n 1 d:=by obtain⟨a,g,h⟩:=zZ f;obtain⟨b,j,k⟩:=zZ (n:=1) (by omega);have l:=λ{H K}=>g.c (H:=H) (K:=K) sF rfl rfl (.inl rfl);have o:=λ{H K}=>j.c (H:=H) (K:=K) sF rfl rfl (.inl rfl);obtain⟨x,rfl,c⟩:=h.h;obtain⟨y,rfl,e⟩:=k.h;have p:=λm H=>ah c.sl.flat m H;have q:=λm H=>ah e.sl.flat m H;have d1:decide ((1:Int)<0)=false:=rfl;refine⟨_,.body sE rfl ?_,⟨x,y,rfl,c,e⟩⟩;simp[go_sem,simprocAttr,avc,l,o,p,q]
def acA{n:Int}{d:D}(h:Fr n x d)(l:eL n x):ai VS 87 [d] (.tu (if x=1 then[.i .i64 (if ib n then n else 0),.i .i64 (if ib n then 0 else 3)]else[.i .i64 0,.i .i64 22])):=by
 obtain⟨r,rfl,v,k,t1,a,b⟩:=h.rf l;have e:=λ{H K}=>r.valid_c (H:=H) (K:=K);rw[v]at e;simp[RF.d,RF.cells,k,t1]at e⊢;have f:=λ{H K}=>(acx (s:=decide (n<0)) (t:=false) a.sl b.sl).c (H:=H) (K:=K) GQ rfl (by simp[bO,cg,a.sl.flat,b.sl.flat]) (.inl rfl);have m:=λ{H K}=>(ayu (eM a) (aQ l.bn (by omega))).c (H:=H) (K:=K) Th rfl (by simp[(eM a).pl]) (.inl rfl);have j:ds 65536 x=[1]↔x=1:=by
  constructor;·intro h;have:=bF aM x;rw[h]at this;simpa[vl]using this.symm
  intro h;rw[h,gF aM (by omega)];simp[bE]
 refine .body yp rfl ?_;by_cases g:x=1;·rw[show(!false&&decide _)=true by rw[Rp (j.2 g)];rfl]at f;rw[E4 g];simp[go_sem,simprocAttr,ZR,e,f,m]
 rw[show(!false&&decide _)=false by rw[N2 (λh=>g (j.1 h))];rfl]at f;rw[E1 g];simp[go_sem,ZR,e,f]
end
def ayz(r1 r2:RF):ai VS 108 [r1.d,r2.d] (.b (((r1.s==r2.s)&&decide (r1.l=r2.l))&&((r1.t==r2.t)&&decide (r1.m=r2.m)))):=by have a:=λ{H K}=>(acu (n1:=r1.s) (n2:=r2.s) r1.hx r2.hx r1.nl r2.nl).c (H:=H) (K:=K) GU rfl (by simp[bO,cg,r1.hx.flat,r2.hx.flat]) (.inl rfl);have d:=λ{H K}=>(acu (n1:=r1.t) (n2:=r2.t) r1.hy r2.hy r1.nm r2.nm).c (H:=H) (K:=K) GU rfl (by simp[bO,cg,r1.hy.flat,r2.hy.flat]) (.inl rfl);refine .body Td rfl ?_;simp only[RF.d,RF.cells];cases e:((r1.s==r2.s)&&decide (r1.l=r2.l))<;>rw[e]at a<;>simp[go_sem,avi,a,d,wy]
end
section
open Go.Dm
set_option maxRecDepth 10000
variable{x:Nat}
def ayA{a:Int}{d1 d2:D}(i:Wh a d1)(j:Wh (-(x:Int)) d2)(w:x≠0)(k:a.natAbs<cap 1023)(c:x<cap 1023):∃d,ai VS 185 [d1,d2] d/\Fr ((-a)/(Nat.gcd a.natAbs x:Nat)) (x/Nat.gcd a.natAbs x) d:=by
 obtain⟨Q,y,h⟩:=Pu i (aQ k (by omega));obtain⟨S,z,f⟩:=Pu j (by rw[ABj];exact aQ c (by omega));rw[ACe]at f;have p:(-a).natAbs<cap 1023:=by rw[ABj];exact k
 obtain⟨g,g1,b⟩:=Pt h f (aQ p (by omega)) (aQ c (by omega));have A:((x:Int)).natAbs=x:=rfl;rw[A,ABj]at b;obtain⟨G,l⟩:∃G,G=Nat.gcd a.natAbs x:=⟨_,rfl⟩;have q:G≠0:=by rw[l];exactλe=>w (ABQ e)
 have r:G<=x:=by rw[l];exact ACD _ (by omega)
 rw[<-l]at b⊢;obtain⟨U,r1,B,C,_⟩:=Aa h b q p (kx r (aQ c (by omega)));obtain⟨V,r2,E,s,_⟩:=Aa f b q c (kx r (aQ c (by omega)));have m:=λ{H K}=>g1.c (H:=H) (K:=K) BS rfl (by simp[h.pl,f.pl]) (.inl rfl);have t:=λ{H K}=>B.c (H:=H) (K:=K) vK rfl (by simp[h.pl,b.pl]) (.inl rfl);have n:=λ{H K}=>E.c (H:=H) (K:=K) vK rfl (by simp[f.pl,b.pl]) (.inl rfl);have F:=λ{H K}=>y.c (H:=H) (K:=K) BU rfl (by simp[i.pl]) (.inl rfl);have o:=λ{H K}=>z.c (H:=H) (K:=K) BU rfl (by simp[j.pl]) (.inl rfl);obtain⟨W,rfl,X⟩:=i.h;obtain⟨Y,rfl,Z⟩:=j.h;obtain⟨u1,rfl,k⟩:=h.h;obtain⟨u2,rfl,c⟩:=f.h;obtain⟨yg,rfl,hg⟩:=b.h;obtain⟨I,rfl,u⟩:=C.h;have J:x/G=((x/G:Nat):Int):=by simp
 rw[J]at s;obtain⟨L,rfl,v⟩:=s.h;have M:decide (-(x:Int)<0)=true:=by simp;omega
 rw[pj]at m t n;rw[pj,pj]at n;rw[M]at o⊢;rw[pj]at m o;have N:=λx H=>ah u.sl.flat x H;have P:=λx H=>ah v.sl.flat x H;refine⟨_,.body qE rfl ?_,⟨I,L,rfl,u,v⟩⟩;simp only[go_sem,simprocAttr,aao,m,t,n,F,o,N,P]
section
variable{n1 n2:Int}{m1 m2:Nat}{d1 d2:D}
def acB{n:Int}{m:Nat}{d:D}(h:Fr n m d):ai VS 180 [d] (.b (decide (n=0))):=by
 obtain⟨x,y,rfl,a,b⟩:=h.h;refine .body G0 rfl ?_;by_cases e:n=0
 ·subst e;have c:((ds 65536 (Int.natAbs 0)).length:Int)=0:=by simp[bE]
  simp only[go_sem,Nat.reduceLeDiff,aan,a.sl.n,c]
 have c:¬((ds 65536 n.natAbs).length:Int)=0:=by grind[ph]
 simp only[go_sem,simprocAttr,aan,a.sl.n,c,e]
def acC{n:Int}{m:Nat}{d:D}(h:Fr n m d):ai VS 181 [d] (.b (decide (n<0))):=by obtain⟨x,y,rfl,a,b⟩:=h.h;refine .body G4 rfl ?_;simp[go_sem,simprocAttr,avL]
def um(n1 n2:Int)(m2:Nat):Int:=if n2<0 then-(n1*m2)else n1*m2
def acD(s:Fr n1 m1 d1)(g:Fr n2 m2 d2)(a:eL n1 m1)(b:eL n2 m2)(t:n2≠0):∃r,ai VS 131 [d1,d2] r/\gD (um n1 n2 m2) (m1*n2.natAbs) r:=by
 have z:=acB g;obtain⟨r1,rfl,u,v,t1,h,i⟩:=s.rf a;obtain⟨r2,rfl,w,x,y,j,l⟩:=g.rf b;have d:=λ{H K}=>xf r1 r2 (H:=H) (K:=K);rw[u,w]at d;obtain⟨p,A,B⟩:=jy (eM h) (cQ l) (aQ a.bn (by omega)) (aQ b.bm (by omega));obtain⟨q,C,E⟩:=jy (cQ i) (eM j) (aQ a.bm (by omega)) (aQ b.bn (by omega));have F:=λ{H K}=>A.c (H:=H) (K:=K) iw rfl (by simp[(eM h).pl,(cQ l).pl]) (.inl rfl);have G:=λ{H K}=>C.c (H:=H) (K:=K) iw rfl (by simp[(cQ i).pl,(eM j).pl]) (.inl rfl);rw[N2 t]at z;have n:=λ{H K}=>z.c (H:=H) (K:=K) G0 rfl (by simp[r2.pl]) (.inl rfl);have X:m1*n2.natAbs≠0:=qq a.z (by omega);have Y:(n1*m2).natAbs<cap 1023:=by rw[za];exact ko a.bn b.bm (by omega)
 have Z:m1*n2.natAbs<cap 1023:=ko a.bm b.bn (by omega);have key:∃k,ai VS 185 [p,q] k/\Fr (um n1 n2 m2/(Nat.gcd (um n1 n2 m2).natAbs (m1*n2.natAbs))) (m1*n2.natAbs/Nat.gcd (um n1 n2 m2).natAbs (m1*n2.natAbs)) k:=by
  unfold um;by_cases I:n2<0
  ·have:m1*n2=-((m1*n2.natAbs:Nat)):=by grind
   simp_all[ayA]
  rw[E1 I];have:m1*n2=((m1*n2.natAbs:Nat)):=by grind
  simp_all[Ab]
 obtain⟨k,J,f⟩:=key;have L:=λ{H K}=>J.c (H:=H) (K:=K) qE rfl (by simp[B.pl,E.pl]) (.inl rfl);have o:=λ{H K}=>(Ac f).c (H:=H) (K:=K) sI rfl (by simp[f.pl]) (.inl rfl);have hr:=gD.of f;generalize rj _ _ _=r at o hr;obtain⟨c1,c2,c3,c4,e,rfl,M,N,P,Q⟩:=hr.pl;refine⟨_,.body GS rfl ?_,hr⟩;have S:=λm H=>ah M m H;have U:=λm H=>ah N m H;have V:=λm H=>ah P m H;have W:=λm H=>ah Q m H;simp only[RF.d,RF.cells,v,t1,x,y]at d n⊢;simp[go_sem,simprocAttr,avu,d,F,G,L,o,n,S,U,V,W]
def iJ(mode:Nat)(neg b:Bool)(a:Int):Bool:=match mode with|1=>neg|2=>!neg|3=>false|4=>true|5=>decide (a>0)||(decide (a=0)&&!neg)|_=>decide (a>0)||(decide (a=0)&&b)
def nW(mode:Nat)(x:Int)(b:Nat):Int:=if x%b=0 then x/b else if iJ mode (decide (x<0)) (decide ((x/b).natAbs%2=1)) (di (x%b+x%b) b)then x/b+1 else x/b
def ayB{mode:Nat}(e:1<=mode/\mode<=6){neg odd:Bool}{a:Int}:ai VS (225+mode) [.ag [.b neg,.b odd,.i .i64 a]] (.b (iJ mode neg odd a)):=by
 obtain rfl|rfl|rfl|rfl|rfl|rfl:mode=1\/mode=2\/mode=3\/mode=4\/mode=5\/mode=6:=by omega
 ·refine .body TU rfl ?_;simp[go_sem,simprocAttr,av7,iJ]
 ·refine .body TW rfl ?_;simp[go_sem,simprocAttr,av8,iJ]
 ·refine .body TX rfl ?_;simp[go_sem,av9,iJ]
 ·refine .body TY rfl ?_;simp[go_sem,awa,iJ]
 ·refine .body TZ rfl ?_;by_cases c:0<a;·simp[go_sem,NL,iJ,c,ACF]
  by_cases d:a=0;·simp only[go_sem,Nat.reduceLeDiff,Int.reduceLT,NL,iJ];simp_all
  simp[go_sem,NL,iJ,d,ABP]
 refine .body T6 rfl ?_;by_cases c:0<a;·simp[go_sem,NN,iJ,c,ACF]
 by_cases d:a=0;·simp only[go_sem,Nat.reduceLeDiff,Int.reduceLT,NN,iJ];grind
 simp[go_sem,NN,iJ,d,ABP]
end
end
section
open Go.Dm
set_option maxRecDepth 10000
theorem acE(a b:Nat):cap (a+b)=cap a*cap b:=ABN 65536 a b
def acF{a b:Nat}(c:a<cap 256)(d:b<cap 256):a*b+1<cap 512:=by have e:a*b<=(cap 256-1)*(cap 256-1):=p5 (by omega) (by omega);grind[cap,acE,nV]
def ayC{x:Int}{b:Nat}:(x/(b:Int)).natAbs<=x.natAbs:=AB6 x b
def ayD{k:Nat}(h:k≠0):(ds 65536 k)[0]!%2=k%2:=by simp_all[gF,aM]
def ED{V:aw}{f:FuncId}{args:List D}{H:ab}{r:CR}(h:ac V f args H (·=r)){K:CR->Prop}:ac V f args H K↔K r:=by
 constructor;·rintro⟨n,a,b⟩;obtain⟨m,c,d⟩:=h;grind[Sd]
 intro e;exact h.mono λq g=>by grind
def acG{H:ab}{K:CR->Prop}:ac VS 184 [] H K↔K (.ret (.ag [.fn (.func 226) [] [],.fn (.func 227) [] [],.fn (.func 228) [] [],.fn (.func 229) [] [],.fn (.func 230) [] [],.fn (.func 231) [] []]) H):=by refine ED (.body alp rfl rfl ?_);simp[go_sem,simprocAttr,avO]
def ayE{mode:Nat}(a:1<=mode/\mode<=6):pT (.ag [.fn (.func 226) [] [],.fn (.func 227) [] [],.fn (.func 228) [] [],.fn (.func 229) [] [],.fn (.func 230) [] [],.fn (.func 231) [] []]) (.i .u8 (IntKind.u8.wrap ((mode:Int)-1))) 6 1 false=some (.fn (.func (225+mode)) [] []):=by
 obtain rfl|rfl|rfl|rfl|rfl|rfl:mode=1\/mode=2\/mode=3\/mode=4\/mode=5\/mode=6:=by omega
 all_goals rfl
def ayF{mode:Nat}(c:1<=mode/\mode<=6){neg odd:Bool}{a:Int}{H:ab}{K:CR->Prop}:ac VS (225+mode) [.ag [.b neg,.b odd,.i .i64 a]] H K↔K (.ret (.b (iJ mode neg odd a)) H):=by
 have h:=@ayB mode c neg odd a;obtain rfl|rfl|rfl|rfl|rfl|rfl:mode=1\/mode=2\/mode=3\/mode=4\/mode=5\/mode=6:=by omega
 ·exact h.c TU rfl rfl (.inl rfl)
 ·exact h.c TW rfl rfl (.inl rfl)
 ·exact h.c TX rfl rfl (.inl rfl)
 ·exact h.c TY rfl rfl (.inl rfl)
 ·exact h.c TZ rfl rfl (.inl rfl)
 exact h.c T6 rfl rfl (.inl rfl)
section
variable{n1 n2:Int}{m1 m2:Nat}{d1 d2:D}
def acH(h1:Fr n1 m1 d1)(h2:Fr n2 m2 d2)(q:eL n1 m1)(d:eL n2 m2)(h0:0<n2){mode:Nat}(hm:1<=mode/\mode<=6):∃r,ai VS 128 [d1,d2,.i .u8 mode] r/\gD (nW mode (n1*m2) (m1*n2.natAbs)*n2) m2 r:=by
 have z:=acB h2;have ng:=acC h2;have bl:=acC h1;obtain⟨r1,rfl,v1,s1,t1,bb,b1⟩:=h1.rf q;obtain⟨r2,rfl,v2,s2,s,a2,G⟩:=h2.rf d;have u:=λ{H K}=>xf r1 r2 (H:=H) (K:=K);rw[v1,v2]at u;obtain⟨a,hN⟩:∃N:Nat,n2=N:=⟨n2.natAbs,by omega⟩;subst hN;have br:a≠0:=by omega
 have v:=eM a2;rw[show decide ((a:Int)<0)=false by simp]at s2 v;have S:a<cap 256:=d.bn;obtain⟨bt,q1,f⟩:=jy (cQ b1) v (aQ q.bm (by omega)) (aQ S (by omega));obtain⟨p,p1,p2⟩:=jy (eM bb) (cQ G) (aQ q.bn (by omega)) (aQ d.bm (by omega));rw[<-Int.natCast_mul]at f;have bd:m1*a≠0:=qq q.z br;have bp:(n1*(m2:Int)).natAbs+1<cap 512:=by rw[za];exact acF q.bn d.bm
 have bq:m1*a+1<cap 512:=acF q.bm S;obtain⟨kd,rd,k1,k2,k3⟩:=Aa p2 f bd (aQ (show _<cap 512 by omega) (by omega)) (aQ (show _<cap 512 by omega) (by omega));have nN:((a:Int)).natAbs=a:=rfl;rw[nN];obtain⟨X,hX⟩:∃X,X=n1*(m2:Int):=⟨_,rfl⟩;obtain⟨B,hB⟩:∃B,B=m1*a:=⟨_,rfl⟩;rw[<-hX]at p2 bp k2 k3⊢;rw[<-hB]at f bq k2 k3 bd⊢;have bz:decide (X<0)=decide (n1<0):=by
  have:m2≠0:=d.z;rw[hX];by_cases c:n1<0;·rw[Rp c,Rp];exact Int.mul_neg_of_neg_of_pos c (by omega)
  rw[N2 c,N2];exact ACU.2 (Int.mul_nonneg (by omega) (by omega))
 have hk:(X/(B:Int)).natAbs+1<cap 512:=by have:=@ayC X B;omega
 have cp:=Int.emod_nonneg X (show(B:Int)≠0 by omega);have b2:=Int.emod_lt_of_pos X (show(0:Int)<(B:Int)by omega);obtain⟨R,hR⟩:∃R:Nat,X%(B:Int)=R:=⟨(X%(B:Int)).toNat,by omega⟩;obtain⟨Q,hQ⟩:∃Q,Q=X/(B:Int):=⟨_,rfl⟩;rw[hR]at b2 k3;rw[<-hQ]at hk k2;have e1:=λ{H K}=>q1.c (H:=H) (K:=K) iw rfl (by simp[(cQ b1).pl,v.pl]) (.inl rfl);have e2:=λ{H K}=>p1.c (H:=H) (K:=K) iw rfl (by simp[(eM bb).pl,(cQ G).pl]) (.inl rfl);have e3:=λ{H K}=>k1.c (H:=H) (K:=K) vK rfl (by simp[p2.pl,f.pl]) (.inl rfl);rw[N2 (show¬(a:Int)=0 by omega)]at z;rw[N2 (show¬(a:Int)<0 by omega)]at ng;have I:=λ{H K}=>z.c (H:=H) (K:=K) G0 rfl (by simp[r2.pl]) (.inl rfl);have J:=λ{H K}=>ng.c (H:=H) (K:=K) G4 rfl (by simp[r2.pl]) (.inl rfl);have U:=λ{H K}=>bl.c (H:=H) (K:=K) G4 rfl (by simp[r1.pl]) (.inl rfl);have bf:∀{k:Int}{g:D},Wh k g->k.natAbs<cap 512->∃t,ai VS 179 [g,.ag [.b false,r2.x]] t/\Wh (k*a) t/\∃L r,ai VS 185 [t,.ag [.b false,r2.y]] L/\ai VS 186 [L] r/\gD (k*a) m2 r/\t.plain=true/\L.plain=true:=by intro k g hw j;obtain⟨t,t1,s⟩:=jy hw v j (aQ S (by omega));obtain⟨L,M,l⟩:=Ab s (cQ G) d.z (by rw[za];exact ko j S (by omega)) (aQ d.bm (by omega));exact⟨t,t1,s,L,_,M,Ac l,gD.of l,s.pl,l.pl⟩
 obtain⟨rx,rfl,V⟩:=k3.h;obtain⟨bx,rfl,hbx⟩:=f.h;rw[pj]at*;rw[pj]at*;have cR:((R:Int)).natAbs=R:=rfl;rw[cR]at V;have ao:¬(mode:Int)<1:=by omega
 have ap:¬6<(mode:Int):=by omega
 obtain⟨g,rfl,x⟩:=k2.h;by_cases bg:R=0
 ·have W:nW mode X B=Q:=by unfold nW;rw[E4 (by rw[hR];omega),hQ]
  obtain⟨t,aq,ar,u',r,M,l,u3,u4,u5⟩:=bf k2 (by omega);have Y:=λ{H K}=>aq.c (H:=H) (K:=K) iw rfl (by simp[k2.pl,v.pl]) (.inl rfl);have Z:=λ{H K}=>M.c (H:=H) (K:=K) qE rfl (by simp[u4,(cQ G).pl]) (.inl rfl);have y:=λ{H K}=>l.c (H:=H) (K:=K) sI rfl (by simp[u5]) (.inl rfl);obtain⟨c1,c2,c3,c4,e,rfl,f1,f2,f3,f4⟩:=u3.pl;rw[<-W]at u3;refine⟨_,.body (vf:=zC) BO rfl ?_,u3⟩;have A:=λm H=>ah f1 m H;have C:=λm H=>ah f2 m H;have E:=λm H=>ah f3 m H;have F:=λm H=>ah f4 m H;obtain⟨tx,rfl,ca⟩:=ar.h;have c0:¬(0:Int)<((ds 65536 R).length:Int):=by rw[bg];simp[bE]
  simp only[RF.d,RF.cells,s1,t1,s2,s]at u I J U⊢;simp(disch:=omega)only[go_sem,simprocAttr,L4,u,e1,e2,e3,I,J,Y,Z,y,A,C,E,F,ao,ap,V.sl.n,c0]
 have c0:(0:Int)<((ds 65536 R).length:Int):=by have:=ph aM bg;omega
 obtain⟨w,w1,w2⟩:=EC k3 k3 (by show R<_;exact aQ (show R<cap 512 by omega) (by omega)) (by show R<_;exact aQ (show R<cap 512 by omega) (by omega));have Y:=λ{H K}=>w1.c (H:=H) (K:=K) vL rfl (by simp[k3.pl]) (.inl rfl);have Z:=λ{H K}=>(act w2 f (aQ (show _<cap 513 by have q5:cap 513=cap 512*cap 1:=acE 512 1;have q6:cap 1=65536:=rfl;rw[q6]at q5;omega) (by omega)) (aQ (show B<cap 512 by omega) (by omega))).c (H:=H) (K:=K) GZ rfl (by simp[w2.pl,f.pl]) (.inl rfl);have a0:=λ{H K}=>@ayF mode hm (decide (n1<0)) (decide (Q.natAbs%2=1)) (di ((R:Int)+R) B) H K;have bi:=ayE hm;have cs:225+mode<4294967295:=by omega
 have W:nW mode X B=if iJ mode (decide (n1<0)) (decide (Q.natAbs%2=1)) (di ((R:Int)+R) B)then Q+1 else Q:=by unfold nW;rw[E1 (by rw[hR];omega),hR,<-hQ,bz]
 have bj:∀{k:Int}{P:D},nW mode X B=k->Wh k P->k.natAbs<cap 512->(∀b:Bool,b=iJ mode (decide (n1<0)) (decide (Q.natAbs%2=1)) (di ((R:Int)+R) B)->(b=false->P=.ag [.b (decide (Q<0)),g])/\(b=true->∃one,ai VS 123 [.i .i64 1] one/\ai VS 183 [.ag [.b (decide (Q<0)),g],one] P/\one.plain=true))->∃r,ai VS 128 [r1.d,r2.d,D.i IntKind.u8 ↑mode] r/\gD (nW mode X B*↑a) m2 r:=by
  intro k P cd ab ce a1;obtain⟨t,aq,ar,u',r,M,l,u3,u4,u5⟩:=bf ab ce;have ac:=λ{H K}=>aq.c (H:=H) (K:=K) iw rfl (by simp[ab.pl,v.pl]) (.inl rfl);have ad:=λ{H K}=>M.c (H:=H) (K:=K) qE rfl (by simp[u4,(cQ G).pl]) (.inl rfl);have y:=λ{H K}=>l.c (H:=H) (K:=K) sI rfl (by simp[u5]) (.inl rfl);obtain⟨c1,c2,c3,c4,e,rfl,f1,f2,f3,f4⟩:=u3.pl;rw[<-cd]at u3;refine⟨_,.body (vf:=zC) BO rfl ?_,u3⟩;have A:=λm H=>ah f1 m H;have C:=λm H=>ah f2 m H;have E:=λm H=>ah f3 m H;have F:=λm H=>ah f4 m H;obtain⟨tx,rfl,ca⟩:=ar.h;simp only[RF.d,RF.cells,s1,t1,s2,s]at u I J U⊢;by_cases bk:Q=0
  ·have d0:¬(0:Int)<((ds 65536 Q.natAbs).length:Int):=by rw[bk];simp[bE]
   rw[show decide (Q.natAbs%2=1)=false by rw[bk];rfl]at a0 a1;simp(disch:=omega)only[go_sem,simprocAttr,L4,u,e1,e2,e3,I,J,U,Y,Z,ao,ap,V.sl.n,c0,d0,x.sl.n,acG,bi,a0];obtain⟨hf,ht⟩:=a1 _ rfl;refine⟨λo=>?_,λo=>?_⟩;·obtain⟨one,o1,o2,o3⟩:=ht o;have a4:=λ{H K}=>o1.c (H:=H) (K:=K) sF rfl rfl (.inl rfl);have a5:=λ{H K}=>o2.c (H:=H) (K:=K) vL rfl (by simp[bO,cg,x.sl.flat,o3]) (.inl rfl);obtain⟨cf,rfl,ch⟩:=ab.h;simp(disch:=omega)only[go_sem,simprocAttr,a4,a5,ac,ad,y,A,C,E,F]
   have:=hf o;subst this;simp(disch:=omega)only[go_sem,simprocAttr,ac,ad,y,A,C,E,F]
  have d0:(0:Int)<((ds 65536 Q.natAbs).length:Int):=by have:=ph aM (n:=Q.natAbs) (by omega);omega
  have ct:=ayD (k:=Q.natAbs) (by omega);have ci:(0:Int)<=0/\(0:Int)<((ds 65536 Q.natAbs).length:Int):=⟨by omega,d0⟩;have cj:decide ((↑((ds 65536 Q.natAbs)[0]!):Int).tmod 2=1)=decide (Q.natAbs%2=1):=by
   rw[Int.tmod_eq_emod_of_nonneg (by omega)];by_cases c:Q.natAbs%2=1;·rw[Rp c,Rp];omega
   rw[N2 c,N2];omega
  have ck:D.under (0,[]) g=true:=x.sl.under _;simp(disch:=omega)only[go_sem,simprocAttr,L4,u,e1,e2,e3,I,J,U,Y,Z,ao,ap,V.sl.n,c0,d0,x.sl.n,x.sl.q,u16,ci,ck,adQ,cj,acG,bi,a0];obtain⟨hf,ht⟩:=a1 _ rfl;refine⟨λo=>?_,λo=>?_⟩;·obtain⟨one,o1,o2,o3⟩:=ht o;have a4:=λ{H K}=>o1.c (H:=H) (K:=K) sF rfl rfl (.inl rfl);have a5:=λ{H K}=>o2.c (H:=H) (K:=K) vL rfl (by simp[bO,cg,x.sl.flat,o3]) (.inl rfl);obtain⟨cf,rfl,ch⟩:=ab.h;simp(disch:=omega)only[go_sem,simprocAttr,a4,a5,ac,ad,y,A,C,E,F]
  have:=hf o;subst this;simp(disch:=omega)only[go_sem,simprocAttr,ac,ad,y,A,C,E,F]
 have cl:(Q+1).natAbs<cap 512:=by omega
 by_cases j:iJ mode (decide (n1<0)) (decide (Q.natAbs%2=1)) (di ((R:Int)+R) B)=true;·obtain⟨one,o1,o2⟩:=zZ (n:=1) (by omega);obtain⟨P,z1,z2⟩:=EC k2 o2 (aQ (show _<cap 512 by omega) (by omega)) (by show 1<_;exact hI (show 1<cap 1 by decide) (nV (by omega)));exact bj (by rw[W,E4 j]) z2 cl λb a6=>⟨λh=>absurd (a6.symm.trans h|>.symm.trans j|>.symm) (by simp),λ_=>⟨one,o1,z1,o2.pl⟩⟩
 exact bj (by rw[W,E1 j]) k2 (by omega) λb a6=>⟨λ_=>rfl,λh=>absurd (a6▸h) j⟩
end
end
section
open Go.Dm
set_option maxRecDepth 10000
def ayG{n:Int}{m g:Nat}(a:g=Nat.gcd n.natAbs m)(j:m≠0):g≠0/\n.tdiv g=n/g/\Nat.gcd (n/(g:Int)).natAbs (m/g)=1/\m/g≠0/\(n/(g:Int)).natAbs<=n.natAbs/\g<=m:=by
 have d:0<g:=by grind
 have e:g∣m:=by rw[a];exact Nat.gcd_dvd_right _ _
 have f:(g:Int)∣n:=Int.ofNat_dvd_left.2 (by rw[a];exact Nat.gcd_dvd_left _ _);obtain⟨c,b⟩:=f;have h:n/g=c:=by rw[b];exact ACE _ (by omega)
 have i:n.natAbs=g*c.natAbs:=by rw[b,za];rfl
 refine⟨by omega,Int.tdiv_eq_ediv_of_dvd ⟨c,b⟩,?_,?_,?_,Nat.le_of_dvd (by omega) e⟩
 ·rw[h];have:c.natAbs=n.natAbs/g:=by rw[i];exact(Nat.mul_div_cancel_left _ d).symm
  rw[this,a];exact Nat.gcd_div_gcd_div_gcd_of_pos_right (by omega)
 ·have:=ACd (Nat.le_of_dvd (by omega) e) d;omega
 exact AB6 _ _
def ayH{l m:List Nat}{x y:D}(a:Sl 1 (l.map u16) x)(c:Sl 1 (m.map u16) y)(u:l.length<70368744177665)(v:m.length<70368744177665):ai VS 79 [x,y] (.b (decide (l=m))):=by
 refine .body SZ rfl ?_;by_cases n:l.length=m.length
 ·have f:(l.length:Int)=m.length:=by omega
  simp[go_sem,ZM,a.n,c.n,f];refine ak.up (λi s=>∃o p,(∀j,j<i->l[j]! =m[j]!)/\s=⟨[x,y,.b false,.b false,o,p,.i .i64 i],[]⟩) l.length ⟨_,_,λj w=>by omega,rfl⟩ ?_;rintro i s hi⟨o,p,hs,rfl⟩;by_cases z:i<l.length
  ·have d:(i:Int)<l.length:=by omega
   have c3:(i:Int)<m.length:=by omega
   have q:(0:Int)<=i:=by omega
   have r:D.under (0,[]) x=true:=a.under _;have t:D.under (0,[]) y=true:=c.under _;by_cases g:l[i]! =m[i]!
   ·have h:(l[i]!:Int)=(m[i]!:Int):=by omega
    simp(disch:=omega)only[go_sem,KT,a.n,a.q,c.q,q,d,c3,r,t,u16,h,wr];grind
   have h:¬(l[i]!:Int)=m[i]!:=by omega
   have k:l≠m:=λe=>g (by rw[e]);simp only[go_sem,KT,a.n,a.q,c.q,q,d,c3,r,t,u16,h,k]
  have d:¬(i:Int)<l.length:=by omega
  have g:=ACB n λj A B=>by grind
  subst g;simp[go_sem,KT,a.n,d]
 have f:¬(l.length:Int)=m.length:=by omega
 have k:l≠m:=λe=>n (by rw[e]);simp[go_sem,ZM,a.n,c.n,f,k]
structure Vl where
 k:Nat
 f:RF
 i:Int
instance:Inhabited Vl:=⟨⟨0,default,0⟩⟩
def Vl.cells(v:Vl):List D:=[.i .u8 v.k,.b v.f.s,v.f.x,.b v.f.t,v.f.y,.i .i64 v.i]
def Vl.d(v:Vl):D:=.ag v.cells
def RF.eq(a b:RF):Bool:=((a.s==b.s)&&decide (a.l=b.l))&&((a.t==b.t)&&decide (a.m=b.m))
def Vl.eq(a b:Vl):Bool:=(decide (a.k=b.k)&&a.f.eq b.f)&&decide (a.i=b.i)
def Vl.pl(v:Vl):v.d.plain=true:=by simp[Vl.d,Vl.cells,bO,jj,cg,v.f.hx.flat,v.f.hy.flat]
end
section
open Go.Dm
set_option maxRecDepth 10000
inductive Zs where|n|z|i deriving Inhabited,DecidableEq
def Zs.d(w:Nat):Zs->D|.n=>.nil|.z=>.z|.i=>.im w []
def EE(w:Nat)(y:Zs)(rows:List (List D)):D:=match rows with|[]=>y.d w|r::a=>.im w (r::a)
def ayI(w:Nat)(y:Zs)(rows:List (List D)):Sl w rows (EE w y rows):=by cases rows with
 |nil=>cases y<;>first|exact .nil rfl|exact .z rfl|exact .im
 |cons r a=>exact .im
inductive Ex where|mk(op:Nat)(name:List UInt8)(v:Vl)(y:Zs)(args:List Ex)
instance:Inhabited Ex:=⟨.mk 0 [] default .n []⟩
def Ex.op:Ex->Nat|.mk o _ _ _ _=>o
def Ex.name:Ex->List UInt8|.mk _ n _ _ _=>n
def Ex.v:Ex->Vl|.mk _ _ v _ _=>v
def Ex.z:Ex->Zs|.mk _ _ _ y _=>y
def Ex.args:Ex->List Ex|.mk _ _ _ _ a=>a
mutual def Ex.row:Ex->List D|.mk o n v y a=>[.i .u8 o,.s n,.i .u8 v.k,.b v.f.s,v.f.x,.b v.f.t,v.f.y,.i .i64 v.i,EE 9 y (Ad a)]def Ad:List Ex->List (List D)|[]=>[]|e::l=>e.row::Ad l end
def Pw:∀l:List Ex,Ad l=l.map Ex.row|[]=>by simp[Ad]|e::l=>by rw[Ad,Pw l];rfl
def Ex.sl(e:Ex):D:=EE 9 e.z (e.args.map Ex.row)
theorem Ex.row_eq(e:Ex):e.row=[.i .u8 e.op,.s e.name,.i .u8 e.v.k,.b e.v.f.s,e.v.f.x,.b e.v.f.t,e.v.f.y,.i .i64 e.v.i,e.sl]:=by cases e;rw[Ex.row,Pw];rfl
def Ex.hsl(e:Ex):Sl 9 (e.args.map Ex.row) e.sl:=ayI 9 _ _
def Ex.d(e:Ex):D:=.ag e.row
def Ex.pl(e:Ex):e.d.plain=true:=by simp[Ex.d,Ex.row_eq,bO,jj,cg,lH,e.v.f.hx.flat,e.v.f.hy.flat,e.hsl.flat]
mutual def Ex.ind'{P:Ex->Prop}(h:∀e:Ex,(∀a∈e.args,P a)->P e):∀e:Ex,P e|.mk o n v y a=>h _ (Ex.indL h a)def Ex.indL{P:Ex->Prop}(h:∀e:Ex,(∀a∈e.args,P a)->P e):∀l:List Ex,∀a∈l,P a
 |[],_,b=>by cases b|e::l,a,b=>by
  rcases S2.1 b with q|q;·exact q▸Ex.ind' h e
  exact Ex.indL h l a q end
mutual def kq:Ex->Nat->Nat->Bool×Nat|.mk _ _ _ _ a,d,p=>if 200<p+1\/24<d then(false,p+1)else jz a (d+1) (p+1)def jz:List Ex->Nat->Nat->Bool×Nat|[],_,p=>(true,p)|e::l,d,p=>match kq e d p with|(true,q)=>jz l d q|(false,q)=>(false,q)end
def EF(e:Ex)(d p:Nat):kq e d p=if 200<p+1\/24<d then(false,p+1)else jz e.args (d+1) (p+1):=by cases e;rfl
def fU(e:Ex):Bool:=(kq e 1 0).1
def pm(p:Nat):ab:=[.hb 3 [.i .i64 (p:Int)],.hb 113 [.fn (.func 56) [] [.hp 0 0,.hp 1 0]]]
def acI:∀e:Ex,∀d p,p<=200->(kq e d p).1=true->(kq e d p).2<=200:=by
 refine Ex.ind' λe b d p c h=>?_;rw[EF]at h⊢;split at h;·cases h
 rename_i f;have:∀l,(∀a∈l,a∈e.args)->∀q,q<=200->(jz l (d+1) q).1=true->(jz l (d+1) q).2<=200:=by intro l;induction l<;>grind[jz,kq]
 grind
def ayJ:∀e:Ex,∀d p,p+1<=(kq e d p).2:=by
 refine Ex.ind' λe b d p=>?_;rw[EF];split;·omega
 have:∀l,(∀a∈l,a∈e.args)->∀q,q<=(jz l (d+1) q).2:=by intro l;induction l<;>grind[jz,kq]
 grind
def ayK:∀e:Ex,∀(d p:Nat),p<=200->d<=25->ac VS 56 [e.d,.i .i64 (d:Int),.hp 0 0,.hp 1 0] (pm p) (λr=>r=.ret (.b (kq e d p).1) (pm (kq e d p).2)):=by
 refine Ex.ind' λe j d p I J=>?_;rw[EF];refine .body akY rfl rfl ?_;have g0:∀q,(pm q)[0]?=some _:=λ_=>rfl;have g1:∀q,(pm q)[1]?=some _:=λ_=>rfl;have f:∀q x,(pm q).set 0 _=pm x:=λ_ _=>rfl;obtain⟨q,w⟩:∃q,q=p+1:=⟨_,rfl⟩;obtain⟨k,y⟩:∃k,k=d+1:=⟨_,rfl⟩;rw[<-w,<-y];have g:IntKind.i64.wrap (p+1)=q:=by grind[wr]
 have z:IntKind.i64.wrap (d+1)=k:=by grind[wr]
 simp only[Ex.d,Ex.row_eq]at j⊢;by_cases A:200<q
 ·have d1:(200:Int)<q:=by omega
  rw[E4 (.inl A)];simp[go_sem,Ku,g0,g,f,d1]
 have d1:¬(200:Int)<q:=by omega
 by_cases B:24<d
 ·have d2:(24:Int)<d:=by omega
  rw[E4 (.inr B)];simp[go_sem,Ku,g0,g,f,d2]
 have d2:¬(24:Int)<d:=by omega
 rw[E1 (by omega)];simp[go_sem,Ku,g0,g,f,d1,d2,e.hsl.n];refine ak.up (λi s=>∃l m n r,jz e.args k q=jz (e.args.drop i) k r/\(i<=r/\r<=200)/\s=⟨[.ag [.i .u8 e.op,.s _,.i .u8 e.v.k,.b _,e.v.f.x,.b _,e.v.f.y,.i .i64 e.v.i,e.sl],.i .i64 d,.hp 0 0,.hp 1 0,.b false,.b false,l,m,.bx [.i .u8 e.op,.s _,.i .u8 e.v.k,.b _,e.v.f.x,.b _,e.v.f.y,.i .i64 e.v.i,e.sl],.i .i64 i,.i .i64 _,e.sl,n],pm r⟩) e.args.length ⟨_,_,_,q,rfl,⟨by omega,by omega⟩,rfl⟩ ?_;rintro i s hi⟨l,m,n,r,hr,⟨L,o⟩,rfl⟩;by_cases c:i<e.args.length
 ·have c3:(i:Int)<e.args.length:=by omega
  have C:(0:Int)<=i:=by omega
  obtain⟨a,h⟩:∃a,a=e.args[i]!:=⟨_,rfl⟩;have E:a∈e.args:=by rw[h,Hy _ i c];exact hY _
  have F:e.args.drop i=a::e.args.drop (i+1):=by rw[h,Hy _ i c];exact oz c
  rw[F,jz]at hr;have G:=λ{K}=>ED (j a E k r o (by omega)) (K:=K);have u:=acI a k r o;have v:=ayJ a k r;simp(disch:=omega)only[go_sem,ZA,e.hsl.q,C,c3,<-h,Ex.row_eq,g1,z];rw[iu (by decide)];simp[bN,U3];rw[G];cases H:kq a k r with|mk b t=>rw[H]at hr u v;cases b with|false=>rw[hr];simp[go_sem]|true=>simp(disch:=omega)[go_sem,wr];exact⟨c,_,_,_,t,hr,⟨by show i+1<=t;have:r+1<=t:=v;omega,u rfl⟩,⟨rfl,rfl,rfl⟩,rfl⟩
 have c3:¬(i:Int)<e.args.length:=by omega
 rw[dn (by omega),jz]at hr;rw[hr];simp[go_sem,ZA,c3]
def ayL(e:Ex):ai VS 36 [e.d] (.b (fU e)):=by have a:=λ{K}=>ED (ayK e 1 0 (by omega) (by omega)) (K:=K);have g1:(pm 0)[1]?=some _:=rfl;refine .body SM rfl ?_;have c:[an.hb 3 [.i .i64 0],.hb 113 [.fn (.func 56) [] [.hp 0 0,.hp 1 0]]]=pm 0:=rfl;simp only[Ex.d,Ex.row_eq]at a⊢;simp(disch:=omega)[go_sem,auM,c,g1];rw[iu (by decide)];refine a.2 ?_;simp[go_sem];rfl
end
section
open Go.Dm
set_option maxRecDepth 10000
theorem RF.same_c (a b:RF) {H:ab} {K:CR -> Prop}:ac VS 108 [a.d,b.d] H K↔K (.ret (.b (a.eq b)) H) :=
 (ayz a b).c Td rfl (by simp[a.pl,b.pl]) (.inl rfl)
def RF.zero (a:RF):Bool:=a.eq default
theorem RF.zero_c (a:RF) {H:ab} {K:CR -> Prop}:ac VS 108 [.ag [.b a.s,a.x,.b a.t,a.y],.ag [.b false,.nil,.b false,.nil]] H K↔K (.ret (.b a.zero) H):=RF.same_c a default
theorem RF.vc (a:RF) {H:ab} {K:CR -> Prop}:ac VS 102 [.ag [.b a.s,a.x,.b a.t,a.y]] H K↔K (.ret (.b a.v) H):=a.valid_c
def Vl.valid (v:Vl):Bool :=
 if v.k=2 \/ v.k=3 then decide (v.i=0)&&v.f.v
 else if v.k=1 then v.f.zero&&decide (0 <= v.i /\ v.i <= 1)
 else if v.k=4 then v.f.zero&&decide (0 <= v.i /\ v.i<65536)
 else if v.k=5 \/ v.k=6 then v.f.zero&&decide (-1048576 <= v.i /\ v.i <= 1048576)
 else false
theorem Px (v:Vl):ai VS 80 [v.d] (.b v.valid):=by
  have e1:=fun{H K}=>v.f.vc (H:=H) (K:=K)
  have e2:=fun{H K}=>v.f.zero_c (H:=H) (K:=K)
  refine .body BK rfl ?_
  unfold Vl.valid
  simp only[Vl.d,Vl.cells]
  by_cases k2:v.k=2
  · by_cases c:v.i=0<;>simp  [go_sem,lP,e1,k2,c,wy]
  by_cases k3:v.k=3
  · by_cases c:v.i=0<;>simp  [go_sem,lP,e1,k3,c,wy]
  have n2 : ¬ (v.k:Int)=2:=by omega
  have n3 : ¬ (v.k:Int)=3:=by omega
  rw[E1 (by omega)]
  by_cases k1:v.k=1
  · cases hz:v.f.zero with
    | false=>rw[hz]at e2;simp  [go_sem,simprocAttr,lP,e2,k1]
    | true =>
      rw[hz]at e2
      by_cases c:0 <= v.i
      · simp  [go_sem,simprocAttr,lP,e2,k1,c]
      · simp  [go_sem,simprocAttr,lP,e2,k1,c,false_and]
  have n1 : ¬ (v.k:Int)=1:=by omega
  rw[E1 k1]
  by_cases k4:v.k=4
  · cases hz:v.f.zero with
    | false=>rw[hz]at e2;simp  [go_sem,simprocAttr,lP,e2,k4]
    | true =>
      rw[hz]at e2
      by_cases c:0 <= v.i
      · simp  [go_sem,simprocAttr,lP,e2,k4,c]
      · simp  [go_sem,simprocAttr,lP,e2,k4,c,false_and]
  have n4 : ¬ (v.k:Int)=4:=by omega
  rw[E1 k4]
  have go56:(v.k=5 \/ v.k=6) -> ak VS qZ.body ⟨[.ag [.i .u8 v.k,.b v.f.s,v.f.x,.b v.f.t,v.f.y,.i .i64 v.i]]++uu (qZ.nsl-qZ.npar),[]⟩ (du qZ.res (fE qZ.own (· = .ret (.b (v.f.zero&&decide (-1048576 <= v.i /\ v.i <= 1048576)))))):=by
    intro hk
    cases hz:v.f.zero with
    | false =>
      rw[hz]at e2
      rcases hk with k|k<;>simp  [go_sem,lP,e2,k]
    | true =>
      rw[hz]at e2
      by_cases c : -1048576 <= v.i
      · rcases hk with k|k<;>simp  [go_sem,lP,e2,k,c]
      · rcases hk with k|k<;>simp  [go_sem,lP,e2,k,c,false_and]
  by_cases k5:v.k=5 \/ v.k=6
  · grind
  · have n5 : ¬ (v.k:Int)=5:=by omega
    have n6 : ¬ (v.k:Int)=6:=by omega
    rw[E1 k5]
    simp  [go_sem,simprocAttr,lP,n1,n2,n3,n4,n5,n6]
end
section
open Go.Dm
set_option maxRecDepth 10000
structure NV where
 k:Nat
 n:Int
 m:Nat
 i:Int deriving DecidableEq
instance:Inhabited NV:=⟨⟨0,0,0,0⟩⟩
structure VD(v:NV)(d:D):Prop where h:∃x y,d=.ag [.i .u8 v.k,.b (decide (v.n<0)),x,.b false,y,.i .i64 v.i]/\bc v.n.natAbs x/\bc v.m y
structure NV.ok(v:NV):Prop where
 k:1<=v.k/\v.k<=6
 f:v.k=2\/v.k=3->eL v.n v.m/\v.i=0
 o:¬(v.k=2\/v.k=3)->v.n=0/\v.m=0
 t:v.k=1->0<=v.i/\v.i<=1
 d:v.k=4->0<=v.i/\v.i<65536
 c:v.k=5\/v.k=6->-1048576<=v.i/\v.i<=1048576
def VD.pl{v:NV}{d:D}(h:VD v d):d.plain=true:=by obtain⟨x,y,rfl,a,b⟩:=h.h;simp[bO,jj,cg,a.sl.flat,b.sl.flat]
def NV.ok.rng{v:NV}(h:v.ok):-1048576<=v.i/\v.i<=1048576:=by
 by_cases a:v.k=2\/v.k=3;·have:=(h.f a).2;omega
 by_cases b:v.k=1;·have:=h.t b;omega
 by_cases c:v.k=4;·have:=h.d c;omega
 have:=h.k;exact h.c (by omega)
def xh{x:D}(h:Sl 1 [] x):bc 0 x:=⟨by grind[bE]⟩
def Vl.nv(v:Vl):NV:=⟨v.k,lh v.f.s v.f.l,vl 65536 v.f.m,v.i⟩
def RF.zero_n{f:RF}(h:f.zero=true):f.s=false/\f.l=[]/\f.t=false/\f.m=[]:=by unfold RF.zero RF.eq at h;simp[D0,X0,Hq]at h;obtain⟨⟨a,b⟩,c,d⟩:=h;exact⟨a,b,c,d⟩
def Vl.nv_ok{v:Vl}(h:v.valid=true):VD v.nv v.d/\v.nv.ok:=by
 have n:v.f.zero=true->¬(v.k=2\/v.k=3)->VD v.nv v.d/\v.nv.n=0/\v.nv.m=0:=λq _=>by
  obtain⟨g,i,o,p⟩:=RF.zero_n q;have j:v.nv.n=0:=by show lh v.f.s v.f.l=0;rw[g,i];rfl
  have k:v.nv.m=0:=by show vl 65536 v.f.m=0;rw[p];rfl
  have l:=v.f.hx;have m:=v.f.hy;rw[i]at l;rw[p]at m;refine⟨⟨v.f.x,v.f.y,?_,?_,?_⟩,j,k⟩;·rw[j];simp only[Vl.d,Vl.cells,Vl.nv,g,o];rfl
  ·rw[j];exact xh l
  rw[k];exact xh m
 unfold Vl.valid at h;split at h
 ·rename_i f;simp[D0,Hq]at h;obtain⟨hi,r⟩:=h;obtain⟨g,i⟩:=v.f.fr r;obtain⟨x,y,e,l,m⟩:=g.h;simp only[RF.d,RF.cells,D.ag.injEq,s0,and_true]at e;obtain⟨j,k,s,t⟩:=e;subst k t;refine⟨⟨v.f.x,v.f.y,?_,l,m⟩,⟨?_,λ_=>⟨i,hi⟩,λd=>(d f).elim,λd=>?_,λd=>?_,λd=>?_⟩⟩;·simp only[Vl.d,Vl.cells,Vl.nv,j,s];rfl
  ·show 1<=v.k/\v.k<=6;omega
  all_goals(have d:v.nv.k=v.k:=rfl;omega)
 rename_i f;have u:v.nv.k=v.k:=rfl;split at h;·rename_i g;simp[D0,Hq]at h;obtain⟨a,b,c⟩:=n h.1 f;exact⟨a,⟨by omega,λd=>(f d).elim,λ_=>⟨b,c⟩,λ_=>h.2,λd=>by omega,λd=>by omega⟩⟩
 split at h;·rename_i g i;simp[D0,Hq]at h;obtain⟨a,b,c⟩:=n h.1 f;exact⟨a,⟨by omega,λd=>(f d).elim,λ_=>⟨b,c⟩,λd=>by omega,λ_=>h.2,λd=>by omega⟩⟩
 split at h;·rename_i g i o;simp[D0,Hq]at h;obtain⟨a,b,c⟩:=n h.1 f;exact⟨a,⟨by omega,λd=>(f d).elim,λ_=>⟨b,c⟩,λd=>by omega,λd=>by omega,λ_=>h.2⟩⟩
 grind
theorem VD.vl{v:NV}{d:D}(h:VD v d)(c:v.ok):∃a:Vl,a.d=d/\a.k=v.k/\a.i=v.i/\a.f.s=decide (v.n<0)/\a.f.l=ds 65536 v.n.natAbs/\a.f.t=false/\a.f.m=ds 65536 v.m:=by
 obtain⟨x,y,rfl,a,b⟩:=h.h;have e:(ds 65536 v.n.natAbs).length<70368744177665/\(ds 65536 v.m).length<70368744177665:=by
  by_cases f:v.k=2\/v.k=3;·have:=(c.f f).1;exact⟨mQ this.bn (by omega),mQ this.bm (by omega)⟩
  obtain⟨g,i⟩:=c.o f;rw[g,i,show(0:Int).natAbs=0 from rfl,bE];exact⟨by simp,by simp⟩
 exact⟨⟨v.k,⟨decide _,x,false,y,ds 65536 _,ds 65536 v.m,a.sl,b.sl,co aM _,co aM _,e.1,e.2⟩,v.i⟩,rfl,rfl,rfl,rfl,rfl,rfl,rfl⟩
theorem uz{a b:Nat}:ds 65536 a=ds 65536 b↔a=b:=⟨λh=>by grind[bF],λh=>by rw[h]⟩
theorem ayM{a b:Int}{c e:Nat}:(((decide (a<0)==decide (b<0))&&decide (ds 65536 a.natAbs=ds 65536 b.natAbs))&&((false==false)&&decide (ds 65536 c=ds 65536 e)))=decide (a=b/\c=e):=by grind[uz]
def acJ{v w:NV}{d e:D}(h:VD v d)(j:VD w e)(l:v.ok)(o:w.ok):ai VS 107 [d,e] (.b (decide (v=w))):=by
 obtain⟨a,rfl,p,q,x,y,z,A⟩:=h.vl l;obtain⟨b,rfl,r,s,B,C,E,F⟩:=j.vl o;have c:=λ{H K}=>RF.same_c a.f b.f (H:=H) (K:=K);have e:a.f.eq b.f=decide (v.n=w.n/\v.m=w.m):=by grind[RF.eq,ayM]
 rw[e]at c;refine .body yr rfl ?_;simp only[RF.d,RF.cells,Vl.d,Vl.cells]at c⊢;obtain⟨k,n,m,i⟩:=v;obtain⟨t,G,I,u⟩:=w;simp only at p q r s c;by_cases f:k=t
 ·have d1:(a.k:Int)=b.k:=by omega
  by_cases g:i=u
  ·have d2:a.i=b.i:=by omega
   simp[go_sem,simprocAttr,wS,d1,d2,c,NV.mk.injEq,f,g]
  have d2:¬a.i=b.i:=by omega
  simp[go_sem,simprocAttr,wS,d2,NV.mk.injEq,g,and_false]
 have d1:¬(a.k:Int)=b.k:=by omega
 simp[go_sem,simprocAttr,wS,d1,NV.mk.injEq,f,false_and]
def eO(e:Int):D:=.ifc 153 (.ag [.i .i64 e])
def EG(V:aw)(f:FuncId)(ds:List D)(p:D):Prop:=aH V f ds (·=.pan p)
theorem EG.c{V:aw}{f:FuncId}{vf:aJ}{ds:List D}{p:D}{H:ab}{K:CR->Prop}(h:EG V f ds p)(a:V.fn f=some vf)(b:vf.pure=true)(c:vf.own=false)(d:ds.all D.plain=true):ac V f ds H K↔K (.pan p H):=ED (ac.pl a b c d (h.mono λr hr=>by grind))
inductive NR where|ok(v:NV)|er(e:Int)
def lS:NR->PR->Prop|.ok v,.ret d=>VD v d/\v.ok|.er e,.pan d=>d=eO e|_,_=>False
@[go_sem]def aDV{v:NV}{d:D}:lS (.ok v) (.ret d)↔VD v d/\v.ok:=W0
variable{x:Int}
@[go_sem]def aDW{d:D}:lS (.er x) (.pan d)↔d=eO x:=W0
theorem VD.cells{v:NV}{d:D}(h:VD v d):∃s x t y,d=.ag [.i .u8 v.k,s,x,t,y,.i .i64 v.i]/\s.flat=true/\x.flat=true/\t.flat=true/\y.flat=true:=by obtain⟨x,y,rfl,a,b⟩:=h.h;exact⟨_,_,_,_,rfl,rfl,a.sl.flat,rfl,b.sl.flat⟩
def ac.ans{f:FuncId}{j:aJ}{ds:List D}{g:NR}{H:ab}{K:CR->Prop}(h:aH VS f ds (lS g))(k:VS.fn f=some j)(l:j.pure=true)(m:j.own=false)(n:ds.all D.plain=true)(o:∀v s x t y,g=.ok v->s.flat=true->x.flat=true->t.flat=true->y.flat=true->VD v (.ag [.i .u8 v.k,s,x,t,y,.i .i64 v.i])->v.ok->K (.ret (.ag [.i .u8 v.k,s,x,t,y,.i .i64 v.i]) H))(p:∀e,g=.er e->K (.pan (eO e) H)):ac VS f ds H K:=by refine ac.pl k l m n (h.mono λr hr=>?_);cases g with
 |ok v=>cases r with|ret d=>obtain⟨s,x,t,y,rfl,a,b,c,e⟩:=hr.1.cells;exact o v s x t y rfl a b c e hr.1 hr.2|pan d=>exact hr.elim|bad=>exact hr.elim
 |er e=>cases r with|ret d=>exact hr.elim|pan d=>rw[hr];grind|bad=>exact hr.elim
@[go_sem]def aDX{H:ab}:Dm.bS 12 H (eO x)=some (eO x,H):=rfl
@[go_sem]def aDY{d:D}{H:ab}:(∃x,(d,H)=(d,x))↔True:=by grind
def ayN:EG VS 58 [.i .i64 x] (eO x):=by refine .body SQ rfl ?_;simp only[go_sem,au0];exact⟨_,⟨_,rfl⟩,rfl⟩
def eZ{e:Int}{H:ab}{K:CR->Prop}:ac VS 58 [.i .i64 e] H K↔K (.pan (eO e) H):=ayN.c SQ rfl rfl rfl
def lq{H:ab}{K:CR->Prop}:ac VS 88 [.i .i64 0] H K↔K (.ret (.tu []) H):=by refine ai.c (.body BL rfl ?_) BL rfl rfl (.inl rfl);simp[go_sem,ZS]
def kr{e:Int}(h:e≠0){H:ab}{K:CR->Prop}:ac VS 88 [.i .i64 e] H K↔K (.pan (eO e) H):=by have a:=λ{H K}=>eZ (e:=e) (H:=H) (K:=K);refine EG.c (.body BL rfl ?_) BL rfl rfl rfl;simp[go_sem,ZS,h,a]
def dI(b:Bool):NV:=⟨1,0,0,if b then 1 else 0⟩
def mR(b:Bool):D:=.ag [.i .u8 1,.b false,.nil,.b false,.nil,.i .i64 (if b then 1 else 0)]
def uo(b:Bool):VD (dI b) (mR b)/\(dI b).ok:=⟨⟨.nil,.nil,rfl,xh (.nil rfl),xh (.nil rfl)⟩,⟨⟨G1 1,by show 1<=6;decide⟩,λh=>(by grind[dI]),λ_=>⟨rfl,rfl⟩,λ_=>(by cases b<;>decide),λh=>(by cases h),λh=>(by grind[dI])⟩⟩
def ayO(b:Bool):ai VS 59 [.b b] (mR b):=by refine .body SR rfl ?_;cases b<;>simp[go_sem,au1]<;>rfl
def pq{b:Bool}{H:ab}{K:CR->Prop}:ac VS 59 [.b b] H K↔K (.ret (mR b) H):=(ayO b).c SR rfl rfl (.inl rfl)
def rn(k:Nat)(n:Int):NR:=if n< -1048576\/1048576<n then .er 3 else .ok ⟨k,0,0,n⟩
def rp(n:Int):NR:=if n<0\/65536<=n then .er 30 else .ok ⟨4,0,0,n⟩
theorem NV.plain_ok{k:Nat}{n:Int}(d:k=4\/k=5\/k=6)(a:k=4->0<=n/\n<65536)(c:k≠4->-1048576<=n/\n<=1048576):VD ⟨k,0,0,n⟩ (.ag [.i .u8 k,.b false,.nil,.b false,.nil,.i .i64 n])/\(⟨k,0,0,n⟩:NV).ok:=⟨⟨.nil,.nil,rfl,xh (.nil rfl),xh (.nil rfl)⟩,⟨by grind,λh=>(by grind),λ_=>⟨rfl,rfl⟩,λh=>(by grind),λh=>a h,λh=>c (by grind)⟩⟩
def EH{k:Nat}{n:Int}(d:k=5\/k=6):aH VS 89 [.i .u8 k,.i .i64 n] (lS (rn k n)):=by
 unfold rn;have c:=λ{H K}=>eZ (e:=3) (H:=H) (K:=K);by_cases a:n< -1048576;·rw[E4 (.inl a)];refine aH.body oJ rfl ?_;simp[go_sem,Ld,a,c]
 by_cases b:1048576<n;·rw[E4 (.inr b)];refine aH.body oJ rfl ?_;simp[go_sem,Ld,b,c]
 rw[E1 (by omega)];refine aH.body oJ rfl ?_;simp[go_sem,simprocAttr,Ld,a,b];grind[NV.plain_ok]
def Py{n:Int}:aH VS 93 [.i .i64 n] (lS (rp n)):=by
 unfold rp;have c:=λ{H K}=>eZ (e:=30) (H:=H) (K:=K);by_cases a:n<0;·rw[E4 (.inl a)];refine aH.body qC rfl ?_;simp[go_sem,Lj,a,c]
 by_cases b:65536<=n;·rw[E4 (.inr b)];refine aH.body qC rfl ?_;simp[go_sem,Lj,b,c]
 rw[E1 (by omega)];refine aH.body qC rfl ?_;simp[go_sem,simprocAttr,Lj,a,b];grind[NV.plain_ok]
end
section
open Go.Dm
set_option maxRecDepth 10000
def ic(a:Nat):Int×Int:=if a=1\/a=2 then(0,0)else if a=5 then(1,1)else if a=6 then(1,2)else if a=15\/a=16 then(2,2)else if a=18 then(3,3)else if a=3\/a=4\/a=17\/a=24\/a=25\/a=26 then(1,1)else if a=22 then(3,3)else if 7<=a/\a<=23 then(2,2)else(1,0)
def Ae(a:Nat):D:=.tu [.i .i64 (ic a).1,.i .i64 (ic a).2]
def ayP:(List.range 256).map (λa:Nat=>dh VS 20 81 [.i .u8 (a:Int)])=(List.range 256).map (λa:Nat=>PR.ret (Ae a)):=by kernel_rfl
variable{e:Nat}
def ayQ(h:e<256):ai VS 81 [.i .u8 e] (Ae e):=by refine⟨20,?_⟩;have:=ka (λl=>l[e]?) ayP;simp_all
def acK{op:Nat}(h:op<256){H:ab}{K:CR->Prop}:ac VS 81 [.i .u8 op] H K↔K (.ret (Ae op) H):=(ayQ h).c ak7 rfl rfl (.inl rfl)
def Ex.formed(e:Ex):Bool:=(if e.op=1 then e.v.valid else true)&&decide ((ic e.op).1<=e.args.length/\e.args.length<=(ic e.op).2)
def uq(e:Ex)(h:e.op<256):ai VS 57 [e.d] (.b e.formed):=by
 have d:=λ{H K}=>(Px e.v).c (H:=H) (K:=K) BK rfl (by simp[e.v.pl]) (.inl rfl);have a:=λ{H K}=>acK h (H:=H) (K:=K);refine .body qB rfl ?_;unfold Ex.formed;simp only[Ex.d,Ex.row_eq,Vl.d,Vl.cells,Ae]at d a⊢;by_cases g:e.op=1;·have a:=λ{H K}=>acK (op:=1) (by omega) (H:=H) (K:=K);simp[Ae,Int.natCast_one]at a;cases i:e.v.valid with|false=>rw[i]at d;simp[go_sem,simprocAttr,zw,d,g]|true=>
  rw[i]at d;by_cases f:(ic 1).1<=e.args.length;·simp[go_sem,simprocAttr,zw,d,a,g,f,e.hsl.n]
  simp[go_sem,simprocAttr,zw,d,a,g,f,e.hsl.n,false_and]
 have d1:¬(e.op:Int)=1:=by omega
 by_cases f:(ic e.op).1<=e.args.length;·simp[go_sem,simprocAttr,zw,a,d1,g,f,e.hsl.n]
 simp[go_sem,simprocAttr,zw,a,d1,f,e.hsl.n,false_and]
def Af:List UInt8:=[32]
inductive Splits:List UInt8->List (List UInt8)->Prop where|nil:Splits [] []|cons{r p q:List UInt8}{ps:List (List UInt8)}{b:Bool}:r≠[]->r.length<1000->Lib.cut r Af=(p,q,b)->Splits q ps->Splits r (p::ps)
def EI:Nat->List (List UInt8)|3|4|26=>[[52]]|6=>[[50],[50,50]]|7=>[[50,50],[51,51],[53,53],[54,54],[52,53],[52,54]]|8=>[[50,50],[51,51],[53,53],[54,54],[52,52],[52,53],[52,54]]|9=>[[50,50],[51,50],[50,51]]|10=>[[50,50],[51,51],[51,50]]|11|12|13=>[[50,50],[51,51],[52,52],[53,53],[54,54]]|14=>[[49,49],[50,50],[51,51],[52,52],[53,53],[54,54]]|17=>[[49]]|19=>[[50,50],[51,51]]|20|21|23=>[[52,52]]|22=>[[52,52,54]]|24=>[[50]]|25=>[[50],[51],[53],[54]]|_=>[]
def EJ:Nat->List UInt8->Option (List (List UInt8))|0,_=>none|n+1,r=>if r=[]then some []else if r.length<1000 then match EJ n (Lib.cut r Af).2.1 with|some a=>some ((Lib.cut r Af).1::a)|none=>none else none
def acL:∀(n:Nat)(r:List UInt8)(a:List (List UInt8)),EJ n r=some a->Splits r a
 |0,_,_,h=>by cases h|n+1,r,a,h=>by
  unfold EJ at h;split at h;·rename_i e;cases h;subst e;exact .nil
  split at h
  ·rename_i e l;split at h;·rename_i c b;cases h;exact .cons e l rfl (acL n _ _ b)
   grind
  grind
def ayR:(List.range 27).map (λa=>EJ 20 mM[a]!)=(List.range 27).map (λa=>some (EI a)):=by kernel_rfl
def ayS(h:e<27):Splits mM[e]! (EI e):=by refine acL 20 _ _ ?_;have:=ka (λl=>l[e]?) ayR;grind
def Pz(c:UInt8):Int:=IntKind.u8.wrap ((c.toNat:Int)-48)
def xi(a:List Nat)(s:List UInt8):Bool:=decide (s.length=a.length/\∀j,j<a.length->Pz s[j]! =(a[j]!:Int))
def cm(a:Nat)(b:List Nat):Bool:=decide (a<27)&&(decide (b≠[])&&(EI a).any (xi b))
def ayT{s t:List UInt8}(h:s.length<Pe){H:ab}{K:CR->Prop}:ac VS 109 [.s s,.s t] H K↔K (.ret (.tu [.s (Lib.cut s t).1,.s (Lib.cut s t).2.1,.b (Lib.cut s t).2.2]) H):=ac.beside (by kernel_rfl) (by decide) (by show zR s t H=_;grind[zR])
theorem ayU:mM.length=27:=by kernel_rfl
def ayV(h:e<27):n9 (VS.glob 0) (.i .u8 e) 27 1=some (.ip [.s mM[e]!]):=by
 show n9 (some _) _ _ _=_;have a:(mM.map λs=>[D.s s])[e]?=some [.s mM[e]!]:=by grind[ayU,mM]
 grind[fh,n9]
structure Inn(ks:List Nat)(s:List UInt8)(i:Nat)(b:Bool):Prop where e:b=decide (s.length=ks.length/\∀j,j<i->Pz s[j]! =(ks[j]!:Int))
section
variable{x:D}{α:Type}[Inhabited α]{enc:α->List D}{kd:α->Nat}{l:List α}
variable{y z a b c d:D}
def ayX(k:∀a,∃r,enc a=.i .u8 (kd a)::r/\r.length=5)(h:Sl 6 (l.map enc) x)(B:l.length<100){p:List UInt8}{e f g:D}{Q:Dm.Ex->St->Prop}(C:∀e m,Q (.ex 2) ⟨[y,x,z,c,d,e,f,g,.s p,.b (xi (l.map kd) p),m],[]⟩):ak VS (.loop KV) ⟨[y,x,z,c,d,e,f,g,.s p,.b (decide ((p.length:Int)=(l.length:Int))),.i .i64 0],[]⟩ Q:=by
 refine ak.up (λi s=>∃(b:Bool)(e:D),Inn (l.map kd) p i b/\s=⟨[y,x,z,c,d,e,f,g,.s p,.b b,.i .i64 i],[]⟩) l.length ⟨_,_,⟨?_⟩,rfl⟩ ?_;·grind
 rintro i s hi⟨b,E,⟨n⟩,rfl⟩;have done:i=l.length\/b=false->xi (l.map kd) p=b:=λF=>by grind[xi]
 cases b with|false=>simp[go_sem,KW];grind|true=>
 have o:=hO n.symm;rw[T3]at o;by_cases q:i<l.length
 ·have j:(i:Int)<l.length:=by omega
  have t:(0:Int)<=i:=by omega
  have u:(i:Int)<p.length:=by omega
  obtain⟨r,hr,G⟩:=k l[i]!;have v:D.under (0,[]) x=true:=h.under _;have w:IntKind.u8.wrap _=Pz p[i]!:=rfl;have A:IntKind.i64.wrap (i+1)=((i+1:Nat)):=by grind[wr]
  simp only[go_sem,simprocAttr,KW,h.n,h.q,t,j,u,v,hr,w,A];refine⟨q,⟨?_⟩⟩;grind
 have j:¬(i:Int)<(l.length:Int):=by omega
 simp[go_sem,KW,h.n,j];grind
def ayY(F:∀a,∃r,enc a=.i .u8 (kd a)::r/\r.length=5)(h:Sl 6 (l.map enc) x)(Q:e<256)(G:l.length<100):ai VS 82 [.i .u8 e,x] (.b (cm e (l.map kd))):=by
 refine .body S0 rfl ?_;unfold cm;have g:IntKind.i64.wrap _=e:=wr (by omega) (by omega);by_cases d:e<27
 ·have d1:¬27<=(e:Int):=by omega
  have I:=ayV d;by_cases J:l=[];·subst J;simp only[go_sem,KY,g,d1,h.n,d];rfl
  have c3:¬(l.length:Int)=0:=by simp_all
  have S:l.map kd≠[]:=by simp_all
  simp only[go_sem,KY,g,d1,h.n,d,c3,I];have hs:=ayS d;obtain⟨r0,o⟩:∃r0,r0=mM[e]!:=⟨_,rfl⟩;obtain⟨f,u⟩:∃f,f=EI e:=⟨_,rfl⟩;rw[<-o,<-u]at hs;rw[<-o,<-u];refine ak.loop (λk s=>∃(c:List _)(rest:List UInt8)(v w y z A B C:D),c.length=k/\Splits rest c/\f.any _=c.any (xi (l.map kd))/\s=⟨[.i .u8 _,x,.b false,v,w,y,z,.s rest,A,B,C],[]⟩) _ ⟨f,r0,_,_,_,_,_,_,_,rfl,hs,rfl,rfl⟩ ?_;rintro k s⟨c,rest,v,w,y,z,A,B,C,L,j,m,rfl⟩;cases j with|nil=>simp[go_sem,ZP,m,List.any_nil]|cons M N P j=>rename_i p q c b;have n:=λ{H K}=>ayT (t:=Af) (hI N (by decide)) (H:=H) (K:=K);rw[P]at n;simp[Af]at n;simp only[go_sem,ZP,M,n,h.n];refine ayX F h G (λU V=>?_);cases E:xi (l.map kd) p with|true=>simp only[go_sem,m,List.any_cons,E,ACF];grind|false=>
  simp only[go_sem];refine⟨c.length,?_,c,rfl,q,j,?_⟩;·rw[<-L];exact Nat.lt_succ_self _
  simp only[m,List.any_cons,E,ABP,and_self]
 have d1:27<=(e:Int):=by omega
 simp[go_sem,KY,g,d1,d]
end
end
section
open Go.Dm
set_option maxRecDepth 10000
def ur(x y:NV):Int:=if x.k=2\/x.k=3 then di (x.n*y.m) (y.n*x.m)else if x.i<y.i then-1 else if y.i<x.i then 1 else 0
def pr(k:Nat)(a:Int)(b:Nat):NR:=if(a/(Nat.gcd a.natAbs b:Nat)).natAbs<cap 256/\b/Nat.gcd a.natAbs b<cap 256 then .ok ⟨k,a/(Nat.gcd a.natAbs b:Nat),b/Nat.gcd a.natAbs b,0⟩else .er 3
structure FD(v:NV)(s x t y:D):Prop where f:Fr v.n v.m (.ag [s,x,t,y])
def VD.cs{v:NV}{d:D}(h:VD v d):∃s x t y,d=.ag [.i .u8 v.k,s,x,t,y,.i .i64 v.i]/\Fr v.n v.m (.ag [s,x,t,y]):=by obtain⟨x,y,rfl,a,b⟩:=h.h;exact⟨_,_,_,_,rfl,⟨x,y,rfl,a,b⟩⟩
def VD.of{v:NV}{s x t y:D}(h:Fr v.n v.m (.ag [s,x,t,y])):VD v (.ag [.i .u8 v.k,s,x,t,y,.i .i64 v.i]):=by obtain⟨c,d,e,a,b⟩:=h.h;constructor<;>grind
def acM{a:Int}{b:Nat}(c:b≠0)(h:(a/(Nat.gcd a.natAbs b:Nat)).natAbs<cap 256/\b/Nat.gcd a.natAbs b<cap 256):eL (a/(Nat.gcd a.natAbs b:Nat)) (b/Nat.gcd a.natAbs b):=by obtain⟨_,_,r3,r4,_,_⟩:=ayG (n:=a) rfl c;constructor<;>grind
variable{y:Nat}
def NV.frac_ok{k:Nat}{n:Int}(b:k=2\/k=3)(h:eL n y):(⟨k,n,y,0⟩:NV).ok:=⟨by grind,λ_=>⟨h,rfl⟩,λa=>(a b).elim,λa=>(by grind),λa=>(by grind),λa=>(by grind)⟩
def Ag{k:Nat}{a:Int}{b:Nat}{r:D}(j:k=2\/k=3)(l:b≠0)(h:gD a b r):(∃s x t y n m,pr k a b=.ok ⟨k,n,m,0⟩/\r=.tu [.ag [s,x,t,y],.i .i64 0]/\s.flat=true/\x.flat=true/\t.flat=true/\y.flat=true/\VD ⟨k,n,m,0⟩ (.ag [.i .u8 k,s,x,t,y,.i .i64 0])/\(⟨k,n,m,0⟩:NV).ok)\/(pr k a b=.er 3/\r=.tu [pk,.i .i64 3]):=by
 unfold pr;obtain⟨d,⟨c,e,rfl,o⟩|⟨c,rfl⟩⟩:=h.h;·left;rw[E4 ⟨c,e⟩];obtain⟨x,y,rfl,f,g⟩:=o.h;exact⟨_,_,_,_,_,_,rfl,rfl,rfl,f.sl.flat,rfl,g.sl.flat,VD.of (v:=⟨k,_,_,0⟩) ⟨x,y,rfl,f,g⟩,NV.frac_ok j (acM l ⟨c,e⟩)⟩
 grind
def Fr.pl4{n:Int}{m:Nat}{s x t y:D}(h:Fr n m (.ag [s,x,t,y])):s.flat=true/\x.flat=true/\t.flat=true/\y.flat=true:=by have:=h.pl;grind[bO]
def ayZ{x y:NV}{d e:D}(h:VD x d)(j:VD y e)(k:x.ok)(l:y.ok)(m:x.k=y.k):ai VS 132 [d,e] (.i .i64 (ur x y)):=by
 obtain⟨n,o,t1,p,rfl,b⟩:=h.cs;obtain⟨q,r,s,t,rfl,f⟩:=j.cs;refine .body BP rfl ?_;unfold ur;by_cases c:x.k=2\/x.k=3
 ·have g:=λ{H K}=>(xg b f (k.f c).1 (l.f (by omega)).1).c (H:=H) (K:=K) sG rfl (by simp[b.pl,f.pl]) (.inl rfl);rw[E4 c];rcases c with c|c
  ·have d1:(x.k:Int)=2:=by omega
   simp[go_sem,simprocAttr,zD,d1,g]
  have d1:(x.k:Int)=3:=by omega
  simp[go_sem,simprocAttr,zD,d1,g]
 rw[E1 c];have d1:¬(x.k:Int)=2:=by omega
 have d2:¬(x.k:Int)=3:=by omega
 by_cases a:x.i<y.i;·simp[go_sem,simprocAttr,zD,d1,d2,a]
 by_cases u:y.i<x.i;·simp[go_sem,simprocAttr,zD,d1,d2,a]
 simp[go_sem,simprocAttr,zD,d1,d2,a]
def EL(a:Nat)(x y:NV):NR:=let n:=if a=8 then-y.i else y.i;if x.k=4 then(if y.k=4 then rn 5 (x.i+n)else if y.k=5 then rp (x.i+n)else .er 0)else if x.k=5\/x.k=6 then rn x.k (x.i+n)else pr x.k (if a=8 then x.n*y.m+-(y.n*x.m)else x.n*y.m+y.n*x.m) (x.m*y.m)
def xj(x y:NV):Prop:=(x.k=y.k/\x.k≠1)\/(x.k=4/\y.k=5)
def ay0{p:Nat}(r:p=7\/p=8){x y:NV}{d e:D}(Y:VD x d)(Z:VD y e)(z:x.ok)(M:y.ok)(hs:xj x y):aH VS 129 [.i .u8 p,d,e] (lS (EL p x y)):=by
 obtain⟨s1,x1,t1,y1,rfl,u⟩:=Y.cs;obtain⟨s2,x2,t2,y2,rfl,w⟩:=Z.cs;obtain⟨n,j⟩:∃n,n=if p=8 then-y.i else y.i:=⟨_,rfl⟩;have r1:=z.rng;have r2:=M.rng;have A:IntKind.i64.wrap (0-y.i)=-y.i:=by grind[wr]
 have o:IntKind.i64.wrap (x.i+n)=x.i+n:=by grind[wr]
 have N:=λ{H K}=>lq (H:=H) (K:=K);have P:=λ{H K}=>kr (e:=3) (by decide) (H:=H) (K:=K);unfold EL;by_cases Q:x.k=4
 ·have d4:(x.k:Int)=4:=by omega
  rw[E4 Q];by_cases S:y.k=4
  ·have U:(y.k:Int)=4:=by omega
   rw[E4 S];have l:=EH (n:=x.i+n) (.inl rfl);refine aH.body oL rfl ?_;rcases r with rfl|rfl
   ·rw[E1 (by decide)]at j;subst j;simp[go_sem,simprocAttr,lQ,d4,U,o];refine ac.ans l oJ rfl rfl rfl (λv s x t y h a b c e f g=>?_) (λe k=>?_);·simp[go_sem,ah a,ah b,ah c,ah e,h];grind
    simp[go_sem,k]
   rw[E4 rfl]at j;subst j;simp only[go_sem,simprocAttr,lQ,d4,U,A,o];refine ac.ans l oJ rfl rfl rfl (λv s x t y h a b c e f g=>?_) (λe k=>?_);·simp[go_sem,ah a,ah b,ah c,ah e,h];grind
   simp[go_sem,k]
  have k5:y.k=5:=by grind[xj]
  have V:(y.k:Int)=5:=by omega
  rw[E1 S,E4 k5];have l:=Py (n:=x.i+n);refine aH.body oL rfl ?_;rcases r with rfl|rfl
  ·rw[E1 (by decide)]at j;subst j;simp[go_sem,simprocAttr,lQ,d4,V,o];refine ac.ans l qC rfl rfl rfl (λv s x t y h a b c e f g=>?_) (λe k=>?_);·simp[go_sem,ah a,ah b,ah c,ah e,h];grind
   simp[go_sem,k]
  rw[E4 rfl]at j;subst j;simp only[go_sem,simprocAttr,lQ,d4,V,A,o];refine ac.ans l qC rfl rfl rfl (λv s x t y h a b c e f g=>?_) (λe k=>?_);·simp[go_sem,ah a,ah b,ah c,ah e,h];grind
  simp[go_sem,k]
 have W:¬(x.k:Int)=4:=by omega
 rw[E1 Q];have hk:=z.k;by_cases q:x.k=5\/x.k=6
 ·rw[E4 q];have l:=EH (n:=x.i+n) q;refine aH.body oL rfl ?_;rcases r with rfl|rfl;·rw[E1 (by decide)]at j;subst j;rcases q with c|c;all_goals
   rw[c]at l⊢;simp[go_sem,simprocAttr,lQ,o];refine ac.ans l oJ rfl rfl rfl (λv s x t y h a b c e f g=>?_) (λe k=>?_);·simp[go_sem,ah a,ah b,ah c,ah e,h];grind
   simp[go_sem,k]
  rw[E4 rfl]at j;subst j;rcases q with c|c;all_goals
  rw[c]at l⊢;simp only[go_sem,simprocAttr,lQ,A,o];refine ac.ans l oJ rfl rfl rfl (λv s x t y h a b c e f g=>?_) (λe k=>?_);·simp[go_sem,ah a,ah b,ah c,ah e,h];grind
  simp[go_sem,k]
 rw[E1 q];have B:x.k=2\/x.k=3:=by grind[xj]
 have ab:y.k=2\/y.k=3:=by grind[xj]
 have d5:¬(x.k:Int)=5:=by omega
 have d6:¬(x.k:Int)=6:=by omega
 have C:=(z.f B).1;have E:=(M.f ab).1;have X:=qq C.z E.z;obtain⟨ra,ad,ae⟩:=acz u w C E;obtain⟨rs,af,ag⟩:=ayy u w C E;refine aH.body oL rfl ?_;rcases r with rfl|rfl
 ·have F:=λ{H K}=>ad.c (H:=H) (K:=K) GV rfl (by simp[u.pl,w.pl]) (.inl rfl);simp(disch:=omega)only[go_sem,simprocAttr,lQ,W,d5,d6];rw[iu (by decide)];simp[bN,U3,F];rcases Ag B X ae with⟨s,x',t,y',n',m',m,rfl,G,I,J,L,h,ho⟩|⟨m,rfl⟩;·simp[go_sem,simprocAttr,N,m,ah G,ah I,ah J,ah L];grind
  simp[go_sem,P,m,pk]
 have F:=λ{H K}=>af.c (H:=H) (K:=K) Tx rfl (by simp[u.pl,w.pl]) (.inl rfl);simp(disch:=omega)only[go_sem,simprocAttr,lQ,W,d5,d6];rw[iu (by decide)];simp only[bN,U3,F];rcases Ag B X ag with⟨s,x',t,y',n',m',m,rfl,G,I,J,L,h,ho⟩|⟨m,rfl⟩;·simp[go_sem,simprocAttr,N,m,ah G,ah I,ah J,ah L];grind
 simp[go_sem,P,m,pk]
end
section
open Go.Dm
set_option maxRecDepth 10000
def rq(a:Nat)(x y:NV):NR:=if a=7\/a=8 then EL a x y else if a=9 then pr (max x.k y.k) (x.n*y.n) (x.m*y.m)else if a=10 then(if y.n=0 then .er 181 else pr (if x.k=y.k then 2 else 3) (um x.n y.n y.m) (x.m*y.n.natAbs))else if a=11\/a=12 then .ok (if decide (ur x y<=0)=decide (a=11)then x else y)else if a=13 then .ok (dI (decide (ur x y<0)))else .ok (dI (decide (x=y)))
structure acN(op:Nat)(x y:NV):Prop where
 s:op=7\/op=8->xj x y
 f:op=9\/op=10->(x.k=2\/x.k=3)/\(y.k=2\/y.k=3)m:op=9->x.k=2\/y.k=2
 d:op=10->x.k=y.k\/x.k=3
 c:11<=op->x.k=y.k
theorem Ah{n:Int}(h:n.natAbs<18446744073709551616):eL n 1:=⟨by decide,Nat.gcd_one_right _,hI (show n.natAbs<cap 4 from h) (nV (by omega)),hI (show 1<cap 1 by decide) (nV (by omega))⟩
def ay1{n:Int}{m:Nat}:di (n*((1:Nat):Int)) (0*(m:Int))=0↔n=0:=by grind[di]
def ay2{j:Nat}(bf:7<=j/\j<=14){x y:NV}{d e:D}(A:VD x d)(B:VD y e)(o:x.ok)(p:y.ok)(z:acN j x y):aH VS 95 [.i .u8 j,d,e] (lS (rq j x y)):=by
 have af:=λ(h:j=7\/j=8)=>ay0 h A B o p (z.s h);have av:=acJ A B o p;have U:=λ(h:x.k=y.k)=>ayZ A B o p h;have V:=A;have W:=B;obtain⟨s1,x1,t1,y1,rfl,C⟩:=A.cs;obtain⟨s2,x2,t2,y2,rfl,u⟩:=B.cs;obtain⟨a1,a2,a3,a4⟩:=C.pl4;obtain⟨b1,b2,b3,b4⟩:=u.pl4;have J:(D.ag [.i .u8 x.k,s1,x1,t1,y1,.i .i64 x.i]).plain=true:=V.pl;have L:(D.ag [.i .u8 y.k,s2,x2,t2,y2,.i .i64 y.i]).plain=true:=W.pl;have X:=λ{H K}=>lq (H:=H) (K:=K);have m3:=λ{H K}=>kr (e:=3) (by decide) (H:=H) (K:=K);have z1:=λ{H K}=>eZ (e:=181) (H:=H) (K:=K);have tr:=λb{H K}=>pq (b:=b) (H:=H) (K:=K);have tv:=λb=>uo b;have cases:j=7\/j=8\/j=9\/j=10\/j=11\/j=12\/j=13\/j=14:=by omega
 unfold rq;refine aH.body (vf:=DJ) yq rfl ?_;rcases cases with rfl|rfl|rfl|rfl|rfl|rfl|rfl|rfl
 ·rw[E4 (.inl rfl)];simp(disch:=omega)only[go_sem,simprocAttr,jv];refine ac.ans (af (.inl rfl)) oL rfl rfl (by grind[aZ]) (λv s x t y m a b c e f g=>?_) (λe Y=>?_);·simp(disch:=omega)only[go_sem,simprocAttr,ah a,ah b,ah c,ah e,m];grind
  simp(disch:=omega)only[go_sem,simprocAttr,Y]
 ·rw[E4 (.inr rfl)];simp(disch:=omega)only[go_sem,simprocAttr,jv];refine ac.ans (af (.inr rfl)) oL rfl rfl (by grind[aZ]) (λv s x t y m a b c e f g=>?_) (λe Y=>?_);·simp(disch:=omega)only[go_sem,simprocAttr,ah a,ah b,ah c,ah e,m];grind
  simp(disch:=omega)only[go_sem,simprocAttr,Y]
 ·rw[E1 (by decide),E4 rfl];obtain⟨Z,k2⟩:=z.f (.inl rfl);have E:=(o.f Z).1;have F:=(p.f k2).1;have hb:x.m*y.m≠0:=qq E.z F.z;obtain⟨r,r1,r2⟩:=acy C u E F;have l:=λ{H K}=>r1.c (H:=H) (K:=K) GR rfl (by simp[C.pl,u.pl]) (.inl rfl);have a7:max (x.k:Int) (y.k:Int)=((max x.k y.k:Nat):Int):=by omega
  simp(disch:=omega)only[go_sem,simprocAttr,jv,l];rcases Ag (k:=max x.k y.k) (by omega) hb r2 with⟨s,x',t,y',n',m',w,rfl,M,N,P,Q,m,G⟩|⟨w,rfl⟩;·simp(disch:=omega)only[go_sem,simprocAttr,X,w,a7,ah M,ah N,ah P,ah Q];grind
  simp(disch:=omega)only[go_sem,simprocAttr,m3,w,pk]
 ·rw[E1 (by decide),E1 (by decide),E4 rfl];obtain⟨Z,k2⟩:=z.f (.inr rfl);have E:=(o.f Z).1;have F:=(p.f k2).1;obtain⟨zf,w1,w2⟩:=Pv (n:=0) (by omega);have ew:=λ{H K}=>w1.c (H:=H) (K:=K) sE rfl rfl (.inl rfl);have ad:=λ{H K}=>(xg u w2 F (Ah (by decide))).c (H:=H) (K:=K) sG rfl (by simp[u.pl,w2.pl]) (.inl rfl);have hz:di (y.n*((1:Nat):Int)) (0*y.m)=0↔y.n=0:=ay1;obtain⟨q,hq⟩:∃q,q=di (y.n*((1:Nat):Int)) (0*y.m):=⟨_,rfl⟩;rw[<-hq]at ad hz;by_cases I:y.n=0;·rw[E4 I];have:=hz.2 I;simp(disch:=omega)only[go_sem,simprocAttr,jv,ew,ad,this,z1]
  rw[E1 I];have be:¬q=0:=λh=>I (hz.1 h);obtain⟨r,r1,r2⟩:=acD C u E F I;have l:=λ{H K}=>r1.c (H:=H) (K:=K) GS rfl (by simp[C.pl,u.pl]) (.inl rfl);have hb:x.m*y.n.natAbs≠0:=qq E.z (by omega);simp(disch:=omega)only[go_sem,simprocAttr,jv,ew,ad,be,l];rcases Ag (k:=if x.k=y.k then 2 else 3) (by grind) hb r2 with⟨s,x',t,y',n',m',w,rfl,M,N,P,Q,m,G⟩|⟨w,rfl⟩
  ·rw[w];by_cases S:x.k=y.k
   ·have dk:(x.k:Int)=(y.k:Int):=by omega
    rw[E4 S]at m G;simp(disch:=omega)only[go_sem,simprocAttr,X,S,ah M,ah N,ah P,ah Q];exact⟨m,G⟩
   have dk:¬(x.k:Int)=(y.k:Int):=by omega
   rw[E1 S]at m G;simp(disch:=omega)only[go_sem,simprocAttr,X,dk,S,ah M,ah N,ah P,ah Q];exact⟨m,G⟩
  rw[w];simp(disch:=omega)only[go_sem,simprocAttr,m3,pk]
 ·have l:=λ{H K}=>(U (z.c (by omega))).c (H:=H) (K:=K) BP rfl (by simp[J,L]) (.inl rfl);rw[E1 (by decide),E1 (by decide),E1 (by decide),E4 (.inl rfl)];by_cases c:ur x y<=0;·simp(disch:=omega)only[go_sem,simprocAttr,jv,l,c,ah a1,ah a2,ah a3,ah a4];exact⟨V,o⟩
  simp(disch:=omega)only[go_sem,simprocAttr,jv,l,c,ah b1,ah b2,ah b3,ah b4];exact⟨W,p⟩
 ·have l:=λ{H K}=>(U (z.c (by omega))).c (H:=H) (K:=K) BP rfl (by simp[J,L]) (.inl rfl);rw[E1 (by decide),E1 (by decide),E1 (by decide),E4 (.inr rfl)];by_cases c:ur x y<=0;·simp(disch:=omega)only[go_sem,simprocAttr,jv,l,c,ah b1,ah b2,ah b3,ah b4];exact⟨W,p⟩
  simp(disch:=omega)only[go_sem,simprocAttr,jv,l,c,ah a1,ah a2,ah a3,ah a4];exact⟨V,o⟩
 ·have l:=λ{H K}=>(U (z.c (by omega))).c (H:=H) (K:=K) BP rfl (by simp[J,L]) (.inl rfl);rw[E1 (by decide),E1 (by decide),E1 (by decide),E1 (by decide),E4 rfl];simp(disch:=omega)only[go_sem,simprocAttr,jv,l,tr,mR];have:=tv (decide (ur x y<0));simpa only[mR,Hq]using this
 have l:=λ{H K}=>av.c (H:=H) (K:=K) yr rfl (by simp[J,L]) (.inl rfl);rw[E1 (by decide),E1 (by decide),E1 (by decide),E1 (by decide),E1 (by decide)];simp(disch:=omega)only[go_sem,simprocAttr,jv,l,tr,mR];have:=tv (decide (x=y));simpa only[mR,Hq]using this
end
section
open Go.Dm
set_option maxRecDepth 10000
def ay3{H:ab}{a n len w bytes:Nat}{rows:List (List D)}{r:List D}(h:H[a]?=some (.ar w rows (some n) true false))(b:rows.length=n)(c:len<n)(d:r.all D.flat=true)(hr:(len+1)*bytes<=140737488355328)(e:n<140737488355328):bY H (.mu a n 0 len) (.sv w [r]) w bytes true=some (.mu a n 0 (len+1),H.set a (.ar w (rows.set len r) (some n) true false)):=by
 have f:iL H [r]=some _:=oE H (λq g=>by grind);have i:aO H a n=some (w,rows,some n,true,false):=by simp[Dm.aO,h,b]
 have j:=Gz hr (by omega);have hs:rows.take len++[r]++rows.drop (len+1)=rows.set len r:=by rw[AAf,E4 (by omega),gC];rfl
 have k:len<=n:=by omega
 have l:len+1<=n:=by omega
 simp_all[bY,fM,gM,mV,jE]
structure AV where
 v:NV
 s:D
 x:D
 t:D
 y:D
instance:Inhabited AV:=⟨⟨default,.u,.u,.u,.u⟩⟩
def AV.c(a:AV):List D:=[.i .u8 a.v.k,a.s,a.x,a.t,a.y,.i .i64 a.v.i]
structure AV.ok(a:AV):Prop where d:VD a.v (.ag a.c)o:a.v.ok
def AV.ok.fl{a:AV}(h:a.ok):a.s.flat=true/\a.x.flat=true/\a.t.flat=true/\a.y.flat=true:=by obtain⟨s,x,t,y,e,q⟩:=h.d.cells;grind[AV.c,D.ag.injEq]
def AV.ok.al{a:AV}(h:a.ok):a.c.all D.flat=true:=by obtain⟨b,c,d,e⟩:=h.fl;grind[AV.c,jj]
def AV.ok.pl{a:AV}(h:a.ok):(D.ag a.c).plain=true:=by exact h.al
def VD.av{v:NV}{d:D}(h:VD v d)(o:v.ok):∃a:AV,a.v=v/\d=.ag a.c/\a.ok:=by obtain⟨s,x,t,y,rfl,_⟩:=h.cells;exact⟨⟨v,s,x,t,y⟩,rfl,rfl,⟨h,o⟩⟩
def gi(c:NR)(H:ab):CR->Prop|.ret d b=>b=H/\∃a:AV,c=.ok a.v/\d=.ag a.c/\a.ok|.pan d b=>b=H/\∃e,c=.er e/\d=eO e|.bad=>False
def ut{a:AV}{H:ab}(h:a.ok):gi (.ok a.v) H (.ret (.ag a.c) H):=⟨rfl,a,rfl,rfl,h⟩
theorem ru{e:Int}{H:ab}:gi (.er e) H (.pan (eO e) H):=⟨rfl,e,rfl,rfl⟩
def cr:List D:=[.i .u8 0,.b false,.nil,.b false,.nil,.i .i64 0]
variable{x y:Nat}
def acO{p:Nat}(a:7<=x/\x<=14)(b:1<=p/\p<=6)(c:1<=y/\y<=6)(h:cm x [p,y]=true):(x=7\/x=8->(p=y/\p≠1)\/(p=4/\(y=5\/y=6)))/\(x=9\/x=10->(p=2\/p=3)/\(y=2\/y=3))/\(x=9->p=2\/y=2)/\(x=10->p=y\/p=3)/\(11<=x->p=y):=by
 obtain rfl|rfl|rfl|rfl|rfl|rfl:p=1\/p=2\/p=3\/p=4\/p=5\/p=6:=by omega
 all_goals obtain rfl|rfl|rfl|rfl|rfl|rfl:y=1\/y=2\/y=3\/y=4\/y=5\/y=6:=by omega
 all_goals obtain rfl|rfl|rfl|rfl|rfl|rfl|rfl|rfl:x=7\/x=8\/x=9\/x=10\/x=11\/x=12\/x=13\/x=14:=by omega
 all_goals first|(exfalso;revert h;decide)|decide
def ay4{x y:NV}{a:Nat}(b:7<=a/\a<=14)(c:x.ok)(d:y.ok)(h:cm a [x.k,y.k]=true)(j:¬(x.k=4/\y.k=6)):acN a x y:=by obtain⟨k,e,f,g,i⟩:=acO b c.k d.k h;refine⟨λh=>?_,e,f,g,i⟩;grind[xj]
end
section
open Go.Dm
set_option maxRecDepth 10000
def jb(vs:List AV):List (List D):=vs.map AV.c++List.replicate (3-vs.length) cr
def EM{vs:List AV}(h:vs.length<=3):(jb vs).length=3:=by grind[jb]
def ay5{vs:List AV}{a:AV}(h:vs.length<3):(jb vs).set vs.length a.c=jb (vs++[a]):=by
 unfold jb;have:3-vs.length=(3-(vs.length+1))+1:=by omega
 grind
def aU(vs:List AV)(lk:Bool):an:=.ar 6 (jb vs) (some 3) true lk
section
variable{bs ed w c4 c5 c6 c7 c8 c9 c10 c11 c13 c14 c15 sl:D}{date:Int}{l:List Ex}{i:Nat}
def Ai(bs ed w c4 c5 c6 c7 c8 c9 c10 c11 a c13 c14 c15 sl b:D)(date:Int)(i n k:Nat):List D:=[bs,ed,.i .i64 date,w,c4,c5,c6,c7,c8,c9,c10,c11,a,c13,c14,c15,.mu i 3 0 k,.i .i64 (k:Int),.i .i64 (n:Int),sl,b]
def ay6(B:l.length<=3)(m:Sl 9 (l.map Ex.row) sl){Q:Dm.Ex->St->Prop}(P:Nat->List AV->ab->Prop){H:ab}{Dr n:D}(o:P 0 [] H)(p:∀k vs H,P k vs H->vs.length=k)(step:∀k vs H,k<l.length->P k vs H->ac VS 38 [bs,(l[k]!).d,.i .i64 date,w] H (λr=>match r with|.ret d b=>∃a:AV,d=.ag a.c/\a.ok/\b[i]?=some (aU vs false)/\P (k+1) (vs++[a]) (b.set i (aU (vs++[a]) false))|.pan d b=>∀s,Q (.pn d) ⟨s,b⟩|.bad=>False))(q:∀vs H c e,P l.length vs H->Q (.ex 1) ⟨Ai bs ed w c4 c5 c6 c7 c8 c9 c10 c11 c c13 c14 c15 sl e date i l.length l.length,H⟩):ak VS (.loop J4) ⟨Ai bs ed w c4 c5 c6 c7 c8 c9 c10 c11 Dr c13 c14 c15 sl n date i l.length 0,H⟩ Q:=by
 refine ak.up (λk s=>∃vs H c e,P k vs H/\s=⟨Ai bs ed w c4 c5 c6 c7 c8 c9 c10 c11 c c13 c14 c15 sl e date i _ k,H⟩) l.length ⟨_,_,_,_,o,rfl⟩ ?_;rintro k s C⟨vs,H,c,e,f,rfl⟩;have t:=p _ _ _ f;unfold Ai;by_cases h:k<l.length
 ·have j:(k:Int)<l.length:=by omega
  have u:(0:Int)<=k:=by omega
  have v:IntKind.i64.wrap (k+1)=((k+1:Nat)):=by grind[wr]
  have hs:=step k vs H h f;simp only[Ex.d,Ex.row_eq]at hs;simp only[go_sem,Zu,m.q,u,j,Ex.row_eq];refine hs.mono λr hr=>?_;cases r with|bad=>grind|pan d b=>simp only[go_sem];grind|ret d b=>obtain⟨a,rfl,x,y,z⟩:=hr;have g:=ay3 (bytes:=80) y (EM (by omega)) (show vs.length<3 by omega) x.al (by omega) (by decide);rw[ay5 (by omega),t]at g;simp only[AV.c]at g⊢;simp[go_sem,simprocAttr,g,v];exact⟨h,_,z⟩
 have j:¬(k:Int)<l.length:=by omega
 have A:k=l.length:=by omega
 subst A;simp[go_sem,Zu];exact q _ _ _ _ f
end
end
section
open Go.Dm
set_option maxRecDepth 10000
def Vl.av{v:Vl}(h:v.valid=true):∃a:AV,a.v=v.nv/\v.d=.ag a.c/\a.ok:=(nv_ok h).1.av (nv_ok h).2
end
section
open Go.Dm
set_option maxRecDepth 10000
def ay7(e:Int):ai VS 52 [eO e] (.i .i64 e):=by refine .body SO rfl ?_;simp[go_sem,auV,eO]
def acP{e:Int}{H:ab}{K:CR->Prop}:ac VS 52 [eO e] H K↔K (.ret (.i .i64 e) H):=by rw[eU SO rfl (ay7 e) rfl];exact W0
def ls:D:=.ag cr
def acQ{g:FuncId}{cap:List D}{H:ab}{K:CR->Prop}(s:g<4294967295)(h:ac VS g cap (H++[.hb 36 cr,.hb 54 [.i .i64 0]]) (λr=>match r with
 |.ret d c=>∃a:AV,d=.ag a.c/\a.ok/\c[H.length]?=some (.hb 36 cr)/\c[H.length+1]?=some (.hb 54 [.i .i64 0])/\K (.ret (.tu [.ag a.c,.i .i64 0]) ((c.set H.length (.hb 36 a.c)).set (H.length+1) (.hb 54 [.i .i64 0])))|.pan d c=>∃e,d=eO e/\c[H.length]?=some (.hb 36 cr)/\c[H.length+1]?=some (.hb 54 [.i .i64 0])/\K (.ret (.tu [ls,.i .i64 e]) ((c.set H.length (.hb 36 cr)).set (H.length+1) (.hb 54 [.i .i64 e])))
 |.bad=>False)):ac VS 30 [.fn (.func g) [] cap] H K:=by refine .dfr akO rfl rfl rfl ?_;simp(disch:=omega)only[go_sem,e30,JW];refine⟨rfl,h.mono λr hr=>?_⟩;cases r with|bad=>grind|ret d c=>
 obtain⟨a,rfl,t,j,f,k⟩:=hr;have n:H.length+1<c.length:=ay f;simp[cr,AV.c]at*;have l:((c.set H.length (.hb 36 [D.i IntKind.u8 a.v.k,a.s,a.x,a.t,a.y,D.i IntKind.i64 a.v.i])).set (H.length+1) (.hb 54 [.i .i64 0]))[H.length]?=some (.hb 36 [D.i IntKind.u8 a.v.k,a.s,a.x,a.t,a.y,D.i IntKind.i64 a.v.i]):=by grind
 have m:((c.set H.length (.hb 36 [D.i IntKind.u8 a.v.k,a.s,a.x,a.t,a.y,D.i IntKind.i64 a.v.i])).set (H.length+1) (.hb 54 [.i .i64 0]))[H.length+1]?=some (.hb 54 [.i .i64 0]):=by grind
 simp(disch:=omega)only[go_sem,simprocAttr,j,f,mi,K0];refine⟨.inl trivial,by omega,[.ag [D.i _ a.v.k,a.s,a.x,a.t,a.y,D.i _ a.v.i],.i .i64 0],?_,k⟩;simp[dc.ev,cT,l,m,sA,de];rfl|pan d c=>
 obtain⟨e,rfl,j,f,k⟩:=hr;have n:H.length+1<c.length:=ay f;have o:=λ{H K}=>acP (e:=e) (H:=H) (K:=K);simp[cr]at*;have l:((c.set H.length (.hb 36 [D.i IntKind.u8 0,D.b false,D.nil,D.b false,D.nil,D.i IntKind.i64 0])).set (H.length+1) (.hb 54 [.i .i64 e]))[H.length]?=some (.hb 36 [D.i IntKind.u8 0,D.b false,D.nil,D.b false,D.nil,D.i IntKind.i64 0]):=by grind
 have m:((c.set H.length (.hb 36 [D.i IntKind.u8 0,D.b false,D.nil,D.b false,D.nil,D.i IntKind.i64 0])).set (H.length+1) (.hb 54 [.i .i64 e]))[H.length+1]?=some (.hb 54 [.i .i64 e]):=by grind
 have p:ej true EK.ifc (eO e) D.ni=some (.b true):=rfl;have q:(c.set H.length (.hb 36 [D.i IntKind.u8 0,D.b false,D.nil,D.b false,D.nil,D.i IntKind.i64 0]))[H.length+1]?=some (.hb 54 [.i .i64 0]):=by grind
 simp only[go_sem,simprocAttr,j,q,mi,o,p];refine⟨.inl trivial,by omega,[.ag [D.i _ 0,D.b false,D.nil,D.b false,D.nil,D.i _ 0],.i .i64 e],?_,k⟩;simp[dc.ev,cT,l,m,sA,de];rfl
def acR{l:List Nat}{y:D}(b:Sl 1 (l.map u16) y)(c:l.length<70368744177665){H:ab}:bY H .nil y 1 2 true=some (bD H .nil (l.map u16),bH H 1 (l.map u16)):=BA rfl b (λa=>rfl) (by omega) (by omega)
def acS{a:AV}(f:a.ok):∃d,ai VS 32 [.ag a.c] d/\VD a.v d:=by
 obtain⟨x,y,e,o,r⟩:=f.d.h;have c:(ds 65536 a.v.n.natAbs).length<70368744177665/\(ds 65536 a.v.m).length<70368744177665:=by
  by_cases g:a.v.k=2\/a.v.k=3;·have:=(f.o.f g).1;exact⟨mQ this.bn (by omega),mQ this.bm (by omega)⟩
  obtain⟨s,t⟩:=f.o.o g;rw[s,t,show(0:Int).natAbs=0 from rfl,bE];exact⟨by simp,by simp⟩
 have h:=λ{H}=>acR o.sl c.1 (H:=H);have j:=λ{H}=>acR r.sl c.2 (H:=H);obtain⟨l,k⟩:∃l,l=ds 65536 a.v.n.natAbs:=⟨_,rfl⟩;obtain⟨m,n⟩:∃m,m=ds 65536 a.v.m:=⟨_,rfl⟩;rw[<-k]at h c;rw[<-n]at j c;rw[e];refine⟨.ag [.i .u8 a.v.k,.b _,iW .nil 1 _,.b false,iW .nil 1 _,.i .i64 a.v.i],.body GI rfl ?_,⟨_,_,rfl,⟨by rw[<-k];exact oH rfl 1 _⟩,⟨by rw[<-n];exact oH rfl 1 _⟩⟩⟩;simp[go_sem,simprocAttr,auI,h,j];cases l with
 |nil=>cases m with|nil=>rfl|cons q m=>simp[bD,bH,iW,E2,go_sem]
 |cons p l=>cases m with|nil=>simp[bD,bH,iW,E2,go_sem]|cons q m=>simp[bD,bH,iW,E2,go_sem]
end
section
open Go.Dm
set_option maxRecDepth 10000
@[go_sem]def aDZ{t r:ab}{x:an}:(t++x::r)[t.length]?=some x:=by simp
@[go_sem]def aD0{t r:ab}{x y:an}:(t++x::y::r)[t.length+1]?=some y:=by grind
@[go_sem]def aD1{t r:ab}{x z:an}:(t++x::r).set t.length z=t++z::r:=by simp
@[go_sem]def aD2{t r:ab}{x y z:an}:(t++x::y::r).set (t.length+1) z=t++x::z::r:=by simp_all
end
section
open Go.Dm
set_option maxRecDepth 10000
def ay8{n:Int}:lh (decide (n<0)) (ds 65536 n.natAbs)=n:=by unfold lh;grind[bF]
def VD.vlv{v:NV}{d:D}(h:VD v d)(b:v.ok):∃a:Vl,a.d=d/\a.valid=true/\a.nv=v:=by
 obtain⟨a,f,m,n,g,i,j,k⟩:=h.vl b;refine⟨a,f,?_,?_⟩
 ·unfold Vl.valid;rw[m,n];by_cases l:v.k=2\/v.k=3
  ·obtain⟨e,hi⟩:=b.f l;have s:=jx.2 e.bn;have u:=jx.2 e.bm;have o:=zX (neg:=decide (v.n<0)) (aQ e.bn (show 256<=1024 by omega)) (λf=>by grind);have p:=zX (aQ e.bm (show 256<=1024 by omega)) (λf=>rfl);have w:=lT aM e.z;have:a.f.v=true:=by show cW a.f.s a.f.l a.f.t a.f.m=true;rw[g,i,j,k];unfold cW;rw[o,p,bF aM,bF aM,e.g];grind
   grind
  obtain⟨q,r⟩:=b.o l;have x:a.f.zero=true:=by show a.f.eq _=true;unfold RF.eq;rw[g,i,j,k,q,r,show(0:Int).natAbs=0 from rfl,bE];rfl
  have y:=b.k;have t:=b.t;have z:=b.d;have c:=b.c;grind
 simp_all[Vl.nv,ay8,bF,aM]
structure CV(a:Vl)(v:NV):Prop where
 va:a.valid=true
 n:a.nv=v
end
section
open Go.Dm
set_option maxRecDepth 10000
end
section
open Go.Dm
set_option maxRecDepth 10000
abbrev Nm:=List UInt8
inductive EN where|mk(op:Nat)(name:Nm)(val:Option NV)(md:Int)(args:List EN)
instance:Inhabited EN:=⟨.mk 0 [] none 0 []⟩
def EN.op:EN->Nat|.mk o _ _ _ _=>o
def EN.name:EN->Nm|.mk _ n _ _ _=>n
def EN.val:EN->Option NV|.mk _ _ v _ _=>v
def EN.md:EN->Int|.mk _ _ _ m _=>m
def EN.args:EN->List EN|.mk _ _ _ _ a=>a
mutual def Ex.en:Ex->EN|.mk o n v _ a=>.mk o n (if v.valid=true then some v.nv else none) v.i (tg a)def tg:List Ex->List EN|[]=>[]|e::l=>e.en::tg l end
def XF:∀l:List Ex,tg l=l.map Ex.en|[]=>rfl|e::l=>by rw[tg,XF l];rfl
theorem Ex.en_eq(e:Ex):e.en=.mk e.op e.name (if e.v.valid=true then some e.v.nv else none) e.v.i (e.args.map Ex.en):=by cases e;rw[Ex.en,XF];rfl
def EN.formed(e:EN):Bool:=(if e.op=1 then e.val.isSome else true)&&decide ((ic e.op).1<=e.args.length/\e.args.length<=(ic e.op).2)
def Ex.en_formed(e:Ex):e.en.formed=e.formed:=by grind[Ex.en_eq,EN.formed,Ex.formed,EN.op,EN.val,EN.args]
structure FN where
 key:Nm
 frm:Int
 to:Int
 known:Int
 gone:Bool
 v:NV
structure aD where
 frm:Int
 to:Int
 v:NV deriving DecidableEq
instance:Inhabited aD:=⟨⟨0,0,default⟩⟩
structure bV where
 a:Int
 b:Int
 known:Int
 n:Int
 m:Nat deriving DecidableEq
instance:Inhabited bV:=⟨⟨0,0,0,0,0⟩⟩
structure eK where
 name:Nm
 label:Nm
 frm:Int
 to:Int
 known:Int
 off:Bool
 when:EN
 thn:EN
instance:Inhabited eK:=⟨⟨[],[],0,0,0,false,default,default⟩⟩
structure af where pairs:List (Nm×Int)begun:List (Nm×Int)vals:List ((Nm×Int)×NV)facts:List (Nm×Int×Int)tabs:List Nm
def af.nil:af:=⟨[],[],[],[],[]⟩
inductive aL where|term(e:EN)(d:Int)|pair(nm:Nm)(d:Int)
inductive Tr where|ret(v:NV)|err(e:Int)|st(u:af->af)(k:af->Tr)|call(j:aL)(k:NV->Tr)
def cI(rec:aL->af->Option (NR×af)):Tr->af->Option (NR×af)|.ret v,M=>some (.ok v,M)|.err e,M=>some (.er e,M)|.st u k,M=>cI rec (k M) (u M)|.call j k,M=>match rec j M with|none=>none|some (.er e,M')=>some (.er e,M')|some (.ok v,M')=>cI rec (k v) M'
structure Wd where
 kind:Nm->Option Nat
 cl:Nm->Int->List (Nat×eK)clause:Nat->eK
 view:Nm->Except Int (List aD)tab:Nm->Option (Bool×List bV)
def gv(body:aL->Tr):Nat->aL->af->Option (NR×af)|0,_,_=>none|n+1,j,M=>cI (gv body n) (body j) M
def wu{f g:aL->af->Option (NR×af)}(h:∀j M r,f j M=some r->g j M=some r):∀(t:Tr)(M:af)(r:NR×af),cI f t M=some r->cI g t M=some r|.ret _,_,_,e=>e|.err _,_,_,e=>e|.st u k,M,r,e=>wu h (k M) (u M) r e|.call j k,M,r,e=>by simp[cI]at e⊢;cases b:f j M with|none=>grind|some p=>rw[h j M p b];rw[b]at e;obtain⟨a,M'⟩:=p;cases a with|er x=>exact e|ok v=>exact wu h _ M' r e
theorem XG{body:aL->Tr}:∀(n:Nat)(j:aL)(M:af)(r:NR×af),gv body n j M=some r->gv body (n+1) j M=some r|0,_,_,_,e=>by cases e|n+1,j,M,r,e=>wu (λj M r=>XG n j M r) (body j) M r e
def ww{body:aL->Tr}{n m:Nat}(h:n<=m){j:aL}{M:af}{r:NR×af}(e:gv body n j M=some r):gv body m j M=some r:=by induction h<;>grind[step,XG]
def aN(body:aL->Tr)(j:aL)(M:af)(r:NR)(M':af):Prop:=∃n,gv body n j M=some (r,M')
def aG(body:aL->Tr)(t:Tr)(M:af)(r:NR)(M':af):Prop:=∃n,cI (gv body n) t M=some (r,M')
section
variable{body:aL->Tr}{M M' M2:af}{r:NR}
def aN.det{r2:NR}{j:aL}(h:aN body j M r M')(c:aN body j M r2 M2):r=r2/\M'=M2:=by obtain⟨n,h⟩:=h;obtain⟨m,c⟩:=c;have a:=ww (ABE n m) h;have b:=ww (AAL n m) c;grind
def aG.det{r2:NR}{t:Tr}(h:aG body t M r M')(c:aG body t M r2 M2):r=r2/\M'=M2:=by obtain⟨n,h⟩:=h;obtain⟨m,c⟩:=c;have a:=wu (λj M r e=>ww (ABE n m) e) t M _ h;have b:=wu (λj M r e=>ww (AAL n m) e) t M _ c;grind
def aN.of{j:aL}(h:aG body (body j) M r M'):aN body j M r M':=by obtain⟨n,h⟩:=h;exact⟨n+1,h⟩
def aG.ret{v:NV}:aG body (.ret v) M (.ok v) M:=⟨0,rfl⟩
def aG.err{e:Int}:aG body (.err e) M (.er e) M:=⟨0,rfl⟩
def aG.st{u:af->af}{k:af->Tr}(h:aG body (k M) (u M) r M'):aG body (.st u k) M r M':=by obtain⟨n,h⟩:=h;exact⟨n,h⟩
theorem aG.call{j:aL}{k:NV->Tr}{v:NV}(h:aN body j M (.ok v) M')(a:aG body (k v) M' r M2):aG body (.call j k) M r M2:=by obtain⟨n,h⟩:=h;obtain⟨m,a⟩:=a;refine⟨max n m,?_⟩;simp[cI,ww (ABE n m) h];exact wu (λj M r e=>ww (AAL n m) e) _ _ _ a
theorem aG.calle{j:aL}{k:NV->Tr}{e:Int}(h:aN body j M (.er e) M'):aG body (.call j k) M (.er e) M':=by obtain⟨n,h⟩:=h;exact⟨n,by grind[cI]⟩
end
end
section
open Go.Dm
set_option maxRecDepth 10000
def aD.has(s:aD)(d:Int):Bool:=decide (s.frm<=d/\d<s.to)
def bQ(l:List aD)(d:Int):Option NV:=(l.find? (·.has d)).map (·.v)
inductive Canon:List aD->Prop where|nil:Canon []|one{s:aD}:s.frm<s.to->Canon [s]|cons{s t:aD}{l:List aD}:s.frm<s.to->s.to<=t.frm->(s.to=t.frm->s.v≠t.v)->Canon (t::l)->Canon (s::t::l)
variable{x:aD}
def Canon.tail{l:List aD}(h:Canon (x::l)):Canon l:=by cases h with|one=>exact .nil|cons _ _ _ h=>exact h
def Canon.hd{l:List aD}(h:Canon (x::l)):x.frm<x.to:=by cases h with|one h=>exact h|cons h _ _ _=>exact h
def Canon.le{l:List aD}(h:Canon (x::l)):∀t∈l,x.to<=t.frm:=by induction l generalizing x with|nil=>intro t a;cases a|cons u l c=>intro t a;cases h with|cons e d f b=>
 rcases S2.1 a with rfl|a;·exact d
 have:=c b t a;have:=b.hd;omega
theorem eW{l:List aD}{d:Int}:bQ (x::l) d=if x.frm<=d/\d<x.to then some x.v else bQ l d:=by
 unfold bQ aD.has;by_cases h:x.frm<=d/\d<x.to;·rw[E4 h,List.find?_cons_of_pos (by simpa using h)];rfl
 rw[E1 h,List.find?_cons_of_neg (by simpa using h)]
def wz{l:List aD}{d:Int}(h:∀t∈l,d<t.frm):bQ l d=none:=by induction l with|nil=>rfl|cons s l a=>have:=h s N1;rw[eW,E1 (by omega)];exact a λt b=>h t (M0 _ b)
def cJ(l:List aD)(s:aD):List aD:=if s.to<=s.frm then l else match l.getLast? with|some t=>if t.to=s.frm/\t.v=s.v then l.dropLast++[⟨t.frm,s.to,t.v⟩]else l++[s]|none=>[s]
def th(l:List aD)(a b:Int):List aD:=l.foldl (λacc s=>cJ acc ⟨max s.frm a,min s.to b,s.v⟩) []
end
section
open Go.Dm
set_option maxRecDepth 10000
def Canon.snoc:∀{l:List aD}{s:aD},Canon l->(∀t,l.getLast?=some t->t.to<=s.frm/\(t.to=s.frm->t.v≠s.v))->s.frm<s.to->Canon (l++[s])|[],_,_,_,hs=>.one hs|[u],s,h,a,hs=>by have:=a u rfl;exact .cons h.hd this.1 this.2 (.one hs)|u::w::l,s,h,a,hs=>by have b:=Canon.snoc h.tail (λt e=>a t (by grind)) hs;cases h with|cons g1 c d f=>exact .cons g1 c d b
theorem Canon.grow:∀{l:List aD}{t:aD}{x:Int},Canon (l++[t])->t.to<=x->Canon (l++[⟨t.frm,x,t.v⟩])
 |[],t,x,h,a=>.one (by have:=h.hd;grind)|[u],t,x,h,a=>by cases h with|cons g1 b c d=>exact .cons g1 b c (.one (by have:=d.hd;grind))
 |u::w::l,t,x,h,a=>by cases h with|cons g1 b c d=>exact .cons g1 b c (Canon.grow (l:=w::l) d a)
def Canon.all_hd{l:List aD}(h:Canon l):∀s∈l,s.frm<s.to:=by induction l with|nil=>grind|cons u l a=>
 intro s hs;rcases S2.1 hs with rfl|hs;·exact h.hd
 exact a h.tail s hs
def I1{l m:List aD}{d:Int}:bQ (l++m) d=(bQ l d).or (bQ m d):=by grind[bQ]
def Canon.mem_to{l:List aD}(h:Canon l){b:Int}(c:∀t,l.getLast?=some t->t.to<=b):∀s∈l,s.to<=b:=by induction l with|nil=>grind|cons u l a=>intro s hs;cases l with|nil=>grind|cons w l=>
 have a:=a h.tail (λt d=>c t (by grind));rcases S2.1 hs with rfl|hs;·have:=a w N1;have e:=h.le w N1;have:=h.tail.hd;omega
 grind
def C5{l:List aD}{d:Int}(h:∀t∈l,t.to<=d):bQ l d=none:=by induction l with|nil=>rfl|cons s l a=>grind[eW]
def arU{l:List aD}{s:aD}(h:Canon l)(g:∀t,l.getLast?=some t->t.to<=s.frm)(hs:s.frm<s.to):Canon (cJ l s)/\(∀d,bQ (cJ l s) d=if s.frm<=d/\d<s.to then some s.v else bQ l d)/\∀t,(cJ l s).getLast?=some t->t.to=s.to:=by
 have i:=h.mem_to g;have j:bQ [s]=λd=>if s.frm<=d/\d<s.to then some s.v else none:=by funext d;rw[eW];rfl
 unfold cJ;rw[E1 (by omega)];cases b:l.getLast? with|none=>rw[AB5.1 b];exact⟨.one hs,λd=>by rw[j];rfl,λt k=>by grind⟩|some t=>
 have k:=g t b;obtain⟨m,rfl⟩:=List.getLast?_eq_some_iff.1 b;simp only;by_cases c:t.to=s.frm/\t.v=s.v
 ·rw[E4 c,ACT];refine⟨h.grow (by omega),λd=>?_,λu a=>?_⟩
  ·rw[I1,I1,eW,eW];have o:∀u∈m,u.to<=s.frm:=λu a=>i u (by simp[a]);by_cases f:s.frm<=d
   ·rw[C5 (λu a=>by have:=o u a;omega)];by_cases c3:d<s.to;·rw[E4 (by have:=h.all_hd t (by simp);simp;omega),E4 ⟨f,c3⟩,<-c.2];rfl
    rw[E1 (by first|(simp only;omega)),E1 (by omega),E1 (by omega)]
   rw[E1 (c:=s.frm<=d/\d<s.to) (by omega)];cases bQ m d with|some w=>rfl|none=>
   by_cases n:t.frm<=d/\d<t.to;·rw[E4 (by first|(simp;omega)),E4 n]
   rw[E1 (by first|(simp only;omega)),E1 n]
  rw[AA6,AAs]at a;cases a;rfl
 rw[E1 c];refine⟨h.snoc (λu a=>?_) hs,λd=>?_,λu a=>?_⟩;·rw[b]at a;cases a;exact⟨k,λe q=>c ⟨e,q⟩⟩
 ·rw[I1,j];by_cases f:s.frm<=d/\d<s.to;·rw[C5 (λu a=>by have:=i u a;omega)];rfl
  simp only[E1 f];cases bQ _ d<;>rfl
 rw[AA6,AAs]at a;cases a;rfl
def fQ(T:List FN)(d:Int):Option FN:=(T.filter λf=>decide (f.frm<=d/\d<f.to)).getLast?
def gc(T:List FN)(d:Int):Option NV:=match fQ T d with|some f=>if f.gone then none else some f.v|none=>none
def i7(T:List FN):List Int->List aD->List aD|a::b::r,acc=>i7 T (b::r) (match fQ T a with|some f=>if f.gone then acc else cJ acc ⟨a,b,f.v⟩|none=>acc)|_,acc=>acc
def arV{T:List FN}{a b d:Int}(h:∀f∈T,(f.frm<=a\/b<=f.frm)/\(f.to<=a\/b<=f.to))(c:a<=d/\d<b):fQ T d=fQ T a:=by unfold fQ;congr 1;refine ABK λf e=>?_;grind
theorem arW{T:List FN}{d:Int}(h:∀f∈T,f.to<=d):fQ T d=none:=by grind[fQ]
def XI{T:List FN}:∀{r:List Int}{a:Int}{acc:List aD},(a::r).Pairwise (·<·)->(∀f∈T,(f.frm<a\/f.frm∈a::r)/\(f.to<a\/f.to∈a::r))->Canon acc->(∀t,acc.getLast?=some t->t.to<=a)->Canon (i7 T (a::r) acc)/\∀d,bQ (i7 T (a::r) acc) d=if d<a then bQ acc d else gc T d
 |[],a,acc,_,h,g,i=>by
  refine⟨g,λd=>?_⟩;show bQ acc d=_;by_cases c:d<a;·grind
  rw[E1 c,C5 (λu l=>by have:=g.mem_to i u l;omega)];grind[gc,arW]|b::r,a,acc,m,h,g,i=>by
  have A:=(hM.1 m).1 b N1;have B:=(hM.1 (hM.1 m).2).1;have p:∀x,(x<a\/x∈a::b::r)->x<=a\/b<=x:=λx e=>by
   rcases e with e|e;·omega
   simp[S2]at e;rcases e with rfl|rfl|e;·omega
   ·omega
   have:=B x e;omega
  have q:∀x,(x<a\/x∈a::b::r)->x<b\/x∈b::r:=λx e=>by
   rcases e with e|e;·omega
   rcases S2.1 e with rfl|e;·omega
   exact .inr e
  have C:∀f∈T,(f.frm<b\/f.frm∈b::r)/\(f.to<b\/f.to∈b::r):=λf j=>⟨q _ (h f j).1,q _ (h f j).2⟩;have E:∀d,a<=d/\d<b->fQ T d=fQ T a:=λd F=>arV (λf j=>⟨p _ (h f j).1,p _ (h f j).2⟩) F;have v:∀k,Canon k->(∀t,k.getLast?=some t->t.to<=b)->(∀d,bQ k d=if a<=d/\d<b then gc T a else bQ acc d)->Canon _/\∀d,bQ _ d=if d<a then bQ acc d else gc T d:=λk G H I=>by
   obtain⟨J,K⟩:=XI (hM.1 m).2 C G H;refine⟨J,λd=>?_⟩;rw[K d];by_cases w:d<b
   · rw[E4 w,I d];by_cases y:d<a;·rw[E4 y,E1 (by omega)]
     rw[E1 y,E4 (by omega)];unfold gc;rw[E d (by omega)]
   rw[E1 w,E1 (by omega)]
  show Canon (i7 T (b::r) _)/\∀d,bQ (i7 T (b::r) _) d=_;have keep:gc T a=none->Canon _/\∀d,bQ _ d=if d<a then bQ acc d else gc T d:=λL=>by
   refine v acc g (λt n=>by have:=i t n;omega) λd=>?_;by_cases c:a<=d/\d<b;·rw[E4 c,L,C5 (λu l=>by have:=g.mem_to i u l;omega)]
   rw[E1 c]
  cases o:fQ T a with|none=>exact keep (by unfold gc;rw[o])|some f=>simp;cases z:f.gone with|true=>exact keep (by unfold gc;rw[o];simp[z,if_true])|false=>
 obtain⟨M,N,P⟩:=arU (s:=⟨a,b,f.v⟩) g i A;rw[E1 (by decide)];refine v _ M (λt n=>by have:=P t n;simp at this;omega) λd=>?_;rw[N d];have:gc T a=some f.v:=by unfold gc;rw[o];simp[z]
 rw[this]
def gw(T:List FN):List Int:=cC (cV (T.flatMap λf=>[f.frm,f.to]))
def iD(T:List FN):List aD:=i7 T (gw T) []
end
section
open Go.Dm
set_option maxRecDepth 10000
abbrev Fq:=Int×Nat
abbrev EQ:=Except Int Fq
def ti(a:Int)(b:Nat):EQ:=if(a/(Nat.gcd a.natAbs b:Nat)).natAbs<cap 256/\b/Nat.gcd a.natAbs b<cap 256 then .ok (a/(Nat.gcd a.natAbs b:Nat),b/Nat.gcd a.natAbs b)else .error 3
def nM(x y:Fq):EQ:=ti (x.1*y.1) (x.2*y.2)
def nO(x y:Fq):EQ:=ti (x.1*y.2+y.1*x.2) (x.2*y.2)
def XJ(x y:Fq):EQ:=ti (um x.1 y.1 y.2) (x.2*y.1.natAbs)
def jX:List aD->Fq->EQ|[],q=>.ok q|s::l,q=>match nM (s.v.n,s.v.m) (s.to-s.frm,1)with|.error e=>.error e|.ok p=>match nO q p with|.error e=>.error e|.ok a=>jX l a
def fR(s:aD):Bool:=decide (0<=s.frm/\s.frm<s.to/\s.to<=65536)
def ge(s t:aD):Bool:=decide (s.to<=t.frm/\s.v.k=t.v.k/\¬(s.to=t.frm/\s.v=t.v))
def cK:List aD->Bool|[]=>true|[s]=>fR s|s::t::l=>fR s&&ge s t&&cK (t::l)
def gf(l:List aD)(a b:Int):Except Int (List aD):=if cK l=true/\0<=a/\a<=b/\b<=65536 then .ok (th l a b)else .error 2
def qQ(l:List aD):Bool:=match l with|[]=>true|s::_=>decide (s.v.k=2\/s.v.k=3)
def wA(l:List aD)(a b:Int):EQ:=match gf l a b with|.error e=>.error e|.ok p=>if qQ l=true then jX p (0,1)else .error 2
def qR(a b:Int):Bool:=decide (0<=a/\a<=65536/\0<=b/\b<=65536)
def tj(l:List aD):Bool:=cK l&&l.all λs=>decide (s.v.k=2/\0<=s.v.n/\s.v.n<=s.v.m)
def oX(l:List aD)(a b:Int):EQ:=if(tj l&&qR a b)=true then(if b<=a then .ok (0,1)else match wA l a b with|.error e=>.error e|.ok q=>nM q (4,1461))else .error 2
def tw(l:List aD):Bool:=cK l&&match l with|[]=>true|s::_=>decide (s.v.k=3)
end
section
open Go.Dm
set_option maxRecDepth 10000
def mI(x:NV):Int:=if x.n< -2147483648*(x.m:Int)then-2147483648 else if 2147483647*(x.m:Int)<x.n then 2147483647 else x.n/(x.m:Int)
def nP(rows:List bV)(a:Int):Option bV:=(rows.filter λr=>decide (r.a<=a)).getLast?
def C6(rows:List bV)(a c:Int):Option bV:=match(rows.filter λr=>decide (r.a<a\/(r.a=a/\r.b<=c))).getLast? with|some r=>if r.a=a then some r else none|none=>none
def bK(a:Int):List bV->List bV->List bV|[],acc=>acc|r::l,acc=>if a<r.known then bK a l acc else match acc.getLast? with|some s=>if s.a=r.a/\s.b=r.b then bK a l (acc.dropLast++[r])else bK a l (acc++[r])|none=>bK a l (acc++[r])
structure bB where
 pure:Nat->Int->List NV->NR
 serv:List aD->Int->Int->EQ
 best:List aD->Int->Int->Int->EQ
 grow:Bool->List bV->Int->Int->EQ
def gg(r:Nm×Int×Int)(M:af):af:={M with facts:=gT M.facts r}
def gy(n:Nm)(M:af):af:={M with tabs:=gT M.tabs n}
def NR.tr:NR->Tr|.ok v=>.ret v|.er e=>.err e
def EQ.tr(k:Nat):EQ->Tr|.ok q=>.ret ⟨k,q.1,q.2,0⟩|.error e=>.err e
def dX(e:EN)(d:Int)(k:Bool->Tr):Tr:=.call (.term e d) λv=>if v.k=1 then k (decide (v.i=1))else .err 185
def gZ(d:Int)(k:List NV->Tr):List EN->List NV->Tr|[],acc=>k acc|e::l,acc=>.call (.term e d) λv=>gZ d k l (acc++[v])
def bC(d:Int)(k:Nat->Tr):List (Nat×eK)->Nat->Nat->Tr|[],c,n=>if n=0 then .err 183 else if 1<n then .err 184 else k c|(i,x)::l,c,n=>dX x.when d λb=>if b=true then bC d k l i (n+1)else bC d k l c n
section
variable(O:bB)(W:Wd)
def eC(b:Nm)(vs:List NV):Tr:=match W.tab b with|none=>.err 6|some (a,rows)=>if a=decide (vs.length=2)then(match nP rows (mI vs[0]!)with|none=>.err 6|some r=>if a=true then(match C6 rows r.a (mI vs[1]!)with|none=>.err 6|some s=>.ret ⟨2,s.n,s.m,0⟩)else .ret ⟨2,r.n,r.m,0⟩)else .err 185
def fp(a:Nat)(b:Nm)(vs:List NV):Tr:=match W.view b with|.error e=>.err e|.ok l=>match gf l vs[0]!.i vs[1]!.i with|.error e=>.err e|.ok p=>if a=21 then(O.serv p vs[0]!.i vs[1]!.i).tr 2 else(O.best p vs[0]!.i vs[1]!.i vs[2]!.i).tr 3
def fI(a:Nat)(b:Nm)(d:Int):Tr:=match W.view b with|.error e=>.err e|.ok l=>if a=4 then .ret (dI (bQ l d).isSome)else match bQ l d with|some v=>.ret v|none=>.err 182
def cB(a:Nat)(b:Nm)(c:Int)(vs:List NV):Tr:=if cm a (vs.map NV.k)=true then(if a=3\/a=4 then .st (gg (b,vs[0]!.i,vs[0]!.i+1)) λ_=>fI W a b vs[0]!.i else if a=6 then .st (gy b) λ_=>eC W b vs else if a=21\/a=22 then(if vs[1]!.i<=vs[0]!.i then(if a=22 then .err 6 else .ret ⟨2,0,1,0⟩)else .st (gg (b,vs[0]!.i,vs[1]!.i)) λ_=>fp O W a b vs)else if a=23 then .st (gy b) λ_=>match W.tab b with|none=>.err 6|some (d,rows)=>(O.grow d rows vs[0]!.i vs[1]!.i).tr 2 else(O.pure a c vs).tr)else .err 185
def kX(a:Nm)(v:NV):Tr:=if v.k=4 then .call (.pair a v.i) .ret else .err 185
def bM(e:EN)(d:Int):Tr:=if e.formed=true then(if e.op=1 then .ret (e.val.getD default)else if e.op=2 then .ret ⟨4,0,0,d⟩else if e.op=15 then dX e.args[0]! d λb=>if b=true then dX e.args[1]! d λc=>.ret (dI c)else .ret (dI false)else if e.op=16 then dX e.args[0]! d λb=>if b=true then .ret (dI true)else dX e.args[1]! d λc=>.ret (dI c)else if e.op=18 then dX e.args[0]! d λb=>if b=true then .call (.term e.args[1]! d) .ret else .call (.term e.args[2]! d) .ret else gZ d (λvs=>if e.op=5 then kX e.name vs[0]! else cB O W e.op e.name e.md vs) e.args [])else .err 185
def js(p:Nm×Int)(M:af):af:={M with pairs:=M.pairs++[p]}
def kY(p:Nm×Int)(M:af):af:={M with begun:=M.begun++[p]}
def oY(p:Nm×Int)(v:NV)(M:af):af:={M with vals:=aS p v M.vals}
def eY(p:Nm×Int)(k:Tr):Tr:=.st id λM=>if p∈M.begun then .err 186 else .st (js p) λ_=>if M.begun.length=4096 then .err 5 else .st (kY p) λ_=>match W.kind p.1 with|none=>.err 6|some _=>k
def jt(a:Nm)(d:Int)(k:Nat->Tr):Tr:=bC d k (W.cl a d) 0 0
def jY(a:Nm)(d:Int):Tr:=.st id λM=>match M.vals.lookup (a,d)with|some v=>.ret v|none=>eY W (a,d) (jt W a d λc=>.call (.term (W.clause c).thn d) λv=>if W.kind a=some v.k then .st (oY (a,d) v) λ_=>.ret v else .err 185)
def bk:aL->Tr|.term e d=>bM O W e d|.pair a d=>jY W a d
end
end
section
open Go.Dm
set_option maxRecDepth 10000
structure SV where
 frm:Int
 to:Int
 a:AV
 ok:a.ok
def SV.c(s:SV):List D:=[.i .i64 s.frm,.i .i64 s.to,.i .u8 s.a.v.k,s.a.s,s.a.x,s.a.t,s.a.y,.i .i64 s.a.v.i]
def SV.n(s:SV):aD:=⟨s.frm,s.to,s.a.v⟩
def yC(b:Bool):∃a:AV,a.v=dI b/\a.ok:=by obtain⟨t1,c⟩:=uo b;obtain⟨a,d,_,e⟩:=t1.av c;grind
noncomputable instance:Inhabited SV:=⟨⟨0,0,Classical.choose (yC true),(i4 (yC true)).2⟩⟩
def AV.same_c(a b:AV)(d:a.ok)(e:b.ok){H:ab}{K:CR->Prop}:ac VS 107 [.ag [.i .u8 a.v.k,a.s,a.x,a.t,a.y,.i .i64 a.v.i],.ag [.i .u8 b.v.k,b.s,b.x,b.t,b.y,.i .i64 b.v.i]] H K↔K (.ret (.b (decide (a.v=b.v))) H):=(acJ d.d e.d d.o e.o).c yr rfl (by simp[AAb,ABG,AAt,D0];exact⟨d.pl,e.pl⟩) (.inl rfl)
def AV.valid_c(a:AV)(d:a.ok){H:ab}{K:CR->Prop}:ac VS 80 [.ag [.i .u8 a.v.k,a.s,a.x,a.t,a.y,.i .i64 a.v.i]] H K↔K (.ret (.b true) H):=by obtain⟨w,e,f,g⟩:=d.d.vlv d.o;have:=(Px w).c (H:=H) (K:=K) BK rfl (by simp[w.pl]) (.inl rfl);rw[e,f]at this;exact this
theorem SV.len(s:SV):s.c.length=8:=rfl
def SV.fl(s:SV):s.c.all D.flat=true:=by obtain⟨a,b,c,d⟩:=s.ok.fl;simp_all[SV.c,jj]
def alV(s:SV){H:ab}{K:CR->Prop}:ac VS 203 (.ag s.c::[]) H K↔K (.ret (.b false) H):=by have e:=λ{H K}=>s.a.valid_c s.ok (H:=H) (K:=K);refine ai.c (.body TG rfl ?_) TG rfl (by simpa[bO]using s.fl) (.inl rfl);simp only[SV.c];simp[go_sem,avU,e]
structure B5(l:List SV)(i:Nat):Prop where a:∀j,j<i->fR l[j]!.n=true/\(0<j->ge l[j-1]!.n l[j]!.n=true)
def UG:∀{l:List SV},(∀j,j<l.length->fR l[j]!.n=true/\(0<j->ge l[j-1]!.n l[j]!.n=true))->cK (l.map SV.n)=true
 |[],_=>rfl|[s],h=>(h 0 (by simp)).1|s::t::l,h=>by
  have b:=(h 1 (by simp)).2 (by omega);have c:=UG (l:=t::l) λj d=>by have:=h (j+1) (by grind);refine⟨this.1,λe=>?_⟩;have a:=this.2 (by omega);obtain⟨m,rfl⟩:∃m,j=m+1:=⟨j-1,by omega⟩;exact a
  grind[fR,ge,cK,SV.n]
def Ho:∀{l:List SV}{j:Nat},j<l.length->(fR l[j]!.n=false\/(0<j/\ge l[j-1]!.n l[j]!.n=false))->cK (l.map SV.n)=false
 |[],_,a,_=>by grind|[s],0,_,h=>by
  rcases h with h|h;·exact h
  omega|[s],j+1,a,_=>by grind|s::t::l,0,_,h=>by grind[fR,ge,cK,SV.n]|s::t::l,1,_,h=>by
  show(fR s.n&&ge s.n t.n&&cK ((t::l).map SV.n))=false;rcases h with h|⟨_,h⟩;·rw[Ho (j:=0) (by simp) (.inl h),ABi]
  grind|s::t::l,j+2,a,h=>by show(fR s.n&&ge s.n t.n&&cK ((t::l).map SV.n))=false;rw[Ho (j:=j+1) (by grind) (by grind),ABi]
variable{x:SV}
def Hp(h:¬(0<=x.frm/\x.frm<x.to/\x.to<=65536)):fR x.n=false:=N2 h
def alW(h:0<=x.frm/\x.frm<x.to/\x.to<=65536):fR x.n=true:=Rp h
def Hr{t:SV}(h:¬(x.to<=t.frm/\x.a.v.k=t.a.v.k/\¬(x.to=t.frm/\x.a.v=t.a.v))):ge x.n t.n=false:=N2 h
def UH{t:SV}(h:x.to<=t.frm/\x.a.v.k=t.a.v.k/\¬(x.to=t.frm/\x.a.v=t.a.v)):ge x.n t.n=true:=Rp h
def B5.succ{l:List SV}{i:Nat}(h:B5 l i)(a:fR l[i]!.n=true)(b:0<i->ge l[i-1]!.n l[i]!.n=true):B5 l (i+1):=⟨λj d=>by
 by_cases c:j=i;·grind
 exact h.a j (by omega)⟩
def B6{l:List SV}{x:D}(h:Sl 8 (l.map SV.c) x)(hl:l.length<1099511627776):ai VS 155 [x] (.b (cK (l.map SV.n))):=by
 have W:=λ{H K}=>xJ (V:=VS) (f:=202) (h:=250) (g:=203) (w:=8) (agg:=true) (enc:=SV.c) (key:=λs=>.ag s.c) (l:=l) (x:=x) (cp:=[]) (p:=λ_=>false) (H:=H) (K:=K) (TF.trans (by kernel_rfl)) (Uf.trans (by kernel_rfl)) h (by omega) SV.len (λ_=>rfl) (by decide) (λa K=>alV a);have X:(l.any λ_=>false)=false:=by simp
 refine .body (vf:=DQ) yw rfl ?_;simp(disch:=omega)only[go_sem,simprocAttr,avA,h.n];refine ak.up (λi s=>∃I J L M N P Q,B5 l i/\s=⟨[x,.b false,I,J,L,M,.i .i64 i,.i .i64 l.length,x,N,P,Q],[]⟩) l.length ⟨_,_,_,_,_,_,_,⟨λj Y=>by omega⟩,rfl⟩ ?_;rintro i s hi⟨I,J,L,M,N,P,Q,hr,rfl⟩;by_cases u:i<l.length
 ·have c:(i:Int)<(l.length:Int):=by omega
  have d:(0:Int)<=(i:Int):=by omega
  have A:IntKind.i64.wrap ((i:Int)+1)=((i+1:Nat):Int):=by rw[wr (by omega) (by omega)];omega
  obtain⟨s,hs⟩:∃s,s=l[i]!:=⟨_,rfl⟩;have v:(fR s.n=false\/(0<i/\ge l[i-1]!.n s.n=false))->cK (l.map SV.n)=false:=λh=>Ho u (hs▸h);by_cases d1:s.frm<0;·have:=v (.inl (Hp (by omega)));simp(disch:=omega)only[go_sem,simprocAttr,nS,h.q,c,d,dA,<-hs,SV.c,d1,this]
  by_cases d2:s.to<=s.frm;·have:=v (.inl (Hp (by omega)));simp(disch:=omega)only[go_sem,simprocAttr,nS,h.q,c,d,dA,<-hs,SV.c,d1,d2,this]
  by_cases d3:65536<s.to;·have:=v (.inl (Hp (by omega)));simp(disch:=omega)only[go_sem,simprocAttr,nS,h.q,c,d,dA,<-hs,SV.c,d1,d2,d3,this]
  have Z:fR s.n=true:=alW (by omega);have B:fR l[i]!.n=true:=hs▸Z;by_cases ab:i=0;·have z0:((i:Int)=0)↔True:=iff_of_true (by omega) trivial;have k:=hr.succ B (λh=>by omega);simp(disch:=omega)only[go_sem,simprocAttr,nS,h.q,c,d,dA,<-hs,SV.c,d1,d2,d3,A,z0];exact⟨u,k⟩
  have z0:¬(i:Int)=0:=by omega
  have m:IntKind.i64.wrap ((i:Int)-1)=((i-1:Nat):Int):=by rw[wr (by omega) (by omega)];omega
  have c3:(0:Int)<=((i-1:Nat):Int):=by omega
  have o:((i-1:Nat):Int)<(l.length:Int):=by omega
  obtain⟨t,e⟩:∃t,t=l[i-1]!:=⟨_,rfl⟩;have C:ge t.n s.n=false->cK (l.map SV.n)=false:=λh=>v (.inr ⟨by omega,e▸h⟩);have S:=λ{H K}=>t.a.same_c s.a t.ok s.ok (H:=H) (K:=K);by_cases q:s.frm<t.to;·have:=C (Hr (by omega));simp(disch:=omega)only[go_sem,simprocAttr,nS,h.q,c,d,dA,<-hs,SV.c,d1,d2,d3,m,z0,c3,o,<-e,q,this]
  by_cases E:t.a.v.k=s.a.v.k
  ·have r:((t.a.v.k:Int)=(s.a.v.k:Int))↔True:=iff_of_true (by omega) trivial;by_cases y:t.to=s.frm
   ·have U:(t.to=s.frm)↔True:=iff_of_true y trivial;by_cases z:t.a.v=s.a.v;·have:=C (Hr (λg=>g.2.2 ⟨y,z⟩));have F:=λ{H K}=>(S (H:=H) (K:=K)).trans (by rw[Rp z]);simp(disch:=omega)only[go_sem,simprocAttr,nS,h.q,c,d,dA,<-hs,SV.c,d1,d2,d3,m,z0,c3,o,<-e,q,r,U,F,this]
    have G:ge t.n s.n=true:=UH ⟨by omega,E,λg=>z g.2⟩;have k:=hr.succ B (λ_=>by rw[<-hs,<-e];exact G);have F:=λ{H K}=>(S (H:=H) (K:=K)).trans (by rw[N2 z]);simp(disch:=omega)only[go_sem,simprocAttr,nS,h.q,c,d,dA,<-hs,SV.c,d1,d2,d3,A,m,z0,c3,o,<-e,q,r,U,F];exact⟨u,k⟩
   have G:ge t.n s.n=true:=UH ⟨by omega,E,λg=>y g.1⟩;have k:=hr.succ B (λ_=>by rw[<-hs,<-e];exact G);simp(disch:=omega)only[go_sem,simprocAttr,nS,h.q,c,d,dA,<-hs,SV.c,d1,d2,d3,A,m,z0,c3,o,<-e,q,r,y];exact⟨u,k⟩
  have r:¬(t.a.v.k:Int)=(s.a.v.k:Int):=by omega
  have:=C (Hr (λg=>E g.2.1));simp(disch:=omega)only[go_sem,simprocAttr,nS,h.q,c,d,dA,<-hs,SV.c,d1,d2,d3,m,z0,c3,o,<-e,q,r,this]
 have c:¬(i:Int)<(l.length:Int):=by omega
 simp(disch:=omega)only[go_sem,simprocAttr,nS,c,W,X];rw[UG (λj Y=>hr.a j (by omega))]
end
section
open Go.Dm
set_option maxRecDepth 10000
def B7{v:NV}(h:v.ok):(ds 65536 v.n.natAbs).length<70368744177665/\(ds 65536 v.m).length<70368744177665:=by
 by_cases a:v.k=2\/v.k=3;·have:=(h.f a).1;exact⟨mQ this.bn (by omega),mQ this.bm (by omega)⟩
 obtain⟨b,c⟩:=h.o a;grind[bE]
def alX{a:AV}(c:a.ok):∃b:AV,b.v=a.v/\b.ok/\ai VS 204 [.ag a.c] (.ag b.c):=by obtain⟨x,y,e,g,h⟩:=c.d.h;obtain⟨i,j⟩:=B7 c.o;obtain⟨k,l,d⟩:=rh g.sl i;obtain⟨n,o,f⟩:=rh h.sl j;have p:=λ{H K}=>l.c (H:=H) (K:=K) oM rfl (by simp[g.sl.pl]) (.inl rfl);have q:=λ{H K}=>o.c (H:=H) (K:=K) oM rfl (by simp[h.sl.pl]) (.inl rfl);have r:=λm H=>ah d.flat m H;have s:=λm H=>ah f.flat m H;have t:VD a.v _:=⟨k,n,rfl,⟨d⟩,⟨f⟩⟩;obtain⟨b,u,v,w⟩:=t.av c.o;refine⟨b,u,w,?_⟩;rw[e,<-v];refine .body TH rfl ?_;simp[go_sem,simprocAttr,avV,p,q,r,s,d.c1,f.c1]
def alY{a:AV}(c:a.ok):∃b:AV,b.v=a.v/\b.ok/\∀{H K},ac VS 204 [.ag [.i .u8 a.v.k,a.s,a.x,a.t,a.y,.i .i64 a.v.i]] H K↔K (.ret (.ag [.i .u8 b.v.k,b.s,b.x,b.t,b.y,.i .i64 b.v.i]) H):=by obtain⟨b,d,e,f⟩:=alX c;exact⟨b,d,e,λ{H K}=>f.c TH rfl (by simp[AAb,ABG,AAt];exact c.pl) (.inl rfl)⟩
def alZ{a b:Int}:ai VS 156 [.i .i64 a,.i .i64 b] (.b (decide (0<=a/\a<=b/\b<=65536))):=by
 refine .body Tp rfl ?_;by_cases c:0<=a
 ·by_cases d:a<=b
  ·by_cases e:b<=65536;·simp[go_sem,DR,c,d];try simp[c,d,e]
   simp[go_sem,DR,c,d];try simp[c,d,e]
  simp only[go_sem,DR,c,d];grind
 simp only[go_sem,DR,c];grind
def UI{l:List SV}(h:l≠[]):(l.map SV.n).getLast?=some l[l.length-1]!.n:=by have a:=V2.2 h;grind
def UJ{α:Type}{l:List α}(h:l≠[]){n:Nat}{a:α}(c:n=l.length:=by simp):l.set (n-1) a=l.dropLast++[a]:=by obtain⟨m,b,rfl⟩:=ABT l|>.resolve_left h;simp_all
def UK(a:ab)(acc:List SV)(s:SV)(r:CR):Prop:=∃l:List SV,l.map SV.n=cJ (acc.map SV.n) s.n/\r=.ret (bD a .nil (l.map SV.c)) (bH a 8 (l.map SV.c))
def al0{H0:ab}{acc:List SV}{s:SV}(X:acc.length<1099511627776):ac VS 157 [bD H0 .nil (acc.map SV.c),.sv 8 [s.c]] (bH H0 8 (acc.map SV.c)) (UK H0 acc s):=by
 obtain⟨b,Z,I,o⟩:=alY s.ok;have g0:∀{H:ab},cG H (.sv 8 [s.c]) (.i .i64 0) 8=some _:=λ{H}=>rfl;have c:IntKind.i64.wrap 1=1:=by decide
 have P:∀{H:ab},dS H 1 (.sv 8 [s.c])=some (.i .i64 1):=λ{H}=>rfl;simp[SV.c]at g0 P⊢;refine .body alh rfl rfl ?_;simp[go_sem,avB];rw[bJ];by_cases d1:s.to<=s.frm;·simp[go_sem,simprocAttr,zE,g0,d1,c];rw[bJ];simp[go_sem,simprocAttr];exact⟨acc,by unfold cJ;rw[E4 (show s.n.to<=s.n.frm from d1)],rfl⟩
 have p:∀(m:List aD),cJ m s.n=match m.getLast? with|some t=>if t.to=s.frm/\t.v=s.a.v then m.dropLast++[⟨t.frm,s.to,t.v⟩]else m++[s.n]|none=>[s.n]:=λm=>by unfold cJ;rw[E1 (show¬s.n.to<=s.n.frm from d1)];rfl
 obtain⟨a,Q⟩:∃a:SV,a=⟨s.frm,s.to,b,I⟩:=⟨_,rfl⟩;have q:a.c=[.i .i64 s.frm,.i .i64 s.to,.i .u8 b.v.k,b.s,b.x,b.t,b.y,.i .i64 b.v.i]:=by rw[Q];rfl
 have J:a.n=s.n:=by grind[SV.n]
 obtain⟨u,v,x,y⟩:=I.fl;have f:=m9 (H0:=H0) (w:=8) (bytes:=96) (r:=a.c) (enc:=SV.c) (l:=acc) (by omega) (by omega);rw[q]at f;by_cases d:acc=[]
 ·have S:(acc.length:Int)=0:=by grind
  simp[go_sem,simprocAttr,zE,g0,d1,c,o,S,f,u,v,x,y];rw[bJ];simp[go_sem,simprocAttr];refine⟨[a],?_,?_⟩;·rw[p,d];simp[J]
  rw[d,<-q];rfl
 have e:=V2.2 d;have z:(0:Int)<acc.length:=by omega
 have A:IntKind.i64.wrap (acc.length-1)=((acc.length-1:Nat)):=by rw[wr (by omega) (by omega)];omega
 have c3:0<=((acc.length-1:Nat):Int):=by omega
 have B:((acc.length-1:Nat):Int)<acc.length:=by omega
 have C:acc.length-1<acc.length:=by omega
 obtain⟨t,h⟩:∃t,t=acc[acc.length-1]!:=⟨_,rfl⟩;have E:=UI d;rw[<-h]at E;have L:=λ{H K}=>t.a.same_c s.a t.ok s.ok (H:=H) (K:=K);have F:¬(t.to=s.frm/\t.a.v=s.a.v)->∃l:List SV,l.map SV.n=cJ _ s.n/\acc.map SV.c++[a.c]=l.map SV.c:=λU=>⟨acc++[a],by rw[p,E];simp only;rw[E1 (show¬(t.n.to=s.frm/\t.n.v=s.a.v)from U),<-J];simp,by simp⟩;have ext:∀{Y:List _},(∃l:List SV,l.map SV.n=cJ _ s.n/\Y=l.map SV.c)->UK H0 acc s (.ret _ _):=λ⟨l,V,W⟩=>⟨l,V,by rw[W]⟩;rw[q]at F;by_cases j:t.to=s.frm
 ·have M:=iff_of_true j trivial;by_cases k:t.a.v=s.a.v
  ·have G:=λ{H K}=>(L (H:=H) (K:=K)).trans (by rw[Rp k]);simp only[go_sem,simprocAttr,zE,g0,d1,c,A,z,c3,B,C,SV.c,<-h,M,G];refine⟨e,e,?_⟩;rw[bJ];simp[go_sem,simprocAttr];obtain⟨n,N⟩:∃n:SV,n=⟨t.frm,s.to,t.a,t.ok⟩:=⟨_,rfl⟩;refine⟨acc.set (acc.length-1) n,?_,?_⟩;·rw[p,E];simp only;rw[E4 (⟨j,k⟩),AAS,UJ (by simpa using d),N];rfl
   rw[AAS,show n.c=[.i .i64 t.frm,.i .i64 s.to,.i .u8 _,t.a.s,t.a.x,t.a.t,t.a.y,.i .i64 _]by rw[N];rfl,vD (rows:=(List.map SV.c acc).set _ _) (rows':=List.map SV.c acc) (by simp)]
  have G:=λ{H K}=>(L (H:=H) (K:=K)).trans (by rw[N2 k]);simp only[go_sem,simprocAttr,zE,g0,d1,c,A,o,z,c3,B,C,SV.c,<-h,M,G,f,u,v,x,y];rw[bJ];simp only[go_sem,simprocAttr];exact⟨e,e,ext (F λg=>k g.2)⟩
 simp only[go_sem,simprocAttr,zE,g0,d1,c,A,o,z,c3,B,C,SV.c,<-h,j,f,u,v,x,y];rw[bJ];simp[go_sem,simprocAttr];exact⟨e,ext (F λg=>j g.1)⟩
theorem UL(l:List aD)(s:aD):(cJ l s).length<=l.length+1:=by grind[cJ]
structure UM(l:List SV)(a b:Int)(y:D)(e:Int):Prop where h:(e=0/\∃m:List SV,Sl 8 (m.map SV.c) y/\gf (l.map SV.n) a b=.ok (m.map SV.n)/\m.length<=l.length)\/(e=2/\y=.nil/\gf (l.map SV.n) a b=.error 2)
def vO(l:List SV)(a b:Int)(i:Nat):List aD:=(l.take i).foldl (λacc s=>cJ acc ⟨max s.frm a,min s.to b,s.a.v⟩) []
def al1{l:List SV}{a b:Int}{i:Nat}(h:i<l.length):vO l a b (i+1)=cJ (vO l a b i) ⟨max l[i]!.frm a,min l[i]!.to b,l[i]!.a.v⟩:=by unfold vO;rw[sd,Hk h,Hy l i h,AAx];rfl
theorem al2{l:List SV}{a b:Int}:vO l a b l.length=th (l.map SV.n) a b:=by unfold vO th;rw[o5,List.foldl_map];rfl
def bl{s:SV}{a b:Int}:∃t:SV,t=⟨max s.frm a,min s.to b,s.a,s.ok⟩:=by grind
def Ht{l:List SV}{x:D}{a b:Int}(h:Sl 8 (l.map SV.c) x)(C:l.length<1000000000000):∃y e,ai VS 117 [x,.i .i64 a,.i .i64 b] (.tu [y,.i .i64 e])/\UM l a b y e:=by
 have f:=λ{H K}=>(B6 h (by omega)).c (H:=H) (K:=K) yw rfl (by simp[h.pl]) (.inl rfl);have g:=λ{H K}=>(alZ (a:=a) (b:=b)).c (H:=H) (K:=K) Tp rfl rfl (.inl rfl);by_cases j:cK (l.map SV.n)=true
 ·rw[j]at f;by_cases m:0<=a/\a<=b/\b<=65536
  ·rw[Rp m]at g;have w:aH VS 117 [x,.i .i64 a,.i .i64 b] (λr=>∃d,r=.ret d/\∃y,d=.tu [y,.i .i64 0]/\UM l a b y 0):=by
    refine .body vH rfl ?_;simp[go_sem,LL,f,g,h.n];refine ak.up (λi s=>∃(acc:List SV)(n o:D),acc.map SV.n=vO l a b i/\acc.length<=i/\s=⟨[x,.i .i64 a,.i .i64 b,.nil,.i .i64 0,.b false,n,bD [] .nil (acc.map SV.c),.i .i64 i,.i .i64 _,x,o],bH [] 8 (acc.map SV.c)⟩) l.length ⟨[],_,_,rfl,G1 _,rfl⟩ ?_;rintro i s hi⟨acc,n,o,z,E,rfl⟩;by_cases p:i<l.length
    ·have k:(i:Int)<l.length:=by omega
     have c3:(0:Int)<=i:=by omega
     have A:IntKind.i64.wrap (i+1)=((i+1:Nat)):=by grind[wr]
     obtain⟨s,hs⟩:∃s,s=l[i]!:=⟨_,rfl⟩;obtain⟨t,q⟩:=bl (s:=s) (a:=a) (b:=b);have u:=al0 (H0:=[]) (acc:=acc) (s:=t) (by omega);rw[show t.c=[.i .i64 (max s.frm a),.i .i64 (min s.to b),.i .u8 s.a.v.k,s.a.s,s.a.x,s.a.t,s.a.y,.i .i64 s.a.v.i]by rw[q];rfl]at u;simp[go_sem,simprocAttr,Z4,h.q,k,<-hs,SV.c];refine u.mono λr hr=>?_;obtain⟨v,g1,rfl⟩:=hr;have B:v.length<=i+1:=by grind[UL,SV.n]
     simp[go_sem,A];exact⟨p,v,by rw[g1,z,al1 p,<-hs,q];rfl,B,rfl,rfl⟩
    have k:¬(i:Int)<l.length:=by omega
    simp only[go_sem,Z4,k];exact⟨_,rfl,⟨.inl ⟨rfl,acc,oH rfl 8 _,by grind[gf,al2],by omega⟩⟩⟩
   obtain⟨d,F,y,rfl,G⟩:=w.ex;grind
  rw[N2 m]at g;refine⟨.nil,2,.body vH rfl ?_,⟨.inr ⟨rfl,rfl,by grind[gf]⟩⟩⟩;simp[go_sem,LL,f,g]
 rw[Bool.not_eq_true]at j;rw[j]at f;refine⟨.nil,2,.body vH rfl ?_,⟨.inr ⟨rfl,rfl,by grind[gf]⟩⟩⟩;simp[go_sem,LL,f]
end
section
open Go.Dm
set_option maxRecDepth 10000
structure QV where
 q:Fq
 s:D
 x:D
 t:D
 y:D
 f:Fr q.1 q.2 (.ag [s,x,t,y])l:eL q.1 q.2
def QV.c(q:QV):List D:=[q.s,q.x,q.t,q.y]
structure bh(r:EQ)(d:D):Prop where h:(∃q:QV,r=.ok q.q/\d=.tu [.ag [q.s,q.x,q.t,q.y],.i .i64 0])\/(∃e:Int,r=.error e/\e≠0/\d=.tu [.ag [.b false,.nil,.b false,.nil],.i .i64 e])
theorem gD.eq{a:Int}{b:Nat}{r:D}(f:b≠0)(h:gD a b r):bh (ti a b) r:=by
 unfold ti;obtain⟨d,⟨c,e,rfl,g⟩|⟨c,rfl⟩⟩:=h.h;·rw[E4 ⟨c,e⟩];obtain⟨x,y,rfl,i,j⟩:=g.h;exact⟨.inl ⟨⟨(_,_),_,_,_,_,⟨x,y,rfl,i,j⟩,acM f ⟨c,e⟩⟩,rfl,rfl⟩⟩
 rw[E1 c];exact⟨.inr ⟨3,rfl,by decide,rfl⟩⟩
def QV.fl(q:QV):q.s.flat=true/\q.x.flat=true/\q.t.flat=true/\q.y.flat=true:=q.f.pl4
def QV.mul(a b:QV):∃r,bh (nM a.q b.q) r/\∀{H K},ac VS 130 [.ag [a.s,a.x,a.t,a.y],.ag [b.s,b.x,b.t,b.y]] H K↔K (.ret r H):=by obtain⟨r,r1,r2⟩:=acy a.f b.f a.l b.l;have e:=r2.eq (qq a.l.z b.l.z);refine⟨r,e,λ{H K}=>r1.c GR rfl (by simp[a.f.pl,b.f.pl]) ?_⟩;exact .inl rfl
def QV.add(a b:QV):∃r,bh (nO a.q b.q) r/\∀{H K},ac VS 167 [.ag [a.s,a.x,a.t,a.y],.ag [b.s,b.x,b.t,b.y]] H K↔K (.ret r H):=by obtain⟨r,r1,r2⟩:=acz a.f b.f a.l b.l;have e:=r2.eq (qq a.l.z b.l.z);exact⟨r,e,λ{H K}=>r1.c GV rfl (by simp[a.f.pl,b.f.pl]) (.inl rfl)⟩
def QV.div(a b:QV)(c:b.q.1≠0):∃r,bh (XJ a.q b.q) r/\∀{H K},ac VS 131 [.ag [a.s,a.x,a.t,a.y],.ag [b.s,b.x,b.t,b.y]] H K↔K (.ret r H):=by obtain⟨r,r1,r2⟩:=acD a.f b.f a.l b.l c;have e:=r2.eq (qq a.l.z (by omega));exact⟨r,e,λ{H K}=>r1.c GS rfl (by simp[a.f.pl,b.f.pl]) (.inl rfl)⟩
def QV.cmp(a b:QV){H:ab}{K:CR->Prop}:ac VS 127 [.ag [a.s,a.x,a.t,a.y],.ag [b.s,b.x,b.t,b.y]] H K↔K (.ret (.i .i64 (di (a.q.1*b.q.2) (b.q.1*a.q.2))) H):=(xg a.f b.f a.l b.l).c sG rfl (by simp[a.f.pl,b.f.pl]) (.inl rfl)
def QV.int{n:Int}(a:-9223372036854775808<=n/\n<9223372036854775808):∃q:QV,q.q=(n,1)/\∀{H K},ac VS 90 [.i .i64 n] H K↔K (.ret (.ag [q.s,q.x,q.t,q.y]) H):=by obtain⟨d,b,c⟩:=Pv a;obtain⟨x,y,rfl,e,f⟩:=c.h;exact⟨⟨(n,1),_,_,_,_,⟨x,y,rfl,e,f⟩,Ah (by omega)⟩,rfl,λ{H K}=>b.c sE rfl rfl (.inl rfl)⟩
def AV.ok.qv{a:AV}(h:a.ok)(b:a.v.k=2\/a.v.k=3):∃q:QV,q.q=(a.v.n,a.v.m)/\q.s=a.s/\q.x=a.x/\q.t=a.t/\q.y=a.y:=by obtain⟨s,x,t,y,e,f⟩:=h.d.cs;obtain⟨rfl,rfl,rfl,rfl⟩:=e;exact⟨⟨(_,_),_,_,_,_,f,(h.o.f b).1⟩,rfl,rfl,rfl,rfl,rfl⟩
def al3{P:NV->Prop}{l:List aD}{s:aD}(h:∀t∈l,P t.v)(hs:P s.v):∀t∈cJ l s,P t.v:=by
 unfold cJ;split;·exact h
 split
 ·rename_i t b;split
  ·intro u a;rcases TA.1 a with a|a;·exact h u (ABa _ a)
   grind
  grind
 grind
def UN{P:NV->Prop}{a b:Int}:∀{l acc:List aD},(∀t∈l,P t.v)->(∀t∈acc,P t.v)->∀t∈l.foldl (λacc s=>cJ acc ⟨max s.frm a,min s.to b,s.v⟩) acc,P t.v|[],_,_,h=>h|s::l,acc,c,h=>UN (l:=l) (λt d=>c t (M0 _ d)) (al3 h (c s N1))
theorem UO:∀{l:List aD}{s:aD},cK (s::l)=true->∀t∈s::l,t.v.k=s.v.k
 |[],s,_,t,a=>by grind|u::l,s,h,t,a=>by
  have b:(fR s&&ge s u&&cK _)=true:=h;simp[D0]at b;have c:=(hO b.1.2).2.1;rcases S2.1 a with rfl|a;·rfl
  rw[UO b.2 t a,c]
def al4{l p:List aD}{a b:Int}(h:gf l a b=.ok p)(d:qQ l=true):∀t∈p,t.v.k=2\/t.v.k=3:=by
 unfold gf at h;split at h;·rename_i hr;cases h;cases l with|nil=>intro t c;cases c|cons s l=>have e:=hO d;refine UN (P:=λv=>v.k=2\/v.k=3) (λt c=>?_) (λt c=>by cases c);grind[UO]
 grind
def al5{l p:List aD}{a b:Int}(h:gf l a b=.ok p):0<=a/\a<=b/\b<=65536:=by grind[gf]
def al6{a b:Int}(d:0<=a/\b<=65536){l:List aD}{s:aD}(h:∀t∈l,0<=t.frm/\t.to<=65536/\t.frm<t.to)(hs:0<=s.frm/\s.to<=65536):∀t∈cJ l s,0<=t.frm/\t.to<=65536/\t.frm<t.to:=by
 unfold cJ;split;·exact h
 rename_i e;split
 ·rename_i t f;split
  ·rename_i g;intro u c;rcases TA.1 c with c|c;·exact h u (ABa _ c)
   grind
  grind
 grind
def UP{a b:Int}(c:0<=a/\b<=65536):∀{l acc:List aD},(∀t∈acc,0<=t.frm/\t.to<=65536/\t.frm<t.to)->∀t∈l.foldl (λacc s=>cJ acc ⟨max s.frm a,min s.to b,s.v⟩) acc,0<=t.frm/\t.to<=65536/\t.frm<t.to|[],_,h=>h|s::l,acc,h=>UP c (l:=l) (al6 c h ⟨by grind,by grind⟩)
def al7{l p:List aD}{a b:Int}(h:gf l a b=.ok p):∀t∈p,0<=t.frm/\t.to<=65536/\t.frm<t.to:=by
 have hr:=al5 h;unfold gf at h;split at h;·cases h;exact UP ⟨hr.1,hr.2.2⟩ (λt c=>by cases c)
 grind
def vP(l:List SV)(i:Nat):EQ:=jX ((l.take i).map SV.n) (0,1)
def al8{l:List aD}{s:aD}:∀{q:Fq},jX (l++[s]) q=match jX l q with|.error e=>.error e|.ok a=>match nM (s.v.n,s.v.m) (s.to-s.frm,1)with|.error e=>.error e|.ok p=>nO a p:=by induction l<;>grind[jX,nM,nO]
def al9{l m:List aD}:∀{q:Fq}{e:Int},jX l q=.error e->jX (l++m) q=.error e:=by induction l<;>grind[jX,nM,nO]
def ama{l:List SV}{i:Nat}(h:i<l.length):vP l (i+1)=match vP l i with|.error e=>.error e|.ok b=>match nM (l[i]!.a.v.n,l[i]!.a.v.m) (l[i]!.to-l[i]!.frm,1)with|.error e=>.error e|.ok p=>nO b p:=by unfold vP;rw[sd,Hk h,Hy l i h,eH];exact al8
theorem UQ{l:List SV}{i:Nat}{e:Int}(h:vP l i=.error e):jX (l.map SV.n) (0,1)=.error e:=by have:=al9 (m:=(l.drop i).map SV.n) h;simp_all
theorem bh.er{r:EQ}{e:Int}(h:r=.error e)(a:e≠0):bh r (.tu [.ag [.b false,.nil,.b false,.nil],.i .i64 e]):=⟨.inr ⟨e,h,a,rfl⟩⟩
theorem bh.ok{r:EQ}{q:QV}(h:r=.ok q.q):bh r (.tu [.ag [q.s,q.x,q.t,q.y],.i .i64 0]):=⟨.inl ⟨q,h,rfl⟩⟩
def UR{l:List SV}{x:D}{a b:Int}(h:Sl 8 (l.map SV.c) x)(Y:l.length<1000000000000):∃r,ai VS 160 [x,.i .i64 a,.i .i64 b] r/\bh (wA (l.map SV.n) a b) r:=by
 obtain⟨y,e,Z,c2⟩:=Ht (a:=a) (b:=b) h Y;have o:=λ{H K}=>Z.c (H:=H) (K:=K) vH rfl (by simp[h.pl,aZ]) (.inl rfl);unfold wA;rcases c2.h with⟨rfl,m,g,v,a8⟩|⟨rfl,rfl,v⟩
 ·rw[v];simp only;obtain⟨j,z1,z2⟩:=QV.int (n:=0) (by omega);have L:qQ (l.map SV.n)=true->∀(w a6 z A B C E:D),ak VS (.loop Mp) ⟨[x,.i .i64 a,.i .i64 b,.bx [.b false,.nil,.b false,.nil],.i .i64 0,.b false,.b false,z,A,B,.i .i64 0,y,.i .i64 0,.i .i64 m.length,y,C,w,.bx [j.s,j.x,j.t,j.y],E],[]⟩ (lG 0 (kK VS (match DT.body with|.seq _ (.seq _ (.seq _ (.seq _ (.seq _ (.seq _ r)))))=>r|c=>c) (du [.bx 3 4 true,.s 4] (fE false λr=>∃d,r=.ret d/\bh (jX (m.map SV.n) (0,1)) d)))):=by
   intro hn w a6 z A B C E;have hk:=al4 v hn;have ae:=al7 v;refine ak.up (λi s=>∃(acc:QV)(w z A B C E:D),vP m i=.ok acc.q/\s=⟨[x,.i .i64 a,.i .i64 b,.bx [.b false,.nil,.b false,.nil],.i .i64 0,.b false,.b false,z,A,B,.i .i64 0,y,.i .i64 i,.i .i64 _,y,C,w,.bx [acc.s,acc.x,acc.t,acc.y],E],[]⟩) m.length ⟨j,_,_,_,_,_,_,by rw[z1];rfl,rfl⟩ ?_;rintro i s hi⟨acc,w,z,A,B,C,E,ha,rfl⟩;obtain⟨g1,g2,g3,g4⟩:=acc.fl;by_cases am:i<m.length
   ·have F:(i:Int)<(m.length:Int):=by omega
    have c3:(0:Int)<=(i:Int):=by omega
    have w1:IntKind.i64.wrap (i+1)=((i+1:Nat)):=by grind[wr]
    obtain⟨s,hs⟩:∃s,s=m[i]!:=⟨_,rfl⟩;have S:s.n∈m.map SV.n:=by grind
    have ao:s.a.v.k=2\/s.a.v.k=3:=hk _ S;have a9:0<=s.frm/\s.to<=65536/\s.frm<s.to:=ae _ S;have M:IntKind.i64.wrap _=s.to-s.frm:=wr (by omega) (by omega);obtain⟨qs,aq,ar,au,av,aw⟩:=s.ok.qv ao;obtain⟨qd,ay,N⟩:=QV.int (n:=s.to-s.frm) (by omega);obtain⟨r1,U,J⟩:=qs.mul qd;rw[ar,au,av,aw]at J;have V:=ama am;rw[<-hs,ha]at V;rw[aq,ay]at U;rcases U.h with⟨p,W,rfl⟩|⟨e,W,p2,rfl⟩
    ·rw[W]at V;obtain⟨r2,n1,X⟩:=acc.add p;rcases n1.h with⟨q,q1,rfl⟩|⟨e,q1,q2,rfl⟩;·simp only[go_sem,simprocAttr,DS,g.q,F,c3,<-hs,SV.c,M,N,J,X,w1];grind
     have a3:¬e=0:=q2;simp[go_sem,simprocAttr,DS,g.q,F,<-hs,SV.c,M,N,J,X,a3];grind[bh.er,UQ]
    have a4:¬e=0:=p2;simp[go_sem,simprocAttr,DS,g.q,F,<-hs,SV.c,M,N,J,a4];grind[bh.er,UQ]
   have F:¬(i:Int)<(m.length:Int):=by omega
   have ba:jX (m.map SV.n) (0,1)=.ok acc.q:=by grind[vP]
   simp[go_sem,DS,pd,F,ah g1,ah g2,ah g3,ah g4];grind[bh.ok]
  have z3:=j.fl;by_cases P:l=[]
  ·have G:(l.length:Int)=0:=by grind
   have k:qQ (l.map SV.n)=true:=by rw[P];rfl
   rw[E4 k];refine aH.ex (.body sH rfl ?_);have:=L k .u .u .u .u .u .u .u;simp[pd,simprocAttr,Fm]at this;simp[go_sem,simprocAttr,pd,o,h.n,G,z2,g.n];omega
  have hp:=V2.2 P;have G:(0:Int)<l.length:=by omega
  obtain⟨s,hs⟩:∃s,s=l[0]!:=⟨_,rfl⟩;have k:qQ (l.map SV.n)=decide (s.a.v.k=2\/s.a.v.k=3):=by cases l with|nil=>exact(P rfl).elim|cons t l=>rw[hs];rfl
  by_cases k2:s.a.v.k=2
  ·have I:(s.a.v.k:Int)=2:=by omega
   have f:qQ (l.map SV.n)=true:=by rw[k];exact Rp (.inl k2)
   rw[E4 f];refine aH.ex (.body sH rfl ?_);have:=L f .u .u .u .u .u .u .u;simp[pd,simprocAttr,Fm]at this;simp only[go_sem,simprocAttr,pd,o,h.n,h.q,G,z2,g.n,<-hs,SV.c,I];exact this
  by_cases k3:s.a.v.k=3
  ·have I:¬(s.a.v.k:Int)=2:=by omega
   have Q:((s.a.v.k:Int)=3)↔True:=iff_of_true (by omega) trivial;have f:qQ (l.map SV.n)=true:=by rw[k];exact Rp (.inr k3)
   rw[E4 f];refine aH.ex (.body sH rfl ?_);have:=L f .u .u .u .u .u .u .u;simp[pd,simprocAttr,Fm]at this;simp only[go_sem,simprocAttr,pd,o,h.n,h.q,G,z2,g.n,<-hs,SV.c,I,Q];exact this
  have I:¬(s.a.v.k:Int)=2:=by omega
  have Q:¬(s.a.v.k:Int)=3:=by omega
  have f:¬qQ (l.map SV.n)=true:=by rw[k,N2 (by omega)];exact ACa
  rw[E1 f];refine⟨_,.body sH rfl ?_,bh.er rfl (by decide)⟩;simp only[go_sem,simprocAttr,pd,o,h.n,h.q,G,<-hs,SV.c,I,Q]
 rw[v];refine⟨_,.body sH rfl ?_,bh.er rfl (by decide)⟩;simp[go_sem,simprocAttr,pd,o]
end
section
open Go.Dm
set_option maxRecDepth 10000
def yD(s:SV):Bool:=decide (s.a.v.k=2/\0<=s.a.v.n/\s.a.v.n<=s.a.v.m)
def Hu{a b:Int}:(0<di a b)=(b<a):=by grind[di]
def amb(q:QV)(m:q.q=(1,1))(s:SV){K:CR->Prop}:ac VS 251 (.ag s.c::[.hp 0 0]) [.hb 34 [q.s,q.x,q.t,q.y]] K↔K (.ret (.b (!yD s)) [.hb 34 [q.s,q.x,q.t,q.y]]):=by
 refine dO (cz.iff_q.2 (.body (vf:=D6) alz rfl rfl ?_));have n:=s.ok.d.h;obtain⟨w,x,e,y,A⟩:=n;simp only[AV.c,D.ag.injEq,s0,and_true,true_and]at e;obtain⟨g,B,C,E⟩:=e;unfold yD;simp only[SV.c];by_cases d:s.a.v.k=2
 ·have a:(s.a.v.k:Int)=2:=by omega
  obtain⟨p,o,r,t,u,v⟩:=s.ok.qv (.inl d);have c:=λ{H K}=>p.cmp q (H:=H) (K:=K);rw[r,t,u,v,o,m]at c;by_cases i:s.a.v.n<0;·rw[g,Rp i];rw[N2 (p:=s.a.v.k=2/\0<=s.a.v.n/\s.a.v.n<=s.a.v.m) (by omega)];simp(disch:=omega)only[go_sem,simprocAttr,D7,a]
  rw[g,N2 i]at c⊢;obtain⟨z,j⟩:∃z,z=di (s.a.v.n*((1:Nat):Int)) (1*(s.a.v.m:Int)):=⟨_,rfl⟩;have k:(0<z)=(s.a.v.m<s.a.v.n):=by rw[j,Hu];simp
  rw[show(s.a.v.n,s.a.v.m).1*(((1,1):Fq).2:Int)=s.a.v.n*((1:Nat):Int)from rfl,show((1,1):Fq).1*((s.a.v.n,s.a.v.m).2:Int)=1*(s.a.v.m:Int)from rfl,<-j]at c;by_cases l:s.a.v.m<s.a.v.n;·have f:0<z:=k▸l;rw[N2 (p:=s.a.v.k=2/\0<=s.a.v.n/\s.a.v.n<=s.a.v.m) (by omega)];simp(disch:=omega)only[go_sem,simprocAttr,D7,a,c,f]
  have f:¬0<z:=λh=>l (k▸h);rw[Rp (p:=s.a.v.k=2/\0<=s.a.v.n/\s.a.v.n<=s.a.v.m) ⟨d,by omega,by omega⟩];simp(disch:=omega)only[go_sem,simprocAttr,D7,a,c,f]
 have a:¬(s.a.v.k:Int)=2:=by omega
 rw[N2 (p:=s.a.v.k=2/\0<=s.a.v.n/\s.a.v.n<=s.a.v.m) (λh=>d h.1)];simp(disch:=omega)only[go_sem,simprocAttr,D7,a]
def amc{l:List SV}:tj (l.map SV.n)=(cK (l.map SV.n)&&l.all yD):=by unfold tj;rw[List.all_map];rfl
def amd{l:List SV}{x:D}(h:Sl 8 (l.map SV.c) x)(j:l.length<1000000000000):ai VS 205 [x] (.b (tj (l.map SV.n))):=by
 obtain⟨q,f,g⟩:=QV.int (n:=1) (by omega);have d:=λ{H K}=>(B6 h (by omega)).c (H:=H) (K:=K) yw rfl (by simp[h.pl]) (.inl rfl);have e:=λ{K}=>xJ (agg:=true) (K:=K) (TF.trans (by kernel_rfl)) (Uf.trans (by kernel_rfl)) h (by omega) SV.len (λ_=>rfl) (by decide) (λa K=>amb q f a);have i:(l.any λs=>!yD s)=!(l.all yD):=by grind
 rw[i]at e;rw[amc];refine .body TI rfl ?_;cases hr:cK _ with|false=>rw[hr]at d;simp[go_sem,aaC,d]|true=>rw[hr]at d;simp[go_sem,aaC,d,g,e,Bool.not_not]
def ame{l:List SV}{x:D}{a b:Int}(h:Sl 8 (l.map SV.c) x)(k:l.length<1000000000000):ai VS 158 [x,.i .i64 a,.i .i64 b] (.tu [.ag [.i .i64 a,.i .i64 b,x],.b (tj (l.map SV.n)&&qR a b)]):=by have d:=λ{H K}=>(amd h k).c (H:=H) (K:=K) TI rfl (by simp[h.pl]) (.inl rfl);have e:=λm H=>ah h.flat m H;refine .body Tq rfl ?_;unfold qR;cases hs:tj _ with|false=>rw[hs]at d;simp[go_sem,simprocAttr,wU,d,h.c1,e]|true=>
 rw[hs]at d;by_cases f:0<=a
 ·by_cases g:a<=65536
  ·by_cases n:0<=b
   ·by_cases j:b<=65536;·simp[go_sem,simprocAttr,wU,d,f,g,j,h.c1,e,decide_true]
    simp[go_sem,simprocAttr,wU,d,j,h.c1,e,decide_false]
   simp[go_sem,simprocAttr,wU,d,n,h.c1,e,false_and,decide_false]
  simp[go_sem,simprocAttr,wU,d,g,h.c1,e,false_and,decide_false]
 simp[go_sem,simprocAttr,wU,d,f,h.c1,e,false_and,decide_false]
def amf{x:D}{a b:Int}(c:x.flat=true)(d:x.cellsN 1=some [x]):ai VS 159 [.ag [.i .i64 a,.i .i64 b,x]] (.b (decide (b<=a))):=by refine .body Ts rfl ?_;simp[go_sem,simprocAttr,avC]
def amg{l:List SV}{x:D}{a b:Int}(h:Sl 8 (l.map SV.c) x)(z:l.length<1000000000000):∃r,ai VS 118 [x,.i .i64 a,.i .i64 b] r/\bh (oX (l.map SV.n) a b) r:=by have d:=λ{H K}=>(ame (a:=a) (b:=b) h z).c (H:=H) (K:=K) Tq rfl (by simp[h.pl,aZ]) (.inl rfl);have f:=λ{H K}=>(amf (a:=a) (b:=b) h.flat h.c1).c (H:=H) (K:=K) Ts rfl (by simp[bO,jj,h.flat]) (.inl rfl);obtain⟨r,E,F⟩:=UR (a:=a) (b:=b) h z;have o:=λ{H K}=>E.c (H:=H) (K:=K) sH rfl (by simp[h.pl,aZ]) (.inl rfl);unfold oX;cases A:(tj _&&qR a b)with|false=>rw[A]at d;refine⟨_,.body vI rfl ?_,bh.er rfl (by decide)⟩;simp[go_sem,zB,d]|true=>
 rw[A]at d;rw[E4 rfl];by_cases k:b<=a;·rw[Rp k]at f;rw[E4 k];obtain⟨q,g,m⟩:=QV.int (n:=0) (by omega);obtain⟨s,t,u,v⟩:=q.fl;refine⟨_,.body vI rfl ?_,bh.ok (by rw[g])⟩;simp[go_sem,zB,d,f,m,ah s,ah t,ah u,ah v]
 rw[N2 k]at f;rw[E1 k];rcases F.h with⟨q,g,rfl⟩|⟨e,g,m,rfl⟩
 ·rw[g];obtain⟨d4,G,I⟩:=zZ (n:=4) (by omega);obtain⟨d5,J,L⟩:=zZ (n:=1461) (by omega);obtain⟨w,rfl,M⟩:=I.h;obtain⟨z4,rfl,z5⟩:=L.h;have B:=λ{H K}=>G.c (H:=H) (K:=K) sF rfl rfl (.inl rfl);have C:=λ{H K}=>J.c (H:=H) (K:=K) sF rfl rfl (.inl rfl);obtain⟨c,j⟩:∃c:QV,c=⟨(4,1461),.b false,w,.b false,z4,⟨w,z4,rfl,M,z5⟩,⟨by decide,by decide,by decide,by decide⟩⟩:=⟨_,rfl⟩;obtain⟨r,r1,r2⟩:=q.mul c;have N:c.q=(4,1461):=by rw[j]
  rw[N]at r1;rw[show c.s=.b false by rw[j],show c.x=w by rw[j],show c.t=.b false by rw[j],show c.y=z4 by rw[j]]at r2;rcases r1.h with⟨p,y,rfl⟩|⟨e,y,P,rfl⟩;·obtain⟨s,t,u,v⟩:=p.fl;refine⟨_,.body vI rfl ?_,bh.ok y⟩;simp[go_sem,simprocAttr,zB,d,f,o,B,C,r2,ah s,ah t,ah u,ah v]
  refine⟨_,.body vI rfl ?_,bh.er y P⟩;simp[go_sem,simprocAttr,zB,d,f,o,B,C,r2]
 rw[g];have Q:¬e=0:=m;refine⟨_,.body vI rfl ?_,bh.er rfl m⟩;simp[go_sem,zB,d,f,o,Q]
end
section
open Go.Dm
set_option maxRecDepth 10000
structure Rw where
 a:Int
 b:Int
 known:Int
 f:RF
instance:Inhabited Rw:=⟨⟨0,0,0,default⟩⟩
def Rw.c(r:Rw):List D:=[.i .i64 r.a,.i .i64 r.b,.i .i64 r.known,.b r.f.s,r.f.x,.b r.f.t,r.f.y]
def Rw.fl(r:Rw):r.c.all D.flat=true:=by simp[Rw.c,jj,cg,r.f.hx.flat,r.f.hy.flat]
theorem Rw.len(r:Rw):r.c.length=7:=rfl
def Rw.pl(r:Rw):(D.ag r.c).plain=true:=by exact r.fl
def iX(a b:Int):Int:=if a<b then-1 else if b<a then 1 else 0
def ny(r s:Rw):Int:=if iX r.a s.a≠0 then iX r.a s.a else if iX r.b s.b≠0 then iX r.b s.b else iX r.known s.known
def US(a b:Int):ai VS 100 [.i .i64 a,.i .i64 b] (.i .i64 (iX a b)):=by
 have c:∀{x:Int}{H K},ac VS 145 [.i .i64 x] H K↔K (.ret (.b false) H):=λ{x H K}=>by refine ai.c (.body Ti rfl ?_) Ti rfl rfl (.inl rfl);simp[go_sem,avv]
 refine .body GO rfl ?_;unfold iX;by_cases d:a<b;·simp[go_sem,Lp,c,d]
 by_cases e:b<a;·simp[go_sem,Lp,c,d]
 simp[go_sem,Lp,c,d]
def Hv(x y z:Int):Int:=if x≠0 then x else if y≠0 then y else z
def amh(x y z:Int):ai VS 99 [.im 1 [[.i .i64 x],[.i .i64 y],[.i .i64 z]]] (.i .i64 (Hv x y z)):=by
 have g:∀{H:ab},dS H 1 (.im 1 [[.i .i64 x],[.i .i64 y],[.i .i64 z]])=some (.i .i64 3):=λ{H}=>rfl;have d:∀{H:ab},cG H (.im 1 [[.i .i64 x],[.i .i64 y],[.i .i64 z]]) (.i .i64 0) 1=some _:=λ{H}=>rfl;have e:∀{H:ab},cG H (.im 1 [[.i .i64 x],[.i .i64 y],[.i .i64 z]]) (.i .i64 1) 1=some _:=λ{H}=>rfl;have f:∀{H:ab},cG H (.im 1 [[.i .i64 x],[.i .i64 y],[.i .i64 z]]) (.i .i64 2) 1=some _:=λ{H}=>rfl;have h:IntKind.i64.wrap 1=1:=by decide
 have j:IntKind.i64.wrap 2=2:=by decide
 have k:IntKind.i64.wrap 3=3:=by decide
 refine .body S8 rfl ?_;unfold Hv;simp only[go_sem,avd,g];rw[bJ];by_cases a:x=0
 ·have l:=iff_of_true a trivial;rw[E1 (by omega)];simp only[go_sem,simprocAttr,ZW,d,l,h];rw[bJ];by_cases b:y=0
  ·have m:=iff_of_true b trivial;rw[E1 (by omega)];simp[go_sem,simprocAttr,e,m,j];rw[bJ];by_cases c:z=0;·have n:=iff_of_true c trivial;simp[go_sem,simprocAttr,f,n,k];rw[bJ];simp[go_sem,simprocAttr];rw[c]
   simp[go_sem,simprocAttr,f,c]
  rw[E4 b];simp[go_sem,simprocAttr,e,b]
 rw[E4 a];simp[go_sem,simprocAttr,ZW,d,a]
def ami(x y z:Int){H:ab}{K:CR->Prop}:ac VS 99 [.sv 1 [[.i .i64 x],[.i .i64 y],[.i .i64 z]]] H K↔K (.ret (.i .i64 (Hv x y z)) H):=by rw[eU (H1:=H) S8 rfl (amh x y z) (by simp[go_sem])];exact W0
def amj(r s:Rw){H:ab}{K:CR->Prop}:ac VS 69 [.ag r.c,.ag s.c] H K↔K (.ret (.i .i64 (ny r s)) H):=by have d:=λ{a b:Int}{H K}=>(US a b).c (H:=H) (K:=K) GO rfl rfl (.inl rfl);have e:=λ{H K}=>ami (iX r.a s.a) (iX r.b s.b) (iX r.known s.known) (H:=H) (K:=K);refine ai.c (.body SS rfl ?_) SS rfl (by simp[r.pl,s.pl]) (.inl rfl);simp only[Rw.c];simp[go_sem,simprocAttr,au6,d,e];rfl
def mw{α:Type}(p:α->α->Bool):List α->Bool|[]=>true|[_]=>true|a::b::l=>p a b&&mw p (b::l)
def UT{α:Type}[Inhabited α]{p:α->α->Bool}:∀{l:List α},(∀j,j+1<l.length->p l[j]! l[j+1]! =true)->mw p l=true|[],_=>rfl|[_],_=>rfl|a::b::l,h=>by have c:=h 0 (by simp);have d:=UT λj e=>h (j+1) (by grind);grind[mw]
def UU{α:Type}[Inhabited α]{p:α->α->Bool}:∀{l:List α}{j:Nat},j+1<l.length->p l[j]! l[j+1]! =false->mw p l=false|[],_,c,_=>by grind|[_],j,c,_=>by grind|a::b::l,0,_,h=>by grind[mw]|a::b::l,j+1,c,h=>by show(p a b&&mw p _)=false;rw[UU (j:=j) (by grind) h,ABi]
def nz(l:List Rw):Bool:=mw (λr s=>!decide (ny s r<0)) l
structure amk(l:List Rw)(i:Nat):Prop where h:∀j,i<=j->j+1<l.length->¬ny l[j+1]! l[j]!<0
def aml{l:List Rw}{x:D}(h:Sl 7 (l.map Rw.c) x)(F:l.length<2000000000000){H:ab}{K:CR->Prop}:ac VS 68 [x,.fn (.func 69) [] []] H K↔K (.ret (.b (nz l)) H):=by
 refine dO (cz.iff_q.2 (.body ak2 rfl rfl ?_));have z:IntKind.i64.wrap _=l.length-1:=wr (by omega) (by omega);simp[go_sem,au5,h.n,z];refine ak.loop (λm s=>∃(i:Int)(e g:D),amk l i.toNat/\m=(i+1).toNat/\-1<=i/\i<l.length/\s=⟨[x,.fn _ [] [],.b false,e,g,.i .i64 i],H⟩) l.length ⟨l.length-1,_,_,⟨λj A n=>by omega⟩,by omega,by omega,by omega,rfl⟩ ?_;rintro m s⟨i,e,g,hs,G,I,o,rfl⟩;by_cases d:0<i
 ·obtain⟨k,J⟩:∃k:Nat,i=k+1:=⟨i.toNat-1,by omega⟩;have p:0<=i:=by omega
  have q:IntKind.i64.wrap (i-1)=k:=by grind[wr]
  have c3:(0:Int)<=k:=by omega
  have r:(k:Int)<l.length:=by omega
  have t:i.toNat=k+1:=by omega
  have u:=λb=>h.under b;have v:=λ{H K}=>amj l[k+1]! l[k]! (H:=H) (K:=K);have w:=λ{args H K}=>iu (V:=VS) (H:=H) (args:=args) (K:=K) (f:=69) (a:=[]) (b:=[]) (by decide);have t1:∀j:Nat,List.take 7 _=l[j]!.c:=λj=>E2 (by grind[Rw.len]);by_cases y:ny l[k+1]! l[k]!<0;·have B:nz l=false:=UU (j:=k) (by omega) (by grind);simp only[go_sem,KI,d,h.q,u,p,q,c3,r,o,t,Rw.len,t1,w,v,y,B]
  simp only[go_sem,KI,d,h.q,u,p,q,c3,r,o,t,Rw.len,t1,w,v,y];refine⟨k+1,by omega,k,⟨λj A n=>?_⟩,by omega,by omega,by omega,rfl⟩;by_cases L:j=k;·grind
  exact hs.h j (by omega) n
 have C:nz l=true:=UT λj E=>by have:=hs.h j (by omega) E;grind
 simp[go_sem,KI,d,C]
def jc(a:Int):Bool:=decide (-2147483648<=a/\a<=2147483647)
def kM(a:Bool)(r:Rw):Bool:=jc r.a&&jc r.b&&(a||decide (r.b=0))&&decide (0<=r.known/\r.known<65536)&&r.f.v
def amm(d:Bool)(r:Rw):ai VS 72 [.b d,.ag r.c] (.b (kM d r)):=by
 have e:=λ{H K}=>r.f.valid_c (H:=H) (K:=K);have n:pT (.ag [.i .i64 r.a,.i .i64 r.b]) (.i .i64 0) 2 1 false=some _:=rfl;have o:pT (.ag [.i .i64 r.a,.i .i64 r.b]) (.i .i64 1) 2 1 false=some _:=rfl;have u:IntKind.i64.wrap 1=1:=by decide
 have v:IntKind.i64.wrap 2=2:=by decide
 simp[RF.d,RF.cells]at e;refine .body ST rfl ?_;simp only[Rw.c];have key:∀{a:Int},(a< -2147483648->jc a=false)/\(2147483647<a->jc a=false)/\(¬a< -2147483648->¬2147483647<a->jc a=true):=λ{a}=>⟨λh=>N2 (by omega),λh=>N2 (by omega),λA B=>Rp (by omega)⟩;simp[go_sem,simprocAttr,qW];rw[bJ];by_cases g:r.a< -2147483648;·simp only[go_sem,simprocAttr,KO,n,g];grind[kM]
 by_cases p:2147483647<r.a;·simp only[go_sem,simprocAttr,KO,n,g,p];grind[kM]
 have w:=key.2.2 g p;simp[go_sem,simprocAttr,KO,n,g,p,u];rw[bJ];by_cases j:r.b< -2147483648;·simp only[go_sem,simprocAttr,o,j];grind[kM]
 by_cases q:2147483647<r.b;·simp only[go_sem,simprocAttr,o,j,q];grind[kM]
 have y:=key.2.2 j q;simp[go_sem,simprocAttr,o,j,q,v];rw[bJ];unfold kM;rw[w,y];have z:(d||decide (r.b=0))=true->ak VS (match DG.body with|.seq _ (.seq _ r)=>r|c=>c) ⟨[.b d,.ag [.i .i64 r.a,.i .i64 r.b,.i .i64 r.known,.b r.f.s,r.f.x,.b r.f.t,r.f.y],.b false,.b false,.b false,.bx [.i .i64 r.a,.i .i64 r.b,.i .i64 r.known,.b r.f.s,r.f.x,.b r.f.t,r.f.y],.i .i64 2,.ag [.i .i64 r.a,.i .i64 r.b],.i .i64 r.b],[]⟩ (du [.s 2] (fE false λx=>x=.ret (.b (true&&true&&(d||decide (r.b=0))&&decide (0<=r.known/\r.known<65536)&&r.f.v)))):=by
  intro k;rw[k];by_cases l:0<=r.known
  ·by_cases m:r.known<65536;·cases d with|true=>cases t:r.f.v<;>(rw[t]at e;simp[go_sem,simprocAttr,qW,l,m,e];try rfl)|false=>have f:(r.b=0)↔True:=iff_of_true (by grind) trivial;cases t:r.f.v<;>(rw[t]at e;simp[go_sem,simprocAttr,qW,l,m,e,f];try rfl)
   cases d with|true=>simp[go_sem,simprocAttr,qW,m];try rfl|false=>have f:(r.b=0)↔True:=iff_of_true (by grind) trivial;simp[go_sem,simprocAttr,qW,m];try rfl
  cases d with|true=>simp[go_sem,simprocAttr,qW,l];try rfl|false=>have f:(r.b=0)↔True:=iff_of_true (by grind) trivial;simp[go_sem,simprocAttr,qW,l];try rfl
 cases k:(d||decide (r.b=0))with|true=>have:=z k;rw[k]at this;simp only[go_sem,simprocAttr,qW]at this⊢;omega|false=>
 obtain⟨rfl,f⟩:d=false/\¬r.b=0:=by grind
 simp[go_sem,simprocAttr,f];try rfl
end
section
open Go.Dm
set_option maxRecDepth 10000
structure Tb where
 name:Nm
 two:Bool
 x:D
 rows:List Rw
 hx:Sl 7 (rows.map Rw.c) x
 hl:rows.length<1599289640355
 hn:name.length<1000000000000000
def Tb.c(t:Tb):List D:=[.s t.name,.b t.two,t.x]
instance:Inhabited Tb:=⟨⟨[],false,.nil,[],.nil rfl,by simp,by simp⟩⟩
def Tb.fl(t:Tb):t.c.all D.flat=true:=by simp[Tb.c,lH,cg,t.hx.flat]
def Tb.pl(t:Tb):(D.ag t.c).plain=true:=by exact t.fl
def Tb.v(t:Tb):Bool:=decide (1<=t.name.length/\t.name.length<=24/\t.rows.length<=400)&&nz t.rows&&t.rows.all (kM t.two)
def amn(t:Tb)(r:Rw){K:CR->Prop}:ac VS 71 (.ag r.c::[.hp 0 0]) [.hb 44 [.s t.name,.b t.two,t.x]] K↔K (.ret (.b (!kM t.two r)) [.hb 44 [.s t.name,.b t.two,t.x]]):=by have a:=λ{H K}=>(amm t.two r).c (H:=H) (K:=K) ST rfl (by simp[r.pl,jS]) (.inl rfl);refine dO (cz.iff_q.2 (.body ak4 rfl rfl ?_));simp only[Rw.c]at a⊢;simp[go_sem,simprocAttr,au7,a]
def B8(t:Tb):ai VS 47 [.ag t.c] (.b t.v):=by
 have e:=λ{K}=>xJ (agg:=true) (K:=K) (ak3.trans (by kernel_rfl)) (ala.trans (by kernel_rfl)) t.hx (by have:=t.hl;omega) Rw.len (λ_=>rfl) (by decide) (λa K=>amn t a);have i:(t.rows.any λs=>!kM t.two s)=!(t.rows.all (kM t.two)):=by grind
 rw[i]at e;have c:=λ{H K}=>aml t.hx (by have:=t.hl;omega) (H:=H) (K:=K);have d:=λ{H:ab}=>t.hx.n (H:=H);refine .body yo rfl ?_;unfold Tb.v;simp only[Tb.c];by_cases f:(t.name.length:Int)<1;·rw[N2 (by omega)];simp[go_sem,simprocAttr,zu,f]
 by_cases g:24<(t.name.length:Int);·rw[N2 (by omega)];simp[go_sem,simprocAttr,zu,g]
 by_cases h:400<(t.rows.length:Int);·rw[N2 (by omega)];simp[go_sem,simprocAttr,zu,d,h]
 rw[Rp (by omega)];cases hs:nz _ with|false=>rw[hs]at c;simp[go_sem,simprocAttr,zu,d,c,ABi]|true=>rw[hs]at c;simp[go_sem,simprocAttr,zu,f,g,d,h,c,e,Bool.not_not]
end
section
open Go.Dm
set_option maxRecDepth 10000
def cH(a:Int)(acc:List Rw)(r:Rw):List Rw:=if a<r.known then acc else match acc.getLast? with|some s=>if s.a=r.a/\s.b=r.b then acc.dropLast++[r]else acc++[r]|none=>acc++[r]
def Rw.n(r:Rw):bV:=⟨r.a,r.b,r.known,lh r.f.s r.f.l,vl 65536 r.f.m⟩
def yE{known:Int}:∀{l acc:List Rw},bK known (l.map Rw.n) (acc.map Rw.n)=(l.foldl (cH known) acc).map Rw.n|[],acc=>rfl|r::l,acc=>by rw[kb,ta,<-yE];grind[bK,Rw.n,cH]
theorem UV(a:Int)(acc:List Rw)(r:Rw):(cH a acc r).length<=acc.length+1:=by grind[cH]
def amo{P:Rw->Prop}{b:Int}{acc:List Rw}{r:Rw}(h:∀s∈acc,P s)(hr:P r):∀s∈cH b acc r,P s:=by
 unfold cH;split;·exact h
 split
 ·split
  ·intro u a;rcases TA.1 a with a|a;·exact h u (ABa _ a)
   grind
  grind
 grind
def amp{rows:List (List D)}{r:List D}{n:Nat}(a:rows.length=n)(e:0<n)(f:r.all D.flat=true)(hs:n<1599289640355):bY [.ar 7 rows none true false] (.mu 0 n 0 (n-1)) (.sv 7 [r]) 7 88 true=some (.mu 0 n 0 n,[.ar 7 (rows.dropLast++[r]) none true false]):=by
 have b:iL [.ar 7 rows none true false] [r]=some ([r],[.ar 7 rows none true false]):=oE _ (by grind);have c:aO [.ar 7 rows none true false] 0 n=some (7,rows,none,true,false):=by simp[Dm.aO,a]
 have hr:fu (n-1+1) 88=true:=by grind[fu]
 have g:rows.take (n-1)++[r]++rows.drop (n-1+1)=rows.dropLast++[r]:=by rw[dn (by omega),oy,List.dropLast_eq_take,a]
 have d:n-1<=n:=by omega
 simp only[bY,fM,if_true,b,gM,mV,c,lB,qu,hr,and_self,jE,d];grind
def amq{rows:List (List D)}{n:Nat}(a:rows.length=n):dY [.ar 7 rows none true false] 7 (.mu 0 n 0 n) none (some (.i .i64 ((n-1:Nat):Int))) none=some (.mu 0 n 0 (n-1)):=by simp_all[aO,eo,jH,ij,dY]
def UW(r:Rw){H:ab}{K:CR->Prop}:ac VS 249 [.ag [.i .i64 r.a,.i .i64 r.b,.i .i64 r.known,.b r.f.s,r.f.x,.b r.f.t,r.f.y]] H K↔K (.ret (.ag [.i .i64 r.a,.i .i64 r.b]) H):=by refine ai.c (.body Ue rfl ?_) Ue rfl (by simpa[Rw.c]using r.pl) (.inl rfl);simp[go_sem,simprocAttr,awl]
def Hw{a b c d:Int}:ej false (.st [1,1]) (.ag [.i .i64 a,.i .i64 b]) (.ag [.i .i64 c,.i .i64 d])=some (.b (decide (a=c/\b=d))):=by
 simp only[ej,uL,dj,fZ,Fu];by_cases e:a=c;·by_cases f:b=d<;>grind
 grind
def oP(a:Int)(l:List Rw)(i:Nat):List Rw:=(l.take i).foldl (cH a) []
def amr{known:Int}{l:List Rw}{i:Nat}(h:i<l.length):oP known l (i+1)=cH known (oP known l i) l[i]!:=by unfold oP;rw[sd,Hk h,Hy l i h,AAx];rfl
def ams{l:List Rw}(h:l≠[]):l.getLast?=some l[l.length-1]!:=by have a:=V2.2 h;grind
def B9(rows:List (List D)):D:=match rows with|[]=>.nil|r::a=>.ow 7 (r::a)
def UX(t:Tb)(c:Int):ai VS 200 [.ag t.c,.i .i64 c] (B9 ((t.rows.foldl (cH c) []).map Rw.c)):=by
 have hl:=t.hl;refine .body G7 rfl ?_;simp only[Tb.c];have hn:=λ{H:ab}=>t.hx.n (H:=H);simp[go_sem,avS,hn];refine ak.up (λi s=>∃(U W X Y Z:D),s=⟨[.ag [.s _,.b t.two,t.x],.i .i64 c,.nil,U,W,X,bD [] .nil ((oP c t.rows i).map Rw.c),.bx [.s _,.b t.two,t.x],.i .i64 i,.i .i64 _,t.x,Y,Z],bH [] 7 ((oP c t.rows i).map Rw.c)⟩/\(oP c t.rows i).length<=i) t.rows.length ⟨_,_,_,_,_,rfl,G1 _⟩ ?_;rintro i s hi⟨U,W,X,Y,Z,rfl,F⟩;by_cases p:i<t.rows.length
 ·have e:(i:Int)<t.rows.length:=by omega
  have c3:(0:Int)<=i:=by omega
  have v:IntKind.i64.wrap (i+1)=((i+1:Nat)):=by grind[wr]
  have d:=amr (known:=c) p;obtain⟨r,hr⟩:∃r,r=t.rows[i]!:=⟨_,rfl⟩;rw[<-hr]at d;obtain⟨acc,ad⟩:∃acc,acc=oP c t.rows i:=⟨_,rfl⟩;rw[<-ad]at d F⊢;have f:(cH c acc r).length<=i+1:=by grind[UV]
  have q:=λ{V dr os keep ae sl Q ah H H' k x'}=>t.hx.q (V:=V) (dr:=dr) (os:=os) (keep:=keep) (loc:=ae) (sl:=sl) (Q:=Q) (sl':=ah) (H:=H) (H':=H') (k:=k) (x:=x');by_cases h:c<r.known
  ·have j:cH c acc r=acc:=by grind[cH]
   simp[go_sem,simprocAttr,uf,q,e,<-hr,Rw.c,h,v];grind
  by_cases m:acc=[]
  ·have u:(acc.length:Int)=0:=by grind
   have j:cH c acc r=acc++[r]:=by grind[cH]
   rw[j]at d f;have o:=m9 (H0:=[]) (w:=7) (bytes:=88) (r:=r.c) (enc:=Rw.c) (l:=acc) (by omega) (by omega);have y:=r.f.hx.flat;have z:=r.f.hy.flat;simp only[Rw.c]at o;simp[go_sem,simprocAttr,uf,q,e,<-hr,Rw.c,h,v,u,o,y,z];rw[d,eH];exact⟨p,⟨rfl,rfl⟩,f⟩
  have A:=V2.2 m;have u:(0:Int)<acc.length:=by omega
  have G:IntKind.i64.wrap (acc.length-1)=((acc.length-1:Nat)):=by rw[wr (by omega) (by omega)];omega
  have I:0<=((acc.length-1:Nat):Int):=by omega
  have J:((acc.length-1:Nat):Int)<acc.length:=by omega
  have L:acc.length-1<acc.length:=by omega
  have y:=r.f.hx.flat;have z:=r.f.hy.flat;obtain⟨s,hs⟩:∃s,s=acc[acc.length-1]!:=⟨_,rfl⟩;have B:=ams m;rw[<-hs]at B;have M:=λ{H K}=>UW s (H:=H) (K:=K);have N:=λ{H K}=>UW r (H:=H) (K:=K);have o:=m9 (H0:=[]) (w:=7) (bytes:=88) (r:=r.c) (enc:=Rw.c) (l:=acc) (by omega) (by omega);simp only[Rw.c]at o;by_cases C:s.a=r.a
  ·have aa:=iff_of_true C trivial;by_cases E:s.b=r.b
   ·have j:cH c acc r=acc.dropLast++[r]:=by unfold cH;rw[E1 h,B];simp only;rw[E4 ⟨C,E⟩]
    rw[j]at d f;have am:=iff_of_true E trivial;simp only[go_sem,simprocAttr,uf,q,e,c3,<-hr,<-hs,Rw.c,h,G,u,I,J,L,M,N,Hw,aa,am];refine⟨A,?_⟩;obtain⟨g1,P⟩:=mo (H0:=[]) (w:=7) (enc:=Rw.c) m;rw[g1,P];have S:=amp (rows:=acc.map Rw.c) (by simp) A r.fl (by omega);have an:=amq (rows:=acc.map Rw.c) (n:=acc.length) (by simp);simp[Rw.c]at S;simp[bN,lA]at S an⊢;simp[go_sem,simprocAttr,S];obtain⟨g3,g4⟩:=mo (H0:=[]) (w:=7) (enc:=Rw.c) (l:=acc.dropLast++[r]) (by simp);rw[d,g3,g4];have aq:(acc.dropLast++[r]).length=acc.length:=by simp[N3,List.length_dropLast,qu];omega
    refine⟨p,⟨⟨by rw[aq];rfl,by omega⟩,?_⟩,f⟩;rw[eH,List.map_dropLast];rfl
   have j:cH c acc r=acc++[r]:=by unfold cH;rw[E1 h,B];simp only;rw[E1 (λg=>E g.2)]
   rw[j]at d f;simp only[go_sem,simprocAttr,uf,q,e,c3,<-hr,<-hs,Rw.c,h,v,G,u,I,J,L,M,N,Hw,aa,E,o,y,z];rw[d,eH];exact⟨A,p,⟨rfl,rfl⟩,f⟩
  have j:cH c acc r=acc++[r]:=by unfold cH;rw[E1 h,B];simp only;rw[E1 (λg=>C g.1)]
  rw[j]at d f;simp only[go_sem,simprocAttr,uf,q,e,c3,<-hr,<-hs,Rw.c,h,v,G,u,I,J,L,M,N,Hw,C,false_and,o,y,z];rw[d,eH];exact⟨A,p,⟨rfl,rfl⟩,f⟩
 have e:¬(i:Int)<t.rows.length:=by omega
 have ar:i=t.rows.length:=by omega
 have au:oP c t.rows i=t.rows.foldl (cH c) []:=by unfold oP;rw[ar,o5]
 rw[au]at F⊢;generalize t.rows.foldl _ []=acc at F⊢;by_cases m:acc=[];·subst m;simp only[go_sem,uf,e];rfl
 obtain⟨g1,P⟩:=mo (H0:=[]) (w:=7) (enc:=Rw.c) m;rw[g1,P];simp[go_sem,uf,e];obtain⟨a,l,rfl⟩:∃a l,acc=a::l:=ABs m;simp[fN,Dm.aO,B9,E2]
end
section
open Go.Dm
set_option maxRecDepth 10000
structure RV where
 a:Int
 b:Int
 known:Int
 q:QV
def RV.c(r:RV):List D:=[.i .i64 r.a,.i .i64 r.b,.i .i64 r.known,r.q.s,r.q.x,r.q.t,r.q.y]
def RV.n(r:RV):bV:=⟨r.a,r.b,r.known,r.q.q.1,r.q.q.2⟩
def amt:∃q:QV,q.q=(0,1):=by obtain⟨q,h,_⟩:=QV.int (n:=0) (by omega);grind
noncomputable instance:Inhabited RV:=⟨⟨0,0,0,Classical.choose amt⟩⟩
def Rw.rv{r:Rw}(h:r.f.v=true):∃v:RV,v.c=r.c/\v.n=r.n:=by obtain⟨a,b⟩:=r.f.fr h;exact⟨⟨r.a,r.b,r.known,⟨(_,_),_,_,_,_,a,b⟩⟩,rfl,rfl⟩
def Hz:∀{l:List Rw},(∀r∈l,r.f.v=true)->∃m:List RV,m.map RV.c=l.map Rw.c/\m.map RV.n=l.map Rw.n|[],_=>⟨[],rfl,rfl⟩|r::l,h=>by obtain⟨v,a,b⟩:=Rw.rv (h r N1);obtain⟨m,c,d⟩:=Hz λs hs=>h s (M0 _ hs);exact⟨v::m,by grind,by grind⟩
def UY(q:QV):∃p:QV,p.q=q.q/\∀{H K},ac VS 201 [.ag [q.s,q.x,q.t,q.y]] H K↔K (.ret (.ag [p.s,p.x,p.t,p.y]) H):=by obtain⟨x,y,e,d,f⟩:=q.f.h;have i:=mQ q.l.bn (by omega);have j:=mQ q.l.bm (by omega);obtain⟨g,k,a⟩:=rh d.sl i;obtain⟨h,l,c⟩:=rh f.sl j;have n:=λ{H K}=>k.c (H:=H) (K:=K) oM rfl (by simp[d.sl.pl]) (.inl rfl);have o:=λ{H K}=>l.c (H:=H) (K:=K) oM rfl (by simp[f.sl.pl]) (.inl rfl);have r:=λm H=>ah a.flat m H;have s:=λm H=>ah c.flat m H;have t:=q.f.pl;refine⟨⟨q.q,.b _,g,.b false,h,⟨g,h,rfl,⟨a⟩,⟨c⟩⟩,q.l⟩,rfl,?_⟩;rw[e]at t⊢;intro H K;refine ai.c (.body TD rfl ?_) TD rfl (by grind) (.inl rfl);simp[go_sem,simprocAttr,avT,n,o,r,s,a.c1,c.c1]
def amu(rows:List (List D)):eT true (B9 rows) []=(bD [] .nil rows,bH [] 7 rows):=by cases rows with|nil=>rfl|cons r a=>rfl
def amv(t:Tb)(a:Int){K:CR->Prop}:ac VS 200 [.ag [.s t.name,.b t.two,t.x],.i .i64 a] [] K↔K (.ret (bD [] .nil ((t.rows.foldl (cH a) []).map Rw.c)) (bH [] 7 ((t.rows.foldl (cH a) []).map Rw.c))):=by
 have f:=UX t a;have g:aW bG [] [.ag t.c,.i .i64 a]=some ([.ag t.c,.i .i64 a],[]):=mj (by
 intro d c;simp[S2,AAE,or_false]at c;rcases c with rfl|rfl;·exact t.pl
 rfl);have e:=eU (K:=K) G7 rfl f g;rw[show zG.own=true from rfl,amu]at e;exact e
def HA{P:Rw->Prop}{b:Int}:∀{l acc:List Rw},(∀s∈acc,P s)->(∀r∈l,P r)->∀s∈l.foldl (cH b) acc,P s|[],_,h,_=>h|r::l,_,h,a=>HA (l:=l) (amo h (a r N1)) λs hs=>a s (M0 _ hs)
def Tb.v_rows{t:Tb}(h:t.v=true):∀r∈t.rows,kM t.two r=true:=by grind[Tb.v]
def UZ{a:Bool}{r:Rw}(h:kM a r=true):r.f.v=true:=by grind[kM]
def amw(t:Tb)(h:t.v=true)(a:Int):∃(y:D)(m:List RV),ai VS 154 [.ag t.c,.i .i64 a] (.tu [.ag [.s t.name,.b t.two,y],.i .i64 0])/\Sl 7 (m.map RV.c) y/\m.map RV.n=bK a (t.rows.map Rw.n) []/\m.length<=t.rows.length:=by
 have g:=λ{H K}=>(B8 t).c (H:=H) (K:=K) yo rfl (by simp[t.pl]) (.inl rfl);rw[h]at g;have n:=λ{K}=>amv t a (K:=K);have X:=t.hl;have Y:(t.rows.foldl (cH a) []).length<=t.rows.length:=by
  have:∀{l acc:List Rw},(l.foldl (cH a) acc).length<=acc.length+l.length:=by intro l;induction l with|nil=>intro acc;simp|cons r l z=>intro acc;have:=z (acc:=cH a acc r);have:=UV a acc r;simp only[ta,fA];omega
  simpa using this (l:=t.rows) (acc:=[])
 obtain⟨m,o,A⟩:=Hz (l:=t.rows.foldl (cH a) []) (HA (P:=λr=>r.f.v=true) (λs hs=>by cases hs) λr hr=>UZ (t.v_rows h r hr));rw[<-o]at n;have Z:m.length<=t.rows.length:=by have:=ka List.length o;simp only[T3]at this;omega
 have B:m.map RV.n=bK a (t.rows.map Rw.n) []:=by rw[A];exact(yE (l:=t.rows) (acc:=[])).symm
 simp only[Tb.c]at g;have C:aH VS 154 [.ag t.c,.i .i64 a] (λr=>∃d,r=.ret d/\∃(y:D)(m:List RV),d=.tu [.ag [.s t.name,.b t.two,y],.i .i64 0]/\Sl 7 (m.map RV.c) y/\m.map RV.n=bK a (t.rows.map Rw.n) []/\m.length<=t.rows.length):=by
  refine .body (vf:=DP) To rfl ?_;simp only[Tb.c];simp(disch:=omega)only[go_sem,simprocAttr,avz,g,n];refine ak.up (λi s=>∃(e:List RV)(q u v:D),e.map RV.n=m.map RV.n/\e.length=m.length/\s=⟨[.ag [.s t.name,.b t.two,t.x],.i .i64 a,.bx [.s [],.b false,.nil],.i .i64 0,q,u,.bx [.s t.name,.b t.two,t.x],bD [] .nil (e.map RV.c),.i .i64 i,.i .i64 m.length,v],bH [] 7 (e.map RV.c)⟩) m.length ⟨m,_,_,_,rfl,rfl,rfl⟩ ?_;rintro i s hi⟨e,q,u,v,w,E,rfl⟩;by_cases F:i<m.length
  ·have j:(i:Int)<(m.length:Int):=by omega
   have c3:(0:Int)<=(i:Int):=by omega
   have G:(i:Int)<(e.length:Int):=by omega
   have k:i<e.length:=by omega
   have I:IntKind.i64.wrap ((i:Int)+1)=((i+1:Nat):Int):=by rw[wr (by omega) (by omega)];omega
   obtain⟨r,hr⟩:∃r,r=e[i]!:=⟨_,rfl⟩;obtain⟨p,J,L⟩:=UY r.q;obtain⟨g1,M,N,Q⟩:=p.fl;simp(disch:=omega)only[go_sem,simprocAttr,aaf,j,c3,G,k,dA,<-hr,RV.c,L,I,g1,M,N,Q];obtain⟨f,x⟩:∃f:RV,f=⟨r.a,r.b,r.known,p⟩:=⟨_,rfl⟩;have S:f.n=r.n:=by rw[x];unfold RV.n;simp only[J]
   refine⟨F,e.set i f,?_,by rw[gb];exact E,?_,?_⟩;·rw[AAS,S,hr,Hy e i k,<-w];have:=@ACN _ (e.map RV.n) i (by simpa using k);rw[wv]at this;exact this
   ·rw[AAS];exact vD (by simp)
   rw[AAS,show f.c=[.i .i64 r.a,.i .i64 r.b,.i .i64 r.known,p.s,p.x,p.t,p.y]by rw[x];rfl]
  have j:¬(i:Int)<(m.length:Int):=by omega
  simp(disch:=omega)only[go_sem,simprocAttr,aaf,j];exact⟨_,rfl,e,oH rfl 7 _,by rw[w,B],by omega⟩
 obtain⟨d,U,y,V,rfl,W⟩:=C.ex;exact⟨y,V,U,W⟩
end
end Go.Proofs.YtigbdbdlkoeadaaGreatDoor.Dv
namespace Go.Dm
structure hZ(w:Nat)(r:List D):Prop where
 len:r.length=w
 fz:r.all D.flat=true
 i3:∃n:Int,r[3]?=some (.i .i64 n)
theorem mK{α:Type}{l:List α}{i:Nat}{v:α}(h:l[i]?=some v):l.set i v=l:=by refine sa λj=>?_;grind
end Go.Dm
namespace Go.Proofs.YtigbdbdlkoeadaaGreatDoor.Dv
section
open Go.Dm
set_option maxRecDepth 10000
def j0(a b k:Nat)(l:List (List D)):List (List D):=(List.range l.length).map λj=>if a<=j/\j<a+k then l[j+(b-a)]! else if b<=j/\j<b+k then l[j-(b-a)]! else l[j]!
theorem Do{a b k:Nat}{l:List (List D)}:(j0 a b k l).length=l.length:=by simp[j0]
theorem zo{a b k j:Nat}{l:List (List D)}(c:j<l.length):(j0 a b k l)[j]?=some (if a<=j/\j<a+k then l[j+(b-a)]! else if b<=j/\j<b+k then l[j-(b-a)]! else l[j]!):=by grind[j0]
theorem at2{a b:Nat}{l:List (List D)}:j0 a b 0 l=l:=by refine sa λj=>?_;grind[zo,Do]
def at3{a b k:Nat}{l:List (List D)}(c:a+k<b)(d:b+k<l.length):((j0 a b k l).set (a+k) l[b+k]!).set (b+k) l[a+k]! =j0 a b (k+1) l:=by refine sa λj=>?_;grind[zo,Do]
def at4{a b k j:Nat}{l:List (List D)}(c:a+k<=b)(d:b+k<=l.length):(j0 a b k l)[j]?=if a<=j/\j<a+k then l[j+(b-a)]? else if b<=j/\j<b+k then l[j-(b-a)]? else l[j]?:=by grind[zo,Do]
variable{x y z:List (List D)}
def Jm{P M:List (List D)}{a b k:Nat}(c:P.length=a)(d:x.length=k)(e:y.length=k)(f:a+k+M.length=b):j0 a b k (P++(x++(M++(y++z))))=P++(y++(M++(x++z))):=by
 refine sa λj=>?_;rw[at4 (by omega) (by simp only[N3];omega)];simp only[List.getElem?_append,c,d,e];repeat' split
 all_goals first|rfl|omega|(congr 1;omega)
def Jn{H:ab}{x n a b k:Nat}{l:List (List D)}{cap:Option Nat}{p:Bool}{g:D}(h:H[x]?=some (.ar 11 l cap p false))(hn:l.length=n)(hr:∀r∈l,hZ 11 r)(ag:a+k<=b)(hb:b+k<=n)(hs:n<4611686018427387904){K:CR->Prop}(y:K (.ret (.tu []) (H.set x (.ar 11 (j0 a b k l) cap p false)))):ac VS 315 [.mu x n 0 n,.i .i64 (a:Int),.i .i64 (b:Int),.i .i64 (k:Int),g] H K:=by
 refine .body alQ rfl rfl ?_;simp[go_sem,awY];have h0:H=H.set x (.ar 11 (j0 a b 0 l) cap p false):=by grind[at2,mK]
 refine ak.up (λi s=>∃j,s=⟨[.mu x n 0 n,.i .i64 a,.i .i64 b,.i .i64 k,g,j,.i .i64 i],H.set x (.ar 11 (j0 a b i l) cap p false)⟩) k ⟨.u,by grind⟩ ?_;rintro i s hi⟨j,rfl⟩;obtain⟨L,hL⟩:∃L,L=j0 a b i l:=⟨_,rfl⟩;rw[<-hL];have z:L.length=n:=by grind[Do]
 obtain⟨G,d⟩:∃G,G=H.set x (.ar 11 L cap p false):=⟨_,rfl⟩;have g0:G[x]?=some (.ar 11 L cap p false):=by grind
 rw[<-d];by_cases C:i<k
 ·obtain⟨u,E⟩:∃u,u=a+i:=⟨_,rfl⟩;obtain⟨v,F⟩:∃v,v=b+i:=⟨_,rfl⟩;have m:u<l.length:=by omega
  have o:v<l.length:=by omega
  obtain⟨A,e⟩:∃A,A=l[u]!:=⟨_,rfl⟩;obtain⟨B,f⟩:∃B,B=l[v]!:=⟨_,rfl⟩;have I:L[u]?=some A:=by rw[hL,zo m,E1 (by omega),E1 (by omega),e]
  have q:L[v]?=some B:=by rw[hL,zo o,E1 (by omega),E1 (by omega),f]
  have t:hZ 11 A:=hr _ (by rw[e,Hy l _ m];exact hY _);have w:hZ 11 B:=hr _ (by rw[f,Hy l _ o];exact hY _);have J:(L.set u B)[v]?=some B:=by rw[K0 (by omega),q]
  have M:(G.set x (.ar 11 ((L.set u B).set v A) cap p false))=H.set x (.ar 11 (j0 a b (i+1) l) cap p false):=by rw[d,vd,hL,e,f,E,F,at3 (by omega) (by omega)]
  have N:IntKind.i64.wrap (a+i)=u:=by rw[wr (by omega) (by omega)];omega
  have P:IntKind.i64.wrap (b+i)=v:=by rw[wr (by omega) (by omega)];omega
  have Q:IntKind.i64.wrap _=i+1:=wr (by omega) (by omega);have S:=t.len;have U:=w.len;have V:List.drop 11 A=[]:=dn (by omega);have dB:List.drop 11 B=[]:=dn (by omega);have W:=t.fz;have X:=w.fz;have c:(i:Int)<k:=by omega
  have Y:=ay g0;have Z:(u:Int)<n:=by omega
  have c2:(v:Int)<n:=by omega
  have c3:(0:Int)<=u:=by omega
  have c4:(0:Int)<=v:=by omega
  simp only[go_sem,ab1,c,N,P,Q,g0,z,I,q,J,S,U,V,dB,E2,c3,c4,W,X,Z,c2,K2,vd,Y,M];exact C
 have c:¬(i:Int)<k:=by omega
 have he:i=k:=by omega
 simp[go_sem,ab1,c];rw[d,hL,he];exact y
def at5{H:ab}{x n a m b:Nat}{P U W S:List (List D)}{cap:Option Nat}{p:Bool}{g:D}(h:H[x]?=some (.ar 11 (P++(U++(W++S))) cap p false))(X:(P++(U++(W++S))).length=n)(hr:∀r∈P++(U++(W++S)),hZ 11 r)(ha:P.length=a)(hm:a+U.length=m)(hb:m+W.length=b)(hU:U≠[])(hW:W≠[])(hs:n<4611686018427387904){K:CR->Prop}(hK:K (.ret (.tu []) (H.set x (.ar 11 (P++(W++(U++S))) cap p false)))):ac VS 306 [.mu x n 0 n,.i .i64 (a:Int),.i .i64 (m:Int),.i .i64 (b:Int),g] H K:=by
 have ay:=X;have w1:IntKind.i64.wrap (m-a)=U.length:=by grind[wr]
 have w2:IntKind.i64.wrap (b-m)=W.length:=by grind[wr]
 refine .body alP rfl rfl ?_;simp[go_sem,awX,w1,w2];refine ak.loop (λq s=>∃k d f o Y Z,q=d.length+f.length/\k++(f++(d++o))=P++(W++(U++S))/\k.length+d.length=m/\d≠[]/\f≠[]/\(k++(d++(f++o))).length=n/\(∀r∈k++(d++(f++o)),hZ 11 r)/\s=⟨[.mu x n 0 n,.i .i64 a,.i .i64 _,.i .i64 _,g,Y,Z,.i .i64 d.length,.i .i64 f.length],H.set x (.ar 11 (k++(d++(f++o))) cap p false)⟩) _ ⟨P,U,W,S,.u,.u,rfl,rfl,by omega,hU,hW,X,hr,by rw[mK h]⟩ ?_;rintro q s⟨k,d,f,o,Y,Z,hq,C,ai,hu,hw,y,z,rfl⟩;have a0:=V2.mpr hu;have a1:=V2.mpr hw;have am:=y;simp[N3]at am;obtain⟨i,hi⟩:∃i,i=d.length:=⟨_,rfl⟩;obtain⟨j,E⟩:∃j,j=f.length:=⟨_,rfl⟩;obtain⟨G,hG⟩:∃G,G=H.set x (.ar 11 (k++(d++(f++o))) cap p false):=⟨_,rfl⟩;have g0:G[x]?=some (.ar 11 (k++(d++(f++o))) cap p false):=by grind
 have F:IntKind.i64.wrap (m-i)=k.length:=by grind[wr]
 rw[<-hi,<-E,<-hG];have I:∀{A B:List (List D)},G.set x (.ar 11 A cap p false)=H.set x (.ar 11 A cap p false):=by simp_all
 by_cases he:i=j;·subst he;simp[go_sem,O4,F];refine Jn (l:=k++(d++([]++(f++o)))) (by simpa using g0) (by grind) (by grind) (by omega) (by omega) hs ?_;rw[Jm rfl hi.symm E.symm (by grind),bN,C,I (B:=[])];simp[go_sem];exact hK
 have c:¬(i:Int)=j:=by omega
 by_cases a2:j<i
 ·have J:(j:Int)<i:=by omega
  have L:IntKind.i64.wrap (i-j)=((i-j:Nat)):=by rw[wr (by omega) (by omega)];omega
  simp only[go_sem,O4,c,J,F];have w:d=d.take j++d.drop j:=(rr _ _).symm;have t:(d.take j).length=j:=by rw[il];omega
  have v:(d.drop j).length=i-j:=by rw[nr];omega
  obtain⟨A,M⟩:∃A,A=d.take j:=⟨_,rfl⟩;obtain⟨B,N⟩:∃B,B=d.drop j:=⟨_,rfl⟩;rw[<-M]at t w;rw[<-N]at v w;subst w;refine Jn (by simpa using g0) (by simpa using y) (by simpa using z) (by omega) (by omega) hs ?_;rw[Jm rfl t E.symm (by omega),I (B:=[])];simp only[go_sem,L];have Q:B≠[]:=V2.mp (by omega);have V:A≠[]:=V2.mp (by omega);refine⟨(i-j)+j,by omega,k++f,B,A,by rw[t,v],o,?_,?_,Q,V,?_,?_,?_⟩;·rw[<-C];simp
  ·simp[N3]at hi ai⊢;omega
  ·simp only[N3]at y⊢;omega
  ·intro r ap;refine z r ?_;grind
  rw[t,v];simp
 have J:¬(j:Int)<i:=by omega
 have L:IntKind.i64.wrap (j-i)=((j-i:Nat)):=by rw[wr (by omega) (by omega)];omega
 have aq:IntKind.i64.wrap _=m+j:=wr (by omega) (by omega);have aa:IntKind.i64.wrap (m+j-i)=((m+(j-i):Nat)):=by rw[wr (by omega) (by omega)];omega
 obtain⟨e,hE⟩:∃e,e=m+(j-i):=⟨_,rfl⟩;rw[<-hE]at aa;simp only[go_sem,O4,c,J,F,aq,aa];have w:f=f.take (j-i)++f.drop _:=(rr _ _).symm;have t:(f.take (j-i)).length=j-i:=by rw[il];omega
 have v:(f.drop (j-i)).length=i:=by rw[nr];omega
 obtain⟨A,M⟩:∃A,A=f.take (j-i):=⟨_,rfl⟩;obtain⟨B,N⟩:∃B,B=f.drop (j-i):=⟨_,rfl⟩;rw[<-M]at t w;rw[<-N]at v w;subst w;refine Jn (by simpa using g0) (by simpa using y) (by simpa using z) (by omega) (by omega) hs ?_;rw[Jm rfl hi.symm v (by omega),I (B:=[])];simp only[go_sem,L];have Q:B≠[]:=V2.mp (by omega);have V:A≠[]:=V2.mp (by omega);refine⟨i+(j-i),by omega,k,B,A,by rw[t,v],d++o,?_,?_,Q,V,?_,?_,?_⟩;·rw[<-C];simp
 ·omega
 ·simp only[N3]at y⊢;omega
 ·intro r ap;refine z r ?_;grind
 rw[t,v];simp
end
section
open Go.Dm
set_option maxRecDepth 10000
structure Jo (ky:List D -> Int) (l t:List (List D)):Prop where
 ord:t.Pairwise (fun r s=>ky r <= ky s)
 fil : ∀ k,t.filter (fun r=>decide (ky r=k))=l.filter (fun r=>decide (ky r=k))
theorem YL {A B:List (List D)} {y z:List D} {q:Nat} (h:A.length=q):(A++z::y::B)[q]?=some z /\ (A++z::y::B)[q+1]?=some y /\ ((A++z::y::B).set (q+1) z).set q y=A++y::z::B:=by
 simp_all
theorem zp {ky:List D -> Int} {l t:List (List D)} (h : ∀ k,t.filter (fun r=>decide (ky r=k))=l.filter (fun r=>decide (ky r=k))) {r:List D} (hr:r∈t):r∈l:=by
 have:r∈t.filter (fun s=>decide (ky s=ky r)):=qo.mpr ⟨hr,by simp⟩
 simp_all
def tG (ky:List D -> Int) (g:Nat):Prop := ∀ {r s:List D},hZ 11 r -> hZ 11 s -> ∃ c:Int,(c<0↔ky r<ky s) /\ ∀ {H:ab} {K:CR -> Prop},ac VS g [.ag r,.ag s] H K↔K (.ret (.i .i64 c) H)
theorem Jp {ky:List D -> Int} {g:Nat} (hg:tG ky g) (hy:g<4294967295) {H:ab} {x n a b:Nat} {P X S:List (List D)} {cap:Option Nat} {p:Bool} (h:H[x]?=some (.ar 11 (P++(X++S)) cap p false)) (hn:(P++(X++S)).length=n) (hr : ∀ r∈P++(X++S),hZ 11 r) (ha:P.length=a) (hb:a+X.length=b) (hs:n<4611686018427387904) {K:CR -> Prop} (hK : ∀ T,Jo ky X T -> T.length=X.length -> K (.ret (.tu []) (H.set x (.ar 11 (P++(T++S)) cap p false)))):ac VS 301 [.mu x n 0 n,.i .i64 (a:Int),.i .i64 (b:Int),.fn (.func g) [] []] H K:=by
 have hx:=ay h
 have hn':=hn
 simp[N3]at hn'
 have w1:IntKind.i64.wrap (a+1)=((a+1:Nat)):=by grind[wr]
 refine .body Ux rfl rfl ?_
 simp  [go_sem,abO,w1]
 cases hX:X with
 | nil =>
  subst hX
  have c : ¬ ((a:Int)+1)<(b:Int):=by grind
  rw[bJ]
  simp  [go_sem,Ej,c]
  have:=hK [] ⟨.nil,fun _=>rfl⟩ rfl
  grind[mK]
 | cons r0 X0 =>
  have hXl:X.length=X0.length+1:=by grind
  refine ak.up (fun i s => ∃ T R a4 a5 a7,T.length=i+1 /\ T.length+R.length=X.length /\ T.Pairwise (fun r s=>ky r <= ky s) /\ (∀ k,(T++R).filter (fun r=>decide (ky r=k))=X.filter (fun r=>decide (ky r=k))) /\ s=⟨[.mu x n 0 n,.i .i64 a,.i .i64 b,.fn (.func g) [] [],a4,a5,.i .i64 ((a+1+i:Nat)),a7],H.set x (.ar 11 (P++(T++(R++S))) cap p false)⟩) X0.length ⟨[r0],X0,.u,.u,.u,rfl,by grind,ABJ _ _,fun k=>by grind,by
   grind[r0,mK]⟩ ?_
  rintro i s hi ⟨T,R,a4,a5,a7,hT,hTR,hsd,hfl,rfl⟩
  by_cases hlt:i<X0.length
  ·have c:((a+1+i:Nat):Int)<b:=by omega
   obtain ⟨y,R',rfl⟩ : ∃ y R',R=y::R':=by
    cases R with
    | nil=>simp at hTR;omega
    | cons y R'=>exact⟨y,R',rfl⟩
   have w2:IntKind.i64.wrap (((a+1+i:Nat))+1)=((a+1+(i+1):Nat)):=by rw[wr (by omega) (by omega)];omega
   obtain⟨e,he⟩ : ∃ e,e=a+1+i:=⟨_,rfl⟩
   rw[<- he]at c w2
   rw[<- he]
   simp  only[go_sem,Ej,c]
   refine ak.loop (fun q s => ∃ T1 T2 a5,q=T1.length /\ T=T1++T2 /\ (∀ r∈T2,ky y<ky r) /\ s=⟨[.mu x n 0 n,.i .i64 a,.i .i64 b,.fn (.func g) [] [],.b true,a5,.i .i64 e,.i .i64 ((a+T1.length:Nat))],H.set x (.ar 11 (P++(T1++(y::(T2++(R'++S))))) cap p false)⟩) _ ⟨T,[],a5,rfl,by simp,by simp,by simp;omega⟩ ?_
   rintro q s ⟨T1,T2,a5,hq,hTe,hT2,rfl⟩
   subst hTe
   have fin : ∀ {T':List _},T'=T1++y::T2 -> (∀ r∈T1,ky r <= ky y) -> T'.length=i+1+1 /\ T'.length+R'.length=X.length /\ List.Pairwise (fun r s=>ky r <= ky s) T' /\ (∀ k,(T'++R').filter (fun r=>decide (ky r=k))=X.filter (fun r=>decide (ky r=k))):=by
    rintro T' rfl h1
    simp only[N3,fA]at hT hTR ⊢
    refine⟨by omega,by omega, ?_,fun k => ?_⟩
    ·rw[m6]at hsd ⊢
     refine⟨hsd.1,hM.mpr ⟨fun r hr'=>ABb (hT2 r hr'),hsd.2.1⟩,fun r hr' s hs' => ?_⟩
     rcases S2.mp hs' with rfl|hs'
     ·exact h1 r hr'
     ·exact hsd.2.2 r hr' s hs'
    ·rw [<- hfl k]
     simp only[vx,pb,gC]
     congr 1
     by_cases hk:ky y=k
     ·have:T2.filter (fun r=>decide (ky r=k))=[]:=by
       rw[x6]
       intro r hr' he'
       have:=hT2 r hr'
       simp at he'
       omega
      simp[hk,this]
     ·simp[hk]
   have hTl:=by simpa using hT
   have hRl:=by simpa using hTR
   rcases ABT T1 with rfl|⟨T1',z,h1⟩
   ·have hj:a+([]:List (List D)).length=a:=rfl
    have cj : ¬ (a:Int)<a:=by omega
    simp  only[go_sem,OW,cj,w2]
    obtain⟨f1,f2,f3,f4⟩:=fin (T':=y::T2) rfl (by simp)
    exact⟨hlt,y::T2,f1,R',f2,f3,f4,rfl⟩
   ·rw [List.concat_eq_append]at h1
    subst h1
    obtain⟨t,ht⟩ : ∃ t,t=a+T1'.length:=⟨_,rfl⟩
    have hj:((a+(T1'++[z]).length:Nat):Int)=t+1:=by simp;omega
    rw[hj]
    obtain⟨L,hL⟩ : ∃ L,L=P++(T1'++[z]++y::(T2++(R'++S))):=⟨_,rfl⟩
    have hL2:L=(P++T1')++z::y::(T2++(R'++S)):=by rw[hL];simp
    obtain⟨rz,ry,e2⟩:=YL (A:=P++T1') (B:=T2++(R'++S)) (y:=y) (z:=z) (q:=t) (by simp;omega)
    rw[<- hL2]at rz ry e2
    have hLn:L.length=n:=by rw[hL2];simp at hTl ⊢;omega
    rw[<- hL]
    obtain⟨G,hG⟩ : ∃ G,G=H.set x (.ar 11 L cap p false):=⟨_,rfl⟩
    have g0:G[x]?=some (.ar 11 L cap p false):=by rw[hG,K2 hx]
    have hGx:=ay g0
    rw[<- hG]
    have mem : ∀ r,r∈T1' \/ r=z \/ r∈T2 \/ r=y \/ r∈R' -> r∈X:=by
     intro r hr'
     refine zp hfl ?_
     grind
    have fzX:=fun r hr'=>hr r (gA _ (T4 _ hr'))
    have fz:=fzX z (mem z (by grind))
    have fy:=fzX y (mem y (by grind))
    obtain⟨cc,hc,hcq⟩:=hg fy fz
    have w3:IntKind.i64.wrap (t+1-1)=t:=by rw[wr (by omega) (by omega)];omega
    have c0:(a:Int)<t+1:=by omega
    have c1:(0:Int) <= t+1:=by omega
    have c2:(t:Int)+1<n:=by omega
    have c3:(0:Int) <= t:=by omega
    have c4:(t:Int)<n:=by omega
    have n1:((t:Int)+1).toNat=t+1:=by omega
    have lz:=fz.len
    have ly:=fy.len
    have dz:List.drop 11 z=[]:=dn (by omega)
    have dy:List.drop 11 y=[]:=dn (by omega)
    have fz':=fz.fz
    have fy':=fy.fz
    have rz1:(L.set (t+1) z)[t]?=some z:=by rw[K0 (by omega),rz]
    have e3:G.set x (.ar 11 ((L.set (t+1) z).set t y) cap p false)=H.set x (.ar 11 (P++T1'++y::z::(T2++(R'++S))) cap p false):=by rw[hG,vd,e2]
    by_cases hlt2:cc<0
    ·simp(disch:=omega) only[go_sem,OW,c0,c1,c2,c3,c4,w3,g0,hLn,rz,ry,lz,ly,dz,dy,E2,hcq,hlt2,fz',fy',hGx,rz1,K2,vd,e3]
     refine⟨T1'.length,by rw[hq];simp,T1',rfl,z::T2,rfl,fun r hr' => ?_,by omega,by simp⟩
     rcases S2.mp hr' with rfl|h1
     ·exact hc.mp hlt2
     ·exact hT2 r h1
    ·simp (disch:=omega) only[go_sem,OW,c0,c1,c2,c3,c4,w3,g0,hLn,rz,ry,lz,ly,E2,hcq,hlt2,hGx,w2]
     have hzy:ky z <= ky y:=by
      omega
     obtain ⟨f1,f2,f3,f4⟩:=fin rfl (by
      intro r hr'
      rcases TA.mp hr' with h1|h1
      ·have:=(m6.mp (m6.mp hsd).1).2.2 r h1 z (by simp)
       omega
      ·rw[eD.mp h1];exact hzy)
     refine⟨hlt,_,f1,R',f2,f3,f4, ?_⟩
     rw[hG,hL]
     simp
  ·have c : ¬ ((a+1+i:Nat):Int)<b:=by omega
   have hR:R=[]:=kh.mp (by omega)
   subst hR
   simp[oy]at hfl
   obtain⟨e,he⟩ : ∃ e,e=a+1+i:=⟨_,rfl⟩
   rw[<- he]at c
   rw[<- he]
   simp  [go_sem,Ej,c]
   exact hK T ⟨hsd,hfl⟩ (by simpa using hTR)
end
section
open Go.Dm
set_option maxRecDepth 10000
variable{x y:List (List D)}{z:Nat}
def YM{B:List (List D)}{y:List D}(h:x.length=z):(x++y::B)[z]?=some y:=by grind
def at6{A B:List (List D)}{y z:List D}{q:Nat}(h:A.length=q):(A++z::y::B)[q]?=some z/\(A++z::y::B)[q+1]?=some y/\((A++z::y::B).set q y).set (q+1) z=A++y::z::B:=by simp_all
variable{a:List D->Int}
def qS{R:List (List D)}(b:R.Pairwise (λr s=>a r<=a s)){y:List D}(c:R[z]?=some y):(∀r∈R.take (z+1),a r<=a y)/\(∀r∈R.drop z,a y<=a r):=by
 have d:=AAB.mp b;obtain⟨e,rfl⟩:=uy.mp c;constructor;·intro r hr;obtain⟨i,hi,rfl⟩:=kz.mp hr;grind
 intro r hr;obtain⟨i,hi,rfl⟩:=kz.mp hr;rw[nr]at hi;rw[ABz];by_cases h:i=0;·grind
 exact d z _ e (by omega) (by omega)
def at7{z:List D}(b:(x++y).Pairwise (λr s=>a r<=a s))(d:∀r∈x,a r<a z)(c:∀r∈y,a z<=a r):(x++z::y).Pairwise (λr s=>a r<=a s)/\∀k,(x++z::y).filter (λr=>decide (a r=k))=(z::(x++y)).filter (λr=>decide (a r=k)):=by
 refine⟨?_,λk=>?_⟩;·rw[m6]at b⊢;refine⟨b.1,hM.mpr ⟨c,b.2.1⟩,λr hr s hs=>?_⟩;grind
 by_cases e:a z=k
 ·have:x.filter (λr=>decide (a r=k))=[]:=by rw[x6];grind
  grind
 grind
def at8{d:List D->Int}{g:Nat}(hg:tG d g)(hy:g<4294967295){H:ab}{x n a m b:Nat}{P R S:List (List D)}{z:List D}{cap:Option Nat}{p:Bool}(h:H[x]?=some (.ar 11 (P++(z::(R++S))) cap p false))(Q:(P++(z::(R++S))).length=n)(hr:∀r∈P++(z::(R++S)),hZ 11 r)(ha:P.length=a)(hm:a+1=m)(hb:m+R.length=b)(U:R.Pairwise (λr s=>d r<=d s))(hs:n<4611686018427387904){K:CR->Prop}(hK:∀T,T.Pairwise (λr s=>d r<=d s)->(∀k,T.filter (λr=>decide (d r=k))=(z::R).filter (λr=>decide (d r=k)))->T.length=R.length+1->K (.ret (.tu []) (H.set x (.ar 11 (P++(T++S)) cap p false)))):ac VS 302 [.mu x n 0 n,.i .i64 (a:Int),.i .i64 (m:Int),.i .i64 (b:Int),.fn (.func g) [] []] H K:=by
 have V:=ay h;have a9:=Q;simp[N3,fA]at a9;have w1:IntKind.i64.wrap (m-a)=1:=by grind[wr]
 refine .body Hf rfl rfl ?_;simp[go_sem,zM,w1];refine ak.loop (λq s=>∃i j:Nat,∃a6 W X,q=j-i/\i<=j/\m<=i/\j<=b/\(∀r∈R.take (i-m),d r<d z)/\(∀r∈R.drop (j-m),d z<=d r)/\s=⟨[.mu x n 0 n,.i .i64 _,.i .i64 _,.i .i64 b,.fn (.func g) [] [],.b true,a6,W,.u,.u,.u,.u,.u,.u,.u,.u,.u,.u,.u,.i .i64 i,.i .i64 j,X,.u,.u,.u,.u,.u,.u,.u,.u,.u,.u,.u,.u],H⟩) _ ⟨m,b,.u,.u,.u,rfl,by omega,by omega,by omega,by simp,by rw[dn (by omega)];simp,rfl⟩ ?_;rintro q s⟨i,j,a6,W,X,hq,b3,b4,b5,Y,Z,rfl⟩;by_cases b6:i<j
 ·have c:(i:Int)<j:=by omega
  obtain⟨l,b7⟩:∃l,l=i+j:=⟨_,rfl⟩;have w2:IntKind.i64.wrap (i+j)=l:=by rw[wr (by omega) (by omega)];omega
  have w3:IntKind.wrap .u64 _=l:=bW (by omega);have e1:bin .shr _ (.i .u64 1)=some (.i .u64 ((l/2:Nat))):=ff (by decide);obtain⟨e,he⟩:∃e,e=l/2:=⟨_,rfl⟩;rw[<-he]at e1;have w4:IntKind.i64.wrap _=e:=wr (by omega) (by omega);obtain⟨y,ap,ae⟩:∃y,R[e-m]?=some y/\(P++(z::(R++S)))[e]?=some y:=by
   have hl:e-m<R.length:=by omega
   refine⟨R[e-m],Hk hl,?_⟩;rw[gx (by omega)];obtain⟨f,hf⟩:∃f,e-P.length=f+1:=⟨e-P.length-1,by omega⟩;rw[hf,ACI,dw (by omega),Hk (by omega)];congr 2;omega
  have af:(P++(z::(R++S)))[a]?=some z:=YM ha;have o:=hr y (nG ae);have w:=hr z (nG af);obtain⟨cc,hc,aq⟩:=hg o w;have C:(0:Int)<=e:=by omega
  have E:(e:Int)<n:=by omega
  have c3:(0:Int)<=a:=by omega
  have F:(a:Int)<n:=by omega
  have I:=w.len;have J:=o.len;by_cases au:cc<0
  ·have w5:IntKind.i64.wrap (e+1)=((e+1:Nat)):=by rw[wr (by omega) (by omega)];omega
   simp(disch:=omega)only[go_sem,OY,c,w2,w3,w4,e1,C,E,c3,F,h,Q,ae,af,I,J,E2,aq,au,w5,V];refine⟨j-(e+1),by omega,e+1,j,rfl,by omega,by omega,by omega,λr M=>?_,Z,by omega,rfl⟩;rw[show e+1-m=e-m+1 from by omega]at M;have:=(qS U ap).1 r M;omega
  simp(disch:=omega)only[go_sem,OY,c,w2,w3,w4,e1,C,E,c3,F,h,Q,ae,af,I,J,E2,aq,au,V];refine⟨e-i,by omega,i,e,rfl,by omega,by omega,by omega,Y,λr M=>?_,rfl,rfl⟩;have:=(qS U ap).2 r M;omega
 have c:¬(i:Int)<j:=by omega
 simp[go_sem,OY,c];have bf:i=j:=by omega
 subst bf;obtain⟨u,hu⟩:∃u,u=i-m:=⟨_,rfl⟩;rw[<-hu]at Y Z;have av:R=R.take u++R.drop u:=(rr _ _).symm;obtain⟨i1,i2⟩:=at7 (by rw[<-av];exact U) Y Z;rw[<-av]at i2;have N:IntKind.i64.wrap (i-1)=((a+u:Nat)):=by rw[wr (by omega) (by omega)];omega
 refine ak.up (λt s=>∃a8,s=⟨[.mu x n 0 n,.i .i64 a,.i .i64 m,.i .i64 _,.fn (.func g) [] [],.b true,.b false,W,a8,.u,.u,.u,.u,.u,.u,.u,.u,.u,.u,.i .i64 i,.i .i64 i,X,.i .i64 ((a+t:Nat)),.u,.u,.u,.u,.u,.u,.u,.u,.u,.u,.u],H.set x (.ar 11 (P++(R.take t++z::R.drop t++S)) cap p false)⟩) u ⟨.u,by
 have:P++(R.take 0++z::R.drop 0++S)=P++(z::(R++S)):=by simp
 rw[this,mK h];rfl⟩ ?_;rintro t s ht⟨a8,rfl⟩;obtain⟨v,hv⟩:∃v,v=a+t:=⟨_,rfl⟩;rw[<-hv];by_cases bj:t<u
 ·have az:t<R.length:=by omega
  obtain⟨y,ag⟩:∃y,y=R[t]:=⟨_,rfl⟩;have bk:R.drop t=y::R.drop (t+1):=by rw[ag];exact oz az
  have bl:R.take (t+1)=R.take t++[y]:=by rw[ag,fD az]
  obtain⟨L,hL⟩:∃L,L=P++(R.take t++z::R.drop t++S):=⟨_,rfl⟩;have bm:L=(P++R.take t)++z::y::(R.drop (t+1)++S):=by rw[hL,bk];simp
  obtain⟨rz,ry,e2⟩:=at6 (A:=P++R.take t) (B:=R.drop (t+1)++S) (y:=y) (z:=z) (q:=v) (by simp;omega);rw[<-bm]at rz ry e2;have bo:L.length=n:=by rw[hL];simp;omega
  rw[<-hL];obtain⟨G,hG⟩:∃G,G=H.set x (.ar 11 L cap p false):=⟨_,rfl⟩;have g0:G[x]?=some (.ar 11 L cap p false):=by rw[hG,K2 V]
  have bp:=ay g0;rw[<-hG];have w:=hr z (by simp);have o:=hr y (by rw[ag];simp);have w7:IntKind.i64.wrap _=v+1:=wr (by omega) (by omega);have c0:v<((a+u:Nat):Int):=by omega
  obtain⟨v2,aj⟩:∃v,v=a+u:=⟨_,rfl⟩;rw[<-aj]at c0 N;have C:(0:Int)<=v+1:=by omega
  have E:(v:Int)+1<n:=by omega
  have c3:(0:Int)<=v:=by omega
  have F:(v:Int)<n:=by omega
  have I:=w.len;have J:=o.len;have dz:List.drop 11 z=[]:=dn (by omega);have dy:List.drop 11 y=[]:=dn (by omega);have bu:=w.fz;have bv:=o.fz;have bw:(L.set v y)[v+1]?=some y:=by rw[K0 (by omega),ry]
  have e3:G.set x (.ar 11 ((L.set v y).set (v+1) z) cap p false)=H.set x (.ar 11 (P++(R.take (t+1)++z::R.drop (t+1)++S)) cap p false):=by rw[hG,vd,e2,bl];simp
  simp only[go_sem,abR,c0,C,E,c3,F,N,w7,g0,bo,rz,ry,I,J,dz,dy,E2,bu,bv,bp,bw,K2,vd,e3];exact⟨bj,by omega⟩
 have he:t=u:=by omega
 have c5:¬v<((a+u:Nat):Int):=by omega
 obtain⟨v2,aj⟩:∃v,v=a+u:=⟨_,rfl⟩;rw[<-aj]at c5 N;simp[go_sem,abR,N,c5];rw[he];have:=hK _ i1 i2 (by simp;omega);simpa only[gC,U3]using this
end
section
open Go.Dm
set_option maxRecDepth 10000
variable{x:List D->Int}{y z:List (List D)}
def at9{a:List D}(b:(y++z).Pairwise (λr s=>x r<=x s))(d:∀r∈y,x r<=x a)(c:∀r∈z,x a<x r):(y++a::z).Pairwise (λr s=>x r<=x s)/\∀k,(y++a::z).filter (λr=>decide (x r=k))=(y++z++[a]).filter (λr=>decide (x r=k)):=by
 refine⟨?_,λk=>?_⟩;·rw[m6]at b⊢;refine⟨b.1,hM.mpr ⟨λr hr=>ABb (c r hr),b.2.1⟩,λr hr s hs=>?_⟩;grind
 simp only[vx,pb,gC];congr 1;by_cases e:x a=k
 ·have:z.filter (λr=>decide (x r=k))=[]:=by rw[x6];grind
  grind
 grind
def aua{d:List D->Int}{g:Nat}(hg:tG d g)(hy:g<4294967295){H:ab}{x n a m b:Nat}{P R S:List (List D)}{z:List D}{cap:Option Nat}{p:Bool}(h:H[x]?=some (.ar 11 (P++(R++z::S)) cap p false))(V:(P++(R++z::S)).length=n)(hr:∀r∈P++(R++z::S),hZ 11 r)(ha:P.length=a)(hm:a+R.length=m)(b1:R.length≠1)(hb:m+1=b)(W:R.Pairwise (λr s=>d r<=d s))(hs:n<4611686018427387904){K:CR->Prop}(hK:∀T,T.Pairwise (λr s=>d r<=d s)->(∀k,T.filter (λr=>decide (d r=k))=(R++[z]).filter (λr=>decide (d r=k)))->T.length=R.length+1->K (.ret (.tu []) (H.set x (.ar 11 (P++(T++S)) cap p false)))):ac VS 302 [.mu x n 0 n,.i .i64 (a:Int),.i .i64 (m:Int),.i .i64 (b:Int),.fn (.func g) [] []] H K:=by
 have X:=ay h;have a9:=V;simp[N3,fA]at a9;obtain⟨l,hl⟩:∃l,l=R.length:=⟨_,rfl⟩;have w0:IntKind.i64.wrap (m-a)=l:=by grind[wr]
 have F:¬(l:Int)=1:=by omega
 have w1:IntKind.i64.wrap (b-m)=1:=by grind[wr]
 refine .body Hf rfl rfl ?_;simp[go_sem,zM,w0,F,w1];refine ak.loop (λq s=>∃i j:Nat,∃ap Y Z,q=j-i/\i<=j/\a<=i/\j<=m/\(∀r∈R.take (i-a),d r<=d z)/\(∀r∈R.drop (j-a),d z<d r)/\s=⟨[.mu x n 0 n,.i .i64 _,.i .i64 _,.i .i64 b,.fn (.func g) [] [],.b false,.u,.u,.u,.b true,ap,Y,.u,.u,.u,.u,.u,.u,.u,.u,.u,.u,.u,.i .i64 i,.i .i64 j,Z,.u,.u,.u,.u,.u,.u,.u,.u],H⟩) _ ⟨a,m,.u,.u,.u,rfl,by omega,by omega,by omega,by simp,by rw[dn (by omega)];simp,rfl⟩ ?_;rintro q s⟨i,j,ap,Y,Z,hq,b3,b4,b5,h1,h2,rfl⟩;by_cases b6:i<j
 ·have c:(i:Int)<j:=by omega
  obtain⟨f,b7⟩:∃f,f=i+j:=⟨_,rfl⟩;have w2:IntKind.i64.wrap (i+j)=f:=by rw[wr (by omega) (by omega)];omega
  have w3:IntKind.wrap .u64 _=f:=bW (by omega);have e1:bin .shr _ (.i .u64 1)=some (.i .u64 ((f/2:Nat))):=ff (by decide);obtain⟨e,he⟩:∃e,e=f/2:=⟨_,rfl⟩;rw[<-he]at e1;have w4:IntKind.i64.wrap _=e:=wr (by omega) (by omega);obtain⟨y,aw,ag⟩:∃y,R[e-a]?=some y/\(P++(R++z::S))[e]?=some y:=by
   have hl:e-a<R.length:=by omega
   refine⟨R[e-a],Hk hl,?_⟩;rw[gx (by omega),dw (by omega),Hk (by omega)];congr 2;omega
  have ah:(P++(R++z::S))[m]?=some z:=by rw[<-List.append_assoc];exact YM (by simp;omega)
  have C:=hr y (nG ag);have E:=hr z (nG ah);obtain⟨cc,hc,ax⟩:=hg E C;have I:(0:Int)<=e:=by omega
  have J:(e:Int)<n:=by omega
  have c3:(0:Int)<=m:=by omega
  have M:(m:Int)<n:=by omega
  have N:=E.len;have Q:=C.len;by_cases az:cc<0;·simp(disch:=omega)only[go_sem,OZ,c,w2,w3,w4,e1,I,J,c3,M,h,V,ag,ah,N,Q,E2,ax,az,X];refine⟨e-i,by omega,i,e,rfl,by omega,by omega,by omega,h1,λr U=>?_,rfl,rfl⟩;have:=(qS W aw).2 r U;omega
  have w5:IntKind.i64.wrap (e+1)=((e+1:Nat)):=by rw[wr (by omega) (by omega)];omega
  simp(disch:=omega)only[go_sem,OZ,c,w2,w3,w4,e1,I,J,c3,M,h,V,ag,ah,N,Q,E2,ax,az,X,w5];refine⟨j-(e+1),by omega,e+1,j,rfl,by omega,by omega,by omega,λr U=>?_,h2,by omega,rfl⟩;rw[show e+1-a=e-a+1 from by omega]at U;have:=(qS W aw).1 r U;omega
 have c:¬(i:Int)<j:=by omega
 simp[go_sem,OZ,c];have bf:i=j:=by omega
 subst bf;obtain⟨u,hu⟩:∃u,u=i-a:=⟨_,rfl⟩;rw[<-hu]at h1 h2;have a0:R=R.take u++R.drop u:=(rr _ _).symm;obtain⟨i1,i2⟩:=at9 (by rw[<-a0];exact W) h1 h2;rw[<-a0]at i2;refine ak.loop (λq s=>∃t a2,q=t-u/\u<=t/\t<=R.length/\s=⟨[.mu x n 0 n,.i .i64 a,.i .i64 m,.i .i64 _,.fn (.func g) [] [],.b false,.u,.u,.u,.b true,.b false,Y,a2,.u,.u,.u,.u,.u,.u,.u,.u,.u,.u,.i .i64 i,.i .i64 i,Z,.i .i64 ((a+t:Nat)),.u,.u,.u,.u,.u,.u,.u],H.set x (.ar 11 (P++(R.take t++z::R.drop t++S)) cap p false)⟩) _ ⟨R.length,.u,rfl,by omega,G1 _,by
 have:P++(R.take R.length++z::R.drop R.length++S)=P++(R++z::S):=by simp
 rw[this,mK h,hm]⟩ ?_;rintro q s⟨t,a2,hq,b9,ca,rfl⟩;obtain⟨v,hv⟩:∃v,v=a+t:=⟨_,rfl⟩;rw[<-hv];by_cases cb:u<t
 ·obtain⟨o,ho⟩:∃o,t=o+1:=⟨t-1,by omega⟩;subst ho;have a3:o<R.length:=by omega
  obtain⟨y,ai⟩:∃y,y=R[o]:=⟨_,rfl⟩;have bk:R.drop o=y::R.drop (o+1):=by rw[ai];exact oz a3
  have bl:R.take (o+1)=R.take o++[y]:=by rw[ai,fD a3]
  obtain⟨L,hL⟩:∃L,L=P++(R.take (o+1)++z::R.drop (o+1)++S):=⟨_,rfl⟩;have bm:L=(P++R.take o)++y::z::(R.drop (o+1)++S):=by rw[hL,bl];simp
  obtain⟨w,hw⟩:∃w,w=a+o:=⟨_,rfl⟩;obtain⟨ry,rz,e2⟩:=YL (A:=P++R.take o) (B:=R.drop (o+1)++S) (y:=z) (z:=y) (q:=w) (by simp;omega);rw[<-bm]at rz ry e2;have bo:L.length=n:=by rw[hL];simp;omega
  rw[<-hL];obtain⟨G,hG⟩:∃G,G=H.set x (.ar 11 L cap p false):=⟨_,rfl⟩;have g0:G[x]?=some (.ar 11 L cap p false):=by rw[hG,K2 X]
  have bp:=ay g0;rw[<-hG];have bq:v=w+1:=by omega
  subst bq;have E:=hr z (by simp);have C:=hr y (by rw[ai];simp);have w7:IntKind.i64.wrap (((w+1:Nat))-1)=w:=by rw[wr (by omega) (by omega)];omega
  have F:i<((w+1:Nat):Int):=by omega
  obtain⟨w',a5⟩:∃w',w'=w+1:=⟨_,rfl⟩;rw[<-a5]at w7 F rz e2;rw[<-a5];have I:(0:Int)<=w':=by omega
  have J:(w':Int)<n:=by omega
  have c3:(0:Int)<=w:=by omega
  have M:(w:Int)<n:=by omega
  have N:=E.len;have Q:=C.len;have dz:List.drop 11 z=[]:=dn (by omega);have dy:List.drop 11 y=[]:=dn (by omega);have bt:=E.fz;have bu:=C.fz;have bv:(L.set w' y)[w]?=some y:=by rw[K0 (by omega),ry]
  have e3:G.set x (.ar 11 ((L.set w' y).set w z) cap p false)=H.set x (.ar 11 (P++(R.take o++z::R.drop o++S)) cap p false):=by rw[hG,vd,e2,bk];simp
  simp only[go_sem,abV,F,I,J,c3,M,w7,g0,bo,rz,ry,N,Q,dz,dy,E2,bt,bu,bp,bv,K2,vd,e3];exact⟨o-u,by omega,o,rfl,by omega,by omega,by omega,rfl⟩
 have he:t=u:=by omega
 have c5:¬(i:Int)<v:=by omega
 simp[go_sem,abV,c5];rw[he];have:=hK _ i1 i2 (by simp;omega);simpa only[gC,U3]using this
end
section
open Go.Dm
set_option maxRecDepth 10000
set_option maxRecDepth 100000
structure mL (ky:List D -> Int) (L R T:List (List D)):Prop where
 ord:T.Pairwise (fun r s=>ky r <= ky s)
 fil : ∀ k,T.filter (fun r=>decide (ky r=k))=(L++R).filter (fun r=>decide (ky r=k))
 len:T.length=L.length+R.length
def Jq (ky:List D -> Int) (rows:List (List D)) (pp c:Nat):Prop := ∃ y z,rows[pp-c]?=some y /\ rows[c]?=some z /\ ky z <= ky y
def Jr (ky:List D -> Int) (rows:List (List D)) (pp c:Nat):Prop := ∃ y z,rows[pp-c]?=some y /\ rows[c]?=some z /\ ky y<ky z
theorem YN {ky:List D -> Int} {g:Nat} (hg:tG ky g) (hy:g<4294967295) {H:ab} {x n lo hi pp:Nat} {rows:List (List D)} {cap:Option Nat} {p:Bool} (h:H[x]?=some (.ar 11 rows cap p false)) (hn:rows.length=n) (hr : ∀ r∈rows,hZ 11 r) (hs:n<4611686018427387904) (hlo:lo <= hi) (hhi:hi <= n) (hpp:hi <= pp+1) (hpn:lo<hi -> pp-lo<n) {d1 d2 d3 s13 d27 d30:D} {Q:Dm.Ex -> St -> Prop} (hQ : ∀ s a14 a15 a32,lo <= s -> s <= hi -> (lo<s -> Jq ky rows pp (s-1)) -> (s<hi -> Jr ky rows pp s) -> Q (.ex 8) ⟨[.mu x n 0 n,d1,d2,d3,.fn (.func g) [] [],.b false,.u,.u,.u,.b false,.u,.u,.u,s13,a14,a15,.u,.u,.u,.u,.u,.u,.u,.u,.u,.u,.u,d27,.i .i64 (s:Int),.i .i64 (s:Int),d30,.i .i64 (pp:Int),a32,.u],H⟩) (hps:pp<9223372036854775807):ak VS (.loop O0) ⟨[.mu x n 0 n,d1,d2,d3,.fn (.func g) [] [],.b false,.u,.u,.u,.b false,.u,.u,.u,s13,.u,.u,.u,.u,.u,.u,.u,.u,.u,.u,.u,.u,.u,d27,.i .i64 (lo:Int),.i .i64 (hi:Int),d30,.i .i64 (pp:Int),.u,.u],H⟩ Q:=by
 have hx:=ay h
 refine ak.loop (fun q s => ∃ i j:Nat, ∃ a14 a15 a32,q=j-i /\ lo <= i /\ i <= j /\ j <= hi /\ (lo<i -> Jq ky rows pp (i-1)) /\ (j<hi -> Jr ky rows pp j) /\ s=⟨[.mu x n 0 n,d1,d2,d3,.fn (.func g) [] [],.b false,.u,.u,.u,.b false,.u,.u,.u,s13,a14,a15,.u,.u,.u,.u,.u,.u,.u,.u,.u,.u,.u,d27,.i .i64 i,.i .i64 j,d30,.i .i64 _,a32,.u],H⟩) _ ⟨lo,hi,.u,.u,.u,rfl,by omega,hlo,by omega,by omega,by omega,rfl⟩ ?_
 rintro q s ⟨i,j,a14,a15,a32,hq,hli,hij,hjh,h1,h2,rfl⟩
 by_cases hlt:i<j
 ·have c:(i:Int)<j:=by omega
  obtain⟨S',hS'⟩ : ∃ S',S'=i+j:=⟨_,rfl⟩
  have w2:IntKind.i64.wrap (i+j)=S':=by grind[wr]
  have w3:IntKind.wrap .u64 _=S':=bW (by omega)
  have e1:bin .shr _ (.i .u64 1)=some (.i .u64 ((S'/2:Nat))):=ff (by decide)
  obtain⟨e,he⟩ : ∃ e,e=S'/2:=⟨_,rfl⟩
  rw[<- he]at e1
  have w4:IntKind.i64.wrap _=e:=wr (by omega) (by omega)
  have he1:e<rows.length:=by omega
  obtain⟨f,hf⟩ : ∃ f,f=pp-e:=⟨_,rfl⟩
  have w6:IntKind.i64.wrap (pp-e)=f:=by grind[wr]
  obtain⟨z,hz⟩ : ∃ z,rows[e]?=some z:=⟨_,Hk he1⟩
  obtain⟨y,hy2⟩ : ∃ y,rows[f]?=some y:=⟨_,Hk (by omega)⟩
  have fy:=hr y (nG hy2)
  have fz:=hr z (nG hz)
  obtain⟨cc,hc,hcq⟩:=hg fy fz
  have c1:(0:Int) <= e:=by omega
  have c2:(e:Int)<n:=by omega
  have c3:(0:Int) <= f:=by omega
  have c4:(f:Int)<n:=by omega
  have lz:=fz.len
  have ly:=fy.len
  by_cases hlt2:cc<0
  ·simp(disch:=omega) only[go_sem,O1,c,w2,w3,w4,w6,e1,c1,c2,c3,c4,h,hn,hy2,hz,lz,ly,E2,hcq,hlt2,hx]
   exact⟨e-i,by omega,i,e,rfl,hli,by omega,by omega,h1,fun _=>⟨y,z,by grind,hz,hc.mp hlt2⟩,rfl,rfl⟩
  ·have w5:IntKind.i64.wrap (e+1)=((e+1:Nat)):=by grind[wr]
   simp(disch:=omega) only[go_sem,O1,c,w2,w3,w4,w6,e1,c1,c2,c3,c4,h,hn,hy2,hz,lz,ly,E2,hcq,hlt2,hx,w5]
   exact⟨j-(e+1),by omega,e+1,j,rfl,by omega,by omega,by omega,fun _=>⟨y,z,by grind,by grind,by omega⟩,h2,by omega,rfl⟩
 ·have hij':i=j:=by omega
  simp  [go_sem,O1]
  grind
theorem YO {ky:List D -> Int} {rows P L R S:List (List D)} {a m b d o pp lo hi s:Nat} (hrows:rows=P++(L++(R++S))) (ha:P.length=a) (hm:a+L.length=m) (hb:m+R.length=b) (hLp:0<L.length) (hRp:0<R.length) (hd:d=(a+b)/2) (ho:o=d+m) (hp:pp=o-1) (hlo:lo=if d<m then o-b else a) (hhi:hi=if d<m then d else m) (hLs:L.Pairwise (fun r s=>ky r <= ky s)) (hRs:R.Pairwise (fun r s=>ky r <= ky s)) (h1:lo <= s) (h2:s <= hi) (h3:lo<s -> Jq ky rows pp (s-1)) (h4:s<hi -> Jr ky rows pp s) : ∃ L1 L2 R1 R2,L=L1++L2 /\ R=R1++R2 /\ a+L1.length=s /\ m+R1.length=o-s /\ (∀ x∈L1, ∀ y∈R2,ky x <= ky y) /\ (∀ x∈L2, ∀ y∈R1,ky y<ky x):=by
 have hloa:a <= lo:=by grind
 have hhim:hi <= m:=by grind
 have hob:o-s <= b:=by grind
 have hom:m <= o-s:=by grind
 have atL : ∀ {c},a <= c -> c<m -> rows[c]?=L[c-a]?:=by
  grind
 have atR : ∀ {c},m <= c -> c<b -> rows[c]?=R[c-m]?:=by
  grind
 refine⟨L.take _,L.drop (s-a),R.take _,R.drop (o-s-m),(rr _ _).symm,(rr _ _).symm,by grind,by rw[il];omega, ?_, ?_⟩
 ·intro x hx y hy
  by_cases hs1:lo<s
  ·obtain⟨y0,z0,q1,q2,q3⟩:=h3 hs1
   have hob2:o-s<b:=by rw[hlo]at hs1;split at hs1<;>omega
   rw[show pp-(s-1)=o-s from by omega,atR (by omega) hob2]at q1
   rw[atL (by omega) (by omega)]at q2
   have r1:=(qS hLs q2).1 x (by rw[show s-1-a+1=s-a from by omega];exact hx)
   have r2:=(qS hRs q1).2 y hy
   omega
  ·exfalso
   have hsl:s=lo:=by omega
   rw[hlo]at hsl
   split at hsl
   ·rw[dn (by omega)]at hy;exact absurd hy AAE
   ·rw[show s-a=0 from by omega]at hx;exact absurd hx (by simp)
 ·intro x hx y hy
  by_cases hs1:s<hi
  ·obtain⟨y0,z0,q1,q2,q3⟩:=h4 hs1
   have hom2:m<o-s:=by rw[hhi]at hs1;split at hs1<;>omega
   rw[atR (by omega) (by omega)]at q1
   rw[atL (by omega) (by omega)]at q2
   have r1:=(qS hRs q1).1 y (by rw[show pp-s-m+1=o-s-m from by omega];exact hy)
   have r2:=(qS hLs q2).2 x hx
   omega
  ·exfalso
   have hsl:s=hi:=by omega
   rw[hhi]at hsl
   split at hsl
   ·rw[show o-s-m=0 from by omega]at hy;exact absurd hy (by simp)
   ·rw[dn (by omega)]at hx;exact absurd hx AAE
theorem mL.triv {ky:List D -> Int} {L R:List (List D)} (h:L=[] \/ R=[]) (hL:L.Pairwise (fun r s=>ky r <= ky s)) (hR:R.Pairwise (fun r s=>ky r <= ky s)):mL ky L R (L++R):=by
 refine⟨?_,fun _=>rfl,N3⟩
 grind
theorem mL.mem {ky:List D -> Int} {L R T:List (List D)} (h:mL ky L R T) {r:List D} (hr:r∈T):r∈L \/ r∈R:=TA.mp (zp h.fil hr)
theorem mL.join {ky:List D -> Int} {L1 L2 R1 R2 T1 T2:List (List D)} (h1:mL ky L1 R1 T1) (h2:mL ky L2 R2 T2) (hL:(L1++L2).Pairwise (fun r s=>ky r <= ky s)) (hR:(R1++R2).Pairwise (fun r s=>ky r <= ky s)) (k1 : ∀ x∈L1, ∀ y∈R2,ky x <= ky y) (k2 : ∀ x∈L2, ∀ y∈R1,ky y<ky x):mL ky (L1++L2) (R1++R2) (T1++T2):=by
 have hL':=m6.mp hL
 have hR':=m6.mp hR
 refine⟨m6.mpr ⟨h1.ord,h2.ord,fun r hr s hs => ?_⟩,fun k => ?_, ?_⟩
 ·rcases h1.mem hr with a|a<;>rcases h2.mem hs with b|b
  ·exact hL'.2.2 r a s b
  ·exact k1 r a s b
  ·exact ABb (k2 s b r a)
  ·exact hR'.2.2 r a s b
 ·rw [vx,h1.fil k,h2.fil k]
  congr 1
  by_cases hr:R1.filter (fun r=>decide (ky r=k))=[]
  ·grind
  ·have:L2.filter (fun r=>decide (ky r=k))=[]:=by
    obtain⟨y,hy⟩:=List.exists_mem_of_ne_nil _ hr
    rw[x6]
    grind
   grind
 ·simp[N3,h1.len,h2.len];omega
def Dp:aR:=match zL.body with | .seq _ (.seq _ (.seq _ (.seq _ (.seq _ (.seq _ (.seq _ (.seq _ t)))))))=>t|_ => .skip
def Dq:aR:=match Dp with | .seq _ (.seq _ t)=>t|_ => .skip
def Js:aR:=match Dq with | .seq _ t=>t|_ => .skip
set_option maxHeartbeats 1000000 in
theorem aub {ky:List D -> Int} {g:Nat} (hg:tG ky g) (hy:g<4294967295) (N:Nat) : ∀ {H:ab} {x n a m b:Nat} {P L R S:List (List D)} {cap:Option Nat} {p:Bool},L.length+R.length <= N -> H[x]?=some (.ar 11 (P++(L++(R++S))) cap p false) -> (P++(L++(R++S))).length=n -> (∀ r∈P++(L++(R++S)),hZ 11 r) -> P.length=a -> a+L.length=m -> m+R.length=b -> L≠[] -> R≠[] -> L.Pairwise (fun r s=>ky r <= ky s) -> R.Pairwise (fun r s=>ky r <= ky s) -> n<4611686018427387904 -> ∀ {K:CR -> Prop},(∀ T,mL ky L R T -> K (.ret (.tu []) (H.set x (.ar 11 (P++(T++S)) cap p false)))) -> ac VS 302 [.mu x n 0 n,.i .i64 (a:Int),.i .i64 (m:Int),.i .i64 (b:Int),.fn (.func g) [] []] H K:=by
 induction N using Nat.strongRecOn with
 | ind N ih =>
 intro H x n a m b P L R S cap p hN h hn hr ha hm hb hL hR hLs hRs hs K hK
 have hx:x<H.length:=ay h
 have hLp:=V2.mpr hL
 have hRp:=V2.mpr hR
 have hn':=hn
 simp only[N3]at hn'
 by_cases h1:L.length=1
 ·obtain⟨z,rfl⟩:=AAw.mp h1
  exact at8 hg hy (R:=R) (S:=S) (z:=z) (by simpa using h) (by simpa using hn) (by simpa using hr) ha (by simpa using hm) hb hRs hs (fun T t1 t2 t3=>hK T ⟨t1,by simpa using t2,by simp;omega⟩)
 by_cases h2:R.length=1
 ·obtain⟨z,rfl⟩:=AAw.mp h2
  exact aua hg hy (R:=L) (S:=S) (z:=z) (by simpa using h) (by simpa using hn) (by simpa using hr) ha hm h1 (by simpa using hb) hLs hs (fun T t1 t2 t3=>hK T ⟨t1,t2,by simp;omega⟩)
 obtain⟨l,hl⟩ : ∃ l,l=L.length:=⟨_,rfl⟩
 obtain⟨r,hrl⟩ : ∃ r,r=R.length:=⟨_,rfl⟩
 have w0:IntKind.i64.wrap ((m:Int)-(a:Int))=(l:Int):=by rw[wr (by omega) (by omega)];omega
 have c0 : ¬ (l:Int)=1:=by omega
 have w1:IntKind.i64.wrap ((b:Int)-(m:Int))=(r:Int):=by rw[wr (by omega) (by omega)];omega
 have c1 : ¬ (r:Int)=1:=by omega
 obtain⟨S',hS'⟩ : ∃ S',S'=a+b:=⟨_,rfl⟩
 have w2:IntKind.i64.wrap ((a:Int)+(b:Int))=(S':Int):=by rw[wr (by omega) (by omega)];omega
 have w3:IntKind.wrap .u64 (S':Int)=(S':Int):=bW (by omega)
 have e1:bin .shr (.i .u64 (S':Int)) (.i .u64 1)=some (.i .u64 ((S'/2:Nat):Int)):=ff (s:=1) (by decide)
 obtain⟨d,hd⟩ : ∃ d,d=S'/2:=⟨_,rfl⟩
 rw[<- hd]at e1
 have w4:IntKind.i64.wrap (d:Int)=(d:Int):=wr (by omega) (by omega)
 obtain⟨o,ho⟩ : ∃ o,o=d+m:=⟨_,rfl⟩
 have w5:IntKind.i64.wrap ((d:Int)+(m:Int))=(o:Int):=by rw[wr (by omega) (by omega)];omega
 obtain⟨lo,hlo⟩ : ∃ lo,lo=if d<m then o-b else a:=⟨_,rfl⟩
 obtain⟨hi,hhi⟩ : ∃ hi,hi=if d<m then d else m:=⟨_,rfl⟩
 have w6:IntKind.i64.wrap ((o:Int)-1)=((o-1:Nat):Int):=by rw[wr (by omega) (by omega)];omega
 obtain⟨pp,hp⟩ : ∃ pp,pp=o-1:=⟨_,rfl⟩
 rw[<- hp]at w6
 refine .body (vf:=zL) Hf rfl rfl ?_
 rw[zM]
 show ak VS (.seq _ (.seq _ (.seq _ (.seq _ (.seq _ (.seq _ (.seq _ (.seq _ Dp)))))))) _ _
 obtain⟨rows,hrows⟩ : ∃ rows,rows=P++(L++(R++S)):=⟨_,rfl⟩
 rw[<- hrows]at h hn hr
 have hda:a<d:=by omega
 have hdb:d<b:=by omega
 have rest2 : ∀ {s a13 a14 a15 a16 a32 L1 L2 R1 R2 H1},L=L1++L2 -> R=R1++R2 -> a+L1.length=s -> m+R1.length=o-s -> (∀ x∈L1, ∀ y∈R2,ky x <= ky y) -> (∀ x∈L2, ∀ y∈R1,ky y<ky x) -> H1=H.set x (.ar 11 (P++(L1++(R1++(L2++(R2++S))))) cap p false) -> ak VS Dq ⟨[.mu x n 0 n,.i .i64 (a:Int),.i .i64 (m:Int),.i .i64 (b:Int),.fn (.func g) [] [],.b false,.u,.u,.u,.b false,.u,.u,.u,a13,a14,a15,a16,.u,.u,.u,.u,.u,.u,.u,.u,.u,.u,.i .i64 (d:Int),.i .i64 (s:Int),.i .i64 (s:Int),.i .i64 (o:Int),.i .i64 (pp:Int),a32,.i .i64 ((o-s:Nat):Int)],H1⟩ (du [] K):=by
  intro s a13 a14 a15 a16 a32 L1 L2 R1 R2 H1 f1 f2 f3 f4 k1 k2 hH1
  have l1:=ka List.length f1
  have l2:=ka List.length f2
  rw[N3]at l1 l2
  have hLa:=m6.mp (f1▸hLs)
  have hRa:=m6.mp (f2▸hRs)
  obtain⟨q,hq⟩ : ∃ q,q=o-s:=⟨_,rfl⟩
  rw[<- hq]at f4
  rw[<- hq]
  have mem0 : ∀ {r},r∈P++(L1++(R1++(L2++(R2++S)))) -> hZ 11 r:=by
   intro r hr'
   refine hr r ?_
   rw[hrows,f1,f2]
   simp only[TA]at hr' ⊢
   grind
  have rest3 : ∀ {a17 T1 H2},mL ky L1 R1 T1 -> H2=H.set x (.ar 11 (P++(T1++(L2++(R2++S)))) cap p false) -> ak VS Js ⟨[.mu x n 0 n,.i .i64 (a:Int),.i .i64 (m:Int),.i .i64 (b:Int),.fn (.func g) [] [],.b false,.u,.u,.u,.b false,.u,.u,.u,a13,a14,a15,a16,a17,.u,.u,.u,.u,.u,.u,.u,.u,.u,.i .i64 (d:Int),.i .i64 (s:Int),.i .i64 (s:Int),.i .i64 (o:Int),.i .i64 (pp:Int),a32,.i .i64 (q:Int)],H2⟩ (du [] K):=by
   intro a17 T1 H2 t1 hH2
   have g2:H2[x]?=some (.ar 11 (P++(T1++(L2++(R2++S)))) cap p false):=by rw[hH2,K2 hx]
   have tl:=t1.len
   have fin : ∀ {T2},mL ky L2 R2 T2 -> K (.ret (.tu []) (H.set x (.ar 11 (P++(T1++(T2++S))) cap p false))):=by
    intro T2 t2
    have:=hK (T1++T2) (by rw[f1,f2];exact t1.join t2 (f1▸hLs) (f2▸hRs) k1 k2)
    simpa using this
   rw[rd Js]
   show ak VS (.seq _ _) _ _
   by_cases c1:d<q
   ·by_cases c2:q<b
    ·have c3:(d:Int)<(q:Int):=by omega
     have c4:(q:Int)<(b:Int):=by omega
     simp(disch:=omega) only[go_sem,simprocAttr,c3,c4]
     refine ih (L2.length+R2.length) (by omega) (P:=P++T1) (L:=L2) (R:=R2) (S:=S) (cap:=cap) (p:=p) (G1 _) (by rw[g2];simp) (by rw[<- hn,hrows,f1,f2];simp;omega) (fun r hr'=>mem0 ?_) (by simp;omega) (by omega) (by omega) (V2.mp (by omega)) (V2.mp (by omega)) hLa.2.1 hRa.2.1 hs (fun T2 t2 => ?_)
     ·have : ∀ {r},r∈T1 -> r∈L1 \/ r∈R1:=fun h=>t1.mem h
      simp only[TA]at hr' ⊢
      grind
     ·simp(disch:=omega) only[go_sem,simprocAttr]
      have:=fin t2
      rw[hH2,vd]
      simpa using this
    ·have c3:(d:Int)<(q:Int):=by omega
     have c4 : ¬ (q:Int)<(b:Int):=by omega
     simp(disch:=omega) only[go_sem,simprocAttr,c3,c4]
     rw[hH2]
     simpa using fin (.triv (.inr (kh.mp (by omega))) hLa.2.1 hRa.2.1)
   ·have c3 : ¬ (d:Int)<(q:Int):=by omega
    simp(disch:=omega) only[go_sem,simprocAttr,c3]
    rw[hH2]
    simpa using fin (.triv (.inl (kh.mp (by omega))) hLa.2.1 hRa.2.1)
  have g1:H1[x]?=some (.ar 11 (P++(L1++(R1++(L2++(R2++S))))) cap p false):=by rw[hH1,K2 hx]
  rw[rd Dq]
  show ak VS (.seq _ Js) _ _
  by_cases c1:a<s
  ·by_cases c2:s<d
   ·have c3:(a:Int)<(s:Int):=by omega
    have c4:(s:Int)<(d:Int):=by omega
    simp(disch:=omega) only[go_sem,simprocAttr,c3,c4]
    refine ih (L1.length+R1.length) (by omega) (P:=P) (L:=L1) (R:=R1) (S:=L2++(R2++S)) (G1 _) g1 (by rw[<- hn,hrows,f1,f2];simp;omega) (fun r=>mem0) ha (by omega) (by omega) (V2.mp (by omega)) (V2.mp (by omega)) hLa.1 hRa.1 hs (fun T1 t1 => ?_)
    simp(disch:=omega) only[go_sem,simprocAttr]
    exact rest3 t1 (by rw[hH1,vd])
   ·have c3:(a:Int)<(s:Int):=by omega
    have c4 : ¬ (s:Int)<(d:Int):=by omega
    simp(disch:=omega) only[go_sem,simprocAttr,c3,c4]
    exact rest3 (.triv (.inr (kh.mp (by omega))) hLa.1 hRa.1) (by rw[hH1];simp)
  ·have c3 : ¬ (a:Int)<(s:Int):=by omega
   simp(disch:=omega) only[go_sem,simprocAttr,c3]
   exact rest3 (.triv (.inl (kh.mp (by omega))) hLa.1 hRa.1) (by rw[hH1];simp)
 have rest : ∀ {s a13 a14 a15 a32 L1 L2 R1 R2},L=L1++L2 -> R=R1++R2 -> a+L1.length=s -> m+R1.length=o-s -> (∀ x∈L1, ∀ y∈R2,ky x <= ky y) -> (∀ x∈L2, ∀ y∈R1,ky y<ky x) -> ak VS Dp ⟨[.mu x n 0 n,.i .i64 (a:Int),.i .i64 (m:Int),.i .i64 (b:Int),.fn (.func g) [] [],.b false,.u,.u,.u,.b false,.u,.u,.u,a13,a14,a15,.u,.u,.u,.u,.u,.u,.u,.u,.u,.u,.u,.i .i64 (d:Int),.i .i64 (s:Int),.i .i64 (s:Int),.i .i64 (o:Int),.i .i64 (pp:Int),a32,.u],H⟩ (du [] K):=by
  intro s a13 a14 a15 a32 L1 L2 R1 R2 f1 f2 f3 f4 k1 k2
  have l1:=ka List.length f1
  have l2:=ka List.length f2
  rw[N3]at l1 l2
  have w8:IntKind.i64.wrap ((o:Int)-(s:Int))=((o-s:Nat):Int):=by rw[wr (by omega) (by omega)];omega
  have r2:=fun{a16}=>rest2 (a13:=a13) (a14:=a14) (a15:=a15) (a16:=a16) (a32:=a32) f1 f2 f3 f4 k1 k2 rfl
  obtain⟨q,hq⟩ : ∃ q,q=o-s:=⟨_,rfl⟩
  rw[<- hq]at w8 f4 r2
  rw[rd Dp]
  show ak VS (.seq _ (.seq _ Dq)) _ _
  by_cases c1:s<m
  ·by_cases c2:m<q
   ·have c3:(s:Int)<(m:Int):=by omega
    have c4:(m:Int)<(q:Int):=by omega
    simp(disch:=omega) only[go_sem,simprocAttr,w8,c3,c4]
    refine at5 (P:=P++L1) (U:=L2) (W:=R1) (S:=R2++S) (cap:=cap) (p:=p) (by rw[h,hrows,f1,f2];simp) (by rw[<- hn,hrows,f1,f2];simp) (fun r hr'=>hr r (by rw[hrows,f1,f2];simpa using hr')) (by simp;omega) (by omega) (by omega) (V2.mp (by omega)) (V2.mp (by omega)) hs ?_
    simp(disch:=omega) only[go_sem,simprocAttr]
    simpa using r2
   ·have c3:(s:Int)<(m:Int):=by omega
    have c4 : ¬ (m:Int)<(q:Int):=by omega
    have hR1:R1=[]:=kh.mp (by omega)
    have e0:H.set x (.ar 11 (P++(L1++(R1++(L2++(R2++S))))) cap p false)=H:=by
     refine mK ?_
     rw[h,hrows,f1,f2,hR1];simp
    rw[e0]at r2
    simp(disch:=omega) only[go_sem,simprocAttr,w8,c3,c4]
    exact r2
  ·have c3 : ¬ (s:Int)<(m:Int):=by omega
   have hL2:L2=[]:=kh.mp (by omega)
   have e0:H.set x (.ar 11 (P++(L1++(R1++(L2++(R2++S))))) cap p false)=H:=by
    refine mK ?_
    rw[h,hrows,f1,f2,hL2];simp
   rw[e0]at r2
   simp(disch:=omega) only[go_sem,simprocAttr,w8,c3]
   exact r2
 by_cases hdm:d<m
 ·have c2:(d:Int)<(m:Int):=by omega
  have hlo':=hlo
  have hhi':=hhi
  rw[E4 hdm]at hlo' hhi'
  have w7:IntKind.i64.wrap ((o:Int)-(b:Int))=(lo:Int):=by rw[wr (by omega) (by omega)];omega
  simp(disch:=omega) only[go_sem,simprocAttr,zM,w0,c0,w1,c1,w2,w3,e1,w4,w5,c2,w6,w7]
  rw[<- hhi']
  refine YN hg hy h hn hr hs (by omega) (by omega) (by omega) (by omega) (fun s a14 a15 a32 h1 h2 h3 h4 => ?_) (by omega)
  obtain⟨L1,L2,R1,R2,e1,e2,e3,e4,k1,k2⟩:=YO hrows ha hm hb hLp hRp (by omega) ho hp (by rw[hlo]) (by rw[hhi]) hLs hRs h1 h2 h3 h4
  simp only[go_sem]
  rw[hhi']
  exact rest e1 e2 e3 e4 k1 k2
 ·have c2 : ¬ (d:Int)<(m:Int):=by omega
  have hlo':=hlo
  have hhi':=hhi
  rw[E1 hdm]at hlo' hhi'
  simp(disch:=omega) only[go_sem,simprocAttr,zM,w0,c0,w1,c1,w2,w3,e1,w4,w5,c2,w6]
  rw[<- hhi', <- hlo']
  refine YN hg hy h hn hr hs (by omega) (by omega) (by omega) (by omega) (fun s a14 a15 a32 h1 h2 h3 h4 => ?_) (by omega)
  obtain⟨L1,L2,R1,R2,e1,e2,e3,e4,k1,k2⟩:=YO hrows ha hm hb hLp hRp (by omega) ho hp (by rw[hlo]) (by rw[hhi]) hLs hRs h1 h2 h3 h4
  simp only[go_sem]
  rw[hhi',hlo']
  exact rest e1 e2 e3 e4 k1 k2
end
section
open Go.Dm
set_option maxRecDepth 10000
def auc{v:List D->Int}{g:Nat}(c:tG v g)(d:g<4294967295){H:ab}{x n:Nat}{X:List (List D)}{cap:Option Nat}{p:Bool}(h:H[x]?=some (.ar 11 X cap p false))(G:X.length=n)(hr:∀r∈X,hZ 11 r)(hs:n<40){K:CR->Prop}(w:∀T,Jo v X T->T.length=X.length->K (.ret (.tu []) (H.set x (.ar 11 T cap p false)))):ac VS 291 [.mu x n 0 n,.i .i64 (n:Int),.fn (.func g) [] []] H K:=by
 refine .body Ut rfl rfl ?_;simp[go_sem,abK];by_cases I:20<=n
 ·have f:(20:Int)<=n:=by omega
  have e:¬(40:Int)<=n:=by omega
  have j:IntKind.i64.wrap 40=40:=by decide
  have y:IntKind.i64.wrap 20=20:=by decide
  obtain⟨A,J⟩:∃A,A=X.take 20:=⟨_,rfl⟩;obtain⟨B,L⟩:∃B,B=X.drop 20:=⟨_,rfl⟩;have l:X=A++B:=by simp_all
  have M:A.length=20:=by grind
  have N:B.length=n-20:=by grind
  rw[bJ];simp[go_sem,ON,f];refine Jp c d (P:=[]) (a:=0) (b:=20) (by rw[h,l];rfl) (by grind) (by grind) rfl (by omega) (by omega) (λo t1 z=>?_);simp[go_sem,simprocAttr,j];rw[bJ];simp[go_sem,e];have C:∀r∈o++B,hZ 11 r:=by
   intro r s;refine hr r ?_;rw[l];rcases TA.mp s with q|q;·exact T4 _ (zp t1.fil q)
   grind
  refine Jp c d (P:=o) (S:=[]) (X:=B) (a:=20) (cap:=cap) (p:=p) (by grind) (by grind) (by grind) (by omega) (by omega) (by omega) (λE t Q=>?_);rw[vd,oy];simp[go_sem];rw[bJ];by_cases U:n=20
  ·have c3:¬(20:Int)<(n:Int):=by omega
   simp[go_sem,Ei,c3];grind
  have c3:(20:Int)<n:=by omega
  simp[go_sem,simprocAttr,Ei,c3,j];rw[bJ];simp[go_sem,awN,e,y,c3];have V:∀r∈o++E,hZ 11 r:=by
   intro r s;refine C r ?_;rcases TA.mp s with q|q;·grind
   exact gA _ (zp t.fil q)
  refine aub c d n (P:=[]) (S:=[]) (a:=0) (m:=20) (cap:=cap) (p:=p) (by omega) (by grind) (by grind) (by grind) rfl (by omega) (by omega) (V2.mp (by omega)) (V2.mp (by omega)) t1.ord t.ord (by omega) (λT u=>?_);rw[vd,oy,bN];simp[go_sem,simprocAttr,j];rw[bJ];have F:¬(40:Int)<n:=by omega
  simp[go_sem,F];have W:=u.len;refine w T ⟨u.ord,λk=>?_⟩ (by omega);rw[u.fil k,l,vx,vx,t1.fil k,t.fil k]
 have f:¬(20:Int)<=n:=by omega
 have e:¬(20:Int)<(n:Int):=by omega
 rw[bJ];simp[go_sem,ON,f];refine Jp c d (P:=[]) (S:=[]) (by simpa using h) (by grind) (by grind) rfl (by grind) (by omega) (λT t1 z=>?_);simp[go_sem];rw[bJ];simp[go_sem,Ei,e];grind
end
section
open Go.Dm
set_option maxRecDepth 10000
structure FV where
 key:Nm
 frm:Int
 to:Int
 known:Int
 gone:Bool
 a:AV
 fl:a.c.all D.flat=true
 ok:gone=false->a.ok
 sp:frm<to
def FV.c(f:FV):List D:=[.s f.key,.i .i64 f.frm,.i .i64 f.to,.i .i64 f.known,.b f.gone,.i .u8 f.a.v.k,f.a.s,f.a.x,f.a.t,f.a.y,.i .i64 f.a.v.i]
def FV.n(f:FV):FN:=⟨f.key,f.frm,f.to,f.known,f.gone,if f.gone=true then default else f.a.v⟩
noncomputable instance:Inhabited FV:=⟨⟨[],0,1,0,false,Classical.choose (yC true),(i4 (yC true)).2.al,λ_=>(i4 (yC true)).2,by decide⟩⟩
def FV.flat4(f:FV):f.a.s.flat=true/\f.a.x.flat=true/\f.a.t.flat=true/\f.a.y.flat=true:=by have:=f.fl;grind[AV.c]
def FV.al(f:FV):f.c.all D.flat=true:=by obtain⟨a,b,c,d⟩:=f.flat4;simp_all[FV.c,lH,jj,cg]
def FV.fzr(f:FV):hZ 11 f.c:=⟨rfl,f.al,⟨f.known,rfl⟩⟩
def HD:List D->Int|_::_::_::.i _ n::_=>n|_=>0
variable{x y:List (List D)}
def U0{w:Nat}{a:List (List D)}{x:D}(h:Sl w y x)(b:Sl w a x):y=a:=by cases h<;>cases b<;>first|grind
theorem HE:∀{l m:List Nat},l.map u16=m.map u16->l=m|[],[],_=>rfl|[],_::_,h=>by cases h|_::_,[],h=>by cases h|a::l,b::m,h=>by obtain⟨c,d⟩:=ABO h;simp[u16,s0,D.i.injEq,and_true,true_and]at c;rw[HE d,show a=b by omega]
def VD.inj{v w:NV}{d:D}(h:VD v d)(c:VD w d):v=w:=by
 obtain⟨x,y,rfl,a,b⟩:=h.h;obtain⟨o,p,e,f,g⟩:=c.h;simp only[D.ag.injEq,s0,D.i.injEq,D.b.injEq,true_and,and_true]at e;obtain⟨q,r,rfl,rfl,s⟩:=e;have j:ds 65536 v.n.natAbs=ds 65536 w.n.natAbs:=by have:=U0 a.sl f.sl;grind[HE]
 have l:=HE (U0 b.sl g.sl);have t:=uz.1 j;have u:=uz.1 l;obtain⟨k,n,m,i⟩:=v;obtain⟨z,A,B,C⟩:=w;grind
def FV.n_of{f g:FV}(h:f.c=g.c):f.n=g.n:=by simp[FV.c,s0,D.s.injEq,D.i.injEq,D.b.injEq,true_and,and_true]at h;obtain⟨a,b,c,d,e,l,m,n,o,p,q⟩:=h;unfold FV.n;rw[a,b,c,d,e];cases i:g.gone with|true=>rfl|false=>
 have j:=f.ok (by grind);have k:=g.ok i;have d1:=j.d;have:AV.c f.a=AV.c g.a:=by grind[AV.c]
 rw[this]at d1;rw[VD.inj d1 k.d]
def U1:∀{A B:List FN},A.Pairwise (λf g=>f.known<=g.known)->B.Pairwise (λf g=>f.known<=g.known)->(∀k,A.filter (λf=>decide (f.known=k))=B.filter (λf=>decide (f.known=k)))->A=B
 |[],[],_,_,_=>rfl|[],b::B,_,_,h=>by have:=h b.known;grind|a::A,[],_,_,h=>by have:=h a.known;grind|a::A,b::B,i,j,h=>by
  obtain⟨l,m⟩:=hM.1 i;obtain⟨n,o⟩:=hM.1 j;have p:a∈(b::B):=by have:a∈(a::A).filter (λf=>decide (f.known=a.known)):=qo.2 ⟨N1,by simp⟩;simp_all
  have q:b∈(a::A):=by have:b∈(b::B).filter (λf=>decide (f.known=b.known)):=qo.2 ⟨N1,by simp⟩;rw[<-h]at this;exact(qo.1 this).1
  have t:b.known<=a.known:=by
   rcases S2.1 p with e|e;·rw[e];exact ux _
   exact n a e
  have u:a.known<=b.known:=by
   rcases S2.1 q with e|e;·rw[e];exact ux _
   exact l b e
  have r:a.known=b.known:=by omega
  have d:=h a.known;rw[AAp (by simp),AAp (by simp[r])]at d;obtain⟨rfl,s⟩:=ABO d;rw[U1 m o λk=>?_];by_cases c:a.known=k;·subst c;exact s
  have:=h k;rwa[AAq (by simpa using c),AAq (by simpa using c)]at this
def gW(f:FN):List FN->List FN|[]=>[f]|g::l=>if f.known<=g.known then f::g::l else g::gW f l
def lK:List FN->List FN|[]=>[]|f::l=>gW f (lK l)
theorem HF{f g:FN}:∀{l:List FN},g∈gW f l->g=f\/g∈l
 |[],h=>.inl (eD.1 h)|u::l,h=>by
  unfold gW at h;split at h;·grind
  rcases S2.1 h with h|h;·grind
  rcases HF h with h|h;·exact .inl h
  exact .inr (M0 _ h)
def U2{f:FN}:∀{l:List FN},l.Pairwise (λf g=>f.known<=g.known)->(gW f l).Pairwise (λf g=>f.known<=g.known)
 |[],_=>ABJ _ _|u::l,h=>by
  obtain⟨d,a⟩:=hM.1 h;unfold gW;split;·rename_i b;exact hM.2 ⟨λg c=>by grind,h⟩
  rename_i b;exact hM.2 ⟨λg c=>by grind[HF],U2 a⟩
def U4{f:FN}{k:Int}:∀{l:List FN},(gW f l).filter (λg=>decide (g.known=k))=(f::l).filter (λg=>decide (g.known=k))
 |[]=>rfl|u::l=>by
  unfold gW;split;·rfl
  rename_i a;rw[pb,U4,pb,pb,pb];grind
def HG:∀l:List FN,(lK l).Pairwise (λf g=>f.known<=g.known)|[]=>.nil|_::l=>U2 (HG l)
def U5{k:Int}:∀l:List FN,(lK l).filter (λg=>decide (g.known=k))=l.filter (λg=>decide (g.known=k))|[]=>rfl|f::l=>by show(gW f _).filter _=_;rw[U4,pb,pb,U5 l]
def cZ(F:List FN)(key:Nm)(a:Int):List FN:=lK (F.filter λf=>decide (f.key=key/\f.known<=a))
def U6{X:List FV}:∀{T:List (List D)},(∀r∈T,r∈X.map FV.c)->∃Y:List FV,Y.map FV.c=T|[],_=>⟨[],rfl⟩|r::T,h=>by obtain⟨f,_,a⟩:=fT.1 (h r N1);obtain⟨Y,b⟩:=U6 λs hs=>h s (M0 _ hs);exact⟨f::Y,by grind⟩
def U7{Y:List FV}{k:Int}:(Y.map FV.c).filter (λr=>decide (HD r=k))=(Y.filter λf=>decide (f.known=k)).map FV.c:=by rw[vn];rfl
theorem U8:∀{A B:List FV},A.map FV.c=B.map FV.c->A.map FV.n=B.map FV.n|[],[],_=>rfl|[],_::_,h=>by cases h|_::_,[],h=>by cases h|a::A,b::B,h=>by obtain⟨c,d⟩:=ABO h;rw[kb,kb,FV.n_of c,U8 d]
def U9{Y:List FV}{k:Int}:(Y.map FV.n).filter (λf=>decide (f.known=k))=(Y.filter λf=>decide (f.known=k)).map FV.n:=by rw[vn];rfl
def amx{X:List FV}{T:List (List D)}(h:Jo HD (X.map FV.c) T):∃Y:List FV,Y.map FV.c=T/\Y.map FV.n=lK (X.map FV.n):=by
 obtain⟨Y,rfl⟩:=U6 λr hr=>zp h.fil hr;refine⟨Y,rfl,U1 ?_ (HG _) λk=>?_⟩;·have:=h.ord;rw[AAy]at this⊢;exact this
 rw[U5,U9,U9];have:=h.fil k;rw[U7,U7]at this;grind[U8]
end
section
open Go.Dm
set_option maxRecDepth 10000
variable{x:List D}
def Va(h:hZ 11 x):∃a b c n d e f g j c9 k,x=[a,b,c,.i .i64 n,d,e,f,g,j,c9,k]:=by obtain⟨n,l⟩:=h.i3;match x,h.len with|[a,b,c,c3,d,e,f,g,j,c9,k],_=>grind
def amy:tG HD 274:=by
 intro r s hr hs;have a:=hr.fz;have fs:=hs.fz;obtain⟨d,e,f,n,g,h,i,j,k,c9,l,rfl⟩:=Va hr;obtain⟨o,p,q,m,t,u,v,w,x,y,z,rfl⟩:=Va hs;have b:=λ{H K}=>(US n m).c (H:=H) (K:=K) GO rfl rfl (.inl rfl);refine⟨iX n m,?_,λ{H K}=>?_⟩
 ·show iX n m<0↔n<m;unfold iX;split;·omega
  split<;>omega
 refine ai.c (.body Um rfl ?_) Um rfl (by simp[AAb,ABG,AAt,bO,D0];exact⟨by simpa using a,by simpa using fs⟩) (.inl rfl);simp[go_sem,simprocAttr,awz,b]
def amz{x:D}{key:Nm}{known:Int}(a:x.cellsN 1=some [x]){K:CR->Prop}:ac VS 245 [x,.s key,.i .i64 known] [] K↔K (.ret (.fn (.func 272) [] [.hp 0 0,.hp 1 0,.hp 2 0]) [.hb 27 [x],.hb 9 [.s key],.hb 3 [.i .i64 known]]):=by refine dO (cz.iff_q.2 (.body aly rfl rfl ?_));simp[go_sem,awh,a]
def my(key:Nm)(a:Int)(f:FV):Bool:=decide (f.key=key/\f.known<=a)
def nA(key:Nm)(a:Int)(l:List FV)(i:Nat):List FV:=(l.take i).filter (my key a)
def amA{key:Nm}{known:Int}{l:List FV}{i:Nat}(h:i<l.length):nA key known l (i+1)=nA key known l i++(if my key known l[i]! =true then[l[i]!]else[]):=by unfold nA;rw[sd,Hk h,Hy l i h,vx];grind
def amB{key:Nm}{known:Int}{l:List FV}{i:Nat}:(nA key known l i).length<=i:=by grind[nA]
variable{y:Int}
def amC{key:Nm}{l:List FV}:((l.filter (my key y)).map FV.n)=(l.map FV.n).filter λf=>decide (f.key=key/\f.known<=y):=by rw[vn];rfl
structure TdI(y b:Nat)(H:ab)(T:List FV)(K:CR->Prop)(I:Nat->ab->Prop):Prop where z:I 0 (bH H 11 (T.map FV.c))a:∀i G,I i G->T≠[]->G[H.length]?=some (.ar 11 (T.map FV.c) none true false)r:∀i G,i<T.length->I i G->ac VS yF [.yl y,.ag T[i]!.c] G (λr=>∃G',r=.ret (.b true) G'/\I (i+1) G')k:∀d G,I T.length G->K (.ret d G)
def amE{H:ab}{K:CR->Prop}(h:K (.ret (.tu []) H)):ac VS 291 [.nil,.i .i64 0,.fn (.func 274) [] []] H K:=by
 refine .body Ut rfl rfl ?_;simp[go_sem,abK];rw[bJ];simp[go_sem,ON];have:ac VS 301 [.nil,.i .i64 0,.i .i64 0,.fn (.func 274) [] []] H (λr=>r=.ret (.tu []) H):=by
  refine .body Ux rfl rfl ?_;simp[go_sem,abO];rw[bJ];have a:IntKind.i64.wrap 1=1:=by decide
  simp[go_sem,simprocAttr,Ej,a]
 refine this.mono λr hr=>?_;subst hr;simp[go_sem];rw[bJ];simp[go_sem,simprocAttr,Ei];exact h
theorem vQ{H:ab}{w:Nat}{rows:List (List D)}{j:Nat}(h:j<H.length):(bH H w rows)[j]?=H[j]?:=by cases rows with|nil=>rfl|cons r a=>exact dw h
def amF{H:ab}{X:List FV}(hs:X.length<40){K:CR->Prop}(c:∀T:List FV,T.map FV.n=lK (X.map FV.n)->T.length=X.length->K (.ret (.tu []) (bH H 11 (T.map FV.c)))):ac VS 273 [bD H .nil (X.map FV.c),.fn (.func 274) [] []] (bH H 11 (X.map FV.c)) K:=by
 by_cases a:X=[];·subst a;have b:ac VS 291 [.nil,.i .i64 0,.fn _ [] []] H (λr=>r=.ret _ H):=amE rfl;have d:=c [] rfl rfl;refine .body Ul rfl rfl ?_;show ak VS _ ⟨[.nil,.fn _ [] []],H⟩ _;simp[go_sem,abq];refine b.mono λr hr=>?_;subst hr;simp[go_sem];exact d
 obtain⟨g1,g⟩:=mo (H0:=H) (w:=11) (enc:=FV.c) a;rw[g1,g];have b:=auc amy (by decide) (H:=H++[.ar 11 (X.map FV.c) none true false]) (x:=H.length) (X:=X.map FV.c) (cap:=none) (p:=true) (by simp) (by simp) (λr hr=>by obtain⟨f,_,rfl⟩:=fT.1 hr;exact f.fzr) hs (K:=λr=>∃T:List FV,T.map FV.n=lK (X.map FV.n)/\T.length=X.length/\r=.ret (.tu []) (bH H 11 (T.map FV.c))) (λT h j=>by obtain⟨Y,rfl,k⟩:=amx h;have l:Y≠[]:=λe=>a (kh.1 (by grind));grind[mo]);refine .body Ul rfl rfl ?_;simp[go_sem,simprocAttr,abq];refine b.mono λr hr=>?_;obtain⟨T,t1,t2,rfl⟩:=hr;simp[go_sem];grind
def amG{l:List FV}{x:D}(L:Sl 11 (l.map FV.c) x)(hl:l.length<40){y b:Nat}{key:Nm}{a:Int}{H:ab}(b0:H[b]?=some (.hb 27 [x]))(M:H[b+1]?=some (.hb 9 [.s key]))(N:H[b+2]?=some (.hb 3 [.i .i64 a])){K:CR->Prop}(hK:∀T:List FV,T.map FV.n=cZ (l.map FV.n) key a->T.length<=l.length->∃I,TdI y b H T K I):ac VS 272 [.yl y,.hp b 0,.hp (b+1) 0,.hp (b+2) 0] H K:=by
 have hn:=λ{H:ab}=>L.n (H:=H);have E:=λ{V dr os keep ai sl Q al H H' k x'}=>L.q (V:=V) (dr:=dr) (os:=os) (keep:=keep) (loc:=ai) (sl:=sl) (Q:=Q) (sl':=al) (H:=H) (H':=H') (k:=k) (x:=x');refine .body (vf:=Ed) alG rfl rfl ?_;simp(disch:=omega)only[go_sem,simprocAttr,awy,b0,hn];refine ak.up (λi s=>∃(g h m n o P S U p:D),s=⟨[.yl y,.hp b 0,.hp (b+1) 0,.hp (b+2) 0,g,h,m,n,bD H .nil ((nA key a l i).map FV.c),.i .i64 i,.i .i64 l.length,x,o,P,S,U,p],bH H 11 ((nA key a l i).map FV.c)⟩) l.length ⟨_,_,_,_,_,_,_,_,_,rfl⟩ ?_;rintro i s hi⟨g,h,m,n,o,P,S,U,p,rfl⟩;by_cases z:i<l.length
 ·have c:(i:Int)<(l.length:Int):=by omega
  have c3:(0:Int)<=(i:Int):=by omega
  have q:IntKind.i64.wrap ((i:Int)+1)=((i+1:Nat):Int):=by rw[wr (by omega) (by omega)];omega
  have d:=amA (key:=key) (known:=a) z;have W:=amB (key:=key) (known:=a) (l:=l) (i:=i);obtain⟨f,A⟩:∃f,f=l[i]!:=⟨_,rfl⟩;rw[<-A]at d;obtain⟨acc,ao⟩:∃acc,acc=nA key a l i:=⟨_,rfl⟩;rw[<-ao]at d W⊢;have g1:(bH H 11 (acc.map FV.c))[b+1]?=some (.hb 9 [.s key]):=by rw[vQ (ay M)];exact M
  have X:(bH H 11 (acc.map FV.c))[b+2]?=some (.hb 3 [.i .i64 a]):=by rw[vQ (ay N)];exact N
  obtain⟨f1,f2,f3,f4⟩:=f.flat4;have Y:=m9 (H0:=H) (w:=11) (bytes:=128) (r:=f.c) (enc:=FV.c) (l:=acc) (by omega) (by omega);simp only[FV.c]at Y;by_cases t:f.key=key
  ·by_cases B:f.known<=a;·have u:my key a f=true:=Rp ⟨t,B⟩;rw[E4 u]at d;have F:(f.key=key)↔True:=iff_of_true t trivial;simp(disch:=omega)only[go_sem,simprocAttr,Ec,E,c,c3,dA,<-A,FV.c,g1,X,F,B,Y,f1,f2,f3,f4,q];rw[d,eH];exact⟨z,rfl,rfl⟩
   have u:¬my key a f=true:=by unfold my;simp[B]
   rw[E1 u,oy]at d;have F:(f.key=key)↔True:=iff_of_true t trivial;simp(disch:=omega)only[go_sem,simprocAttr,Ec,E,c,c3,dA,<-A,FV.c,g1,X,F,B,q];rw[d];exact⟨z,rfl,rfl⟩
  have u:¬my key a f=true:=by unfold my;simp[t]
  rw[E1 u,oy]at d;simp(disch:=omega)only[go_sem,simprocAttr,Ec,E,c,c3,dA,<-A,FV.c,g1,t,q];rw[d];exact⟨z,rfl,rfl⟩
 have c:¬(i:Int)<(l.length:Int):=by omega
 have av:i=l.length:=by omega
 have aw:nA key a l i=l.filter (my key a):=by unfold nA;rw[av,o5]
 rw[aw];have W:(l.filter (my key a)).length<=l.length:=n4 _ _;simp(disch:=omega)only[go_sem,simprocAttr,Ec,c];refine amF (by omega) λT t1 t2=>?_;obtain⟨I,C⟩:=hK T (by rw[t1,amC];rfl) (by omega);have hz:=C.z;have a0:bD H .nil ((l.filter (my key a)).map FV.c)=bD H .nil (T.map FV.c):=vD (by simp[t2]);rw[a0];simp(disch:=omega)only[go_sem,simprocAttr];refine ak.up (λi s=>∃(g h m n Z aa ad o p:D)(G:ab),I i G/\s=⟨[.yl y,.hp b 0,.hp (b+1) 0,.hp (b+2) 0,g,h,m,n,bD H .nil (T.map FV.c),Z,aa,ad,o,.i .i64 i,.i .i64 T.length,bD H .nil (T.map FV.c),p],G⟩) T.length ⟨_,_,_,_,_,_,_,_,_,_,hz,rfl⟩ ?_;rintro j s hj⟨g,h,m,n,Z,aa,ad,o,p,G,J,rfl⟩;by_cases v:j<T.length
 ·have c:(j:Int)<(T.length:Int):=by omega
  have c3:(0:Int)<=(j:Int):=by omega
  have q:IntKind.i64.wrap ((j:Int)+1)=((j+1:Nat):Int):=by rw[wr (by omega) (by omega)];omega
  have ae:T≠[]:=λe=>by rw[e]at v;simp at v
  have a1:=C.a j G J ae;have hr:=C.r j G v J;rw[(mo (H0:=H) (w:=11) (enc:=FV.c) ae).2];simp only[FV.c]at hr;simp(disch:=omega)only[go_sem,simprocAttr,abp,c,c3,a1,dA,FV.c];refine⟨v,hr.mono λr hr=>?_⟩;obtain⟨G',rfl,a3⟩:=hr;simp(disch:=omega)only[go_sem,simprocAttr,q];exact⟨v,_,_,_,_,_,_,_,_,_,G',a3,⟨rfl,rfl,rfl,rfl,rfl,rfl,rfl,rfl,rfl⟩,rfl⟩
 have c:¬(j:Int)<(T.length:Int):=by omega
 have a4:j=T.length:=by omega
 subst a4;simp(disch:=omega)only[go_sem,simprocAttr,abp,c];exact C.k _ _ J
def yG{G:ab}{b:an}:(G++[b])[G.length]?=some b:=by simp
def vS{G:ab}{b:an}{i:Nat}{c:an}(h:G[i]?=some c):(G++[b])[i]?=some c:=by grind
def HH{X:ab}{a k w bytes:Nat}{rows:List (List D)}(h:X[a]?=some (.ar w rows none true false))(b:rows.length=k)(f:x.all D.flat=true)(hr:(k+1)*bytes<=140737488355328)(g:k<140737488355328):bY X (.mu a k 0 k) (.sv w [x]) w bytes true=some (.mu a (k+1) 0 (k+1),X.set a (.ar w (rows++[x]) none true false)):=by
 have c:iL X [x]=some _:=oE _ (by grind);have d:aO X a k=some (w,rows,none,true,false):=by simp[Dm.aO,h,b]
 have e:fu (k+1) bytes=true:=by grind[fu]
 simp only[bY,fM,if_true,c,gM,mV,d,lB,G1,and_self,qu,e,jE];grind
def vg{X:ab}{w bytes:Nat}(a:x.all D.flat=true)(hr:bytes<=140737488355328):bY X .nil (.sv w [x]) w bytes true=some (.mu X.length 1 0 1,X++[.ar w [x] none true false]):=by have b:iL X [x]=some _:=oE _ (by grind);grind[fu,bY,fM,gM,kI]
structure HI(T:List FV)(k:Nat)(G:ab):Prop where y:∃x,G[5]?=some (.yh r3.f r3.path 3 r3.nt r3.tm x .rd)/\x.length=7/\x[5]?=some (.hp 3 0)l:T≠[]->G[6]?=some (.ar 11 (T.map FV.c) none true false)c:(k=0/\G[3]?=some (.hb 27 [.nil]))\/(0<k/\∃a,6<a/\G[3]?=some (.hb 27 [.mu a k 0 k])/\G[a]?=some (.ar 11 ((T.take k).map FV.c) none true false))n:6<=G.length/\(T≠[]->7<=G.length)
def amH{T:List FV}(Z:T.length<40){k:Nat}{G:ab}(m:k<T.length)(h:HI T k G):ac VS yF [.yl 5,.ag T[k]!.c] G (λr=>∃y,r=.ret (.b true) y/\HI T (k+1) y):=by obtain⟨⟨x,z,J,p⟩,K,L,hn⟩:=h;obtain⟨f,A⟩:∃f,f=T[k]!:=⟨_,rfl⟩;rw[<-A];match x,J,p with
 |[M,N,P,Q,S,x5,U],_,p=>
 have:=kv p;subst this;refine ac.round vM z UA ⟨rfl,rfl,rfl,rfl,rfl⟩ ?_;have B:=f.al;simp only[go_sem,aww,gP,FV.c,yG];obtain⟨n,g⟩:∃n,n=G++[an.hb 48 f.c]:=⟨_,rfl⟩;have z1:=vS (b:=.hb 48 f.c) z;have z2:n[G.length]?=some (.hb 48 f.c):=by rw[g];exact yG
 rw[<-g]at z1;simp[FV.c]at g z2;rw[<-g];have z5:=ay z1;refine⟨_,_,_,_,_,_,z1,?_⟩;obtain⟨Y,q⟩:∃Y,Y=an.yh r3.f r3.path 3 r3.nt r3.tm [M,N,P,Q,S,D.hp 3 0,U] RS.bz:=⟨_,rfl⟩;rw[<-q];obtain⟨d,j⟩:∃d,d=n.set 5 Y:=⟨_,rfl⟩;have ae:d.length=G.length+1:=by rw[j,gb,g];simp
 have C:d[5]?=some Y:=by rw[j,K2 z5]
 have E:d[G.length]?=some (.hb 48 [.s f.key,.i .i64 f.frm,.i .i64 f.to,.i .i64 f.known,.b f.gone,.i .u8 f.a.v.k,f.a.s,f.a.x,f.a.t,f.a.y,.i .i64 f.a.v.i]):=by rw[j,K0 (by omega)];exact z2
 have o:∀{i:Nat}{c:an},i≠5->G[i]?=some c->d[i]?=some c:=λ{i c}hi h=>by rw[j,K0 (AAX hi),g];exact vS h
 have F:=λh=>o (by omega) (K h);have H:T.take (k+1)=T.take k++[f]:=by rw[sd,Hk m,A,Hy T k m];rfl
 rw[<-j];rcases L with⟨t,u⟩|⟨t,a,V,u,W⟩
 ·have v:=o (by omega) u;have l:=vg (X:=d) (w:=11) (bytes:=128) B (by decide);simp[FV.c]at l;simp only[go_sem,simprocAttr,v,E,l,vS];have af:T≠[]:=λe=>by rw[e]at m;simp at m
  refine⟨_,_,_,_,_,_,by rw[K0 (by omega),vS C,q],?_,λh=>?_,.inr ⟨by omega,d.length,by omega,?_,?_⟩,?_⟩;·exact⟨_,K2 (by simp;omega),rfl,rfl⟩
  ·rw[K0 (by omega),K0 (by omega)];exact vS (F h)
  ·rw[K0 (by omega),K2 (by simp;omega),t]
  ·rw[K0 (by omega),K0 (by omega),yG,H,t];rfl
  simp;omega
 have v:=o (by omega) u;have I:=o (by omega) W;have l:=HH (bytes:=128) (k:=k) I (by simp;omega) B (by omega) (by omega);simp only[FV.c]at l;have la:=ay I;simp(disch:=omega)only[go_sem,simprocAttr,v,E,l,K0];refine⟨_,_,_,_,_,_,C.trans (by rw[q]),?_,λh=>?_,.inr ⟨by omega,a,V,?_,?_⟩,?_⟩;·exact⟨_,K2 (by simp;omega),rfl,rfl⟩
 ·rw[K0 (by omega),K0 (by omega),K0 (by omega)];exact F h
 ·rw[K0 (by omega),K2 (by simp;omega)]
 ·rw[K0 (by omega),K0 (by omega),K2 (by omega),H,eH];rfl
 simp;omega
def amI{base:Nat}{H:ab}{i w:Nat}{rows:List (List D)}{cap:Option Nat}{p lk:Bool}(h:H[i]?=some (.ar w rows cap p lk)):(eA base H)[i]?=some (.ar w rows cap p lk):=by grind[eA,ay]
def Vb(l:List FV)(key:Nm)(b:Int)(r:CR):Prop:=∃(T:List FV)(G:ab)(d:D),r=.ret d G/\T.map FV.n=cZ (l.map FV.n) key b/\T.length<=l.length/\((T=[]/\d=.nil)\/∃a,d=.mu a T.length 0 T.length/\G[a]?=some (.ar 11 (T.map FV.c) none true false))
def amJ{l:List FV}{x:D}(g:Sl 11 (l.map FV.c) x)(j:l.length<40){key:Nm}:ac VS 244 [.fn (.func 272) [] [.hp 0 0,.hp 1 0,.hp 2 0]] [.hb 27 [x],.hb 9 [.s key],.hb 3 [.i .i64 y]] (Vb l key y):=by
 refine .body alx rfl rfl ?_;simp[go_sem,awg];have k:ac VS 271 [.nil,.fn (.func 272) [] [.hp 0 0,.hp 1 0,.hp 2 0]] [.hb 27 [x],.hb 9 [.s key],.hb 3 [.i .i64 y]] (Vb l key y):=by
  refine .bodyR alF rfl rfl rfl ?_;simp[go_sem,simprocAttr,awx];rw[yi UA rfl (by decide)];refine amG g j rfl rfl rfl λT t1 e=>⟨HI T,⟨?_,λi G h b=>h.l b,λi G hi h=>amH (by omega) hi h,λd G h=>?_⟩⟩
  ·have m:∀rows,(bH ([an.hb 27 [x],an.hb 9 [D.s key],an.hb 3 [D.i IntKind.i64 y],an.hb 27 [D.nil]]++[an.df,an.yh r3.f r3.path 3 r3.nt r3.tm [D.nil,D.fn (Fn.func 272) [] [D.hp 0 0,D.hp 1 0,D.hp 2 0],D.nil,D.fn (Fn.func 272) [] [D.hp 0 0,D.hp 1 0,D.hp 2 0],D.u,D.hp 3 0,D.u] RS.rd]) 11 rows)[5]?=some (an.yh r3.f r3.path 3 r3.nt r3.tm [D.nil,D.fn (Fn.func 272) [] [D.hp 0 0,D.hp 1 0,D.hp 2 0],D.nil,D.fn (Fn.func 272) [] [D.hp 0 0,D.hp 1 0,D.hp 2 0],D.u,D.hp 3 0,D.u] RS.rd):=λrows=>by grind[vQ]
   refine⟨⟨_,m _,rfl,rfl⟩,λb=>?_,.inl ⟨rfl,?_⟩,?_,λb=>?_⟩;·rw[(mo b).1];rfl
   ·rw[vQ (by simp)];rfl
   ·cases T.map FV.c<;>simp[bH]
   rw[(mo b).1];simp
  obtain⟨⟨t,n,u,v⟩,g1,o,w⟩:=h;show oI _ 5 _ _;rw[vE n];rcases o with⟨f,p⟩|⟨f,a,z,p,A⟩
  ·have c:(G.set 5 an.no)[3]?=some (.hb 27 [.nil]):=by grind
   have b:=kh.1 f;simp[go_sem,c];exact⟨T,_,_,rfl,t1,e,.inl ⟨b,rfl⟩⟩
  have c:(G.set 5 an.no)[3]?=some (.hb 27 [.mu a T.length 0 T.length]):=by grind
  have q:(G.set 5 an.no)[a]?=some (.ar 11 (T.map FV.c) none true false):=by grind
  simp[go_sem,c];exact⟨T,_,_,rfl,t1,e,.inr ⟨a,rfl,amI q⟩⟩
 refine k.mono λr hr=>?_;obtain⟨T,G,d,rfl,h1,h2,h3⟩:=hr;simp[go_sem];exact⟨T,G,d,rfl,h1,h2,h3⟩
end
section
open Go.Dm
set_option maxRecDepth 10000
def B0(y:Nat):Bool:=decide (y%4=0)&&(!decide (y%100=0)||decide (y%400=0))
def Hh{a b:Nat}:((a:Int).tmod (b:Int))=((a%b:Nat):Int):=by grind
def Hi{a b:Nat}:((a:Int).tdiv (b:Int))=((a/b:Nat):Int):=by grind
def alT{y:Nat}:ai VS 217 [.i .i64 (y:Int)] (.b (B0 y)):=by
 have t1:((y:Int).tmod 4)=((y%4:Nat)):=Hh;have c:((y:Int).tmod 100)=((y%100:Nat)):=Hh;have e:((y:Int).tmod 400)=((y%400:Nat)):=Hh;unfold B0;refine .body TO rfl ?_;by_cases a:y%4=0
 ·by_cases d:y%100=0
  ·by_cases f:y%400=0;·simp only[go_sem,simprocAttr,D4,t1,c,e,a,d,f];try rfl
   have c3:¬((y%400:Nat):Int)=0:=by omega
   simp only[go_sem,simprocAttr,D4,t1,c,e,a,d,f,c3];try rfl
  have g:¬((y%100:Nat):Int)=0:=by omega
  simp only[go_sem,simprocAttr,D4,t1,c,a,d,g];try rfl
 have h:¬((y%4:Nat):Int)=0:=by omega
 simp only[go_sem,simprocAttr,D4,t1,a,h];try rfl
def oN(y m:Nat):Nat:=if m=2&&B0 y then 29 else[31,28,31,30,31,30,31,31,30,31,30,31][m-1]!
theorem UC{y m:Nat}:oN y m<=31:=by
 unfold oN;split;·omega
 by_cases h:m-1<12
 ·have:m-1=0\/m-1=1\/m-1=2\/m-1=3\/m-1=4\/m-1=5\/m-1=6\/m-1=7\/m-1=8\/m-1=9\/m-1=10\/m-1=11:=by omega
  rcases this with h|h|h|h|h|h|h|h|h|h|h|h<;>(simp_all)
 simp_all
def alU{m:Nat}(h:m<12):n9 (VS.glob 1) (.i .i64 (m:Int)) 12 1=some (.ip [.i .i64 (([31,28,31,30,31,30,31,31,30,31,30,31][m]!:Nat):Int)]):=by
 have:m=0\/m=1\/m=2\/m=3\/m=4\/m=5\/m=6\/m=7\/m=8\/m=9\/m=10\/m=11:=by omega
 rcases this with rfl|rfl|rfl|rfl|rfl|rfl|rfl|rfl|rfl|rfl|rfl|rfl<;>rfl
def UD{y m:Nat}(l:1<=m/\m<=12):ai VS 176 [.i .i64 (y:Int),.i .i64 (m:Int)] (.i .i64 (oN y m:Int)):=by
 have a:=λ{H K}=>(alT (y:=y)).c (H:=H) (K:=K) TO rfl rfl (.inl rfl);have e:¬(m:Int)<1:=by omega
 have f:¬12<(m:Int):=by omega
 have h:IntKind.i64.wrap (m-1)=((m-1:Nat)):=by rw[wr (by omega) (by omega)];omega
 have g:=alU (m:=m-1) (by omega);refine .body GY rfl ?_;unfold oN;by_cases b:m=2
 ·subst b;cases d:B0 y
  ·have j:IntKind.i64.wrap 1=1:=by decide
   have k:n9 (VS.glob 1) (.i .i64 1) 12 1=some (.ip [.i .i64 28]):=rfl;simp only[go_sem,simprocAttr,MI,a,d,j,k];rfl
  simp[go_sem,simprocAttr,MI,a,d];try rfl
 have c3:¬(m:Int)=2:=by omega
 simp only[go_sem,MI,e,f,c3,h,g];simp[b]
def kL(y:Nat):Int:=(y/4:Nat)-(y/100:Nat)+(y/400:Nat)
def UE{y:Nat}(l:y<100000):ai VS 175 [.i .i64 (y:Int)] (.i .i64 (kL y)):=by have t1:((y:Int).tdiv 4)=((y/4:Nat)):=Hi;have c:((y:Int).tdiv 100)=((y/100:Nat)):=Hi;have d:((y:Int).tdiv 400)=((y/400:Nat)):=Hi;have b:∀{a:Nat},a<100000->IntKind.i64.wrap _=a:=λh=>wr (by omega) (by omega);have e:IntKind.i64.wrap _=((y/4:Nat))-((y/100:Nat)):=wr (by omega) (by omega);have f:IntKind.i64.wrap _=((y/4:Nat))-((y/100:Nat))+((y/400:Nat)):=wr (by omega) (by omega);have g:=b (a:=y/4) (by omega);have j:=b (a:=y/100) (by omega);have k:=b (a:=y/400) (by omega);refine .body GX rfl ?_;simp only[go_sem,simprocAttr,avI,t1,c,d,e,f,g,j,k];rfl
def oO(y k:Nat):Nat:=match k with|0=>0|k+1=>oO y k+oN y (k+1)
theorem Hj{y:Nat}:∀{k:Nat},oO y k<=31*k|0=>G1 _|k+1=>by have:=Hj (y:=y) (k:=k);grind[UC,oO]
def bT(m:Nat):Int:=365*((m/12:Nat):Int)+kL (1899+m/12)-kL 1899+oO (1900+m/12) (m%12)
def B1{m:Nat}(a:m<10000):-100000<bT m/\bT m<1000000:=by grind[Hj,bT,kL]
def sJ{m:Nat}(N:m<10000):ai VS 126 [.i .i64 (m:Int)] (.i .i64 (bT m)):=by
 obtain⟨q,g⟩:∃q,q=m/12:=⟨_,rfl⟩;obtain⟨Y,j⟩:∃Y,Y=1900+q:=⟨_,rfl⟩;obtain⟨X,o⟩:∃X,X=1899+q:=⟨_,rfl⟩;obtain⟨r,hr⟩:∃r,r=m%12:=⟨_,rfl⟩;have t1:((m:Int).tdiv 12)=q:=by grind
 have a:((m:Int).tmod 12)=r:=by grind
 have p:=λ{H K}=>(UE (y:=X) (by omega)).c (H:=H) (K:=K) GX rfl rfl (.inl rfl);have t:∀{H K},ac VS 175 [.i .i64 1899] H K↔K _:=λ{H K}=>(UE (y:=1899) (by omega)).c GX rfl rfl (.inl rfl);have v:IntKind.i64.wrap _=q:=wr (by omega) (by omega);have w:IntKind.i64.wrap (1900+q)=Y:=by grind[wr]
 have x:IntKind.i64.wrap (Y-1)=X:=by grind[wr]
 have A:IntKind.i64.wrap (Y-1900)=q:=by grind
 have B:IntKind.i64.wrap _=365*q:=wr (by omega) (by omega);have C:IntKind.i64.wrap (365*q+kL X)=365*q+kL X:=by grind[kL,wr]
 obtain⟨b,E⟩:∃b,b=365*q+kL X-kL 1899:=⟨_,rfl⟩;have F:IntKind.i64.wrap (365*q+kL X-kL 1899)=b:=by grind[kL,wr]
 have P:-100000<b/\b<900000:=by grind[kL]
 have Q:bT m=b+oO Y r:=by rw[E,j,hr,o,g];rfl
 refine .body qD rfl ?_;simp[go_sem,simprocAttr,avr,t1,v,w,x,A,B,C,F,p,t];refine ak.up (λi s=>∃d e n z,n=b+oO Y i/\z=(i:Int)+1/\s=⟨[.i .i64 _,d,e,.i .i64 Y,.i .i64 n,.i .i64 z],[]⟩) r ⟨.i .i64 0,.u,b,1,by simp[oO],by simp,rfl⟩ ?_;rintro i s hi⟨d,e,n,z,S,U,rfl⟩;have V:=Hj (y:=Y) (k:=i);have G:=UC (y:=Y) (m:=i+1);have I:oO Y (i+1)=oO Y i+oN Y _:=rfl;have f:∀{H K},i+1<=12->(ac VS 176 [.i .i64 Y,.i .i64 z] H K↔K (.ret (.i .i64 (oN Y (i+1))) H)):=λ{H K}h=>by have:=(UD (y:=Y) ⟨by omega,h⟩).c (H:=H) (K:=K) GY rfl rfl (.inl rfl);grind
 obtain⟨l,J⟩:∃l,l=oN Y (i+1):=⟨_,rfl⟩;rw[<-J]at f G I;have g1:IntKind.i64.wrap _=n+l:=wr (by omega) (by omega);have L:IntKind.i64.wrap _=z+1:=wr (by omega) (by omega);by_cases W:i<r
 ·have c:z<=(r:Int):=by omega
  have M:=λ{H K}=>f (H:=H) (K:=K) (by omega);simp only[go_sem,simprocAttr,Z9,a,c,M,g1,L];omega
 have c:¬z<=(r:Int):=by omega
 simp[go_sem,simprocAttr,Z9,a,c];grind
def qG{n g:Nat}{cp:List D}{p:Nat->Bool}{H:ab}(M:n<4611686018427387904)(w:g<4294967295)(z:∀i,i<n->∀{K:CR->Prop},ac VS g (.i .i64 (i:Int)::cp) H K↔K (.ret (.b (p i)) H)):ac VS 111 [.i .i64 (n:Int),.fn (.func g) [] cp] H (λr=>∃k:Nat,r=.ret (.i .i64 (k:Int)) H/\k<=n/\(k<n->p k=true)/\(0<k->p (k-1)=false)):=by
 refine .body Te rfl rfl ?_;simp[go_sem,Z1];refine ak.loop (λm s=>∃i j:Nat,∃d e f x y,m=j-i/\x=(i:Int)/\y=(j:Int)/\i<=j/\j<=n/\(j<n->p j=true)/\(0<i->p (i-1)=false)/\s=⟨[.i .i64 _,.fn _ [] cp,.i .i64 0,d,e,.i .i64 x,.i .i64 y,f],H⟩) n ⟨0,n,.u,.u,.u,0,n,rfl,rfl,rfl,AAg _,G1 _,λh=>absurd h (AA8 _),λh=>absurd h (AA8 _),rfl⟩ ?_;rintro m s⟨i,j,d,e,f,x,y,N,A,B,P,C,E,hi,rfl⟩;by_cases Q:i<j
 ·have c:x<y:=by omega
  obtain⟨h,l⟩:∃h,h=(i+j)/2:=⟨_,rfl⟩;have o:IntKind.i64.wrap (x+y)=((i+j:Nat)):=by grind[wr]
  have q:IntKind.wrap .u64 _=((i+j:Nat)):=bW (by omega);obtain⟨S,F⟩:∃S,S=i+j:=⟨_,rfl⟩;rw[<-F]at o q l;have t:bin .shr _ (.i .u64 1)=some (.i .u64 ((S/2:Nat))):=ff (by decide);rw[<-l]at t;have G:IntKind.i64.wrap _=h:=wr (by omega) (by omega);have I:IntKind.i64.wrap _=h+1:=wr (by omega) (by omega);have J:=λ{K:CR->Prop}=>z h (by omega) (K:=K);have L:=λ{args H K}=>iu (V:=VS) (H:=H) (args:=args) (K:=K) (a:=[]) (b:=cp) w;simp[go_sem,DK,c,o,q,G,t,L,J];cases v:p h with|true=>simp[go_sem];exact⟨h-i,by omega,i,h,rfl,by omega,by omega,λ_=>v,hi,A,rfl⟩|false=>simp[go_sem,I];exact⟨j-(h+1),by omega,h+1,j,rfl,by omega,C,E,λ_=>v,by omega,B⟩
 have c:¬x<y:=by omega
 have:i=j:=by omega
 simp[go_sem,DK,c];grind
def qH{d:Int}:ai VS 124 [.i .i64 d] (.b (decide (0<=d/\d<65536))):=by
 refine .body oK rfl ?_;by_cases a:0<=d
 ·by_cases c:d<65536;·simp[go_sem,LY,a];try simp[a,c]
  simp[go_sem,LY,a];try simp[a,c]
 simp only[go_sem,LY,a];grind
def B2(d:Int):∃k:Nat,ai VS 125 [.i .i64 d] (.i .i64 (k:Int))/\k<=2154:=by
 have h:aH VS 125 [.i .i64 d] (λr=>∃e,r=.ret e/\∃k:Nat,e=.i .i64 (k:Int)/\k<=2154):=by
  refine .body (vf:=DM) yu rfl ?_;simp(disch:=omega)only[go_sem,simprocAttr,avq];have hs:=qG (n:=2154) (g:=174) (cp:=[.hp 0 0]) (p:=λi=>decide (d<bT (i+1))) (H:=[.hb 3 [.i .i64 d]]) (by omega) (by omega) (λi hi K=>?_);·refine hs.mono λr hr=>?_;obtain⟨k,rfl,a,_⟩:=hr;simp(disch:=omega)only[go_sem,simprocAttr];exact⟨k,rfl,a⟩
  have b:∀{H K},ac VS 126 [.i .i64 ((i:Int)+1)] H K↔K (.ret (.i .i64 (bT (i+1))) H):=λ{H K}=>by have:=(sJ (m:=i+1) (by omega)).c (H:=H) (K:=K) qD rfl rfl (.inl rfl);rwa[show((i+1:Nat):Int)=(i:Int)+1 by omega]at this
  have f:IntKind.i64.wrap ((i:Int)+1)=(i:Int)+1:=wr (by omega) (by omega);refine dO (cz.iff_q.2 (.body (vf:=DY) alo rfl rfl ?_));simp(disch:=omega)only[go_sem,simprocAttr,avH,f,b]
 obtain⟨e,j,k,rfl,l⟩:=h.ex;grind
structure vN(lo hi:Int)(r:D):Prop where h:∃n e:Int,r=.tu [.i .i64 n,.i .i64 e]/\lo<=n/\n<=hi
def Hl(d:Int):∃r,ai VS 91 [.i .i64 d] r/\vN 0 2154 r:=by
 have a:=λ{H K}=>(qH (d:=d)).c (H:=H) (K:=K) oK rfl rfl (.inl rfl);obtain⟨k,e,g⟩:=B2 d;have f:=λ{H K}=>e.c (H:=H) (K:=K) yu rfl rfl (.inl rfl);refine aH.ex (.body S5 rfl ?_);by_cases b:0<=d/\d<65536;·simp[go_sem,ZT,a,f,Rp b];exact⟨k,0,rfl,by omega,by omega⟩
 simp[go_sem,ZT,a,N2 b];exact⟨0,2,rfl,by omega,by omega⟩
def Hm(m:Int):∃r,ai VS 92 [.i .i64 m] r/\vN (-1000000) 1000000 r:=by
 refine aH.ex (.body BM rfl ?_);by_cases a:m<0;·simp[go_sem,zy,a];exact⟨0,2,rfl,by omega,by omega⟩
 by_cases b:2154<=m;·simp[go_sem,zy,a,b];exact⟨0,2,rfl,by omega,by omega⟩
 obtain⟨k,d⟩:=AAG (show 0<=m by omega);subst d;have hr:=B1 (m:=k) (by omega);have e:=λ{H K}=>(sJ (m:=k) (by omega)).c (H:=H) (K:=K) qD rfl rfl (.inl rfl);simp[go_sem,zy,a,b,e];exact⟨_,0,rfl,by omega,by omega⟩
def B3{d m:Int}:∃r,ai VS 187 [.i .i64 d,.i .i64 m] r/\vN 0 65535 r:=by
 have a:=λ{H K}=>(qH (d:=d)).c (H:=H) (K:=K) oK rfl rfl (.inl rfl);obtain⟨k,p,w⟩:=B2 d;have e:=λ{H K}=>p.c (H:=H) (K:=K) yu rfl rfl (.inl rfl);refine aH.ex (.body G5 rfl ?_);by_cases b:0<=d/\d<65536
 ·have f:IntKind.i64.wrap (0-k)=-k:=by grind[wr]
  have h:IntKind.i64.wrap _=2154-k:=wr (by omega) (by omega);by_cases g:m< -k;·simp only[go_sem,D1,a,e,Rp b,f,g];exact⟨0,30,rfl,by omega,by omega⟩
  by_cases l:2154-k<=m;·simp only[go_sem,D1,a,e,Rp b,f,h,g,l];exact⟨0,30,rfl,by omega,by omega⟩
  obtain⟨j,y⟩:=AAG (show 0<=(k:Int)+m by omega);have q:=λ{H K}=>(sJ (m:=k) (by omega)).c (H:=H) (K:=K) qD rfl rfl (.inl rfl);have s:=λ{H K}=>(sJ (m:=j) (by omega)).c (H:=H) (K:=K) qD rfl rfl (.inl rfl);have t:∀{H K},ac VS 126 [.i .i64 ((j:Int)+1)] H K↔K (.ret (.i .i64 (bT (j+1))) H):=λ{H K}=>by have:=(sJ (m:=j+1) (by omega)).c (H:=H) (K:=K) qD rfl rfl (.inl rfl);grind
  have u:IntKind.i64.wrap ((k:Int)+m)=(j:Int):=by grind[wr]
  have v:IntKind.i64.wrap _=j+1:=wr (by omega) (by omega);simp only[go_sem,D1,a,e,Rp b,f,h,u,v,g,l,q,s,t];generalize IntKind.i64.wrap _=x;have n:=λ{H K}=>(qH (d:=x)).c (H:=H) (K:=K) oK rfl rfl (.inl rfl);by_cases o:0<=x/\x<65536;·simp[go_sem,n,Rp o];exact⟨x,0,rfl,by omega,by omega⟩
  simp[go_sem,n,N2 o];exact⟨0,30,rfl,by omega,by omega⟩
 simp[go_sem,D1,a,N2 b];exact⟨0,2,rfl,by omega,by omega⟩
theorem UF{a b:Int}(y:a<=b):∃r,ai VS 133 [.i .i64 a,.i .i64 b] r/\vN (-3000) 3000 r:=by
 have f:=λ{H K}=>(qH (d:=a)).c (H:=H) (K:=K) oK rfl rfl (.inl rfl);have h:=λ{H K}=>(qH (d:=b)).c (H:=H) (K:=K) oK rfl rfl (.inl rfl);obtain⟨k,w,z⟩:=B2 a;obtain⟨l,x,A⟩:=B2 b;have o:=λ{H K}=>w.c (H:=H) (K:=K) yu rfl rfl (.inl rfl);have p:=λ{H K}=>x.c (H:=H) (K:=K) yu rfl rfl (.inl rfl);refine aH.ex (.body BQ rfl ?_);by_cases g:0<=a/\a<65536
 ·by_cases j:0<=b/\b<65536
  ·have q:¬b<a:=by omega
   have s:IntKind.i64.wrap _=l-k:=wr (by omega) (by omega);have u:IntKind.i64.wrap _=l-k-1:=wr (by omega) (by omega);obtain⟨r,r1,n,e,rfl,r2,r3⟩:=B3 (d:=a) (m:=l-k);have t:=λ{H K}=>r1.c (H:=H) (K:=K) G5 rfl rfl (.inl rfl);by_cases v:e=0
   ·subst v;by_cases c3:b<n;·simp[go_sem,q8,f,h,Rp g,Rp j,q,o,p,s,u,t,c3];exact⟨_,0,rfl,by omega,by omega⟩
    simp[go_sem,q8,f,h,Rp g,Rp j,q,o,p,s,t,c3];exact⟨_,0,rfl,by omega,by omega⟩
   simp[go_sem,q8,f,h,Rp g,Rp j,q,o,p,s,u,t,v];exact⟨_,0,rfl,by omega,by omega⟩
  simp[go_sem,q8,f,h,Rp g,N2 j];exact⟨0,2,rfl,by omega,by omega⟩
 simp[go_sem,q8,f,N2 g];exact⟨0,2,rfl,by omega,by omega⟩
def Hn(a b:Int):∃r,ai VS 133 [.i .i64 a,.i .i64 b] r/\vN (-3000) 3000 r:=by
 by_cases o:a<=b;·grind[UF]
 have f:=λ{H K}=>(qH (d:=a)).c (H:=H) (K:=K) oK rfl rfl (.inl rfl);have h:=λ{H K}=>(qH (d:=b)).c (H:=H) (K:=K) oK rfl rfl (.inl rfl);obtain⟨r,r1,n,e,rfl,r2,r3⟩:=UF (a:=b) (b:=a) (by omega);have k:=λ{H K}=>r1.c (H:=H) (K:=K) BQ rfl rfl (.inl rfl);have l:IntKind.i64.wrap (0-n)=-n:=by grind[wr]
 have m:b<a:=by omega
 refine aH.ex (.body BQ rfl ?_);by_cases g:0<=a/\a<65536
 ·by_cases j:0<=b/\b<65536;·simp only[go_sem,q8,f,h,Rp g,Rp j,m,k,l];exact⟨_,0,rfl,by omega,by omega⟩
  simp[go_sem,q8,f,h,Rp g,N2 j];exact⟨0,2,rfl,by omega,by omega⟩
 simp[go_sem,q8,f,N2 g];exact⟨0,2,rfl,by omega,by omega⟩
end
section
open Go.Dm
set_option maxRecDepth 10000
def B4(n:Int)(h:n.natAbs<18446744073709551616)(f:-9223372036854775808<=n/\n<9223372036854775808):∃a b c d,ai VS 90 [.i .i64 n] (.ag [a,b,c,d])/\Fr n 1 (.ag [a,b,c,d])/\eL n 1:=by obtain⟨e,j,g⟩:=Pv f;obtain⟨x,y,rfl,k,l⟩:=g.h;grind[Ah]
end
section
open Go.Dm
set_option maxRecDepth 10000
def amK{rows:List (List D)}{r1 r2:List D}{w bytes:Nat}(b:r1.all D.flat=true)(c:r2.all D.flat=true)(hr:(rows.length+2)*bytes<=140737488355328)(d:rows.length+2<=140737488355328):bY (bH [] w rows) (bD [] .nil rows) (.sv w [r1,r2]) w bytes true=some (bD [] .nil (rows++[r1,r2]),bH [] w (rows++[r1,r2])):=by
 have e:∀X,iL X [r1,r2]=some _:=λX=>oE _ (by grind);have f:fu (rows.length+2) bytes=true:=by grind[fu]
 cases rows with|nil=>grind[fu,bH,bD,bY,fM,gM,kI]|cons r a=>
 obtain⟨L,hL⟩:∃L,L=r::a:=⟨_,rfl⟩;have g:bH [] w (r::a)=[.ar w L none true false]:=by rw[hL];rfl
 have h:bD [] .nil (r::a)=.mu 0 L.length 0 L.length:=by rw[hL];rfl
 have i:bH [] w (r::a++[r1,r2])=[.ar w (L++[r1,r2]) none true false]:=by rw[hL];rfl
 have j:bD [] .nil (r::a++[r1,r2])=.mu 0 (L.length+2) 0 (L.length+2):=by grind[bD]
 simp_all[aO,an.ar,bY,fM,gM,mV,jE]
def jU(T:List FV):List Int:=T.flatMap λf=>[f.frm,f.to]
theorem Vc{T:List FV}:(T.map FV.n).flatMap (λf=>[f.frm,f.to])=jU T:=by rw[List.flatMap_map];rfl
def amL{T:List FV}{i:Nat}(h:i<T.length):jU (T.take (i+1))=jU (T.take i)++[T[i]!.frm,T[i]!.to]:=by unfold jU;rw[sd,Hk h,Hy T i h,List.flatMap_append];simp
theorem HJ(T:List FV):(jU T).length=2*T.length:=by unfold jU;induction T<;>grind
def Ve(l:List Int):pf (l.map aV)=some l:=by induction l<;>grind[pf,aV]
def amM{l:List Int}(a:l≠[])(b:l.length<1099511627776){K:CR->Prop}:ac VS 65 [.mu 0 l.length 0 l.length] [.ar 1 (l.map aV) none true false] K↔K (.ret (.tu []) [.ar 1 ((cV l).map aV) none true false]):=by refine ac.beside (by kernel_rfl) (by decide) ?_;show ui 0 _ 0 _ _=_;simp_all[aO,an.ar,aV,ui,Ve]
def amN{l:List Int}(a:l≠[])(b:l.length<1099511627776){K:CR->Prop}:ac VS 275 [.mu 0 l.length 0 l.length] [.ar 1 (l.map aV) none true false] K↔K (.ret (.mu 0 l.length 0 (cC l).length) [.ar 1 ((cC l++List.replicate (l.length-(cC l).length) 0).map aV) none true false]):=by refine ac.beside (by kernel_rfl) (by decide) ?_;show zP 0 _ 0 _ _=_;simp_all[aO,an.ar,aV,zP,Ve]
def amO{K:CR->Prop}:ac VS 65 [.nil] [] K↔K (.ret (.tu []) []):=ac.beside (by kernel_rfl) (by decide) rfl
def amP{K:CR->Prop}:ac VS 275 [.nil] [] K↔K (.ret .nil []):=ac.beside (by kernel_rfl) (by decide) rfl
def amQ{T:List FV}{x:D}(j:Sl 11 (T.map FV.c) x)(I:T.length<1000000):∃y,ai VS 246 [x] y/\Sl 1 ((gw (T.map FV.n)).map aV) y:=by
 have q:=λ{H:ab}=>j.n (H:=H);have r:=λ{V dr os keep t u Q v H z k A}=>j.q (V:=V) (dr:=dr) (os:=os) (keep:=keep) (loc:=t) (sl:=u) (Q:=Q) (sl':=v) (H:=H) (H':=z) (k:=k) (x:=A);refine aH.ex (.body Ub rfl ?_);simp[go_sem,awi,q];refine ak.up (λi s=>∃(d g:D),s=⟨[x,.nil,d,bD [] .nil ((jU (T.take i)).map aV),.i .i64 i,.i .i64 _,x,g],bH [] 1 ((jU (T.take i)).map aV)⟩) T.length ⟨_,_,rfl⟩ ?_;rintro i s hi⟨d,g,rfl⟩;by_cases l:i<T.length
 ·have a:(i:Int)<T.length:=by omega
  have c3:(0:Int)<=i:=by omega
  have B:IntKind.i64.wrap (i+1)=((i+1:Nat)):=by grind[wr]
  have m:=amL l;obtain⟨f,n⟩:∃f,f=T[i]!:=⟨_,rfl⟩;rw[<-n]at m;have o:((jU (T.take i)).map aV).length=2*i:=by grind[HJ]
  have p:=amK (rows:=(jU (T.take i)).map aV) (r1:=aV f.frm) (r2:=aV f.to) (w:=1) (bytes:=8) rfl rfl (by omega) (by omega);simp[aV]at p;simp[go_sem,simprocAttr,N4,r,a,<-n,FV.c,p,B];rw[m,eH];exact⟨l,rfl,rfl⟩
 have a:¬(i:Int)<T.length:=by omega
 have C:gw (T.map FV.n)=cC (cV (jU T)):=by grind[gw,Vc]
 rw[show jU _=jU T by grind,C];have o:=HJ T;generalize jU T=L at o⊢;by_cases b:L=[];·subst b;have h:=λ{K}=>amO (K:=K);have c:=λ{K}=>amP (K:=K);show ak VS _ ⟨[x,.nil,d,.nil,.i .i64 i,.i .i64 _,x,g],[]⟩ _;simp[go_sem,N4,a,h,c];exact .nil rfl
 obtain⟨g1,E⟩:=mo (H0:=[]) (w:=1) (enc:=aV) b;rw[g1,E];have h:=λ{K}=>amM b (by omega) (K:=K);have F:cV L≠[]:=λe=>b (by have:=oW L;rw[e]at this;exact kh.1 this.symm);have c:=λ{K}=>amN F (by rw[oW];omega) (K:=K);rw[oW]at c;simp only[go_sem,N4,a,h,c];have J:=by have:=zh (cV L);rw[oW]at this;exact this
 have G:((cC (cV L)++List.replicate (L.length-(cC (cV L)).length) 0).map aV).take (cC (cV L)).length=(cC (cV L)).map aV:=by rw[eH,List.take_append_of_le_length (by simp),E2 (by simp)]
 rw[E4 (by omega)];refine⟨.im 1 _,?_,.im⟩;simp only[go_sem];rw[E4 (by simp),G];rfl
def Vf{a:List Int}{x:D}{v:Int}(c:Sl 1 (a.map aV) x)(w:a.length<1000000000):∃k:Nat,ai VS 276 [x,.i .i64 v] (.i .i64 (k:Int))/\k<=a.length/\(k<a.length->v<=a[k]!)/\(0<k->a[k-1]!<v):=by
 have d:=λ{H:ab}=>c.n (H:=H);have h:aH VS 276 [x,.i .i64 v] (λr=>∃e,r=.ret e/\∃k:Nat,e=.i .i64 k/\k<=a.length/\(k<a.length->v<=a[k]!)/\(0<k->a[k-1]!<v)):=by
  refine .body Ha rfl ?_;simp only[go_sem,awA,c.c1,d];have hs:=qG (n:=a.length) (g:=292) (cp:=[.hp 0 0,.hp 1 0]) (p:=λi=>decide (v<=a[i]!)) (H:=[.hb 76 [x],.hb 3 [.i .i64 v]]) (by omega) (by omega) (λi hi K=>?_);·refine hs.mono λr hr=>?_;obtain⟨k,rfl,y,z,f⟩:=hr;simp only[go_sem];grind
  have j:(i:Int)<a.length:=by omega
  have c3:(0:Int)<=i:=by omega
  have l:=λ{V dr os keep m o Q q H s k t}=>c.q (V:=V) (dr:=dr) (os:=os) (keep:=keep) (loc:=m) (sl:=o) (Q:=Q) (sl':=q) (H:=H) (H':=s) (k:=k) (x:=t);have u:=λb=>c.under b;refine dO (cz.iff_q.2 (.body alK rfl rfl ?_));simp[go_sem,simprocAttr,awO,l,u,j,aV]
 obtain⟨e,f,k,rfl,A⟩:=h.ex;grind
end
section
open Go.Dm
set_option maxRecDepth 10000
def amR{a:AV}(c:a.ok):∃b:AV,b.v=a.v/\b.ok/\ai VS 248 [.ag a.c] (.ag b.c):=by obtain⟨x,y,e,g,h⟩:=c.d.h;obtain⟨i,j⟩:=B7 c.o;obtain⟨k,l,d⟩:=rh g.sl i;obtain⟨n,o,f⟩:=rh h.sl j;have p:=λ{H K}=>l.c (H:=H) (K:=K) oM rfl (by simp[g.sl.pl]) (.inl rfl);have q:=λ{H K}=>o.c (H:=H) (K:=K) oM rfl (by simp[h.sl.pl]) (.inl rfl);have r:=λm H=>ah d.flat m H;have s:=λm H=>ah f.flat m H;have t:VD a.v _:=⟨k,n,rfl,⟨d⟩,⟨f⟩⟩;obtain⟨b,u,v,w⟩:=t.av c.o;refine⟨b,u,w,?_⟩;rw[e,<-v];refine .body Ud rfl ?_;simp[go_sem,simprocAttr,awk,p,q,r,s,d.c1,f.c1]
def amS{a:AV}(c:a.ok):∃b:AV,b.v=a.v/\b.ok/\∀{H K},ac VS 248 [.ag [.i .u8 a.v.k,a.s,a.x,a.t,a.y,.i .i64 a.v.i]] H K↔K (.ret (.ag [.i .u8 b.v.k,b.s,b.x,b.t,b.y,.i .i64 b.v.i]) H):=by obtain⟨b,d,e,f⟩:=amR c;exact⟨b,d,e,λ{H K}=>f.c Ud rfl (by simp[AAb,ABG,AAt];exact c.pl) (.inl rfl)⟩
structure Vg(days:List Int)(f:FV)(a b:Nat):Prop where
 a1:a<=days.length
 b1:b<=days.length
 h:days.Pairwise (·<·)->∀q,q<days.length->((a<=q/\q<b)↔(f.frm<=days[q]!/\days[q]!<f.to))
def Ca{a:List Int}(h:a.Pairwise (·<·)){i j:Nat}(c:i<j)(b:j<a.length):a[i]!<a[j]!:=by rw[Hy a i (by omega),Hy a j b];exact AAB.1 h i j (by omega) b c
def amT{d:List Int}{x:D}(e:Sl 1 (d.map aV) x)(g:d.length<1000000000)(f:FV):∃a b:Nat,ai VS 247 [x,.ag f.c] (.tu [.i .i64 (a:Int),.i .i64 (b:Int)])/\Vg d f a b:=by
 obtain⟨a,j,l,s,t⟩:=Vf (v:=f.frm) e g;obtain⟨b,m,n,u,w⟩:=Vf (v:=f.to) e g;have o:=λ{H K}=>j.c (H:=H) (K:=K) Ha rfl (by simp[e.pl,aZ]) (.inl rfl);have p:=λ{H K}=>m.c (H:=H) (K:=K) Ha rfl (by simp[e.pl,aZ]) (.inl rfl);refine⟨a,b,.body Uc rfl ?_,⟨l,n,λhs q r=>?_⟩⟩;·simp only[FV.c];simp[go_sem,simprocAttr,awj,o,p]
 have y:∀{k:Nat}{v:Int},k<=d.length->(k<d.length->v<=d[k]!)->(0<k->d[k-1]!<v)->(k<=q↔v<=d[q]!):=λ{k v}z A B=>by
  constructor
  ·intro h;by_cases c:k=q;·grind
   have:=Ca hs (show k<q by omega) r;omega
  intro h;by_cases c:k<=q;·exact c
  by_cases C:q=k-1;·grind
  have:=Ca hs (show q<k-1 by omega) (by omega);omega
 grind
noncomputable def jk(T:List FV)(d:Int):Nat->Option Nat|0=>none|i+1=>if T[i]!.frm<=d/\d<T[i]!.to then some i else jk T d i
def Vh{T:List FV}{d:Int}:∀{i:Nat},i<=T.length->(((T.take i).map FV.n).filter λf=>decide (f.frm<=d/\d<f.to)).getLast?=(jk T d i).map (λj=>T[j]!.n)/\∀j,jk T d i=some j->j<i
 |0,_=>⟨rfl,λj h=>by cases h⟩|i+1,h=>by
  obtain⟨b,e⟩:=Vh (T:=T) (d:=d) (i:=i) (by omega);have g:T.take (i+1)=T.take i++[T[i]!]:=by rw[sd,Hk (by omega),Hy T i (by omega)];rfl
  rw[g,eH,vx];unfold jk;by_cases c:T[i]!.frm<=d/\d<T[i]!.to
  ·rw[E4 c];have:(([T[i]!].map FV.n).filter λf=>decide (f.frm<=d/\d<f.to))=[T[i]!.n]:=by simp only[kb,AAK];rw[AAp (by exact Rp c)];rfl
   rw[this];exact⟨by simp,λj a=>by cases a;omega⟩
  rw[E1 c];have:(([T[i]!].map FV.n).filter λf=>decide (f.frm<=d/\d<f.to))=[]:=by simp only[kb,AAK];rw[AAq (by rw[N2 (show¬(T[i]!.n.frm<=d/\d<T[i]!.n.to)from c)];decide)];rfl
  rw[this,oy];exact⟨b,λj a=>by have:=e j a;omega⟩
def Vi{T:List FV}{d:Int}:fQ (T.map FV.n) d=(jk T d T.length).map (λj=>T[j]!.n)/\∀j,jk T d T.length=some j->j<T.length:=by have:=Vh (d:=d) (G1 T.length);rw[o5]at this;exact this
def Vj{T:List FV}{d:Int}:∀{i j:Nat},jk T d i=some j->T[j]!.frm<=d/\d<T[j]!.to
 |0,_,h=>by cases h|i+1,j,h=>by
  unfold jk at h;split at h;·grind
  exact Vj h
def qI(A n:Nat):Option Nat->List D|none=>[.np]|some j=>[.ap A n j 0]
def amU{T:List FV}{j:Nat}(h:j<T.length):T[j]!.frm∈gw (T.map FV.n)/\T[j]!.to∈gw (T.map FV.n):=by
 have a:T[j]!.n∈T.map FV.n:=by grind
 exact⟨IP.2 (AAM.2 ⟨_,a,N1⟩),IP.2 (AAM.2 ⟨_,a,M0 _ N1⟩)⟩
def amV(T:List FV):(gw (T.map FV.n)).length<=2*T.length:=by grind[gw,zh,cV,FV.n,oW,Vc,HJ]
end
section
open Go.Dm
set_option maxRecDepth 10000
noncomputable def iy(A n:Nat)(T:List FV)(b:List Int)(i:Nat)(a p:Nat):List (List D):=(List.range b.length).map λq=>if a<=q/\q<p then qI A n (some i)else qI A n (jk T b[q]! i)
noncomputable def eV(A n:Nat)(T:List FV)(a:List Int)(i:Nat):List (List D):=(List.range a.length).map λq=>qI A n (jk T a[q]! i)
variable{d:Nat}{e:List Int}
theorem Cb{n:Nat}{T:List FV}{i a:Nat}:iy d n T e i a a=eV d n T e i:=by grind[iy,eV]
def amW{n:Nat}{T:List FV}{i a p:Nat}(f:a<=p)(g:p<e.length):(iy d n T e i a p).set p [.ap d n i 0]=iy d n T e i a (p+1):=by
 refine sa λq=>?_;rw[List.getElem?_set];unfold iy;rw[fx,fx];by_cases c:q<e.length
 ·rw[zb c];simp only[T3,ABv,ga];by_cases b:p=q;·subst b;rw[E4 rfl,E4 c,E4 (by omega)];rfl
  grind
 grind
def amX{A n:Nat}{T:List FV}{i a b:Nat}(hs:e.Pairwise (·<·))(h:Vg e T[i]! a b):iy A n T e i a b=eV A n T e (i+1)/\(b<=a->eV A n T e i=eV A n T e (i+1)):=by
 have d:iy A n T e i a b=eV A n T e (i+1):=by refine AAm λq c=>?_;have:=h.h hs q (qb.1 c);grind[qI,jk]
 grind[iy,eV]
def amY{A n:Nat}{T:List FV}{days:List Int}:eV A n T days 0=List.replicate days.length [.np]:=by
 unfold eV;refine sa λq=>?_;rw[fx,AAo];by_cases c:q<days.length;·rw[zb c,E4 c];rfl
 grind
def amZ{A n:Nat}{T:List FV}{days:List Int}{i a p:Nat}:(iy A n T days i a p).length=days.length:=by grind[iy]
def am0{A n:Nat}{T:List FV}{days:List Int}{i:Nat}:(eV A n T days i).length=days.length:=by grind[eV]
def am1{A n:Nat}{T:List FV}{i:Nat}(a:d<e.length):(eV A n T e i)[d]?=some (qI A n (jk T e[d]! i)):=by grind[eV]
variable{x y z a b c:D}
def am2{H:ab}{C m p:Nat}{rows:List (List D)}{cap:Option Nat}{d:D}(h:H[C]?=some (.ar 1 rows cap false false))(a:rows.length=m)(hr:rows[p]?=some [x]):Bz H C m p 0 [d] (some (.ar 1 rows cap false false))=some (H.set C (.ar 1 (rows.set p [d]) cap false false)):=by
 have b:aO H C m=some (1,rows,cap,false,false):=by simp[Dm.aO,h,a]
 have:gl H (.ap C m p 0) [d]=some (H.set C (.ar 1 (rows.set p [d]) cap false false)):=by simp[gl,b,lX,hr];rfl
 grind[akk]
def am3(A n:Nat)(o:Option Nat):∃e,qI A n o=[e]:=by cases o<;>exact⟨_,rfl⟩
def am4{A n:Nat}{T:List FV}{days:List Int}{i a p q:Nat}(b:q<days.length):∃e,(iy A n T days i a p)[q]?=some [e]:=by
 unfold iy;rw[fx,zb b];simp only[ga];split;·exact⟨_,rfl⟩
 obtain⟨e,c⟩:=am3 A n (jk T days[q]! i);exact⟨e,by rw[c]⟩
variable{f:Dm.Ex->St->Prop}
def am5{T:List FV}{i A C n a b:Nat}(hb:b<=e.length)(hl:e.length<1000000){G:ab}(K:G[C]?=some (.ar 1 (eV A n T e i) (some e.length) false false))(hi:i<n)(Q:∃rows,G[A]?=some (.ar 11 rows none true true)/\rows.length=n)(af:A≠C){c3 l o r t u v w B E F H I J:D}{d5:D}(L:∀j k,(b<=a->iy A n T e i a k=eV A n T e i)->(a<=b->k=b)->f (.ex 2) ⟨[F,H,I,c3,x,j,y,z,c,.mu A n 0 n,J,l,o,.i .i64 i,.i .i64 a,.i .i64 (max a k:Nat),.i .i64 b,.mu C e.length 0 e.length,r,t,u,v,w,B,E],G.set C (.ar 1 (iy A n T e i a k) (some e.length) false false)⟩):ak VS (.loop M7) ⟨[F,H,I,c3,x,d5,y,z,c,.mu A n 0 n,J,l,o,.i .i64 i,.i .i64 a,.i .i64 a,.i .i64 b,.mu C e.length 0 e.length,r,t,u,v,w,B,E],G⟩ f:=by
 have S:=ay K;by_cases M:a<=b
 ·refine ak.loop (λm s=>∃(p:Nat)(j:D),m=b-p/\a<=p/\p<=b/\s=⟨[F,H,I,c3,x,j,y,z,c,.mu A n 0 n,J,l,o,.i .i64 i,.i .i64 a,.i .i64 p,.i .i64 b,.mu C _ 0 _,r,t,u,v,w,B,E],G.set C (.ar 1 (iy A n T e i a p) _ false false)⟩) _ ⟨a,d5,rfl,G1 _,M,by rw[Cb,mK K]⟩ ?_;rintro m s⟨p,j,hm,U,ah,rfl⟩;obtain⟨rows,ai,V⟩:=Q;have g1:(G.set C (an.ar 1 (iy A n T e i a p) (some e.length) false false))[A]?=some (.ar 11 rows none true true):=by grind
  have N:(G.set C _)[C]?=some (.ar 1 (iy A n T e i a p) (some e.length) false false):=K2 S;by_cases aj:p<b
  ·have g:(p:Int)<(b:Int):=by omega
   have c1:(0:Int)<=(p:Int):=by omega
   have W:(p:Int)<(e.length:Int):=by omega
   have am:(0:Int)<=(i:Int):=by omega
   have X:(i:Int)<(n:Int):=by omega
   have Y:IntKind.i64.wrap (p+1)=((p+1:Nat)):=by grind[wr]
   have ln:=amZ (A:=A) (n:=n) (T:=T) (days:=e) (i:=i) (a:=a) (p:=p);obtain⟨ao,Z⟩:=am4 (A:=A) (n:=n) (T:=T) (days:=e) (i:=i) (a:=a) (p:=p) (q:=p) (by omega);have P:=am2 (d:=.ap A n i 0) N ln Z;rw[amW U (by omega),vd]at P;have aa:(D.ap A n i 0).cellsN 1=some [D.ap A n i 0]:=rfl;simp[go_sem,aa,M8,g,g1,N,W,X,V,ln,P,Y];grind
  have g:¬(p:Int)<b:=by omega
  have hp:p=b:=by omega
  simp[go_sem,M8,g];have:=L (.b false) p (λh=>by grind[Cb]) (λ_=>hp);grind
 have g:¬(a:Int)<b:=by omega
 rw[bJ];simp[go_sem,M8,g];have:=L (.b false) a (λ_=>Cb) (λh=>absurd h M);grind[Cb,mK]
def am6{T:List FV}{y:D}{C:Nat}(I:Sl 1 (e.map aV) y)(N:e.length<1000000)(ag:T.length<1000000)(hs:e.Pairwise (·<·)){G:ab}(J:G[C]?=some (.ar 1 (eV d T.length T e 0) (some e.length) false false))(hA:T≠[]->G[d]?=some (.ar 11 (T.map FV.c) none true true))(P:d≠C){fs c3 p q r t u v w A B E:D}(Q:T≠[]->fs=.mu d T.length 0 T.length){d4 d5 S U V W:D}(X:∀h g j l m o,f (.ex 0) ⟨[A,B,E,c3,h,g,x,z,c,fs,y,.i .i64 T.length,.i .i64 T.length,j,l,m,o,.mu C e.length 0 e.length,p,q,r,t,u,v,w],G.set C (.ar 1 (eV d T.length T e T.length) (some e.length) false false)⟩):ak VS (.loop M9) ⟨[A,B,E,c3,d4,d5,x,z,c,fs,y,.i .i64 0,.i .i64 T.length,S,U,V,W,.mu C e.length 0 e.length,p,q,r,t,u,v,w],G⟩ f:=by
 have Y:=ay J;refine ak.up (λi s=>∃h g j l m o:D,s=⟨[A,B,E,c3,h,g,x,z,c,fs,y,.i .i64 i,.i .i64 _,j,l,m,o,.mu C _ 0 _,p,q,r,t,u,v,w],G.set C (.ar 1 (eV d _ T e i) _ false false)⟩) T.length ⟨_,_,_,_,_,_,by rw[mK J];rfl⟩ ?_;rintro i s hi⟨h,g,j,l,m,o,rfl⟩;by_cases F:i<T.length
 · have Z:T≠[]:=λai=>by grind
   rw[Q Z]at X⊢;have c0:(i:Int)<T.length:=by omega
   have c1:(0:Int)<=i:=by omega
   have w1:IntKind.i64.wrap (i+1)=((i+1:Nat)):=by grind[wr]
   obtain⟨a,b,p1,L⟩:=amT I (by omega) T[i]!;have M:=λ{H K}=>p1.c (H:=H) (K:=K) Uc rfl (by simp only[AAb,ABG,AAt,D0];exact⟨I.pl,by exact T[i]!.al⟩) (.inl rfl);have g1:(G.set C (an.ar 1 (eV d T.length T e i) (some e.length) false false))[d]?=some (.ar 11 (T.map FV.c) none true true):=by grind
   have g2:(G.set C _)[C]?=some (.ar 1 (eV d T.length T e i) (some e.length) false false):=K2 Y;have e1:=amX (A:=d) (n:=T.length) hs L;simp only[FV.c]at M;simp only[go_sem,aaz,c0,g1,c1,FV.c,M];refine⟨F,am5 L.b1 N g2 F ⟨_,g1,by simp⟩ P λg k k1 k2=>?_⟩;simp only[go_sem,w1];refine⟨F,?_⟩;rw[vd];grind
 have ap:i=T.length:=by omega
 simp[go_sem,aaz];grind
end
end Go.Proofs.YtigbdbdlkoeadaaGreatDoor.Dv
