/-
  Part of the proof.
-/
import Derived.Test.YtekgndcflpklkaaGreatDoorF
import Derived.ChangeArms
import Derived.ChangeShapes
import Derived.ChangeSame
import Derived.Carry
import Derived.SizedLaws
set_option linter.all false
namespace Go.Proofs.YtekgndcflpklkaaGreatDoor.Dv
section
open Go.Dm
set_option maxRecDepth 10000
def lK(a:Bool)(rows:List bU)(lo hi b:Int):EQ:=if a=true then .error 2 else if 0<=lo/\lo<=65536/\0<=hi/\hi<=65536 then kI rows b lo hi 181 1900 (1,1)else .error 2
def aja(a b:Int):ai VS 189 [.i .i64 a,.i .i64 b] (.b (decide (0<=a/\a<=65536/\0<=b/\b<=65536))):=by
 refine .body Qk rfl ?_;by_cases c:0<=a
 ·by_cases d:a<=65536
  ·by_cases e:0<=b
   ·by_cases f:b<=65536;·simp[go_sem,xp,c,d,e]
    simp[go_sem,xp,c,d,e]
   simp only[go_sem,xp,c,d,e];try simp
  simp only[go_sem,xp,c,d];simp
 simp only[go_sem,xp,c];simp
def wt{base:Nat}{H:ab}{i t:Nat}{c:List D}(h:H[i]?=some (.hb t c)):(dJ base H)[i]?=some (.hb t c):=by grind[dJ,aw]
def Ak{H:ab}{f:List D}{a b c d:D}{e:Int}{r:EQ}(g:H[2]?=some (.hb 32 [a,b,c,d]))(h:H[3]?=some (.hb 45 [.i .i64 e]))(j:f[4]?=some (.hp 2 0))(k:f[5]?=some (.hp 3 0))(l:a.flat=true)(n:b.flat=true)(o:c.flat=true)(p:d.flat=true)(hr:ba r (.tu [.ag [a,b,c,d],.i .i64 e])):lH [.hb 4 4 true,.hb 5 1 false] 0 (fG false λv=>∃d,v=.ret d/\ba r d) .rt ⟨f,H⟩:=by
 have s:=wt (base:=0) g;have u3:=wt (base:=0) h;have g1:=λm H=>ah l m H;have t:=λm H=>ah n m H;have u:=λm H=>ah o m H;have w:=λm H=>ah p m H;rw[Pk];generalize dJ 0 H=U at*;have q:cW ⟨f,U⟩ [.hb 4 4 true,.hb 5 1 false]=some [.ag [a,b,c,d],.i .i64 e]:=by simp[cU.ev,cN,j,k,s,u3,cW,val];rfl
 refine⟨_,q,?_⟩;simp[go_sem,g1,t,u,w];exact hr
def tX(t:Tb)(lo hi f:Int)(one acc:QV)(a b c d:D)(e:Int)(s:RS)(X:ab):ab:=.hb 64 [.s t.name,.b false,t.x]::.hb 3 [.i .i64 f]::.hb 32 [a,b,c,d]::.hb 45 [.i .i64 e]::.hb 32 [one.s,one.x,one.t,one.y]::.hb 32 [acc.s,acc.x,acc.t,acc.y]::.hb 3 [.i .i64 lo]::.hb 3 [.i .i64 hi]::.df::.yh r0.f r0.path 0 r0.nt r0.tm [.ag [.s t.name,.b false,t.x],.i .i64 lo,.i .i64 hi,.i .i64 f,.hp 2 0,.hp 3 0,.b false,.fn (.func 242) [] [.hp 7 0,.hp 6 0],.u,.u,.hp 0 0,.u,.hp 1 0,.hp 4 0,.hp 5 0,.u,.u,.u,.u,.u] s::X
structure Fa(t:Tb)(lo hi known:Int)(one:QV)(R:EQ)(y:Nat)(G:ab):Prop where h:∃(acc:QV)(X:ab),y<=2080/\kI (t.rows.map Rw.n) known lo hi (2081-y) y acc.q=R/\G=tX t lo hi known one acc (.b false) .nil (.b false) .nil 0 .rd X
structure RU(t:Tb)(lo hi known:Int)(one:QV)(R:EQ)(G:ab):Prop where h:(∃(acc:QV)(X:ab),R=.ok acc.q/\G=tX t lo hi known one acc (.b false) .nil (.b false) .nil 0 .rd X)\/(∃(acc:QV)(e:Int)(X:ab),e≠0/\R=.error e/\G=tX t lo hi known one acc (.b false) .nil (.b false) .nil e .dr X)
def ajb{t:Tb}(h:t.v=true)(j:t.two=false){lo hi c:Int}{one:QV}(k:one.q=(1,1)){R:EQ}{y:Nat}{G:ab}(l:Fa t lo hi c one R y G)(o:y<=2079)(q:(eR y).2=0)(s:(eR y).1<hi)(v:lo<=(eR y).1):ac VS yF [.yl 9,.i .i64 (y:Int)] G (λr=>∃d,(r=.ret (.b true) d/\Fa t lo hi c one R (y+1) d)\/(r=.ret (.b false) d/\RU t lo hi c one R d)):=by
 obtain⟨acc,X,w,a,rfl⟩:=l.h;obtain⟨r,u,m⟩:=ai9 t h j c y one acc k;rw[show 2081-y=(2080-y)+1 by omega]at a;unfold kI at a;rw[E1 (by omega),E1 (by omega)]at a;unfold tX;refine ac.round tR rfl Q2 ⟨rfl,rfl,rfl,rfl,rfl⟩ ?_;simp only[go_sem,simprocAttr,apb,gl];refine⟨_,_,_,_,_,_,rfl,?_⟩;rw[m rfl (by simp) rfl rfl rfl];rcases u.h with⟨p,f,rfl⟩|⟨e,f,g,rfl⟩;·rw[f]at a;simp only[go_sem];exact⟨_,_,_,_,_,_,rfl,_,.inl ⟨rfl,p,_,by omega,by grind,rfl⟩⟩
 rw[f]at a;have n:¬e=0:=g;simp only[go_sem,n];exact⟨_,_,_,_,_,_,rfl,_,.inr ⟨rfl,⟨.inr ⟨acc,e,_,g,a.symm,rfl⟩⟩⟩⟩
def ajc(t:Tb)(h:t.v=true)(lo hi g:Int):∃r,ai VS 160 [.ag t.c,.i .i64 lo,.i .i64 hi,.i .i64 g] r/\ba (lK t.two (t.rows.map Rw.n) lo hi g) r:=by have f:=λ{H K}=>(Ab t).c (H:=H) (K:=K) v6 rfl (by simp[t.pl]) (.inl rfl);rw[h]at f;have q:=λ{H K}=>(aja lo hi).c (H:=H) (K:=K) Qk rfl rfl (.inl rfl);simp[Tb.c]at f;unfold lK;cases k:t.two with|true=>rw[k]at f;rw[G1 rfl];refine aE.ex (aE.bodyR zK rfl rfl ?_);simp only[Tb.c,k];generalize l:lH _ 0 _=Q;simp[go_sem,simprocAttr,Jb,f];rw[<-l];exact Ak rfl rfl rfl rfl rfl rfl rfl rfl (ba.er rfl (by decide))|false=>
 rw[k]at f;rw[E1 (by decide)];by_cases o:0<=lo/\lo<=65536/\0<=hi/\hi<=65536
 ·rw[G1 o];obtain⟨one,o1,o2⟩:=QV.int (n:=1) (by omega);refine aE.ex (aE.bodyR zK rfl rfl ?_);simp only[Tb.c,k];generalize l:lH _ 0 _=Q;simp[go_sem,simprocAttr,Jb,f,q,R2 o,o2];have v:∀{H:ab}{K:CR->Prop},K (.ret (.fn (.func 242) [] [.hp _ 0,.hp _ 0]) (H++[.hb 3 [.i .i64 lo],.hb 3 [.i .i64 hi]]))->ac VS 190 [.i .i64 lo,.i .i64 hi] H K:=λ{H K}w=>by refine .body (vf:=Bz) agT rfl rfl ?_;simp(disch:=omega)only[go_sem,simprocAttr,apr];exact w
  refine v ?_;simp(disch:=omega)only[go_sem,simprocAttr];rw[vW Q2 rfl (by decide)];refine(ai4 (lo:=lo) (hi:=hi) (I:=Fa t lo hi g one (kI (t.rows.map Rw.n) g lo hi 181 1900 (1,1))) (E:=RU t lo hi g one (kI (t.rows.map Rw.n) g lo hi 181 1900 (1,1))) ?_ ?_ ?_ ?_ (λi H b s m u p=>ajb h k o1 b s m u p) ⟨one,[],by omega,by rw[o1],rfl⟩).mono ?_;·intro i H b;obtain⟨acc,X,_,_,rfl⟩:=b.h;rfl
  ·intro i H b;obtain⟨acc,X,_,_,rfl⟩:=b.h;rfl
  ·intro i H b m u p;obtain⟨acc,X,x,a,rfl⟩:=b.h;have s:i<=2079:=by refine ga λG=>?_;unfold eR at m;rw[G1 (by omega)]at m;exact absurd m (by decide)
   rw[show 2081-i=(2080-i)+1 by omega]at a;unfold kI at a;rw[E1 (by omega),G1 p]at a;exact⟨acc,X,by omega,by rw[show 2081-(i+1)=2080-i by omega];exact a,rfl⟩
  ·intro i H b j;obtain⟨acc,X,x,a,rfl⟩:=b.h;rw[show 2081-i=(2080-i)+1 by omega]at a;unfold kI at a;rw[G1 j]at a;exact⟨.inl ⟨acc,X,a.symm,rfl⟩⟩
  rintro r⟨d,J,rfl,y⟩;rcases y.h with⟨acc,X,a,rfl⟩|⟨acc,e,X,z,a,rfl⟩;·show nA _ 9 _ _;unfold tX;rw[tL rfl];simp(disch:=omega)only[go_sem,simprocAttr];rw[<-l];obtain⟨A,B,C,F⟩:=acc.fl;exact Ak rfl rfl rfl rfl A B C F (ba.ok a)
  show nA _ 9 _ _;unfold tX;rw[Pi rfl];simp(disch:=omega)only[go_sem,simprocAttr];rw[<-l];exact Ak rfl rfl rfl rfl rfl rfl rfl rfl (ba.er a z)
 rw[E1 o];refine aE.ex (aE.bodyR (vf:=ut) zK rfl rfl ?_);simp only[Tb.c,k];generalize l:lH ut.res 0 (fG ut.own _)=Q;simp(disch:=omega)only[go_sem,simprocAttr,Jb,f,q,R1 o];rw[<-l];exact Ak rfl rfl rfl rfl rfl rfl rfl rfl (ba.er rfl (by decide))
end
section
open Go.Dm
set_option maxRecDepth 10000
def ajd{n:Int}{m:Nat}{d:D}(a:Fr n m d)(f:dP n m):ai VS 154 [d] (.i .i64 (lS ⟨2,n,m,0⟩)):=by
 obtain⟨W,X,Y,d0,F,v,G⟩:=zY (-2147483648) (by decide) (by decide);obtain⟨Z,I,b,d1,J,w,L⟩:=zY 2147483647 (by decide) (by decide);obtain⟨a2,M,e,d2,N,z,u3⟩:=zY 1 (by decide) (by decide);have l:=λ{H K}=>F.c (H:=H) (K:=K) qY rfl rfl (.inl rfl);have A:=λ{H K}=>J.c (H:=H) (K:=K) qY rfl rfl (.inl rfl);have P:=λ{H K}=>N.c (H:=H) (K:=K) qY rfl rfl (.inl rfl);have g:=λ{H K}=>(uG a v f G).c (H:=H) (K:=K) q8 rfl (by simp[a.pl,v.pl]) (.inl rfl);have o:=λ{H K}=>(uG a w f L).c (H:=H) (K:=K) q8 rfl (by simp[a.pl,w.pl]) (.inl rfl);obtain⟨p,Q⟩:∃p,p=cP (n*((1:Nat))) (-2147483648*m):=⟨_,rfl⟩;obtain⟨q,S⟩:∃q,q=cP (n*((1:Nat))) (2147483647*m):=⟨_,rfl⟩;rw[<-Q]at g;rw[<-S]at o;obtain⟨r,r1,r2⟩:=Ym a z f u3 (by decide) (mode:=3) (by omega);have B:=λ{H K}=>r1.c (H:=H) (K:=K) zL rfl (by simp[a.pl,z.pl,aV]) (.inl rfl);have U:=λ{H K}=>ki (H:=H) (K:=K);obtain⟨x,y,rfl,_,_⟩:=a.h;simp[lA]at B;have C:p<0↔n< -2147483648*m:=by grind[cP]
 have E:0<q↔2147483647*m<n:=by grind[cP]
 refine .body P9 rfl ?_;unfold lS;by_cases b:p<0;·rw[G1 (C.1 b)];simp[go_sem,I4,l,g,b]
 rw[E1 (λh=>b (C.2 h))];by_cases e:0<q;·rw[G1 (E.1 e)];simp[go_sem,I4,l,g,b,A,o,e]
 rw[E1 (λh=>e (E.2 h))];have hm:=f.z;obtain⟨k,s⟩:∃k,k=n/m:=⟨_,rfl⟩;have I:-2147483648<=k:=by rw[s];exact(Int.le_ediv_iff_mul_le (by omega)).2 (by omega)
 have M:k<=2147483647:=by rw[s];exact Int.ediv_le_of_le_mul (by omega) (by omega)
 have hr:mO 3 (n*((1:Nat))) (m*(1:Int).natAbs)*1=k:=by grind[mO,gY]
 rw[hr]at r2;obtain⟨d9,t|⟨t,_⟩⟩:=r2.h
 ·obtain⟨_,_,rfl,h4⟩:=t;have u:Fr k 1 d9:=by simp_all
  have j:dP k 1:=xT (by omega);obtain⟨x9,y9,rfl,_,_⟩:=u.h;have hi:=Yf u j;rw[G1 rfl,show gH k=true by grind[gH],G1 rfl,G1 rfl]at hi;have V:=λ{H K}=>hi.c (H:=H) (K:=K) we rfl (by simp[u.pl]) (.inl rfl);simp[go_sem,I4,l,g,b,A,o,e,P,B,U,V];exact s
 refine absurd ?_ t;have j:dP k 1:=xT (by omega);simpa using And.intro j.bn j.bm
end
section
open Go.Dm
set_option maxRecDepth 10000
def Am(mode:Int)(x y:NV):NR:=if mode<1\/6<mode then .er 185 else if y.n<=0 then .er 181 else sf x.k (mO mode.toNat (x.n*y.m) (x.m*y.n.natAbs)*y.n) y.m
def aje{x y:NV}{d e:D}(w:VD x d)(z:VD y e)(A:x.ok)(B:y.ok)(o:x.k=2\/x.k=3)(C:y.k=2\/y.k=3)(mode:Int):aE VS 141 [d,e,.i .i64 mode] (kR (Am mode x y)):=by
 obtain⟨V,W,t1,X,rfl,p⟩:=w.cs;obtain⟨Y,Z,t2,y2,rfl,f⟩:=z.cs;have E:=(A.f o).1;have k:=(B.f C).1;obtain⟨a0,b0,c0,d0,F,u,G⟩:=zY 0 (by decide) (by decide);have l:=λ{H K}=>F.c (H:=H) (K:=K) qY rfl rfl (.inl rfl);have g:=λ{H K}=>(uG f u k G).c (H:=H) (K:=K) q8 rfl (by simp[f.pl,u.pl]) (.inl rfl);have z1:=λ{H K}=>eB (e:=185) (H:=H) (K:=K);have z2:=λ{H K}=>eB (e:=181) (H:=H) (K:=K);have I:=λ{H K}=>ki (H:=H) (K:=K);have J:=λ{H K}=>jB (e:=3) (by decide) (H:=H) (K:=K);unfold Am;refine aE.body P7 rfl ?_;by_cases a:mode<1;·rw[G1 (.inl a)];simp[go_sem,xk,a,z1]
 by_cases b:6<mode;·rw[G1 (.inr b)];simp[go_sem,xk,b,z1]
 rw[E1 (by omega)];obtain⟨q,L⟩:∃q,q=cP (y.n*((1:Nat))) (0*y.m):=⟨_,rfl⟩;rw[<-L]at g;have v:q<=0↔y.n<=0:=by grind[cP]
 by_cases c3:q<=0;·rw[G1 (v.1 c3)];simp[go_sem,simprocAttr,xk,a,b,l,g,c3,z2]
 rw[E1 (λh=>c3 (v.2 h))];have M:0<y.n:=by omega
 obtain⟨j,N⟩:=xt (show 0<=mode by omega);subst N;obtain⟨r,r1,r2⟩:=Ym p f E k M (mode:=j) (by omega);have m:=λ{H K}=>r1.c (H:=H) (K:=K) zL rfl (by simp[p.pl,f.pl,aV]) (.inl rfl);rcases xR o k.z r2 with⟨s,x',t,y',n',m',n,rfl,P,Q,S,U,hv,ho⟩|⟨n,rfl⟩;·simp(disch:=omega)[go_sem,simprocAttr,xk,a,b,l,g,c3,w8,m,I,n,ah P,ah Q,ah S,ah U];grind
 unfold n9 at m;simp(disch:=omega)[go_sem,simprocAttr,xk,a,b,l,g,c3,w8,m,J,n]
def kJ{P:D->Prop}{lo hi:Int}(h:∃r,P r/\tS lo hi r):∃n e:Int,P (.tu [.i .i64 n,.i .i64 e])/\lo<=n/\n<=hi:=by obtain⟨r,a,n,e,rfl,b⟩:=h;grind
noncomputable def jU(d:Int):Int×Int:=(Classical.choose (kJ (EE d)),Classical.choose (fx (kJ (EE d))))
def ajf(d:Int):ai VS 138 [.i .i64 d] (.tu [.i .i64 (jU d).1,.i .i64 (jU d).2])/\0<=(jU d).1/\(jU d).1<=2154:=fx (fx (kJ (EE d)))
noncomputable def nK(m:Int):Int×Int:=(Classical.choose (kJ (EF m)),Classical.choose (fx (kJ (EF m))))
def ajg(m:Int):ai VS 139 [.i .i64 m] (.tu [.i .i64 (nK m).1,.i .i64 (nK m).2])/\-1000000<=(nK m).1/\(nK m).1<=1000000:=fx (fx (kJ (EF m)))
noncomputable def nL(d m:Int):Int×Int:=(Classical.choose (kJ (zX (d:=d) (m:=m))),Classical.choose (fx (kJ (zX (d:=d) (m:=m)))))
def ajh(d m:Int):ai VS 211 [.i .i64 d,.i .i64 m] (.tu [.i .i64 (nL d m).1,.i .i64 (nL d m).2])/\0<=(nL d m).1/\(nL d m).1<=65535:=fx (fx (kJ (zX)))
noncomputable def nM(a b:Int):Int×Int:=(Classical.choose (kJ (EG a b)),Classical.choose (fx (kJ (EG a b))))
def aji(a b:Int):ai VS 172 [.i .i64 a,.i .i64 b] (.tu [.i .i64 (nM a b).1,.i .i64 (nM a b).2])/\-3000<=(nM a b).1/\(nM a b).1<=3000:=fx (fx (kJ (EG a b)))
end
section
open Go.Dm
set_option maxRecDepth 10000
noncomputable def tY(a:Nat)(x y:NV):NR:=if(nL x.i (if a=8 then-y.i else y.i)).2=0 then xO (nL x.i (if a=8 then-y.i else y.i)).1 else .er (nL x.i (if a=8 then-y.i else y.i)).2
def ajj{j:Nat}(q:j=7\/j=8){x y:NV}{d e:D}(A:VD x d)(B:VD y e)(E:x.ok)(C:y.ok)(F:x.k=4)(G:y.k=6):aE VS 168 [.i .u8 j,d,e] (kR (tY j x y)):=by
 obtain⟨I,J,t1,L,rfl,M⟩:=A.cs;obtain⟨N,P,Q,S,rfl,U⟩:=B.cs;obtain⟨n,h⟩:∃n,n=if j=8 then-y.i else y.i:=⟨_,rfl⟩;have r2:=C.rng;have r:IntKind.i64.wrap (0-y.i)=-y.i:=by grind[wr]
 have u:=λ{H K}=>ki (H:=H) (K:=K);have d4:(x.k:Int)=4:=by omega
 have k:(y.k:Int)=6:=by omega
 unfold tY;rw[<-h];have l:=λ{H K}=>(ajh x.i n).1.c (H:=H) (K:=K) Er rfl rfl (.inl rfl);have w:=Mf (n:=(nL x.i n).1);refine aE.body nE rfl ?_;by_cases m:(nL x.i n).2=0
 ·rcases q with rfl|rfl
  ·rw[E1 (by decide)]at h;subst h;simp[go_sem,simprocAttr,kP,d4,k,l,m,u];refine ac.ans w o5 rfl rfl rfl (λv s x t y o a b c e f g=>?_) (λe p=>?_);·simp[go_sem,ah a,ah b,ah c,ah e,o];grind
   simp[go_sem,p]
  rw[G1 rfl]at h;subst h;simp only[go_sem,simprocAttr,kP,d4,k,r,l,m,u];refine ac.ans w o5 rfl rfl rfl (λv s x t y o a b c e f g=>?_) (λe p=>?_);·simp[go_sem,ah a,ah b,ah c,ah e,o];grind
  simp[go_sem,p]
 rw[E1 m];have z:=λ{H K}=>jB m (H:=H) (K:=K);rcases q with rfl|rfl;·rw[E1 (by decide)]at h;subst h;simp[go_sem,simprocAttr,kP,d4,k,l,z]
 rw[G1 rfl]at h;subst h;simp only[go_sem,simprocAttr,kP,d4,k,r,l,z]
def ajk{h:Nat}(n:h=7\/h=8){x y:NV}{d e:D}(j:VD x d)(k:VD y e)(o:x.ok)(p:y.ok)(q:x.k=4)(r:y.k=6):aE VS 142 [.i .u8 h,d,e] (kR (tY h x y)):=by
 have hs:=ajj n j k o p q r;have u:=j;have w:=k;obtain⟨z,A,t1,B,rfl,C⟩:=j.cs;obtain⟨E,F,G,H,rfl,I⟩:=k.cs;have J:=u.pl;have K:=w.pl;refine aE.body wg rfl ?_;rcases n with rfl|rfl
 ·simp[go_sem,iY];refine ac.ans hs nE rfl rfl (by grind[aV]) (λv s x t y l a b c e f g=>?_) (λe m=>?_);·simp[go_sem,ah a,ah b,ah c,ah e,l];grind
  simp[go_sem,m]
 simp[go_sem,simprocAttr,iY];refine ac.ans hs nE rfl rfl (by grind[aV]) (λv s x t y l a b c e f g=>?_) (λe m=>?_);·simp[go_sem,ah a,ah b,ah c,ah e,l];grind
 simp[go_sem,m]
noncomputable def An(x y:NV):NR:=if(nM x.i y.i).2=0 then uI 6 (nM x.i y.i).1 else .er (nM x.i y.i).2
def ajl{x y:NV}{d e:D}(k:VD x d)(l:VD y e):aE VS 142 [.i .u8 20,d,e] (kR (An x y)):=by
 obtain⟨u,w,t1,z,rfl,A⟩:=k.cs;obtain⟨B,C,E,F,rfl,G⟩:=l.cs;have m:=λ{H K}=>ki (H:=H) (K:=K);have j:=λ{H K}=>(aji x.i y.i).1.c (H:=H) (K:=K) zN rfl rfl (.inl rfl);have o:=Cj (n:=(nM x.i y.i).1) (.inr rfl);unfold An;refine aE.body wg rfl ?_;by_cases h:(nM x.i y.i).2=0
 ·simp[go_sem,simprocAttr,iY,j,h,m];refine ac.ans o nC rfl rfl rfl (λv s x t y p a b c e f g=>?_) (λe q=>?_);·simp[go_sem,ah a,ah b,ah c,ah e,p];grind
  simp[go_sem,q]
 rw[E1 h];have r:=λ{H K}=>jB h (H:=H) (K:=K);simp[go_sem,simprocAttr,iY,j,r]
noncomputable def Fb(x:NV):NR:=if x.m=1 then(if gH x.n then uI 6 x.n else .er 3)else .er 22
noncomputable def Fd(x:NV):NR:=if x.k=2\/x.k=3 then .ok ⟨2,x.n,x.m,0⟩else .ok ⟨2,x.i,1,0⟩
noncomputable def Fe(x:NV):NR:=if(jU x.i).2=0 then(if(nK (jU x.i).1).2=0 then xO (nK (jU x.i).1).1 else .er (nK (jU x.i).1).2)else .er (jU x.i).2
noncomputable def iR(a:Nat)(b:Int)(vs:List NV):NR:=let x:=vs[0]!;let y:=vs[1]!;if a=17 then .ok (fK (decide (x.i=0)))else if a=19 then Am b x y else if a=20 then An x y else if a=24 then Fb x else if a=25 then Fd x else if a=26 then Fe x else if(a=7\/a=8)/\x.k=4/\y.k=6 then tY a x y else xS a x y
end
section
open Go.Dm
set_option maxRecDepth 10000
def pj:List Nat:=[1,2,3,4,5,6]
def tZ:List (List Nat):=pj.map (λa=>[a])++pj.flatMap (λa=>pj.map λb=>[a,b])++pj.flatMap (λa=>pj.flatMap λb=>pj.map λc=>[a,b,c])
def jV(k:Nat):Bool:=k==2||k==3
def Ff(d:Nat)(e:List Nat):Bool:=match d,e with|17,[a]=>a==1|19,[a,b]=>jV a&&jV b|20,[a,b]=>a==4&&b==4|24,[a]=>jV a|25,[a]=>jV a||a==5||a==6|26,[a]=>a==4|3,[a]=>a==4|4,[a]=>a==4|6,[a]=>jV a|6,[a,b]=>jV a&&jV b|21,[a,b]=>a==4&&b==4|22,[a,b,c]=>a==4&&b==4&&(c==5||c==6)|23,[a,b]=>a==4&&b==4|5,[a]=>a==4|7,[_,_]=>true|8,[_,_]=>true|9,[_,_]=>true|10,[_,_]=>true|11,[_,_]=>true|12,[_,_]=>true|13,[_,_]=>true|14,[_,_]=>true|_,_=>false
def ajm:((List.range 27).all λa=>tZ.all λb=>!co a b||Ff a b)=true:=by kernel_rfl
theorem wu{k:Nat}(h:1<=k/\k<=6):k∈pj:=by simp[pj]<;>omega
def RW:∀{d:List Nat},d≠[]->d.length<=3->(∀k∈d,1<=k/\k<=6)->d∈tZ|[],h,_,_=>(h rfl).elim|[a],_,_,h=>by grind[wu,tZ]|[a,b],_,_,h=>by simp_all[wu,tZ]|[a,b,c],_,_,h=>by have e:=wu (h a (by simp));have f:=wu (h b (by simp));grind[wu,tZ]|_::_::_::_::_,_,h,_=>by grind
variable{x y:Nat}
def RX{a:List Nat}(c:a.length<=3)(d:∀k∈a,1<=k/\k<=6)(h:co x a=true):x<27/\Ff x a=true:=by have b:=h;unfold co at b;simp only[D0,Hq]at b;have e:=TA.1 (TA.1 ajm x (fa.2 b.1)) a (RW b.2.1 c d);grind
def ajn{vs:List AV}:(iz vs).take vs.length=vs.map AV.c:=by grind[iz]
def Ao(d:x<256){vs:List AV}(c:vs.length<=3){H:ab}(hi:H[y]?=some (aO vs false)){K:CR->Prop}:ac VS 129 [.i .u8 x,.mu y 3 0 vs.length] H K↔K (.ret (.b (co x (vs.map λa=>a.v.k))) (H.set y (aO vs true))):=by
 have e:aK H y 3=some (6,iz vs,some 3,true,false):=by simp[Dm.aK,hi,aO,Cn c]
 have f:Sl 6 (vs.map AV.c) _:=.im;have g:=asw (λa=>⟨_,rfl,rfl⟩) f d (by omega);have h:aX bE H [.i .u8 x,.mu y 3 0 vs.length]=some ([.i .u8 x,.im 6 (vs.map AV.c)],H.set y (aO vs true)):=by have i:=ajn (vs:=vs);simp[go_sem,e];simp[aO,i,Cn c,c];rfl
 have j:=fX (K:=K) P3 rfl g h;exact j
variable{z:D}{b:Int}
def ajo(d:x<256){vs:List AV}(f:vs.length<=3){H:ab}(hi:H[y]?=some (aO vs false))(g:co x (vs.map λa=>a.v.k)=false){w:D}{h:List UInt8}{K:CR->Prop}(i:K (.pan (eX 185) (H.set y (aO vs true)))):ac VS 108 [z,.i .u8 x,.s h,.i .i64 b,.mu y 3 0 vs.length,w] H K:=by have c:=λ{K}=>Ao d f hi (K:=K);rw[g]at c;have j:=λ{H K}=>eB (e:=185) (H:=H) (K:=K);refine .body jn rfl rfl ?_;simp[go_sem,fp,c,j];exact i
structure Do1(op:Nat)(a:AV)(i:Nat)(H H2:ab):Prop where ec:∀{K:CR->Prop},ac VS 129 [.i .u8 op,.mu i 3 0 1] H K↔K (.ret (.b true) H2)ar:aK H2 i 3=some (6,[a.c,cw,cw],some 3,true,true)g:H2[i]?=some (.ar 6 [a.c,cw,cw] (some 3) true true)l:i<H2.length
def ww(e:x<256){a:AV}(f:co x [a.v.k]=true){H:ab}(hi:H[y]?=some (aO [a] false)):Do1 x a y H (H.set y (aO [a] true)):=by
 have b:=λ{K}=>Ao e (by simp) hi (K:=K);simp only[fA,y4,f]at b;have c:(H.set y (aO [a] true))[y]?=some (aO [a] true):=by grind
 have d:(H.set y _)[y]?=some (.ar 6 [a.c,cw,cw] _ true true):=c;exact⟨b,by simp only[Dm.aK,d];rfl,d,aw c⟩
theorem Fg(z:QV){k:Nat}(b:k=2\/k=3){H:ab}:fM (.ok ⟨k,z.q.1,z.q.2,0⟩) H (.ret (.ag [.i .u8 k,z.s,z.x,z.t,z.y,.i .i64 0]) H):=sj (a:=⟨⟨k,z.q.1,z.q.2,0⟩,z.s,z.x,z.t,z.y⟩) ⟨VD.of z.f,NV.frac_ok b z.l⟩
def ajq(b:Bool){H:ab}:fM (.ok (fK b)) H (.ret (l8 b) H):=by obtain⟨c,d⟩:=r9 b;exact sj (a:=⟨fK b,.b false,.nil,.b false,.nil⟩) ⟨c,d⟩
theorem ajr{a:AV}(e:co 17 [a.v.k]=true){H:ab}(hi:H[x]?=some (aO [a] false)){w:D}{f:List UInt8}{c:Int}:ac VS 108 [z,.i .u8 17,.s f,.i .i64 c,.mu x 3 0 1,w] H (fM (iR 17 c [a.v]) (H.set x (aO [a] true))):=by have q:=ww (by decide) e hi;generalize H.set x _=g at*;have d:=λ{K}=>q.ec (K:=K);have h:=q.ar;simp[lA]at d;have i:=λb{H K}=>oc (b:=b) (H:=H) (K:=K);refine .body jn rfl rfl ?_;simp[go_sem,simprocAttr,fp,d,h,AV.c,i,l8];have t:=ajq (decide (a.v.i=0)) (H:=g);simp[l8,Hq]at t;exact t
def ajs{a:AV}(f:a.ok)(i:co 25 [a.v.k]=true){H:ab}(hi:H[x]?=some (aO [a] false)){w:D}{j:List UInt8}:ac VS 108 [z,.i .u8 25,.s j,.i .i64 b,.mu x 3 0 1,w] H (fM (iR 25 b [a.v]) (H.set x (aO [a] true))):=by
 have q:=ww (by decide) i hi;generalize H.set x _=g at*;have d:=λ{K}=>q.ec (K:=K);have h:=q.ar;simp[lA]at d;have m:=f.o.rng;refine .body jn rfl rfl ?_;show ak _ _ _ (dh _ (fM (Fd a.v) g));unfold Fd;by_cases k:a.v.k=2
 ·have c:(a.v.k:Int)=2:=by omega
  simp[go_sem,simprocAttr,fp,d,h,AV.c,c];obtain⟨e,z1,z2,z3,z4,z5⟩:=f.qv (.inl k);grind[Fg,z1,z2,z3,z4,z5]
 by_cases l:a.v.k=3
 ·have c:(a.v.k:Int)=3:=by omega
  simp[go_sem,simprocAttr,fp,d,h,AV.c,c];obtain⟨e,z1,z2,z3,z4,z5⟩:=f.qv (.inr l);have:=Fg e (.inl rfl) (H:=g);grind
 have c:¬(a.v.k:Int)=2:=by omega
 have c3:¬(a.v.k:Int)=3:=by omega
 obtain⟨e,z1,z2⟩:=QV.int (n:=a.v.i) (by omega);simp[go_sem,simprocAttr,fp,d,h,AV.c,c,c3,z2];have:=Fg e (.inl rfl) (H:=g);grind
def ajt{a:AV}(u:a.ok)(A:a.v.k=2\/a.v.k=3)(B:co 24 [a.v.k]=true){H:ab}{i:Nat}(hi:H[i]?=some (aO [a] false)){w:D}{C:List UInt8}{p:Int}:ac VS 108 [z,.i .u8 24,.s C,.i .i64 p,.mu i 3 0 1,w] H (fM (iR 24 p [a.v]) (H.set i (aO [a] true))):=by
 have q:=ww (by decide) B hi;generalize H.set i _=E at*;have j:=λ{K}=>q.ec (K:=K);have l:=q.ar;simp[lA]at j;obtain⟨m,z1,z2,z3,z4,z5⟩:=u.qv A;have d:=Yf m.f m.l;rw[z1,z2,z3,z4,z5]at d;have J:=m.f.pl;have F:=λ{H K}=>ki (H:=H) (K:=K);refine .body jn rfl rfl ?_;show ak _ _ _ (dh _ (fM (Fb a.v) E));unfold Fb;by_cases r:a.v.m=1
 ·rw[G1 r]at d⊢;by_cases k:gH a.v.n=true
  ·rw[G1 k]at d;rw[G1 k]at d⊢;have h:=λ{H K}=>d.c (H:=H) (K:=K) we rfl (by grind) (.inl rfl);have G:=Cj (n:=a.v.n) (.inr rfl);simp[go_sem,simprocAttr,fp,j,l,AV.c,h,F];refine ac.ans G nC rfl rfl rfl (λv s x t y I a b c e f g=>?_) (λe L=>?_);·simp[go_sem,I];exact sj (a:=⟨v,s,x,t,y⟩) ⟨f,g⟩
   constructor<;>grind
  rw[E1 k]at d;rw[E1 k]at d⊢;have h:=λ{H K}=>d.c (H:=H) (K:=K) we rfl (by grind) (.inl rfl);have o:=λ{H K}=>jB (e:=3) (by decide) (H:=H) (K:=K);simp[go_sem,simprocAttr,fp,j,l,AV.c,h,o];exact p8
 rw[E1 r]at d⊢;have h:=λ{H K}=>d.c (H:=H) (K:=K) we rfl (by grind) (.inl rfl);have o:=λ{H K}=>jB (e:=22) (by decide) (H:=H) (K:=K);simp[go_sem,simprocAttr,fp,j,l,AV.c,h,o];exact p8
def aju{a:AV}(u:co 26 [a.v.k]=true){H:ab}{i:Nat}(hi:H[i]?=some (aO [a] false)){w:D}{A:List UInt8}{o:Int}:ac VS 108 [z,.i .u8 26,.s A,.i .i64 o,.mu i 3 0 1,w] H (fM (iR 26 o [a.v]) (H.set i (aO [a] true))):=by
 have q:=ww (by decide) u hi;generalize H.set i _=B at*;have h:=λ{K}=>q.ec (K:=K);have k:=q.ar;simp[lA]at h;have p:=λ{H K}=>ki (H:=H) (K:=K);have l:=λ{H K}=>(ajf a.v.i).1.c (H:=H) (K:=K) P6 rfl rfl (.inl rfl);have r:=λ{H K}=>(ajg (jU a.v.i).1).1.c (H:=H) (K:=K) zJ rfl rfl (.inl rfl);have C:=Mf (n:=(nK (jU a.v.i).1).1);refine .body jn rfl rfl ?_;show ak _ _ _ (dh _ (fM (Fe a.v) B));unfold Fe;by_cases d:(jU a.v.i).2=0
 ·rw[G1 d];by_cases j:(nK (jU a.v.i).1).2=0
  ·rw[G1 j];simp[go_sem,simprocAttr,fp,h,k,AV.c,l,d,p,r,j];refine ac.ans C o5 rfl rfl rfl (λv s x t y E a b c e f g=>?_) (λe F=>?_);·simp[go_sem,E];exact sj (a:=⟨v,s,x,t,y⟩) ⟨f,g⟩
   simp[go_sem,F];exact p8
  rw[E1 j];have m:=λ{H K}=>jB j (H:=H) (K:=K);simp[go_sem,simprocAttr,fp,h,k,AV.c,l,d,p,r,m];exact p8
 rw[E1 d];have m:=λ{H K}=>jB d (H:=H) (K:=K);simp[go_sem,simprocAttr,fp,h,k,AV.c,l,m];exact p8
end
section
open Go.Dm
set_option maxRecDepth 10000
structure Do2(op:Nat)(a b:AV)(i:Nat)(H H2:ab):Prop where ec:∀{K:CR->Prop},ac VS 129 [.i .u8 op,.mu i 3 0 2] H K↔K (.ret (.b true) H2)ar:aK H2 i 3=some (6,[a.c,b.c,cw],some 3,true,true)g:H2[i]?=some (.ar 6 [a.c,b.c,cw] (some 3) true true)l:i<H2.length
variable{x y:Nat}
def Fh(f:x<256){a b:AV}(g:co x [a.v.k,b.v.k]=true){H:ab}(hi:H[y]?=some (aO [a,b] false)):Do2 x a b y H (H.set y (aO [a,b] true)):=by
 have c:=λ{K}=>Ao f (by simp) hi (K:=K);simp only[fA,y4,g]at c;have d:(H.set y (aO [a,b] true))[y]?=some (aO [a,b] true):=by grind
 have e:(H.set y _)[y]?=some (.ar 6 [a.c,b.c,cw] _ true true):=d;exact⟨c,by simp only[Dm.aK,e];rfl,e,aw d⟩
variable{z:List UInt8}
def ajw{a b:AV}(d:a.ok)(h:b.ok)(k:a.v.k=2\/a.v.k=3)(l:b.v.k=2\/b.v.k=3)(m:co 19 [a.v.k,b.v.k]=true){H:ab}{i:Nat}(hi:H[i]?=some (aO [a,b] false)){n w:D}{c:Int}:ac VS 108 [n,.i .u8 19,.s z,.i .i64 c,.mu i 3 0 2,w] H (fM (iR 19 c [a.v,b.v]) (H.set i (aO [a,b] true))):=by
 have q:=Fh (by decide) m hi;generalize H.set i _=o at*;have j:=λ{K}=>q.ec (K:=K);have p:=q.ar;have r:=q.l;simp[lA]at j;have hr:=aje d.d h.d d.o h.o k l c;have u:=d.pl;have A:=h.pl;simp[AV.c]at u A;refine .body jn rfl rfl ?_;show ak _ _ _ (dh _ (fM (Am c a.v b.v) o));simp[go_sem,simprocAttr,fp,j,p,r,AV.c];refine ac.ans hr P7 rfl rfl (by grind[aV]) (λv s x t y B _ _ _ _ f g=>?_) (λe C=>?_);·simp[go_sem];rw[B];exact sj (a:=⟨v,s,x,t,y⟩) ⟨f,g⟩
 simp[go_sem];grind[p8]
def ajx{a b:AV}(c:a.ok)(d:b.ok)(k:co 20 [a.v.k,b.v.k]=true){H:ab}{i:Nat}(hi:H[i]?=some (aO [a,b] false)){l w:D}{h:Int}:ac VS 108 [l,.i .u8 20,.s z,.i .i64 h,.mu i 3 0 2,w] H (fM (iR 20 h [a.v,b.v]) (H.set i (aO [a,b] true))):=by
 have q:=Fh (by decide) k hi;generalize H.set i _=m at*;have j:=λ{K}=>q.ec (K:=K);have n:=q.ar;have o:=q.l;simp[lA]at j;have hr:=ajl c.d d.d;have p:=c.pl;have r:=d.pl;simp[AV.c]at p r;refine .body jn rfl rfl ?_;show ak _ _ _ (dh _ (fM (An a.v b.v) m));simp[go_sem,simprocAttr,fp,j,n,o,AV.c];refine ac.ans hr wg rfl rfl (by grind[aV]) (λv s x t y u _ _ _ _ f g=>?_) (λe A=>?_);·simp[go_sem];rw[u];exact sj (a:=⟨v,s,x,t,y⟩) ⟨f,g⟩
 simp[go_sem];grind[p8]
def do7{c:Nat}(m:7<=c/\c<=14){a b:AV}(d:a.ok)(j:b.ok)(n:co c [a.v.k,b.v.k]=true){H:ab}{i:Nat}(hi:H[i]?=some (aO [a,b] false)){u w:D}{k:Int}:ac VS 108 [u,.i .u8 c,.s z,.i .i64 k,.mu i 3 0 2,w] H (fM (iR c k [a.v,b.v]) (H.set i (aO [a,b] true))):=by
 have q:=Fh (by omega) n hi;generalize H.set i _=W at*;have A:=λ{K}=>q.ec (K:=K);have B:=q.ar;have C:=q.l;have hr:aE VS 142 [.i .u8 c,.ag a.c,.ag b.c] (kR (iR c k [a.v,b.v])):=by
  by_cases l:a.v.k=4/\b.v.k=6
  ·obtain⟨X,Y,Z,f4,f5⟩:=Yt m d.o.k j.o.k n;have o:c=7\/c=8:=by
    refine ga λhc=>?_;by_cases h9:c=9\/c=10;·omega
    omega
   have e:iR c k [a.v,b.v]=tY c a.v b.v:=by show(if c=17 then _ else if c=19 then _ else if c=20 then _ else if c=24 then _ else if c=25 then _ else if c=26 then _ else if(c=7\/c=8)/\a.v.k=4/\b.v.k=6 then tY c a.v b.v else _)=_;rw[E1 (by omega),E1 (by omega),E1 (by omega),E1 (by omega),E1 (by omega),E1 (by omega),G1 ⟨o,l⟩]
   rw[e];exact ajk o d.d j.d d.o j.o l.1 l.2
  have e:iR c k [a.v,b.v]=xS c a.v b.v:=by show(if c=17 then _ else if c=19 then _ else if c=20 then _ else if c=24 then _ else if c=25 then _ else if c=26 then _ else if(c=7\/c=8)/\a.v.k=4/\b.v.k=6 then _ else xS c a.v b.v)=_;rw[E1 (by omega),E1 (by omega),E1 (by omega),E1 (by omega),E1 (by omega),E1 (by omega),E1 (λh=>l h.2)]
  rw[e];exact asA m d.d j.d d.o j.o (asC m d.o j.o n l)
 have p:=d.pl;have r:=j.pl;simp[AV.c]at p r;have E:¬(c:Int)=3:=by omega
 have F:¬(c:Int)=4:=by omega
 have G:¬(c:Int)=6:=by omega
 have I:¬(c:Int)=17:=by omega
 have J:¬(c:Int)=19:=by omega
 have L:¬(c:Int)=21:=by omega
 have M:¬(c:Int)=22:=by omega
 have N:¬(c:Int)=23:=by omega
 have P:¬(c:Int)=24:=by omega
 have Q:¬(c:Int)=25:=by omega
 have S:¬(c:Int)=26:=by omega
 generalize iR c k [a.v,b.v]=R at*;refine .body jn rfl rfl ?_;simp[go_sem,simprocAttr,fp,A,B,C,AV.c,E,F,G,I,J,L,M,N,P,Q,S];refine ac.ans hr wg rfl rfl (by simp[p,r,aV]) (λv s x t y U _ _ _ _ f g=>?_) (λe V=>?_);·simp[go_sem];rw[U];exact sj (a:=⟨v,s,x,t,y⟩) ⟨f,g⟩
 rw[V];exact p8
end
section
open Go.Dm
set_option maxRecDepth 10000
def RY(a:Nat):Bool:=decide ((3<=a/\a<=4)\/a=6\/(7<=a/\a<=14)\/a=17\/(19<=a/\a<=26))
def ajz:((List.range 27).all λa=>tZ.all λb=>!co a b||RY a)=true:=by kernel_rfl
variable{x y:Nat}
def RZ{a:List Nat}(c:a.length<=3)(d:∀k∈a,1<=k/\k<=6)(h:co x a=true):(3<=x/\x<=4)\/x=6\/(7<=x/\x<=14)\/x=17\/(19<=x/\x<=26):=by have b:=h;unfold co at b;simp only[D0,Hq]at b;have e:=TA.1 (TA.1 ajz x (fa.2 b.1)) a (RW b.2.1 c d);grind[RY]
theorem wz{k:Nat}(h:jV k=true):k=2\/k=3:=by grind[jV]
def ajA(q:¬(3<=x/\x<=6)/\¬(21<=x/\x<=23)){vs:List AV}(i:vs.length<=3)(f:∀a∈vs,a.ok)(d:co x (vs.map λa=>a.v.k)=true){H:ab}(hi:H[y]?=some (aO vs false)){n w:D}{p:List UInt8}{m:Int}:ac VS 108 [n,.i .u8 x,.s p,.i .i64 m,.mu y 3 0 vs.length,w] H (fM (iR x m (vs.map AV.v)) (H.set y (aO vs true))):=by
 have h:∀k∈vs.map λa=>a.v.k,1<=k/\k<=6:=by intro k h;obtain⟨a,e,rfl⟩:=f0.1 h;exact(f a e).o.k
 have r:=RZ (by grind) h d;obtain⟨_,hs⟩:=RX (by grind) h d;have g:(7<=x/\x<=14)\/x=17\/x=19\/x=20\/x=24\/x=25\/x=26:=by omega
 match vs,i,f,d,hi,hs with
 |[],_,_,d,_,_=>grind[co]|[a],_,f,d,hi,hs=>
 have e:=f a (by simp);simp only[fA,y4]at d hs⊢;rcases g with g|rfl|rfl|rfl|rfl|rfl|rfl
 ·have:x=7\/x=8\/x=9\/x=10\/x=11\/x=12\/x=13\/x=14:=by omega
  rcases this with rfl|rfl|rfl|rfl|rfl|rfl|rfl|rfl<;>cases hs
 ·grind[ajr]
 ·cases hs
 ·cases hs
 ·exact ajt e (wz hs) d hi
 ·exact ajs e d hi
 exact aju d hi|[a,b],_,f,d,hi,hs=>
 have e:=f a (by simp);have j:=f b (by simp);rcases g with g|rfl|rfl|rfl|rfl|rfl|rfl;·exact do7 g e j d hi
 ·cases hs
 ·have l:(jV a.v.k&&jV b.v.k)=true:=hs;rw[D0]at l;exact ajw e j (wz l.1) (wz l.2) d hi
 ·exact ajx e j d hi
 ·cases hs
 ·cases hs
 cases hs|[a,b,c],_,_,_,_,hs=>
 rcases g with g|rfl|rfl|rfl|rfl|rfl|rfl
 ·have:x=7\/x=8\/x=9\/x=10\/x=11\/x=12\/x=13\/x=14:=by omega
  rcases this with rfl|rfl|rfl|rfl|rfl|rfl|rfl|rfl<;>cases hs
 all_goals cases hs|_::_::_::_::_,i,_,_,_,_=>simp at i
end
section
open Go.Dm
set_option maxRecDepth 10000
def ajB{α:Type}[Inhabited α]{p:α->Bool}{l:List α}(h:l.Pairwise λr s=>p s=true->p r=true){k:Nat}(j:k<=l.length)(f:k<l.length->p l[k]! =false)(g:0<k->p l[k-1]! =true):l.filter p=l.take k:=by
 have d:=vx.1 h;have e:=(pu k l).symm;have m:(l.take k).filter p=l.take k:=by
  rw[sn];intro r hr;obtain⟨i,hi,rfl⟩:=kh.1 hr;rw[fL]at hi;have a:=g (by omega);rw[K0 l _ (by omega)]at a;rw[ABw];by_cases c:i=k-1;·subst c;exact a
  exact d i _ (by omega) (by omega) (by omega) a
 have n:(l.drop k).filter p=[]:=by
  rw[rr];intro r hr;obtain⟨i,hi,rfl⟩:=kh.1 hr;rw[l3]at hi;have a:=f (by omega);rw[K0 l k (by omega)]at a;rw[ABx];intro b;by_cases c:i=0;·subst c;simp[k0]at b;rw[a]at b;cases b
  have:=d k _ (by omega) (by omega) (by omega) b;rw[a]at this;cases this
 grind
def ajC{α:Type}[Inhabited α]{p:α->Bool}{l:List α}(h:l.Pairwise λr s=>p s=true->p r=true){k:Nat}(a:k<=l.length)(b:k<l.length->p l[k]! =false)(c:0<k->p l[k-1]! =true):(l.filter p).getLast?=if k=0 then none else some l[k-1]!:=by rw[ajB h a b c];grind
def Fi(l:List bU):Prop:=l.Pairwise λr s=>r.a<s.a\/(r.a=s.a/\r.b<=s.b)
def ajD{r s:Rw}(h:(!decide (pd s r<0))=true):r.a<s.a\/(r.a=s.a/\r.b<=s.b):=by grind[pd,iO]
def ajE{t:Tb}(h:t.v=true)(a:Int):Fi (bK a (t.rows.map Rw.n) []):=by
 have hs:pf t.rows=true:=by grind[Tb.v]
 have c:=E7 (λ_ _ h=>ajD h) (λ_ _ _ b d=>by omega) hs;have b:=c.sublist (by simpa using Ai (known:=a) (acc:=[]));have:=wo (known:=a) (l:=t.rows) (acc:=[]);rw[y4]at this;rw[this];unfold Fi;rw[ABF];exact b
def ajF{l:List bU}{a c:Int}(h:Fi l){k:Nat}(e:k<=l.length)(f:k<l.length->¬(l[k]!.a<a\/(l[k]!.a=a/\l[k]!.b<=c)))(g:0<k->(l[k-1]!.a<a\/(l[k-1]!.a=a/\l[k-1]!.b<=c))):A2 l a c=if k=0 then none else if l[k-1]!.a=a then some l[k-1]! else none:=by unfold A2;have:=ajC (p:=λr=>decide (r.a<a\/(r.a=a/\r.b<=c))) (h.imp λ{r s}d i=>by grind) e (λd=>R1 (f d)) (λd=>R2 (g d));grind
def Canon.mem:∀{l:List aB},Canon l->∀t∈l,t.frm<t.to
 |[],_,t,a=>by cases a|s::l,h,t,a=>by
  rcases dA.1 a with rfl|a;·exact h.hd
  exact Canon.mem h.tail t a
def R0:∀{l:List aB}{d:Int}{k:Nat},Canon l->k<=l.length->(k<l.length->d<l[k]!.to)->(0<k->l[k-1]!.to<=d)->bF l d=if k<l.length/\l[k]!.frm<=d then some l[k]!.v else none
 |[],d,k,_,e,_,_=>by grind[bF]|s::l,d,0,h,_,a,_=>by
  have f:d<s.to:=a (by simp);rw[dZ];by_cases b:s.frm<=d;·grind
  rw[E1 (λh=>b h.1),E1 (λh=>b h.2)];exact uo λt g=>by have:=h.le t g;omega|s::l,d,k+1,h,e,a,i=>by
  have m:k<=l.length:=by grind
  have g1:∀j,(s::l)[j+1]! =l[j]!:=λj=>by simp
  have f:s.to<=d:=by have:=i (by omega);rw[ABn]at this;cases k with|zero=>grind|succ j=>
   rw[g1]at this;have c:l[j]!∈l:=by grind
   have:=h.le _ c;have:=h.tail.mem _ c;omega
  have o:=R0 (d:=d) h.tail m (λn=>by grind) (λn=>by grind);grind[dZ]
end
section
open Go.Dm
set_option maxRecDepth 10000
variable{x y z:Nat}
def ajG{l:List SV}{x:D}{d:Int}(a:Sl 8 (l.map SV.c) x){p:Nat}(hi:y<l.length){H:ab}(c:H[p]?=some (.hb 231 [x]))(e:H[z]?=some (.hb 3 [.i .i64 d])){K:CR->Prop}:ac VS 152 [.i .i64 (y:Int),.hp p 0,.hp z 0] H K↔K (.ret (.b (decide (d<l[y]!.to))) H):=by
 have f:(y:Int)<(l.length:Int):=by omega
 have c3:(0:Int)<=(y:Int):=by omega
 have g:=λ{V dr os keep h i Q j H m k n}=>a.q (V:=V) (dr:=dr) (os:=os) (keep:=keep) (loc:=h) (sl:=i) (Q:=Q) (sl':=j) (H:=H) (H':=m) (k:=k) (x:=n);have o:=λb=>a.under b;refine cC (bI.iff_q.2 (.body agO rfl rfl ?_));simp[go_sem,simprocAttr,ao8,c,e,g,o,f,SV.c];grind
def R3{l:List RV}{x:D}{a:Int}(c:Sl 7 (l.map RV.c) x){p:Nat}(hi:y<l.length){H:ab}(d:H[p]?=some (.hb 62 [x]))(e:H[z]?=some (.hb 3 [.i .i64 a])){K:CR->Prop}:ac VS 155 [.i .i64 (y:Int),.hp p 0,.hp z 0] H K↔K (.ret (.b (decide (a<l[y]!.a))) H):=by
 have f:(y:Int)<(l.length:Int):=by omega
 have c3:(0:Int)<=(y:Int):=by omega
 have g:=λ{V dr os keep h i Q j H m k n}=>c.q (V:=V) (dr:=dr) (os:=os) (keep:=keep) (loc:=h) (sl:=i) (Q:=Q) (sl':=j) (H:=H) (H':=m) (k:=k) (x:=n);have o:=λb=>c.under b;refine cC (bI.iff_q.2 (.body agQ rfl rfl ?_));simp[go_sem,simprocAttr,ao9,d,e,g,o,f,RV.c];grind
def ajH{l:List RV}{x:D}{a c:Int}(n:Sl 7 (l.map RV.c) x){p r:Nat}(hi:y<l.length){H:ab}(e:H[p]?=some (.hb 62 [x]))(f:H[z]?=some (.hb 3 [.i .i64 a]))(o:H[r]?=some (.hb 3 [.i .i64 c])){K:CR->Prop}:ac VS 156 [.i .i64 (y:Int),.hp p 0,.hp z 0,.hp r 0] H K↔K (.ret (.b (decide (¬(l[y]!.a<a\/(l[y]!.a=a/\l[y]!.b<=c))))) H):=by
 have g:(y:Int)<(l.length:Int):=by omega
 have c3:(0:Int)<=(y:Int):=by omega
 have h:=λ{V dr os keep t u Q v H w k A}=>n.q (V:=V) (dr:=dr) (os:=os) (keep:=keep) (loc:=t) (sl:=u) (Q:=Q) (sl':=v) (H:=H) (H':=w) (k:=k) (x:=A);have i:=λb=>n.under b;refine cC (bI.iff_q.2 (.body agR rfl rfl ?_));obtain⟨d,j⟩:∃d,d=l[y]!:=⟨_,rfl⟩;by_cases q:a<d.a;·simp only[go_sem,simprocAttr,Bo,e,f,h,i,g,c3,RV.c,<-j,q];grind
 by_cases m:d.a=a
 ·by_cases s:c<d.b;·simp only[go_sem,simprocAttr,Bo,e,f,o,h,i,g,c3,RV.c,<-j,m,s];grind
  simp only[go_sem,simprocAttr,Bo,e,f,o,h,i,g,c3,RV.c,<-j,m,s];grind
 simp only[go_sem,simprocAttr,Bo,e,f,h,i,g,c3,RV.c,<-j,q,m];grind
end
section
open Go.Dm
set_option maxRecDepth 10000
inductive ii (known:Int):List bU -> Prop where
 | nil:ii known []
 | snoc {l:List bU} {r:bU}:ii known l -> r.known <= known -> (∀ s,l.getLast?=some s -> ¬ (s.a=r.a /\ s.b=r.b)) -> ii known (l++[r])
theorem ii.drop {known:Int} {L:List bU} (h:ii known L) {s:bU} (hs:L.getLast?=some s):ii known L.dropLast /\ s.known <= known /\ ∀ u,L.dropLast.getLast?=some u -> ¬ (u.a=s.a /\ u.b=s.b):=by
 cases h<;>grind
theorem ii.take {known:Int} {L:List bU} (h:ii known L) : ∀ n,ii known (L.take n):=by
 induction h with
 | nil=>intro n;rw[List.take_nil];exact .nil
 | @snoc l r h1 h2 h3 ih =>
  intro n
  by_cases hn:n <= l.length
  ·grind
  ·rw[E4 (by grind)];exact .snoc h1 h2 h3
theorem wA {known:Int} : ∀ {l acc:List bU},ii known acc -> ii known (bK known l acc)
 | [],_,h=>h
 | r :: l,acc,h=>by
  show ii known (if known<r.known then bK known l acc else match acc.getLast? with
   | some s=>if s.a=r.a /\ s.b=r.b then bK known l _ else bK known l _
   | none=>bK known l _)
  by_cases h1:known<r.known
  ·rw[G1 h1];exact wA h
  ·rw [E1 h1]
   cases hg:acc.getLast? with
   | none=>exact wA (.snoc h (by omega) (fun s hs=>by grind))
   | some s =>
    simp
    by_cases h2:s.a=r.a /\ s.b=r.b
    ·rw[G1 h2]
     obtain⟨d1,_,d3⟩:=h.drop hg
     exact wA (.snoc d1 (by omega) (fun u hu hc=>d3 u hu (by omega)))
    ·rw [E1 h2]
     exact wA (.snoc h (by omega) (fun u hu=>by
      grind))
theorem R4 {known:Int} : ∀ {l acc:List bU},ii known (acc++l) -> bK known l acc=acc++l
 | [],acc,_=>(qq acc).symm
 | r::l,acc,h=>by
  have ht:=h.take (acc.length+1)
  have e:(acc++r::l).take (acc.length+1)=acc++[r]:=by
   rw[List.take_append,E4 (by omega)]
   simp
  rw[e]at ht
  have hl:(acc++[r]).getLast?=some r:=by simp
  obtain⟨_,d2,d3⟩:=ht.drop hl
  rw[ACO]at d3
  have ih:=R4 (acc:=acc++[r]) (by rw[dn];exact h)
  rw[dn]at ih
  show (if known<r.known then bK known l acc else match acc.getLast? with
   | some s=>if s.a=r.a /\ s.b=r.b then bK known l _ else bK known l _
   | none=>bK known l _)=acc++r::l
  rw[E1 (by omega)]
  cases hg:acc.getLast? with
  | none=>exact ih
  | some s =>
   simp
   rw[E1 (d3 s hg)]
   exact ih
end
section
open Go.Dm
set_option maxRecDepth 10000
structure iu (M M':aj):Prop where
 p : ∀ x∈M.pairs,x∈M'.pairs
 f : ∀ x∈M.facts,x∈M'.facts
 t : ∀ x∈M.tabs,x∈M'.tabs
theorem iu.refl {M:aj}:iu M M:=⟨fun _ h=>h,fun _ h=>h,fun _ h=>h⟩
theorem iu.trans {M M' M'':aj} (h:iu M M') (h':iu M' M''):iu M M'':=⟨fun x q=>h'.p x (h.p x q),fun x q=>h'.f x (h.f x q),fun x q=>h'.t x (h.t x q)⟩
inductive Inc:Tr -> Prop where
 | ret (v:NV):Inc (.ret v)
 | err (e:Int):Inc (.err e)
 | st {u:aj -> aj} {k:aj -> Tr}:(∀ M,iu M (u M)) -> (∀ M,Inc (k M)) -> Inc (.st u k)
 | call {j:bk} {k:NV -> Tr}:(∀ v,Inc (k v)) -> Inc (.call j k)
theorem Inc.run {f:bk -> aj -> Option (NR×aj)} (hf : ∀ j M r M',f j M=some (r,M') -> iu M M') {t:Tr} (ht:Inc t) : ∀ {M:aj} {r:NR} {M':aj},fY f t M=some (r,M') -> iu M M':=by
 induction ht with
 | ret v=>intro M r M' h;cases h;exact .refl
 | err e=>intro M r M' h;cases h;exact .refl
 | st hu _ ih=>intro M r M' h;exact(hu M).trans (ih M h)
 | @call j k _ ih =>
  intro M r M' h
  simp[fY]at h
  cases hj:f j M with
  | none=>grind
  | some p =>
   obtain⟨a,M1⟩:=p
   rw[hj]at h
   cases a with
   | er e=>grind
   | ok v=>exact(hf _ _ _ _ hj).trans (ih v h)
theorem Uf {body:bk -> Tr} (hb : ∀ j,Inc (body j)) : ∀ (n:Nat) (j:bk) (M:aj) (r:NR) (M':aj),kM body n j M=some (r,M') -> iu M M'
 | 0,_,_,_,_,h=>by cases h
 | n+1,j,M,r,M',h=>(hb j).run (fun j M r M'=>Uf hb n j M r M') h
inductive aq (A:aj -> Prop):Tr -> Tr -> Prop where
 | ret (v:NV):aq A (.ret v) (.ret v)
 | err (e:Int):aq A (.err e) (.err e)
 | st {u:aj -> aj} {k k':aj -> Tr}:(∀ M,A (u M) -> aq A (k M) (k' M)) -> aq A (.st u k) (.st u k')
 | call {j:bk} {k k':NV -> Tr}:(∀ v,aq A (k v) (k' v)) -> aq A (.call j k) (.call j k')
theorem aq.refl {A:aj -> Prop} : ∀ t:Tr,aq A t t
 | .ret v => .ret v
 | .err e => .err e
 | .st _ k => .st fun M _=>aq.refl (k M)
 | .call _ k => .call fun v=>aq.refl (k v)
section
variable {A:aj -> Prop} (anti : ∀ M M',iu M M' -> A M' -> A M)
include anti
theorem aq.run {f g:bk -> aj -> Option (NR×aj)} (hf : ∀ j M r M',f j M=some (r,M') -> iu M M') (hg : ∀ j M r M',f j M=some (r,M') -> A M' -> g j M=some (r,M')) {t t':Tr} (h:aq A t t'):Inc t -> ∀ {M:aj} {r:NR} {M':aj},fY f t M=some (r,M') -> A M' -> fY g t' M=some (r,M'):=by
 induction h with
 | ret v=>intro _ M r M' h _;exact h
 | err e=>intro _ M r M' h _;exact h
 | @st u k k' _ ih =>
  intro hi M r M' h ha
  cases hi with
  | st hu hk=>exact ih M (anti _ _ ((hk M).run hf h) ha) (hk M) h ha
 | @call j k k' _ ih =>
  intro hi M r M' h ha
  cases hi with
  | call hk =>
   simp[fY]at h ⊢
   cases hj:f j M with
   | none=>grind
   | some p =>
    obtain⟨a,M1⟩:=p
    rw[hj]at h
    cases a with
    | er e=>grind
    | ok v =>
     rw[hg _ _ _ _ hj (anti _ _ ((hk v).run hf h) ha)]
     grind
theorem Ug {body body':bk -> Tr} (hb : ∀ j,Inc (body j)) (hs : ∀ j,aq A (body j) (body' j)) : ∀ (n:Nat) (j:bk) (M:aj) (r:NR) (M':aj),kM body n j M=some (r,M') -> A M' -> kM body' n j M=some (r,M')
 | 0,_,_,_,_,h,_=>by cases h
 | n+1,j,M,r,M',h,ha=>aq.run anti (Uf hb n) (fun j M r M'=>Ug hb hs n j M r M') (hs j) (hb j) h ha
end
theorem Uh {r:Nm×Int×Int} {M:aj}:iu M (fJ r M):=⟨fun _ h=>h,fun x h=>by
 show x∈gq _ r
 grind[gq],fun _ h=>h⟩
theorem Ui {r:Nm} {M:aj}:iu M (gc r M):=⟨fun _ h=>h,fun _ h=>h,fun x h=>by
 show x∈gq _ r
 grind[gq]⟩
theorem Uj {r:Nm×Int×Int} {M:aj}:r∈(fJ r M).facts:=by
 show r∈gq _ r
 grind[gq]
theorem Uk {r:Nm} {M:aj}:r∈(gc r M).tabs:=by
 show r∈gq _ r
 grind[gq]
theorem NR.inc (r:NR):Inc r.tr:=by cases r<;>first|exact .ret _|exact .err _
theorem EQ.inc (k:Nat) (r:EQ):Inc (r.tr k):=by cases r<;>first|exact .ret _|exact .err _
theorem uq {e:EN} {d:Int} {k:Bool -> Tr} (h : ∀ b,Inc (k b)):Inc (gB e d k) := .call fun v=>by
 split
 ·grind
 ·exact .err _
theorem Ul {d:Int} {k:List NV -> Tr} (h : ∀ l,Inc (k l)) : ∀ (l:List EN) (acc:List NV),Inc (iX d k l acc)
 | [],acc=>h acc
 | _::l,_ => .call fun _=>Ul h l _
theorem Gs {d:Int} {k:Nat -> Tr} (h : ∀ c,Inc (k c)) : ∀ (l:List (Nat×jt)) (c n:Nat),Inc (fo d k l c n)
 | [],c,n=>by
  unfold fo
  split
  ·exact .err _
  ·split
   ·exact .err _
   grind
 | (i,x)::l,c,n=>uq fun b=>by
  split
  ·exact Gs h l _ _
  ·exact Gs h l _ _
theorem anj (W:Wd) (nm:Nm) (vs:List NV):Inc (eU W nm vs):=by
 unfold eU
 split
 ·exact .err _
 ·split
  ·split
   ·exact .err _
   ·split
    ·split
     ·exact .err _
     ·exact .ret _
    ·exact .ret _
  ·exact .err _
theorem ank (O:bV) (W:Wd) (op:Nat) (nm:Nm) (vs:List NV):Inc (ge O W op nm vs):=by
 unfold ge
 split
 ·exact .err _
 ·split
  ·exact .err _
  grind[EQ.inc]
theorem anl (W:Wd) (op:Nat) (nm:Nm) (d:Int):Inc (gD W op nm d):=by
 unfold gD
 split
 ·exact .err _
 ·split
  ·exact .ret _
  ·split
   ·exact .ret _
   ·exact .err _
theorem anm (O:bV) (W:Wd) (op:Nat) (nm:Nm) (md:Int) (vs:List NV):Inc (cS O W op nm md vs):=by
 unfold cS
 split
 ·split
  ·exact .st (fun _=>Uh) fun _=>anl W op nm _
  ·split
   ·exact .st (fun _=>Ui) fun _=>anj W nm vs
   ·split
    ·split
     ·split
      ·exact .err _
      ·exact .ret _
     ·exact .st (fun _=>Uh) fun _=>ank O W op nm vs
    ·split
     ·refine .st (fun _=>Ui) fun _ => ?_
      split
      ·exact .err _
      grind[EQ.inc]
     grind[NR.inc]
 ·exact .err _
theorem ann (nm:Nm) (v:NV):Inc (lT nm v):=by
 unfold lT
 split
 ·exact .call fun v => .ret v
 ·exact .err _
theorem ano (O:bV) (W:Wd) (e:EN) (d:Int):Inc (eA O W e d):=by
 unfold eA
 split
 ·split
  ·exact .ret _
  ·split
   ·exact .ret _
   ·split
    ·refine uq fun b => ?_
     split
     ·exact uq fun c => .ret _
     ·exact .ret _
    ·split
     ·refine uq fun b => ?_
      split
      ·exact .ret _
      ·exact uq fun c => .ret _
     ·split
      ·refine uq fun b => ?_
       split
       ·exact .call fun v => .ret v
       ·exact .call fun v => .ret v
      grind[Ul,ann,anm,O]
 ·exact .err _
theorem anp {p:Nm×Int} {M:aj}:iu M (mJ p M):=⟨fun _ h=>TB _ h,fun _ h=>h,fun _ h=>h⟩
theorem anq (W:Wd) {p:Nm×Int} {k:Tr} (h:Inc k):Inc (j0 W p k) := .st (fun _ => .refl) fun M=>by
 split
 ·exact .err _
 ·refine .st (fun _=>anp) fun M => ?_
  split
  ·exact .err _
  ·refine .st (fun _=>⟨fun _ h=>h,fun _ h=>h,fun _ h=>h⟩) fun M => ?_
   split
   ·exact .err _
   omega
theorem anr (W:Wd) (nm:Nm) (d:Int):Inc (rM W nm d) := .st (fun _ => .refl) fun M=>by
 split
 ·exact .ret _
 ·refine anq W (Gs (fun c => .call fun v => ?_) _ _ _)
  split
  ·exact .st (fun _=>⟨fun _ h=>h,fun _ h=>h,fun _ h=>h⟩) fun M => .ret _
  ·exact .err _
theorem ant (O:bV) (W:Wd) (j:bk):Inc (bQ O W j):=by
 cases j with
 | term e d=>exact ano O W e d
 | pair nm d=>exact anr W nm d
inductive ju {α β:Type} (R:α -> β -> Prop):List α -> List β -> Prop where
 | nil:ju R [] []
 | cons {a:α} {b:β} {l:List α} {m:List β}:R a b -> ju R l m -> ju R (a::l) (b::m)
theorem ju.imp {α β:Type} {R S:α -> β -> Prop} (h : ∀ a b,R a b -> S a b) : ∀ {l:List α} {m:List β},ju R l m -> ju S l m
 | _,_,.nil => .nil
 | _,_,.cons g r => .cons (h _ _ g) (ju.imp h r)
structure Um (W W':Wd) (p:Nm×Int):Prop where
 k:W.kind p.1=W'.kind p.1
 c:ju (fun a b=>a.2.when=b.2.when /\ (W.clause a.1).thn=(W'.clause b.1).thn) (W.cl p.1 p.2) (W'.cl p.1 p.2)
structure Gu (W W':Wd) (x:Nm×Int×Int):Prop where
 h : ∃ l l',W.view x.1 = .ok l /\ W'.view x.1 = .ok l' /\ Canon l /\ Canon l' /\ ci l=ci l' /\ ∀ d,x.2.1 <= d -> d<x.2.2 -> bF l d=bF l' d
structure jv (W W':Wd) (M:aj):Prop where
 p : ∀ x∈M.pairs,Um W W' x
 f : ∀ x∈M.facts,Gu W W' x
 t : ∀ x∈M.tabs,W.tab x=W'.tab x
section
variable {W W':Wd} {O:bV}
theorem jv.anti (M M':aj) (h:iu M M') (a:jv W W' M'):jv W W' M:=⟨fun x q=>a.p x (h.p x q),fun x q=>a.f x (h.f x q),fun x q=>a.t x (h.t x q)⟩
theorem anu {A:aj -> Prop} {op:Nat} {nm:Nm} {d:Int} (h:Gu W W' (nm,d,d+1)):aq A (gD W op nm d) (gD W' op nm d):=by
 obtain⟨l,l',h1,h2,_,_,_,h6⟩:=h.h
 unfold gD
 rw[h1,h2]
 simp
 rw[h6 d (sd _) (by grind)]
 exact .refl _
theorem anv {A:aj -> Prop} {op:Nat} {nm:Nm} {vs:List NV} (h:Gu W W' (nm,vs[0]!.i,vs[1]!.i)):aq A (ge O W op nm vs) (ge O W' op nm vs):=by
 obtain⟨l,l',h1,h2,h3,h4,h5,h6⟩:=h.h
 have:gz l vs[0]!.i vs[1]!.i=gz l' vs[0]!.i vs[1]!.i:=by
  grind[gz,am8]
 unfold ge
 rw[h1,h2]
 simp only
 rw[this]
 exact .refl _
theorem anw {op:Nat} {nm:Nm} {md:Int} {vs:List NV}:aq (jv W W') (cS O W op nm md vs) (cS O W' op nm md vs):=by
 unfold cS
 split
 ·split
  ·exact .st fun M a=>anu (a.f _ Uj)
  ·split
   ·refine .st fun M a => ?_
    unfold eU
    rw[a.t _ Uk]
    exact .refl _
   ·split
    ·split
     ·exact .refl _
     ·exact .st fun M a=>anv (a.f _ Uj)
    ·split
     ·refine .st fun M a => ?_
      rw[a.t _ Uk]
      exact .refl _
     ·exact .refl _
 ·exact .refl _
theorem anx {A:aj -> Prop} {e:EN} {d:Int} {k k':Bool -> Tr} (h : ∀ b,aq A (k b) (k' b)):aq A (gB e d k) (gB e d k') := .call fun v=>by
 split
 ·grind
 ·exact .err _
theorem Un {A:aj -> Prop} {d:Int} {k k':List NV -> Tr} (h : ∀ l,aq A (k l) (k' l)) : ∀ (l:List EN) (acc:List NV),aq A (iX d k l acc) (iX d k' l acc)
 | [],acc=>h acc
 | _::l,_ => .call fun _=>Un h l _
theorem Gv {A:aj -> Prop} {d:Int} {k k':Nat -> Tr} : ∀ {l l':List (Nat×jt)} {c c' n:Nat},ju (fun a b=>a.2.when=b.2.when /\ aq A (k a.1) (k' b.1)) l l' -> (n≠0 -> aq A (k c) (k' c')) -> aq A (fo d k l c n) (fo d k' l' c' n)
 | [],_,c,c',n,.nil,h=>by
  unfold fo
  split
  ·exact .err _
  ·split
   ·exact .err _
   grind
 | (i,x)::l,(i',x')::l',c,c',n,.cons g r,h=>by
  unfold fo
  rw[show x.when=x'.when from g.1]
  refine anx fun b => ?_
  split
  ·exact Gv r fun _=>g.2
  ·exact Gv r h
theorem anz {e:EN} {d:Int}:aq (jv W W') (eA O W e d) (eA O W' e d):=by
 unfold eA
 split
 ·split
  ·exact .refl _
  ·split
   ·exact .refl _
   ·split
    ·exact .refl _
    ·split
     ·exact .refl _
     ·split
      ·exact .refl _
      ·refine Un (fun vs => ?_) _ _
       split
       ·exact .refl _
       ·exact anw
 ·exact .refl _
theorem anA {p:Nm×Int} {k k':Tr} (h:Um W W' p -> aq (jv W W') k k'):aq (jv W W') (j0 W p k) (j0 W' p k') := .st fun M _=>by
 split
 ·exact .err _
 ·refine .st fun M a => ?_
  have hp:=a.p p (by show p∈M.pairs++[p];simp)
  split
  ·exact .err _
  ·refine .st fun M _ => ?_
   rw[<- hp.k]
   split
   ·exact .err _
   grind
theorem anB {nm:Nm} {d:Int}:aq (jv W W') (rM W nm d) (rM W' nm d) := .st fun M _=>by
 split
 ·exact .refl _
 ·refine anA fun hp=>Gv (hp.c.imp fun a b g=>⟨g.1, ?_⟩) (fun h=>absurd rfl h)
  rw[g.2, <- hp.k]
  exact .refl _
theorem anC (j:bk):aq (jv W W') (bQ O W j) (bQ O W' j):=by
 cases j with
 | term e d=>exact anz
 | pair nm d=>exact anB
theorem Gw {j:bk} {M:aj} {r:NR} {M':aj} (h:bO (bQ O W) j M r M') (a:jv W W' M'):bO (bQ O W') j M r M':=by
 obtain⟨n,h⟩:=h
 exact⟨n,Ug jv.anti (ant O W) anC n j M r M' h a⟩
end
end
section
open Go.Dm
set_option maxRecDepth 10000
structure Hs(H:ab)(L:List (Nat×an)):Prop where
 nd:(L.map Prod.fst).Nodup
 at_:∀p∈L,H[p.1]?=some p.2
section
variable{H:ab}{L A B:List (Nat×an)}{i:Nat}{x y:an}
def Hs.get(h:Hs H (A++(i,x)::B)):H[i]?=some x:=h.at_ (i,x) (by simp)
def Hs.app(h:Hs H L)(t:ab):Hs (H++t) L:=⟨h.nd,λp m=>by rw[X0 (aw (h.at_ p m))];exact h.at_ p m⟩
variable{z:List (Nat×an)}
def Hs.perm(h:Hs H L)(p:L.Perm z):Hs H z:=⟨(p.map _).nodup_iff.1 h.nd,λq m=>h.at_ q (p.mem_iff.2 m)⟩
def Hs.sub(h:Hs H L)(p:z.Sublist L):Hs H z:=⟨h.nd.sublist (p.map _),λq m=>h.at_ q (p.subset m)⟩
def Hs.set(h:Hs H (A++(i,x)::B)):Hs (H.set i y) (A++(i,y)::B):=by
 have a:=h.nd;simp[hI,fA]at a;have hi:=aw h.get;have b:i∉A.map _:=λm=>(AAL.1 a).2.2 i m i N2 rfl;have c:=(yy.1 (AAL.1 a).2.1).1;refine⟨by grind,λp m=>?_⟩;rcases bN.1 m with m|m;·have:i≠p.1:=λe=>b (e▸n4 m);rw[Hy this];exact h.at_ p (TB _ m)
 rcases dA.1 m with rfl|m;·grind
 have:i≠p.1:=λe=>c (e▸n4 m);rw[Hy this];exact h.at_ p (fd _ (K2 _ m))
def Hs.new(h:Hs H L):Hs (H++[x]) ((H.length,x)::L):=by
 refine⟨?_,λp m=>?_⟩;·simp only[fA,yy];refine⟨λm=>?_,h.nd⟩;obtain⟨p,a,e⟩:=f0.1 m;have:=aw (h.at_ p a);omega
 rcases dA.1 m with rfl|m;·simp
 exact(h.app [x]).at_ p m
def Hs.newm(h:Hs H (A++B)):Hs (H++[x]) (A++(H.length,x)::B):=(h.new).perm (List.perm_middle.symm)
end
inductive LR(w:Nat):D->List (List D)->List (Nat×an)->Prop where|nil:LR w .nil [] []|mu(a:Nat)(rows:List (List D)):rows≠[]->LR w (.mu a rows.length 0 rows.length) rows [(a,.ar w rows none true false)]
def LR.c1{w:Nat}{x:D}{rows:List (List D)}{L:List (Nat×an)}(h:LR w x rows L):x.cellsN 1=some [x]:=by cases h<;>rfl
def LR.app{w bytes:Nat}{x:D}{rows:List (List D)}{L A B:List (Nat×an)}{X:ab}{r:List D}(h:LR w x rows L)(hs:Hs X (A++(L++B)))(b:r.all D.flat=true)(hr:(rows.length+1)*bytes<=140737488355328)(f:rows.length<140737488355328):∃c d e,bu X x (.sv w [r]) w bytes true=some (c,d)/\LR w c (rows++[r]) e/\Hs d (A++(e++B)):=by cases h with|nil=>exact⟨_,_,_,tc b (by grind),.mu _ [r] (by simp),hs.newm⟩|mu a rows g=>have:=LR.mu (w:=w) a (rows++[r]) (by simp);rw[Rp]at this;exact⟨_,_,_,E0 hs.get rfl b hr f,this,hs.set⟩
abbrev PK:Type:=Nm×Int
def pk(p:PK):D:=.ag [.s p.1,.i .i64 p.2]
def wC:jj (.st [2,1]) pk:=by refine⟨λa=>rfl,λa b=>?_⟩;obtain⟨n,d⟩:=a;obtain⟨m,e⟩:=b;show cV [2,1] [.s n,.i .i64 d] [.s m,.i .i64 e]=_;simp only[cV,fQ,C4,C5,wx];by_cases c:n=m<;>by_cases f:d=e<;>simp[c,f]
abbrev RK:Type:=Nm×Int×Int
def wE(p:RK):D:=.ag [.s p.1,.i .i64 p.2.1,.i .i64 p.2.2]
def Fj:jj (.st [2,1,1]) wE:=by refine⟨λa=>rfl,λa b=>?_⟩;obtain⟨n,d,c⟩:=a;obtain⟨m,e,f⟩:=b;show cV [2,1,1] [.s n,.i .i64 d,.i .i64 c] [.s m,.i .i64 e,.i .i64 f]=_;simp only[cV,fQ,C4,C5,wx];by_cases g:n=m<;>by_cases h:d=e<;>by_cases j:c=f<;>simp[g,h,j]
def kS(s:Nm):D:=.s s
def gS:jj (.c 2) kS:=yM
def kB(x:Bool):D:=.b x
def kA(a:AV):D:=.ag a.c
def aI{κ β:Type}[DecidableEq κ](k:κ)(m:List (κ×β)):Option β:=m.lookup k
def R5{α β:Type}{c d:BEq α}(e:@LawfulBEq α c)(f:@LawfulBEq α d)(k:α):∀l:List (α×β),@List.lookup α β c k l=@List.lookup α β d k l|[]=>rfl|(a,b)::l=>by have g:=R5 e f k l;grind
def ajI{κ β:Type}[DecidableEq κ][BEq κ][LawfulBEq κ]{k:κ}{m:List (κ×β)}:m.lookup k=aI k m:=R5 inferInstance inferInstance k m
def iS{κ β:Type}[DecidableEq κ]{k:κ}{v:β}:∀{m:List (κ×β)},aI k m=some v->(k,v)∈m
 |(a,b)::m,h=>by
  unfold aI at h;by_cases e:k=a;·grind
  have:(k==a)=false:=by grind
  simp[List.lookup,this]at h;exact K2 _ (iS h)
def Ap{κ β γ:Type}[DecidableEq κ]{k:κ}{g:β->γ}:∀{m:List (κ×β)},aI k (m.map λp=>(p.1,g p.2))=(aI k m).map g|[]=>rfl|(a,b)::m=>by have c:=Ap (k:=k) (g:=g) (m:=m);grind[aI]
theorem ro{κ β:Type}[DecidableEq κ]{k a:κ}{v b:β}:∀{m:List (κ×β)},(a,b)∈aZ k v m->(a=k/\b=v)\/(a,b)∈m
 |[],h=>.inl (by grind[aZ])|p::m,h=>by
  unfold aZ at h;split at h;·grind
  rcases dA.1 h with h|h;·grind
  exact(ro h).imp id (K2 _)
def tg{κ β γ:Type}[DecidableEq κ]{k:κ}{v:β}{g:β->γ}:∀{m:List (κ×β)},(aZ k v m).map (λp=>(p.1,g p.2))=aZ k (g v) (m.map λp=>(p.1,g p.2))
 |[]=>rfl|p::m=>by
  simp[aZ,fA];split;·rfl
  rw[fA,tg]
def ij(p:PK):List D:=[.s p.1,.i .i64 p.2]
def iT(p:RK):List D:=[.s p.1,.i .i64 p.2.1,.i .i64 p.2.2]
def jp(s:Nm):List D:=[.s s]
structure bW where
 v:Nat
 mb:Nat
 mv:Nat
 mr:Nat
 ml:Nat
 b:Nat
 kd:Nat
 fm:Nat
 vm:Nat
 tm:Nat
 rm:Nat
structure Cl where
 nm:Nm
 lb:Nm
 frm:Int
 to:Int
 known:Int
 off:Bool
 w:Ex
 t:Ex
instance:Inhabited Cl:=⟨⟨[],[],0,0,0,false,default,default⟩⟩
def Cl.row(c:Cl):List D:=[.s c.nm,.s c.lb,.i .i64 c.frm,.i .i64 c.to,.i .i64 c.known,.b c.off]++(c.w.row++c.t.row)
def Cl.n(c:Cl):jt:=⟨c.nm,c.lb,c.frm,c.to,c.known,c.off,c.w.en,c.t.en⟩
structure BW where
 pn:Nm
 defs:D
 tabs:D
 clsD:D
 cls:List Cl
 known:Int
 kinds:List (Nm×Nat)grp:List (Nm×List Fc)tbs:List (Nm×Tb)
def BW.vw(B:BW)(k:Nm):List aB:=match aI k B.grp with|some l=>gV (cL (l.map Fc.n) k B.known)|none=>[]
def Tb.forced(t:Tb)(a:Int):List bU:=bK a (t.rows.map Rw.n) []
structure BW.ok(B:BW):Prop where
 g:∀p∈B.grp,p.2≠[]/\p.2.length<40/\eJ p.2=true
 t:∀p∈B.tbs,p.2.v=true/\p.2.name=p.1
 c:Sl 24 (B.cls.map Cl.row) B.clsD
 cl:B.cls.length<1000000
 x:eW B.defs=true/\eW B.tabs=true
 d:B.defs.flat=true/\B.tabs.flat=true
 k:B.known<=9223372036854775807
structure ES where
 P:D
 F:D
 T:D
 aP:List (Nat×an)aF:List (Nat×an)aT:List (Nat×an)vs:List (PK×AV)vws:List (Nm×D)rws:List (Nm×D)g:List (Nm×Nat×List Fc×Bool)
def t9(a:List PK):List (D×D):=de pk kB (iJ a)
def ua(vs:List (PK×AV)):List (D×D):=de pk kA vs
def wF(l:List RK):List (D×D):=de wE kB (iJ l)
def wG(l:List Nm):List (D×D):=de kS kB (iJ l)
def dE(l:List (Nm×D)):List (D×D):=de kS id l
def tE(l:List (Nm×Tb)):List (D×D):=de kS (λt:Tb=>.ag t.c) l
def gE(g:List (Nm×Nat×List Fc×Bool)):List (D×D):=de kS (λq:Nat×List Fc×Bool=>.mu q.1 q.2.1.length 0 q.2.1.length) g
def gL(g:List (Nm×Nat×List Fc×Bool)):List (Nat×an):=g.map λq=>(q.2.1,.ar 11 (q.2.2.1.map Fc.c) none true q.2.2.2)
def rp(I:bW)(B:BW)(S:ES)(M:aj):List (Nat×an):=[(I.v,.hb 100 [.hp I.b 0,.mp I.mb,.mp I.mv,.mp I.mr,.mp I.ml,S.P,S.F,S.T]),(I.mb,.mp (t9 M.begun)),(I.mv,.mp (ua S.vs)),(I.mr,.mp (wF M.facts)),(I.ml,.mp (wG M.tabs)),(I.b,.hb 159 [.s B.pn,B.defs,B.tabs,B.clsD,.i .i64 B.known,.mp I.kd,.mp I.fm,.mp I.vm,.mp I.tm,.mp I.rm]),(I.kd,.mp (kE B.kinds)),(I.fm,.mp (gE S.g)),(I.vm,.mp (dE S.vws)),(I.tm,.mp (tE B.tbs)),(I.rm,.mp (dE S.rws))]
structure bh(I:bW)(B:BW)(M:aj)(S:ES)(Fr:List (Nat×an))(H:ab):Prop where
 hs:Hs H (rp I B S M++(S.aP++(S.aF++(S.aT++(gL S.g++Fr)))))p:LR 2 S.P (M.pairs.map ij) S.aP
 f:LR 3 S.F (M.facts.map iT) S.aF
 t:LR 1 S.T (M.tabs.map jp) S.aT
 v:S.vs.map (λp=>(p.1,p.2.v))=M.vals
 vo:∀p∈S.vs,p.2.ok
 g:S.g.map (λq=>(q.1,q.2.2.1))=B.grp
 w:∀k x,(k,x)∈S.vws->∃m:List SV,Sl 8 (m.map SV.c) x/\m.map SV.n=B.vw k
 r:∀k x,(k,x)∈S.rws->∃t,aI k B.tbs=some t/\∃m:List RV,Sl 7 (m.map RV.c) x/\m.map RV.n=t.forced B.known
structure EV(I:bW)(B:BW)(M:aj)(Fr:List (Nat×an))(H:ab):Prop where h:∃S,bh I B M S Fr H
section
variable{I:bW}{B:BW}{M:aj}{S:ES}{Fr:List (Nat×an)}{H:ab}
def bh.hv(h:bh I B M S Fr H):H[I.v]?=some (.hb 100 [.hp I.b 0,.mp I.mb,.mp I.mv,.mp I.mr,.mp I.ml,S.P,S.F,S.T]):=h.hs.get (A:=[])
def bh.hmb(h:bh I B M S Fr H):H[I.mb]?=some (.mp (t9 M.begun)):=h.hs.get (A:=[_])
def bh.hmv(h:bh I B M S Fr H):H[I.mv]?=some (.mp (ua S.vs)):=h.hs.get (A:=[_,_])
def bh.hmr(h:bh I B M S Fr H):H[I.mr]?=some (.mp (wF M.facts)):=h.hs.get (A:=[_,_,_])
def bh.hml(h:bh I B M S Fr H):H[I.ml]?=some (.mp (wG M.tabs)):=h.hs.get (A:=[_,_,_,_])
def bh.hb(h:bh I B M S Fr H):H[I.b]?=some (.hb 159 [.s B.pn,B.defs,B.tabs,B.clsD,.i .i64 B.known,.mp I.kd,.mp I.fm,.mp I.vm,.mp I.tm,.mp I.rm]):=h.hs.get (A:=[_,_,_,_,_])
def bh.hkd(h:bh I B M S Fr H):H[I.kd]?=some (.mp (kE B.kinds)):=h.hs.get (A:=[_,_,_,_,_,_])
def bh.hfm(h:bh I B M S Fr H):H[I.fm]?=some (.mp (gE S.g)):=h.hs.get (A:=[_,_,_,_,_,_,_])
def bh.hvm(h:bh I B M S Fr H):H[I.vm]?=some (.mp (dE S.vws)):=h.hs.get (A:=[_,_,_,_,_,_,_,_])
def bh.htm(h:bh I B M S Fr H):H[I.tm]?=some (.mp (tE B.tbs)):=h.hs.get (A:=[_,_,_,_,_,_,_,_,_])
def bh.hrm(h:bh I B M S Fr H):H[I.rm]?=some (.mp (dE S.rws)):=h.hs.get (A:=[_,_,_,_,_,_,_,_,_,_])
def bh.app(h:bh I B M S Fr H)(t:ab):bh I B M S Fr (H++t):={h with hs:=h.hs.app t}
def EV.app(h:EV I B M Fr H)(t:ab):EV I B M Fr (H++t):=let⟨S,h⟩:=h.h;⟨S,h.app t⟩
def bh.new{x:an}(h:bh I B M S Fr H):bh I B M S ((H.length,x)::Fr) (H++[x]):={h with hs:=by have:=h.hs;simp[<-List.append_assoc]at this⊢;exact this.newm}
def EV.new{x:an}(h:EV I B M Fr H):EV I B M ((H.length,x)::Fr) (H++[x]):=let⟨S,h⟩:=h.h;⟨S,h.new⟩
def bh.set{i:Nat}{x y:an}(h:bh I B M S ((i,x)::Fr) H):bh I B M S ((i,y)::Fr) (H.set i y):={h with hs:=by have:=h.hs;simp[<-List.append_assoc]at this⊢;exact this.set}
def EV.set{i:Nat}{x y:an}(h:EV I B M ((i,x)::Fr) H):EV I B M ((i,y)::Fr) (H.set i y):=let⟨S,h⟩:=h.h;⟨S,h.set⟩
def bh.fr{i:Nat}{x:an}(h:bh I B M S ((i,x)::Fr) H):H[i]?=some x:=by have:=h.hs;simp[<-List.append_assoc]at this;exact this.get
def EV.fr{i:Nat}{x:an}(h:EV I B M ((i,x)::Fr) H):H[i]?=some x:=let⟨_,h⟩:=h.h;h.fr
def bh.drop{p:Nat×an}(h:bh I B M S (p::Fr) H):bh I B M S Fr H:={h with hs:=by refine h.hs.sub ?_;grind}
def EV.drop{p:Nat×an}(h:EV I B M (p::Fr) H):EV I B M Fr H:=let⟨S,h⟩:=h.h;⟨S,h.drop⟩
end
end
section
open Go.Dm
set_option maxRecDepth 10000
section
variable{I:bW}{B:BW}{M:aj}{Fr:List (Nat×an)}{H:ab}
def nO{κ β:Type}[DecidableEq κ]{c:KK}{a:κ->D}{d:β->D}(h:jj c a)(k:κ)(m:List (κ×β))(zero:D):eP c (a k) true zero (some (.mp (de a d m)))=some (.tu [((aI k m).map d).getD zero,.b (aI k m).isSome]):=sY h k m true zero
def R6{κ β:Type}[DecidableEq κ]{b:KK}{a:κ->D}{c:β->D}(h:jj b a)(k:κ)(m:List (κ×β))(zero:D):eP b (a k) false zero (some (.mp (de a c m)))=some (((aI k m).map c).getD zero):=sY h k m false zero
def Fk{κ:Type}[DecidableEq κ]{c:KK}{a:κ->D}(d:jj c a){p:κ}{l:List κ}(h:p∈l):eP c (a p) false (.b false) (some (.mp (de a kB (iJ l))))=some (.b true):=by rw[sY d p _ false _,C6 p l,G1 h];rfl
def Fl{κ:Type}[DecidableEq κ]{c:KK}{a:κ->D}(d:jj c a){p:κ}{l:List κ}(h:p∉l):eP c (a p) false (.b false) (some (.mp (de a kB (iJ l))))=some (.b false):=by rw[sY d p _ false _,C6 p l,E1 h];rfl
def Fm{κ:Type}[DecidableEq κ]{c:KK}{a:κ->D}(d:jj c a){p:κ}{l:List κ}(h:p∉l){G:ab}{i:Nat}:jN G c i (a p) (.b true) (some (.mp (de a kB (iJ l))))=some (G.set i (.mp (de a kB (iJ (l++[p]))))):=by rw[<-M7 p l h];grind[oJ,kB]
def Fo(h:EV I B M Fr H)(C:M.facts.length<=1000000000){k:Nm}{f t:Int}:ac VS 331 [.hp I.v 0,.s k,.i .i64 f,.i .i64 t] H (λr=>∃j,r=.ret (.tu []) j/\EV I B (fJ (k,f,t) M) Fr j):=by
 obtain⟨S,a⟩:=h.h;have d:=a.hv;have hr:=a.hmr;have e:=aw d;have p:=aw hr;unfold wF at hr;refine .body ahq rfl rfl ?_;by_cases g:(k,f,t)∈M.facts
 ·have b:=Fk Fj g;simp[wE]at b;have l:fJ (k,f,t) M=M:=by simp_all[fJ,gq]
  simp[go_sem,simprocAttr,XJ,d,hr,b];grind
 have b:=Fl Fj g;simp[wE]at b;have m:=λ{G i}=>Fm Fj g (G:=G) (i:=i);simp[wE]at m;have l:fJ (k,f,t) M={M with facts:=M.facts++[(k,f,t)]}:=by grind[fJ,gq]
 simp only[go_sem,simprocAttr,XJ,d,hr,b,m];refine⟨e,p,e,?_⟩;have c:=a.hs.set (A:=[_,_,_]) (y:=.mp (wF (M.facts++[(k,f,t)])));unfold wF at c;generalize E:List.set H I.mr _=H1 at c⊢;have q:=c.get (A:=[]);obtain⟨u,J,v,n,w,o⟩:=a.f.app (bytes:=32) (r:=iT (k,f,t)) (A:=rp I B S {M with facts:=M.facts++[(k,f,t)]}++S.aP) (by exact c) rfl (by grind) (by grind);simp[iT]at n;have x:=o.get (A:=[]);have z:=w.c1;simp[go_sem,simprocAttr,q,n,x,z];refine⟨e,?_⟩;rw[l];refine⟨{S with F:=u,aF:=v},⟨o.set (A:=[]),a.p,by grind,a.t,a.v,a.vo,a.g,a.w,a.r⟩⟩
def Fp(h:EV I B M Fr H)(v:M.tabs.length<=1000000000){k:Nm}:ac VS 332 [.hp I.v 0,.s k] H (λr=>∃f,r=.ret (.tu []) f/\EV I B (gc k M) Fr f):=by
 obtain⟨S,a⟩:=h.h;have g:=a.hv;have hr:=a.hml;unfold wG at hr;refine .body ahr rfl rfl ?_;by_cases d:k∈M.tabs
 ·have b:=Fk gS d;simp[kS]at b;have j:gc k M=M:=by simp_all[gc,gq]
  simp[go_sem,simprocAttr,XK,g,hr,b];grind
 have b:=Fl gS d;simp[kS]at b;have l:=λ{G i}=>Fm gS d (G:=G) (i:=i);simp[kS]at l;have j:gc k M={M with tabs:=M.tabs++[k]}:=by grind[gc,gq]
 simp[go_sem,simprocAttr,XK,g,hr,b,l];have c:=a.hs.set (A:=[_,_,_,_]) (y:=.mp (wG (M.tabs++[k])));unfold wG at c;generalize w:List.set H I.ml _=H1 at c⊢;have n:=c.get (A:=[]);obtain⟨o,x,p,m,q,e⟩:=a.t.app (bytes:=16) (r:=jp k) (A:=rp I B S {M with tabs:=M.tabs++[k]}++(S.aP++S.aF)) (by simp[dn];exact c) rfl (by grind) (by grind);simp[jp]at m;simp[dn]at e;have t:=e.get (A:=[]);have u:=q.c1;simp[go_sem,simprocAttr,n,m,t,u];rw[j];refine⟨{S with T:=o,aT:=p},⟨e.set (A:=[]),a.p,a.f,by grind,a.v,a.vo,a.g,a.w,a.r⟩⟩
def R7(h:EV I B M Fr H){k:Nm}{K:CR->Prop}(d:K (.ret (.tu [.i .u8 ((aI k B.kinds).getD 0:Nat),.b (aI k B.kinds).isSome]) H)):ac VS 92 [.hp I.b 0,.s k] H K:=by
 obtain⟨S,a⟩:=h.h;have e:=a.hb;have f:=a.hkd;have g:eP (.c 2) (.s k) true (.i .u8 0) (some (.mp (kE B.kinds)))=some (.tu [.i .u8 ((aI k B.kinds).getD 0),.b (aI k B.kinds).isSome]):=by refine(nO gS k _ _).trans ?_;cases aI k _<;>rfl
 refine .body agG rfl rfl ?_;simp[go_sem,simprocAttr,aoT,e,f,g];exact d
theorem wH{κ β:Type}[DecidableEq κ]{k:κ}{v:β}{m:List (κ×β)}:aI k ((k,v)::m)=some v:=by grind[aI]
theorem wI{κ β:Type}[DecidableEq κ]{k a:κ}{v:β}{m:List (κ×β)}(h:k≠a):aI k ((a,v)::m)=aI k m:=by grind[aI]
def R8{κ β:Type}[DecidableEq κ]{k:κ}{q:β}:∀{g:List (κ×β)},aI k g=some q->∃A C,g=A++(k,q)::C/\∀a,aI k (A++(k,a)::C)=some a
 |(b,c)::g,h=>by
  by_cases e:k=b;·subst e;rw[wH]at h;cases h;exact⟨[],g,rfl,λ_=>wH⟩
  rw[wI e]at h;obtain⟨A,C,rfl,d⟩:=R8 h;grind[wI]
def bh.lock{S:ES}(h:bh I B M S Fr H){k:Nm}{a:Nat}{l:List Fc}{lk:Bool}(d:aI k S.g=some (a,l,lk)):H[a]?=some (.ar 11 (l.map Fc.c) none true lk)/\∃g,bh I B M {S with g:=g} Fr (H.set a (.ar 11 (l.map Fc.c) none true true)):=by
 obtain⟨A,C,b,j⟩:=R8 d;have hs:=h.hs;have e:gL S.g=gL A++(a,.ar 11 (l.map Fc.c) none true lk)::gL C:=by rw[b];simp[gL]
 have f:gL (A++(k,a,l,true)::C)=gL A++(a,.ar 11 (l.map Fc.c) none true true)::gL C:=by simp[gL]
 have i:gE (A++(k,a,l,true)::C)=gE S.g:=by rw[b];simp[gE,de]
 rw[e]at hs;have c:Hs H ((rp I B S M++(S.aP++(S.aF++(S.aT++gL A))))++(a,.ar 11 (l.map Fc.c) none true lk)::(gL C++Fr)):=by simpa only[dn,T1]using hs
 refine⟨c.get,A++(k,a,l,true)::C,⟨?_,h.p,h.f,h.t,h.v,h.vo,?_,h.w,h.r⟩⟩;·have:=c.set (y:=.ar 11 (l.map Fc.c) none true true);rw[f,show rp I B {S with g:=A++(k,a,l,true)::C} M=rp I B S M by unfold rp;simp[i]];simpa only[dn,T1]using this
 rw[<-h.g,b];simp
def bh.noteV{S:ES}(h:bh I B M S Fr H){k:Nm}{y:D}(a:∃m:List SV,Sl 8 (m.map SV.c) y/\m.map SV.n=B.vw k):bh I B M {S with vws:=aZ k y S.vws} Fr (H.set I.vm (.mp (dE (aZ k y S.vws)))):=⟨h.hs.set (A:=[_,_,_,_,_,_,_,_]),h.p,h.f,h.t,h.v,h.vo,h.g,λb c m=>by
 rcases ro m with⟨rfl,rfl⟩|m;·exact a
 exact h.w b c m,h.r⟩
def bh.noteR{S:ES}(h:bh I B M S Fr H){k:Nm}{y:D}(a:∃t,aI k B.tbs=some t/\∃m:List RV,Sl 7 (m.map RV.c) y/\m.map RV.n=t.forced B.known):bh I B M {S with rws:=aZ k y S.rws} Fr (H.set I.rm (.mp (dE (aZ k y S.rws)))):=⟨h.hs.set (A:=[_,_,_,_,_,_,_,_,_,_]),h.p,h.f,h.t,h.v,h.vo,h.g,h.w,λb c m=>by
 rcases ro m with⟨rfl,rfl⟩|m;·exact a
 exact h.r b c m⟩
def R9{k:Nm}{y:D}{l:List (Nm×D)}{G:ab}{i:Nat}:jN G (.c 2) i (.s k) y (some (.mp (dE l)))=some (G.set i (.mp (dE (aZ k y l)))):=oJ (ev:=id) gS i k y l
structure VwR(I:bW)(B:BW)(M:aj)(Fr:List (Nat×an))(k:Nm)(r:CR):Prop where h:∃(y:D)(m:List SV)(H':ab),r=.ret y H'/\Sl 8 (m.map SV.c) y/\m.map SV.n=B.vw k/\EV I B M Fr H'
def Fs(P:B.ok)(h:EV I B M Fr H){k:Nm}:ac VS 151 [.hp I.b 0,.s k] H (VwR I B M Fr k):=by
 obtain⟨S,e⟩:=h.h;have n:=e.hb;have p:=e.hvm;have r:=e.hfm;have d:eP (.c 2) (.s k) true .nil (some (.mp (dE S.vws)))=some (.tu [(aI k S.vws).getD .nil,.b (aI k S.vws).isSome]):=by refine(nO gS k S.vws .nil).trans ?_;grind
 have w:=aw n;refine .body agN rfl rfl ?_;cases t:aI k S.vws with|some x=>obtain⟨m,m1,m2⟩:=e.w k x (iS t);rw[t]at d;simp[eD,ot]at d;simp[go_sem,simprocAttr,I0,n,p,d];constructor<;>grind|none=>
 rw[t]at d;simp[sa,oy]at d;have f:eP _ (.s k) false .nil (some (.mp (gE S.g)))=some _:=R6 gS k S.g .nil;have j:(aI k S.g).map (λq=>q.2.1)=aI k B.grp:=by rw[<-e.g,Ap (g:=λq:Nat×List Fc×Bool=>q.2.1)]
 cases u:aI k S.g with|none=>
 rw[u]at f j;simp[vy,sa]at f j;have o:B.vw k=[]:=by grind[BW.vw]
 simp[go_sem,simprocAttr,I0,n,p,r,d,f];exact⟨.nil,[],H,rfl,.nil rfl,o.symm,h⟩|some q=>
 obtain⟨a,l,lk⟩:=q;rw[u]at f j;simp[ef,eD]at f j;have o:B.vw k=gV (cL (l.map Fc.n) k B.known):=by grind[BW.vw]
 obtain⟨g1,z,A⟩:=P.g (k,l) (iS j.symm);obtain⟨y,m,Q,C,E⟩:=aiS (l:=l) .im z A (key:=k) (known:=B.known);obtain⟨U,g,v⟩:=e.lock u;simp only at g1 z A;have V:aK H a l.length=some (11,l.map Fc.c,none,true,lk):=by simp[Dm.aK,U]
 have W:aX bE H [.mu a l.length 0 l.length,.s k,.i .i64 B.known]=some ([.im 11 (l.map Fc.c),.s k,.i .i64 B.known],H.set a (.ar 11 (l.map Fc.c) none true true)):=by simp only[go_sem,V];simp[E4]
 have F:=λ{K}=>fX (K:=K) Qe rfl Q W;simp[zu,show Bt.own=false from rfl]at F;have X:(l.length:Int)>0:=by have:=V2.2 g1;omega
 have ll:∀{H:ab},dj H 1 (.mu a l.length 0 l.length)=some (.i .i64 l.length):=λ{H}=>rfl;simp only[go_sem,simprocAttr,I0,n,p,r,d,f,X,F];have J:=v.hb;have L:=v.hvm;have N:=v.noteV ⟨m,C,E.trans o.symm⟩;generalize List.set H a _=H1 at J L N⊢;have Y:=λ{G:ab}{K:CR->Prop}=>ki (H:=G) (K:=K);have Z:=λ{G i}=>R9 (k:=k) (y:=y) (l:=S.vws) (G:=G) (i:=i);refine⟨w,aw r,w,?_⟩;simp[go_sem,simprocAttr,Y,J,L,Z];exact⟨y,m,_,rfl,C,E.trans o.symm,_,N⟩
structure RwR(I:bW)(B:BW)(M:aj)(Fr:List (Nat×an))(t:Tb)(r:CR):Prop where h:∃(y:D)(m:List RV)(H':ab),r=.ret y H'/\Sl 7 (m.map RV.c) y/\m.map RV.n=t.forced B.known/\EV I B M Fr H'
def Sa(v:B.ok)(h:EV I B M Fr H){k:Nm}{t:Tb}(g:aI k B.tbs=some t):ac VS 153 [.hp I.b 0,.ag t.c] H (RwR I B M Fr t):=by
 obtain⟨S,d⟩:=h.h;have j:=d.hb;have e:=d.hrm;have a:eP (.c 2) (.s t.name) true .nil (some (.mp (dE S.rws)))=some (.tu [(aI t.name S.rws).getD .nil,.b (aI t.name S.rws).isSome]):=by refine(nO gS _ S.rws .nil).trans ?_;grind
 have f:=aw j;obtain⟨t1,o⟩:=v.t (k,t) (iS g);refine .body agP rfl rfl ?_;cases n:aI _ S.rws with|some x=>obtain⟨J,p,m,w,z⟩:=d.r t.name x (iS n);rw[o,g]at p;cases p;rw[n]at a;simp[eD,ot]at a;simp[go_sem,simprocAttr,V0,Tb.c,j,e,a];exact⟨f,aw e,x,m,H,rfl,w,z,h⟩|none=>rw[n]at a;simp[sa,oy]at a;obtain⟨y,m,A,q,r,_⟩:=ah5 t t1 B.known;have u:=λ{H K}=>A.c (H:=H) (K:=K) Qf rfl (by simp[t.pl];rfl) (.inl rfl);simp[Tb.c]at u;have C:=λ{G i}=>R9 (k:=t.name) (y:=y) (l:=S.rws) (G:=G) (i:=i);have E:=λ{G:ab}{K:CR->Prop}=>ki (H:=G) (K:=K);have F:=d.noteR (k:=t.name) ⟨t,o▸g,m,q,r⟩;simp only[go_sem,simprocAttr,V0,Tb.c,j,e,a,u,E,C];exact⟨f,aw e,f,f,y,m,_,rfl,q,r,_,F⟩
end
end
section
open Go.Dm
set_option maxRecDepth 10000
def Sc{T:List FN}(m:∀f∈T,f.frm<f.to):Canon (gV T)/\∀d,bF (gV T) d=eT T d:=by
 have e:∀f∈T,f.frm∈fZ T/\f.to∈fZ T:=λf b=>by constructor<;>exact Gk.2 (pb.2 ⟨f,b,by simp⟩)
 have hs:=AU (T.flatMap λf=>[f.frm,f.to]);unfold gV;cases h:fZ T with
 |nil=>cases T with|nil=>exact⟨.nil,λd=>rfl⟩|cons f T=>grind
 |cons a r=>
 rw[h]at e;have i:(a::r).Pairwise (·<·):=h▸hs;obtain⟨j,k⟩:=Uc (T:=T) i (λf b=>⟨.inr (e f b).1,.inr (e f b).2⟩) .nil (λt l=>by cases l);refine⟨j,λd=>?_⟩;rw[k d];by_cases c:d<a
 · rw[G1 c];have:eo T d=none:=by
    unfold eo;rw[rr.2 (λf b=>?_)];rfl;have n:∀x∈a::r,a<=x:=λx g=>by
     rcases dA.1 g with rfl|g;·omega
     exact ABY ((ey.1 i).1 x g)
    grind
   unfold eT;rw[this];rfl
 grind
def Sd{g:FN}:∀{l:List FN},g∈kH l->g∈l
 |[],h=>h|f::l,h=>by
  rcases EY h with rfl|h;·grind
  exact K2 _ (Sd h)
def Se{F:List FN}{key:Nm}{a:Int}{f:FN}(h:f∈cL F key a):f∈F/\f.key=key/\f.known<=a:=by have:=n0.1 (Sd h);grind
def BW.infr(B:BW)(a:Nm)(d:Int):List Nat:=(eV (B.cls.map Cl.row) a d B.known).map Int.toNat
def BW.wd(B:BW):Wd where kind n:=aI n B.kinds;cl n d:=(B.infr n d).map λi=>(i,B.cls[i]!.n);clause i:=B.cls[i]!.n;view k:=.ok (B.vw k);tab k:=(aI k B.tbs).map λt=>(t.two,t.forced B.known)
def BW.ok.canon{B:BW}(h:B.ok)(k:Nm):Canon (B.vw k):=by unfold BW.vw;cases a:aI k B.grp with|none=>exact .nil|some l=>obtain⟨_,_,b⟩:=h.g (k,l) (iS a);refine(Sc λf c=>?_).1;have d:=(Se c).1;obtain⟨g,e,rfl⟩:=f0.1 d;have:=Ag b g e;unfold Fc.right at this;simp only[D0,Hq]at this;exact this.1.2.2.2.1
def Sf{f:FN}:∀{l:List FN},(gv f l).length=l.length+1
 |[]=>rfl|g::l=>by
  unfold gv;split;·rfl
  simp[Sf]
theorem Sg:∀{l:List FN},(kH l).length=l.length|[]=>rfl|f::l=>by rw[show kH _=gv f _ from rfl,Sf,Sg];rfl
def Sh{T:List FN}:∀{r:List Int}{acc:List aB},(ir T r acc).length<=acc.length+r.length|[],acc=>by grind[ir]|[a],acc=>by grind[ir]|a::b::r,acc=>by have:=Sh (T:=T) (r:=b::r) (acc:=match eo T a with|some f=>if f.gone then acc else cg acc ⟨a,b,f.v⟩|none=>acc);grind[ir,eo,cg,Rf]
theorem BW.ok.len{B:BW}(h:B.ok)(k:Nm):(B.vw k).length<=80:=by unfold BW.vw;cases a:aI k B.grp with|none=>simp|some l=>
 obtain⟨_,c,_⟩:=h.g (k,l) (iS a);refine gp Sh ?_;unfold fZ;have b:=wV (cG ((cL (l.map Fc.n) k B.known).flatMap λf=>[f.frm,f.to]));rw[nT]at b;have d:((cL (l.map Fc.n) k B.known).flatMap λf=>[f.frm,f.to]).length=2*(cL (l.map Fc.n) k B.known).length:=by generalize cL _ k _=T;induction T<;>grind
 grind[cL,Fc.n,Sg]
structure dY(I:bW)(B:BW)(Fr:List (Nat×an))(res:NR->aj->Prop)(r:CR):Prop where h:(∃(a:AV)(M':aj)(H':ab),r=.ret (.ag a.c) H'/\a.ok/\res (.ok a.v) M'/\EV I B M' Fr H')\/(∃(e:Int)(M':aj)(H':ab),r=.pan (eX e) H'/\res (.er e) M'/\EV I B M' Fr H')
def dY.drop{I:bW}{B:BW}{Fr:List (Nat×an)}{p:NR->aj->Prop}{r:CR}{q:Nat×an}(h:dY I B (q::Fr) p r):dY I B Fr p r:=by
 rcases h.h with⟨a,b,c,d,i,f,g⟩|⟨e,b,c,d,f,g⟩;·exact⟨.inl ⟨a,b,c,d,i,f,g.drop⟩⟩
 exact⟨.inr ⟨e,b,c,d,f,g.drop⟩⟩
def wD(I:bW):D:=.ifc 86 (.hp I.v 0)
def Ft:VS.meth 86 "Fact"=some 331:=by kernel_rfl
def Fu:VS.meth 86 "Table"=some 332:=by kernel_rfl
def ajL:VS.meth 86 "Pair"=some 30:=by kernel_rfl
section
variable{I:bW}{B:BW}{M:aj}{Fr:List (Nat×an)}{H:ab}{body:bk->Tr}
def ajM(G:B.ok)(h:EV I B M Fr H)(hl:M.facts.length<=1000000000){d:Int}(hd:0<=d/\d<65536){f:Nat}(au:f=3\/f=4){k:Nm}:ac VS 130 [.hp I.b 0,.i .u8 f,.s k,.i .i64 d,wD I] H (dY I B Fr (aM body (.st (fJ (k,d,d+1)) λ_=>gD B.wd f k d) M)):=by
 have w1:IntKind.i64.wrap _=d+1:=wr (by omega) (by omega);have h1:=h.new (x:=.hb 3 [.i .i64 d]);refine .body agL rfl rfl ?_;simp[go_sem,ao4,w1,Ft];refine(Fo h1 hl).mono λr hr=>?_;obtain⟨H2,rfl,h2⟩:=hr;simp[go_sem];refine(Fs G h2).mono λr hr=>?_;obtain⟨y,m,H3,rfl,p,g,h3⟩:=hr.h;have hc:=p.c1;have J:=h3.new (x:=.hb 231 [y]);have X:=J.fr;have w:=J.drop.fr;have A:=λ{H}=>p.n (H:=H);simp only[go_sem,hc,ABZ];simp[go_sem,A];have ay:=by have:=G.len k;rw[<-g]at this;simpa using this
 refine(o9 (by omega) (by decide) λi hi{K}=>ajG p hi X w).mono λr hr=>?_;obtain⟨j,rfl,j1,Y,Z⟩:=hr;simp only[Hq,p5]at Y Z;have hq:=λ{V dr os keep al sl Q an H H' k x'}=>p.q (V:=V) (dr:=dr) (os:=os) (keep:=keep) (loc:=al) (sl:=sl) (Q:=Q) (sl':=an) (H:=H) (H':=H') (k:=k) (x:=x');have hu:=λb=>p.under b;have L:∀i,i<m.length->(m.map SV.n)[i]! =m[i]!.n:=λi hi=>by rw[K0 _ i (by simpa using hi),K0 m i hi,wv]
 have a:=R0 (G.canon k) (by rw[<-g];simpa using j1) (λC=>by
 rw[<-g]at C⊢;have ad:=by simpa using C
 rw[L j ad];exact Y ad) (λC=>by rw[<-g,L _ (by omega)];exact ABa.1 (Z C));rw[<-g]at a;simp only[S2]at a;have l:=J.drop.drop;have o:=aw X;have N:=aw w;rw[Rp,n3]at o N;have P:∀b,f=4->(bF (B.vw k) d).isSome=b->aM body (.st (fJ (k,d,d+1)) λ_=>gD B.wd f k d) M _ _:=λb e e2=>.st (by simp[gD,BW.wd,e,if_true,e2];exact .ret);by_cases S:j<m.length
 ·rw[L j S]at a;have E:(j:Int)<m.length:=by omega
  have c3:(0:Int)<=j:=by omega
  obtain⟨z,U⟩:∃z,z=m[j]!:=⟨_,rfl⟩;rw[<-U]at a;by_cases F:z.frm<=d
  ·rw[G1 ⟨S,F⟩,g]at a;obtain⟨t1,q⟩:=r9 true;obtain⟨b,t,u,v⟩:=t1.av q;have c:=λ{H K}=>oc (b:=true) (H:=H) (K:=K);rw[u]at c;simp[AV.c]at c;simp only[go_sem,simprocAttr,w,A,hq,hu,E,c3,<-U,SV.c,F,c];refine⟨o,o,N,λe=>?_,λe=>?_⟩;·exact⟨.inl ⟨b,_,_,rfl,v,t▸P true (by omega) (by rw[a];rfl),l⟩⟩
   refine⟨.inl ⟨z.a,_,_,rfl,z.ok,.st ?_,l⟩⟩;simp[gD,BW.wd,E1 (show¬f=4 by omega),a];exact .ret
  rw[E1 (λh=>F h.2),g]at a;obtain⟨t1,q⟩:=r9 false;obtain⟨b,t,u,v⟩:=t1.av q;have c:=λ{H K}=>oc (b:=false) (H:=H) (K:=K);have W:=λ{H K}=>eB (e:=182) (H:=H) (K:=K);rw[u]at c;simp[AV.c]at c;simp only[go_sem,simprocAttr,w,A,hq,hu,E,c3,<-U,SV.c,F,c,W];refine⟨o,o,N,λe=>?_,λe=>?_⟩;·exact⟨.inl ⟨b,_,_,rfl,v,t▸P false (by omega) (by rw[a];rfl),l⟩⟩
  refine⟨.inr ⟨182,_,_,rfl,.st ?_,l⟩⟩;simp[gD,BW.wd,E1 (show¬f=4 by omega),a];exact .err
 rw[E1 (λh=>S h.1),g]at a;have E:¬(j:Int)<m.length:=by omega
 obtain⟨t1,q⟩:=r9 false;obtain⟨b,t,u,v⟩:=t1.av q;have c:=λ{H K}=>oc (b:=false) (H:=H) (K:=K);have W:=λ{H K}=>eB (e:=182) (H:=H) (K:=K);rw[u]at c;simp[AV.c]at c;simp only[go_sem,A,E,c,W];refine⟨o,λe=>?_,λe=>?_⟩;·exact⟨.inl ⟨b,_,_,rfl,v,t▸P false (by omega) (by rw[a];rfl),l⟩⟩
 refine⟨.inr ⟨182,_,_,rfl,.st ?_,l⟩⟩;simp[gD,BW.wd,E1 (show¬f=4 by omega),a];exact .err
end
end
section
open Go.Dm
set_option maxRecDepth 10000
def AV.num{a:AV}(h:a.ok)(b:a.v.k=2\/a.v.k=3):Fr a.v.n a.v.m (.ag [a.s,a.x,a.t,a.y])/\dP a.v.n a.v.m:=by refine⟨?_,(h.o.f b).1⟩;obtain⟨x,y,e,c,d⟩:=h.d.h;simp[AV.c,D.ag.injEq,qo,and_true,true_and]at e;constructor<;>grind
def Fr.free{n:Int}{m:Nat}{s x t y:D}(h:Fr n m (.ag [s,x,t,y])):mU [.ag [s,x,t,y]]=true:=by obtain⟨k,l,e,a,b⟩:=h.h;simp[D.ag.injEq,qo,and_true]at e;obtain⟨c,d,f,g⟩:=e;subst c;subst d;subst f;subst g;have i:=a.sl;have j:=b.sl;cases i<;>cases j<;>rfl
def Fv{a:AV}(h:a.ok)(b:a.v.k=2\/a.v.k=3){H:ab}{K:CR->Prop}:ac VS 154 [.ag [a.s,a.x,a.t,a.y]] H K↔K (.ret (.i .i64 (lS a.v)) H):=by obtain⟨f,l⟩:=AV.num h b;exact(ajd f l).c P9 rfl (by simp[f.pl]) (.inl rfl)
def QV.av(q:QV):∃a:AV,a.v=⟨2,q.q.1,q.q.2,0⟩/\a.c=[.i .u8 2,q.s,q.x,q.t,q.y,.i .i64 0]/\a.ok:=by
 refine⟨⟨⟨2,q.q.1,q.q.2,0⟩,q.s,q.x,q.t,q.y⟩,rfl,rfl,?_,?_⟩;·obtain⟨x,y,e,b,c⟩:=q.f.h;simp[D.ag.injEq,qo,and_true]at e;exact⟨x,y,by grind[AV.c],b,c⟩
 exact⟨by simp,λ_=>⟨q.l,rfl⟩,λh=>absurd (.inl rfl) h,λh=>(by cases h),λh=>(by cases h),λh=>(by grind)⟩
def ajN{W:Wd}{k:Nm}{v:NV}{rows:List bU}(h:W.tab k=some (false,rows)):eU W k [v]=match nV rows (lS v)with|none=>.err 6|some r=>.ret ⟨2,r.n,r.m,0⟩:=by grind[eU]
def Aq{W:Wd}{k:Nm}{v w:NV}{rows:List bU}(h:W.tab k=some (true,rows)):eU W k [v,w]=match nV rows (lS v)with|none=>.err 6|some r=>match A2 rows r.a (lS w)with|none=>.err 6|some s=>.ret ⟨2,s.n,s.m,0⟩:=by grind[eU]
def Si{W:Wd}{k:Nm}{vs:List NV}{two:Bool}{rows:List bU}(h:W.tab k=some (two,rows))(a:two≠decide (vs.length=2)):eU W k vs=.err 185:=by grind[eU]
section
variable{I:bW}{B:BW}{M:aj}{Fr:List (Nat×an)}{H:ab}{body:bk->Tr}
def BW.ok.rl{B:BW}(h:B.ok){k:Nm}{t:Tb}(a:aI k B.tbs=some t):(t.forced B.known).length<=400:=by
 obtain⟨t1,_⟩:=h.t (k,t) (iS a);unfold Tb.v at t1;simp only[D0,Hq]at t1;have:∀{l acc:List bU},(bK B.known l acc).length<=acc.length+l.length:=by intro l;induction l<;>grind[bK]
 grind[Rw.n,Tb.forced]
def ajO(E:B.ok){i:Nat}{a:AV}(ha:a.ok)(hk:a.v.k=2\/a.v.k=3)(h:EV I B M ((i,aO [a] true)::Fr) H)(hl:M.tabs.length<=1000000000){k:Nm}:ac VS 131 [.hp I.b 0,.s k,.mu i 3 0 1,wD I] H (dY I B ((i,aO [a] true)::Fr) (aM body (.st (gc k) λ_=>eU B.wd k [a.v]) M)):=by have ek:=λ{H K}=>Fv ha hk (H:=H) (K:=K);have e0:aO [a] true=.ar 6 [a.c,cw,cw] _ true true:=rfl;refine .body P4 rfl rfl ?_;simp[go_sem,VW,Fu];refine(Fp h hl).mono λr hr=>?_;obtain⟨H2,rfl,v⟩:=hr;obtain⟨S,U⟩:=v.h;have F:=U.hb;have G:=U.htm;have c:eP _ (.s k) true (.ag [.s [],.b false,.nil]) (some (.mp (tE B.tbs)))=some _:=nO gS k B.tbs _;have W:=λ{H K}=>eB (e:=6) (H:=H) (K:=K);have ax:=λ{H K}=>eB (e:=185) (H:=H) (K:=K);cases d:aI k B.tbs with|none=>rw[d]at c;simp[vy,sa,oy]at c;simp[go_sem,simprocAttr,F,G,c,W];refine⟨.inr ⟨6,_,_,rfl,.st ?_,v⟩⟩;simp[eU,BW.wd,d,vy];exact .err|some t=>rw[d]at c;simp[ef,eD,ot]at c;simp[Tb.c]at c;cases w:t.two with|true=>rw[w]at c;simp[go_sem,simprocAttr,F,G,c,ax];refine⟨.inr ⟨185,_,_,rfl,.st ?_,v⟩⟩;rw[Si (two:=true) (rows:=t.forced B.known) (by grind[BW.wd]) (by simp)];exact .err|false=>
 rw[w]at c;simp[go_sem,simprocAttr,F,G,c];have X:=Sa E v d;simp[Tb.c,w]at X;refine X.mono λr hr=>?_;obtain⟨y,m,Y,rfl,A,g,h3⟩:=hr.h;have hc:=A.c1;have l:=h3.new (x:=.hb 62 [y]);have Z:=l.fr;have J:=l.drop.fr;have hn:=λ{H}=>A.n (H:=H);rw[e0]at J;simp only[go_sem,hc,ABZ];generalize hp:Y.length=p at l Z⊢;generalize Y++[an.hb 62 [y]]=H4 at l Z J⊢;have o:=l.new (x:=.hb 3 [.i .i64 (lS a.v)]);have C:=o.fr;have u:=o.drop.fr;have l5:=aw C;have l6:=aw u;have L:=o.drop.drop;simp only[go_sem,simprocAttr,J,AV.c,ek,ABZ];generalize hq:H4.length=q at o C l5 l6⊢;generalize H4++[an.hb 3 [.i .i64 _]]=H5 at o C u l5 l6 L⊢;simp[go_sem,u,hn];have bg:=by have:=E.rl d;rw[<-g]at this;simpa using this
 refine(o9 (by omega) (by decide) λi hi{K}=>R3 A hi u C).mono λr hr=>?_;obtain⟨j,rfl,j1,j2,j3⟩:=hr;simp only[Hq,p5]at j2 j3;have N:∀i,i<m.length->(m.map RV.n)[i]! =m[i]!.n:=λi hi=>by rw[K0 _ i (by simpa using hi),K0 m i hi,wv]
 have ai:=E8 (E.t _ (iS d)).1 B.known;rw[show bK _ _ []=m.map RV.n from g.symm]at ai;have f:=E9 ai (by simpa using j1) (λP=>by
 have aj:=by simpa using P
 rw[N j aj];exact j2 aj) (λP=>by rw[N _ (by omega)];exact ABa.1 (j3 P));rw[g]at f;have ak:∀r,nV _ _=r->eU B.wd k [a.v]=match r with|none=>.err 6|some r=>.ret ⟨2,r.n,r.m,0⟩:=λr e=>by rw[ajN (rows:=t.forced B.known) (by simp[BW.wd,d,ef,w]),e]
 have hq:=λ{V dr os keep a2 sl Q a4 H H' k x'}=>A.q (V:=V) (dr:=dr) (os:=os) (keep:=keep) (loc:=a2) (sl:=sl) (Q:=Q) (sl':=a4) (H:=H) (H':=H') (k:=k) (x:=x');by_cases h0:j=0;·subst h0;simp[go_sem,simprocAttr,wr,W];exact⟨.inr ⟨6,_,_,rfl,.st (by rw[ak _ f];exact .err),L⟩⟩
 rw[E1 h0,<-g,N _ (by omega)]at f;have w1:IntKind.i64.wrap (j-1)=((j-1:Nat)):=by rw[wr (by omega) (by omega)];omega
 have c1:¬((j-1:Nat):Int)<0:=by omega
 have c0:((j-1:Nat):Int)<m.length:=by omega
 have c3:0<=((j-1:Nat):Int):=by omega
 obtain⟨z,hz⟩:∃z,z=m[j-1]!:=⟨_,rfl⟩;rw[<-hz]at f;simp[go_sem,simprocAttr,w1,c1,c0,hq,<-hz,RV.c,u];rw[g]at f;obtain⟨b,b1,b2,b3⟩:=z.q.av;exact⟨.inl ⟨b,_,_,by rw[b2],b3,.st (by rw[ak _ f,b1];exact .ret),L⟩⟩
def ajP(N:B.ok){i:Nat}{a b:AV}(ha:a.ok)(hk:a.v.k=2\/a.v.k=3)(aq:b.ok)(au:b.v.k=2\/b.v.k=3)(h:EV I B M ((i,aO [a,b] true)::Fr) H)(hl:M.tabs.length<=1000000000){k:Nm}:ac VS 131 [.hp I.b 0,.s k,.mu i 3 0 2,wD I] H (dY I B ((i,aO [a,b] true)::Fr) (aM body (.st (gc k) λ_=>eU B.wd k [a.v,b.v]) M)):=by have ek:=λ{H K}=>Fv ha hk (H:=H) (K:=K);have bj:=λ{H K}=>Fv aq au (H:=H) (K:=K);have e0:aO [a,b] true=.ar 6 [a.c,b.c,cw] _ true true:=rfl;refine .body P4 rfl rfl ?_;simp[go_sem,VW,Fu];refine(Fp h hl).mono λr hr=>?_;obtain⟨H2,rfl,P⟩:=hr;obtain⟨S,hS⟩:=P.h;have hb:=hS.hb;have ht:=hS.htm;have c:eP _ (.s k) true (.ag [.s [],.b false,.nil]) (some (.mp (tE B.tbs)))=some _:=nO gS k B.tbs _;have U:=λ{H K}=>eB (e:=6) (H:=H) (K:=K);have bk:=λ{H K}=>eB (e:=185) (H:=H) (K:=K);cases f:aI k B.tbs with|none=>rw[f]at c;simp[vy,sa,oy]at c;simp[go_sem,simprocAttr,hb,ht,c,U];refine⟨.inr ⟨6,_,_,rfl,.st ?_,P⟩⟩;simp[eU,BW.wd,f,vy];exact .err|some t=>rw[f]at c;simp[ef,eD,ot]at c;simp[Tb.c]at c;cases W:t.two with|false=>rw[W]at c;simp[go_sem,simprocAttr,hb,ht,c,bk];refine⟨.inr ⟨185,_,_,rfl,.st ?_,P⟩⟩;rw[Si (two:=false) (rows:=t.forced B.known) (by grind[BW.wd]) (by simp)];exact .err|true=>
 rw[W]at c;simp[go_sem,simprocAttr,hb,ht,c];have ay:=Sa N P f;simp[Tb.c,W]at ay;refine ay.mono λr hr=>?_;obtain⟨y,m,H3,rfl,w,d,h3⟩:=hr.h;have hc:=w.c1;have J:=h3.new (x:=.hb 62 [y]);have g4:=J.fr;have ak:=J.drop.fr;have hn:=λ{H}=>w.n (H:=H);rw[e0]at ak;simp only[go_sem,hc,ABZ];generalize hp:H3.length=p at J g4⊢;generalize H3++[an.hb 62 [y]]=H4 at J g4 ak⊢;have A:=J.new (x:=.hb 3 [.i .i64 (lS a.v)]);have X:=A.fr;have C:=A.drop.fr;have l5:=aw X;have l6:=aw C;have hE:=A.drop.drop;simp only[go_sem,simprocAttr,ak,AV.c,ek,ABZ];generalize Y:H4.length=q at A X l5 l6⊢;generalize H4++[an.hb 3 [.i .i64 _]]=Z at A X C l5 l6 hE⊢;simp[go_sem,C,hn];have b6:=by have:=N.rl f;rw[<-d]at this;simpa using this
 refine(o9 (by omega) (by decide) λi hi{K}=>R3 w hi C X).mono λr hr=>?_;obtain⟨j,rfl,j1,j2,j3⟩:=hr;simp only[Hq,p5]at j2 j3;have E:∀i,i<m.length->(m.map RV.n)[i]! =m[i]!.n:=λi hi=>by rw[K0 _ i (by simpa using hi),K0 m i hi,wv]
 have a7:=E8 (N.t _ (iS f)).1 B.known;rw[show bK _ _ []=m.map RV.n from d.symm]at a7;have l:=E9 a7 (by simpa using j1) (λv=>by
 have L:=by simpa using v
 rw[E j L];exact j2 L) (λv=>by rw[E _ (by omega)];exact ABa.1 (j3 v));rw[d]at l;have aa:B.wd.tab k=some (true,t.forced B.known):=by simp[BW.wd,f,ef,W]
 have Y:=λ{V dr os keep bp sl Q br H H' k x'}=>w.q (V:=V) (dr:=dr) (os:=os) (keep:=keep) (loc:=bp) (sl:=sl) (Q:=Q) (sl':=br) (H:=H) (H':=H') (k:=k) (x:=x');have hu:=λb=>w.under b;by_cases h0:j=0;·subst h0;simp[go_sem,simprocAttr,wr,U];exact⟨.inr ⟨6,_,_,rfl,.st (by rw[Aq aa,l];exact .err),hE⟩⟩
 rw[E1 h0,<-d,E _ (by omega)]at l;have w1:IntKind.i64.wrap (j-1)=((j-1:Nat)):=by rw[wr (by omega) (by omega)];omega
 have c0:((j-1:Nat):Int)<m.length:=by omega
 have c3:0<=((j-1:Nat):Int):=by omega
 obtain⟨z,hz⟩:∃z,z=m[j-1]!:=⟨_,rfl⟩;rw[<-hz]at l;rw[d]at l;have c4:((j-1:Nat):Int)>=0:=c3;have ab:=hE.fr;rw[e0]at ab;have bx:aK Z i 3=some (6,[a.c,b.c,cw],some 3,true,true):=by simp[Dm.aK,ab]
 simp only[go_sem,simprocAttr,w1,c4,c0,Y,hu,<-hz,RV.c,C,bx,AV.c,bj];refine⟨aw C,aw ab,aw ab,?_,?_⟩;·have bz:=(AV.num aq au).1.free;unfold DT;simp only[bz];rfl
 have o:=(A.new (x:=.hb 3 [.i .i64 z.a])).new (x:=.hb 3 [.i .i64 (lS b.v)]);simp[dn,T1,W0,Rp,n3]at o;have q7:=o.fr;have F:=o.drop.fr;have q5:=o.drop.drop.drop.fr;have ae:=o.drop.drop.drop.drop;have s7:=aw q7;have s6:=aw F;have s5:=aw q5;generalize Z.length+1=u7 at o q7 s7⊢;generalize Z.length=u6 at o F s6⊢;generalize Z++[an.hb 3 [D.i _ z.a],an.hb 3 [D.i _ _]]=H7 at o q7 F q5 s7 s6 s5 ae⊢;simp[go_sem,q5,hn];refine(o9 (by omega) (by decide) λi hi{K}=>ajH w hi q5 F q7).mono λr hr=>?_;obtain⟨g,rfl,g1,g2,g3⟩:=hr;simp only[Hq,p5]at g2 g3;have bd:=ajE (N.t _ (iS f)).1 B.known;rw[show bK _ _ []=m.map RV.n from d.symm]at bd;have u:=ajF bd (by simpa using g1) (λv=>by
 have L:=by simpa using v
 rw[E g L];exact g2 L) (λv=>by rw[E _ (by omega)];exact Decidable.not_not.1 (g3 v));rw[d]at u;by_cases z0:g=0;·subst z0;simp[go_sem,simprocAttr,wr,U];exact⟨.inr ⟨6,_,_,rfl,.st (by rw[Aq aa,l];simp[RV.n];rw[u];exact .err),ae⟩⟩
 rw[E1 z0,<-d,E _ (by omega)]at u;have w2:IntKind.i64.wrap (g-1)=((g-1:Nat)):=by rw[wr (by omega) (by omega)];omega
 have d1:¬((g-1:Nat):Int)<0:=by omega
 have d0:((g-1:Nat):Int)<m.length:=by omega
 have d3:0<=((g-1:Nat):Int):=by omega
 obtain⟨G,ap⟩:∃G,G=m[g-1]!:=⟨_,rfl⟩;rw[<-ap]at u;by_cases ah:G.a=z.a;·simp[go_sem,simprocAttr,w2,d1,d0,Y,hu,<-ap,RV.c,q5,F,ah];rw[G1 (show G.n.a=z.a from ah),d]at u;obtain⟨b,b1,b2,b3⟩:=G.q.av;exact⟨s5,s6,⟨.inl ⟨b,_,_,by rw[b2],b3,.st (by rw[Aq aa,l];simp[RV.n];rw[u,b1];exact .ret),ae⟩⟩⟩
 simp[go_sem,simprocAttr,w2,d0,Y,hu,<-ap,RV.c,q5,F,ah,U];rw[E1 (show¬G.n.a=z.a from ah),d]at u;exact⟨s5,s6,⟨.inr ⟨6,_,_,rfl,.st (by rw[Aq aa,l];simp[RV.n];rw[u];exact .err),ae⟩⟩⟩
end
end
section
open Go.Dm
set_option maxRecDepth 10000
def QV.avk(q:QV){k:Nat}(b:k=2\/k=3):∃a:AV,a.v=⟨k,q.q.1,q.q.2,0⟩/\a.c=[.i .u8 k,q.s,q.x,q.t,q.y,.i .i64 0]/\a.ok:=by
 refine⟨⟨⟨k,q.q.1,q.q.2,0⟩,q.s,q.x,q.t,q.y⟩,rfl,rfl,?_,?_⟩;·obtain⟨x,y,e,c,d⟩:=q.f.h;simp[D.ag.injEq,qo,and_true]at e;exact⟨x,y,by grind[AV.c],c,d⟩
 exact⟨by grind,λ_=>⟨q.l,rfl⟩,λh=>absurd b h,λh=>(by grind),λh=>(by grind),λh=>(by grind)⟩
def ba.two{r:EQ}{d:D}(h:ba r d){P:Prop}(f:∀q:QV,r=.ok q.q->d=.tu [.ag [q.s,q.x,q.t,q.y],.i .i64 0]->P)(g:∀e:Int,r=.error e->e≠0->d=.tu [.ag [.b false,.nil,.b false,.nil],.i .i64 e]->P):P:=by rcases h.h with⟨q,a,b⟩|⟨e,a,b,c⟩<;>grind
variable{x:Int}
def ii.mono{k:Int}(a:k<=x){l:List bU}(h:ii k l):ii x l:=by induction h with|nil=>exact .nil|snoc _ b c d=>constructor<;>grind
theorem ajQ{k:Int}(a:k<=x){l:List bU}:bK x (bK k l []) []=bK k l []:=R4 ((wA .nil).mono a)
def ajR{k y:Int}(a:k<=x){l:List bU}:rn (bK k l []) x y=rn l k y:=by grind[rn,ajQ]
theorem Sj{k lo hi:Int}(a:k<=x){l:List bU}:∀{n y:Nat}{acc:Fq},kI (bK k l []) x lo hi n y acc=kI l k lo hi n y acc|0,_,_=>rfl|n+1,y,acc=>by unfold kI;unfold Aj;rw[ajR a];simp[Sj a]
def ajS{a:Bool}{k lo hi:Int}(b:k<=x){l:List bU}:lK a (bK k l []) lo hi x=lK a l lo hi k:=by grind[lK,Sj]
def Fw(O:bV):Prop:=∀{l:List SV}{x:D}{a b n:Int},Sl 8 (l.map SV.c) x->l.length<1000->∃r,ai VS 159 [x,.i .i64 a,.i .i64 b,.i .i64 n] r/\ba (O.best (l.map SV.n) a b n) r
section
variable{I:bW}{B:BW}{M:aj}{Fr:List (Nat×an)}{H:ab}{body:bk->Tr}{O:bV}
def ajT(J:O.serv=rK)(u:B.ok){i:Nat}{a b:AV}(h:EV I B M ((i,aO [a,b] true)::Fr) H)(L:M.facts.length<=1000000000){k:Nm}:ac VS 132 [.hp I.b 0,.i .u8 21,.s k,.mu i 3 0 2,wD I] H (dY I B ((i,aO [a,b] true)::Fr) (aM body (if b.v.i<=a.v.i then .ret ⟨2,0,1,0⟩else .st (fJ (k,a.v.i,b.v.i)) λ_=>ge O B.wd 21 k [a.v,b.v]) M)):=by
 have N:aO [a,b] true=.ar 6 [a.c,b.c,cw] _ true true:=rfl;have hi:=h.fr;rw[N]at hi;have v:aK H i 3=some (6,[a.c,b.c,cw],some 3,true,true):=by simp[Dm.aK,hi]
 have c:=aw hi;refine .body P5 rfl rfl ?_;by_cases x:b.v.i<=a.v.i;·obtain⟨q,d,f⟩:=QV.int (n:=0) (by omega);obtain⟨zz,z1,z2,z3⟩:=q.avk (.inl rfl);simp only[go_sem,simprocAttr,Bm,v,AV.c,x,f];refine⟨c,c,c,c,⟨.inl ⟨zz,M,H,by grind,z3,?_,h⟩⟩⟩;rw[z1,d];exact .ret
 simp only[go_sem,simprocAttr,Bm,v,AV.c,x,Ft];refine⟨c,c,c,c,(Fo h L).mono λr hr=>?_⟩;obtain⟨X,rfl,P⟩:=hr;simp[go_sem];refine(Fs u P).mono λr hr=>?_;obtain⟨y,m,Y,rfl,z,A,l⟩:=hr.h;have Z:m.length<=80:=by have:=u.len k;grind
 obtain⟨zz,e,c1,c2⟩:=EM (a:=a.v.i) (b:=b.v.i) z (by omega);have o:=λ{H K}=>c1.c (H:=H) (K:=K) tN rfl (by simp[z.pl,aV]) (.inl rfl);have C:=λ{H K}=>ki (H:=H) (K:=K);have E:∀r,gz (B.vw k) a.v.i b.v.i=r->ge O B.wd 21 k [a.v,b.v]=match r with|.error e=>.err e|.ok p=>(rK p a.v.i b.v.i).tr 2:=λr e=>by unfold ge;simp only[BW.wd,J];grind
 rcases c2.h with⟨rfl,p,F,g,p3⟩|⟨rfl,rfl,g⟩
 ·rw[A]at g;have j:=E _ g;simp at j;obtain⟨r,Q,S⟩:=ahP (a:=a.v.i) (b:=b.v.i) F (by omega);have G:=λ{H K}=>Q.c (H:=H) (K:=K) tO rfl (by simp[F.pl,aV]) (.inl rfl);refine S.two (λq d f=>?_) λe d f U=>?_;·obtain⟨w,V,w2,W⟩:=q.avk (.inl rfl);subst f;simp[go_sem,simprocAttr,o,C,G];refine⟨.inl ⟨w,_,_,by grind,W,.st ?_,l⟩⟩;rw[j,V,d];exact .ret
  subst U;have t:=λ{H K}=>jB f (H:=H) (K:=K);simp[go_sem,o,C,G,t];refine⟨.inr ⟨e,_,_,rfl,.st ?_,l⟩⟩;rw[j,d];exact .err
 rw[A]at g;have j:=E _ g;have t:=λ{H K}=>jB (e:=2) (by decide) (H:=H) (K:=K);simp[go_sem,o,t];refine⟨.inr ⟨2,_,_,rfl,.st ?_,l⟩⟩;rw[j];exact .err
def ajU(Q:Fw O)(v:B.ok){i:Nat}{a b c:AV}(h:EV I B M ((i,aO [a,b,c] true)::Fr) H)(S:M.facts.length<=1000000000){k:Nm}:ac VS 132 [.hp I.b 0,.i .u8 22,.s k,.mu i 3 0 3,wD I] H (dY I B ((i,aO [a,b,c] true)::Fr) (aM body (if b.v.i<=a.v.i then .err 6 else .st (fJ (k,a.v.i,b.v.i)) λ_=>ge O B.wd 22 k [a.v,b.v,c.v]) M)):=by
 have x:aO [a,b,c] true=.ar 6 [a.c,b.c,c.c] _ true true:=rfl;have hi:=h.fr;rw[x]at hi;have z:aK H i 3=some (6,[a.c,b.c,c.c],some 3,true,true):=by simp[Dm.aK,hi]
 have d:=aw hi;refine .body P5 rfl rfl ?_;by_cases A:b.v.i<=a.v.i;·have U:=λ{H K}=>eB (e:=6) (H:=H) (K:=K);simp only[go_sem,simprocAttr,Bm,z,AV.c,A,U];exact⟨d,d,d,d,⟨.inr ⟨6,M,H,rfl,.err,h⟩⟩⟩
 simp only[go_sem,simprocAttr,Bm,z,AV.c,A,Ft];refine⟨d,d,d,d,(Fo h S).mono λr hr=>?_⟩;obtain⟨H2,rfl,V⟩:=hr;simp[go_sem];refine(Fs v V).mono λr hr=>?_;obtain⟨y,m,W,rfl,C,E,j⟩:=hr.h;have F:=j.fr;rw[x]at F;have G:aK W i 3=some (6,[a.c,b.c,c.c],some 3,true,true):=by simp[Dm.aK,F]
 have ae:m.length<=80:=by have:=v.len k;grind
 obtain⟨zz,e,c1,c2⟩:=EM (a:=a.v.i) (b:=b.v.i) C (by omega);have l:=λ{H K}=>c1.c (H:=H) (K:=K) tN rfl (by simp[C.pl,aV]) (.inl rfl);have J:=λ{H K}=>ki (H:=H) (K:=K);have L:∀r,gz (B.vw k) a.v.i b.v.i=r->ge O B.wd 22 k [a.v,b.v,c.v]=match r with|.error e=>.err e|.ok p=>(O.best p a.v.i b.v.i c.v.i).tr 3:=λr e=>by grind[ge,BW.wd,NV]
 rcases c2.h with⟨rfl,p,N,f,p3⟩|⟨rfl,rfl,f⟩
 ·rw[E]at f;have g:=L _ f;simp at g;obtain⟨r,X,Y⟩:=Q (a:=a.v.i) (b:=b.v.i) (n:=c.v.i) N (by omega);have P:=λ{H K}=>X.c (H:=H) (K:=K) Qa rfl (by simp[N.pl,aV]) (.inl rfl);refine Y.two (λq o t=>?_) λe o t Z=>?_;·obtain⟨w,w1,w2,w3⟩:=q.avk (.inr rfl);subst t;simp[go_sem,simprocAttr,l,J,P,G,AV.c];refine⟨.inl ⟨w,_,_,by grind,w3,.st ?_,j⟩⟩;rw[g,w1,o];exact .ret
  subst Z;have u:=λ{H K}=>jB t (H:=H) (K:=K);simp[go_sem,simprocAttr,l,J,P,G,AV.c,u];refine⟨.inr ⟨e,_,_,rfl,.st ?_,j⟩⟩;rw[g,o];exact .err
 rw[E]at f;have g:=L _ f;have u:=λ{H K}=>jB (e:=2) (by decide) (H:=H) (K:=K);simp[go_sem,l,u];refine⟨.inr ⟨2,_,_,rfl,.st ?_,j⟩⟩;rw[g];exact .err
def ajV(v:∀c rows lo hi,O.grow c rows lo hi=lK c rows lo hi 9223372036854775807)(x:B.known<=9223372036854775807)(y:B.ok)(h:EV I B M Fr H)(z:M.tabs.length<=1000000000){k:Nm}{lo hi:Int}:ac VS 133 [.hp I.b 0,.s k,.i .i64 lo,.i .i64 hi,wD I] H (dY I B Fr (aM body (.st (gc k) λ_=>match B.wd.tab k with|none=>.err 6|some (c,rows)=>(O.grow c rows lo hi).tr 2) M)):=by refine .body agM rfl rfl ?_;simp[go_sem,ao5,Fu];refine(Fp h z).mono λr hr=>?_;obtain⟨N,rfl,d⟩:=hr;obtain⟨S,o⟩:=d.h;have f:=o.hb;have p:=aw f;have j:=o.htm;have a:eP _ (.s k) true (.ag [.s [],.b false,.nil]) (some (.mp (tE B.tbs)))=some _:=nO gS k B.tbs _;have A:=λ{H K}=>eB (e:=6) (H:=H) (K:=K);have C:=λ{H K}=>ki (H:=H) (K:=K);cases g:aI k B.tbs with|none=>rw[g]at a;simp[vy,sa,oy]at a;simp[go_sem,simprocAttr,f,j,a,A];refine⟨.inr ⟨6,_,_,rfl,.st ?_,d⟩⟩;simp[BW.wd,g,vy];exact .err|some t=>
 rw[g]at a;simp[ef,eD,ot]at a;obtain⟨t1,P⟩:=y.t (k,t) (iS g);obtain⟨r,g1,E⟩:=ajc t t1 lo hi B.known;have l:=λ{H K}=>g1.c (H:=H) (K:=K) zK rfl (by simp[t.pl,aV]) (.inl rfl);simp[Tb.c]at a l;have Q:O.grow t.two (t.forced _) lo hi=lK t.two _ lo hi _:=(v _ _ _ _).trans (ajS x);have u:(match B.wd.tab k with|none=>Tr.err 6|some (c,rows)=>(O.grow c rows lo hi).tr 2)=(lK t.two (t.rows.map Rw.n) lo hi B.known).tr 2:=by grind[BW.wd]
 refine E.two (λq m n=>?_) λe m n F=>?_;·obtain⟨w,G,U,J⟩:=q.avk (.inl rfl);subst n;simp[go_sem,simprocAttr,f,j,a,l,C];exact⟨p,⟨.inl ⟨w,_,_,by grind,J,.st (by rw[u,m,G];exact .ret),d⟩⟩⟩
 subst F;have L:=λ{H K}=>jB n (H:=H) (K:=K);simp[go_sem,simprocAttr,f,j,a,l,L];exact⟨p,⟨.inr ⟨e,_,_,rfl,.st (by rw[u,m];exact .err),d⟩⟩⟩
end
end
section
open Go.Dm
set_option maxRecDepth 10000
def Sk(O:bV)(op:Nat):Prop:=∀(I:bW)(B:BW)(M:aj)(Fr:List (Nat×an))(H:ab)(body:bk->Tr)(i:Nat)(vs:List AV)(nm:Nm)(md:Int),B.ok->vs.length<=3->(∀a∈vs,a.ok)->EV I B M ((i,aO vs false)::Fr) H->M.facts.length<=1000000000->M.tabs.length<=1000000000->ac VS 108 [.hp I.b 0,.i .u8 op,.s nm,.i .i64 md,.mu i 3 0 vs.length,wD I] H (dY I B Fr (aM body (cS O B.wd op nm md (vs.map AV.v)) M))
def rq{O:bV}{W:Wd}{op:Nat}{nm:Nm}{md:Int}{vs:List AV}(b:co op (vs.map λa=>a.v.k)=true):cS O W op nm md (vs.map AV.v)=(if op=3\/op=4 then .st (fJ (nm,(vs.map AV.v)[0]!.i,(vs.map AV.v)[0]!.i+1)) λ_=>gD W op nm (vs.map AV.v)[0]!.i else if op=6 then .st (gc nm) λ_=>eU W nm (vs.map AV.v)else if op=21\/op=22 then(if(vs.map AV.v)[1]!.i<=(vs.map AV.v)[0]!.i then(if op=22 then .err 6 else .ret ⟨2,0,1,0⟩)else .st (fJ (nm,(vs.map AV.v)[0]!.i,(vs.map AV.v)[1]!.i)) λ_=>ge O W op nm (vs.map AV.v))else if op=23 then .st (gc nm) λ_=>match W.tab nm with|none=>.err 6|some (c,rows)=>(O.grow c rows (vs.map AV.v)[0]!.i (vs.map AV.v)[1]!.i).tr 2 else(O.pure op md (vs.map AV.v)).tr):=by unfold cS;rw[AAf,show(NV.k∘AV.v)=(λa=>a.v.k)from rfl,G1 b];rfl
section
variable{I:bW}{B:BW}{M:aj}{Fr:List (Nat×an)}{H:ab}{body:bk->Tr}{O:bV}{op i:Nat}{vs:List AV}{nm:Nm}{md:Int}
def dY.ans{b:NR}{t:Tr}(h:∀r,fM b H r->fM b H r)(g:EV I B M Fr H)(hr:aM body t M b M){r:CR}(c:fM b H r):dY I B Fr (aM body t M) r:=by cases r with|ret d f=>obtain⟨rfl,a,rfl,rfl,i⟩:=c;constructor<;>grind|pan d f=>obtain⟨rfl,e,rfl,rfl⟩:=c;constructor<;>grind|bad=>exact c.elim
def NR.run(a:NR):aM body a.tr M a M:=by cases a with|ok v=>exact .ret|er e=>exact .err
theorem ajW(b:op<256)(c:vs.length<=3)(h:EV I B M ((i,aO vs false)::Fr) H)(d:co op (vs.map λa=>a.v.k)=false):ac VS 108 [.hp I.b 0,.i .u8 op,.s nm,.i .i64 md,.mu i 3 0 vs.length,wD I] H (dY I B Fr (aM body (cS O B.wd op nm md (vs.map AV.v)) M)):=by refine ajo b c h.fr d ⟨.inr ⟨185,M,_,rfl,?_,(h.set).drop⟩⟩;unfold cS;rw[AAf,show(NV.k∘AV.v)=(λa=>a.v.k)from rfl,E1 (by grind)];exact .err
def ajX(c:O.pure=iR)(d:¬(3<=op/\op<=6)/\¬(21<=op/\op<=23))(e:vs.length<=3)(f:∀a∈vs,a.ok)(h:EV I B M ((i,aO vs false)::Fr) H)(b:co op (vs.map λa=>a.v.k)=true):ac VS 108 [.hp I.b 0,.i .u8 op,.s nm,.i .i64 md,.mu i 3 0 vs.length,wD I] H (dY I B Fr (aM body (cS O B.wd op nm md (vs.map AV.v)) M)):=by refine(ajA d e f b h.fr).mono λr hr=>?_;refine dY.ans (λ_ h=>h) (h.set).drop ?_ hr;rw[rq b,E1 (by omega),E1 (by omega),E1 (by omega),E1 (by omega),c];exact NR.run _
theorem ajY{a:AV}(n:op=3\/op=4)(u:B.ok)(v:a.ok)(w:a.v.k=4)(h:EV I B M ((i,aO [a] false)::Fr) H)(x:M.facts.length<=1000000000)(o:co op [a.v.k]=true):ac VS 108 [.hp I.b 0,.i .u8 op,.s nm,.i .i64 md,.mu i 3 0 1,wD I] H (dY I B Fr (aM body (cS O B.wd op nm md [a.v]) M)):=by
 have q:=ww (by omega) o h.fr;have p:=h.set (y:=aO [a] true);generalize H.set i _=C at q p;have g:=λ{K}=>q.ec (K:=K);have t:=q.ar;have z:=v.o.d w;have j:=ajM (body:=body) u p x z n (k:=nm);have A:cS O B.wd op nm md [a.v]=.st (fJ (nm,a.v.i,a.v.i+1)) λ_=>gD B.wd op nm a.v.i:=by have:=rq (O:=O) (W:=B.wd) (nm:=nm) (md:=md) (vs:=[a]) o;grind
 rw[A];refine .body jn rfl rfl ?_;rcases n with rfl|rfl
 ·simp[lA]at g j;simp[go_sem,simprocAttr,fp,g,t,AV.c];refine j.mono λr hr=>?_;rcases hr.drop.h with⟨l,b,c,rfl,m,d,f⟩|⟨e,b,c,rfl,d,f⟩;·simp[go_sem,AV.c];exact⟨.inl ⟨l,b,c,rfl,m,d,f⟩⟩
  constructor<;>grind
 simp[lA]at g j;simp[go_sem,simprocAttr,fp,g,t,AV.c];refine j.mono λr hr=>?_;rcases hr.drop.h with⟨l,b,c,rfl,m,d,f⟩|⟨e,b,c,rfl,d,f⟩;·simp[go_sem,AV.c];exact⟨.inl ⟨l,b,c,rfl,m,d,f⟩⟩
 constructor<;>grind
structure DoM(op:Nat)(vs:List AV)(i:Nat)(H H2:ab):Prop where ec:∀{K:CR->Prop},ac VS 129 [.i .u8 op,.mu i 3 0 vs.length] H K↔K (.ret (.b true) H2)ar:aK H2 i 3=some (6,iz vs,some 3,true,true)g:H2[i]?=some (.ar 6 (iz vs) (some 3) true true)l:i<H2.length
def wJ(f:op<256)(b:vs.length<=3)(g:co op (vs.map λa=>a.v.k)=true)(hi:H[i]?=some (aO vs false)):DoM op vs i H (H.set i (aO vs true)):=by
 have c:=λ{K}=>Ao f b hi (K:=K);rw[g]at c;have d:(H.set i (aO vs true))[i]?=some (aO vs true):=by grind
 have e:(H.set i _)[i]?=some (.ar 6 _ _ true true):=d;exact⟨c,by simp[Dm.aK,e,Cn b],e,aw d⟩
theorem aj0{a:AV}(n:B.ok)(o:a.ok)(p:a.v.k=2\/a.v.k=3)(h:EV I B M ((i,aO [a] false)::Fr) H)(t:M.tabs.length<=1000000000)(b:co 6 [a.v.k]=true):ac VS 108 [.hp I.b 0,.i .u8 6,.s nm,.i .i64 md,.mu i 3 0 1,wD I] H (dY I B Fr (aM body (cS O B.wd 6 nm md [a.v]) M)):=by
 have q:=wJ (vs:=[a]) (by omega) (by simp) b h.fr;have c:=h.set (y:=aO [a] true);generalize H.set i _=C at q c;have d:=λ{K}=>q.ec (K:=K);have f:=q.ar;have u:=q.g;have v:=ajO (body:=body) n o p c t (k:=nm);have w:cS O B.wd 6 nm md [a.v]=.st (gc nm) λ_=>eU B.wd nm [a.v]:=by have:=rq (O:=O) (W:=B.wd) (nm:=nm) (md:=md) (vs:=[a]) b;grind
 rw[w];refine .body jn rfl rfl ?_;simp only[fD,kx,lA,Nat.reduceAdd]at d;have x:iz [a]=[a.c,cw,cw]:=rfl;rw[x]at f u;simp[go_sem,simprocAttr,fp,d,f,AV.c];refine v.mono λr hr=>?_;rcases hr.drop.h with⟨z,g,j,rfl,A,l,m⟩|⟨e,g,j,rfl,l,m⟩;·simp[go_sem,AV.c];exact⟨.inl ⟨z,g,j,rfl,A,l,m⟩⟩
 constructor<;>grind
theorem aj1{a b:AV}(o:B.ok)(p:a.ok)(t:a.v.k=2\/a.v.k=3)(u:b.ok)(v:b.v.k=2\/b.v.k=3)(h:EV I B M ((i,aO [a,b] false)::Fr) H)(w:M.tabs.length<=1000000000)(c:co 6 [a.v.k,b.v.k]=true):ac VS 108 [.hp I.b 0,.i .u8 6,.s nm,.i .i64 md,.mu i 3 0 2,wD I] H (dY I B Fr (aM body (cS O B.wd 6 nm md [a.v,b.v]) M)):=by
 have q:=wJ (vs:=[a,b]) (by omega) (by simp) c h.fr;have d:=h.set (y:=aO [a,b] true);generalize H.set i _=G at q d;have f:=λ{K}=>q.ec (K:=K);have g:=q.ar;have x:=q.g;have z:=ajP (body:=body) o p t u v d w (k:=nm);have A:cS O B.wd 6 nm md [a.v,b.v]=.st (gc nm) λ_=>eU B.wd nm [a.v,b.v]:=by have:=rq (O:=O) (W:=B.wd) (nm:=nm) (md:=md) (vs:=[a,b]) c;grind
 rw[A];refine .body jn rfl rfl ?_;simp only[fD,kx,lA,Nat.reduceAdd]at f;have C:iz [a,b]=[a.c,b.c,cw]:=rfl;rw[C]at g x;simp[go_sem,simprocAttr,fp,f,g,AV.c];refine z.mono λr hr=>?_;rcases hr.drop.h with⟨E,j,l,rfl,F,m,n⟩|⟨e,j,l,rfl,m,n⟩;·simp[go_sem,AV.c];exact⟨.inl ⟨E,j,l,rfl,F,m,n⟩⟩
 constructor<;>grind
def aj2{a b:AV}(o:O.serv=rK)(p:B.ok)(h:EV I B M ((i,aO [a,b] false)::Fr) H)(t:M.facts.length<=1000000000)(c:co 21 [a.v.k,b.v.k]=true):ac VS 108 [.hp I.b 0,.i .u8 21,.s nm,.i .i64 md,.mu i 3 0 2,wD I] H (dY I B Fr (aM body (cS O B.wd 21 nm md [a.v,b.v]) M)):=by
 have q:=wJ (vs:=[a,b]) (by omega) (by simp) c h.fr;have d:=h.set (y:=aO [a,b] true);generalize H.set i _=C at q d;have f:=λ{K}=>q.ec (K:=K);have g:=q.ar;have u:=q.g;have v:=ajT (body:=body) o p d t (k:=nm);have w:cS O B.wd 21 nm md [a.v,b.v]=if b.v.i<=a.v.i then .ret ⟨2,0,1,0⟩else .st (fJ (nm,a.v.i,b.v.i)) λ_=>ge O B.wd 21 nm [a.v,b.v]:=by have:=rq (O:=O) (W:=B.wd) (nm:=nm) (md:=md) (vs:=[a,b]) c;grind
 rw[w];refine .body jn rfl rfl ?_;simp only[fD,kx,lA,Nat.reduceAdd]at f;have x:iz [a,b]=[a.c,b.c,cw]:=rfl;rw[x]at g u;simp[go_sem,simprocAttr,fp,f,g,AV.c];refine v.mono λr hr=>?_;rcases hr.drop.h with⟨z,j,l,rfl,A,m,n⟩|⟨e,j,l,rfl,m,n⟩;·simp[go_sem,AV.c];exact⟨.inl ⟨z,j,l,rfl,A,m,n⟩⟩
 constructor<;>grind
def aj3{a b c:AV}(p:Fw O)(t:B.ok)(h:EV I B M ((i,aO [a,b,c] false)::Fr) H)(u:M.facts.length<=1000000000)(d:co 22 [a.v.k,b.v.k,c.v.k]=true):ac VS 108 [.hp I.b 0,.i .u8 22,.s nm,.i .i64 md,.mu i 3 0 3,wD I] H (dY I B Fr (aM body (cS O B.wd 22 nm md [a.v,b.v,c.v]) M)):=by
 have q:=wJ (vs:=[a,b,c]) (by omega) (by simp) d h.fr;have f:=h.set (y:=aO [a,b,c] true);generalize H.set i _=E at q f;have g:=λ{K}=>q.ec (K:=K);have j:=q.ar;have v:=q.g;have w:=ajU (body:=body) p t f u (k:=nm);have x:cS O B.wd 22 nm md [a.v,b.v,c.v]=if b.v.i<=a.v.i then .err 6 else .st (fJ (nm,a.v.i,b.v.i)) λ_=>ge O B.wd 22 nm [a.v,b.v,c.v]:=by have:=rq (O:=O) (W:=B.wd) (nm:=nm) (md:=md) (vs:=[a,b,c]) d;grind
 rw[x];refine .body jn rfl rfl ?_;simp only[fD,kx,lA,Nat.reduceAdd]at g;have z:iz [a,b,c]=[a.c,b.c,c.c]:=rfl;rw[z]at j v;simp[go_sem,simprocAttr,fp,g,j,AV.c];refine w.mono λr hr=>?_;rcases hr.drop.h with⟨A,l,m,rfl,C,n,o⟩|⟨e,l,m,rfl,n,o⟩;·simp[go_sem,AV.c];exact⟨.inl ⟨A,l,m,rfl,C,n,o⟩⟩
 constructor<;>grind
def aj4{a b:AV}(p:∀c rows lo hi,O.grow c rows lo hi=lK c rows lo hi 9223372036854775807)(t:B.known<=9223372036854775807)(u:B.ok)(h:EV I B M ((i,aO [a,b] false)::Fr) H)(v:M.tabs.length<=1000000000)(d:co 23 [a.v.k,b.v.k]=true):ac VS 108 [.hp I.b 0,.i .u8 23,.s nm,.i .i64 md,.mu i 3 0 2,wD I] H (dY I B Fr (aM body (cS O B.wd 23 nm md [a.v,b.v]) M)):=by
 have q:=wJ (vs:=[a,b]) (by omega) (by simp) d h.fr;have f:=h.set (y:=aO [a,b] true);generalize H.set i _=G at q f;have g:=λ{K}=>q.ec (K:=K);have j:=q.ar;have w:=q.g;have x:=q.l;have z:=ajV (body:=body) p t u f v (k:=nm) (lo:=a.v.i) (hi:=b.v.i);have A:cS O B.wd 23 nm md [a.v,b.v]=.st (gc nm) λ_=>match B.wd.tab nm with|none=>.err 6|some (c,rows)=>(O.grow c rows a.v.i b.v.i).tr 2:=by have:=rq (O:=O) (W:=B.wd) (nm:=nm) (md:=md) (vs:=[a,b]) d;grind
 rw[A];refine .body jn rfl rfl ?_;simp only[fD,kx,lA,Nat.reduceAdd]at g;have C:iz [a,b]=[a.c,b.c,cw]:=rfl;rw[C]at j w;simp[go_sem,simprocAttr,fp,g,j,x,AV.c];refine z.mono λr hr=>?_;rcases hr.drop.h with⟨E,l,m,rfl,F,n,o⟩|⟨e,l,m,rfl,n,o⟩;·simp[go_sem,AV.c];exact⟨.inl ⟨E,l,m,rfl,F,n,o⟩⟩
 constructor<;>grind
end
structure Ar(O:bV):Prop where
 p:O.pure=iR
 s:O.serv=rK
 b:Fw O
 g:∀two rows lo hi,O.grow two rows lo hi=lK two rows lo hi 9223372036854775807
def aj5{O:bV}(f:Ar O){op:Nat}(p:op<256):Sk O op:=λI B M Fr H body i vs nm md g l e h m q=>by cases d:co op (vs.map λa=>a.v.k)with|false=>grind[ajW]|true=>
 by_cases r:¬(3<=op/\op<=6)/\¬(21<=op/\op<=23);·exact ajX f.p r l e h d
 have j:∀k∈vs.map λa=>a.v.k,1<=k/\k<=6:=by intro k j;obtain⟨a,s,rfl⟩:=f0.1 j;exact(e a s).o.k
 have p:=RZ (by grind) j d;obtain⟨_,hs⟩:=RX (by grind) j d;have n:op=3\/op=4\/op=6\/op=21\/op=22\/op=23:=by omega
 match vs,l,e,d,h,hs with
 |[],_,_,d,_,_=>grind[co]|[a],_,e,d,h,hs=>grind[ajY,Ff,aj0,wz]|[a,b],_,e,d,h,hs=>
 simp only[fA,y4]at d hs⊢;rcases n with rfl|rfl|rfl|rfl|rfl|rfl;·cases hs
 ·cases hs
 ·have t:(jV a.v.k&&jV b.v.k)=true:=hs;grind[aj1,wz]
 ·exact aj2 f.s g h m d
 ·cases hs
 exact aj4 f.g g.k g h q d|[a,b,c],_,_,d,h,hs=>
 rcases n with rfl|rfl|rfl|rfl|rfl|rfl;·cases hs
 ·cases hs
 ·cases hs
 ·cases hs
 ·exact aj3 f.b g h m d
 cases hs|_::_::_::_::_,l,_,_,_,_=>grind
end
section
open Go.Dm
set_option maxRecDepth 10000
mutual
def EN.size:EN -> Nat
 | .mk _ _ _ _ a=>1+cM a
def cM:List EN -> Nat
 | []=>0
 | e::l=>e.size+cM l
end
theorem EN.size_eq (e:EN):e.size=1+cM e.args:=by cases e;rfl
theorem Sm : ∀ {l:List EN} {i:Nat},i<l.length -> l[i]!.size <= cM l
 | e::l,0,_=>by grind[cM]
 | e::l,i+1,h=>by
  have:=Sm (l:=l) (i:=i) (by grind)
  grind[cM]
theorem Fx : ∀ {l:List EN} {i j:Nat},i<j -> j<l.length -> l[i]!.size+l[j]!.size <= cM l
 | e::l,0,j+1,_,h=>by
  have:=Sm (l:=l) (i:=j) (by grind)
  grind[cM]
 | e::l,i+1,j+1,h1,h=>by
  have:=Fx (l:=l) (i:=i) (j:=j) (by omega) (by grind)
  grind[cM]
def dM:bk -> Int
 | .term e _=>e.size
 | .pair _ _=>0
def jW (K:Int) (M:aj):Int:=(M.facts.length:Int)+M.tabs.length-K*M.begun.length
structure dO (K a:Int) (M M':aj):Prop where
 p:jW K M' <= jW K M+a
 b:M.begun.length <= M'.begun.length
inductive cF (K:Int):Int -> Tr -> Prop where
 | ret {c:Int} {v:NV}:0 <= c -> cF K c (.ret v)
 | err {c e:Int}:0 <= c -> cF K c (.err e)
 | st {c:Int} {u:aj -> aj} {k:aj -> Tr} (a:Int):(∀ M,dO K a M (u M)) -> (∀ M,cF K (c-a) (k M)) -> cF K c (.st u k)
 | call {c:Int} {j:bk} {k:NV -> Tr}:dM j <= c -> (∀ v,cF K (c-dM j) (k v)) -> cF K c (.call j k)
theorem cF.run {K:Int} {f:bk -> aj -> Option (NR×aj)} (hf : ∀ j M r M',f j M=some (r,M') -> dO K (dM j) M M') {c:Int} {t:Tr} (h:cF K c t) : ∀ {M:aj} {r:NR} {M':aj},fY f t M=some (r,M') -> dO K c M M':=by
 induction h with
 | ret hc=>intro M r M' e;cases e;exact⟨by omega,Hk _⟩
 | err hc=>intro M r M' e;cases e;exact⟨by omega,Hk _⟩
 | @st c u k a hu _ ih =>
  intro M r M' e
  have h1:=ih M e
  have h2:=hu M
  exact⟨by have:=h1.p;have:=h2.p;omega,gp h2.b h1.b⟩
 | @call c j k hc _ ih =>
  intro M r M' e
  simp[fY]at e
  cases hj:f j M with
  | none=>grind
  | some p =>
   obtain⟨a,M1⟩:=p
   rw[hj]at e
   have h1:=hf _ _ _ _ hj
   cases a with
   | er x=>cases e;exact⟨by have:=h1.p;omega,h1.b⟩
   | ok v =>
    have h2:=ih v e
    exact⟨by have:=h1.p;have:=h2.p;omega,gp h1.b h2.b⟩
theorem Sn {K:Int} {body:bk -> Tr} (hb : ∀ j,cF K (dM j) (body j)) : ∀ (n:Nat) (j:bk) (M:aj) (r:NR) (M':aj),kM body n j M=some (r,M') -> dO K (dM j) M M'
 | 0,_,_,_,_,h=>by cases h
 | n+1,j,M,r,M',h=>(hb j).run (fun j M r M'=>Sn hb n j M r M') h
theorem bO.cst {K:Int} {body:bk -> Tr} (hb : ∀ j,cF K (dM j) (body j)) {j:bk} {M:aj} {r:NR} {M':aj} (h:bO body j M r M'):dO K (dM j) M M':=by
 obtain⟨n,h⟩:=h
 grind[Sn]
section
variable {K:Int}
theorem dO.noteF (x:Nm×Int×Int) (M:aj):dO K 1 M (fJ x M):=by
 have:=M8 M.facts x
 refine⟨?_,Hk _⟩
 show((gq _ x).length:Int)+M.tabs.length-K*M.begun.length <= _
 grind[jW]
theorem dO.noteT (x:Nm) (M:aj):dO K 1 M (gc x M):=by
 have:=M8 M.tabs x
 refine⟨?_,Hk _⟩
 show M.facts.length+(gq _ x).length-K*M.begun.length <= _
 grind[jW]
theorem dO.refl (M:aj):dO K 0 M M:=⟨by omega,Hk _⟩
theorem cF.mono {c c':Int} {t:Tr} (h:cF K c t):c <= c' -> cF K c' t:=by
 revert c'
 induction h with
 | ret hc=>intro c' hl;exact .ret (by omega)
 | err hc=>intro c' hl;exact .err (by omega)
 | st a hu _ ih=>intro c' hl;exact .st a hu fun M=>ih M (by omega)
 | call hc _ ih=>intro c' hl;exact .call (by omega) fun v=>ih v (by omega)
theorem NR.cst (r:NR) {c:Int} (h:0 <= c):cF K c r.tr:=by cases r<;>first|exact .ret h|exact .err h
theorem EQ.cst (k:Nat) (r:EQ) {c:Int} (h:0 <= c):cF K c (r.tr k):=by cases r<;>first|exact .ret h|exact .err h
theorem aj6 (W:Wd) (nm:Nm) (vs:List NV):cF K 0 (eU W nm vs):=by
 unfold eU
 repeat' first|exact .err (sd _)|exact .ret (sd _)|split
theorem aj7 (O:bV) (W:Wd) (op:Nat) (nm:Nm) (vs:List NV):cF K 0 (ge O W op nm vs):=by
 unfold ge
 repeat' first|exact .err (sd _)|exact EQ.cst _ _ (sd _)|split
theorem aj8 (W:Wd) (op:Nat) (nm:Nm) (d:Int):cF K 0 (gD W op nm d):=by
 unfold gD
 repeat' first|exact .err (sd _)|exact .ret (sd _)|split
theorem aj9 (O:bV) (W:Wd) (op:Nat) (nm:Nm) (md:Int) (vs:List NV):cF K 1 (cS O W op nm md vs):=by
 have h1:(0:Int) <= 1:=by decide
 unfold cS
 split
 ·split
  ·exact .st 1 (dO.noteF _) fun _=>aj8 W op nm _
  ·split
   ·exact .st 1 (dO.noteT _) fun _=>aj6 W nm vs
   ·split
    ·split
     ·split
      ·exact .err h1
      ·exact .ret h1
     ·exact .st 1 (dO.noteF _) fun _=>aj7 O W op nm vs
    ·split
     ·refine .st 1 (dO.noteT _) fun _ => ?_
      split
      ·exact .err (sd _)
      grind[EQ.cst]
     grind[NR.cst]
 ·exact .err h1
theorem ub {e:EN} {d c:Int} {k:Bool -> Tr} (h : ∀ b,cF K c (k b)) (hc:0 <= c):cF K (e.size+c) (gB e d k):=by
 refine .call (by grind[dM]) fun v => ?_
 have e1:e.size+c-dM (.term e d)=c:=by grind[dM]
 rw[e1]
 split
 ·grind
 ·exact .err hc
theorem So {d c:Int} {k:List NV -> Tr} (h : ∀ l,cF K c (k l)) (hc:0 <= c) : ∀ (l:List EN) (acc:List NV),cF K (cM l+c) (iX d k l acc)
 | [],acc=>by
  have e1:((cM []):Int)+c=c:=by grind[cM]
  rw[e1];exact h acc
 | e::l,acc=>by
  refine .call (by grind[dM,cM]) fun v => ?_
  have e1:((cM (e::l):Nat))+c-dM (.term e d)=cM l+c:=by grind[dM,cM]
  rw[e1]
  exact So h hc l _
def dC (l:List (Nat×jt)):Nat:=(l.map fun p=>p.2.when.size).sum
theorem Fy {d c:Int} {k:Nat -> Tr} (h : ∀ i,cF K c (k i)) (hc:0 <= c) : ∀ (l:List (Nat×jt)) (i n:Nat),cF K (dC l+c) (fo d k l i n)
 | [],i,n=>by
  have e1:((dC []):Int)+c=c:=by simp[dC]
  rw[e1]
  unfold fo
  split
  ·exact .err hc
  ·split
   ·exact .err hc
   grind
 | (j,x)::l,i,n=>by
  have e1:((dC ((j,x)::l):Nat))+c=x.when.size+(dC l+c):=by grind[dC]
  rw[e1]
  refine ub (fun b => ?_) (by omega)
  split
  ·exact Fy h hc l _ _
  ·exact Fy h hc l _ _
theorem aka (op:Nat):(kT op).2 <= 3:=by
 grind[kT]
theorem akb : ∀ {l:List EN},l.length=3 -> l[0]!.size+l[1]!.size+l[2]!.size <= cM l
 | [a,b,c],_=>by
  grind[cM]
theorem Sp {e:EN} (h:e.formed=true):(e.op=15 \/ e.op=16 -> e.args.length=2) /\ (e.op=18 -> e.args.length=3) /\ e.args.length <= 3:=by
 unfold EN.formed at h
 simp only[D0,Hq]at h
 have h3:=aka e.op
 grind[kT]
theorem akc (O:bV) (W:Wd) (e:EN) (d:Int):cF K e.size (eA O W e d):=by
 have hs:=e.size_eq
 unfold eA
 split
 ·rename_i hf
  obtain⟨n1,n2,n3⟩:=Sp hf
  split
  ·exact .ret (by omega)
  ·split
   ·exact .ret (by omega)
   ·split
    ·rename_i ho
     have:=Fx (l:=e.args) (i:=0) (j:=1) (by omega) (by omega)
     refine cF.mono (ub (c:=e.args[1]!.size+0) (fun b => ?_) (by omega)) (by omega)
     split
     ·exact ub (fun c => .ret (sd _)) (sd _)
     ·exact .ret (by omega)
    ·split
     ·rename_i ho
      have:=Fx (l:=e.args) (i:=0) (j:=1) (by omega) (by omega)
      refine cF.mono (ub (c:=e.args[1]!.size+0) (fun b => ?_) (by omega)) (by omega)
      split
      ·exact .ret (by omega)
      ·exact ub (fun c => .ret (sd _)) (sd _)
     ·split
      ·rename_i ho
       refine cF.mono (ub (c:=e.args[1]!.size+e.args[2]!.size) (fun b => ?_) (by omega)) ?_
       ·split
        ·exact .call (by grind[dM]) fun v => .ret (by grind[dM])
        ·exact .call (by grind[dM]) fun v => .ret (by grind[dM])
       grind[akb]
      ·refine cF.mono (So (c:=1) (fun vs => ?_) (by decide) _ []) (by omega)
       split
       ·unfold lT
        split
        ·exact .call (by grind[dM]) fun v => .ret (by grind[dM])
        ·exact .err (by decide)
       grind[aj9,O]
 ·exact .err (by omega)
theorem akd (W:Wd) (nm:Nm) (d:Int) (hK : ∀ c,(dC (W.cl nm d):Int)+(W.clause c).thn.size <= K):cF K 0 (rM W nm d):=by
 refine .st 0 (fun M=>dO.refl M) fun M => ?_
 split
 ·exact .ret (by decide)
 ·refine .st 0 (fun M=>dO.refl M) fun M => ?_
  split
  ·exact .err (by decide)
  ·refine .st 0 (fun M=>⟨by grind[jW,mJ],Hk _⟩) fun M => ?_
   split
   ·exact .err (by decide)
   ·refine .st (-K) (fun M=>⟨?_,by grind[pz]⟩) fun M => ?_
    ·unfold jW pz
     simp only[Rp,n3]
     grind
    ·have h0:=hK 0
     split
     ·exact .err (by omega)
     ·refine cF.mono (Fy (c:=K-dC (W.cl nm d)) (fun c => ?_) (by omega) _ 0 0) (by omega)
      refine .call (by grind[dM]) fun v => ?_
      split
      ·exact .st 0 (fun M=>⟨by grind[jW,wX],Hk _⟩) fun M => .ret (by grind[dM])
      ·exact .err (by grind[dM])
theorem ake (O:bV) (W:Wd) (hK : ∀ nm d c,(dC (W.cl nm d):Int)+(W.clause c).thn.size <= K) (j:bk):cF K (dM j) (bQ O W j):=by
 cases j with
 | term e d=>exact akc O W e d
 | pair nm d=>exact akd W nm d (hK nm d)
end
end
section
open Go.Dm
set_option maxRecDepth 10000
inductive dp(Al:Nat->Prop):Ex->Prop where|mk{e:Ex}:e.op<256->Al e.op->(∀a∈e.args,dp Al a)->dp Al e
variable{x:Ex}
def dp.lt{Al:Nat->Prop}(h:dp Al x):x.op<256:=by cases h;omega
def dp.al{Al:Nat->Prop}(h:dp Al x):Al x.op:=by cases h;omega
theorem dp.args{Al:Nat->Prop}(h:dp Al x):∀a∈x.args,dp Al a:=by cases h;omega
structure iU(M:aj):Prop where
 p:M.pairs.length<=M.begun.length
 b:M.begun.length<=4096
structure eK(K:Int)(m:Nat)(s:Int)(M:aj):Prop where
 ok:iU M
 m:4096<=M.begun.length+m
 p:jW K M+s<=500000000
 k:0<=K/\K<=100000
def eK.f{K:Int}{m:Nat}{s:Int}{M:aj}(h:eK K m s M)(hs:0<=s):M.facts.length<=1000000000/\M.tabs.length<=1000000000:=by have a:=h.p;have b:=h.ok.b;have c:K*M.begun.length<=100000*4096:=Int.mul_le_mul h.k.2 (by omega) (by omega) (by omega);grind[jW]
def eK.stp{K:Int}{m:Nat}{s a:Int}{M b:aj}(h:eK K m s M)(hs:dO K a M b)(c:iU b):eK K m (s-a) b:=⟨c,by have:=h.m;have:=hs.b;omega,by have:=h.p;have:=hs.p;omega,h.k⟩
def eK.le{K:Int}{m:Nat}{s s':Int}{M:aj}(h:eK K m s M)(hs:s'<=s):eK K m s' M:=⟨h.ok,h.m,by have:=h.p;omega,h.k⟩
structure Cx(O:bV)(B:BW)(K:Int)(Al:Nat->Prop):Prop where
 b:B.ok
 d:∀op,Al op->op<256->Sk O op
 w:∀nm d c,(dC (B.wd.cl nm d):Int)+(B.wd.clause c).thn.size<=K
 k:K<=100000
 c:∀c∈B.cls,dp Al c.w/\dp Al c.t
def mz(O:bV)(I:bW)(B:BW)(Fr:List (Nat×an))(j:bk)(M:aj):CR->Prop:=dY I B Fr (λr a=>bO (bQ O B.wd) j M r a/\∀v,r=.ok v->iU a)
def lL(O:bV)(B:BW)(K:Int)(Al:Nat->Prop)(m s:Nat):Prop:=∀(I:bW)(M:aj)(Fr:List (Nat×an))(H:ab)(e:Ex)(d:Int),e.en.size<=s->dp Al e->0<=d/\d<65536->eK K m e.en.size M->EV I B M Fr H->ac VS 94 [.hp I.b 0,e.d,.i .i64 d,wD I] H (mz O I B Fr (.term e.en d) M)
def wK(O:bV)(B:BW)(K:Int)(m:Nat):Prop:=∀(I:bW)(M:aj)(Fr:List (Nat×an))(H:ab)(a:Nm)(d:Int),0<=d/\d<65536->eK K m 0 M->EV I B M Fr H->ac VS 30 [.hp I.v 0,.s a,.i .i64 d] H (mz O I B Fr (.pair a d) M)
structure akf(O:bV)(I:bW)(B:BW)(Fr:List (Nat×an))(K:Int)(e:EN)(d:Int)(M:aj)(r:CR):Prop where h:(∃(b:Bool)(M':aj)(H':ab),r=.ret (.b b) H'/\(∀k x M2,aM (bQ O B.wd) (k b) M' x M2->aM (bQ O B.wd) (gB e d k) M x M2)/\iU M'/\dO K e.size M M'/\EV I B M' Fr H')\/(∃(c:Int)(M':aj)(H':ab),r=.pan (eX c) H'/\(∀k,aM (bQ O B.wd) (gB e d k) M (.er c) M')/\EV I B M' Fr H')
section
variable{O:bV}{I:bW}{B:BW}{K:Int}{Al:Nat->Prop}{M:aj}{Fr:List (Nat×an)}{H:ab}{m s:Nat}
theorem Cx.cst(a:Cx O B K Al)(j:bk):cF K (dM j) (bQ O B.wd j):=ake O B.wd a.w j
def uc(o:Cx O B K Al)(p:lL O B K Al m s){e:Ex}{d:Int}(hs:e.en.size<=s)(q:dp Al e)(t:0<=d/\d<65536)(hr:eK K m e.en.size M)(h:EV I B M Fr H):ac VS 104 [.hp I.b 0,e.d,.i .i64 d,wD I] H (akf O I B Fr K e.en d M):=by
 have n:=p I M Fr H e d hs q t hr h;have u:=λ{H K}=>eB (e:=185) (H:=H) (K:=K);refine .body agI rfl rfl ?_;simp only[Ex.d,Ex.row_eq]at n⊢;simp[go_sem,aoZ];refine n.mono λr v=>?_;rcases v.h with⟨a,f,g,rfl,A,⟨b,w⟩,j⟩|⟨c,f,g,rfl,⟨b,_⟩,j⟩
 ·have y:=b.cst o.cst;simp[AV.c];by_cases z:a.v.k=1
  ·have l:(a.v.k:Int)=1:=by omega
   simp[go_sem,simprocAttr,l];refine⟨.inl ⟨decide _,f,g,rfl,λk x C E=>?_,w _ rfl,y,j⟩⟩;refine aM.call b ?_;grind
  have l:¬(a.v.k:Int)=1:=by omega
  simp[go_sem,simprocAttr,l,u];refine⟨.inr ⟨185,f,g,rfl,λk=>?_,j⟩⟩;refine aM.call b ?_;rw[E1 z];exact .err
 exact⟨.inr ⟨c,f,g,rfl,λk=>aM.calle b,j⟩⟩
end
end
section
open Go.Dm
set_option maxRecDepth 10000
def Ex.en_op(e:Ex):e.en.op=e.op:=by rw[e.en_eq];rfl
def Ex.en_args(e:Ex):e.en.args=e.args.map Ex.en:=by rw[e.en_eq];rfl
def Ex.en_name(e:Ex):e.en.name=e.name:=by rw[e.en_eq];rfl
def Ex.en_md(e:Ex):e.en.md=e.v.i:=by rw[e.en_eq];rfl
def Ex.en_val(e:Ex):e.en.val=if e.v.valid=true then some e.v.nv else none:=by rw[e.en_eq];rfl
def Ex.n_args{e:Ex}(h:e.formed=true):(e.op=15\/e.op=16->∃a b,e.args=[a,b])/\(e.op=18->∃a b c,e.args=[a,b,c])/\e.args.length<=3:=by
 obtain⟨f,g,i⟩:=Sp (e:=e.en) (e.en_formed▸h);rw[e.en_op,e.en_args,S2]at*;refine⟨λd=>?_,λd=>?_,i⟩;·have:=f d;match e.args,this with|[a,b],_=>grind
 have:=g d;match e.args,this with|[a,b,c],_=>grind
def As(b:Bool):∃a:AV,a.v=fK b/\l8 b=.ag a.c/\a.ok:=by obtain⟨t1,c⟩:=r9 b;exact t1.av c
section
variable{O:bV}{I:bW}{B:BW}{K:Int}{Al:Nat->Prop}{M:aj}{Fr:List (Nat×an)}{H:ab}{m s:Nat}{e:Ex}{d:Int}
def akg(f:dp Al e)(b:e.formed=false)(hr:iU M)(h:EV I B M Fr H):ac VS 94 [.hp I.b 0,e.d,.i .i64 d,wD I] H (mz O I B Fr (.term e.en d) M):=by have a:=λ{H K}=>(sc e f.lt).c (H:=H) (K:=K) oZ rfl (by simp[e.pl]) (.inl rfl);rw[b]at a;have g:=λ{H K}=>eB (e:=185) (H:=H) (K:=K);refine .body qX rfl rfl ?_;simp only[Ex.d,Ex.row_eq]at a⊢;simp[go_sem,rP,a,g];refine⟨.inr ⟨185,M,H,rfl,⟨bO.of ?_,λ_ h=>by cases h⟩,h⟩⟩;show aM _ (eA O B.wd e.en d) M _ _;unfold eA;rw[E1 (by rw[e.en_formed,b];decide)];exact .err
def akh(j:e.op=1)(k:dp Al e)(f:e.formed=true)(hr:iU M)(h:EV I B M Fr H):ac VS 94 [.hp I.b 0,e.d,.i .i64 d,wD I] H (mz O I B Fr (.term e.en d) M):=by
 have b:=λ{H K}=>(sc e k.lt).c (H:=H) (K:=K) oZ rfl (by simp[e.pl]) (.inl rfl);rw[f]at b;have g:e.v.valid=true:=by grind[Ex.formed]
 obtain⟨a,l,m,n⟩:=Vl.av g;have d1:(e.op:Int)=1:=by omega
 refine .body qX rfl rfl ?_;simp only[Ex.d,Ex.row_eq]at b⊢;simp only[d1]at b⊢;simp[go_sem,simprocAttr,rP,b];refine⟨.inl ⟨a,M,H,?_,n,⟨bO.of ?_,λ_ _=>hr⟩,h⟩⟩;·rw[<-m];rfl
 show aM _ (eA O B.wd e.en d) M _ _;unfold eA;rw[G1 (by rw[e.en_formed,f]),G1 (by rw[e.en_op,j]),e.en_val,G1 g,l];exact .ret
def aki(f:e.op=2)(j:dp Al e)(g:e.formed=true)(l:0<=d/\d<65536)(hr:iU M)(h:EV I B M Fr H):ac VS 94 [.hp I.b 0,e.d,.i .i64 d,wD I] H (mz O I B Fr (.term e.en d) M):=by
 have b:=λ{H K}=>(sc e j.lt).c (H:=H) (K:=K) oZ rfl (by simp[e.pl]) (.inl rfl);rw[g]at b;obtain⟨m,o⟩:=NV.plain_ok (k:=4) (n:=d) (.inl rfl) (λ_=>l) (λh=>(h rfl).elim);obtain⟨a,p,r,q⟩:=m.av o;have d1:(e.op:Int)=2:=by omega
 refine .body qX rfl rfl ?_;simp only[Ex.d,Ex.row_eq]at b⊢;simp only[d1]at b⊢;simp[go_sem,simprocAttr,rP,b];refine⟨.inl ⟨a,M,H,?_,q,⟨bO.of ?_,λ_ _=>hr⟩,h⟩⟩;·grind
 show aM _ (eA O B.wd e.en d) M _ _;unfold eA;rw[G1 (by rw[e.en_formed,g]),E1 (by rw[e.en_op,f];decide),G1 (by rw[e.en_op,f]),p];exact .ret
theorem akj(C:Cx O B K Al)(E:lL O B K Al m s)(j:e.op=15)(hs:e.en.size<=s+1)(p:dp Al e)(q:e.formed=true)(F:0<=d/\d<65536)(hr:eK K m e.en.size M)(h:EV I B M Fr H):ac VS 94 [.hp I.b 0,e.d,.i .i64 d,wD I] H (mz O I B Fr (.term e.en d) M):=by
 have l:=λ{H K}=>(sc e p.lt).c (H:=H) (K:=K) oZ rfl (by simp[e.pl]) (.inl rfl);rw[q]at l;obtain⟨a,b,t⟩:=(Ex.n_args q).1 (.inl j);have P:=t▸e.hsl;have S:=p.args a (by grind);have U:=p.args b (by grind);have af:e.en.size=1+(a.en.size+(b.en.size+0)):=by rw[EN.size_eq,e.en_args,t];rfl
 have n:bQ O B.wd (.term e.en d)=gB a.en d λx=>if x=true then gB b.en d λc=>.ret (fK c)else .ret (fK false):=by show eA O B.wd e.en d=_;unfold eA;rw[G1 (by rw[e.en_formed,q]),E1 (by rw[e.en_op,j];decide),E1 (by rw[e.en_op,j];decide),G1 (by rw[e.en_op,j]),e.en_args,t];rfl
 have G:=λ{V dr os keep W X Q Y H Z k x'}=>P.q (V:=V) (dr:=dr) (os:=os) (keep:=keep) (loc:=W) (sl:=X) (Q:=Q) (sl':=Y) (H:=H) (H':=Z) (k:=k) (x:=x');have d1:(e.op:Int)=15:=by omega
 have J:=uc C E (by omega) S F (hr.le (by omega)) h;refine .body qX rfl rfl ?_;simp only[Ex.d,Ex.row_eq]at l J⊢;simp only[d1]at l⊢;simp[go_sem,simprocAttr,rP,l,G,ta,Ex.row_eq];refine J.mono λr ab=>?_;rcases ab.h with⟨x,M1,H1,rfl,g,L,st1,o⟩|⟨c,M1,H1,rfl,g,o⟩;·cases x with|false=>obtain⟨z,z1,z2,z3⟩:=As false;have f:=λ{H K}=>oc (b:=false) (H:=H) (K:=K);rw[z2]at f;simp[AV.c]at f;simp[go_sem,f];refine⟨.inl ⟨z,M1,H1,rfl,z3,⟨bO.of ?_,λ_ _=>L⟩,o⟩⟩;rw[n,z1];exact g _ _ _ .ret|true=>
  have N:=uc C E (by omega) U F ((hr.stp st1 L).le (by omega)) o;simp[Ex.d,Ex.row_eq]at N;simp[go_sem,simprocAttr,G,ta,AAl,Ex.row_eq];refine N.mono λr ad=>?_;rcases ad.h with⟨y,u,v,rfl,w,m2,ag,A⟩|⟨c,u,v,rfl,w,A⟩;·obtain⟨z,z1,z2,z3⟩:=As y;have f:=λ{H K}=>oc (b:=y) (H:=H) (K:=K);rw[z2]at f;simp[AV.c]at f;simp[go_sem,f];refine⟨.inl ⟨z,u,v,rfl,z3,⟨bO.of ?_,λ_ _=>m2⟩,A⟩⟩;rw[n,z1];exact g _ _ _ (w (λc=>.ret _) _ _ .ret)
  refine⟨.inr ⟨c,u,v,rfl,⟨bO.of ?_,λ_ h=>by cases h⟩,A⟩⟩;rw[n];exact g _ _ _ (w λc=>.ret _)
 refine⟨.inr ⟨c,M1,H1,rfl,⟨bO.of ?_,λ_ h=>by cases h⟩,o⟩⟩;rw[n];exact g _
theorem akk(C:Cx O B K Al)(E:lL O B K Al m s)(g:e.op=16)(hs:e.en.size<=s+1)(p:dp Al e)(q:e.formed=true)(F:0<=d/\d<65536)(hr:eK K m e.en.size M)(h:EV I B M Fr H):ac VS 94 [.hp I.b 0,e.d,.i .i64 d,wD I] H (mz O I B Fr (.term e.en d) M):=by
 have l:=λ{H K}=>(sc e p.lt).c (H:=H) (K:=K) oZ rfl (by simp[e.pl]) (.inl rfl);rw[q]at l;obtain⟨a,b,t⟩:=(Ex.n_args q).1 (.inr g);have P:=t▸e.hsl;have S:=p.args a (by grind);have U:=p.args b (by grind);have af:e.en.size=1+(a.en.size+(b.en.size+0)):=by rw[EN.size_eq,e.en_args,t];rfl
 have n:bQ O B.wd (.term e.en d)=gB a.en d λx=>if x=true then .ret (fK true)else gB b.en d λc=>.ret (fK c):=by show eA O B.wd e.en d=_;unfold eA;rw[G1 (by rw[e.en_formed,q]),E1 (by rw[e.en_op,g];decide),E1 (by rw[e.en_op,g];decide),E1 (by rw[e.en_op,g];decide),G1 (by rw[e.en_op,g]),e.en_args,t];rfl
 have G:=λ{V dr os keep W X Q Y H Z k x'}=>P.q (V:=V) (dr:=dr) (os:=os) (keep:=keep) (loc:=W) (sl:=X) (Q:=Q) (sl':=Y) (H:=H) (H':=Z) (k:=k) (x:=x');have d1:(e.op:Int)=16:=by omega
 have J:=uc C E (by omega) S F (hr.le (by omega)) h;refine .body qX rfl rfl ?_;simp only[Ex.d,Ex.row_eq]at l J⊢;simp only[d1]at l⊢;simp[go_sem,simprocAttr,rP,l,G,ta,Ex.row_eq];refine J.mono λr ab=>?_;rcases ab.h with⟨x,M1,H1,rfl,j,L,st1,o⟩|⟨c,M1,H1,rfl,j,o⟩;·cases x with|true=>obtain⟨z,z1,z2,z3⟩:=As true;have f:=λ{H K}=>oc (b:=true) (H:=H) (K:=K);rw[z2]at f;simp[AV.c]at f;simp[go_sem,f];refine⟨.inl ⟨z,M1,H1,rfl,z3,⟨bO.of ?_,λ_ _=>L⟩,o⟩⟩;rw[n,z1];exact j _ _ _ .ret|false=>
  have N:=uc C E (by omega) U F ((hr.stp st1 L).le (by omega)) o;simp[Ex.d,Ex.row_eq]at N;simp[go_sem,simprocAttr,G,ta,AAl,Ex.row_eq];refine N.mono λr ad=>?_;rcases ad.h with⟨y,u,v,rfl,w,m2,ag,A⟩|⟨c,u,v,rfl,w,A⟩;·obtain⟨z,z1,z2,z3⟩:=As y;have f:=λ{H K}=>oc (b:=y) (H:=H) (K:=K);rw[z2]at f;simp[AV.c]at f;simp[go_sem,f];refine⟨.inl ⟨z,u,v,rfl,z3,⟨bO.of ?_,λ_ _=>m2⟩,A⟩⟩;rw[n,z1];exact j _ _ _ (w (λc=>.ret _) _ _ .ret)
  refine⟨.inr ⟨c,u,v,rfl,⟨bO.of ?_,λ_ h=>by cases h⟩,A⟩⟩;rw[n];exact j _ _ _ (w λc=>.ret _)
 refine⟨.inr ⟨c,M1,H1,rfl,⟨bO.of ?_,λ_ h=>by cases h⟩,o⟩⟩;rw[n];exact j _
theorem akl(N:Cx O B K Al)(y:lL O B K Al m s)(n:e.op=18)(hs:e.en.size<=s+1)(t:dp Al e)(A:e.formed=true)(C:0<=d/\d<65536)(hr:eK K m e.en.size M)(h:EV I B M Fr H):ac VS 94 [.hp I.b 0,e.d,.i .i64 d,wD I] H (mz O I B Fr (.term e.en d) M):=by
 have u:=λ{H K}=>(sc e t.lt).c (H:=H) (K:=K) oZ rfl (by simp[e.pl]) (.inl rfl);rw[A]at u;obtain⟨a,b,c,E⟩:=(Ex.n_args A).2.1 n;have P:=E▸e.hsl;have S:=t.args a (by grind);have U:=t.args b (by grind);have W:=t.args c (by grind);have ae:e.en.size=1+(a.en.size+(b.en.size+(c.en.size+0))):=by rw[EN.size_eq,e.en_args,E];rfl
 have v:bQ O B.wd (.term e.en d)=gB a.en d λx=>if x=true then .call (.term b.en d) .ret else .call (.term c.en d) .ret:=by show eA O B.wd e.en d=_;unfold eA;rw[G1 (by rw[e.en_formed,A]),E1 (by rw[e.en_op,n];decide),E1 (by rw[e.en_op,n];decide),E1 (by rw[e.en_op,n];decide),E1 (by rw[e.en_op,n];decide),G1 (by rw[e.en_op,n]),e.en_args,E];rfl
 have F:=λ{V dr os keep X Y Q Z H H' k x'}=>P.q (V:=V) (dr:=dr) (os:=os) (keep:=keep) (loc:=X) (sl:=Y) (Q:=Q) (sl':=Z) (H:=H) (H':=H') (k:=k) (x:=x');have d1:(e.op:Int)=18:=by omega
 have J:=uc N y (by omega) S C (hr.le (by omega)) h;refine .body qX rfl rfl ?_;simp only[Ex.d,Ex.row_eq]at u J⊢;simp only[d1]at u⊢;simp[go_sem,simprocAttr,rP,u,F,ta,Ex.row_eq];refine J.mono λr ad=>?_;rcases ad.h with⟨x,M1,H1,rfl,p,L,st1,w⟩|⟨c,M1,H1,rfl,p,w⟩
 ·cases x with|true=>
  have q:=y I M1 Fr H1 b d (by omega) U C ((hr.stp st1 L).le (by omega)) w;simp[Ex.d,Ex.row_eq]at q;simp[go_sem,simprocAttr,F,ta,AAl,Ex.row_eq];refine q.mono λr G=>?_;rcases G.h with⟨z,f,g,rfl,z3,⟨o,j⟩,l⟩|⟨c,f,g,rfl,⟨o,j⟩,l⟩;·simp[go_sem,AV.c];refine⟨.inl ⟨z,f,g,rfl,z3,⟨bO.of ?_,j⟩,l⟩⟩;rw[v];exact p _ _ _ (aM.call o .ret)
  refine⟨.inr ⟨c,f,g,rfl,⟨bO.of ?_,j⟩,l⟩⟩;grind[aM.calle]|false=>
  have q:=y I M1 Fr H1 c d (by omega) W C ((hr.stp st1 L).le (by omega)) w;simp[Ex.d,Ex.row_eq]at q;simp[go_sem,simprocAttr,F,ta,AAl,Ex.row_eq];refine q.mono λr G=>?_;rcases G.h with⟨z,f,g,rfl,z3,⟨o,j⟩,l⟩|⟨c,f,g,rfl,⟨o,j⟩,l⟩;·simp[go_sem,AV.c];refine⟨.inl ⟨z,f,g,rfl,z3,⟨bO.of ?_,j⟩,l⟩⟩;rw[v];exact p _ _ _ (aM.call o .ret)
  refine⟨.inr ⟨c,f,g,rfl,⟨bO.of ?_,j⟩,l⟩⟩;rw[v];exact p _ _ _ (aM.calle o)
 refine⟨.inr ⟨c,M1,H1,rfl,⟨bO.of ?_,λ_ h=>by cases h⟩,w⟩⟩;rw[v];exact p _
end
end
section
open Go.Dm
set_option maxRecDepth 10000
inductive Kp:Tr -> Prop where
 | ret (v:NV):Kp (.ret v)
 | err (e:Int):Kp (.err e)
 | st {u:aj -> aj} {k:aj -> Tr}:(∀ M,(u M).pairs=M.pairs /\ (u M).begun=M.begun) -> (∀ M,Kp (k M)) -> Kp (.st u k)
theorem Kp.ok {t:Tr} (h:Kp t) {body:bk -> Tr} : ∀ {M:aj} {r:NR} {M':aj},aM body t M r M' -> iU M -> iU M':=by
 induction h with
 | ret v=>intro M r M' ⟨n,e⟩ h;cases e;exact h
 | err c=>intro M r M' ⟨n,e⟩ h;cases e;exact h
 | @st u k hu _ ih =>
  intro M r M' ⟨n,e⟩ h
  refine ih M ⟨n,e⟩ ⟨?_, ?_⟩
  ·rw[(hu M).1,(hu M).2];exact h.p
  ·rw[(hu M).2];exact h.b
theorem NR.kp (r:NR):Kp r.tr:=by cases r<;>constructor
theorem EQ.kp (k:Nat) (r:EQ):Kp (r.tr k):=by cases r<;>constructor
theorem akm (O:bV) (W:Wd) (op:Nat) (nm:Nm) (md:Int) (vs:List NV):Kp (cS O W op nm md vs):=by
 unfold cS eU ge gD
 repeat' first|exact .err _|exact .ret _|exact NR.kp _|exact EQ.kp _ _|(refine .st (fun _=>⟨rfl,rfl⟩) fun _ => ?_)|split
section
variable {O:bV} {I:bW} {B:BW} {K:Int} {Al:Nat -> Prop} {M:aj} {Fr:List (Nat×an)} {H:ab} {m s:Nat} {e:Ex} {d:Int}
theorem akn (hP:wK O B K m) {nm:Nm} {a:AV} (ha:a.ok) (hr:eK K m 0 M) (h:EV I B M Fr H):ac VS 107 [.s nm,.ag a.c,wD I] H (dY I B Fr (fun r M'=>aM (bQ O B.wd) (lT nm a.v) M r M' /\ ∀ v,r = .ok v -> iU M')):=by
 have ef:=fun{H K}=>eB (e:=185) (H:=H) (K:=K)
 refine .body agJ rfl rfl ?_
 by_cases hk:a.v.k=4
 ·have c1:(a.v.k:Int)=4:=by omega
  simp  [go_sem,simprocAttr,VL,AV.c,c1,ajL]
  refine(hP I M Fr H nm a.v.i (ha.o.d hk) hr h).mono fun r hq => ?_
  rcases hq.h with⟨b,M',H',rfl,e2,⟨e3,e5⟩,e4⟩|⟨c,M',H',rfl,⟨e3,e5⟩,e4⟩
  ·simp  [go_sem,AV.c]
   refine⟨.inl ⟨b,M',H',rfl,e2,⟨?_,e5⟩,e4⟩⟩
   unfold lT
   rw[if_pos hk]
   exact aM.call e3 .ret
  ·refine⟨.inr ⟨c,M',H',rfl,⟨?_,e5⟩,e4⟩⟩
   grind[lT,aM.calle]
 ·have c1 : ¬ (a.v.k:Int)=4:=by omega
  simp  [go_sem,simprocAttr,VL,AV.c,c1,ef]
  refine⟨.inr ⟨185,M,H,rfl,⟨?_,fun _ h=>by cases h⟩,h⟩⟩
  unfold lT
  rw[if_neg hk]
  exact .err
structure Au (O:bV) (I:bW) (B:BW) (Fr:List (Nat×an)) (K:Int) (d:Int) (l:List EN) (M:aj) (i k:Nat) (vs:List AV) (H:ab):Prop where
 n:vs.length=k
 o : ∀ a∈vs,a.ok
 h : ∃ M',EV I B M' ((i,aO vs false)::Fr) H /\ iU M' /\ dO K (cM (l.take k)) M M' /\ ∀ κ x M2,aM (bQ O B.wd) (iX d κ (l.drop k) (vs.map AV.v)) M' x M2 -> aM (bQ O B.wd) (iX d κ l []) M x M2
theorem Sq : ∀ {l:List EN} {k:Nat},k<l.length -> cM (l.take (k+1))=cM (l.take k)+l[k]!.size
 | e::l,0,_=>by simp[cM]
 | e::l,k+1,h=>by
  have:=Sq (l:=l) (k:=k) (by grind)
  grind[cM]
theorem Sr : ∀ {l:List EN} {k:Nat},cM (l.take k) <= cM l
 | [],k=>by grind
 | e::l,0=>by simp[cM]
 | e::l,k+1=>by
  have:=Sr (l:=l) (k:=k)
  grind[cM]
theorem Au.step (hc:Cx O B K Al) (hT:lL O B K Al m s) {l:List Ex} (hs:cM (l.map Ex.en) <= s) (hx : ∀ a∈l,dp Al a) (hd:0 <= d /\ d<65536) (hr:eK K m (1+cM (l.map Ex.en):Nat) M) {i k:Nat} {vs:List AV} (hk:k<l.length) (hp:Au O I B Fr K d (l.map Ex.en) M i k vs H) :
  ac VS 94 [.hp I.b 0,(l[k]!).d,.i .i64 d,wD I] H (fun r=>(∃ (a:AV) (H':ab),r = .ret (.ag a.c) H' /\ a.ok /\ H'[i]?=some (aO vs false) /\ Au O I B Fr K d (l.map Ex.en) M i (k+1) (vs++[a]) (H'.set i (aO (vs++[a]) false))) \/
   (∃ (c:Int) (M':aj) (H':ab),r = .pan (eX c) H' /\ EV I B M' Fr H' /\ ∀ κ,aM (bQ O B.wd) (iX d κ (l.map Ex.en) []) M (.er c) M')):=by
 obtain⟨n,o,M1,E1,m1,s1,k1⟩:=hp
 have hl:k<(l.map Ex.en).length:=by simpa using hk
 have hz:(l.map Ex.en)[k]! = l[k]!.en:=by rw[getElem!_pos _ k hl,getElem!_pos l k hk,List.getElem_map]
 have hst:=Sq hl
 have hle:=Sr (l:=l.map Ex.en) (k:=k+1)
 rw[hz]at hst
 have hmem:l[k]! ∈ l:=by rw[getElem!_pos l k hk];exact List.getElem_mem hk
 have hcall:=hT I M1 _ H l[k]! d (by omega) (hx _ hmem) hd ((hr.stp s1 m1).le (by omega)) E1
 have hdr:(l.map Ex.en).drop k=l[k]!.en::(l.map Ex.en).drop (k+1):=by rw[<- hz,List.drop_eq_getElem_cons hl,getElem!_pos _ k hl]
 refine hcall.mono fun r hq => ?_
 rcases hq.h with⟨a,M',H',rfl,e2,⟨e3,e5⟩,e4⟩|⟨c,M',H',rfl,⟨e3,_⟩,e4⟩
 ·refine .inl ⟨a,H',rfl,e2,e4.fr,⟨by simp[n],fun b hb => ?_,M',e4.set,e5 _ rfl, ?_,fun κ x M2 hk2=>k1 κ x M2 ?_⟩⟩
  ·rcases List.mem_append.1 hb with hb|hb
   ·exact o b hb
   ·rw[List.mem_singleton.1 hb];exact e2
  ·have:=e3.cst hc.cst
   exact⟨by have:=this.p;have:=s1.p;simp only[dM]at *;omega,Nat.le_trans s1.b this.b⟩
  ·rw[hdr]
   refine aM.call e3 ?_
   rw[List.map_append]at hk2
   exact hk2
 ·refine .inr ⟨c,M',H',rfl,e4.drop,fun κ=>k1 κ _ _ ?_⟩
  rw[hdr]
  exact aM.calle e3
theorem ako (hc:Cx O B K Al) (hT:lL O B K Al m s) (hP:wK O B K m) (n1:e.op≠1) (n2:e.op≠2) (n15:e.op≠15) (n16:e.op≠16) (n18:e.op≠18) (hs:e.en.size <= s+1) (hx:dp Al e) (hf:e.formed=true) (hd:0 <= d /\ d<65536) (hr:eK K m e.en.size M) (h:EV I B M Fr H):ac VS 94 [.hp I.b 0,e.d,.i .i64 d,wD I] H (mz O I B Fr (.term e.en d) M):=by
 have e1:=fun{H K}=>(sc e hx.lt).c (H:=H) (K:=K) oZ rfl (by simp[e.pl]) (.inl rfl)
 rw[hf]at e1
 have hlt:=hx.lt
 have hsl:=e.hsl
 have hl3:=(Ex.n_args hf).2.2
 have hsz:e.en.size=1+cM (e.args.map Ex.en):=by rw[EN.size_eq,e.en_args]
 have c1 : ¬ (e.op:Int)=1:=by omega
 have c2 : ¬ (e.op:Int)=2:=by omega
 have c15 : ¬ (e.op:Int)=15:=by omega
 have c16 : ¬ (e.op:Int)=16:=by omega
 have c18 : ¬ (e.op:Int)=18:=by omega
 have hJ:bQ O B.wd (.term e.en d)=iX d (fun vs=>if e.op=5 then lT e.name vs[0]! else cS O B.wd e.op e.name e.v.i vs) (e.args.map Ex.en) []:=by
  show eA O B.wd e.en d=_
  unfold eA
  rw[e.en_op,e.en_args,e.en_name,e.en_md,if_pos (by rw[e.en_formed,hf]),if_neg n1,if_neg n2,if_neg n15,if_neg n16,if_neg n18]
 have h0:Au O I B Fr K d (e.args.map Ex.en) M _ 0 [] _ :=
  ⟨rfl,fun _ h=>(by cases h),M,h.new,hr.ok,(by simp_all[cM,dO.refl]),fun κ x M2 hk=>hk⟩
 refine .body qX rfl rfl ?_
 simp only[Ex.d,Ex.row_eq]at e1 ⊢
 simp  [go_sem,simprocAttr,rP,e1,c1,c2,c15,c16,c18,hsl.n]
 refine asE hl3 hsl _ h0 (fun k vs H' h=>h.n) (fun k vs H' hk hp => ?_) (fun vs H' c12 c20 hp => ?_)
 ·refine (hp.step hc hT (by omega) hx.args hd (hsz▸hr) hk).mono fun r hq => ?_
  rcases hq with⟨a,H2,rfl,q1,q2,q3⟩|⟨c,M2,H2,rfl,q1,q2⟩
  ·grind
  ·intro s
   refine⟨.inr ⟨c,M2,H2,rfl,⟨bO.of ?_,fun _ h=>by cases h⟩,q1⟩⟩
   grind
 ·obtain ⟨hn,ho,M1,E1,m1,s1,k1⟩:=hp
  rw[List.take_of_length_le (by simp)]at s1
  have hdr:(e.args.map Ex.en).drop e.args.length=[]:=by rw[List.drop_eq_nil_of_le (by simp)]
  rw[hdr]at k1
  have k2:=k1 (fun vs=>if e.op=5 then lT e.name vs[0]! else cS O B.wd e.op e.name e.v.i vs)
  rw[<- hJ]at k2
  have hR:=hr.stp s1 m1
  unfold xU
  rw[<- hn]
  by_cases h5:e.op=5
  ·have c5:(e.op:Int)=5:=by omega
   obtain ⟨a,rfl⟩ : ∃ a,vs=[a]:=by
    have:e.args.length=1:=by
     have hf':=hf
     unfold Ex.formed at hf'
     rw[h5]at hf'
     simp only[show kT 5=(1,1)from rfl,Bool.and_eq_true,decide_eq_true_eq]at hf'
     omega
    rw[this]at hn
    match vs,hn with
    | [a],_=>exact⟨a,rfl⟩
   have ha:=ho a (by simp)
   have hne:=akn (nm:=e.name) hP ha (hR.le (by omega)) E1
   have hg:=E1.fr
   have hgl:=aw hg
   rw[show aO [a] false = .ar 6 [a.c,cw,cw] _ true false from rfl]at hg
   have har:aK H' H.length 3=some (6,[a.c,cw,cw],some 3,true,false):=by simp[Dm.aK,hg]
   simp[AV.c]at hne hg har
   simp  only[go_sem,simprocAttr,c5,har,List.length_nil]
   refine⟨hgl,hgl,hne.mono fun r hq => ?_⟩
   rcases hq.drop.h with⟨b,M',H',rfl,e2,⟨e3,e5⟩,e4⟩|⟨c,M',H',rfl,⟨e3,e5⟩,e4⟩
   ·simp  [go_sem,AV.c]
    refine⟨.inl ⟨b,M',H',rfl,e2,⟨bO.of (k2 _ _ ?_),e5⟩,e4⟩⟩
    unfold iX
    rw[if_pos h5]
    exact e3
   ·refine⟨.inr ⟨c,M',H',rfl,⟨bO.of (k2 _ _ ?_),e5⟩,e4⟩⟩
    unfold iX
    rw[if_pos h5]
    exact e3
  ·have c5 : ¬ (e.op:Int)=5:=by omega
   have hdo:=hc.d e.op hx.al hlt I B M1 Fr H' (bQ O B.wd) _ vs e.name e.v.i hc.b (by omega) ho E1 (hR.f (by omega)).1 (hR.f (by omega)).2
   simp  [go_sem,simprocAttr,c5]
   refine hdo.mono fun r hq => ?_
   rcases hq.h with⟨b,M',H',rfl,e2,e3,e4⟩|⟨c,M',H',rfl,e3,e4⟩
   ·simp  [go_sem,AV.c]
    refine⟨.inl ⟨b,M',H',rfl,e2,⟨bO.of (k2 _ _ ?_),fun _ _=>(akm _ _ _ _ _ _).ok e3 m1⟩,e4⟩⟩
    unfold iX
    rw[if_neg h5]
    exact e3
   ·refine⟨.inr ⟨c,M',H',rfl,⟨bO.of (k2 _ _ ?_),fun _ h=>by cases h⟩,e4⟩⟩
    unfold iX
    rw[if_neg h5]
    exact e3
theorem Ss (hc:Cx O B K Al) (hP:wK O B K m) : ∀ s,lL O B K Al m s
 | 0=>fun I M Fr H e d hs hx hd hr h=>by
  have:=e.en.size_eq
  omega
 | s+1=>fun I M Fr H e d hs hx hd hr h=>by
  have hT:=Ss hc hP s
  cases hf:e.formed with
  | false=>exact akg hx hf hr.ok h
  | true =>
   by_cases n1:e.op=1
   ·exact akh n1 hx hf hr.ok h
   by_cases n2:e.op=2
   ·exact aki n2 hx hf hd hr.ok h
   grind[akj,akk,akl,ako]
end
end
section
open Go.Dm
set_option maxRecDepth 10000
theorem Su{l:List UInt8}{i:Nat}{q:List UInt8×Nat}:∀{m:List (List UInt8×Nat)},q∈iw l i m->q.2=i\/q∈m
 |[],h=>.inl (by rw[kz.1 h])|(k,j)::m,h=>by
  unfold iw at h;split at h;·grind
  rcases dA.1 h with rfl|h;·grind
  exact(Su h).imp id (K2 _)
variable{z:List UInt8}{x y:Int}
theorem Sv{rows:List (List D)}:∀{n:Nat}{q:List UInt8×Nat},q∈cr rows z x y n->q.2<n
 |0,_,h=>by cases h|n+1,q,h=>by
  have a:q.2=n\/q∈cr rows z x y n->q.2<n+1:=λh=>by
   rcases h with h|h;·omega
   have:=Sv h;omega
  grind[cr,iy,Su]
def Sw{rows:List (List D)}{a x:Int}{l:List Int}(b:l=eV rows z y a)(h:x∈l):0<=x/\x<rows.length:=by subst b;have:=(rH _).mem_iff.1 h;obtain⟨q,c,rfl⟩:=f0.1 this;grind[Sv]
theorem Cl.ok(c:Cl):lX c.row=true:=by simp[lX,Cl.row,Ex.row_eq]
def nP{rows:List (List D)}{w:Nat}:Sl w rows (du w rows):=by cases rows with|nil=>exact .nil rfl|cons r a=>exact .im
theorem Sx{l:List UInt8}{i:Nat}:∀{m:List (List UInt8×Nat)},(iw l i m).length<=m.length+1
 |[]=>Hk _|(k,j)::m=>by
  unfold iw;split;·simp
  have:=Sx (l:=l) (i:=i) (m:=m);grind
theorem Fz{rows:List (List D)}{name:List UInt8}{date known:Int}:∀{n:Nat},(cr rows name date known n).length<=n|0=>Hk _|n+1=>by have a:=Fz (rows:=rows) (name:=name) (date:=date) (known:=known) (n:=n);grind[Sx,rV,cr,iy]
def akp{B:BW}{nm:Nm}{d:Int}{l:List Int}(h:l=eV (B.cls.map Cl.row) nm d B.known)(a:B.cls.length<1000000):l.length<1000000000000:=by grind[eV,nT,Cl.row,cr,Fz]
section
variable{O:bV}{I:bW}{B:BW}{K:Int}{Al:Nat->Prop}{M:aj}{Fr:List (Nat×an)}{H:ab}{m:Nat}{d:Int}{nm:Nm}
def akq(a:B.ok):ai VS 103 [.ag [.s B.pn,B.defs,B.tabs,B.clsD],.s nm,.i .i64 d,.i .i64 B.known] (du 1 ((eV (B.cls.map Cl.row) nm d B.known).map aW)):=by
 have f:(B.cls.map Cl.row).all lX=true:=by rw[TA];intro r hr;obtain⟨c,_,rfl⟩:=f0.1 hr;exact c.ok
 have g:(B.cls.map Cl.row).length<1099511627776:=by have:=a.cl;grind
 have h:rW (B.cls.map Cl.row) nm d B.known=some (du 1 ((eV (B.cls.map Cl.row) nm d B.known).map aW)):=by grind[rW]
 refine⟨1,?_⟩;have j:VS.pext 103 [.ag [.s B.pn,B.defs,B.tabs,B.clsD],.s nm,.i .i64 d,.i .i64 B.known]=some (du 1 ((eV (B.cls.map Cl.row) nm d B.known).map aW)):=by
  show(if 103=103 then xy [.ag [.s B.pn,B.defs,B.tabs,B.clsD],.s nm,.i .i64 d,.i .i64 _]else none)=_;have e:(eW (.s B.pn)&&eW B.defs&&eW B.tabs)=true:=by rw[a.x.1,a.x.2];rfl
  have b:=a.c;simp[xy,e,if_true];generalize B.clsD=c at b;cases b<;>grind
 grind[iH,PZ,iG]
structure akr(O:bV)(I:bW)(B:BW)(Fr:List (Nat×an))(K:Int)(nm:Nm)(d:Int)(M:aj)(r:CR):Prop where h:(∃(c:Nat)(M':aj)(H':ab),r=.ret (.i .i64 (c:Int)) H'/\c<B.cls.length/\(∀κ x M2,aM (bQ O B.wd) (κ c) M' x M2->aM (bQ O B.wd) (A3 B.wd nm d κ) M x M2)/\iU M'/\dO K (dC (B.wd.cl nm d)) M M'/\EV I B M' Fr H')\/(∃(e:Int)(M':aj)(H':ab),r=.pan (eX e) H'/\(∀κ,aM (bQ O B.wd) (A3 B.wd nm d κ) M (.er e) M')/\EV I B M' Fr H')
structure FA(O:bV)(I:bW)(B:BW)(Fr:List (Nat×an))(K:Int)(d:Int)(l:List (Nat×jt))(M:aj)(k c n:Nat)(H:ab):Prop where
 nk:n<=k
 cb:n=0\/c<B.cls.length
 h:∃M',EV I B M' Fr H/\iU M'/\dO K (dC (l.take k)) M M'/\∀κ x M2,aM (bQ O B.wd) (fo d κ (l.drop k) c n) M' x M2->aM (bQ O B.wd) (fo d κ l 0 0) M x M2
def Sy:∀{l:List (Nat×jt)}{k:Nat},k<l.length->dC (l.take (k+1))=dC (l.take k)+l[k]!.2.when.size|e::l,0,_=>by simp[dC]|e::l,k+1,h=>by have:=Sy (l:=l) (k:=k) (by grind);grind[dC]
def Sz:∀{l:List (Nat×jt)}{k:Nat},dC (l.take k)<=dC l|[],k=>by simp|e::l,0=>by simp[dC]|e::l,k+1=>by have:=Sz (l:=l) (k:=k);grind[dC]
def aks(F:Cx O B K Al)(hT:∀s,lL O B K Al m s)(hd:0<=d/\d<65536)(hr:eK K m (dC (B.wd.cl nm d)) M)(h:EV I B M Fr H):ac VS 93 [.hp I.b 0,.s nm,.i .i64 d,wD I] H (akr O I B Fr K nm d M):=by
 obtain⟨S,hS⟩:=h.h;have hb:=hS.hb;have f:=F.b;have a2:=f.cl;have ei:=λ{H K}=>(akq (nm:=nm) (d:=d) f).c (H:=H) (K:=K) PZ rfl (by simp[cE,nh,f.d.1,f.d.2,f.c.flat];exact⟨rfl,rfl,rfl⟩) (.inl rfl);obtain⟨l,v⟩:∃l,l=eV (B.cls.map Cl.row) nm d B.known:=⟨_,rfl⟩;rw[<-v]at ei;have ag:Sl 1 (l.map aW) _:=nP;have hW:B.wd.cl nm d=(l.map Int.toNat).map λi=>(i,B.cls[i]!.n):=by rw[v];rfl
 have a4:=λ{V dr os keep G J Q L H N k P}=>ag.q (V:=V) (dr:=dr) (os:=os) (keep:=keep) (loc:=G) (sl:=J) (Q:=Q) (sl':=L) (H:=H) (H':=N) (k:=k) (x:=P);have a7:=λ{V dr os keep G J Q L H N k P}=>f.c.q (V:=V) (dr:=dr) (os:=os) (keep:=keep) (loc:=G) (sl:=J) (Q:=Q) (sl':=L) (H:=H) (H':=N) (k:=k) (x:=P);have a8:=λ{H}=>ag.n (H:=H);have ah:=aw hb;refine .body agH rfl rfl ?_;simp only[go_sem,simprocAttr,aoU,hb,ei,a8];refine⟨ah,ah,?_⟩;have bk:=akp v a2;refine ak.up (λk s=>∃(c n:Nat)(g:ab)(a5 a6 al:D),FA O I B Fr K d (B.wd.cl nm d) M k c n g/\s=⟨[.hp I.b 0,.s nm,.i .i64 d,.ifc 86 _,.i .i64 0,a5,a6,.u,.u,.i .i64 c,.i .i64 n,.i .i64 k,.i .i64 _,du 1 _,al],g⟩) l.length ⟨0,0,H,_,_,_,⟨Hk _,.inl rfl,M,h,hr.ok,(by simp_all[dC,dO.refl]),λκ x a hk=>hk⟩,rfl⟩ ?_;rintro k s hk⟨c,n,g,a5,a6,al,⟨nk,cn,M1,o,m1,p,b⟩,rfl⟩;have bm:(B.wd.cl nm d).length=l.length:=by grind
 by_cases q:k<l.length
 ·have t:(k:Int)<l.length:=by omega
  have c0:(0:Int)<=k:=by omega
  have w1:IntKind.i64.wrap (k+1)=((k+1:Nat)):=by rw[wr (by omega) (by omega)];omega
  have w2:IntKind.i64.wrap (n+1)=((n+1:Nat)):=by rw[wr (by omega) (by omega)];omega
  have w:k<(B.wd.cl nm d).length:=by omega
  have y:=Sw v (show l[k]!∈l by rw[K0 l k q];exact kv q);rw[S2]at y;obtain⟨i,hi⟩:∃i:Nat,l[k]! =i:=⟨l[k]!.toNat,by omega⟩;rw[hi]at y;have i1:=y.2;have i0:=y.1;have U:i<B.cls.length:=by omega
  have W:(B.wd.cl nm d)[k]! =(i,B.cls[i]!.n):=by rw[K0 _ k w];simp only[hW,wv];rw[<-getElem!_pos l k q,hi,da]
  have z:(B.wd.cl nm d).drop k=(i,B.cls[i]!.n)::(B.wd.cl nm d).drop (k+1):=by rw[<-W,mm w,K0 _ k w]
  have X:=Sy w;have bq:=Sz (l:=B.wd.cl nm d) (k:=k+1);rw[W]at X;obtain⟨e,Y⟩:∃e,e=B.cls[i]!:=⟨_,rfl⟩;have hx:=(F.c e (by rw[Y,K0 _ i U];exact kv U)).1;rw[<-Y]at W z X;have bc:e.n.when=e.w.en:=rfl;rw[bc]at X;have S1:=o.h;obtain⟨S1,bd⟩:=S1;have be:=bd.hb;have ht:=uc F (hT _) (Hk _) hx hd ((hr.stp p m1).le (by omega)) o;simp[Ex.d,Ex.row_eq]at ht;simp[go_sem,simprocAttr,Bi,t,a4,a7,hi,aW,be,i1,<-Y,Cl.row,Ex.row_eq,W0];refine ht.mono λr hq=>?_;rcases hq.h with⟨x,a,j,rfl,A,m2,s2,C⟩|⟨c',a,j,rfl,A,C⟩
  ·have ax:dO K (dC ((B.wd.cl nm d).take (k+1))) M a:=by exact⟨by have:=p.p;have:=s2.p;omega,gp p.b s2.b⟩
   cases x with|true=>have Z:FA O I B Fr K d _ M _ i (n+1) j:=⟨by omega,.inr U,a,C,m2,ax,λκ x M3 ad=>b κ x M3 (by rw[z];unfold fo;refine A _ _ _ ?_;exact ad)⟩;simp only[go_sem,w1,w2];exact⟨q,i,n+1,j,Z,⟨rfl,by omega⟩,rfl⟩|false=>have Z:FA O I B Fr K d _ M _ c n j:=⟨by omega,cn,a,C,m2,ax,λκ x M3 ad=>b κ x M3 (by rw[z];unfold fo;refine A _ _ _ ?_;exact ad)⟩;simp only[go_sem,w1];exact⟨q,c,n,j,Z,⟨rfl,rfl⟩,rfl⟩
  refine⟨.inr ⟨c',a,j,rfl,λκ=>b κ _ _ ?_,C⟩⟩;rw[z];unfold fo;exact A _
 have t:¬(k:Int)<l.length:=by omega
 rw[E4 (by omega)]at p;rw[dm (by omega)]at b;have e3:=λ{H K}=>eB (e:=183) (H:=H) (K:=K);have e4:=λ{H K}=>eB (e:=184) (H:=H) (K:=K);by_cases E:n=0
 ·have d0:(n:Int)=0:=by omega
  simp[go_sem,Bi,t,d0,e3];refine⟨.inr ⟨183,M1,g,rfl,λκ=>b κ _ _ ?_,o⟩⟩;unfold fo;rw[G1 E];exact .err
 have d0:¬(n:Int)=0:=by omega
 by_cases n1:1<n
 ·have d1:(n:Int)>1:=by omega
  simp only[go_sem,Bi,t,d0,d1,e4];refine⟨.inr ⟨184,M1,g,rfl,λκ=>b κ _ _ ?_,o⟩⟩;unfold fo;rw[E1 E,G1 n1];exact .err
 have d1:¬(n:Int)>1:=by omega
 simp only[go_sem,Bi,t,d0,d1];refine⟨.inl ⟨c,M1,g,rfl,cn.resolve_left E,λκ x a bj=>b κ _ _ ?_,m1,p,o⟩⟩;unfold fo;rw[E1 E,E1 n1];exact bj
end
end
section
open Go.Dm
set_option maxRecDepth 10000
section
variable{O:bV}{I:bW}{B:BW}{K:Int}{Al:Nat->Prop}{M:aj}{Fr:List (Nat×an)}{H:ab}{m:Nat}{d:Int}{nm:Nm}
def Av(W:Wd)(nm:Nm)(d:Int)(k:NV->Tr):Tr:=A3 W nm d λc=>.call (.term (W.clause c).thn d) λv=>if W.kind nm=some v.k then k v else .err 185
structure akt(O:bV)(I:bW)(B:BW)(Fr:List (Nat×an))(nm:Nm)(d:Int)(M:aj)(r:CR):Prop where h:(∃(a:AV)(c:Nat)(M':aj)(H':ab),r=.ret (.tu [.ag a.c,.i .i64 (c:Int)]) H'/\a.ok/\(∀κ x M2,aM (bQ O B.wd) (κ a.v) M' x M2->aM (bQ O B.wd) (Av B.wd nm d κ) M x M2)/\iU M'/\EV I B M' Fr H')\/(∃(e:Int)(M':aj)(H':ab),r=.pan (eX e) H'/\(∀κ,aM (bQ O B.wd) (Av B.wd nm d κ) M (.er e) M')/\EV I B M' Fr H')
def aku(g:Cx O B K Al)(v:∀s,lL O B K Al m s)(w:0<=d/\d<65536)(hr:eK K m K M)(h:EV I B M Fr H):ac VS 66 [.hp I.b 0,.s nm,.i .i64 d,wD I] H (akt O I B Fr nm d M):=by
 have ai:=g.w nm d 0;have E:=g.b;have F:=aks (nm:=nm) g v w (hr.le (by omega)) h;have G:=λ{V dr os keep J L Q N H P k S}=>E.c.q (V:=V) (dr:=dr) (os:=os) (keep:=keep) (loc:=J) (sl:=L) (Q:=Q) (sl':=N) (H:=H) (H':=P) (k:=k) (x:=S);have y:=λ{H K}=>eB (e:=185) (H:=H) (K:=K);refine .body agx rfl rfl ?_;simp[go_sem,aoC];refine F.mono λr q=>?_;rcases q.h with⟨c,M1,H1,rfl,cl,b,U,W,p⟩|⟨e,M1,H1,rfl,b,p⟩
 ·have X:=g.w nm d c;obtain⟨S1,Y⟩:=p.h;have Z:=Y.hb;have i1:(c:Int)<B.cls.length:=by omega
  have i0:(0:Int)<=c:=by omega
  obtain⟨e,z⟩:∃e,e=B.cls[c]!:=⟨_,rfl⟩;have hx:=(g.c e (by grind)).2;have j:(B.wd.clause c).thn=e.t.en:=by rw[z];rfl
  rw[j]at X;have A:=v _ I M1 Fr H1 e.t d (Hk _) hx w ((hr.stp W U).le (by omega)) p;simp[Ex.d,Ex.row_eq]at A;simp[go_sem,simprocAttr,Z,G,i1,<-z,Cl.row,Ex.row_eq,W0];refine A.mono λr q=>?_;rcases q.h with⟨a,l,n,rfl,ho,⟨o,C⟩,f⟩|⟨c',l,n,rfl,⟨o,C⟩,f⟩;·have af:=λ{K}=>R7 f (k:=nm) (K:=K);simp[go_sem,AV.c];refine af ?_;cases hk:aI nm _ with|none=>simp only[oy];simp[go_sem,y];refine⟨.inr ⟨185,l,n,rfl,λκ=>b _ _ _ ?_,f⟩⟩;rw[j];refine aM.call o ?_;rw[E1 (by show¬aI nm _=_;grind)];exact .err|some t=>
   simp[ot,eD];by_cases hv:a.v.k=t
   ·have u:(a.v.k:Int)=t:=by omega
    simp[go_sem,simprocAttr,u];refine⟨.inl ⟨a,c,l,n,(by rw[<-hv];rfl),ho,λκ x M3 an=>b _ _ _ ?_,C _ rfl,f⟩⟩;rw[j];refine aM.call o ?_;rw[G1 (by show aI nm _=_;grind)];omega
   have u:¬(a.v.k:Int)=t:=by omega
   simp[go_sem,simprocAttr,u,y];refine⟨.inr ⟨185,l,n,rfl,λκ=>b _ _ _ ?_,f⟩⟩;rw[j];refine aM.call o ?_;rw[E1 (by show¬aI nm _=_;rw[hk];simp;omega)];exact .err
  refine⟨.inr ⟨c',l,n,rfl,λκ=>b _ _ _ ?_,f⟩⟩;rw[j];exact aM.calle o
 exact⟨.inr ⟨e,M1,H1,rfl,λκ=>b _,p⟩⟩
structure akv(O:bV)(I:bW)(B:BW)(Fr:List (Nat×an))(nm:Nm)(d:Int)(M:aj)(r:CR):Prop where h:(∃H',r=.ret (.tu []) H'/\(∀k x M2,aM (bQ O B.wd) k (pz (nm,d) (mJ (nm,d) M)) x M2->aM (bQ O B.wd) (j0 B.wd (nm,d) k) M x M2)/\M.begun.length≠4096/\EV I B (pz (nm,d) (mJ (nm,d) M)) Fr H')\/(∃(e:Int)(M':aj)(H':ab),r=.pan (eX e) H'/\(∀k,aM (bQ O B.wd) (j0 B.wd (nm,d) k) M (.er e) M')/\EV I B M' Fr H')
def akw(F:iU M)(h:EV I B M Fr H):ac VS 65 [.hp I.v 0,.ag [.s nm,.i .i64 d]] H (akv O I B Fr nm d M):=by
 obtain⟨S,b⟩:=h.h;have p:=b.hv;have j:=b.hmb;have q:=aw p;have J:=aw j;have m1:=F.p;have m2:=F.b;unfold t9 at j;refine .body agw rfl rfl ?_;by_cases f:(nm,d)∈M.begun;·have g:=Fk wC f;simp[pk]at g;have t:=λ{H K}=>eB (e:=186) (H:=H) (K:=K);simp[go_sem,simprocAttr,Vm,p,j,g,t];refine⟨q,J,⟨.inr ⟨186,M,H,rfl,λk=>.st ?_,h⟩⟩⟩;rw[G1 f];exact .err
 have g:=Fl wC f;simp[pk]at g;have u:∀k x l,aM _ (if M.begun.length=4096 then .err 5 else .st _ λ_=>match B.wd.kind nm with|none=>.err 6|some _=>k) (mJ _ M) x l->aM (bQ O B.wd) (j0 B.wd _ k) M x l:=λk x l m=>.st (by rw[E1 f];exact .st m);obtain⟨n,H1,v,L,N,Q⟩:=b.p.app (bytes:=24) (r:=ij (nm,d)) b.hs rfl (by grind) (by grind);simp[ij]at L;have Y:=N.c1;have Z:=Q.get (A:=[]);have a:bh I B (mJ _ M) {S with P:=n,aP:=v} Fr (H1.set I.v (.hb 100 [.hp I.b 0,.mp I.mb,.mp I.mv,.mp I.mr,.mp I.ml,n,S.F,S.T])):=⟨Q.set (A:=[]),(by show LR 2 n ((M.pairs++[(nm,d)]).map ij) v;rw[hI];exact N),b.f,b.t,b.v,b.vo,b.g,b.w,b.r⟩;simp[go_sem,simprocAttr,Vm,p,j,g,L,Z,Y];refine⟨q,J,q,?_⟩;generalize H1.set I.v _=c at a⊢;have w:=a.hv;have U:=a.hmb;have V:=aw w;have aa:(t9 M.begun).length=M.begun.length:=by simp[t9,de,iJ]
 have W:dj c 2 (.mp I.mb)=some (.i .i64 M.begun.length):=by have:c[I.mb]?=some (.mp (t9 M.begun)):=U;simp[dj,this,aa]
 by_cases o:M.begun.length=4096
 ·have y:(M.begun.length:Int)=4096:=by omega
  have e5:=λ{H K}=>eB (e:=5) (H:=H) (K:=K);simp[go_sem,simprocAttr,w,W,y,e5];refine⟨.inr ⟨5,_,c,rfl,λk=>u k _ _ ?_,_,a⟩⟩;rw[G1 o];exact .err
 have y:¬(M.begun.length:Int)=4096:=by omega
 have X:=λ{G i}=>Fm wC f (G:=G) (i:=i);simp[pk]at X;have ad:c[I.mb]?=some (.mp (de pk kB (iJ M.begun))):=U;have z:bh I B (pz _ (mJ _ M)) {S with P:=n,aP:=v} Fr (c.set I.mb (.mp (de pk kB (iJ (M.begun++[(nm,d)]))))):=⟨a.hs.set (A:=[_]),a.p,a.f,a.t,a.v,a.vo,a.g,a.w,a.r⟩;simp only[go_sem,simprocAttr,w,W,y,ad,X];refine⟨V,V,?_⟩;generalize c.set I.mb _=C at z⊢;have ae:=z.hv;have E:EV I B _ Fr C:=⟨_,z⟩;have af:=λ{K}=>R7 E (k:=nm) (K:=K);have t:=λ{H K}=>eB (e:=6) (H:=H) (K:=K);simp[go_sem,simprocAttr,ae];refine af ?_;cases m:aI nm _ with|none=>simp only[oy];simp[go_sem,t];refine⟨.inr ⟨6,_,C,rfl,λk=>u k _ _ ?_,E⟩⟩;rw[E1 o];refine .st ?_;rw[show B.wd.kind nm=none from m];exact .err|some kd=>simp only[ot];simp[go_sem];refine⟨.inl ⟨C,rfl,λk x l ai=>u k _ _ ?_,o,E⟩⟩;rw[E1 o];refine .st ?_;rw[show B.wd.kind nm=some kd from m];exact ai
end
end
section
open Go.Dm
set_option maxRecDepth 10000
section
variable{O:bV}{I:bW}{B:BW}{K:Int}{Al:Nat->Prop}{M:aj}{Fr:List (Nat×an)}{H:ab}{m:Nat}{d:Int}{nm:Nm}
def akx{W:Wd}:rM W nm d=.st id λM=>match aI (nm,d) M.vals with|some v=>.ret v|none=>j0 W (nm,d) (Av W nm d λv=>.st (wX (nm,d) v) λ_=>.ret v):=by unfold rM;congr 1;funext M;rw[ajI];rfl
def eK.beg(hr:eK K (m+1) 0 M)(b:M.begun.length≠4096):eK K m K (pz (nm,d) (mJ (nm,d) M)):=by
 have c:=hr.m;have a:=hr.p;have e:=hr.ok.p;have f:=hr.ok.b;refine⟨⟨?_,?_⟩,?_,?_,hr.k⟩;·show(M.pairs++[(nm,d)]).length<=(M.begun++[(nm,d)]).length;grind
 ·show(M.begun++[(nm,d)]).length<=4096;grind
 ·show 4096<=(M.begun++[(nm,d)]).length+m;grind
 show M.facts.length+M.tabs.length-K*((M.begun++[(nm,d)]).length)+K<=500000000;unfold jW at a;simp only[Rp,n3];grind
theorem aky(hc:Cx O B K Al)(hT:∀n s,n<m->lL O B K Al n s):wK O B K m:=λI M Fr H nm d hd hr h=>by
 obtain⟨S,l⟩:=h.h;have t:=l.hv;have u:=l.hmv;have Q:=aw t;have U:=aw u;have j:eP _ (.ag [.s nm,.i .i64 d]) true _ (some (.mp (ua S.vs)))=some (.tu [((aI (nm,d) S.vs).map kA).getD (.ag [.i .u8 0,.b false,.nil,.b false,.nil,.i .i64 0]),.b (aI (nm,d) S.vs).isSome]):=nO wC (nm,d) S.vs _;have w:aI (nm,d) M.vals=(aI (nm,d) S.vs).map AV.v:=by rw[<-l.v,Ap]
 have V:bQ O B.wd (.pair nm d)=.st id λM=>match aI _ _ with|some v=>.ret v|none=>j0 B.wd _ _:=akx;refine .body agk rfl rfl ?_;cases y:aI _ S.vs with|some a=>rw[y]at j w;have z:=l.vo _ (iS y);simp[ef,eD,ot,kA,AV.c]at j;simp[go_sem,simprocAttr,UW,t,u,j];refine⟨Q,U,⟨.inl ⟨a,M,H,rfl,z,⟨bO.of ?_,λ_ _=>hr.ok⟩,h⟩⟩⟩;rw[V];refine .st ?_;rw[w];exact .ret|none=>
 rw[y]at j w;simp[vy,sa,oy]at j;have C:∀x g,aM (bQ O B.wd) (j0 B.wd (nm,d) (Av B.wd nm d λv=>.st (wX (nm,d) v) λ_=>.ret v)) M x g->bO (bQ O B.wd) _ M x g:=λx g hk=>bO.of (by rw[V];refine .st ?_;grind);have z:=akw (O:=O) (nm:=nm) (d:=d) hr.ok h;simp[go_sem,simprocAttr,UW,t,u,j];refine⟨Q,U,z.mono λr E=>?_⟩;rcases E.h with⟨H1,rfl,o,h4,q⟩|⟨e,M1,H1,rfl,o,q⟩
 ·obtain⟨F,rfl⟩:∃F,m=F+1:=⟨m-1,by have:=hr.m;have:=hr.ok.b;omega⟩;have af:=aku (nm:=nm) hc (λs=>hT F s (by omega)) hd (hr.beg h4) q;obtain⟨S1,ah⟩:=q.h;have ai:=ah.hv;simp[go_sem,simprocAttr,ai];refine af.mono λr E=>?_;rcases E.h with⟨a,c,g,J,rfl,W,L,X,N⟩|⟨e,g,J,rfl,L,N⟩
  ·obtain⟨k,f⟩:=N.h;have Y:=f.hv;have aj:=f.hmv;have ak:=aw Y;have Z:∀{G:ab}{i:Nat},jN G _ i (.ag [.s nm,.i .i64 d]) (.ag _) (some (.mp (ua k.vs)))=some (G.set i (.mp (ua _))):=λ{G i}=>oJ (ev:=kA) wC i (nm,d) a k.vs;simp[AV.c]at Z;have E3:bh I B (wX _ a.v g) {k with vs:=aZ _ a k.vs} Fr (J.set I.mv (.mp (ua (aZ (nm,d) a k.vs)))):=⟨f.hs.set (A:=[_,_]),f.p,f.f,f.t,by rw[tg,f.v];rfl,λp P=>by
 rcases ro P with⟨_,rfl⟩|P;·exact W
 exact f.vo _ P,f.g,f.w,f.r⟩;simp[go_sem,simprocAttr,Y,aj,AV.c,Z];exact⟨ak,⟨.inl ⟨a,_,_,rfl,W,⟨C _ _ (o _ _ _ (L _ _ _ (.st .ret))),λ_ _=>⟨X.p,X.b⟩⟩,_,E3⟩⟩⟩
  exact⟨.inr ⟨e,g,J,rfl,⟨C _ _ (o _ _ _ (L _)),λ_ h=>by cases h⟩,N⟩⟩
 exact⟨.inr ⟨e,M1,H1,rfl,⟨C _ _ (o _),λ_ h=>by cases h⟩,q⟩⟩
def akz(a:Cx O B K Al):∀m,wK O B K m/\∀s,lL O B K Al m s:=λm=>by induction m using Nat.strongRecOn<;>grind[aky,Ss]
def aj.rdy(h:0<=K/\K<=100000){s:Int}(hs:s<=500000000):eK K 4096 s aj.nil:=⟨⟨Hk _,AAs _⟩,Hk _,by show 0+0-K*(0:Nat)+s<=_;omega,h⟩
def akA(a:Cx O B K Al)(b:0<=d/\d<65536)(h:EV I B aj.nil Fr H):ac VS 30 [.hp I.v 0,.s nm,.i .i64 d] H (mz O I B Fr (.pair nm d) aj.nil):=by
 have c:0<=K:=by have:=a.w nm d 0;omega
 exact(akz a 4096).1 I _ Fr H nm d b (aj.rdy ⟨c,a.k⟩ (by decide)) h
end
end
section
open Go.Dm
set_option maxRecDepth 10000
structure Df where
 name:Nm
 kind:Nat
 fact:Bool
instance:Inhabited Df:=⟨⟨[],0,false⟩⟩
def Df.c(d:Df):List D:=[.s d.name,.i .u8 d.kind,.b d.fact]
def pm(m:List (Nm×Nat))(d:Df):List (Nm×Nat):=if(aI d.name m).isNone&&!d.fact then aZ d.name d.kind m else m
def ru(l:List Df):List (Nm×Nat):=l.foldl pm []
def mA(g:List (Nm×List Fc))(f:Fc):List (Nm×List Fc):=aZ f.key ((aI f.key g).getD []++[f]) g
def mB(l:List Fc):List (Nm×List Fc):=l.foldl mA []
def po(m:List (Nm×Tb))(t:Tb):List (Nm×Tb):=if(aI t.name m).isNone then aZ t.name t m else m
def mC(l:List Tb):List (Nm×Tb):=l.foldl po []
def FB{α β:Type}[Inhabited α]{g:β->α->β}{b:β}{l:List α}{k:Nat}(h:k<l.length):(l.take (k+1)).foldl g b=g ((l.take k).foldl g b) l[k]!:=by rw[pv,E2 h,K0 l k h,ABE];rfl
abbrev GA:=List (Nm×Nat×List Fc×Bool)
def gN(g:GA):List (Nm×List Fc):=g.map λq=>(q.1,q.2.2.1)
def FC(I:bW)(B:BW)(kinds:List (Nm×Nat))(g:GA)(tbs:List (Nm×Tb)):List (Nat×an):=[(I.b,.hb 159 [.s B.pn,B.defs,B.tabs,B.clsD,.i .i64 B.known,.mp I.kd,.mp I.fm,.mp I.vm,.mp I.tm,.mp I.rm]),(I.kd,.mp (kE kinds)),(I.fm,.mp (gE g)),(I.vm,.mp (dE [])),(I.tm,.mp (tE tbs)),(I.rm,.mp (dE []))]
structure dt(I:bW)(B:BW)(kinds:List (Nm×Nat))(g:GA)(tbs:List (Nm×Tb))(Fr:List (Nat×an))(H:ab):Prop where hs:Hs H (FC I B kinds g tbs++(gL g++Fr))u:∀q∈g,q.2.2.2=false/\q.2.2.1≠[]
section
variable{I:bW}{B:BW}{kinds:List (Nm×Nat)}{g:GA}{tbs:List (Nm×Tb)}{Fr:List (Nat×an)}{H:ab}
def dt.hb(h:dt I B kinds g tbs Fr H):H[I.b]?=some (.hb 159 [.s B.pn,B.defs,B.tabs,B.clsD,.i .i64 B.known,.mp I.kd,.mp I.fm,.mp I.vm,.mp I.tm,.mp I.rm]):=h.hs.get (A:=[])
def dt.hkd(h:dt I B kinds g tbs Fr H):H[I.kd]?=some (.mp (kE kinds)):=h.hs.get (A:=[_])
def dt.hfm(h:dt I B kinds g tbs Fr H):H[I.fm]?=some (.mp (gE g)):=h.hs.get (A:=[_,_])
def dt.htm(h:dt I B kinds g tbs Fr H):H[I.tm]?=some (.mp (tE tbs)):=h.hs.get (A:=[_,_,_,_])
def dt.kind(h:dt I B kinds g tbs Fr H)(a:List (Nm×Nat)):dt I B a g tbs Fr (H.set I.kd (.mp (kE a))):=⟨h.hs.set (A:=[_]),h.u⟩
def dt.tab(h:dt I B kinds g tbs Fr H)(a:List (Nm×Tb)):dt I B kinds g a Fr (H.set I.tm (.mp (tE a))):=⟨h.hs.set (A:=[_,_,_,_]),h.u⟩
def SA{κ β:Type}[DecidableEq κ]{k:κ}{v:β}:∀{m:List (κ×β)},aI k m=none->aZ k v m=m++[(k,v)]
 |[],_=>rfl|(a,b)::m,h=>by
  by_cases e:k=a;·grind[wH]
  rw[wI e]at h;unfold aZ;rw[E1 e,SA h];rfl
def SB{κ β:Type}[DecidableEq κ]{k:κ}{q:β}:∀{m:List (κ×β)},aI k m=some q->∃A C,m=A++(k,q)::C/\∀v,aZ k v m=A++(k,v)::C
 |(a,b)::m,h=>by
  by_cases e:k=a;·subst e;rw[wH]at h;cases h;exact⟨[],m,rfl,λv=>by grind[aZ]⟩
  rw[wI e]at h;obtain⟨A,C,c,d⟩:=SB h;grind[aZ]
def dt.fact(h:dt I B kinds g tbs Fr H)(f:Fc)(J:∀q∈g,q.2.2.1.length<1000000):∃(x y:D)(H1:ab)(d:GA),eP (.c 2) (.s f.key) false .nil (some (.mp (gE g)))=some x/\bu H x (.sv 11 [f.c]) 11 128 true=some (y,H1)/\(∀{G:ab},jN G (.c 2) I.fm (.s f.key) y (some (.mp (gE g)))=some (G.set I.fm (.mp (gE d))))/\y.cellsN 1=some [y]/\H1[I.b]?=H[I.b]?/\H1[I.fm]?=H[I.fm]?/\gN d=mA (gN g) f/\dt I B kinds d tbs Fr (H1.set I.fm (.mp (gE d))):=by
 have e:eP _ (.s f.key) false .nil (some (.mp (gE g)))=some _:=R6 gS f.key g .nil;have i:aI f.key (gN g)=(aI f.key g).map _:=Ap (g:=λq:Nat×List Fc×Bool=>q.2.1);have p:∀(v:Nat×List Fc×Bool){G:ab},jN G (.c 2) I.fm (.s f.key) (.mu v.1 v.2.1.length 0 v.2.1.length) (some (.mp (gE g)))=some (G.set I.fm (.mp (gE (aZ f.key v g)))):=λv{G}=>oJ (ev:=λq:Nat×List Fc×Bool=>.mu q.1 q.2.1.length 0 q.2.1.length) gS I.fm f.key v g;have r:∀v,gN (aZ f.key v g)=aZ f.key v.2.1 (gN g):=λv=>tg (g:=λq:Nat×List Fc×Bool=>q.2.1)
 cases j:aI f.key g with|none=>
 rw[j]at e i;have t:aZ f.key _ g=g++[(f.key,H.length,[f],false)]:=SA j;refine⟨.nil,.mu _ 1 0 1,H++[.ar 11 [f.c] none true false],aZ f.key _ g,e,tc (by rw[f.fl]) (by decide),p (H.length,[f],false),rfl,?_,?_,?_,?_,?_⟩;·rw[X0 (aw h.hb)]
 ·rw[X0 (aw h.hfm)]
 ·rw[r,mA,i];rfl
 ·rw[t];have u:Hs (H++[.ar 11 [f.c] none true false]) ((FC I B kinds g tbs++gL g)++(H.length,.ar 11 [f.c] none true false)::Fr):=by have:=h.hs;rw[<-List.append_assoc]at this;exact this.newm
  have n:gL (g++[(f.key,H.length,[f],false)])=gL g++[(H.length,.ar 11 [f.c] none true false)]:=by simp[gL]
  rw[n];simp[dn,T1,W0]at u⊢;exact u.set (A:=[_,_])
 intro q b;rw[t]at b;rcases bN.1 b with m|m;·exact h.u q m
 rw[kz.1 m];exact⟨rfl,by simp⟩|some q=>
 obtain⟨a,l,lk⟩:=q;rw[j]at e i;obtain⟨A,C,k,K⟩:=SB j;have w:(f.key,a,l,lk)∈g:=by rw[k];simp
 obtain⟨z,L⟩:=h.u _ w;have M:=J _ w;simp only at z L M;subst z;have E:aZ f.key _ g=A++(f.key,a,l++[f],false)::C:=K _;have n:gL g=gL A++(a,.ar 11 (l.map Fc.c) none true false)::gL C:=by rw[k];simp[gL]
 have N:gL (A++(f.key,a,l++[f],false)::C)=gL A++(a,.ar 11 (l.map Fc.c++[f.c]) none true false)::gL C:=by simp[gL]
 have hs:=h.hs;rw[n]at hs;have F:Hs H ((FC I B kinds g tbs++gL A)++(a,.ar 11 (l.map Fc.c) none true false)::(gL C++Fr)):=by simpa only[dn,T1]using hs
 have P:=F.get;have Q:=F.set (y:=.ar 11 (l.map Fc.c++[f.c]) none true false);have o:=by simpa only[dn]using Q
 refine⟨.mu a l.length 0 _,.mu a _ 0 _,_,aZ f.key (a,l++[f],false) g,e,E0 P (by simp) (by rw[f.fl]) (by omega) (by omega),?_,rfl,?_,?_,?_,?_,?_⟩;·intro G;have:=p (a,l++[f],false) (G:=G);simpa using this
 ·exact(o.get (A:=[])).trans h.hb.symm
 ·exact(o.get (A:=[_,_])).trans h.hfm.symm
 ·rw[r,mA,i];rfl
 ·rw[E,N];simp[dn,T1];exact o.set (A:=[_,_])
 intro q b;rw[E]at b;rcases bN.1 b with m|m;·exact h.u q (by rw[k];exact TB _ m)
 rcases dA.1 m with rfl|m;·exact⟨rfl,by simp⟩
 exact h.u q (by rw[k];exact fd _ (K2 _ m))
end
end
section
open Go.Dm
set_option maxRecDepth 10000
section
variable{I:bW}{B:BW}{kinds:List (Nm×Nat)}{g:GA}{tbs:List (Nm×Tb)}{Fr:List (Nat×an)}{H:ab}
variable{c0 c1 c2 c3 c4 c5 c6 c7 c8 c9 c10 c11 c12 c14 c15 c16 c17 c18 c19 c20 c21 c22 c23 c24 c25:D}{Q:Dm.Ex->St->Prop}
def akB{l:List Df}{x:D}(C:Sl 3 (l.map Df.c) x)(S:l.length<1000000)(h:dt I B [] g tbs Fr H)(E:∀H1 c4 c5 c14 c15,dt I B (ru l) g tbs Fr H1->Q (.ex 0) ⟨[c0,c1,c2,c3,c4,c5,c6,c7,c8,c9,.i .i64 (l.length:Int),.i .i64 (l.length:Int),x,.hp I.b 0,c14,c15,c16,c17,c18,c19,c20,c21,c22,c23,c24,c25],H1⟩):ak VS (.loop HE) ⟨[c0,c1,c2,c3,c4,c5,c6,c7,c8,c9,.i .i64 0,.i .i64 (l.length:Int),x,.hp I.b 0,c14,c15,c16,c17,c18,c19,c20,c21,c22,c23,c24,c25],H⟩ Q:=by
 have u:=λ{V dr os keep F J Q K H L k M}=>C.q (V:=V) (dr:=dr) (os:=os) (keep:=keep) (loc:=F) (sl:=J) (Q:=Q) (sl':=K) (H:=H) (H':=L) (k:=k) (x:=M);refine ak.up (λk s=>∃H1 c4 c5 c14 c15,dt I B (ru (l.take k)) g tbs Fr H1/\s=⟨[c0,c1,c2,c3,c4,c5,c6,c7,c8,c9,.i .i64 k,.i .i64 _,x,.hp I.b 0,c14,c15,c16,c17,c18,c19,c20,c21,c22,c23,c24,c25],H1⟩) l.length ⟨H,_,_,_,_,h,rfl⟩ ?_;rintro k s U⟨H1,c4,c5,c14,c15,a,rfl⟩;by_cases v:k<l.length
 ·have d1:(k:Int)<l.length:=by omega
  have d0:(0:Int)<=k:=by omega
  have w:IntKind.i64.wrap (k+1)=((k+1:Nat)):=by grind[wr]
  have j:=a.hb;have f:=a.hkd;have y:=aw j;have o:=aw f;have z:ru _=pm (ru _) l[k]!:=FB v;obtain⟨m,A⟩:∃m,m=ru (l.take k):=⟨_,rfl⟩;obtain⟨e,p⟩:∃e,e=l[k]!:=⟨_,rfl⟩;rw[<-A,<-p]at z;rw[<-A]at a f;have d:eP (.c 2) (.s e.name) true (.i .u8 0) (some (.mp (kE m)))=some (.tu [.i .u8 ((aI e.name m).getD 0),.b (aI e.name m).isSome]):=by refine(nO gS _ m _).trans ?_;cases aI _ m<;>rfl
  have N:∀{G:ab}{i:Nat},jN G _ i (.s _) _ (some (.mp (kE m)))=some (G.set i (.mp (kE _))):=λ{G i}=>oJ (ev:=λn:Nat=>D.i .u8 n) gS i e.name e.kind m;have P:=a.kind (aZ e.name e.kind m);cases q:aI _ m with
  |some n=>
 rw[q]at d;have r:pm m e=m:=by grind[pm]
 simp[go_sem,simprocAttr,Bg,d1,u,<-p,Df.c,j,f,d,w]
 grind|none=>rw[q]at d;simp only[sa,oy]at d;cases t:e.fact with|true=>
  have r:pm m e=m:=by unfold pm;rw[q,t];rfl
  simp[go_sem,simprocAttr,Bg,d1,u,<-p,Df.c,j,f,d,w,t];exact⟨y,o,v,by rw[z,r];exact a⟩|false=>
  have r:pm m e=aZ e.name e.kind m:=by unfold pm;rw[q,t];rfl
  simp[go_sem,simprocAttr,Bg,d1,u,<-p,Df.c,j,f,d,N,w,t];exact⟨y,o,y,v,by rw[z,r];exact P⟩
 have d1:¬(k:Int)<l.length:=by omega
 have o:k=l.length:=by omega
 subst o;rw[ph]at a;simp[go_sem,Bg];exact E _ _ _ _ _ a
def akC{l:List Tb}{x:D}(C:Sl 3 (l.map Tb.c) x)(P:l.length<1000000)(h:dt I B kinds g [] Fr H)(E:∀H1 c7 c8 c23 c24 c25,dt I B kinds g (mC l) Fr H1->Q (.ex 4) ⟨[c0,c1,c2,c3,c4,c5,c6,c7,c8,c9,c10,c11,c12,.hp I.b 0,c14,c15,c16,c17,c18,c19,.i .i64 (l.length:Int),.i .i64 (l.length:Int),x,c23,c24,c25],H1⟩):ak VS (.loop HG) ⟨[c0,c1,c2,c3,c4,c5,c6,c7,c8,c9,c10,c11,c12,.hp I.b 0,c14,c15,c16,c17,c18,c19,.i .i64 0,.i .i64 (l.length:Int),x,c23,c24,c25],H⟩ Q:=by
 have w:=λ{V dr os keep F J Q K H L k M}=>C.q (V:=V) (dr:=dr) (os:=os) (keep:=keep) (loc:=F) (sl:=J) (Q:=Q) (sl':=K) (H:=H) (H':=L) (k:=k) (x:=M);refine ak.up (λk s=>∃H1 c7 c8 c23 c24 c25,dt I B kinds g (mC (l.take k)) Fr H1/\s=⟨[c0,c1,c2,c3,c4,c5,c6,c7,c8,c9,c10,c11,c12,.hp I.b 0,c14,c15,c16,c17,c18,c19,.i .i64 k,.i .i64 _,x,c23,c24,c25],H1⟩) l.length ⟨H,_,_,_,_,_,h,rfl⟩ ?_;rintro k s S⟨H1,c7,c8,c23,c24,c25,a,rfl⟩;by_cases o:k<l.length
 ·have d1:(k:Int)<l.length:=by omega
  have d0:(0:Int)<=k:=by omega
  have y:IntKind.i64.wrap (k+1)=((k+1:Nat)):=by rw[wr (by omega) (by omega)];omega
  have p:=a.hb;have d:=a.htm;have q:=aw p;have f:=aw d;have r:mC _=po (mC _) l[k]!:=FB o;obtain⟨m,z⟩:∃m,m=mC (l.take k):=⟨_,rfl⟩;obtain⟨e,u⟩:∃e,e=l[k]!:=⟨_,rfl⟩;rw[<-z,<-u]at r;rw[<-z]at a d;have c:eP _ (.s _) true (.ag [.s [],.b false,.nil]) (some (.mp (tE m)))=some _:=nO gS e.name m _;have A:∀{G:ab}{i:Nat},jN G _ i (.s _) _ (some (.mp (tE m)))=some (G.set i (.mp (tE _))):=λ{G i}=>oJ (ev:=λt=>D.ag t.c) gS i e.name e m
  have N:=a.tab (aZ e.name e m);cases j:aI _ m with|some n=>
  rw[j]at c;simp[ef,eD,ot,Tb.c]at c;have v:po m e=m:=by unfold po;rw[j];rfl
  simp[go_sem,simprocAttr,HH,d1,w,<-u,Tb.c,p,d,c,y];exact⟨q,f,o,by rw[r,v];exact a⟩|none=>
  rw[j]at c;simp[vy,sa,oy]at c;simp[Tb.c]at A;have v:po m e=aZ e.name e m:=by unfold po;rw[j];rfl
  simp[go_sem,simprocAttr,HH,d1,w,<-u,Tb.c,p,d,c,A,y];exact⟨q,f,q,o,by rw[r,v];exact N⟩
 have d1:¬(k:Int)<l.length:=by omega
 have f:k=l.length:=by omega
 subst f;rw[ph]at a;simp[go_sem,HH];exact E _ _ _ _ _ _ a
def akD{l:List Fc}:∀{g:List (Nm×List Fc)}{n:Nat},(∀q∈g,q.2.length<=n)->∀q∈l.foldl mA g,q.2.length<=n+l.length:=by induction l with|nil=>grind|cons f l b=>
 intro g n h q a;have:=b (n:=n+1) (λq a=>by
 obtain⟨k,v⟩:=q;rcases ro a with⟨_,rfl⟩|a;·cases c:aI f.key g with|none=>simp|some v=>have:=h _ (iS c);grind
 grind) q a;grind
def akE{l:List Fc}{x:D}(f:Sl 11 (l.map Fc.c) x)(J:l.length<1000000)(h:dt I B kinds [] tbs Fr H)(j:∀H1 g c6 c19,gN g=mB l->dt I B kinds g tbs Fr H1->Q (.ex 2) ⟨[c0,c1,c2,c3,c4,c5,c6,c7,c8,c9,c10,c11,c12,.hp I.b 0,c14,c15,.i .i64 (l.length:Int),.i .i64 (l.length:Int),x,c19,c20,c21,c22,c23,c24,c25],H1⟩):ak VS (.loop HF) ⟨[c0,c1,c2,c3,c4,c5,c6,c7,c8,c9,c10,c11,c12,.hp I.b 0,c14,c15,.i .i64 0,.i .i64 (l.length:Int),x,c19,c20,c21,c22,c23,c24,c25],H⟩ Q:=by
 have b:=λ{V dr os keep m o Q p H r k t}=>f.q (V:=V) (dr:=dr) (os:=os) (keep:=keep) (loc:=m) (sl:=o) (Q:=Q) (sl':=p) (H:=H) (H':=r) (k:=k) (x:=t);refine ak.up (λk s=>∃H1 g c6 c19,gN g=mB (l.take k)/\dt I B kinds g tbs Fr H1/\s=⟨[c0,c1,c2,c3,c4,c5,c6,c7,c8,c9,c10,c11,c12,.hp I.b 0,c14,c15,.i .i64 k,.i .i64 _,x,c19,c20,c21,c22,c23,c24,c25],H1⟩) l.length ⟨H,[],_,_,rfl,h,rfl⟩ ?_;rintro k s K⟨H1,g,c6,c19,c,a,rfl⟩;by_cases u:k<l.length
 ·have v:IntKind.i64.wrap (k+1)=((k+1:Nat)):=by grind[wr]
  have w:=a.hb;have y:=a.hfm;have L:mB _=mA (mB _) l[k]!:=FB u;have z:∀q∈g,q.2.2.1.length<1000000:=λq b=>by have:=akD (g:=[]) (n:=0) (λ_ h=>by cases h) _ (by show _∈mB _;rw[<-c];exact n4 b);grind
  obtain⟨e,A⟩:∃e,e=l[k]!:=⟨_,rfl⟩;obtain⟨M,N,P,S,C,d,E,U,W,F,X,Y⟩:=a.fact e z;simp[Fc.c]at d;simp[go_sem,simprocAttr,Vk,d1,b,<-A,Fc.c,w,y,C,d,E,F,v];grind
 have d1:¬(k:Int)<l.length:=by omega
 have G:k=l.length:=by omega
 subst G;rw[ph]at c;simp[go_sem,Vk];exact j _ _ _ _ c a
end
end
section
open Go.Dm
set_option maxRecDepth 10000
structure Pl where
 name:Nm
 defs:List Df
 tabs:List Tb
 cls:List Cl
 dD:D
 tD:D
 cD:D
 hd:Sl 3 (defs.map Df.c) dD
 ht:Sl 3 (tabs.map Tb.c) tD
 hc:Sl 24 (cls.map Cl.row) cD
def Pl.d(p:Pl):D:=.ag [.s p.name,p.dD,p.tD,p.cD]
def Pl.pl(p:Pl):p.d.plain=true:=by simp[Pl.d,cE,nh,p.hd.flat,p.ht.flat,p.hc.flat]
def Pl.bw(p:Pl)(l:List Fc)(a:Int):BW:=⟨p.name,p.dD,p.tD,p.cD,p.cls,a,ru p.defs,mB l,mC p.tabs⟩
def akF(p:Pl){l:List Fc}{x:D}(a:Sl 11 (l.map Fc.c) x){known:Int}(d:p.defs.length<1000000)(e:p.tabs.length<1000000)(f:l.length<1000000){Fr:List (Nat×an)}{H:ab}(h:Hs H Fr){K:CR->Prop}(u:∀(I:bW)(g:GA)(b:ab),gN g=mB l->dt I (p.bw l known) (ru p.defs) g (mC p.tabs) Fr b->K (.ret (.hp I.b 0) b)):ac VS 62 [p.d,x,.i .i64 known] H K:=by
 obtain⟨I,c⟩:∃I:bW,I=⟨0,0,0,0,0,H.length+5,H.length,H.length+1,H.length+2,H.length+3,H.length+4⟩:=⟨_,rfl⟩;have j:dt I (p.bw l known) [] [] [] Fr (H++[.mp [],.mp [],.mp [],.mp [],.mp [],.hb 159 [.s p.name,p.dD,p.tD,p.cD,.i .i64 known,.mp H.length,.mp (H.length+1),.mp (H.length+2),.mp (H.length+3),.mp (H.length+4)]]):=by refine⟨?_,λ_ h=>by cases h⟩;have q:=(((((h.new (x:=.mp [])).new (x:=.mp [])).new (x:=.mp [])).new (x:=.mp [])).new (x:=.mp [])).new (x:=.hb 159 [.s p.name,p.dD,p.tD,p.cD,.i .i64 known,.mp H.length,.mp (H.length+1),.mp (H.length+2),.mp (H.length+3),.mp (H.length+4)]);simp only[dn,T1,W0,Rp,fD,kx]at q;rw[c];exact q.perm (.cons _ ((List.reverse_perm [(H.length,an.mp []),(H.length+1,an.mp []),(H.length+2,an.mp []),(H.length+3,an.mp []),(H.length+4,an.mp [])]).append_right Fr))
 have k:I.b=H.length+5:=by rw[c]
 have m:=λ{H}=>p.hd.n (H:=H);have n:=λ{H}=>a.n (H:=H);have o:=λ{H}=>p.ht.n (H:=H);refine .body agv rfl rfl ?_;unfold Pl.d;simp[go_sem,simprocAttr,aoz,m];rw[<-k];refine akB p.hd d j λH1 _ _ _ _ r=>?_;simp[go_sem,n];refine akE a f r λv g _ _ w t=>?_;simp[go_sem,simprocAttr,o];refine akC p.ht e t λy _ _ _ _ _ z=>?_;simp[go_sem];grind
def SC{α:Type}[Inhabited α]{p:α->Bool}{l:List α}{k:Nat}(h:k<l.length)(a:(l.take k).all p=true):(p l[k]! =true->(l.take (k+1)).all p=true)/\(p l[k]! =false->l.all p=false):=by
 have e:=K0 l k h;refine⟨λq=>?_,λq=>?_⟩;·rw[pv,E2 h,List.all_append,a,<-e];grind
 grind
def Cl.sz(c:Cl):Bool:=r8 c.w&&r8 c.t
def Pl.bounded(p:Pl):Bool:=decide (p.defs.length<=64/\p.cls.length<=400/\p.tabs.length<=16)&&p.cls.all Cl.sz&&p.tabs.all Tb.v
def SD(e:Ex){H:ab}{K:CR->Prop}:ac VS 56 [.ag [.i .u8 e.op,.s e.name,.i .u8 e.v.k,.b e.v.f.s,e.v.f.x,.b e.v.f.t,e.v.f.y,.i .i64 e.v.i,e.sl]] H K↔K (.ret (.b (r8 e)) H):=by have:=(asi e).c (H:=H) (K:=K) PF rfl (by simp[e.pl]) (.inl rfl);grind[Ex.d,Ex.row_eq]
def akG(t:Tb){H:ab}{K:CR->Prop}:ac VS 44 [.ag [.s t.name,.b t.two,t.x]] H K↔K (.ret (.b t.v) H):=by have:=(Ab t).c (H:=H) (K:=K) v6 rfl (by simp[t.pl]) (.inl rfl);grind[Tb.c]
def SE(p:Pl)(Y:p.defs.length<1000000000000)(Z:p.tabs.length<1000000000000)(h3:p.cls.length<1000000000000):ai VS 19 [p.d] (.b p.bounded):=by
 have n:=λ{H}=>p.hd.n (H:=H);have t:=λ{H}=>p.ht.n (H:=H);have v:=λ{H}=>p.hc.n (H:=H);refine .body (vf:=Bc) D8 rfl ?_;unfold Pl.d;by_cases W:p.defs.length<=64/\p.cls.length<=400/\p.tabs.length<=16
 ·have g:¬(p.defs.length:Int)>64:=by omega
  have o:¬(p.cls.length:Int)>400:=by omega
  have c3:¬(p.tabs.length:Int)>16:=by omega
  simp(disch:=omega)only[go_sem,simprocAttr,Bd,n,t,v,g,o,c3];have w:=λ{V dr os keep y z Q A H B k C}=>p.hc.q (V:=V) (dr:=dr) (os:=os) (keep:=keep) (loc:=y) (sl:=z) (Q:=Q) (sl':=A) (H:=H) (H':=B) (k:=k) (x:=C);have ab:=λb=>p.hc.under b;have L:=λ{V dr os keep y z Q A H B k C}=>p.ht.q (V:=V) (dr:=dr) (os:=os) (keep:=keep) (loc:=y) (sl:=z) (Q:=Q) (sl':=A) (H:=H) (H':=B) (k:=k) (x:=C);have ac:=λb=>p.ht.under b;have E:p.bounded=(p.cls.all Cl.sz&&p.tabs.all Tb.v):=by grind[Pl.bounded]
  rw[E];refine ak.up (λk s=>(p.cls.take k).all Cl.sz=true/\∃h j l,s=⟨[.ag [.s p.name,p.dD,p.tD,p.cD],.b false,.b false,h,j,.u,.u,.bx [.s p.name,p.dD,p.tD,p.cD],.i .i64 (k:Int),.i .i64 (p.cls.length:Int),p.cD,l,.u,.u,.u,.u],[]⟩) p.cls.length ⟨by simp,_,_,_,rfl⟩ ?_;rintro k s X⟨F,h,j,l,rfl⟩;by_cases M:k<p.cls.length
  ·have d1:(k:Int)<(p.cls.length:Int):=by omega
   have d0:(0:Int)<=(k:Int):=by omega
   have G:IntKind.i64.wrap ((k:Int)+1)=((k+1:Nat):Int):=by rw[wr (by omega) (by omega)];omega
   obtain⟨e,d⟩:∃e,e=p.cls[k]!:=⟨_,rfl⟩;have f:=SC (p:=Cl.sz) M F;rw[<-d]at f
   have a:=λ{H K}=>SD e.w (H:=H) (K:=K);have q:=λ{H K}=>SD e.t (H:=H) (K:=K);cases c:r8 e.w with|false=>
    have m:Cl.sz e=false:=by unfold Cl.sz;rw[c];rfl
    rw[c]at a;rw[f.2 m]
    simp(disch:=omega) only[go_sem,simprocAttr,Bb,d1,d0,w,da, <- d,Cl.row,Ex.row_eq,T1,W0,a,ACJ]|true=>cases r:r8 e.t with|false=>
   have m:Cl.sz e=false:=by unfold Cl.sz;rw[c,r];rfl
   rw[c]at a;rw[r]at q;rw[f.2 m];simp(disch:=omega)only[go_sem,simprocAttr,Bb,d1,d0,w,da,<-d,Cl.row,Ex.row_eq,T1,W0,a,q,ACJ]|true=>
   have m:Cl.sz e=true:=by unfold Cl.sz;rw[c,r];rfl
   rw[c]at a;rw[r]at q;simp(disch:=omega)only[go_sem,simprocAttr,Bb,d1,d0,w,da,<-d,Cl.row,Ex.row_eq,T1,W0,a,q,G];exact⟨M,f.1 m⟩
  have d1:¬(k:Int)<(p.cls.length:Int):=by omega
  have I:k=p.cls.length:=by omega
  subst I;rw[ph]at F;rw[F,y5];simp(disch:=omega)only[go_sem,simprocAttr,Bb,d1,t];refine ak.up (λk s=>(p.tabs.take k).all Tb.v=true/\∃h j N P l S,s=⟨[.ag [.s p.name,p.dD,p.tD,p.cD],.b false,.b false,h,j,N,P,.bx [.s p.name,p.dD,p.tD,p.cD],.i .i64 (p.cls.length:Int),.i .i64 (p.cls.length:Int),p.cD,l,.i .i64 (k:Int),.i .i64 (p.tabs.length:Int),p.tD,S],[]⟩) p.tabs.length ⟨by simp,_,_,_,_,_,_,rfl⟩ ?_;rintro k s X⟨J,h,j,N,P,l,S,rfl⟩;by_cases U:k<p.tabs.length
  ·have d2:(k:Int)<(p.tabs.length:Int):=by omega
   have d0:(0:Int)<=(k:Int):=by omega
   have G:IntKind.i64.wrap ((k:Int)+1)=((k+1:Nat):Int):=by rw[wr (by omega) (by omega)];omega
   obtain⟨e,d⟩:∃e,e=p.tabs[k]!:=⟨_,rfl⟩;have f:=SC (p:=Tb.v) U J;rw[<-d]at f;have a:=λ{H K}=>akG e (H:=H) (K:=K);cases c:e.v with|false=>rw[c]at a;rw[f.2 c];simp(disch:=omega)only[go_sem,simprocAttr,GU,d2,d0,L,da,<-d,Tb.c,a]|true=>rw[c]at a;simp(disch:=omega)only[go_sem,simprocAttr,GU,d2,d0,L,da,<-d,Tb.c,a,G];exact⟨U,f.1 c⟩
  have d2:¬(k:Int)<(p.tabs.length:Int):=by omega
  have I:k=p.tabs.length:=by omega
  subst I;rw[ph]at J;rw[J];simp(disch:=omega)only[go_sem,simprocAttr,GU,d2]
 have E:p.bounded=false:=by unfold Pl.bounded;rw[R1 W];rfl
 rw[E];by_cases g:(p.defs.length:Int)>64;·simp(disch:=omega)only[go_sem,simprocAttr,Bd,n,g]
 by_cases o:(p.cls.length:Int)>400;·simp(disch:=omega)only[go_sem,simprocAttr,Bd,n,v,g,o]
 have c3:(p.tabs.length:Int)>16:=by omega
 simp(disch:=omega)only[go_sem,simprocAttr,Bd,n,t,v,g,o,c3]
end
section
open Go.Dm
set_option maxRecDepth 10000
def akH:∀e:Ex,∀d p,(jA e d p).1=true->(jA e d p).2=p+e.en.size:=by
 refine Ex.ind' λe c d p h=>?_;rw[Ch]at h⊢;split at h;·cases h
 rename_i b;rw[E1 b,EN.size_eq,e.en_args];have:∀l,(∀a∈l,a∈e.args)->∀q,(i6 l (d+1) q).1=true->(i6 l (d+1) q).2=q+cM (l.map Ex.en):=by intro l;induction l<;>grind[i6,jA,cM]
 grind
theorem akI{e:Ex}(h:r8 e=true):e.en.size<=200:=by have a:=akH e 1 0 h;have b:=Yn e 1 0 (by decide) h;omega
theorem FD{m:List (Nm×Nat)}{k a:Nm}{v:Nat}:ig (aZ k v m) a=if a=k then v else ig m a:=by grind[ig,C3]
def FE{k:Nm}:∀{l:List Fc}{m a:List (Nm×Nat)},ig m k=ig a k->iQ l m=true->iQ (l.filter λf=>decide (f.key=k)) a=true
 |[],_,_,_,_=>rfl|f::l,m,a,d,h=>by
  unfold iQ at h;split at h;·cases h
  rename_i b;by_cases e:f.key=k
  ·rw[AAj (by grind)];unfold iQ;have c:rj a f=rj m f:=by grind[rj]
   rw[c,E1 b];refine FE ?_ h;grind[pi,FD]
  rw[AAk (by grind)];refine FE ?_ h;grind[pi,FD]
def SF{l:List Fc}:∀{g:List (Nm×List Fc)}{k:Nm},(aI k (l.foldl mA g)).getD []=(aI k g).getD []++l.filter λf=>decide (f.key=k):=by induction l<;>grind[aI,mA,C3]
def SG{κ β:Type}[DecidableEq κ]{k:κ}{v:β}:∀{m:List (κ×β)},(m.map Prod.fst).Nodup->((aZ k v m).map Prod.fst).Nodup/\∀x,x∈(aZ k v m).map Prod.fst↔x=k\/x∈m.map Prod.fst
 |[],_=>by simp[aZ]|(a,b)::m,h=>by
  unfold aZ;simp only[fA,yy]at h;by_cases e:k=a;·grind
  obtain⟨c,d⟩:=SG (k:=k) (v:=v) h.2;grind
def SH{κ β:Type}[DecidableEq κ]{k:κ}{v:β}:∀{m:List (κ×β)},(m.map Prod.fst).Nodup->(k,v)∈m->aI k m=some v
 |(a,b)::m,h,c=>by
  simp only[fA,yy]at h;rcases dA.1 c with e|c;·grind[wH]
  have:k≠a:=λe=>h.1 (e▸n4 c);rw[wI this];exact SH h.2 c
def akJ{l:List Fc}:∀{g:List (Nm×List Fc)},(g.map Prod.fst).Nodup->((l.foldl mA g).map Prod.fst).Nodup:=by induction l with|nil=>grind|cons f l a=>intro g h;exact a (SG h).1
def akK{l:List Fc}:∀{g:List (Nm×List Fc)},(∀q∈g,q.2≠[])->∀q∈l.foldl mA g,q.2≠[]:=by induction l with|nil=>grind|cons f l b=>
 intro g h;refine b λq a=>?_;obtain⟨k,v⟩:=q;rcases ro a with⟨_,rfl⟩|a;·simp
 grind
def akL{l:List Fc}{k:Nm}{v:List Fc}(h:(k,v)∈mB l):v=l.filter (λf=>decide (f.key=k))/\v≠[]:=by have a:=SH (akJ (g:=[]) List.nodup_nil) h;have b:=SF (l:=l) (g:=[]) (k:=k);refine⟨by grind[aI],akK (λ_ h=>by cases h) _ h⟩
def SI{l:List Tb}:∀{m:List (Nm×Tb)},∀q∈l.foldl po m,q∈m\/(q.2∈l/\q.2.name=q.1):=by induction l<;>grind[po,ro]
def SJ{w:Nat}{rows:List (List D)}{x:D}(h:Sl w rows x):eW x=true:=by cases h<;>rfl
def jq(p:Pl)(l:List Fc)(a:Int)(k:Nm):(p.bw l a).vw k=gV (cL (l.map Fc.n) k a):=by
 have c:=SF (l:=l) (g:=[]) (k:=k);have b:cL (l.map Fc.n) k a=cL ((l.filter λf=>decide (f.key=k)).map Fc.n) k a:=by unfold cL;congr 1;rw[AAK,AAK,s4];congr 1;refine x3 λf _=>?_;grind[Fc.n]
 show(match aI k (mB l)with|some l=>gV (cL _ k a)|none=>[])=_;rw[b];unfold mB;cases d:aI k _ with
 |none=>
 have:l.filter (λf=>decide (f.key=k))=[]:=by simp_all
 rw[this];rfl|some v=>grind[aI]
def akM(p:Pl){l:List Fc}{d:Int}(a:p.bounded=true)(e:l.length<40)(hr:eJ l=true)(g:d<=9223372036854775807):(p.bw l d).ok:=by
 unfold Pl.bounded at a;simp only[D0,Hq]at a;have i:=TA.1 a.2;refine⟨λq b=>?_,λq b=>?_,p.hc,by show p.cls.length<1000000;omega,⟨SJ p.hd,SJ p.ht⟩,⟨p.hd.flat,p.ht.flat⟩,g⟩;·obtain⟨k,v⟩:=q;obtain⟨rfl,c⟩:=akL (b);refine⟨c,hO (ABR _ _) e,?_⟩;unfold eJ at hr⊢;simp only[D0,Hq]at hr⊢;refine⟨⟨gp (ABR _ _) hr.1.1,?_⟩,FE rfl hr.2⟩;rw[TA];intro f j;exact TA.1 hr.1.2 f (n0.1 j).1
 rcases SI q b with h|⟨m,c⟩;·cases h
 exact⟨i _ m,c⟩
def akN{l:List (Nat×jt)}{n:Nat}(h:∀p∈l,p.2.when.size<=n):dC l<=l.length*n:=by induction l with|nil=>simp[dC]|cons p l a=>have b:=a λq c=>h q (K2 _ c);have d:=h p N2;unfold dC at b⊢;simp only[fA,List.sum_cons,fD,il];omega
def SK(p:Pl){O:bV}(j:Ar O){l:List Fc}{a:Int}(e:p.bounded=true)(k:l.length<40)(hr:eJ l=true)(m:a<=9223372036854775807)(n:∀c∈p.cls,dp (λ_=>True) c.w/\dp (λ_=>True) c.t):Cx O (p.bw l a) 100000 (λ_=>True):=by
 have f:=e;unfold Pl.bounded at f;simp only[D0,Hq]at f;have g:∀c:Nat,(p.cls[c]!).w.en.size<=200/\(p.cls[c]!).t.en.size<=200:=λc=>by
  by_cases h:c<p.cls.length;·grind[Cl.sz,akI]
  rw[getElem!_neg p.cls c h];exact⟨by decide,by decide⟩
 refine⟨akM p e k hr m,λs _ o=>aj5 j o,λb d c=>?_,by decide,n⟩;have u:dC _<=((p.bw l a).wd.cl b d).length*200:=akN λq r=>by obtain⟨i,_,rfl⟩:=f0.1 r;exact(g i).1
 have v:((p.bw l a).wd.cl b d).length<=400:=by show(((p.bw l a).infr b d).map _).length<=400;unfold BW.infr;rw[S2,S2];show(eV (p.cls.map _) b d a).length<=400;grind[eV,nT,Fz]
 have x:((p.bw l a).wd.clause c).thn.size<=200:=(g c).2;omega
end
section
open Go.Dm
set_option maxRecDepth 10000
def iV(p:Pl)(l:List Fc)(d:Int):Bool:=decide (0<=d/\d<65536)&&p.bounded&&eJ l
def akO(p:Pl){l:List Fc}{x:D}(j:Sl 11 (l.map Fc.c) x){d known:Int}(r:p.defs.length<1000000)(s:p.tabs.length<1000000)(y:l.length<40)(z:p.cls.length<1000000){Fr:List (Nat×an)}{H:ab}(h:Hs H Fr){K:CR->Prop}(n:iV p l d=false->K (.ret (.tu [.np,.i .i64 2]) H))(k:iV p l d=true->∀(I:bW)(a:ab),EV I (p.bw l known) aj.nil Fr a->K (.ret (.tu [.hp I.v 0,.i .i64 0]) a)):ac VS 26 [p.d,x,.i .i64 d,.i .i64 known] H K:=by
 have b:=λ{H K}=>(SE p (by omega) (by omega) (by omega)).c (H:=H) (K:=K) D8 rfl (by simp[p.pl]) (.inl rfl);have m:=λ{H K}=>(Af j (by omega)).c (H:=H) (K:=K) vZ rfl (by simp[j.pl]) (.inl rfl);have o:=λ{K}=>akF p j (known:=known) r s (by omega) h (K:=K);refine .body agh rfl rfl ?_;unfold Pl.d at b o⊢;unfold iV at n k;by_cases e:d<0;·simp[go_sem,xf,e];grind
 by_cases f:d>=65536;·simp[go_sem,xf,e,f];grind
 cases t:p.bounded with|false=>simp[go_sem,xf,e,f,b];grind|true=>rw[t]at b n k;cases hr:eJ l with|false=>simp[go_sem,xf,e,f,b,m];grind|true=>
 rw[hr]at m k;simp[go_sem,xf,e,f,b,m];refine o λI g a u v=>?_;obtain⟨J,w⟩:∃J:bW,J=⟨a.length+4,a.length,a.length+1,a.length+2,a.length+3,I.b,I.kd,I.fm,I.vm,I.tm,I.rm⟩:=⟨_,rfl⟩;have A:EV J (p.bw l known) aj.nil Fr (a++[.mp [],.mp [],.mp [],.mp [],.hb 100 [.hp I.b 0,.mp a.length,.mp (a.length+1),.mp (a.length+2),.mp (a.length+3),.nil,.nil,.nil]]):=by refine⟨⟨.nil,.nil,.nil,[],[],[],[],[],[],g⟩,⟨?_,.nil,.nil,.nil,rfl,λ_ h=>(by cases h),u,λ_ _ h=>(by cases h),λ_ _ h=>(by cases h)⟩⟩;have q:=((((v.hs.new (x:=.mp [])).new (x:=.mp [])).new (x:=.mp [])).new (x:=.mp [])).new (x:=.hb 100 [.hp I.b 0,.mp a.length,.mp (a.length+1),.mp (a.length+2),.mp (a.length+3),.nil,.nil,.nil]);simp only[dn,T1,W0,Rp,fD,kx]at q;rw[w];exact q.perm (.cons _ ((List.reverse_perm [(a.length,an.mp []),(a.length+1,an.mp []),(a.length+2,an.mp []),(a.length+3,an.mp [])]).append_right _))
 simp[go_sem,simprocAttr];grind
section
variable{O:bV}{I:bW}{B:BW}{K:Int}{Al:Nat->Prop}{M:aj}{Fr:List (Nat×an)}{H:ab}{nm:Nm}{d:Int}
variable{x:List (Nat×an)}
def EV.perm(h:EV I B M Fr H)(p:Fr.Perm x):EV I B M x H:=by obtain⟨S,h⟩:=h.h;refine⟨S,{h with hs:=h.hs.perm ?_}⟩;exact((((p.append_left _).append_left _).append_left _).append_left _).append_left _
def EV.set2{i j:Nat}{x y y':an}(h:EV I B M ((j,x)::(i,y)::Fr) H):EV I B M ((j,x)::(i,y')::Fr) (H.set i y'):=(EV.set (h.perm (.swap _ _ _))).perm (.swap _ _ _)
def akP(n:Cx O B K Al)(o:0<=d/\d<65536){a b c:Nat}(p:H[a]?=some (.hb 86 [.hp I.v 0]))(q:H[b]?=some (.hb 9 [.s nm]))(t:H[c]?=some (.hb 3 [.i .i64 d]))(h:EV I B aj.nil Fr H):ac VS 28 [.hp a 0,.hp b 0,.hp c 0] H (dY I B Fr (bO (bQ O B.wd) (.pair nm d) aj.nil)):=by
 have u:=akA (nm:=nm) n o h;refine .body agj rfl rfl ?_;simp[go_sem,aon,p,q,t];refine u.mono λr hr=>?_;rcases hr.h with⟨z,f,g,rfl,j,⟨l,_⟩,k⟩|⟨e,f,g,rfl,⟨l,_⟩,k⟩;·obtain⟨d,v,w⟩:=asI j;have m:=λ{H K}=>v.c (H:=H) (K:=K) Pv rfl (by simp[j.pl]) (.inl rfl);obtain⟨x,A,rfl,y⟩:=w.av j.o;simp[AV.c]at m⊢;simp[go_sem,m];exact⟨.inl ⟨x,f,g,rfl,y,by grind,k⟩⟩
 exact⟨.inr ⟨e,f,g,rfl,l,k⟩⟩
def LR.im{w:Nat}{x:D}{rows:List (List D)}{L:List (Nat×an)}(h:LR w x rows L)(hs:∀p∈L,H[p.1]?=some p.2):∃b,(∀m,Dm.bC (m+1) H x=some (du w rows,b))/\∀i,(∀p∈L,p.1≠i)->b[i]?=H[i]?:=by cases h with|nil=>exact⟨H,λm=>rfl,λi _=>rfl⟩|mu a rows d=>have c:=hs _ N2;refine⟨H.set a (.ar w rows none true true),λm=>?_,λi hi=>Hy (hi _ N2)⟩;cases rows with|nil=>grind|cons r e=>simp[go_sem,c,du]
def bh.reads{S:ES}(h:bh I B M S Fr H):∃H1 c e,(∀m,Dm.bC (m+1) H S.P=some (du 2 (M.pairs.map ij),H1))/\(∀m,Dm.bC (m+1) H1 S.F=some (du 3 (M.facts.map iT),c))/\(∀m,Dm.bC (m+1) c S.T=some (du 1 (M.tabs.map jp),e)):=by
 have hs:Hs H (S.aP++(S.aF++S.aT)):=by refine h.hs.sub ?_;grind
 have d:=hs.nd;simp[hI]at d;have f:=(AAL.1 d).2.2;have i:=(AAL.1 (AAL.1 d).2.1).2.2;obtain⟨H1,k,g⟩:=h.p.im λp a=>hs.at_ p (TB _ a);obtain⟨c,l,j⟩:=h.f.im λp a=>by rw[g p.1 λq b=>f _ (n4 b) _ (TB _ (n4 a))];exact hs.at_ p (fd _ (TB _ a))
 obtain⟨e,n,o⟩:=h.t.im λp a=>by rw[j p.1 λq b=>i _ (n4 b) _ (n4 a),g p.1 λq b=>f _ (n4 b) _ (fd _ (n4 a))];exact hs.at_ p (fd _ (fd _ a))
 simp_all
def cO(M:aj):D:=.ag [du 2 (M.pairs.map ij),du 3 (M.facts.map iT),du 1 (M.tabs.map jp)]
structure TrR(O:bV)(p:Pl)(l:List Fc)(nm:Nm)(d known:Int)(r:PR):Prop where n:iV p l d=false->r=.ret (.tu [xV,.ag [.nil,.nil,.nil],.i .i64 2])y:iV p l d=true->(∃v y M',bO (bQ O (p.bw l known).wd) (.pair nm d) aj.nil (.ok v) M'/\VD v y/\v.ok/\r=.ret (.tu [y,cO M',.i .i64 0]))\/(∃e M',bO (bQ O (p.bw l known).wd) (.pair nm d) aj.nil (.er e) M'/\r=.ret (.tu [xV,cO M',.i .i64 e]))
end
end
section
open Go.Dm
set_option maxRecDepth 10000
structure Pl.few(p:Pl)(l:List Fc)(known:Int):Prop where
 d:p.defs.length<1000000
 t:p.tabs.length<1000000
 c:p.cls.length<1000000
 f:l.length<40
 k:known<=9223372036854775807
 x:∀c∈p.cls,dp (λ_=>True) c.w/\dp (λ_=>True) c.t
def akR(p:Pl){O:bV}(C:Ar O){l:List Fc}{x:D}(E:Sl 11 (l.map Fc.c) x){nm:Nm}{d n:Int}(b:p.few l n):aE VS 10 [p.d,x,.s nm,.i .i64 d,.i .i64 n] (TrR O p l nm d n):=by
 have F:Hs [an.hb 9 [D.s nm],.hb 3 [.i .i64 d]] [(1,.hb 3 [.i .i64 d]),(0,.hb 9 [.s nm])]:=by grind[Hs]
 have A:=λ{K}=>akO p E (d:=d) (known:=n) b.d b.t b.f b.c F (K:=K);refine .body qW rfl ?_;unfold Pl.d at A⊢;simp[go_sem,aoc];refine A (λhn=>?_) (λB I G H=>?_);·simp[go_sem,simprocAttr];exact⟨λ_=>rfl,λh=>by grind⟩
 have J:0<=d/\d<65536:=by grind[iV]
 have L:p.bounded=true:=by grind[iV]
 have hr:eJ l=true:=by grind[iV]
 have M:=SK p C L b.f hr b.k b.x;have N:=H.new (x:=.hb 86 [.hp I.v 0]);have g:=(N.new (x:=.hb 34 cw)).new (x:=.hb 45 [.i .i64 0]);simp only[go_sem];refine asH (by decide) ?_;simp only[dn,T1,W0,Rp,fD,kx]at g⊢;obtain⟨q,P⟩:∃q,q=G.length:=⟨_,rfl⟩;rw[<-P]at g⊢;have Q:=g.drop.drop.fr;have g1:=g.drop.drop.drop.drop.fr;have g0:=g.drop.drop.drop.fr;refine(akP M J Q g1 g0 g).mono λr hr=>?_;rcases hr.h with⟨a,t,u,rfl,o,v,c⟩|⟨e,t,u,rfl,v,c⟩;·refine⟨a,rfl,o,c.drop.fr,c.fr,?_⟩;have f:=(EV.set2 (y':=.hb 34 a.c) c).set (y:=.hb 45 [.i .i64 0]);generalize(u.set _ _).set _ _=U at f⊢;have j:=f.drop.drop.fr;obtain⟨S,k⟩:=f.h;have m:=k.hv;have w:=aw j;have z:=aw m;obtain⟨V,W,X,Y⟩:=o.fl;simp[AV.c];simp[go_sem,j,m];obtain⟨Z,G2,G3,r1,r2,r3⟩:=k.reads;simp[go_sem,ah V,ah W,ah X,ah Y,r1,r2,r3];exact⟨w,z,λh=>(by rw[B]at h;cases h),λ_=>.inl ⟨a.v,_,t,v,o.d,o.o,rfl⟩⟩
 refine⟨e,rfl,c.drop.fr,c.fr,?_⟩;have f:=(EV.set2 (y':=.hb 34 cw) c).set (y:=.hb 45 [.i .i64 e]);generalize(u.set _ _).set _ _=U at f⊢;have j:=f.drop.drop.fr;obtain⟨S,k⟩:=f.h;have m:=k.hv;have w:=aw j;have z:=aw m;obtain⟨Z,G2,G3,r1,r2,r3⟩:=k.reads;unfold xV cw;simp[go_sem,j,m];simp[go_sem,r1,r2,r3];exact⟨w,z,λh=>(by rw[B]at h;cases h),λ_=>.inr ⟨e,t,v,rfl⟩⟩
end
section
open Go.Dm
set_option maxRecDepth 10000
def akS{l:List (Int×Int)}{K:CR->Prop}(d:l.length<1000000):ac VS 88 [bD [] .nil (l.map bB),.fn (.func 89) [] []] (bH [] 2 (l.map bB)) K↔K (.ret (.tu []) (bH [] 2 ((j8 l).map bB))):=by have f:=(B4 l).length_eq;cases l with|nil=>have e:=AAt f;rw[e];exact ac.beside (by kernel_rfl) (by decide) rfl|cons a l=>
 refine ac.beside (by kernel_rfl) (by decide) ?_;have c:=XP (a::l);simp[fA]at c;have:j8 (a::l)≠[]:=λe=>by grind
 obtain⟨b,m,g⟩:=ABq this;simp[fD]at d;simp[VS,Vx,pU,bD,bH,B3,Dm.aK,c,g];omega
def Aw(s:List (Int×Int))(x:Int×Int):List (Int×Int):=if 0<s.length/\x.1<=s[s.length-1]!.2 then s.set (s.length-1) (s[s.length-1]!.1,max s[s.length-1]!.2 x.2)else s++[x]
def jX(l:List (Int×Int))(i:Nat):List (Int×Int):=(l.take i).foldl Aw []
def SL{l:List (Int×Int)}{i:Nat}(hi:i<l.length):jX l (i+1)=Aw (jX l i) l[i]!:=by unfold jX;rw[za hi,ABE,K0 l i hi];rfl
def FF{l:List (Int×Int)}:∀{i:Nat},i<=l.length->(jX l i).length<=i|0,_=>by simp[jX]|i+1,h=>by rw[SL (by omega)];have:=FF (l:=l) (i:=i) (by omega);grind[Aw]
def ud(l:List (Int×Int)):List (Int×Int):=jX (j8 l) l.length
def FG{l:List (Int×Int)}{a b:Int}:l.map bB++[[.i .i64 a,.i .i64 b]]=(l++[(a,b)]).map bB:=by simp[bB]
theorem SM{l:List (Int×Int)}{i:Nat}{a b:Int}:(l.map bB).set i [.i .i64 a,.i .i64 b]=(l.set i (a,b)).map bB:=by rw[AAH];rfl
def akT{l:List (Int×Int)}{d:D}(h:Sl 2 (l.map bB) d)(M:l.length<1000000)(N:∀s∈l,0<=s.1/\s.1<s.2/\s.2<=65536):∃q,ai VS 57 [d] (.tu [q,.i .i64 0])/\Sl 2 ((ud l).map bB) q:=by
 suffices h:∃r,ai VS 57 [d] r/\∃q,r=.tu [q,.i .i64 0]/\Sl 2 ((ud l).map bB) q by grind
 have hs:=λ{K:CR->Prop}=>akS (K:=K) M;refine aE.ex (.body PG rfl ?_);simp[go_sem,aox,h.n];refine ak.up (λi s=>∃e f g j k m z A B C n o,s=⟨[d,.nil,.i .i64 0,e,f,g,j,k,bD [] .nil ((l.take i).map bB),.i .i64 i,.i .i64 _,d,m,z,A,B,C,n,o],bH [] 2 ((l.take i).map bB)⟩) l.length ⟨.u,.u,.u,.u,.u,.u,.u,.u,.u,.u,.u,.u,rfl⟩ ?_;rintro i s hi⟨e,f,g,j,k,m,z,A,B,C,n,o,rfl⟩;by_cases E:i<l.length
 ·have F:(i:Int)<(l.length:Int):=by omega
  have c:=N l[i]! (by grind);have a:l.take (i+1)=l.take i++[l[i]!]:=by simp_all
  have X:(l.take i).length<=i:=by grind
  obtain⟨x,G⟩:∃x,x=l[i]!:=⟨_,rfl⟩;rw[<-G]at c a;have P:IntKind.i64.wrap (i+1)=((i+1:Nat)):=by grind[wr]
  have Q:∀{H K},ac VS 87 [.ag [.i .i64 x.1,.i .i64 x.2]] H K↔K (.ret (.b true) H):=λ{H K}=>by refine ai.c (.body PT rfl ?_) PT rfl rfl (.inl rfl);simp[go_sem,simprocAttr,aoP,c.1,c.2,ABY c.2.1]
  simp(disch:=omega)only[go_sem,simprocAttr,Vh,h.q,<-G,bB,F,Q,c.2.1,nz,a,FG,P];omega
 have F:¬(i:Int)<l.length:=by omega
 have v:i=l.length:=by omega
 subst v;have I:=(B4 l).length_eq;have U:bD [] .nil (l.map bB)=bD [] .nil ((j8 l).map bB):=tK (by grind);rw[ph];simp[go_sem,Vh,hs];unfold ud;rw[U,<-I];generalize j8 l=S at I⊢;by_cases J:S=[];·subst J;rw[bv];simp only[go_sem,simprocAttr,xh,bD];exact⟨_,rfl,.nil rfl⟩
 obtain⟨V,W⟩:=lG (H0:=[]) (w:=2) (enc:=bB) J;rw[V,W];refine ak.up (λi s=>∃e f g j k m n o,s=⟨[d,.nil,.i .i64 0,e,f,g,j,k,.mu 0 _ 0 _,.i .i64 _,.i .i64 _,d,m,bD [.ar 2 (S.map bB) none true false] .nil ((jX S i).map bB),.i .i64 i,.i .i64 _,.mu 0 _ 0 _,n,o],bH [.ar 2 _ none true false] 2 ((jX S i).map bB)⟩) S.length ⟨_,_,_,_,_,_,_,_,rfl⟩ ?_;rintro i s hi⟨e,f,g,j,k,m,n,o,rfl⟩;have c:=FF hi;by_cases E:i<S.length
 ·have p:(i:Int)<(S.length:Int):=by omega
  have a:=SL E;unfold Aw at a;by_cases y:0<(jX S i).length
  ·have t:(0:Int)<((jX S i).length:Int):=by omega
   by_cases L:S[i]!.1<=(jX S i)[(jX S i).length-1]!.2;·simp(disch:=omega)only[go_sem,simprocAttr,xh,bB,p,t,wr,a,y,L];grind[tK,SM]
   simp(disch:=omega)only[go_sem,simprocAttr,xh,bB,p,t,wr,a,y,L,nz,FG];omega
  rw[E1 (λh=>y h.1)]at a;have t:¬(0:Int)<((jX S i).length:Int):=by omega
  simp(disch:=omega)only[go_sem,simprocAttr,xh,bB,p,t,wr,a,nz,FG];omega
 have p:¬(i:Int)<S.length:=by omega
 have v:i=S.length:=by omega
 subst v;simp only[go_sem,xh,p];exact⟨_,rfl,qV rfl _ _⟩
end
section
open Go.Dm
set_option maxRecDepth 10000
def iW(p:Nat->Bool):Nat->Nat->Nat->Nat|0,i,_=>i|m+1,i,j=>if i<j then(if p ((i+j)/2)=true then iW p m i ((i+j)/2)else iW p m ((i+j)/2+1) j)else i
def gw(n:Nat)(p:Nat->Bool):Nat:=iW p n 0 n
def FH{n g:Nat}{cp:List D}{p:Nat->Bool}{H:ab}(C:n<4611686018427387904)(v:g<4294967295)(w:∀i,i<n->∀{K:CR->Prop},ac VS g (.i .i64 (i:Int)::cp) H K↔K (.ret (.b (p i)) H)){K:CR->Prop}:ac VS 76 [.i .i64 (n:Int),.fn (.func g) [] cp] H K↔K (.ret (.i .i64 (gw n p:Int)) H):=by
 refine cC (bI.iff_q.2 (.body PO rfl rfl ?_));simp[go_sem,Vu];refine ak.loop (λm s=>∃i j:Nat,∃d e f,j<=m+i/\j<=n/\iW p m i j=gw n p/\s=⟨[.i .i64 _,.fn _ [] cp,.i .i64 0,d,e,.i .i64 i,.i .i64 j,f],H⟩) n ⟨0,n,.u,.u,.u,by omega,by omega,rfl,rfl⟩ ?_;rintro m s⟨i,j,d,e,f,E,F,l,rfl⟩;by_cases x:i<j
 ·have c:(i:Int)<j:=by omega
  obtain⟨h,o⟩:∃h,h=(i+j)/2:=⟨_,rfl⟩;have q:IntKind.i64.wrap (i+j)=((i+j:Nat)):=by grind[wr]
  have r:IntKind.wrap .u64 _=((i+j:Nat)):=bG (by omega);obtain⟨k,rfl⟩:∃k,m=k+1:=⟨m-1,by omega⟩;unfold iW at l;obtain⟨S,y⟩:∃S,S=i+j:=⟨_,rfl⟩;rw[<-y]at q r o;have t:bin .shr _ (.i .u64 1)=some (.i .u64 ((S/2:Nat))):=eE (by decide);rw[<-o]at t;have z:IntKind.i64.wrap _=h:=wr (by omega) (by omega);have G:IntKind.i64.wrap (h+1)=((h+1:Nat)):=by grind[wr]
  have A:=λ{K:CR->Prop}=>w h (by omega) (K:=K);have B:=λ{args H K}=>gP (V:=VS) (H:=H) (args:=args) (K:=K) (a:=[]) (b:=cp) v;simp[go_sem,Bh,c,q,r,z,t,B,A];grind
 have c:¬(i:Int)<j:=by omega
 have:i=gw n p:=by rw[<-l];cases m<;>simp[iW,x]
 simp[go_sem,Bh,c];omega
def FI{p:Nat->Bool}{n:Nat}:∀{m i j:Nat},j<=m+i->j<=n->i<=j->(j<n->p j=true)->(0<i->p (i-1)=false)->iW p m i j<=n/\(iW p m i j<n->p (iW p m i j)=true)/\(0<iW p m i j->p (iW p m i j-1)=false)
 |0,i,j,f,a,g,b,d=>by
  have:i=j:=by omega
  subst this;exact⟨a,b,d⟩|m+1,i,j,f,a,g,b,d=>by
  unfold iW;by_cases c:i<j
  ·rw[G1 c];split;·rename_i e;exact FI (by omega) (by omega) (by omega) (λ_=>e) d
   rename_i e;exact FI (by omega) a (by omega) b (λ_=>by grind)
  grind
def SN{n:Nat}{p:Nat->Bool}:gw n p<=n/\(gw n p<n->p (gw n p)=true)/\(0<gw n p->p (gw n p-1)=false):=FI (by omega) (Hk _) (AAs _) (λh=>absurd h (AAp _)) (λh=>absurd h (AAp _))
def SO(s:aB):Int×Int:=(s.frm,s.to)
def jY(l:List aB):List (Int×Int):=ud (l.map SO)
def Ax:∀{l:List aB},ci l=true->∀s∈l,fk s=true
 |[],_,s,hs=>by cases hs|[t],h,s,hs=>by rw[kz.1 hs];exact h|t::u::l,h,s,hs=>by
  have a:(fk t&&fI t u&&ci _)=true:=h;simp[D0]at a;rcases dA.1 hs with rfl|hs;·grind
  exact Ax a.2 s hs
def akU{l:List SV}{x:D}(h:Sl 8 (l.map SV.c) x)(A:l.length<1000000)(hr:ci (l.map SV.n)=true):∃q,ai VS 284 [x] q/\Sl 2 ((jY (l.map SV.n)).map bB) q:=by
 have g:=λ{H K}=>(Aa h (by omega)).c (H:=H) (K:=K) wi rfl (by simp[h.pl]) (.inl rfl);rw[hr]at g;have u:∀s∈l.map λs=>(s.frm,s.to),0<=s.1/\s.1<s.2/\s.2<=65536:=λs hs=>by obtain⟨t,a,rfl⟩:=f0.1 hs;exact gA (Ax hr _ (n4 a))
 have v:jY (l.map SV.n)=ud (l.map λs=>(s.frm,s.to)):=by unfold jY;rw[AAf];rfl
 refine aE.ex (.body QS rfl ?_);simp only[go_sem,aqd,h.n,g];refine⟨by omega,ak.up (λi s=>∃b j k m n o,b.length=l.length/\b.take i=(l.take i).map (λs=>(s.frm,s.to))/\s=⟨[x,.nil,j,k,.i .i64 i,.i .i64 l.length,x,.mu 0 l.length 0 l.length,m,n,o],[.ar 2 (b.map bB) (some l.length) true false]⟩) l.length ⟨List.replicate l.length (0,0),_,_,_,_,_,by simp,by simp,by rw[ABj];rfl⟩ ?_⟩;rintro i s hi⟨b,j,k,m,n,o,e,a,rfl⟩;by_cases d:i<l.length
 ·have f:(i:Int)<l.length:=by omega
  obtain⟨z,p⟩:∃z,z=l[i]!:=⟨_,rfl⟩;simp(disch:=omega)only[go_sem,simprocAttr,Xd,f,h.q,<-p,SV.c,wr,e,SM,bB];refine⟨by omega,by omega,d,d,b.set i _,by grind,?_,rfl⟩;rw[pv,pv,AAh (Hk _),a,hI,N1 (by omega),E2 d,p,K0 l i d];rfl
 have w:i=l.length:=by omega
 subst w;have f:¬(l.length:Int)<l.length:=by omega
 rw[<-e,ph,e,ph]at a;subst a;obtain⟨q,y,r⟩:=akT .im (by omega) u;simp only[go_sem,Xd,f];refine ac.fzr PG rfl rfl y ⟨[.ar 2 ((l.map λs=>(s.frm,s.to)).map bB) (some l.length) true true],?_⟩ λB=>?_;·show aX 12 _ _=_;rw[gK,gJ];simp[Dm.aK,k9,E4]
 simp[go_sem,v];exact⟨_,lF r.flat,r⟩
def Ay(set:List (Int×Int))(a b:Int):Bool:=decide (gw set.length (λi=>decide (a<set[i]!.2))<set.length/\set[gw set.length λi=>decide (a<set[i]!.2)]!.1<=a/\b<=set[gw set.length λi=>decide (a<set[i]!.2)]!.2)
def akV{l:List (Int×Int)}{x:D}{d:Int}(a:Sl 2 (l.map bB) x){i p q:Nat}(hi:i<l.length){H:ab}(c:H[p]?=some (.hb 75 [x]))(e:H[q]?=some (.hb 3 [.i .i64 d])){K:CR->Prop}:ac VS 307 [.i .i64 (i:Int),.hp p 0,.hp q 0] H K↔K (.ret (.b (decide (d<l[i]!.2))) H):=by
 have f:(i:Int)<(l.length:Int):=by omega
 have g:=λ{V dr os keep h j Q m H n k o}=>a.q (V:=V) (dr:=dr) (os:=os) (keep:=keep) (loc:=h) (sl:=j) (Q:=Q) (sl':=m) (H:=H) (H':=n) (k:=k) (x:=o);refine cC (bI.iff_q.2 (.body ahk rfl rfl ?_));simp only[go_sem,simprocAttr,aqr,c,e,g,f,bB];exact⟨aw c,a.under _,by omega,aw e⟩
def akW{l:List (Int×Int)}{x:D}{a b:Int}(c:Sl 2 (l.map bB) x)(o:l.length<1000000000):ai VS 285 [x,.i .i64 a,.i .i64 b] (.b (Ay l a b)):=by
 have hs:=λ{K}=>FH (g:=307) (cp:=[.hp 0 0,.hp 1 0]) (H:=[.hb 75 [x],.hb 3 [.i .i64 a]]) (K:=K) (by omega) (by decide) (λi hi K=>akV c hi rfl rfl);have e:=c.c1;have h:=λb=>c.under b;refine .body QT rfl ?_;unfold Ay;obtain⟨k,n⟩:∃k,k=gw l.length λi=>decide (a<l[i]!.2):=⟨_,rfl⟩;rw[<-n]at hs⊢;obtain⟨z,j⟩:∃z,z=l[k]!:=⟨_,rfl⟩;by_cases f:k<l.length
 ·have d:(k:Int)<l.length:=by omega
  by_cases m:z.1<=a;·simp only[go_sem,simprocAttr,K4,e,c.n,c.q,hs,d,m,bB,<-j,h,f];simp
  simp only[go_sem,simprocAttr,K4,e,c.n,c.q,hs,d,m,bB,<-j,h,f];simp
 have d:¬(k:Int)<l.length:=by omega
 simp only[go_sem,simprocAttr,K4,e,c.n,hs,d,f];simp
end
section
open Go.Dm
set_option maxRecDepth 10000
def mD(l:List aB)(a:Int):Nat:=gw l.length λi=>decide (a<l[i]!.to)
def nQ(l:List aB)(b:Int):Nat:=gw l.length λi=>decide (b<=l[i]!.frm)
def Az(l:List aB)(a b:Int):EQ:=match A1 ((l.drop (mD l a)).take (nQ l b-mD l a)) a b with|.error e=>.error e|.ok q=>Ud q (b-a,1)
def SQ:∀{l:List aB}{i:Nat},ci l=true->i+1<l.length->l[i]!.to<=l[i+1]!.frm|[],i,_,h=>by grind|[t],i,_,h=>by grind|t::u::l,i,h,hi=>by have a:(fk t&&fI t u&&ci _)=true:=h;simp[D0]at a;cases i with|zero=>exact(gA a.1.2).1|succ i=>exact SQ (l:=u::l) a.2 (by grind)
variable{x y:Nat}
def SR{l:List aB}(h:ci l=true):∀{j:Nat},x<=j->j<l.length->l[x]!.frm<=l[j]!.frm
 |0,d,_=>by grind|j+1,d,f=>by
  by_cases e:x=j+1;·grind
  have a:=SR h (show x<=j by omega) (by omega);have b:=SQ h f;have c:=gA (Ax h l[j]! (by grind));omega
def akX{l:List aB}(h:ci l=true){a b:Int}(j:a<b):mD l a<=nQ l b/\nQ l b<=l.length:=by obtain⟨f,g,d⟩:=SN (n:=l.length) (p:=λi=>decide (a<l[i]!.to));obtain⟨g1,e,k⟩:=SN (n:=l.length) (p:=λi=>decide (b<=l[i]!.frm));change mD l a<=_ at f;change _->_=_ at g;change(0<mD l a)->decide (a<l[mD l a-1]!.to)=false at d;change nQ l b<=_ at g1;change(nQ l b<_)->decide (b<=l[nQ l b]!.frm)=true at e;refine⟨ga λm=>?_,g1⟩;have o:=of_decide_eq_false (d (by omega));have q:=gA (e (by omega));have r:=SR h (show nQ l b<=mD l a-1 by omega) (by omega);have c:=gA (Ax h l[mD l a-1]! (by grind));omega
def akY{l:List SV}{x:D}{d:Int}(a:Sl 8 (l.map SV.c) x){p q:Nat}(hi:y<l.length){H:ab}(c:H[p]?=some (.hb 231 [x]))(e:H[q]?=some (.hb 3 [.i .i64 d])){K:CR->Prop}:ac VS 286 [.i .i64 (y:Int),.hp p 0,.hp q 0] H K↔K (.ret (.b (decide (d<l[y]!.to))) H):=by
 have f:(y:Int)<(l.length:Int):=by omega
 have g:=λ{V dr os keep h i Q j H m k n}=>a.q (V:=V) (dr:=dr) (os:=os) (keep:=keep) (loc:=h) (sl:=i) (Q:=Q) (sl':=j) (H:=H) (H':=m) (k:=k) (x:=n);refine cC (bI.iff_q.2 (.body ahd rfl rfl ?_));simp only[go_sem,simprocAttr,aqe,c,e,g,f,SV.c];exact⟨aw c,a.under _,by omega,aw e⟩
def akZ{l:List SV}{x:D}{d:Int}(a:Sl 8 (l.map SV.c) x){p q:Nat}(hi:y<l.length){H:ab}(c:H[p]?=some (.hb 231 [x]))(e:H[q]?=some (.hb 3 [.i .i64 d])){K:CR->Prop}:ac VS 287 [.i .i64 (y:Int),.hp p 0,.hp q 0] H K↔K (.ret (.b (decide (d<=l[y]!.frm))) H):=by
 have f:(y:Int)<(l.length:Int):=by omega
 have g:=λ{V dr os keep h i Q j H m k n}=>a.q (V:=V) (dr:=dr) (os:=os) (keep:=keep) (loc:=h) (sl:=i) (Q:=Q) (sl':=j) (H:=H) (H':=m) (k:=k) (x:=n);refine cC (bI.iff_q.2 (.body ahe rfl rfl ?_));simp only[go_sem,simprocAttr,aqf,c,e,g,f,SV.c];exact⟨aw c,a.under _,by omega,aw e⟩
def SS{l:List SV}(hi:x<l.length):(l.map SV.n)[x]! =l[x]!.n:=by grind
def ST{n:Nat}{p q:Nat->Bool}(h:∀i,i<n->p i=q i):gw n p=gw n q:=by
 have:∀m i j,j<=n->iW p m i j=iW q m i j:=by intro m;induction m<;>grind[iW]
 exact this _ _ _ (Hk _)
def ak0{l:List SV}{x:D}{a b:Int}(c:Sl 8 (l.map SV.c) x)(M:l.length<1000000)(hr:ci (l.map SV.n)=true)(C:a<b)(N:-10000000<=a/\b<=10000000):∃r,ai VS 241 [x,.i .i64 a,.i .i64 b] r/\ba (Az (l.map SV.n) a b) r:=by
 have m:=c.c1;obtain⟨i,hi⟩:∃i,i=mD (l.map SV.n) a:=⟨_,rfl⟩;obtain⟨j,w⟩:∃j,j=nQ (l.map SV.n) b:=⟨_,rfl⟩;obtain⟨P,Q⟩:=akX hr C;have d:=λ{K}=>FH (g:=286) (cp:=[.hp 0 0,.hp 1 0]) (H:=[.hb 231 [x],.hb 3 [.i .i64 a],.hb 3 [.i .i64 b]]) (K:=K) (by omega) (by decide) (λi hi K=>akY c hi rfl rfl);have f:=λ{K}=>FH (g:=287) (cp:=[.hp 0 0,.hp 2 0]) (H:=[.hb 231 [x],.hb 3 [.i .i64 a],.hb 3 [.i .i64 b]]) (K:=K) (by omega) (by decide) (λi hi K=>akZ c hi rfl rfl);have t1:(gw l.length λi=>decide (a<l[i]!.to))=i:=by rw[hi];unfold mD;rw[S2];exact ST λk o=>by rw[SS o];rfl
 have E:(gw l.length λi=>decide (b<=l[i]!.frm))=j:=by rw[w];unfold nQ;rw[S2];exact ST λk o=>by rw[SS o];rfl
 rw[t1]at d;rw[E]at f;have F:db (some (.i .i64 i)) (some (.i .i64 j)) l.length l.length=some (i,j):=by grind[db,gM,fw]
 have q:=λ{H}=>c.sD (H:=H) F;obtain⟨r,r1,r2⟩:=Rl (a:=a) (b:=b) (c.slM i j) (by grind);have s:=λ{H K}=>r1.c (H:=H) (K:=K) q9 rfl (by simp[(c.slM i j).pl,aV]) (.inl rfl);rw[ABM,List.map_drop]at r2;have y:IntKind.i64.wrap _=b-a:=wr (by omega) (by omega);obtain⟨z,z1,z2⟩:=QV.int (n:=b-a) (by omega);unfold Az;rw[<-hi,<-w];refine aE.ex (.body Qx rfl ?_);rcases r2.h with⟨p,u,rfl⟩|⟨e,u,A,rfl⟩
 ·rw[u];obtain⟨v,h,B⟩:=p.div z (by grind);rw[z1]at h;rcases h.h with⟨t,t1,rfl⟩|⟨e,t1,S,rfl⟩;·obtain⟨g1,G,I,J⟩:=t.fl;simp[go_sem,simprocAttr,Kj,m,c.n,d,f,q,s,y,z2,B,ah g1,ah G,ah I,ah J];exact⟨c.under _,h⟩
  simp[go_sem,simprocAttr,Kj,m,c.n,d,f,q,s,y,z2,B];exact⟨c.under _,h⟩
 rw[u];have L:¬e=0:=A;simp[go_sem,simprocAttr,Kj,m,c.n,d,f,q,s,L];exact⟨c.under _,⟨.inr ⟨e,rfl,A,rfl⟩⟩⟩
end
section
open Go.Dm
set_option maxRecDepth 10000
def AA(m:Nat):Int×Int:=if m<2154 then(bM m,0)else(0,2)
def SU(m:Nat){H:ab}{K:CR->Prop}:ac VS 139 [.i .i64 m] H K↔K (.ret (.tu [.i .i64 (AA m).1,.i .i64 (AA m).2]) H):=by
 refine ai.c (.body zJ rfl ?_) zJ rfl rfl (.inl rfl);have e:¬(m:Int)<0:=by omega
 unfold AA;by_cases b:m<2154
 ·have a:¬2154<=(m:Int):=by omega
  have d:=λ{H K}=>(rh (m:=m) (by omega)).c (H:=H) (K:=K) o6 rfl rfl (.inl rfl);rw[G1 b];simp[go_sem,xj,a,d]
 have a:2154<=(m:Int):=by omega
 rw[E1 b];simp[go_sem,xj,a]
def SW{m:Nat}:∀{n:Nat},m+n<2159->0<n->bM m<bM (m+n)
 |n+1,h,_=>by
  have a:bM (m+n)<bM (m+n+1):=by
   have:∀k,k<2160->bM k<bM (k+1):=by decide+kernel
   grind
  rcases wN n with rfl|b;·exact a
  have:=SW (m:=m) (by omega) b;grind
section
variable(set:List (Int×Int))(l:List aB)(a b:Int)(n:Nat)
def wL(m:Nat):Bool:=decide (a<=bM m/\bM (m+n)<=b)&&Ay set (bM m) (bM (m+n))
def SX(o:Option Fq)(q:Fq):Fq:=match o with|none=>q|some p=>if p.1*q.2<q.1*p.2 then q else p
def nR:Nat->Nat->Option Fq->EQ
 |0,_,o=>match o with|none=>.error 6|some q=>.ok q
 |k+1,m,o=>if m+n<2154 then(if wL set a b n m=true then(match Az l (bM m) (bM (m+n))with|.error e=>.error e|.ok q=>nR k (m+1) (some (SX o q)))else nR k (m+1) o)else match o with|none=>.error 6|some q=>.ok q
end
def AC(l:List aB)(a b n:Int):EQ:=if(rL l&&py a b&&decide (1<=n/\n<=1200))=true then nR (jY l) l a b n.toNat 2155 0 none else .error 2
def ak1{l:List SV}{x:D}(L:Sl 8 (l.map SV.c) x)(hl:l.length<1000000)(hr:ci (l.map SV.n)=true)(ae:(jY (l.map SV.n)).length<1000000000){a b:Int}{n F c:Nat}(hn:1<=n/\n<=1200){I:Nat->ab->Prop}{E:ab->Prop}(M:∀m H,I m H->H[c]?=some (.hb 231 [x])/\H[c+1]?=some (.hb 3 [.i .i64 a])/\H[c+2]?=some (.hb 3 [.i .i64 b])/\H[c+3]?=some (.hb 3 [.i .i64 n]))(e:∀m H,I m H->m+n<2154->wL (jY (l.map SV.n)) a b n m=false->I (m+1) H)(y:∀m H,I m H->¬m+n<2154->E H)(hs:∀m H,I m H->m+n<2154->wL (jY (l.map SV.n)) a b n m=true->ac VS yF [.yl F,.ag [.i .i64 m,.i .i64 (bM m),.i .i64 (bM (m+n))]] H (λr=>∃h,(r=.ret (.b true) h/\I (m+1) h)\/(r=.ret (.b false) h/\E h))){H:ab}(N:I 0 H):ac VS 283 [.yl F,.hp c 0,.hp (c+3) 0,.hp (c+1) 0,.hp (c+2) 0] H (λr=>∃d h,r=.ret d h/\E h):=by
 obtain⟨q,q1,P⟩:=akU L hl hr;have e0:=λ{H K}=>q1.c (H:=H) (K:=K) QS rfl (by simp[L.pl]) (.inl rfl);obtain⟨Q,u,z,j⟩:=M _ _ N;refine .body ahc rfl rfl ?_;simp[go_sem,aqc,Q,e0];refine ak.loop (λk s=>∃(m:Nat)(S U V W X Y Z:D)(H:ab),k+m=2155/\I m H/\s=⟨[.yl F,.hp c 0,.hp _ 0,.hp _ 0,.hp _ 0,S,U,V,.i .i64 m,W,X,Y,Z,q],H⟩) 2155 ⟨0,_,_,_,_,_,_,_,H,rfl,N,rfl⟩ ?_;rintro k s⟨m,S,U,V,W,X,Y,Z,H,hm,A,rfl⟩;obtain⟨Q,u,z,j⟩:=M _ _ A;have w:=hs _ _ A;have e:=e _ _ A;have y:=y _ _ A;unfold wL at w e;obtain⟨p,hp⟩:∃p,p=m+n:=⟨_,rfl⟩;rw[<-hp]at w e y;have t:IntKind.i64.wrap (m+n)=p:=by rw[wr (by omega) (by omega)];omega
 have B:IntKind.i64.wrap _=m+1:=wr (by omega) (by omega);have f:=λ{H K}=>SU m (H:=H) (K:=K);have g:=λ{H K}=>SU p (H:=H) (K:=K);unfold AA at f g;by_cases o:p<2154
 ·have G:=λ{H K}=>(akW (a:=bM m) (b:=bM p) P ae).c (H:=H) (K:=K) QT rfl (by simp[P.pl,aV]) (.inl rfl);rw[G1 o]at g;generalize Ay _ _ _=v at G w e;by_cases g1:bM m<a;·rw[R1 (by omega)]at e;simp(disch:=omega)only[go_sem,uw,f,g,t,B,u,j,g1];exact⟨k-1,by omega,m+1,by omega,_,_,_,_,_,_,_,_,e o rfl,⟨rfl,rfl,rfl,by omega,rfl,rfl,rfl,rfl⟩,rfl⟩
  by_cases J:b<bM p;·rw[R1 (by omega)]at e;simp(disch:=omega)only[go_sem,uw,f,g,t,B,u,z,j,g1,J];exact⟨k-1,by omega,m+1,by omega,_,_,_,_,_,_,_,_,e o rfl,⟨rfl,rfl,rfl,by omega,rfl,rfl,rfl,rfl⟩,rfl⟩
  rw[R2 (by omega)]at e w;cases v with|false=>simp(disch:=omega)only[go_sem,uw,f,g,G,t,B,u,z,j,g1,J];exact⟨k-1,by omega,m+1,by omega,_,_,_,_,_,_,_,_,e o rfl,⟨rfl,rfl,rfl,by omega,rfl,rfl,rfl,rfl⟩,rfl⟩|true=>
  simp(disch:=omega)only[go_sem,simprocAttr,uw,f,g,G,t,u,z,j,g1,J];refine(w o rfl).mono ?_;rintro r⟨H2,⟨rfl,aj⟩|⟨rfl,C⟩⟩;·simp only[go_sem,B];exact⟨k-1,by omega,m+1,by omega,_,_,_,_,_,_,_,_,aj,⟨rfl,rfl,rfl,by omega,rfl,rfl,rfl,rfl⟩,rfl⟩
  simp[go_sem];exact⟨_,_,⟨rfl,rfl⟩,C⟩
 rw[E1 o]at g;have C:=y o;by_cases c2:m<2154;·rw[G1 c2]at f;simp[go_sem,simprocAttr,uw,f,g,t,j];exact⟨_,_,⟨rfl,rfl⟩,C⟩
 rw[E1 c2]at f;simp[go_sem,simprocAttr,uw,f,g,t,j];exact⟨_,_,⟨rfl,rfl⟩,C⟩
end
section
open Go.Dm
set_option maxRecDepth 10000
def ak2{l:List SV}{x:D}(a:Sl 8 (l.map SV.c) x)(d:l.length<1000000)(hr:ci (l.map SV.n)=true){m n:Nat}(f:0<n)(h:m+n<2154):∃r,ba (Az (l.map SV.n) (bM m) (bM (m+n))) r/\∀{k p:Nat}{H:ab}{K:CR->Prop},H[p]?=some (.hb 231 [x])->(ac VS 240 [.ag [.i .i64 k,.i .i64 (bM m),.i .i64 (bM (m+n))],.hp p 0] H K↔K (.ret r H)):=by
 have j:=zV (m:=m) (by omega);have o:=zV (m:=m+n) (by omega);obtain⟨r,r1,r2⟩:=ak0 a d hr (SW (m:=m) (by omega) f) (by omega);have b:=λ{H K}=>r1.c (H:=H) (K:=K) Qx rfl (by simp[a.pl,aV]) (.inl rfl);refine⟨r,r2,λ{k p H K}c=>cC (bI.iff_q.2 (.body ag2 rfl rfl ?_))⟩;rcases r2.h with⟨q,g,rfl⟩|⟨e,g,s,rfl⟩;·simp[go_sem,simprocAttr,WN,c,b]
 simp[go_sem,simprocAttr,WN,c,b]
def wB(o:Option ((Int×Int×Int)×QV)):List an:=match o with|none=>[.hb 272 [.i .i64 0,.i .i64 0,.i .i64 0],.hb 32 [.b false,.nil,.b false,.nil],.hb 4 [.b false]]|some (w,q)=>[.hb 272 [.i .i64 w.1,.i .i64 w.2.1,.i .i64 w.2.2],.hb 32 q.c,.hb 4 [.b true]]
def bsH(x:D)(a b:Int)(n:Nat)(e:Int)(o:Option ((Int×Int×Int)×QV))(s:RS)(X:ab):ab:=.hb 231 [x]::.hb 231 [x]::.hb 3 [.i .i64 a]::.hb 3 [.i .i64 b]::.hb 3 [.i .i64 n]::.hb 322 [.fn (.func 240) [] [.hp 0 0]]::.hb 272 [.i .i64 0,.i .i64 0,.i .i64 0]::.hb 32 [.b false,.nil,.b false,.nil]::.hb 45 [.i .i64 e]::.hb 272 [.i .i64 0,.i .i64 0,.i .i64 0]::(wB o++.df::.yh r3.f r3.path 3 r3.nt r3.tm [.fn (.func 283) [] [.hp 1 0,.hp 4 0,.hp 2 0,.hp 3 0],.fn (.func 240) [] [.hp 0 0],.hp 6 0,.hp 7 0,.hp 8 0,.fn (.func 283) [] [.hp 1 0,.hp 4 0,.hp 2 0,.hp 3 0],.u,.u,.u,.u,.hp 5 0,.u,.u,.hp 9 0,.hp 12 0,.u,.hp 11 0,.hp 10 0] s::X)
structure FJ(l:List aB)(x:D)(a b:Int)(n:Nat)(R:EQ)(m:Nat)(G:ab):Prop where h:∃(o:Option ((Int×Int×Int)×QV))(X:ab),m<=2155/\nR (jY l) l a b n (2155-m) m (o.map λp=>p.2.q)=R/\G=bsH x a b n 0 o .rd X
structure BsE(l:List aB)(x:D)(a b:Int)(n:Nat)(R:EQ)(G:ab):Prop where h:(∃(o:Option ((Int×Int×Int)×QV))(X:ab),(R=match o with|none=>.error 6|some p=>.ok p.2.q)/\G=bsH x a b n 0 o .rd X)\/(∃(o:Option ((Int×Int×Int)×QV))(e:Int)(X:ab),e≠0/\R=.error e/\G=bsH x a b n e o .dr X)
def ak4{l:List SV}{x:D}(A:Sl 8 (l.map SV.c) x)(B:l.length<1000000)(hr:ci (l.map SV.n)=true){a b:Int}{n m:Nat}{R:EQ}{G:ab}(C:0<n)(E:FJ (l.map SV.n) x a b n R m G)(t:m+n<2154)(F:wL (jY (l.map SV.n)) a b n m=true):ac VS yF [.yl 14,.ag [.i .i64 m,.i .i64 (bM m),.i .i64 (bM (m+n))]] G (λr=>∃j,(r=.ret (.b true) j/\FJ (l.map SV.n) x a b n R (m+1) j)\/(r=.ret (.b false) j/\BsE (l.map SV.n) x a b n R j)):=by
 obtain⟨o,X,I,d,rfl⟩:=E.h;obtain⟨r,u,v⟩:=ak2 A B hr C t;rw[show 2155-m=(2154-m)+1 by omega]at d;unfold nR at d;rw[G1 t,G1 F]at d;have y:=λ{args H K}=>gP (V:=VS) (H:=H) (args:=args) (K:=K) (f:=240) (a:=[]) (b:=[.hp 0 0]) (by decide)
 cases o with|none=>
 unfold bsH wB;refine ac.round tR rfl EA ⟨rfl,rfl,rfl,rfl,rfl⟩ ?_;simp(disch:=omega)only[go_sem,WM,gl];refine⟨_,_,_,_,_,_,rfl,?_⟩;rw[y];simp[T1,W0];rw[v rfl];rcases u.h with⟨q,g,rfl⟩|⟨e,g,h,rfl⟩;·simp only[go_sem,simprocAttr,wq];simp only[ve,af.writes,D.blk,D.under,D.over,Bs.un,Bs.ov,simprocAttr,AAu,AB7,ABd,ABe,T1,W0];rw[g]at d;exact⟨by simp,by simp,rfl,rfl,rfl,_,_,_,_,_,_,rfl,_,.inl ⟨rfl,some ((m,bM m,bM _),q),_,by omega,by rw[show 2155-(m+1)=2154-m by omega];exact d,rfl⟩⟩
 have k:¬e=0:=h;simp only[go_sem,k];exact⟨_,_,_,_,_,_,rfl,_,.inr ⟨rfl,⟨.inr ⟨none,e,_,h,by rw[<-d,g],rfl⟩⟩⟩⟩|some p=>
 obtain⟨w,p⟩:=p;unfold bsH wB QV.c;refine ac.round tR rfl EA ⟨rfl,rfl,rfl,rfl,rfl⟩ ?_;simp(disch:=omega)only[go_sem,WM,gl];refine⟨_,_,_,_,_,_,rfl,?_⟩;rw[y];simp[T1,W0];rw[v rfl];rcases u.h with⟨q,g,rfl⟩|⟨e,g,h,rfl⟩
 ·have z:=λ{H K}=>q.cmp p (H:=H) (K:=K);rw[g]at d;simp only[ef,SX]at d;by_cases c:p.q.1*q.q.2<q.q.1*p.q.2
  ·have s:0<cP (q.q.1*p.q.2) (p.q.1*q.q.2):=by rw[EO];exact c
   rw[G1 c]at d;simp only[go_sem,simprocAttr,z,s];simp only[ve,af.writes,D.blk,D.under,D.over,Bs.un,Bs.ov,simprocAttr,AAu,AB7,ABd,ABe,T1,W0];exact⟨by simp,by simp,rfl,rfl,rfl,_,_,_,_,_,_,rfl,_,.inl ⟨rfl,some ((m,bM m,bM _),q),_,by omega,by rw[show 2155-(m+1)=2154-m by omega];exact d,rfl⟩⟩
  have s:¬0<cP (q.q.1*p.q.2) (p.q.1*q.q.2):=by rw[EO];exact c
  rw[E1 c]at d;simp only[go_sem,z,s];exact⟨_,_,_,_,_,_,rfl,_,.inl ⟨rfl,some (w,p),_,by omega,by rw[show 2155-(m+1)=2154-m by omega];exact d,rfl⟩⟩
 have k:¬e=0:=h;simp only[go_sem,k];exact⟨_,_,_,_,_,_,rfl,_,.inr ⟨rfl,⟨.inr ⟨some (w,p),e,_,h,by rw[<-d,g],rfl⟩⟩⟩⟩
variable{x y z a b c:D}
def ba.fl{r:EQ}{p t:D}{e:Int}(h:ba r (.tu [.ag [p,x,y,t],.i .i64 e])):p.flat=true/\x.flat=true/\y.flat=true/\t.flat=true:=by
 rcases h.h with⟨z,_,z2⟩|⟨a,_,_,z2⟩;·cases z2;exact z.fl
 cases z2;exact⟨rfl,rfl,rfl,rfl⟩
variable{d e f:Nat}
def FK{H:ab}{g:List D}{p t h:D}{b:Nat}{K:CR->Prop}(i:H[6]?=some (.hb d [x,y,z]))(j:H[7]?=some (.hb e [p,a,c,t]))(k:H[8]?=some (.hb f [h]))(l:g[2]?=some (.hp 6 0))(m:g[3]?=some (.hp 7 0))(n:g[4]?=some (.hp 8 0))(o:∀H,K (.ret (.tu [.ag [x,y,z],.ag [p,a,c,t],h]) H)):lH [.hb 2 3 true,.hb 3 4 true,.hb 4 1 false] b K .rt ⟨g,H⟩:=by
 have q:=wt (base:=b) i;have r:=wt (base:=b) j;have s:=wt (base:=b) k;rw[Pk];generalize dJ b H=U at*;have a:cW ⟨g,U⟩ [.hb 2 3 true,.hb 3 4 true,.hb 4 1 false]=some [.ag [x,y,z],.ag [p,a,c,t],h]:=by simp[cU.ev,cN,l,m,n,q,r,s,cW,val];rfl
 exact⟨_,a,o _⟩
def ak5{l:List SV}{x:D}(k:Sl 8 (l.map SV.c) x)(u:l.length<1000000)(hr:ci (l.map SV.n)=true)(v:(jY (l.map SV.n)).length<1000000000){a b:Int}{n:Nat}(y:1<=n/\n<=1200):ac VS 238 [.fn (.func 283) [] [.hp 1 0,.hp 4 0,.hp 2 0,.hp 3 0],.fn (.func 240) [] [.hp 0 0]] [.hb 231 [x],.hb 231 [x],.hb 3 [.i .i64 a],.hb 3 [.i .i64 b],.hb 3 [.i .i64 n]] (λr=>∃(w:Int×Int×Int)(p q s t:D)(e:Int)(H:ab),r=.ret (.tu [.ag [.i .i64 w.1,.i .i64 w.2.1,.i .i64 w.2.2],.ag [p,q,s,t],.i .i64 e]) H/\ba (nR (jY (l.map SV.n)) (l.map SV.n) a b n 2155 0 none) (.tu [.ag [p,q,s,t],.i .i64 e])):=by
 refine ac.bodyR ag0 rfl rfl rfl ?_;generalize h:lH _ _ _=Q;simp[go_sem,simprocAttr,apN];rw[vW EA rfl (by decide)];refine(ak1 k u hr v y (I:=FJ _ x a b n (nR _ _ a b n 2155 0 none)) ?_ ?_ ?_ (λm H f g j=>ak4 k u hr (by omega) f g j) ⟨none,[],by omega,rfl,rfl⟩).mono ?_;·intro m H f;obtain⟨o,X,_,_,rfl⟩:=f.h;exact⟨rfl,rfl,rfl,rfl⟩
 ·intro m H f g j;obtain⟨o,X,z,c,rfl⟩:=f.h;rw[show 2155-m=(2154-m)+1 by omega]at c;unfold nR at c;rw[G1 g,E1 (by simp[j])]at c;exact⟨o,X,by omega,by rw[show 2155-(m+1)=2154-m by omega];exact c,rfl⟩
 ·intro m H f g;obtain⟨o,X,z,c,rfl⟩:=f.h;refine⟨.inl ⟨o,X,?_,rfl⟩⟩;rw[<-c];cases 2155-m<;>simp[nR,E1 g]<;>cases o<;>rfl
 rintro r⟨d,C,rfl,A⟩;rcases A.h with⟨o,X,c,rfl⟩|⟨o,e,X,B,c,rfl⟩;·cases o with|none=>unfold bsH wB;rw[tL rfl];simp[go_sem];rw[<-h];exact FK rfl rfl rfl rfl rfl rfl λH=>⟨(0,0,0),_,_,_,_,_,H,rfl,ba.er c (by decide)⟩|some p=>obtain⟨w,p⟩:=p;unfold bsH wB QV.c;rw[tL rfl];simp[go_sem];simp only[ve,af.writes,D.blk,D.under,D.over,Bs.un,Bs.ov,simprocAttr,AAu,AB7,ABd,ABe,T1,W0];rw[<-h];exact⟨by simp,by simp,by simp,by simp,by simp,FK rfl rfl rfl rfl rfl rfl λH=>⟨w,_,_,_,_,_,H,rfl,ba.ok c⟩⟩
 cases o<;>(rw[Pi rfl];simp[go_sem];rw[<-h];exact FK rfl rfl rfl rfl rfl rfl λH=>⟨(0,0,0),_,_,_,_,e,H,rfl,ba.er c B⟩)
def ak6{l:List SV}{x:D}(a:Sl 8 (l.map SV.c) x)(g:l.length<1000000):ai VS 282 [x] (.b (rL (l.map SV.n))):=by have d:=λ{H K}=>(Aa a (by omega)).c (H:=H) (K:=K) wi rfl (by simp[a.pl]) (.inl rfl);refine .body QR rfl ?_;unfold rL;cases hr:ci _ with|false=>rw[hr]at d;simp[go_sem,KW,d]|true=>
 rw[hr]at d;by_cases e:l=[];·subst e;simp[go_sem,KW,d,a.n]
 have h:=V2.2 e;obtain⟨s,hs⟩:∃s,s=l[0]!:=⟨_,rfl⟩;have f:¬(l.length:Int)=0:=by omega
 simp only[go_sem,simprocAttr,KW,d,a.n,a.q,f,<-hs,SV.c];refine⟨by omega,?_⟩;cases l with|nil=>grind|cons t l=>have:s=t:=hs;subst this;exact decide_eq_decide.2 (by show _↔s.a.v.k=3;omega)
def ak7{l:List SV}{x:D}(g:Sl 8 (l.map SV.c) x)(j:l.length<1000000){a b:Int}:ai VS 236 [x,.i .i64 a,.i .i64 b] (.b (rL (l.map SV.n)&&py a b)):=by have d:=λ{H K}=>(ak6 g j).c (H:=H) (K:=K) QR rfl (by simp[g.pl]) (.inl rfl);refine .body Qv rfl ?_;unfold py;generalize rL _=v at d⊢;cases v with|false=>simp[go_sem,xu,d]|true=>
 by_cases e:0<=a
 ·by_cases f:a<=65536
  ·by_cases h:0<=b;·simp[go_sem,xu,d,e,f,h];try simp
   simp only[go_sem,xu,d,e,f,h];try simp
  simp only[go_sem,xu,d,e,f];try simp
 simp only[go_sem,xu,d,e];try simp
def ak8(n:Int):ai VS 237 [.i .i64 n] (.b (decide (1<=n/\n<=1200))):=by
 refine .body Qw rfl ?_;by_cases a:1<=n;·simp[go_sem,WL,a];try simp
 simp only[go_sem,WL,a];try simp
theorem ak9:∀{l:List (Int×Int)},(ud l).length<=l.length:=by intro l;have:=FF (i:=l.length) (by rw[(B4 l).length_eq];omega);exact this
def ala{l:List SV}{x:D}(d:Sl 8 (l.map SV.c) x)(A:l.length<1000000){a b n:Int}:∃r,ai VS 159 [x,.i .i64 a,.i .i64 b,.i .i64 n] r/\ba (AC (l.map SV.n) a b n) r:=by
 have f:=λ{H K}=>(ak7 d A (a:=a) (b:=b)).c (H:=H) (K:=K) Qv rfl (by simp[d.pl,aV]) (.inl rfl);have g:=λ{H K}=>(ak8 n).c (H:=H) (K:=K) Qw rfl rfl (.inl rfl);have h:=d.c1;have C:∃r,ai VS 188 [x,.i .i64 a,.i .i64 b,.i .i64 n] r/\∃(w:Int×Int×Int)(p q s t:D)(e:Int),r=.tu [.ag [.i .i64 w.1,.i .i64 w.2.1,.i .i64 w.2.2],.ag [p,q,s,t],.i .i64 e]/\ba (AC (l.map SV.n) a b n) (.tu [.ag [p,q,s,t],.i .i64 e]):=by refine aE.ex (.body Qj rfl ?_);unfold AC;generalize J:(rL _&&py a b)=v at f⊢;cases v with|false=>simp only[go_sem,Jz,h,f];exact⟨(0,0,0),_,_,_,_,_,rfl,ba.er rfl (by decide)⟩|true=>
  by_cases B:1<=n/\n<=1200
  ·obtain⟨k,rfl⟩:=xt (show 0<=n by omega);have hr:ci (l.map SV.n)=true:=by simp_all[rL]
   rw[R2 B]at g⊢;have E:(jY (l.map SV.n)).length<1000000000:=by grind[ak9,SV.n,SO,jY]
   have F:=ak5 d A hr E (a:=a) (b:=b) (n:=k) (by omega);have m:∀{K:CR->Prop},K (.ret (.fn (.func 283) [] [.hp 1 0,.hp 4 0,.hp 2 0,.hp 3 0]) [.hb 231 [x],.hb 231 [x],.hb 3 [.i .i64 a],.hb 3 [.i .i64 b],.hb 3 [.i .i64 _]])->ac VS 239 [x,.i .i64 a,.i .i64 b,.i .i64 k] [.hb 231 [x]] K:=λ{K}G=>by refine .body ag1 rfl rfl ?_;simp[go_sem,simprocAttr,apO,h];exact G
   simp only[go_sem,Jz,h,f,g];refine m ?_;simp only[go_sem];refine F.mono ?_;rintro r⟨w,p,q,s,t,e,H,rfl,j⟩;obtain⟨o,u,y,z⟩:=j.fl;simp only[go_sem,ah o,ah u,ah y,ah z];grind
  rw[R1 B]at g⊢;simp only[go_sem,Jz,h,f,g];exact⟨(0,0,0),_,_,_,_,_,rfl,ba.er rfl (by decide)⟩
 obtain⟨_,I,w,p,q,s,t,e,rfl,j⟩:=C;have m:=λ{H K}=>I.c (H:=H) (K:=K) Qj rfl (by simp[d.pl,aV]) (.inl rfl);obtain⟨o,u,y,z⟩:=j.fl;refine aE.ex (.body Qa rfl ?_);simp[go_sem,apa,m,ah o,ah u,ah y,ah z];exact j
end
end Go.Proofs.YtekgndcflpklkaaGreatDoor.Dv
namespace Go.Dm
section
variable{z a:Mu}{x y:World}
def My{K:Kn}{H:ab}(h:HR K z H x):HR K aG [] x where
 dom:=λid l e=>by cases e
 tot:=λid h=>by grind
 blk:=λid l b e=>by cases e
 lt:=λid l e=>by cases e
 inj:=λid c l d b a e=>by cases e
 kn:=h.kn;kf:=λb o v _⟨id,l,a,e,_⟩=>by cases e
def Mz{K:Kn}{H:ab}{d g:D}{v:Value}(h:dN H d=some g)(hr:HR K z H x)(k:VR K z H d v):∃f i,HR f z i x/\Nx K z H x f z i x/\VR f aG [] g v:=by
 have one:∀{d g:D},VR K z H d v->qE H d=some g->∃f i,HR f z i x/\Nx K z H x f z i x/\VR f aG [] g v:=λ{d g}k h=>by
  unfold qE at h;split at h;·rename_i d1 H1 l;cases h;obtain⟨f,a,b,c⟩:=(sU bE).1 H H1 d g K z x v l hr k;grind
  grind
 cases d with
 |tu ds=>
 simp[dN]at h;split at h;·rename_i m H1 l;cases h;obtain⟨vs,rfl,o,p⟩:=k.tu_inv;obtain⟨f,a,b,c,e⟩:=(sU bE).2.1 ds H H1 m K z x (λj=>vs.getD j (.tuple #[])) l hr (λj d n=>by grind);refine⟨f,H1,a,b,.tu _ _ m vs (by omega) (λj d v n q=>?_)⟩;grind
 grind|_=>exact one k h
def VR.bare{K c:Kn}{H e:ab}{d:D}{v:Value}(h:VR K z H d v)(f:d.bare=true):VR c a e d v:=by cases h<;>first|exact .b ..|exact .i ..|exact .s ..|(cases f;done)
def HR.back{K f g:Kn}{i:Mu}{H j:ab}(hr:HR K z H x)(nx:Nx f aG [] x g i j y):HR K z H y/\Nx K z H x K z H y:=by
 have d:∀r,¬bT aG [] r:=λr⟨id,l,b,a,_⟩=>by cases a
 refine⟨⟨hr.dom,hr.tot,λid l b a c=>(hr.blk id l b a c).ext (.refl _ _ _) (λ_=>nx.keep _ (hr.lt id l a) (d _)),λid l a=>em (hr.lt id l a) nx.size,hr.inj,λb o v e=>?_,hr.kf⟩,⟨.refl _ _ _,nx.os,nx.tape,nx.output,nx.size,λr h _=>nx.keep r h (d _),λr h=>.inl h,λb o v e=>.inl e⟩⟩;rw[<-hr.kn b o v e];exact World.cell?_of_block (nx.keep b (hr.klt e) (d _))
def YU(K:Kn)(W:World)(q:D):Ending->World->Prop|.panicked e,b=>∃v a c d,e=qf v/\HR a c d b/\Nx K aG [] W a c d b/\VR a aG [] q v|_,_=>False
def MA{P:Program}{V:au}{T:Kn->World->Prop}(l:P.follows .mixedOrders=true)(b:cm P V T){n:Nat}(m:dI P T (call V n))(o:gI P T (call V n)){f:FuncId}{a:aH}(c:V.fn f=some a){ds:List D}{d:D}(h:iG V (call V n) n f a ds=.ret d){K:Kn}{vs:List Value}(g:T K x)(hr:HR K aG [] x)(i:aY K aG [] ds vs):Calls P f vs.toArray x (sx a.own K x d):=by
 obtain⟨fn,E,F,p,r,_,s⟩:=b.fn f a c;unfold iG at h;split at h;·rename_i d1 t;cases h;exact b.pext f ds _ a c t K x vs g hr i
 unfold mi at h;cases j:cX V (call V n) n a ds []with|bad=>grind|pan q G=>grind|ret d0 u=>
 rw[j]at h;simp at h;split at h;·rename_i d2 w;cases h;refine((yD l b m o (sQ V (λf args H d y h=>(b.ext f args H d y h).1) n) p r s g hr i).1 _ _ j).mono (λe I k=>?_);cases e with|returned v=>obtain⟨z,A,B,nx,C⟩:=k;exact⟨z,A,u,d0,B,nx,C,w⟩|_=>exact k.elim
 grind
def YV{P:Program}{V:au}{T:Kn->World->Prop}(o:P.follows .mixedOrders=true)(i:cm P V T){n:Nat}(p:dI P T (call V n))(r:gI P T (call V n)){f:FuncId}{g:aH}(s:V.fn f=some g){ds:List D}{q:D}(h:iG V (call V n) n f g ds=.pan q){K:Kn}{vs:List Value}(t:T K x)(hr:HR K aG [] x)(u:aY K aG [] ds vs):Calls P f vs.toArray x (YU K x q):=by
 obtain⟨fn,M,N,w,y,_,z⟩:=i.fn f g s;unfold iG at h;split at h;·cases h
 unfold mi at h;cases j:cX V (call V n) n g ds []with|bad=>grind|ret d0 Q=>grind|pan A B=>
 rw[j]at h;simp at h;split at h;·rename_i d2 k C;cases h;refine((yD o i p r (sQ V (λf args H d E h=>(i.ext f args H d E h).1) n) w y z t hr u).2 _ _ j).mono (λe F l=>?_);cases e with|panicked S=>obtain⟨v,G,m,rfl,I,nx,J⟩:=l;obtain⟨L,a,b,c⟩:=(sU bE).1 B k A q G m F v C I J;exact⟨v,L,m,k,rfl,a,nx.trans b,c⟩|_=>exact l.elim
 grind
theorem MC{P:Program}{V:au}{T:Kn->World->Prop}(u:P.follows .mixedOrders=true)(a:cm P V T):∀n,dI P T (call V n)/\gI P T (call V n):=by intro n;induction n with|zero=>exact⟨λf args H d i h=>(by cases h),λf args H d i h=>(by cases h)⟩|succ n m=>
 obtain⟨m,w⟩:=m;have Z:∀{args ds:List D}{H H1:ab}{K:Kn}{μ:Mu}{W:World}{vs:List Value},aX bE H args=some _->HR K μ H W->aY K μ H args vs->∃o,HR o μ H1 W/\Nx K μ H W o μ H1 W/\aY o aG [] ds vs:=λ{args ds H H1 K μ W vs}x hr g=>by
  have hg:∀(j:Nat)(d:D),args[j]?=some d->VR K μ H d (vs.getD j (.tuple #[])):=λj d e=>by
   have ar:j<vs.length:=by rw[<-g.1];grind
   exact g.2 j d _ e (by grind)
  obtain⟨o,k,l,ag,av⟩:=(sU bE).2.1 args H H1 ds K μ W _ x hr hg;exact⟨o,k,l,by rw[ag,g.1],λj d v e e'=>by grind⟩
 refine⟨λf args H d i h=>?_,λf args H q i h=>?_⟩;·cases b:V.fn f with
 |none=>
  simp[call,b]at h;split at h;·rename_i F;exact⟨λhn=>absurd F hn,λ_=>aaX u a m w (sQ V (λf args H d i h=>(a.ext f args H d i h).1) n) h⟩
  rename_i F;refine⟨λ_=>?_,λe=>absurd e F⟩;split at h;·rename_i p;cases h;exact(a.ext _ _ _ _ _ p).2
  grind|some c=>
  obtain⟨fn,tm,bs,r,G,_,I⟩:=a.fn f c b;refine⟨λ_=>⟨a.known b,λK μ W vs s hr g=>?_⟩,λe=>(by rw[e,a.nyf]at r;cases r)⟩
  cases y:c.pure with|false=>
  simp[call,b,y]at h;split at h;·rename_i d1 H1 p;cases h;exact(a.ext f args H _ _ p).2.2 K μ W vs s hr g
  exact(yD u a m w (sQ V (λf args H d i h=>(a.ext f args H d i h).1) n) r G I s hr g).1 _ _ h|true=>
  simp[call,b,y]at h;split at h;·cases h
  rename_i ds H1 x;obtain⟨o,k,l,J⟩:=Z x hr g;split at h;·rename_i d1 p;cases h;refine(MA u a m w b p (a.up s hr l) (My k) J).mono (λe L z=>?_);cases e with
 |returned v=>
 obtain⟨M,ak,Hc,d0,C,nx,E,t⟩:=z;have aa:∃A N,HR A N (dV c.own d1 H1).2 L/\Nx K μ H W A N (dV c.own d1 H1).2 L/\VR A N (dV c.own d1 H1).2 (dV c.own d1 H1).1 v:=by cases ac:c.own with
 |true=>
 rw[ac]at t;simp only[m7]at t;split at t;·rename_i am;obtain⟨an,Q,S,U⟩:=aaK C nx k d0 d1 v E t am;exact⟨M,an,Q,l.trans S,U⟩
 grind|false=>rw[ac]at t;obtain⟨A,H2,Q,S,U⟩:=Mz t C E;have B:=PS.start k Q (nx.trans S);exact⟨A,μ,B.hr,l.trans B.nx,U.pure⟩
 cases X:(c.fre&&d1.bare)with|false=>simp[ji,X];exact aa|true=>
 obtain⟨_,_,_,_,m3⟩:=aa;have hb:=(D0 _ _▸X).2;have ao:∀Y,dV c.own d1 Y=(d1,Y):=λY=>by cases c.own with|false=>rfl|true=>cases d1<;>first|rfl|(cases hb;done)
 simp[ji,X,ao]at m3⊢;obtain⟨b1,b2⟩:=hr.back nx;exact⟨K,μ,b1,b2,m3.bare hb⟩
 |_=>exact z.elim
  ·cases h
  cases h
 cases b:V.fn f with|none=>
 simp[call,b]at h;split at h;·exact(aa3 h).elim
 split at h<;>cases h|some c=>
 obtain⟨fn,tm,bs,r,G,_,I⟩:=a.fn f c b;refine⟨λe=>(by rw[e,a.nyf]at r;cases r),a.known b,λK μ W vs s hr g=>?_⟩
 cases y:c.pure with|false=>
 simp[call,b,y]at h;split at h;·cases h
 exact(yD u a m w (sQ V (λf args H d i h=>(a.ext f args H d i h).1) n) r G I s hr g).2 _ _ h|true=>
 simp[call,b,y]at h;split at h;·cases h
 rename_i ds H1 x;obtain⟨o,k,l,J⟩:=Z x hr g;split at h;·cases h
 ·rename_i q1 p;cases h;refine(YV u a m w b p (a.up s hr l) (My k) J).mono (λe L z=>?_);cases e with|panicked ch=>obtain⟨v,M,ak,Hc,rfl,C,nx,E⟩:=z;have B:=PS.start k C nx;exact⟨v,M,μ,rfl,B.hr,l.trans B.nx,E.pure⟩|_=>exact z.elim
 cases h
def qh{P:Program}{V:au}{T:Kn->World->Prop}(a:P.follows .mixedOrders=true)(b:cm P V T)(n:Nat):dI P T (call V n):=by grind[MC]
def Cw{P:Program}{V:au}{T:Kn->World->Prop}(a:P.follows .mixedOrders=true)(b:cm P V T)(n:Nat):gI P T (call V n):=(MC a b n).2
def YW{P:Program}{V:au}{T:Kn->World->Prop}(a:P.follows .mixedOrders=true)(b:cm P V T){n:Nat}{f:FuncId}{ds:List D}{d:D}(h:iH V n f ds=.ret d){K:Kn}{vs:List Value}(e:T K x)(hr:HR K aG [] x)(g:aY K aG [] ds vs):∃own,Calls P f vs.toArray x (sx own K x d):=by cases n with|zero=>cases h|succ n=>unfold iH at h;cases c:V.fn f with|none=>grind|some i=>simp[c]at h;exact⟨_,MA a b (qh a b n) (Cw a b n) c h e hr g⟩
end
section
open Go.ChangeShapes Go.RowKit
inductive T where|b|i(k:IntKind)|s|sl(b:Nat)(ts:List T)|rc(b:Nat)(t:TypeId)deriving Inhabited
abbrev oQ:=TypeId->Option (List T)
mutual inductive cB(env:oQ):T->D->Prop|b(x:Bool):cB env .b (.b x)|i(k:IntKind)(n:Int)(h:k.min<=n/\n<=k.max):cB env (.i k) (.i k n)|s(l:List UInt8)(h:l.length<=reachBytes):cB env .s (.s l)|nil(b:Nat)(ts:List T):cB env (.sl b ts) .nil|z(b:Nat)(ts:List T):cB env (.sl b ts) .z|sl(b:Nat)(ts:List T)(rows:List (List D))(h:rows.length<=maxLen/\rows.length*b<=reachBytes)(hr:∀r∈rows,cK env ts r):cB env (.sl b ts) (.im ts.length rows)|rnil(b:Nat)(t:TypeId):cB env (.rc b t) .nil|rz(b:Nat)(t:TypeId):cB env (.rc b t) .z|rc(b:Nat)(t:TypeId)(ts:List T)(he:env t=some ts)(rows:List (List D))(h:rows.length<=maxLen/\rows.length*b<=reachBytes)(hr:∀r∈rows,cK env ts r):cB env (.rc b t) (.im ts.length rows)inductive cK(env:oQ):List T->List D->Prop|nil:cK env [] []|cons{t:T}{ts:List T}{d:D}{ds:List D}(h:cB env t d)(hs:cK env ts ds):cK env (t::ts) (d::ds)end
theorem cK.len{b:oQ}:∀{a:List T}{ds:List D},cK b a ds->ds.length=a.length|_,_,.nil=>rfl|_,_,.cons _ hs=>by simp[hs.len]
def cK.append{a:oQ}:∀{c d:List T}{ds ds':List D},cK a c ds->cK a d ds'->cK a (c++d) (ds++ds')|_,_,_,_,.nil,b=>b|_,_,_,_,.cons h hs,b=>.cons h (hs.append b)
def vC(P:Program)(g:TypeId->Option (List T)):Nat->List Field->Option (List T)|_,[]=>some []|c,f::fs=>if f.offset=c then match g f.type with|some a=>if P.cellsOf f.type=a.length then match vC P g (c+a.length) fs with|some b=>some (a++b)|none=>none else none|none=>none else none
def na(P:Program)(c:List TypeId):Nat->TypeId->Option (List T)|0,_=>none|n+1,t=>match P.underlying t with
 |some .bool=>some [.b]|some (.int k)=>some [.i k]|some .string=>some [.s]|some (.slice e)=>if c.contains e then some [.rc (P.bytesOf e) e]else match na P c n e with|some a=>if P.cellsOf e=a.length/\0<a.length then some [.sl (P.bytesOf e) a]else none|none=>none
 |some (.struct fs)=>match vC P (na P c n) 0 fs.toList with|some a=>if P.cellsOf t=a.length then some a else none|none=>none
 |_=>none
def fE(P:Program)(a:List TypeId):oQ:=na P a 16
def ti(P:Program)(a:List TypeId):Bool:=a.all λe=>match fE P a e with|some b=>decide (P.cellsOf e=b.length/\0<b.length)|none=>false
def fi(W:World):Kn:=λb o=>W.cell? ⟨b,o,none⟩
def aaL(W:World):HR (fi W) aG [] W where
 dom:=λid l e=>by cases e
 tot:=λid h=>by grind
 blk:=λid l b e=>by cases e
 lt:=λid l e=>by cases e
 inj:=λid c l d b a e=>by cases e
 kn:=λb o v e=>e;kf:=λb o v _⟨id,l,a,e,_⟩=>by cases e
section
variable{H:Type}{enc:TypeId×Value->H}{P:Program}{W:World}
variable{x:List Value}
theorem NZ{a:Addr}{n:Nat}(h:W.cells? 0 a n=some x):x.length=n/\∀i,i<n->W.cell? (a.add i)=x[i]?:=by unfold World.cells? at h;refine⟨by simpa using mapM_some_length h,λi hi=>mapM_some_get h i i (by grind)⟩
theorem aaM(a:Addr):a.add 0=a:=by simp[Addr.add]
theorem aaN{a:Addr}{v:Value}(h:W.cell? a=some v):a.spot=none:=by
 unfold World.cell? at h;split at h
 ·split at h;·cases h
  rename_i hs;simpa using hs
 cases h
def N0{a:Addr}(h:a.spot=none):a=⟨a.block,a.off,none⟩:=by cases a;grind
theorem aaO{a:Addr}(h:a.spot=none)(n:Nat):a.add n=⟨a.block,a.off+n,none⟩:=by rw[N0 h,fC]
theorem CRs.one{d:D}{v:Value}{K:Kn}{μ:Mu}{H:ab}(h:VR K μ H d v)(a:v.oneCell'=true):CRs K μ H [d] [v]:=⟨⟨rfl,λj b c e f=>by grind⟩,λu g=>by grind⟩
def CRs.app{a b:List D}{vs:List Value}{K:Kn}{μ:Mu}{H:ab}(h:CRs K μ H a vs)(c:CRs K μ H b x):CRs K μ H (a++b) (vs++x):=⟨h.1.append c.1,λv d=>(bN.1 d).elim (h.2 v) (c.2 v)⟩
def N4{e:TypeId}:∀{ds:List (DataW H)}{i:Nat}{d:DataW H},ds[i]?=some d->∀n∈d.weights P e,n∈DataW.weightsAll P e ds|d0::ds,0,d,h,n,a=>by simp[List.getElem?_cons_zero,ep]at h;simp[DataW.weightsAll,bN];grind|d0::ds,i+1,d,h,n,a=>by simp[ABA]at h;simp[DataW.weightsAll,bN];exact Or.inr (N4 h n a)|[],_,_,h,_,_=>by grind
def N5{stop:List TypeId}{n:Nat}{e:TypeId}{c:List T}{t:TypeId}{b:List Value}{x:DataW H×List MemPlace}(o:P.underlying t=some (.slice e))(X:P.cellsOf e=c.length)(Y:0<c.length)(F:∀(m:Nat),m<n->∀(b:List Value)(x:DataW H×List MemPlace),DataW.trod enc P W 0 (λ_=>true) true m e b=some x->(∀n∈x.1.weights P e,n<=reachBytes)->∃ds,cK (fE P stop) c ds/\CRs (fi W) aG [] ds b)(h:DataW.trod enc P W 0 (λ_=>true) true n t b=some x)(w:∀n∈x.1.weights P t,n<=reachBytes):(∃v,b=[v]/\v.oneCell'=true/\(VR (fi W) aG [] .nil v\/VR (fi W) aG [] .z v\/∃rows:List (List D),(rows.length<=maxLen/\rows.length*P.bytesOf e<=reachBytes)/\(∀r∈rows,cK (fE P stop) c r)/\VR (fi W) aG [] (.im c.length rows) v)):=by
 rcases DataW.trod_slice o h with⟨rfl,_⟩|⟨a,len,cap,Z,rest,m,aa,rfl,y,_,ab,ac,ad,G,I,_⟩;·exact⟨_,rfl,rfl,.inl (.nil ..)⟩
 obtain⟨ae,J⟩:=I rfl;by_cases K:cap=0
 ·have:len=0:=by omega
  subst K;subst this;exact⟨_,rfl,rfl,.inr (.inl (.z ..))⟩
 have L:a.spot=none:=by
  have key:∀q,(W.cells? 0 (a.add (0*P.cellsOf e)) (P.cellsOf e)).bind (DataW.trod enc P W 0 (λ_=>true) true m e)=q->q.isSome=true->a.spot=none:=λq hq hs=>by cases p:W.cells? 0 (a.add (0*P.cellsOf e)) (P.cellsOf e)with|none=>grind|some b=>obtain⟨g1,l⟩:=NZ p;grind[aaM,aaN]
  by_cases A:0<len;·grind
  have A:len=0:=by omega
  subst A;exact key _ (by simpa using J 0 (by omega)) (by grind)
 have M:∀i,i<len->∃ds b,cK (fE P stop) c ds/\CRs (fi W) aG [] ds b/\b.length=c.length/\∀j,j<c.length->W.cell? ⟨a.block,a.off+(i*c.length+j),none⟩=b[j]?:=λi hi=>by have:=G i hi;rw[E2 (by omega)]at this;cases p:W.cells? 0 (a.add (i*P.cellsOf e)) (P.cellsOf e)with|none=>grind|some b=>rw[p]at this;obtain⟨ds,g1,l⟩:=F m (by omega) b _ this (λk N=>w k (by rw[y];simp only[DataW.weights,o,dA,bN];exact .inr (.inl (N4 (i:=i) (by grind) k N))));grind[NZ,aaO,fC]
 let g:=λi=>open Classical in if hi:i<len then Classical.choose (M i hi)else[];have s:∀i,i<len->∃b,cK (fE P stop) c (g i)/\CRs (fi W) aG [] (g i) b/\b.length=c.length/\∀j,j<c.length->W.cell? ⟨a.block,a.off+(i*c.length+j),none⟩=b[j]?:=λi hi=>by grind
 have B:∀(i:Nat)(r:List D),((List.range len).map g)[i]?=some r->i<len/\r=g i:=λi r e=>by
  rw[eH]at e;by_cases hi:i<len;·rw[uy hi]at e;exact⟨hi,(kb e).symm⟩
  rw[AAB (by simp;omega)]at e;cases e
 have Q:len*P.bytesOf e<=reachBytes:=by have S:=w _ (by rw[y];simp only[DataW.weights,o,dA];exact .inl rfl);refine gp (N3 _ ?_) S;simp[S2];omega
 refine⟨_,rfl,rfl,.inr (.inr ⟨(List.range len).map g,⟨by simp;omega,by simpa using Q⟩,λr hr=>?_,?_⟩)⟩;·obtain⟨i,hi,rfl⟩:=f0.1 hr;obtain⟨b,g1,_⟩:=s i (by simpa using hi);exact g1
 have C:VR (fi W) aG [] (.im c.length ((List.range len).map g)) (.slice (some ⟨a.block,a.off,none⟩) ((List.range len).map g).length cap):=by
  have get:∀(i:Nat)(r:List D)(j:Nat)(d:D),((List.range len).map g)[i]?=some r->r[j]?=some d->∃v,W.cell? ⟨a.block,a.off+(i*c.length+j),none⟩=some v/\v.oneCell'=true/\VR _ aG [] d v:=λi r j d e f=>by
   obtain⟨hi,rfl⟩:=B i r e;obtain⟨b,g1,l,E,U⟩:=s i hi;have V:j<c.length:=by rw[<-g1.len];exact aw f
   have u:j<b.length:=by omega
   refine⟨b[j],by rw[U j V,E2 u],l.2 _ (kv u),l.1.2 j d _ f (E2 u)⟩
  refine .im _ _ _ _ _ a.off cap (λi j=>(W.cell? ⟨a.block,a.off+(i*c.length+j),none⟩).getD undef) (by simp;omega) (λi r e=>?_) (λi r j d e f=>?_) (λi r j d e f=>?_) (λi r j d e f=>?_);·obtain⟨hi,rfl⟩:=B i r e;obtain⟨b,g1,_⟩:=s i hi;exact g1.len
  ·obtain⟨v,g1,_⟩:=get i r j d e f;simp[fi,g1,eD]
  ·obtain⟨v,g1,l,_⟩:=get i r j d e f;simp[g1,eD,l]
  obtain⟨v,g1,_,E⟩:=get i r j d e f;simp[g1,eD];exact E
 rw[<-N0 L]at C;simpa using C
variable{y:List TypeId}
def N6(X:ti P y=true):∀(n m:Nat)(t:TypeId)(o:List Value)(x:DataW H×List MemPlace)(G:List T),DataW.trod enc P W 0 (λ_=>true) true n t o=some x->na P y m t=some G->(∀k∈x.1.weights P t,k<=reachBytes)->∃ds,cK (fE P y) G ds/\CRs (fi W) aG [] ds o:=by intro n;induction n using Nat.strongRecOn with|ind n M=>intro m t o x G h c I;cases m with|zero=>grind[na]|succ m=>
 simp only[na]at c;split at c;·rename_i p;cases c;obtain⟨b,rfl,_⟩:=DataW.trod_bool p h;exact⟨[.b b],.cons (.b b) .nil,CRs.one (.b ..) rfl⟩
 ·rename_i k p;cases c;obtain⟨q,rfl,_,C⟩:=DataW.trod_int p h;exact⟨[.i k q],.cons (.i k q (by simpa[Lit.wf]using C)) .nil,CRs.one (.i ..) rfl⟩
 ·rename_i p;cases c;obtain⟨s,rfl,rfl,hs⟩:=DataW.trod_string p h;refine⟨[.s s.data.toList],.cons (.s _ (I _ (by simp[DataW.weights]))) .nil,CRs.one ?_ rfl⟩;have:VR (fi W) aG [] (.s s.data.toList) _:=.s ..;omega
 ·rename_i e p;split at c
  ·rename_i hc;cases c;simp only[ti,TA]at X;have:=X e (by grind);split at this
   ·rename_i N J;obtain⟨C,Q⟩:=gA this;obtain⟨v,rfl,u,a⟩:=N5 (stop:=y) p C Q (λE S o x F U=>M E S 16 e o x N F J U) h I;rcases a with a|a|⟨rows,g1,w,a⟩;·exact⟨[.nil],.cons (.rnil _ _) .nil,CRs.one a u⟩
    ·exact⟨[.z],.cons (.rz _ _) .nil,CRs.one a u⟩
    exact⟨[.im _ rows],.cons (.rc _ _ _ J _ g1 w) .nil,CRs.one a u⟩
   grind
  split at c
  ·rename_i N J;split at c
   ·rename_i Z;obtain⟨C,Q⟩:=Z;cases c;obtain⟨v,rfl,u,a⟩:=N5 (stop:=y) p C Q (λE S o x F U=>M E S m e o x N F J U) h I;rcases a with a|a|⟨rows,g1,w,a⟩;·exact⟨[.nil],.cons (.nil _ _) .nil,CRs.one a u⟩
    ·exact⟨[.z],.cons (.z _ _) .nil,CRs.one a u⟩
    exact⟨[.im _ rows],.cons (.sl _ _ _ g1 w) .nil,CRs.one a u⟩
   cases c
  grind
 ·rename_i fs p;split at c
  ·rename_i tf htf;split at c
   ·rename_i an;cases c;obtain⟨xs,E,ao,F,ap,ab,ac⟩:=DataW.trod_struct p h;have:∀(l:List Field)(A:List Field)(r:Nat)(B:List T),fs.toList=A++l->vC P (na P y m) r l=some B->r+B.length<=o.length->∃ds,cK (fE P y) B ds/\CRs (fi W) aG [] ds ((o.drop r).take B.length):=by
     intro l;induction l with|nil=>
     intro A r B _ g _;have:=by simp[vC]at g;exact g
     subst this;exact⟨[],.nil,⟨by simp,λj d v e=>by simp at e⟩,λv a=>by simp at a⟩|cons f l ad=>
     intro A r B K g ae;simp only[vC]at g;split at g
     ·rename_i af;split at g
      ·rename_i L ag;split at g
       ·rename_i ah;split at g
        ·rename_i V ai;cases g;simp[Rp]at ae;have Y:=ac A.length f (by rw[<-Array.getElem?_toList,K];simp);have hi:A.length<xs.length:=by rw[ab,<-Array.length_toList,K];simp
         rw[E2 hi,af,ah]at Y;obtain⟨d1,g1,w⟩:=M E (by omega) m _ _ _ L Y ag (λk hk=>I k (by rw[F];simp only[DataW.weights,p];exact DataW.weights_mem_each (j:=A.length) (by rw[K];simp) (by simp[E2 hi]) k hk));obtain⟨d2,g3,g4⟩:=ad (A++[f]) _ V (by rw[K];simp) ai (by omega);refine⟨d1++d2,g1.append g3,?_⟩;have:(o.drop r).take (L++V).length=(o.drop r).take L.length++(o.drop (r+L.length)).take V.length:=by rw[Rp,List.take_add,AAc]
         rw[this];exact w.app g4
        cases g
       cases g
      cases g
     cases g
    obtain⟨ds,g1,w⟩:=this _ [] 0 G rfl htf (by omega);refine⟨ds,g1,?_⟩;rwa[AAd,E4 (by omega)]at w
   cases c
  cases c
 grind
def Ds(P:Program)(b:List TypeId)(t:TypeId):Option (Bool×List T):=match P.underlying t with|some (.struct _)=>(na P b 16 t).map λa=>(true,a)|some .bool|some (.int _)|some .string|some (.slice _)=>(na P b 16 t).map λa=>(false,a)|_=>none
inductive oR(env:oQ):Bool×List T->D->Prop|ag(ts:List T)(ds:List D)(h:cK env ts ds):oR env (true,ts) (.ag ds)|one(ts:List T)(d:D)(h:cK env ts [d]):oR env (false,ts) d
def aaP(i:ti P y=true){t:TypeId}{p:Bool×List T}(b:Ds P y t=some p){base:Nat}{v:Value}{d:DataW H}{l:List MemPlace}(e:Value.okWide P W .any base t v)(h:DataW.Trod enc P W 0 (λ_=>true) true t v d l)(j:∀k∈d.weights P t,k<=reachBytes):∃x,oR (fE P y) p x/\VR (fi W) aG [] x v:=by
 obtain⟨n,h⟩:=h;unfold Ds at b;split at b;·rename_i fs f;simp[ka]at b;obtain⟨c,g,rfl⟩:=b;simp[Value.okWide,f]at e;obtain⟨m,rfl,_,_⟩:=e;obtain⟨ds,g1,a⟩:=N6 i n 16 t _ _ c h g j;refine⟨.ag ds,.ag c ds g1,?_⟩;have:VR _ aG [] _ (.agg m.toList.toArray):=.ag _ _ _ _ a.1.1 a.2 a.1.2;omega
 all_goals first
 |(cases b;done)
 | (rename_i f;simp only[ka]at b;obtain⟨c,g,rfl⟩:=b;obtain⟨ds,g1,a⟩:=N6 i n 16 t _ _ c h g j;have o:v.cells.toList=[v]:=by cases v<;>first|rfl|(simp[Value.okWide,f,Cell.okWide,Cell.ok]at e)
    rw[o]at a;have q:=a.1.1;match ds,q,g1,a with|[d],_,g1,a=>exact⟨d,.one c d g1,a.1.2 0 d v rfl rfl⟩)
def qS(P:Program)(a:List TypeId):List TypeId->Option (List (Bool×List T))|[]=>some []|t::b=>match Ds P a t,qS P a b with|some p,some c=>some (p::c)|_,_=>none
inductive oS(env:oQ):List (Bool×List T)->List D->Prop|nil:oS env [] []|cons{p:Bool×List T}{ps:List (Bool×List T)}{d:D}{ds:List D}(h:oR env p d)(hs:oS env ps ds):oS env (p::ps) (d::ds)
def N7(r:ti P y=true):∀{c:List TypeId}{g:List (Bool×List T)}(_:qS P y c=some g){base:Nat}{vs:List Value}{ds:List (DataW H)}{l:List MemPlace}(_:∀(j:Nat)t v,c[j]?=some t->vs[j]?=some v->Value.okWide P W .any base t v)(_:DataW.TrodAll enc P W 0 (λ_=>true) true c vs ds l)(_:∀k∈DataW.weightsEach P c ds,k<=reachBytes),∃i,oS (fE P y) g i/\aY (fi W) aG [] i vs
 |[],g,f,base,vs,ds,l,m,h,_=>by cases f;obtain⟨rfl,rfl,rfl⟩:=trodAll_nil h;exact⟨[],.nil,rfl,λj d v e=>by grind⟩|t::c,g,f,base,vs,ds,l,m,h,n=>by
  simp[qS]at f;split at f;·rename_i p E u w;cases f;obtain⟨v,vs,d,ds,p0,q0,rfl,rfl,rfl,g1,g2⟩:=trodAll_cons h;simp[DataW.weightsEach,bN]at n;obtain⟨x,z,F⟩:=aaP r u (m 0 t v rfl rfl) g1 (λk o=>n k (.inl o));obtain⟨i,A,s⟩:=N7 r w (λj B q a b=>m (j+1) B q (by grind) (by grind)) g2 (λk o=>n k (.inr o));refine⟨x::i,.cons z A,by simp[s.1],λj C q a b=>?_⟩;cases j with|zero=>grind|succ j=>exact s.2 j C q (by grind) (by grind)
  grind
theorem Dt(e:laidOutB P=true){f:World}(g:Below W.heap.size W f){i:Nat->Bool}:∀{c:List TypeId}{vs:List Value}{ds:List (DataW H)}{b:List MemPlace},(∀t∈c,P.readableRec t=true/\t<P.types.size)->DataW.TrodAll enc P W 0 (λ_=>true) true c vs ds b->(∀x∈b,x.block<W.heap.size)->(∀x∈b,i x.block=true)->DataW.TrodAll enc P f 0 i true c vs ds b|[],vs,ds,b,_,h,_,_=>by obtain⟨rfl,rfl,rfl⟩:=trodAll_nil h;rfl|t::c,vs,ds,b,j,h,k,l=>by obtain⟨v,vs,d,ds,o,p,rfl,rfl,rfl,g1,g2⟩:=trodAll_cons h;obtain⟨m,n⟩:=j t N2;exact⟨o,p,WideElems.Trod_stays e m n g1 (λx a=>g.same (k x (TB _ a))) (λx a=>l x (TB _ a)),Dt e g (λq r=>j q (K2 _ r)) g2 (λx a=>k x (fd _ a)) (λx a=>l x (fd _ a)),rfl⟩
end
end
section
open Go.ChangeShapes Go.RowKit
section
variable{H:Type}{enc:TypeId×Value->H}{P:Program}
variable{a b:World}
def Nx.below{K:Kn}{d:Kn}{f:Mu}{g:ab}{c:World}(nx:Nx K aG [] a d f g c):Below a.heap.size a c:=⟨nx.os,nx.tape,nx.output,nx.size,λk h=>nx.keep k h (λ⟨id,l,b,e,_⟩=>by cases e)⟩
variable{x y z:Bool}{c:List (DataW H)}{d:List MemPlace}
def ZD{f:Func}{s:ChangeSpec}{eM E:Bool}{e:World}{args:Array Value}{ds:List (DataW H)}{m:TypeId}(n:DataW.Whole enc P f.params.toList s.vars eM a args.toList ds c d)(h:s.vars=[])(i:Below a.heap.size a e)(F:laidOutB P=true)(G:∀t∈f.params.toList,P.readableRec t=true/\t<P.types.size)(o:f.resultTypes=#[m])(r:P.underlying m=some .bool)(I:(s.fn H (ds++c)).results=[.lit (.bool true)])(J:(s.fn H (ds++c)).args=ds)(u:(s.fn H (ds++c)).vars=[]):s.post enc P f eM y z E a args (.bool true) e:=by
 have j:=n.lt;obtain⟨p,q,v,k,rfl,l,w⟩:=n;rw[h]at k;have K:c=[]/\q=[]:=by cases c with|nil=>exact⟨rfl,k⟩|cons g c=>exact k.elim
 obtain⟨rfl,rfl⟩:=K;simp[qq]at j l w I J u⊢;have hr:∀(b:Nat)(A:Nat->Bool)(B:Bool),DataW.TrodAll enc P e b A B f.resultTypes.toList ((Value.bool true).resultList f.resultTypes.size) [.lit _] []:=λb A B=>by rw[o];exact⟨[],[],shut_bool r true,rfl,rfl⟩
 refine⟨ds,[],p,[],p,[],⟨p,[],v,by grind,by simp,l,w⟩,?_,?_,?_,i.frame _,λ_=>⟨ok_one o rfl (okWide_bool_mk r true),[.lit (.bool true)]++ds,[],p,⟨[]++p,[],?_,by rw[h];rfl,by simp,?_,?_⟩,λx L _=>L⟩⟩;·grind
 ·grind[Dt]
 ·simp[qq];rw[h,u];rfl
 ·exact trodAll_append (Dt F i G v j (λ_ _=>rfl)) (hr _ _ _)
 ·intro b M C;rw[i.frozen (j _ C)];exact l b M C
 omega
def C2{V:au}{Lk:Kn->World->Prop}{stop:List TypeId}(E:ti P stop=true)(F:P.follows .mixedOrders=true)(G:cm P V Lk)(I:laidOutB P=true){f:FuncId}{fn:Func}{s:ChangeSpec}{eM:Bool}{bt:TypeId}{o:List (Bool×List T)}(J:∀t∈fn.params.toList,P.readableRec t=true/\t<P.types.size)(K:qS P stop fn.params.toList=some o)(L:fn.resultTypes=#[bt])(M:P.underlying bt=some .bool)(l:s.vars=[])(N:∀h,oS (fE P stop) o h->∃n,iH V n f h=.ret (.b true)){W:World}{base:Nat}{args:Array Value}{ds:List (DataW H)}(Q:Lk (fi W) W)(S:∀(j:Nat)t v,fn.params[j]?=some t->args[j]?=some v->Value.okWide P W .any base t v)(r:DataW.Whole enc P fn.params.toList s.vars eM W args.toList ds c d)(ae:(DataW.weightsEach P (fn.params.toList++s.plain.varTypes P) (ds++c)).all (·<=reachBytes)=true)(U:(s.fn H (ds++c)).results=[.lit (.bool true)])(X:(s.fn H (ds++c)).args=ds)(m:(s.fn H (ds++c)).vars=[]):Calls P f args W λe u=>∃v,e=.returned v/\s.post enc P fn eM x y z W args v u:=by
 have Y:=r;obtain⟨p,q,Z,w,_⟩:=r;have af:c=[]:=by rw[l]at w;cases c with|nil=>rfl|cons g c=>exact w.elim
 have aa:∀k∈DataW.weightsEach P fn.params.toList ds,k<=reachBytes:=λk hk=>by
  have A:s.plain.varTypes P=[]:=by have:s.plain.vars=[]:=l;unfold DataSpec.varTypes<;>grind
  grind
 obtain⟨h,g1,g2⟩:=N7 E K (λj t v a b=>S j t v (by grind) (by grind)) Z aa;obtain⟨n,hn⟩:=N h g1;obtain⟨own,this⟩:=YW F G hn Q (aaL W) g2
 refine this.mono (λe u B=>?_);cases e with|returned v=>
 obtain⟨K',ai,H',d0,ad,nx,C,i⟩:=B;have A:v=.bool true:=by cases own with
 |true=>
 simp only[m7]at i;split at i
 · have hd:d0=.b true:=by cases d0<;>simp only[ia,gm,ff,ka]at i;all_goals grind
   cases C<;>grind
 grind|false=>obtain⟨_,_,_,_,m⟩:=Mz i ad C;cases m<;>grind
 subst A;exact⟨_,rfl,ZD Y l nx.below I J L M U X m⟩|_=>exact B.elim
end
end
end Go.Dm
namespace Go.Proofs.YtekgndcflpklkaaGreatDoor.Dv
section
open Go.Dm
set_option maxRecDepth 10000
variable{env:oQ}
variable{y:List T}
def ue{b:Nat}{d:D}(h:cB env (.sl b y) d):∃rows,(∀r∈rows,cK env y r)/\Sl y.length rows d/\rows.length*b<=140737488351232:=by cases h with|nil=>exact⟨[],λr hr=>(by cases hr),.nil rfl,by simp⟩|z=>exact⟨[],λr hr=>(by cases hr),.z rfl,by simp⟩|sl _ _ rows h hr=>exact⟨rows,hr,.im,h.2⟩
inductive LX:Ex->Prop where|mk{e:Ex}:e.op<256->e.args.length<4611686018427387904->(∀a∈e.args,LX a)->LX e
def LX.x{e:Ex}(h:LX e):dp (λ_=>True) e:=by induction h with|mk a _ _ b=>constructor<;>grind
def pq{α:Type}{enc:α->List D}{P:α->Prop}:∀{rows:List (List D)},(∀r∈rows,∃a,r=enc a/\P a)->∃l:List α,rows=l.map enc/\∀a∈l,P a|[],_=>⟨[],rfl,λ_ h=>by cases h⟩|r::rows,h=>by obtain⟨a,rfl,b⟩:=h r N2;obtain⟨l,rfl,c⟩:=pq (rows:=rows) λr hr=>h r (K2 _ hr);exact⟨a::l,rfl,λx d=>(dA.1 d).elim (λe=>e▸b) (c x)⟩
def rA{k:IntKind}(a:k.min=0){d:D}(h:cB env (.i k) d):∃n:Nat,d=.i k n/\(n:Int)<=k.max:=by cases h with|i _ n h=>obtain⟨m,rfl⟩:=xt (show 0<=n by omega);grind
def SY{d:D}(h:cB env (.sl 2 [.i .u16]) d):∃l:List Nat,Sl 1 (l.map aJ) d/\lm 65536 l/\l.length<70368744177665:=by
 obtain⟨rows,c,e,f⟩:=ue h;obtain⟨l,rfl,g⟩:=pq (enc:=aJ) (P:=(·<65536)) λr hr=>by cases c r hr with|cons a b=>cases b;obtain⟨n,rfl,j⟩:=rA rfl a;exact⟨n,rfl,by have:IntKind.max .u16=65535:=rfl;omega⟩
 rw[S2]at f;exact⟨l,e,g,by omega⟩
def FL{a b c d:D}(e:cB env .b a)(f:cB env (.sl 2 [.i .u16]) b)(g:cB env .b c)(h:cB env (.sl 2 [.i .u16]) d):∃r:RF,[a,b,c,d]=r.cells:=by obtain⟨l,j,k,n⟩:=SY f;obtain⟨m,o,p,q⟩:=SY h;cases e;cases g;exact⟨⟨_,_,_,_,l,m,j,o,k,p,n,q⟩,rfl⟩
abbrev lM(n:Nat):List T:=[.i .u8,.s,.i .u8,.b,.sl 2 [.i .u16],.b,.sl 2 [.i .u16],.i .i64,.rc 128 n]
abbrev FM(n:Nat):List T:=[.s,.s,.i .i64,.i .i64,.i .i64,.b]++(lM n++lM n)
abbrev uf:List T:=[.s,.i .i64,.i .i64,.i .i64,.b,.i .u8,.b,.sl 2 [.i .u16],.b,.sl 2 [.i .u16],.i .i64]
abbrev SZ:List T:=[.i .i64,.i .i64,.i .i64,.b,.sl 2 [.i .u16],.b,.sl 2 [.i .u16]]
abbrev S0:List T:=[.s,.b,.sl 88 SZ]
abbrev AD(n:Nat):List T:=[.s,.sl 24 [.s,.i .u8,.b],.sl 48 S0,.sl 320 (FM n)]
def mE{d:D}(h:cB env .s d):∃s:Nm,d=.s s/\s.length<1000000000000000:=by cases h with|s l h=>exact⟨l,rfl,by unfold reachBytes at h;omega⟩
def gy{d:D}(h:cB env (.i .i64) d):∃n:Int,d=.i .i64 n/\-9223372036854775808<=n/\n<=9223372036854775807:=by cases h with|i _ n h=>exact⟨n,rfl,h.1,h.2⟩
def AE{d:D}(h:cB env .b d):∃b:Bool,d=.b b:=by cases h with|b x=>grind
def alb{r:List D}(h:cK env SZ r):∃x:Rw,r=x.c/\True:=by cases h with|cons d h=>cases h with|cons e h=>cases h with|cons g h=>cases h with|cons i h=>cases h with|cons j h=>cases h with|cons k h=>cases h with|cons l h=>cases h;obtain⟨a,rfl,_⟩:=gy d;obtain⟨b,rfl,_⟩:=gy e;obtain⟨c,rfl,_⟩:=gy g;obtain⟨f,m⟩:=FL i j k l;exact⟨⟨a,b,c,f⟩,by grind[Rw.c,RF.cells],trivial⟩
def alc{r:List D}(h:cK env S0 r):∃x:Tb,r=x.c/\True:=by cases h with|cons a h=>cases h with|cons c h=>cases h with|cons d h=>cases h;obtain⟨s,rfl,hs⟩:=mE a;obtain⟨b,rfl⟩:=AE c;obtain⟨rows,r1,r2,r3⟩:=ue d;obtain⟨l,rfl,_⟩:=pq λr hr=>alb (r1 r hr);rw[S2]at r3;exact⟨⟨s,b,_,l,r2,by omega,hs⟩,rfl,trivial⟩
def S3{r:List D}(h:cK env uf r):∃x:Fc,r=x.c/\x.v.k<256:=by cases h with|cons d h=>cases h with|cons e h=>cases h with|cons j h=>cases h with|cons l h=>cases h with|cons m h=>cases h with|cons n h=>cases h with|cons o h=>cases h with|cons p h=>cases h with|cons q h=>cases h with|cons t h=>cases h with|cons u h=>cases h;obtain⟨s,rfl,hs⟩:=mE d;obtain⟨a,rfl,_⟩:=gy e;obtain⟨b,rfl,_⟩:=gy j;obtain⟨c,rfl,_⟩:=gy l;obtain⟨g,rfl⟩:=AE m;obtain⟨k,rfl,w⟩:=rA rfl n;obtain⟨f,v⟩:=FL o p q t;obtain⟨i,rfl,_⟩:=gy u;obtain⟨rfl,rfl,rfl,rfl⟩:=v;exact⟨⟨s,a,b,c,g,⟨k,f,i⟩,hs⟩,rfl,by have:IntKind.max .u8=255:=rfl;grind⟩
def FO{d:D}(h:cB env (.sl 128 uf) d):∃l:List Fc,Sl 11 (l.map Fc.c) d:=by obtain⟨rows,r1,r2,r3⟩:=ue h;obtain⟨l,rfl,_⟩:=pq λr hr=>S3 (r1 r hr);exact⟨l,r2⟩
def ald{r:List D}(h:cK env [.s,.i .u8,.b] r):∃x:Df,r=x.c/\True:=by cases h with|cons a h=>cases h with|cons c h=>cases h with|cons d h=>cases h;obtain⟨s,rfl,_⟩:=mE a;obtain⟨k,rfl,_⟩:=rA rfl c;obtain⟨b,rfl⟩:=AE d;exact⟨⟨s,k,b⟩,rfl,trivial⟩
def wM(d:D):Prop:=∃(y:Zs)(l:List Ex),d=Cg 9 y (l.map Ex.row)/\l.length<4611686018427387904/\∀a∈l,LX a
def FP{rows:List (List D)}{d:D}(f:d=.im 9 rows\/(d=.nil\/d=.z)/\rows=[])(b:rows.length<4611686018427387904)(h:∀r∈rows,∃e:Ex,r=e.row/\LX e):wM d:=by
 obtain⟨l,rfl,c⟩:=pq h;rw[S2]at b;rcases f with rfl|⟨rfl|rfl,e⟩;·cases l with|nil=>exact⟨.i,[],rfl,b,c⟩|cons a l=>exact⟨.n,a::l,rfl,b,c⟩
 ·cases l with|nil=>exact⟨.n,[],rfl,b,c⟩|cons a l=>cases e
 cases l with|nil=>exact⟨.z,[],rfl,b,c⟩|cons a l=>cases e
def ale{d0 d1 d2 d3 d4 d5 d6 d7 d8:D}(a:cB env (.i .u8) d0)(c:cB env .s d1)(d:cB env (.i .u8) d2)(g:cB env .b d3)(h:cB env (.sl 2 [.i .u16]) d4)(j:cB env .b d5)(m:cB env (.sl 2 [.i .u16]) d6)(n:cB env (.i .i64) d7)(p:wM d8):∃e:Ex,[d0,d1,d2,d3,d4,d5,d6,d7,d8]=e.row/\LX e:=by obtain⟨o,rfl,u⟩:=rA rfl a;obtain⟨s,rfl,_⟩:=mE c;obtain⟨k,rfl,_⟩:=rA rfl d;obtain⟨f,q⟩:=FL g h j m;obtain⟨i,rfl,_⟩:=gy n;obtain⟨y,l,rfl,r,t⟩:=p;obtain⟨rfl,rfl,rfl,rfl⟩:=q;refine⟨.mk o s ⟨k,f,i⟩ y l,by rw[Ex.row,Md],.mk ?_ r t⟩;have:IntKind.max .u8=255:=rfl;show o<256;omega
variable{x:List D}
def S4{n:Nat}(h:∀(j:Nat)t d,(lM n)[j]?=some t->x[j]?=some d->cB env t d/\(t=.rc 128 n->wM d))(a:x.length=9):∃e:Ex,x=e.row/\LX e:=by match x,a with|[d0,d1,d2,d3,d4,d5,d6,d7,d8],_=>exact ale (h 0 _ _ rfl rfl).1 (h 1 _ _ rfl rfl).1 (h 2 _ _ rfl rfl).1 (h 3 _ _ rfl rfl).1 (h 4 _ _ rfl rfl).1 (h 5 _ _ rfl rfl).1 (h 6 _ _ rfl rfl).1 (h 7 _ _ rfl rfl).1 ((h 8 _ _ rfl rfl).2 rfl)
def alf{n:Nat}(g:env n=some (lM n))(h:cK env y x):∀(j:Nat)t d,y[j]?=some t->x[j]?=some d->cB env t d/\(t=.rc 128 n->wM d):=by
 refine cK.rec (motive_1:=λt d _=>t=.rc 128 n->wM d) ?_ ?_ ?_ ?_ ?_ ?_ ?_ ?_ ?_ ?_ ?_ h;·grind
 ·grind
 ·grind
 ·grind
 ·grind
 ·grind
 ·simp_all[FP]
 ·simp_all[FP]
 ·intro _ _ y i rows b hr c e;cases e;have a:y=lM n:=by grind
  subst a;exact FP (.inl rfl) (by have:=b.2;unfold reachBytes at this;omega) λx h=>S4 (c x h) (hr x h).len
 ·intro j t d h;cases h
 intro t y d ds h hs f i2 j t' d' e1 a;cases j with|zero=>cases e1;cases a;exact⟨h,f⟩|succ j=>exact i2 j t' d' e1 a
def S5{n:Nat}(a:env n=some (lM n))(h:cK env (lM n) x):∃e:Ex,x=e.row/\LX e:=S4 (alf a h) h.len
def cK.split{ts:List T}:∀{r:List D},cK env (ts++y) r->∃a b,r=a++b/\cK env ts a/\cK env y b:=by induction ts with|nil=>exactλh=>⟨[],_,rfl,.nil,h⟩|cons t ts c=>intro r h;cases h with|cons d h=>obtain⟨a,b,rfl,e,f⟩:=c h;exact⟨_::a,b,rfl,.cons d e,f⟩
def S6{n:Nat}(d:env n=some (lM n)){r:List D}(h:cK env (FM n) r):∃c:Cl,r=c.row/\LX c.w/\LX c.t:=by cases h with|cons e h=>cases h with|cons f h=>cases h with|cons i h=>cases h with|cons j h=>cases h with|cons k h=>cases h with|cons l h=>obtain⟨s,rfl,_⟩:=mE e;obtain⟨t,rfl,_⟩:=mE f;obtain⟨a,rfl,_⟩:=gy i;obtain⟨b,rfl,_⟩:=gy j;obtain⟨c,rfl,_⟩:=gy k;obtain⟨g,rfl⟩:=AE l;obtain⟨x,y,rfl,m,o⟩:=cK.split (ts:=lM n) h;obtain⟨w,rfl,p⟩:=S5 d m;obtain⟨z,rfl,q⟩:=S5 d o;exact⟨⟨s,t,a,b,c,g,w,z⟩,rfl,p,q⟩
def FQ{n:Nat}(g:env n=some (lM n)){d:D}(h:oR env (true,AD n) d):∃p:Pl,d=p.d/\(∀c∈p.cls,LX c.w/\LX c.t)/\p.defs.length<1000000000000000/\p.tabs.length<4611686018427387904/\p.cls.length*320<=140737488351232:=by cases h with|ag _ ds h=>cases h with|cons i h=>cases h with|cons j h=>cases h with|cons k h=>cases h with|cons a h=>cases h;obtain⟨s,rfl,_⟩:=mE i;obtain⟨r1,l,m,o⟩:=ue j;obtain⟨r2,q,t,u⟩:=ue k;obtain⟨r3,v,w,b⟩:=ue a;obtain⟨e,rfl,_⟩:=pq λr hr=>ald (l r hr);obtain⟨f,rfl,_⟩:=pq λr hr=>alc (q r hr);obtain⟨x,rfl,a⟩:=pq λr hr=>S6 g (v r hr);rw[S2]at o u b;exact⟨⟨s,e,f,x,_,_,_,m,t,w⟩,rfl,a,by show e.length<_;omega,by show f.length<_;omega,b⟩
end
end Go.Proofs.YtekgndcflpklkaaGreatDoor.Dv
