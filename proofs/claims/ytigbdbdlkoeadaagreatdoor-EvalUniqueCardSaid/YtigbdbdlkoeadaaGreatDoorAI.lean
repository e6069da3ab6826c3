/-
  Part of the proof.
-/
import Derived.Test.YtigbdbdlkoeadaaGreatDoorAH
set_option linter.all false
namespace Go.Proofs.YtigbdbdlkoeadaaGreatDoor.Dv
section
open Go.Dm
set_option maxRecDepth 10000
variable{d:List Int}
def Vk{T:List FN}{p:Nat}{acc:List aD}(h:p+1<d.length):i7 T (d.drop p) acc=i7 T (d.drop (p+1)) (match fQ T d[p]! with|some f=>if f.gone then acc else cJ acc ⟨d[p]!,d[p+1]!,f.v⟩|none=>acc):=by rw[oz (by omega),oz h,Hy d p (by omega),Hy d _ h];rfl
def am7{T:List FN}{p:Nat}{acc:List aD}(h:p+1=d.length):i7 T (d.drop p) acc=acc:=by rw[oz (by omega),dn (by omega)];rfl
def am8{T:List FV}{p j:Nat}(b:p<(gw (T.map FV.n)).length)(h:jk T (gw (T.map FV.n))[p]! T.length=some j):p+1<(gw (T.map FV.n)).length/\j<T.length:=by
 have a:=Vi.2 j h;obtain⟨k,d⟩:=Vj h;have e:=(amU a).2;have hs:(gw (T.map FV.n)).Pairwise _:=CQ _;obtain⟨q,f,g⟩:=List.getElem_of_mem e;refine⟨?_,a⟩;by_cases c:p+1<(gw (T.map FV.n)).length;·exact c
 rw[<-g,<-getElem!_pos _ q f]at d;by_cases i:q<p;·have:=Ca hs i b;omega
 grind
def FV.same_c(t:SV)(f:FV)(a:f.gone=false){H:ab}{K:CR->Prop}:ac VS 107 [.ag [.i .u8 t.a.v.k,t.a.s,t.a.x,t.a.t,t.a.y,.i .i64 t.a.v.i],.ag [.i .u8 f.a.v.k,f.a.s,f.a.x,f.a.t,f.a.y,.i .i64 f.a.v.i]] H K↔K (.ret (.b (decide (t.a.v=f.a.v))) H):=t.a.same_c f.a t.ok (f.ok a)
def FV.n_v(f:FV)(a:f.gone=false):f.n.v=f.a.v/\f.n.gone=false:=by grind[FV.n]
variable{x y z a b c:D}
def am9{T:List FV}{m:List Int}{y:D}{A C:Nat}(W:m=gw (T.map FV.n))(hy:Sl 1 (m.map aV) y)(hl:m.length<1000000)(cf:T.length<1000000){q:ab}(hC:q[C]?=some (.ar 1 (eV A T.length T m T.length) (some m.length) false false))(hA:T≠[]->q[A]?=some (.ar 11 (T.map FV.c) none true true)){c3 c9 a0 a1 a2 a3 a4 x0 x1 x2:D}{d6 d7 d8 bx bz b0:D}{Q:Dm.Ex->St->Prop}(b1:∀(acc:List SV)(c6 c7 c8 b3 aj al am:D),acc.map SV.n=iD (T.map FV.n)->Q (.ex 4) ⟨[x0,x1,x2,c3,z,a,c6,c7,c8,c9,y,c,a0,a1,a2,a3,a4,.mu C m.length 0 m.length,bD q .nil (acc.map SV.c),b3,.i .i64 m.length,.mu C m.length 0 m.length,aj,al,am],bH q 8 (acc.map SV.c)⟩):ak VS (.loop Na) ⟨[x0,x1,x2,c3,z,a,d6,d7,d8,c9,y,c,a0,a1,a2,a3,a4,.mu C m.length 0 m.length,.nil,.i .i64 0,.i .i64 m.length,.mu C m.length 0 m.length,bx,bz,b0],q⟩ Q:=by
 have hq:=λ{V dr os keep b4 sl Q b6 H H' k x'}=>hy.q (V:=V) (dr:=dr) (os:=os) (keep:=keep) (loc:=b4) (sl:=sl) (Q:=Q) (sl':=b6) (H:=H) (H':=H') (k:=k) (x:=x');refine ak.up (λp s=>∃(acc:List SV)(c6 c7 c8 aj al am:D),acc.length<=p/\i7 _ (m.drop p) (acc.map SV.n)=iD _/\s=⟨[x0,x1,x2,c3,z,a,c6,c7,c8,c9,y,c,a0,a1,a2,a3,a4,.mu C _ 0 _,bD q .nil (acc.map SV.c),.i .i64 p,.i .i64 _,.mu C _ 0 _,aj,al,am],bH q 8 (acc.map SV.c)⟩) m.length ⟨[],_,_,_,_,_,_,G1 _,by rw[W];rfl,rfl⟩ ?_;rintro p s hp⟨acc,c6,c7,c8,aj,al,am,ci,I,rfl⟩;by_cases J:p<m.length
 ·have F:(p:Int)<m.length:=by omega
  have X:(0:Int)<=p:=by omega
  have M:IntKind.i64.wrap (p+1)=((p+1:Nat)):=by grind[wr]
  have N:(bH q 8 (acc.map SV.c))[C]?=some (.ar 1 (eV A T.length T m T.length) (some m.length) false false):=by grind[vQ,ay]
  have v:=am1 (A:=A) (n:=T.length) (T:=T) (i:=T.length) J;have ln:=am0 (A:=A) (n:=T.length) (T:=T) (days:=m) (i:=T.length)
  have ao:=(Vi (T:=T) (d:=m[p]!)).1;cases hj:jk T m[p]! _ with|none=>
  rw[hj]at v ao;have cj:i7 (T.map FV.n) (m.drop (p+1)) (acc.map SV.n)=iD (T.map FV.n):=by
   by_cases Y:p+1<m.length;·rw[<-I,Vk Y,ao];rfl
   rw[dn (by omega),<-I,am7 (by omega)];rfl
  simp[qI]at v;have L:ej false .pt .np .np=some (.b true):=rfl;simp[go_sem,ue,F,N,ln,v,L,M];grind|some j=>
  obtain⟨Y,u⟩:=am8 (by rw[<-W];exact J) (by rw[<-W];exact hj);rw[<-W]at Y;rw[hj]at v ao;have bp:T≠[]:=λe=>by rw[e]at u;simp at u
  have P:(bH q 8 (acc.map SV.c))[A]?=some (.ar 11 (T.map FV.c) none true true):=by rw[vQ (ay (hA bp))];exact hA bp
  have L:ej false .pt (.ap A T.length j 0) .np=some (.b false):=rfl;obtain⟨f,S⟩:∃f,f=T[j]!:=⟨_,rfl⟩;have b9:fQ (T.map FV.n) m[p]! =some f.n:=by rw[ao,S];rfl
  have G:=Vk (T:=T.map FV.n) (acc:=acc.map SV.n) Y;rw[b9]at G;simp only at G;simp[qI]at v;cases B:f.gone with|true=>have a9:f.n.gone=true:=B;rw[a9,E4 rfl]at G;simp only[go_sem,simprocAttr,ue,F,X,N,P,ln,v,L,<-S,FV.c,B,M];exact⟨u,J,acc,by omega,by rw[<-G];exact I,rfl,rfl⟩|false=>
  have a9:=(f.n_v B).2;have ca:=(f.n_v B).1;rw[a9,E1 (by decide),ca]at G;obtain⟨b,cb,b2,eb⟩:=amS (f.ok B);obtain⟨f1,f2,f3,f4⟩:=b2.fl;have ck:m[p]!<m[p+1]!:=Ca (by rw[W];exact CQ _) (by omega) Y;obtain⟨o,br⟩:∃s:SV,s=⟨m[p]!,m[p+1]!,b,b2⟩:=⟨_,rfl⟩;have bs:o.c=[.i .i64 m[p]!,.i .i64 m[p+1]!,.i .u8 b.v.k,b.s,b.x,b.t,b.y,.i .i64 b.v.i]:=by rw[br];rfl
  have bt:o.n=⟨m[p]!,m[p+1]!,f.a.v⟩:=by rw[br];unfold SV.n;simp[cb]
  rw[<-bt]at G;have ea:=m9 (H0:=q) (w:=8) (bytes:=96) (r:=o.c) (enc:=SV.c) (l:=acc) (by omega) (by omega);rw[bs]at ea;have au:cJ (acc.map SV.n) o.n=match(acc.map SV.n).getLast? with|some t=>if t.to=m[p]!/\t.v=f.a.v then(acc.map SV.n).dropLast++[⟨t.frm,m[p+1]!,t.v⟩]else acc.map SV.n++[o.n]|none=>[o.n]:=by unfold cJ;rw[bt,E1 (by simp only;omega)];rfl
  have bf:cJ _ o.n=acc.map SV.n++[o.n]->i7 _ _ ((acc++[o]).map SV.n)=iD _:=λh=>by rw[eH,<-I,G,h];rfl
  have U:bD q D.nil (acc.map SV.c++[[.i .i64 m[p]!,.i .i64 m[p+1]!,.i .u8 b.v.k,b.s,b.x,b.t,b.y,.i .i64 b.v.i]])=bD q D.nil ((acc++[o]).map SV.c)/\bH q 8 (acc.map SV.c++[[.i .i64 m[p]!,.i .i64 m[p+1]!,.i .u8 b.v.k,b.s,b.x,b.t,b.y,.i .i64 b.v.i]])=bH q 8 ((acc++[o]).map SV.c):=by rw[eH,<-bs];exact⟨rfl,rfl⟩
  have bg:(acc++[o]).length<=p+1:=by simp;omega
  have E:=hy.under;have Z:=ay P;by_cases h0:acc=[]
  ·have ac:(acc.length:Int)=0:=by rw[h0];rfl
   have ad:cJ (acc.map SV.n) o.n=acc.map SV.n++[o.n]:=by rw[au,h0];rfl
   simp only[go_sem,simprocAttr,ue,F,X,N,P,ln,v,L,<-S,FV.c,B,M,ac,hq,aV,eb,ea,f1,f2,f3,f4];exact⟨u,E _,E _,⟨by omega,by omega⟩,Z,u,J,acc++[o],bg,bf ad,U.1,U.2⟩
  have ae:=V2.2 h0;have ac:(0:Int)<acc.length:=by omega
  have w2:IntKind.i64.wrap (acc.length-1)=((acc.length-1:Nat)):=by rw[wr (by omega) (by omega)];omega
  have k3:0<=((acc.length-1:Nat):Int):=by omega
  have k4:((acc.length-1:Nat):Int)<acc.length:=by omega
  have k5:acc.length-1<acc.length:=by omega
  obtain⟨t,ht⟩:∃t,t=acc[acc.length-1]!:=⟨_,rfl⟩;have aw:=UI h0;rw[<-ht]at aw;have es:=λ{H K}=>FV.same_c t f B (H:=H) (K:=K);by_cases q3:t.to=m[p]!
  ·have bv:=iff_of_true q3 trivial;by_cases q4:t.a.v=f.a.v
   ·have bl:=λ{H K}=>(es (H:=H) (K:=K)).trans (by rw[Rp q4]);simp only[go_sem,simprocAttr,ue,F,X,N,P,ln,v,L,<-S,FV.c,B,M,w2,ac,k3,k4,k5,hq,aV,SV.c,<-ht,bv,bl];obtain⟨t',bw⟩:∃t':SV,t'=⟨t.frm,m[p+1]!,t.a,t.ok⟩:=⟨_,rfl⟩;have cc:cJ (acc.map SV.n) o.n=(acc.set (acc.length-1) t').map SV.n:=by rw[au,aw];simp only;rw[E4 (⟨q3,q4⟩),AAS,UJ (by simpa using h0),bw];rfl
    refine⟨u,ae,E _,ae,Z,u,⟨by omega,by omega⟩,J,acc.set (acc.length-1) t',by rw[gb];omega,?_,?_,?_⟩;·rw[<-I,G,cc]
    ·exact vD (by simp)
    rw[AAS,show t'.c=[.i .i64 t.frm,.i .i64 m[p+1]!,.i .u8 _,t.a.s,t.a.x,t.a.t,t.a.y,.i .i64 _]by rw[bw];rfl]
   have bl:=λ{H K}=>(es (H:=H) (K:=K)).trans (by rw[N2 q4]);have ad:cJ (acc.map SV.n) o.n=acc.map SV.n++[o.n]:=by rw[au,aw];simp only;rw[E1 (λg=>q4 g.2)]
   simp only[go_sem,simprocAttr,ue,F,X,N,P,ln,v,L,<-S,FV.c,B,M,w2,ac,k3,k4,k5,hq,aV,SV.c,<-ht,bv,bl,eb,ea,f1,f2,f3,f4];exact⟨u,ae,E _,ae,Z,u,E _,E _,⟨by omega,by omega⟩,Z,u,J,acc++[o],bg,bf ad,U.1,U.2⟩
  have ad:cJ (acc.map SV.n) o.n=acc.map SV.n++[o.n]:=by rw[au,aw];simp only;rw[E1 (λg=>q3 g.1)]
  simp only[go_sem,simprocAttr,ue,F,X,N,P,ln,v,L,<-S,FV.c,B,M,w2,ac,k3,k4,k5,hq,aV,SV.c,<-ht,q3,eb,ea,f1,f2,f3,f4];exact⟨u,ae,E _,E _,E _,⟨by omega,by omega⟩,Z,u,J,acc++[o],bg,bf ad,U.1,U.2⟩
 have F:¬(p:Int)<m.length:=by omega
 have cd:p=m.length:=by omega
 rw[cd,dn (G1 _)]at I;simp[go_sem,ue,F];exact b1 _ _ _ _ _ _ _ _ I
end
section
open Go.Dm
set_option maxRecDepth 10000
def ana{l:List FV}{x:D}(q:Sl 11 (l.map FV.c) x)(F:l.length<40){key:Nm}{known:Int}:∃(y:D)(m:List SV),ai VS 199 [x,.s key,.i .i64 known] y/\Sl 8 (m.map SV.c) y/\m.map SV.n=iD (cZ (l.map FV.n) key known):=by
 have I:=λ{K}=>amz (key:=key) (known:=known) q.c1 (K:=K);have h:aH VS 199 [x,.s key,.i .i64 known] (λr=>∃d,r=.ret d/\∃m:List SV,Sl 8 (m.map SV.c) d/\m.map SV.n=iD (cZ (l.map FV.n) key known)):=by
  refine .body (vf:=D2) TC rfl ?_;simp(disch:=omega)only[go_sem,simprocAttr,avR,I];refine(amJ q F).mono λr hr=>?_;obtain⟨T,G,d,rfl,t1,t2,t⟩:=hr;rw[<-t1];have ad:T.length<40:=by omega
  obtain⟨b,J⟩:∃b:ab,b.length=G.length/\(∃ds,aW bG G [d]=some ([ds],b)/\Sl 11 (T.map FV.c) ds)/\(T≠[]->∃A,d=.mu A T.length 0 T.length/\b[A]?=some (.ar 11 (T.map FV.c) none true true)):=by
   rcases t with⟨rfl,rfl⟩|⟨a,rfl,k⟩;·exact⟨G,rfl,⟨.nil,rfl,.nil rfl⟩,λh=>absurd rfl h⟩
   have L:aO G a T.length=some (11,T.map FV.c,none,true,false):=by simp[Dm.aO,k]
   refine⟨G.set a (.ar 11 (T.map FV.c) none true true),by simp,⟨.im 11 (T.map FV.c),?_,.im⟩,λh=>⟨a,rfl,K2 (ay k)⟩⟩;simp only[go_sem,simprocAttr,L];rw[E2 (by simp)]
  obtain⟨g1,⟨ds,g2,g3⟩,g4⟩:=J;obtain⟨y,M,e⟩:=amQ g3 (by omega);have u:=λ{K}=>eU (V:=VS) (K:=K) Ub rfl M g2;rw[show D5.own=false from rfl]at u;have N:∀{H:ab},dS H 1 d=some (.i .i64 T.length):=λ{H}=>by rcases t with⟨rfl,rfl⟩|⟨a,rfl,k⟩<;>rfl
  obtain⟨c,f⟩:∃c,c=gw (T.map FV.n):=⟨_,rfl⟩;have v:c.length<1000000:=by have:=amV T;rw[f];omega
  rw[<-f]at e;have P:=λ{H:ab}=>e.n (H:=H);have Q:∃A,A≠b.length/\(T≠[]->d=.mu A T.length 0 T.length/\b[A]?=some (.ar 11 (T.map FV.c) none true true)):=by
   by_cases w:T=[];·exact⟨b.length+1,by omega,λh=>absurd w h⟩
   obtain⟨A,S,z⟩:=g4 w;exact⟨A,by have:=ay z;omega,λ_=>⟨S,z⟩⟩
  obtain⟨A,o,B⟩:=Q;have U:=amY (A:=A) (n:=T.length) (T:=T) (days:=c);simp(disch:=omega)only[go_sem,simprocAttr,u,sB,P];refine⟨⟨⟨by omega,by omega⟩,⟨by omega,by omega⟩,by omega⟩,?_⟩;rw[<-U];obtain⟨g,j⟩:∃g,g=b++[an.ar 1 (eV A T.length T c 0) (some c.length) false false]:=⟨_,rfl⟩;have p:g[b.length]?=some (.ar 1 (eV A T.length T c 0) (some c.length) false false):=by rw[j];exact yG
  have E:T≠[]->g[A]?=some (.ar 11 (T.map FV.c) none true true):=λh=>by rw[j];exact vS (B h).2
  rw[<-j];obtain⟨C,W⟩:∃C,C=b.length:=⟨_,rfl⟩;rw[<-W]at p o⊢;clear j;simp(disch:=omega)only[go_sem,simprocAttr,N];refine am6 e v (by omega) (by rw[f];exact CQ _) p E o (λh=>(B h).1) λc4 c5 ag ah aj ak=>?_;have X:∀{H:ab}{n:Nat},dS H 1 (.mu C n 0 n)=some (.i .i64 n):=λ{H n}=>rfl;simp(disch:=omega)only[go_sem,simprocAttr,X];refine am9 (A:=A) f e v (by omega) (K2 (ay p)) (λh=>by rw[K0 (AAX o)];exact E h) λacc c6 c7 c8 ap aq au av Y=>?_;simp(disch:=omega)only[go_sem,simprocAttr];exact⟨acc,oH rfl 8 _,Y⟩
 obtain⟨d,Z,m,h2,h3⟩:=h.ex;exact⟨d,m,Z,h2,h3⟩
end
section
open Go.Dm
set_option maxRecDepth 10000
structure Fc where
 key:Nm
 frm:Int
 to:Int
 known:Int
 gone:Bool
 v:Vl
 hk:key.length<1000000000000000
instance:Inhabited Fc:=⟨⟨[],0,0,0,false,default,by simp⟩⟩
def Fc.c(f:Fc):List D:=[.s f.key,.i .i64 f.frm,.i .i64 f.to,.i .i64 f.known,.b f.gone,.i .u8 f.v.k,.b f.v.f.s,f.v.f.x,.b f.v.f.t,f.v.f.y,.i .i64 f.v.i]
theorem Fc.len(f:Fc):f.c.length=11:=rfl
def Fc.fl(f:Fc):f.c.all D.flat=true:=by simp[Fc.c,lH,jj,cg,f.v.f.hx.flat,f.v.f.hy.flat]
def Fc.pl(f:Fc):(D.ag f.c).plain=true:=by exact f.fl
def anb(a b:Vl){H:ab}{K:CR->Prop}:ac VS 107 [a.d,b.d] H K↔K (.ret (.b (a.eq b)) H):=by
 have c:=λ{H K}=>RF.same_c a.f b.f (H:=H) (K:=K);refine ai.c (.body yr rfl ?_) yr rfl (by simp[a.pl,b.pl]) (.inl rfl);unfold Vl.eq;simp only[RF.d,RF.cells,Vl.d,Vl.cells]at c⊢;by_cases d:a.k=b.k
 ·have d1:(a.k=(b.k:Int))↔True:=iff_of_true (by omega) trivial;by_cases e:a.i=b.i;·simp[go_sem,simprocAttr,wS,c,d,e,wy]
  simp[go_sem,simprocAttr,wS,e,decide_false]
 have d1:¬(a.k:Int)=b.k:=by omega
 simp[go_sem,simprocAttr,wS,d1,d,decide_false]
def anc{n:Int}{H:ab}{K:CR->Prop}:ac VS 106 [.i .i64 n] H K↔K (.ret (.b (decide (0<=n/\n<65536))) H):=by
 refine ai.c (.body Tc rfl ?_) Tc rfl rfl (.inl rfl);by_cases a:0<=n
 ·by_cases c:n<65536;·simp[go_sem,Lx,a];try simp[a,c]
  simp[go_sem,Lx,a];try simp[a,c]
 simp only[go_sem,Lx,a];grind
def Fc.rng(f:Fc):Prop:=1<=f.key.length/\f.key.length<=24/\0<=f.frm/\f.frm<f.to/\f.to<=65536/\0<=f.known/\f.known<65536
instance(f:Fc):Decidable f.rng:=inferInstanceAs(Decidable (_/\_))
def Fc.right(f:Fc):Bool:=decide f.rng&&(if f.gone=true then f.v.eq default else f.v.valid)
def ane(f:Fc):ai VS 77 [.ag f.c] (.b f.right):=by
 have e:=λ{H K}=>anc (n:=f.known) (H:=H) (K:=K);have o:=λ{H K}=>anb f.v default (H:=H) (K:=K);have p:=λ{H K}=>(Px f.v).c (H:=H) (K:=K) BK rfl (by simp[f.v.pl]) (.inl rfl);rw[show(default:Vl).d=.ag [.i .u8 0,.b false,.nil,.b false,.nil,.i .i64 0]from rfl]at o;simp[Vl.d,Vl.cells]at o p;refine .body SY rfl ?_;unfold Fc.right;simp only[Fc.c];by_cases k:(f.key.length:Int)<1;·rw[N2 (λg=>by have:=g.1;omega)];simp[go_sem,simprocAttr,qY,k]
 by_cases l:24<(f.key.length:Int);·rw[N2 (λg=>by have:=g.2.1;omega)];simp[go_sem,simprocAttr,qY,l]
 by_cases a:f.frm<0;·rw[N2 (λg=>by have:=g.2.2.1;omega)];simp[go_sem,simprocAttr,qY,a]
 by_cases h:f.to<=f.frm;·rw[N2 (λg=>by have:=g.2.2.2.1;omega)];simp[go_sem,simprocAttr,qY,a,h]
 by_cases m:65536<f.to;·rw[N2 (λg=>by have:=g.2.2.2.2.1;omega)];simp[go_sem,simprocAttr,qY,a,h,m]
 by_cases j:0<=f.known/\f.known<65536;·rw[Rp j]at e;rw[Rp ⟨by omega,by omega,by omega,by omega,by omega,j.1,j.2⟩];cases q:f.gone with|true=>simp[go_sem,simprocAttr,qY,k,l,a,h,m,e,o]|false=>simp[go_sem,simprocAttr,qY,k,l,a,h,m,e,p,wy]
 rw[N2 j]at e;rw[N2 (λg=>j g.2.2.2.2.2)];simp only[go_sem,simprocAttr,qY,k,l,a,h,m,e]
def anf(f:Fc){H:ab}{K:CR->Prop}:ac VS 76 (.ag f.c::[]) H K↔K (.ret (.b (!f.right)) H):=by have a:=λ{H K}=>(ane f).c (H:=H) (K:=K) SY rfl (by simp[f.pl]) (.inl rfl);refine ai.c (.body SX rfl ?_) SX rfl (by simp[f.pl]) (.inl rfl);simp only[Fc.c]at a⊢;simp[go_sem,au8,a]
def f9(m:List (Nm×Nat))(key:Nm):Nat:=(@List.lookup Nm Nat instBEqOfDecidableEq key m).getD 0
def nB(m:List (Nm×Nat))(f:Fc):Bool:=decide (f9 m f.key≠0)&&!f.gone&&decide (f9 m f.key≠f.v.k)
def oQ(m:List (Nm×Nat))(f:Fc):List (Nm×Nat):=aS f.key (max (f9 m f.key) f.v.k) m
def gX:List Fc->List (Nm×Nat)->Bool|[],_=>true|f::l,m=>if nB m f=true then false else gX l (oQ m f)
def kE(m:List (Nm×Nat)):List (D×D):=dN (λs:Nm=>D.s s) (λn:Nat=>D.i .u8 n) m
def ang{m:List (Nm×Nat)}{key:Nm}:fj (.c 2) (.s key) false (.i .u8 0) (some (.mp (kE m)))=some (.i .u8 (f9 m key)):=by
 unfold kE f9;rw[sj (ek:=λs:Nm=>D.s s) uX key m false _];have:∀o:Option Nat,(Option.map (λn:Nat=>D.i .u8 (n:Int)) o).getD (.i .u8 0)=.i .u8 ((o.getD 0:Nat):Int):=λo=>by cases o<;>rfl
 grind
def anh{m:List (Nm×Nat)}{key:Nm}{n:Nat}{H:ab}{i:Nat}:iS H (.c 2) i (.s key) (.i .u8 n) (some (.mp (kE m)))=some (H.set i (.mp (kE (aS key n m)))):=om (ev:=λn:Nat=>D.i .u8 n) uX i key n m
def ani{l:List Fc}{i:Nat}{m:List (Nm×Nat)}(h:i<l.length):gX (l.drop i) m=if nB m l[i]! =true then false else gX (l.drop (i+1)) (oQ m l[i]!):=by rw[oz h,Hy l i h];rfl
def anj{l:List Fc}{x:D}(w:Sl 11 (l.map Fc.c) x)(S:l.length<1000000):ac VS 78 [x] [] (λr=>∃d H,r=.ret (.tu [d,.b (gX l [])]) H):=by
 have C:=λ{H:ab}=>w.n (H:=H);have h:=λ{V dr os keep E F Q G H I k J}=>w.q (V:=V) (dr:=dr) (os:=os) (keep:=keep) (loc:=E) (sl:=F) (Q:=Q) (sl':=G) (H:=H) (H':=I) (k:=k) (x:=J);refine .body ak6 rfl rfl ?_;simp[go_sem,au9,C];refine ak.up (λi s=>∃(m:List _)(y z A B:D),gX (l.drop i) m=gX l []/\s=⟨[x,.mnil,.b false,y,z,.i .i64 i,.i .i64 _,x,.mp 0,A,B],[.mp (kE m)]⟩) l.length ⟨[],_,_,_,_,rfl,rfl⟩ ?_;rintro i s hi⟨m,y,z,A,B,q,rfl⟩;by_cases K:i<l.length
 ·have a:(i:Int)<(l.length:Int):=by omega
  have j:(0:Int)<=(i:Int):=by omega
  have t:IntKind.i64.wrap (i+1)=((i+1:Nat)):=by grind[wr]
  have hs:=ani (m:=m) K;obtain⟨f,c⟩:∃f,f=l[i]!:=⟨_,rfl⟩;rw[<-c,q]at hs;have e:=ang (m:=m) (key:=f.key);have u:=λ{n:Nat}{H:ab}{i:Nat}=>anh (m:=m) (key:=f.key) (n:=n) (H:=H) (i:=i);have o:(max (f9 m f.key:Int) f.v.k)=((max (f9 m f.key) f.v.k:Nat)):=by omega
  unfold nB at hs;obtain⟨k,L⟩:∃k,k=f9 m f.key:=⟨_,rfl⟩;rw[<-L]at e hs o;by_cases M:k=0;·have g:((k:Int)=0)↔True:=iff_of_true (by omega) trivial;simp only[go_sem,simprocAttr,zx,h,a,j,<-c,Fc.c,e,g,o,u,t];grind[oQ]
  have g:¬(k:Int)=0:=by omega
  rw[Rp M,wy]at hs;cases p:f.gone with|true=>simp only[go_sem,simprocAttr,zx,h,a,j,<-c,Fc.c,p,e,g,o,u,t];grind[oQ]|false=>
  rw[p,Bool.not_false,wy]at hs;by_cases N:k=f.v.k;·have v:((k:Int)=(f.v.k:Int))↔True:=iff_of_true (by omega) trivial;simp only[go_sem,simprocAttr,zx,h,a,j,<-c,Fc.c,p,e,g,v,o,u,t];grind[oQ]
  have v:¬(k:Int)=(f.v.k:Int):=by omega
  rw[Rp N,E4 rfl]at hs;simp only[go_sem,simprocAttr,zx,h,a,j,<-c,Fc.c,p,e,g,v,hs];grind
 have a:¬(i:Int)<(l.length:Int):=by omega
 have P:i=l.length:=by omega
 rw[P,dn (G1 _)]at q;have:gX l []=true:=q.symm;simp only[go_sem,zx,a,this];grind
def dP(l:List Fc):Bool:=decide (l.length<=2000)&&l.all Fc.right&&gX l []
def Vm{l:List Fc}{x:D}(e:Sl 11 (l.map Fc.c) x)(j:l.length<1000000000):ai VS 49 [x] (.b (dP l)):=by
 have f:=λ{H:ab}=>e.n (H:=H);have c:=λ{H K}=>xJ (agg:=true) (H:=H) (K:=K) (ak5.trans (by kernel_rfl)) (alb.trans (by kernel_rfl)) e (by omega) Fc.len (λ_=>rfl) (by decide) (λa K=>anf a);have i:(l.any λs=>!s.right)=!(l.all Fc.right):=by grind
 rw[i]at c;refine .body GK rfl ?_;unfold dP;by_cases g:2000<(l.length:Int);·rw[N2 (by omega)];simp[go_sem,Ki,f,g]
 rw[Rp (by omega)];cases hr:l.all _ with|false=>rw[hr]at c;simp[go_sem,Ki,f,c,AAF]|true=>rw[hr]at c;simp[go_sem,Ki,f,g,c,wy];refine(anj e (by omega)).mono λr h=>?_;obtain⟨d,H,rfl⟩:=h;simp[go_sem]
def Fc.n(f:Fc):FN:=⟨f.key,f.frm,f.to,f.known,f.gone,if f.gone=true then default else f.v.nv⟩
def Fc.fv{f:Fc}(h:f.right=true):∃g:FV,g.c=f.c/\g.n=f.n:=by
 unfold Fc.right at h;simp only[D0,Hq]at h;obtain⟨hr,c⟩:=h;have j:=hr.2.2.2.1
 cases d:f.gone with|true=>
 rw[d,E4 rfl]at c;unfold Vl.eq at c;simp[D0,Hq]at c;obtain⟨⟨m,z⟩,n⟩:=c;have w:f.v.k=0:=m;have x:f.v.i=0:=n;refine⟨⟨f.key,f.frm,f.to,f.known,true,⟨⟨f.v.k,0,0,f.v.i⟩,.b f.v.f.s,f.v.f.x,.b f.v.f.t,f.v.f.y⟩,by simp[AV.c,jj,cg,f.v.f.hx.flat,f.v.f.hy.flat],(λh=>by cases h),j⟩,?_,?_⟩;·simp only[FV.c,Fc.c,d]
 unfold FV.n Fc.n;rw[d];rfl|false=>
 rw[d,E1 (by decide)]at c;obtain⟨d1,d2⟩:=Vl.nv_ok c;obtain⟨a,o,p,k⟩:=d1.av d2;have e:a.c=f.v.cells:=by have:D.ag _=D.ag a.c:=p;grind
 have l:[D.i .u8 a.v.k,a.s,a.x,a.t,a.y,D.i .i64 a.v.i]=[.i .u8 f.v.k,.b _,f.v.f.x,.b _,f.v.f.y,.i .i64 f.v.i]:=e;refine⟨⟨f.key,f.frm,f.to,f.known,false,a,k.al,λ_=>k,j⟩,?_,?_⟩;·simp only[s0,and_true]at l;obtain⟨q,r,s,t,u,v⟩:=l;simp only[FV.c,Fc.c,d,q,r,s,t,u,v]
 unfold FV.n Fc.n;simp only[d,AAY,if_false,o]
def Vn:∀{l:List Fc},(∀f∈l,f.right=true)->∃m:List FV,m.map FV.c=l.map Fc.c/\m.map FV.n=l.map Fc.n|[],_=>⟨[],rfl,rfl⟩|r::l,h=>by obtain⟨v,a,b⟩:=Fc.fv (h r N1);obtain⟨m,c,d⟩:=Vn λs hs=>h s (M0 _ hs);exact⟨v::m,by grind,by grind⟩
def vT{l:List Fc}(h:dP l=true):∀f∈l,f.right=true:=by grind[dP]
def ank{l:List Fc}{x:D}(a:Sl 11 (l.map Fc.c) x)(j:l.length<40)(hr:dP l=true){key:Nm}{known:Int}:∃(y:D)(m:List SV),ai VS 153 [x,.s key,.i .i64 known] (.tu [y,.i .i64 0])/\Sl 8 (m.map SV.c) y/\m.map SV.n=iD (cZ (l.map Fc.n) key known):=by
 obtain⟨fs,b,k⟩:=Vn (vT hr);have n:fs.length=l.length:=by have:=ka List.length b;grind
 obtain⟨y,m,f,d,o⟩:=ana (by rw[b];exact a) (by omega) (key:=key) (known:=known);have e:=λ{H K}=>(Vm a (by omega)).c (H:=H) (K:=K) GK rfl (by simp[a.pl]) (.inl rfl);rw[hr]at e;have g:=λ{H K}=>f.c (H:=H) (K:=K) TC rfl (by simp[a.pl,aZ,oF]) (.inl rfl);have h:=λm H=>ah d.flat m H;refine⟨y,m,.body Tn rfl ?_,d,by grind⟩;simp[go_sem,avy,e,g,h]
end
section
open Go.Dm
set_option maxRecDepth 10000
def Cc(l:List bV):Prop:=l.Pairwise λr s=>r.a<=s.a
def Cd{α:Type}{p:α->α->Bool}{R:α->α->Prop}(f:∀r s,p r s=true->R r s)(g:∀r s u,R r s->R s u->R r u):∀{l:List α},mw p l=true->l.Pairwise R
 |[],_=>List.Pairwise.nil|[a],_=>ABJ ..|a::b::l,h=>by
  have d:(p a b&&mw p _)=true:=h;rw[D0]at d;have i:=Cd f g d.2;refine List.Pairwise.cons ?_ i;intro c e;rcases S2.1 e with rfl|e;·grind
  exact g _ _ _ (f _ _ d.1) ((hM.1 i).1 c e)
def anl{r s:Rw}(h:(!decide (ny s r<0))=true):r.a<=s.a:=by grind[ny,iX]
def anm{l:List Rw}(h:nz l=true):l.Pairwise λr s=>r.a<=s.a:=Cd (λ_ _ h=>anl h) (λ_ _ _ a b=>by omega) h
def ann(a:Int)(acc:List Rw)(r:Rw):List.Sublist (cH a acc r) (acc++[r]):=by
 unfold cH;split;·exact List.sublist_append_left ..
 split
 ·split;·exact(List.dropLast_sublist acc).append (AAz _)
  exact AAz _
 exact AAz _
def Ce{known:Int}:∀{l acc:List Rw},List.Sublist (l.foldl (cH known) acc) (acc++l)|[],acc=>by simp|r::l,acc=>by have:=(Ce (known:=known)).trans ((ann known acc r).append (AAz l));grind
def HK{t:Tb}(h:t.v=true)(a:Int):Cc (bK a (t.rows.map Rw.n) []):=by
 have hs:nz t.rows=true:=by grind[Tb.v]
 have b:=(anm hs).sublist (by simpa using Ce (known:=a) (acc:=[]));have:=yE (known:=a) (l:=t.rows) (acc:=[]);rw[AAK]at this;rw[this];unfold Cc;rw[AAy];exact b
def ano{l:List bV}{a:Int}(h:Cc l){k:Nat}(j:k<=l.length)(f:k<l.length->a<l[k]!.a)(g:0<k->l[k-1]!.a<=a):l.filter (λr=>decide (r.a<=a))=l.take k:=by
 have d:=AAB.1 h;have e:=(rr k l).symm;have m:(l.take k).filter (λr=>decide (r.a<=a))=l.take k:=by
  rw[AAk];intro r hr;obtain⟨i,hi,rfl⟩:=kz.1 hr;rw[il]at hi;have b:=g (by omega);rw[Hy l _ (by omega)]at b;rw[ABy];by_cases c:i=k-1;·subst c;simpa using b
  have:=d i (k-1) (by omega) (by omega) (by omega);simp only[Hq];omega
 have n:(l.drop k).filter (λr=>decide (r.a<=a))=[]:=by
  rw[x6];intro r hr;obtain⟨i,hi,rfl⟩:=kz.1 hr;rw[nr]at hi;have b:=f (by omega);rw[Hy l k (by omega)]at b;rw[ABz];by_cases c:i=0;·subst c;simpa using b
  have:=d k (k+i) (by omega) (by omega) (by omega);simp only[Hq];omega
 grind
def HL{l:List bV}{a:Int}(h:Cc l){k:Nat}(b:k<=l.length)(c:k<l.length->a<l[k]!.a)(d:0<k->l[k-1]!.a<=a):nP l a=if k=0 then none else some l[k-1]!:=by unfold nP;rw[ano h b c d];grind
def anp(t:Tb)(a:Int){H:ab}{K:CR->Prop}:ac VS 200 [.ag [.s t.name,.b t.two,t.x],.i .i64 a] H K↔K (.ret (bD H .nil ((t.rows.foldl (cH a) []).map Rw.c)) (bH H 7 ((t.rows.foldl (cH a) []).map Rw.c))):=by
 have f:=UX t a;have g:aW bG H [.ag t.c,.i .i64 a]=some _:=mj (by
 intro d e;simp[S2,AAE,or_false]at e;rcases e with rfl|rfl;·exact t.pl
 rfl);have c:=eU (K:=K) G7 rfl f g;rw[show zG.own=true from rfl]at c;have h:eT true (B9 ((t.rows.foldl (cH a) []).map Rw.c)) H=(bD H .nil ((t.rows.foldl (cH a) []).map Rw.c),bH H 7 ((t.rows.foldl (cH a) []).map Rw.c)):=by generalize(t.rows.foldl _ []).map Rw.c=rows;cases rows with|nil=>rfl|cons r j=>rfl
 rw[h]at c;exact c
def anq{a:Int}{K:CR->Prop}(d:∀b,K (.ret .nil (.hb 3 [.i .i64 a]::b))):ac VS 214 [.nil,.fn (.func 215) [] [.hp 0 0]] [.hb 3 [.i .i64 a]] K:=by
 have c:∀{H:ab},dY H 7 .nil none (some (.i .i64 0)) none=some .nil:=λ{H}=>rfl;refine .body TN rfl rfl ?_;simp[go_sem,simprocAttr,aaH];have hs:=qG (g:=258) (cp:=[.hp 2 0,.hp 1 0]) (p:=λ_=>true) (H:=[.hb 3 [.i .i64 a],.hb 42 [.nil],.hb 146 [.fn (.func 215) [] [.hp 0 0]]]) (by omega) (by omega) (λi hi=>absurd hi (ACK i));refine hs.mono λr hr=>?_;obtain⟨k,rfl,e,_⟩:=hr;obtain rfl:k=0:=by omega
 simp[go_sem,c];grind
def anr(r:RV){a:Int}{H:ab}{K:CR->Prop}:ac VS 215 [.ag r.c,.hp 0 0] (.hb 3 [.i .i64 a]::H) K↔K (.ret (.b (decide (a<r.a))) (.hb 3 [.i .i64 a]::H)):=by refine dO (cz.iff_q.2 (.body alu rfl rfl ?_));simp only[RV.c];simp[go_sem,simprocAttr,avZ]
def ant{a:Int}{l:List RV}(j:l≠[])(m:l.length<1000000000){K:CR->Prop}(o:∀d(k:Nat),k<=l.length->(k<l.length->a<l[k]!.a)->(0<k->l[k-1]!.a<=a)->K (.ret (.mu 1 l.length 0 k) (.hb 3 [.i .i64 a]::.ar 7 (l.map RV.c) none true false::d))):ac VS 214 [.mu 1 l.length 0 l.length,.fn (.func 215) [] [.hp 0 0]] [.hb 3 [.i .i64 a],.ar 7 (l.map RV.c) none true false] K:=by
 have q:∀{H:ab},aO (.hb 3 [.i .i64 a]::.ar 7 (l.map RV.c) none true false::H) 1 l.length=some (7,l.map RV.c,none,true,false):=λ{H}=>by simp[Dm.aO]
 refine .body TN rfl rfl ?_;simp[go_sem,simprocAttr,aaH];have hs:=qG (n:=l.length) (g:=258) (cp:=[.hp 3 0,.hp 2 0]) (p:=λi=>decide (a<l[i]!.a)) (H:=[.hb 3 [.i .i64 a],.ar 7 (l.map RV.c) none true false,.hb 42 [.mu 1 l.length 0 l.length],.hb 146 [.fn (.func 215) [] [.hp 0 0]]]) (by omega) (by omega) (λi hi K=>?_)
 ·refine hs.mono λr hr=>?_;obtain⟨k,rfl,s,t,u⟩:=hr;have e:∀{H:ab},dY (.hb 3 [.i .i64 a]::.ar 7 (l.map RV.c) none true false::H) 7 (.mu 1 l.length 0 l.length) none (some (.i .i64 (k:Int))) none=some (.mu 1 l.length 0 k):=λ{H}=>by simp_all[eo,jH,ij,dY]
  simp[go_sem,simprocAttr,e];grind
 have c:=λ{H K}=>anr l[i]! (a:=a) (H:=H) (K:=K);have h:∀{H:ab},cG (.hb 3 [.i .i64 a]::.ar 7 (l.map RV.c) none true false::H) (.mu 1 l.length 0 l.length) (.i .i64 i) 7=some (.ap 1 l.length i 0):=λ{H}=>by grind[cG,fh]
 refine dO (cz.iff_q.2 (.body alD rfl rfl ?_));have v:=λ{args H K}=>iu (V:=VS) (H:=H) (args:=args) (K:=K) (f:=215) (a:=[]) (b:=[.hp 0 0]) (by decide);obtain⟨r,hr⟩:∃r,r=l[i]!:=⟨_,rfl⟩;rw[<-hr]at c⊢;simp[RV.c]at c;simp only[go_sem,simprocAttr,awr,h,hi,<-hr,RV.c,c,bN]
def anu(t:Tb)(h:t.v=true)(v:t.two=false)(d a:Int):aH VS 165 [.ag t.c,.i .i64 a,.i .i64 d] (λr=>match nP (bK d (t.rows.map Rw.n) []) a with|none=>r=.ret (.tu [.ag [.b false,.nil,.b false,.nil],.i .i64 6])|some u=>∃p:QV,p.q=(u.n,u.m)/\r=.ret (.tu [.ag [p.s,p.x,p.t,p.y],.i .i64 0])):=by
 have g:=λ{H K}=>(B8 t).c (H:=H) (K:=K) yo rfl (by simp[t.pl]) (.inl rfl);rw[h]at g;have j:=λ{H K}=>anp t d (H:=H) (K:=K);have x:=HK h d;obtain⟨m,y,C⟩:=Hz (l:=t.rows.foldl (cH d) []) (HA (P:=λr=>r.f.v=true) (λs hs=>by cases hs) λr hr=>UZ (t.v_rows h r hr));have ae:m.length<=400:=by
  have:=ka List.length y;simp only[T3]at this;have:=(Ce (known:=d) (l:=t.rows) (acc:=[])).length_le;have hl:t.rows.length<=400:=by unfold Tb.v at h;simp only[D0,Hq]at h;exact h.1.1.2.2
  simp only[bN]at this;omega
 have E:m.map RV.n=bK d (t.rows.map Rw.n) []:=by rw[C];exact(yE (l:=t.rows) (acc:=[])).symm
 rw[<-y]at j;rw[<-E]at x⊢;simp only[Tb.c]at g;refine .body (vf:=DV) Tv rfl ?_;simp only[Tb.c,v];simp only[v]at g j;simp(disch:=omega)only[go_sem,simprocAttr,avE,g,j];by_cases n:m=[];·subst n;refine anq λF=>?_;have G:∀{H:ab},dS H 1 .nil=some (.i .i64 0):=λ{H}=>rfl;simp(disch:=omega)only[go_sem,simprocAttr,G];trivial
 obtain⟨I,J⟩:=mo (H0:=[.hb 3 [.i .i64 a]]) (w:=7) (enc:=RV.c) n;rw[I,J];refine ant n (by omega) λF k L M N=>?_;have e:=HL (a:=a) x (k:=k) (by simpa using L) (λf=>by rw[T3]at f;have:=M f;rw[Hy m k f]at this;rw[Hy (m.map RV.n) k (by simpa using f),wv];exact this) (λf=>by
 have:=N f;have z:k-1<m.length:=by omega
 rw[Hy m (k-1) z]at this;rw[Hy (m.map RV.n) (k-1) (by simpa using z),wv];exact this);have A:∀{H:ab},dS H 1 (.mu 1 m.length 0 k)=some (.i .i64 k):=λ{H}=>rfl;by_cases B:k=0;·rw[E4 B]at e;have o:((k:Int)=0)↔True:=iff_of_true (by omega) trivial;simp(disch:=omega)only[go_sem,simprocAttr,A,o,e]
 rw[E1 B]at e;have o:((k:Int)=0)↔False:=iff_of_false (by omega) id;have Q:IntKind.i64.wrap ((k:Int)-1)=((k-1:Nat):Int):=by rw[wr (by omega) (by omega)];omega
 have c3:(0:Int)<=((k-1:Nat):Int):=by omega
 have S:((k-1:Nat):Int)<(k:Int):=by omega
 have q:k-1<m.length:=by omega
 rw[Hy (m.map RV.n) (k-1) (by simpa using q),wv,<-getElem!_pos m (k-1) q]at e;obtain⟨r,hr⟩:∃r,r=m[k-1]!:=⟨_,rfl⟩;obtain⟨p,U,V⟩:=UY r.q;rw[<-hr]at e;obtain⟨g1,W,X,Y⟩:=p.fl;have Z:=λm H=>ah g1 m H;have f2:=λm H=>ah W m H;have f3:=λm H=>ah X m H;have f4:=λm H=>ah Y m H;simp(disch:=omega)only[go_sem,simprocAttr,A,o,Q,e,c3,S,q,<-hr,RV.c,V,Z,f2,f3,f4];exact⟨p,U,rfl⟩
end
section
open Go.Dm
set_option maxRecDepth 10000
def fF(y:Nat):Int×Int:=if 2079<y then(0,2)else if 0<=bT (12*(y-1900))/\bT (12*(y-1900))<65536 then(bT (12*(y-1900)),0)else(0,2)
def anv{y:Nat}(u:1900<=y)(v:y<100000):ai VS 213 [.i .i64 (y:Int),.i .i64 1,.i .i64 1] (.tu [.i .i64 (fF y).1,.i .i64 (fF y).2]):=by
 have w:oN y 1=31:=rfl;have f:∀{H K},ac VS 176 [.i .i64 y,.i .i64 1] H K↔K (.ret (.i .i64 31) H):=λ{H K}=>by have:=(UD (y:=y) (m:=1) (by omega)).c (H:=H) (K:=K) GY rfl rfl (.inl rfl);grind
 have g:¬(y:Int)<1900:=by omega
 refine .body TM rfl ?_;unfold fF;by_cases h:2079<y
 ·rw[E4 h];have a:(2079:Int)<y:=by omega
  simp[go_sem,Nq,a]
 rw[E1 h];have a:¬(2079:Int)<y:=by omega
 obtain⟨k,t⟩:∃k,k=12*(y-1900):=⟨_,rfl⟩;rw[<-t];have j:IntKind.i64.wrap (y-1900)=((y-1900:Nat)):=by grind[wr]
 have l:IntKind.i64.wrap (12*((y-1900:Nat)))=k:=by grind[wr]
 have n:IntKind.i64.wrap _=k+1:=wr (by omega) (by omega);have o:IntKind.i64.wrap (k+1-1)=k:=by grind
 have hr:=B1 (m:=k) (by omega);have e:=λ{H K}=>(sJ (m:=k) (by omega)).c (H:=H) (K:=K) qD rfl rfl (.inl rfl);obtain⟨s,hs⟩:∃s,s=bT k:=⟨_,rfl⟩;rw[<-hs]at e hr⊢;have p:IntKind.i64.wrap _=s+1:=wr (by omega) (by omega);have q:IntKind.i64.wrap (s+1-1)=s:=by grind[wr]
 have r:=λ{H K}=>(qH (d:=s)).c (H:=H) (K:=K) oK rfl rfl (.inl rfl);by_cases b:0<=s/\s<65536;·rw[E4 b];simp only[go_sem,simprocAttr,Nq,g,a,f,j,l,n,o,e,p,q,r,Rp b]
 rw[E1 b];simp only[go_sem,simprocAttr,Nq,g,a,f,j,l,n,o,e,p,q,r,N2 b]
structure YrI(I:Nat->ab->Prop)(a b c:D)(m:Nat)(s:St):Prop where h:∃(y:Nat)(a3 a4 a6 a7:D)(H:ab),m+y=2081/\1900<=y/\s=⟨[a,b,c,a3,a4,.i .i64 (y:Int),a6,a7],H⟩/\I y H
variable{x y z:Nat}
def anx{lo hi:Int}{l:Nat}{I:Nat->ab->Prop}{E:ab->Prop}(q:∀i H,I i H->H[z]?=some (.hb 3 [.i .i64 hi]))(t:∀i H,I i H->H[l]?=some (.hb 3 [.i .i64 lo]))(v:∀i H,I i H->(fF i).2=0->(fF i).1<hi->(fF i).1<lo->I (i+1) H)(n:∀i H,I i H->((fF i).2≠0\/hi<=(fF i).1)->E H)(hs:∀i H,I i H->i<=2079->(fF i).2=0->(fF i).1<hi->lo<=(fF i).1->ac VS yF [.yl x,.i .i64 (i:Int)] H (λr=>∃e,(r=.ret (.b true) e/\I (i+1) e)\/(r=.ret (.b false) e/\E e))){H:ab}(w:I 1900 H):ac VS 212 [.yl x,.hp z 0,.hp l 0] H (λr=>∃d e,r=.ret d e/\E e):=by
 refine .body alt rfl rfl ?_;simp[go_sem,avY];refine ak.loop (YrI I _ _ _) 181 ⟨1900,.u,.u,.u,.u,H,rfl,G1 _,rfl,w⟩ ?_;rintro m s⟨y,J,L,M,N,e,P,A,rfl,f⟩;have g:=λ{H K}=>(anv A (by omega)).c (H:=H) (K:=K) TM rfl rfl (.inl rfl);have o:IntKind.i64.wrap ((y:Int)+1)=((y+1:Nat):Int):=by rw[wr (by omega) (by omega)];omega
 have j:=q _ _ f;have p:=t _ _ f;by_cases a:(fF y).2=0
 ·have B:y<=2079:=by refine ot λQ=>?_;unfold fF at a;rw[E4 (by omega)]at a;exact absurd a (by decide)
  by_cases h:hi<=(fF y).1;·simp[go_sem,D3,g,a,h,j];exact⟨_,_,⟨rfl,rfl⟩,n _ _ f (.inr h)⟩
  by_cases k:lo<=(fF y).1
  ·simp[go_sem,D3,g,a,h,k,j,p];refine(hs _ _ f B a (by omega) k).mono ?_;rintro r⟨C,⟨rfl,F⟩|⟨rfl,G⟩⟩;·simp[go_sem];exact⟨m-1,by omega,y+1,_,_,_,_,C,by omega,by omega,by rw[o],F⟩
   simp[go_sem];exact⟨_,_,⟨rfl,rfl⟩,G⟩
  simp[go_sem,D3,g,a,h,k,j,p];exact⟨m-1,by omega,y+1,_,_,_,_,e,by omega,by omega,by rw[o],v _ _ f a (by omega) (by omega)⟩
 simp[go_sem,D3,g,a];exact⟨_,_,⟨rfl,rfl⟩,n _ _ f (.inl a)⟩
end
section
open Go.Dm
set_option maxRecDepth 10000
def qJ(rows:List bV)(a y:Int):EQ:=match nP (bK a rows []) y with|none=>.error 6|some r=>.ok (r.n,r.m)
def sK(rows:List bV)(c:Int)(acc:Fq)(y:Int):EQ:=match qJ rows c y with|.error e=>.error e|.ok a=>match nO (1,1) a with|.error e=>.error e|.ok b=>nM acc b
def jV(rows:List bV)(b lo hi:Int):Nat->Nat->Fq->EQ|0,_,acc=>.ok acc|n+1,y,acc=>if(fF y).2≠0\/hi<=(fF y).1 then .ok acc else if(fF y).1<lo then jV rows b lo hi n (y+1) acc else match sK rows b acc y with|.error e=>.error e|.ok a=>jV rows b lo hi n (y+1) a
def anz(t:Tb)(h:t.v=true)(c:t.two=false)(b a:Int):∃r,ai VS 165 [.ag t.c,.i .i64 a,.i .i64 b] r/\bh (qJ (t.rows.map Rw.n) b a) r:=by refine aH.ex ((anu t h c b a).mono λr hr=>?_);grind[qJ,nP,bK,Rw.n,bh.er,bh.ok]
def anA(t:Tb)(h:t.v=true)(g:t.two=false)(d y:Int):∃r,bh (qJ (t.rows.map Rw.n) d y) r/\∀{q:QV}{a b c:Nat}{H:ab}{K:CR->Prop},H[a]?=some (.hb 44 [.s t.name,.b false,t.x])->H[b]?=some (.hb 3 [.i .i64 y])->H[c]?=some (.hb 3 [.i .i64 d])->(ac VS 164 [.ag [q.s,q.x,q.t,q.y],.hp a 0,.hp b 0,.hp c 0] H K↔K (.ret r H)):=by
 obtain⟨r,r1,r2⟩:=anz t h g d y;have f:=λ{H K}=>r1.c (H:=H) (K:=K) Tv rfl (by simp[t.pl,aZ]) (.inl rfl);simp[Tb.c,g]at f;refine⟨r,r2,λ{q a b c H K}j k l=>dO (cz.iff_q.2 (.body alj rfl rfl ?_))⟩;rcases r2.h with⟨p,m,rfl⟩|⟨e,m,n,rfl⟩;·simp[go_sem,aai,j,k,l,f]
 simp[go_sem,aai,j,k,l,f]
def anB(o q:QV):∃r,bh (nO o.q q.q) r/\∀{a:Nat}{H:ab}{K:CR->Prop},H[a]?=some (.hb 34 [o.s,o.x,o.t,o.y])->(ac VS 166 [.ag [q.s,q.x,q.t,q.y],.hp a 0] H K↔K (.ret r H)):=by
 obtain⟨r,r2,r1⟩:=o.add q;refine⟨r,r2,λ{a H K}b=>dO (cz.iff_q.2 (.body alk rfl rfl ?_))⟩;rcases r2.h with⟨p,c,rfl⟩|⟨e,c,d,rfl⟩;·simp[go_sem,aaj,b,r1]
 simp[go_sem,aaj,b,r1]
def anC(o q:QV):∃r,bh (nM o.q q.q) r/\∀{a:Nat}{H:ab}{K:CR->Prop},H[a]?=some (.hb 34 [o.s,o.x,o.t,o.y])->(ac VS 168 [.ag [q.s,q.x,q.t,q.y],.hp a 0] H K↔K (.ret r H)):=by
 obtain⟨r,r2,r1⟩:=o.mul q;refine⟨r,r2,λ{a H K}b=>dO (cz.iff_q.2 (.body alm rfl rfl ?_))⟩;rcases r2.h with⟨p,c,rfl⟩|⟨e,c,d,rfl⟩;·simp[go_sem,aak,b,r1]
 simp[go_sem,aak,b,r1]
def anD(t:Tb)(h:t.v=true)(L:t.two=false)(v y:Int)(one acc:QV)(M:one.q=(1,1)):∃r,bh (sK (t.rows.map Rw.n) v acc.q y) r/\∀{a b c d e:Nat}{H:ab}{K:CR->Prop},H[a]?=some (.hb 44 [.s t.name,.b false,t.x])->H[b]?=some (.hb 3 [.i .i64 y])->H[c]?=some (.hb 3 [.i .i64 v])->H[d]?=some (.hb 34 [one.s,one.x,one.t,one.y])->H[e]?=some (.hb 34 [acc.s,acc.x,acc.t,acc.y])->(ac VS 169 [.ag [one.s,one.x,one.t,one.y],.sv 1 [[.fn (.func 164) [] [.hp a 0,.hp b 0,.hp c 0]],[.fn (.func 166) [] [.hp d 0]],[.fn (.func 168) [] [.hp e 0]]]] H K↔K (.ret r H)):=by
 obtain⟨r1,N,p⟩:=anA t h L v y;have w:IntKind.i64.wrap 1=1:=by decide
 have B:IntKind.i64.wrap 2=2:=by decide
 have P:IntKind.i64.wrap 3=3:=by decide
 have c1:=λ{b args H K}=>iu (V:=VS) (H:=H) (args:=args) (K:=K) (f:=164) (a:=[]) (b:=b) (by decide);have c2:=λ{b args H K}=>iu (V:=VS) (H:=H) (args:=args) (K:=K) (f:=166) (a:=[]) (b:=b) (by decide);have c3:=λ{b args H K}=>iu (V:=VS) (H:=H) (args:=args) (K:=K) (f:=168) (a:=[]) (b:=b) (by decide);have u:∀{a b c d e:Nat}{H:ab},cG H (.sv 1 [[.fn (.func 164) [] [.hp a 0,.hp b 0,.hp c 0]],[.fn (.func 166) [] [.hp d 0]],[.fn (.func 168) [] [.hp e 0]]]) (.i .i64 0) 1=some _:=λ{_ _ _ _ _ _}=>rfl;have x:∀{a b c d e:Nat}{H:ab},cG H (.sv 1 [[.fn (.func 164) [] [.hp a 0,.hp b 0,.hp c 0]],[.fn (.func 166) [] [.hp d 0]],[.fn (.func 168) [] [.hp e 0]]]) (.i .i64 1) 1=some _:=λ{_ _ _ _ _ _}=>rfl;have C:∀{a b c d e:Nat}{H:ab},cG H (.sv 1 [[.fn (.func 164) [] [.hp a 0,.hp b 0,.hp c 0]],[.fn (.func 166) [] [.hp d 0]],[.fn (.func 168) [] [.hp e 0]]]) (.i .i64 2) 1=some _:=λ{_ _ _ _ _ _}=>rfl;unfold sK;rcases N.h with⟨Q,z1,rfl⟩|⟨S,z1,E,rfl⟩
 ·rw[z1];simp only;obtain⟨r2,F,z⟩:=anB one Q;rw[M]at F;rcases F.h with⟨U,z2,rfl⟩|⟨W,z2,G,rfl⟩
  ·rw[z2];obtain⟨r3,u3,I⟩:=anC acc U;rcases u3.h with⟨p3,z3,rfl⟩|⟨X,z3,J,rfl⟩;·refine⟨_,bh.ok z3,λ{a b c d e H K}g j k m n=>dO (cz.iff_q.2 (.body BR rfl rfl ?_))⟩;have l:=λ{q K}=>p (q:=q) (K:=K) g j k;have o:=λ{K}=>z (K:=K) m;have A:=λ{K}=>I (K:=K) n;simp[go_sem,DX];rw[bJ];simp[go_sem,simprocAttr,DW,u,l,w];rw[bJ];simp[go_sem,simprocAttr,x,o,B];rw[bJ];simp[go_sem,simprocAttr,C,A,P];rw[bJ];simp[go_sem,simprocAttr]
   have Y:¬X=0:=J;refine⟨_,bh.er z3 J,λ{a b c d e H K}g j k m n=>dO (cz.iff_q.2 (.body BR rfl rfl ?_))⟩;have l:=λ{q K}=>p (q:=q) (K:=K) g j k;have o:=λ{K}=>z (K:=K) m;have A:=λ{K}=>I (K:=K) n;simp[go_sem,DX];rw[bJ];simp[go_sem,simprocAttr,DW,u,l,w];rw[bJ];simp[go_sem,simprocAttr,x,o,B];rw[bJ];simp[go_sem,simprocAttr,C,A,Y]
  have Z:¬W=0:=G;rw[z2];refine⟨_,bh.er rfl G,λ{a b c d e H K}g j k m n=>dO (cz.iff_q.2 (.body BR rfl rfl ?_))⟩;have l:=λ{q K}=>p (q:=q) (K:=K) g j k;have o:=λ{K}=>z (K:=K) m;simp[go_sem,DX];rw[bJ];simp[go_sem,simprocAttr,DW,u,l,w];rw[bJ];simp[go_sem,simprocAttr,x,o,Z]
 have aa:¬S=0:=E;rw[z1];refine⟨_,bh.er rfl E,λ{a b c d e H K}g j k m n=>dO (cz.iff_q.2 (.body BR rfl rfl ?_))⟩;have l:=λ{q K}=>p (q:=q) (K:=K) g j k;simp[go_sem,DX];rw[bJ];simp[go_sem,simprocAttr,DW,u,l,aa]
end
section
open Go.Dm
set_option maxRecDepth 10000
def kN(a:Bool)(rows:List bV)(lo hi b:Int):EQ:=if a=true then .error 2 else if 0<=lo/\lo<=65536/\0<=hi/\hi<=65536 then jV rows b lo hi 181 1900 (1,1)else .error 2
def anE(a b:Int):ai VS 162 [.i .i64 a,.i .i64 b] (.b (decide (0<=a/\a<=65536/\0<=b/\b<=65536))):=by
 refine .body Tu rfl ?_;by_cases c:0<=a
 ·by_cases d:a<=65536
  ·by_cases e:0<=b
   ·by_cases f:b<=65536;·simp[go_sem,zF,c,d,e]
    simp[go_sem,zF,c,d,e]
   simp only[go_sem,zF,c,d,e];try simp
  simp only[go_sem,zF,c,d];simp
 simp only[go_sem,zF,c];simp
def yH{base:Nat}{H:ab}{i t:Nat}{c:List D}(h:H[i]?=some (.hb t c)):(eA base H)[i]?=some (.hb t c):=by grind[eA,ay]
def Cf{H:ab}{f:List D}{a b c d:D}{e:Int}{r:EQ}(g:H[2]?=some (.hb 34 [a,b,c,d]))(h:H[3]?=some (.hb 54 [.i .i64 e]))(j:f[4]?=some (.hp 2 0))(k:f[5]?=some (.hp 3 0))(l:a.flat=true)(n:b.flat=true)(o:c.flat=true)(p:d.flat=true)(hr:bh r (.tu [.ag [a,b,c,d],.i .i64 e])):mq [.hb 4 4 true,.hb 5 1 false] 0 (fE false λv=>∃d,v=.ret d/\bh r d) .rt ⟨f,H⟩:=by
 have s:=yH (base:=0) g;have u3:=yH (base:=0) h;have g1:=λm H=>ah l m H;have t:=λm H=>ah n m H;have u:=λm H=>ah o m H;have w:=λm H=>ah p m H;rw[Sy];generalize eA 0 H=U at*;have q:de ⟨f,U⟩ [.hb 4 4 true,.hb 5 1 false]=some [.ag [a,b,c,d],.i .i64 e]:=by simp[dc.ev,cT,j,k,s,u3,de,val];rfl
 refine⟨_,q,?_⟩;simp[go_sem,g1,t,u,w];exact hr
def vU(t:Tb)(lo hi f:Int)(one acc:QV)(a b c d:D)(e:Int)(s:RS)(X:ab):ab:=.hb 44 [.s t.name,.b false,t.x]::.hb 3 [.i .i64 f]::.hb 34 [a,b,c,d]::.hb 54 [.i .i64 e]::.hb 34 [one.s,one.x,one.t,one.y]::.hb 34 [acc.s,acc.x,acc.t,acc.y]::.hb 3 [.i .i64 lo]::.hb 3 [.i .i64 hi]::.df::.yh r0.f r0.path 0 r0.nt r0.tm [.ag [.s t.name,.b false,t.x],.i .i64 lo,.i .i64 hi,.i .i64 f,.hp 2 0,.hp 3 0,.b false,.fn (.func 212) [] [.hp 7 0,.hp 6 0],.u,.u,.hp 0 0,.u,.hp 1 0,.hp 4 0,.hp 5 0,.u,.u,.u,.u,.u] s::X
structure HM(t:Tb)(lo hi known:Int)(one:QV)(R:EQ)(y:Nat)(G:ab):Prop where h:∃(acc:QV)(X:ab),y<=2080/\jV (t.rows.map Rw.n) known lo hi (2081-y) y acc.q=R/\G=vU t lo hi known one acc (.b false) .nil (.b false) .nil 0 .rd X
structure Vo(t:Tb)(lo hi known:Int)(one:QV)(R:EQ)(G:ab):Prop where h:(∃(acc:QV)(X:ab),R=.ok acc.q/\G=vU t lo hi known one acc (.b false) .nil (.b false) .nil 0 .rd X)\/(∃(acc:QV)(e:Int)(X:ab),e≠0/\R=.error e/\G=vU t lo hi known one acc (.b false) .nil (.b false) .nil e .dr X)
def anF{t:Tb}(h:t.v=true)(j:t.two=false){lo hi c:Int}{one:QV}(k:one.q=(1,1)){R:EQ}{y:Nat}{G:ab}(l:HM t lo hi c one R y G)(o:y<=2079)(q:(fF y).2=0)(s:(fF y).1<hi)(v:lo<=(fF y).1):ac VS yF [.yl 9,.i .i64 (y:Int)] G (λr=>∃d,(r=.ret (.b true) d/\HM t lo hi c one R (y+1) d)\/(r=.ret (.b false) d/\Vo t lo hi c one R d)):=by
 obtain⟨acc,X,w,a,rfl⟩:=l.h;obtain⟨r,u,m⟩:=anD t h j c y one acc k;rw[show 2081-y=(2080-y)+1 by omega]at a;unfold jV at a;rw[E1 (by omega),E1 (by omega)]at a;unfold vU;refine ac.round vM rfl Uy ⟨rfl,rfl,rfl,rfl,rfl⟩ ?_;simp only[go_sem,simprocAttr,avn,gP];refine⟨_,_,_,_,_,_,rfl,?_⟩;rw[m rfl (by simp) rfl rfl rfl];rcases u.h with⟨p,f,rfl⟩|⟨e,f,g,rfl⟩;·rw[f]at a;simp only[go_sem];exact⟨_,_,_,_,_,_,rfl,_,.inl ⟨rfl,p,_,by omega,by grind,rfl⟩⟩
 rw[f]at a;have n:¬e=0:=g;simp only[go_sem,n];exact⟨_,_,_,_,_,_,rfl,_,.inr ⟨rfl,⟨.inr ⟨acc,e,_,g,a.symm,rfl⟩⟩⟩⟩
def anG(t:Tb)(h:t.v=true)(lo hi g:Int):∃r,ai VS 120 [.ag t.c,.i .i64 lo,.i .i64 hi,.i .i64 g] r/\bh (kN t.two (t.rows.map Rw.n) lo hi g) r:=by have f:=λ{H K}=>(B8 t).c (H:=H) (K:=K) yo rfl (by simp[t.pl]) (.inl rfl);rw[h]at f;have q:=λ{H K}=>(anE lo hi).c (H:=H) (K:=K) Tu rfl rfl (.inl rfl);simp[Tb.c]at f;unfold kN;cases k:t.two with|true=>rw[k]at f;rw[E4 rfl];refine aH.ex (aH.bodyR BN rfl rfl ?_);simp only[Tb.c,k];generalize l:mq _ 0 _=Q;simp[go_sem,simprocAttr,LQ,f];rw[<-l];exact Cf rfl rfl rfl rfl rfl rfl rfl rfl (bh.er rfl (by decide))|false=>
 rw[k]at f;rw[E1 (by decide)];by_cases o:0<=lo/\lo<=65536/\0<=hi/\hi<=65536
 ·rw[E4 o];obtain⟨one,o1,o2⟩:=QV.int (n:=1) (by omega);refine aH.ex (aH.bodyR BN rfl rfl ?_);simp only[Tb.c,k];generalize l:mq _ 0 _=Q;simp[go_sem,simprocAttr,LQ,f,q,Rp o,o2];have v:∀{H:ab}{K:CR->Prop},K (.ret (.fn (.func 212) [] [.hp _ 0,.hp _ 0]) (H++[.hb 3 [.i .i64 lo],.hb 3 [.i .i64 hi]]))->ac VS 163 [.i .i64 lo,.i .i64 hi] H K:=λ{H K}w=>by refine .body (vf:=DU) ali rfl rfl ?_;simp(disch:=omega)only[go_sem,simprocAttr,avD];exact w
  refine v ?_;simp(disch:=omega)only[go_sem,simprocAttr];rw[yi Uy rfl (by decide)];refine(anx (lo:=lo) (hi:=hi) (I:=HM t lo hi g one (jV (t.rows.map Rw.n) g lo hi 181 1900 (1,1))) (E:=Vo t lo hi g one (jV (t.rows.map Rw.n) g lo hi 181 1900 (1,1))) ?_ ?_ ?_ ?_ (λi H b s m u p=>anF h k o1 b s m u p) ⟨one,[],by omega,by rw[o1],rfl⟩).mono ?_;·intro i H b;obtain⟨acc,X,_,_,rfl⟩:=b.h;rfl
  ·intro i H b;obtain⟨acc,X,_,_,rfl⟩:=b.h;rfl
  ·intro i H b m u p;obtain⟨acc,X,x,a,rfl⟩:=b.h;have s:i<=2079:=by refine ot λG=>?_;unfold fF at m;rw[E4 (by omega)]at m;exact absurd m (by decide)
   rw[show 2081-i=(2080-i)+1 by omega]at a;unfold jV at a;rw[E1 (by omega),E4 p]at a;exact⟨acc,X,by omega,by rw[show 2081-(i+1)=2080-i by omega];exact a,rfl⟩
  ·intro i H b j;obtain⟨acc,X,x,a,rfl⟩:=b.h;rw[show 2081-i=(2080-i)+1 by omega]at a;unfold jV at a;rw[E4 j]at a;exact⟨.inl ⟨acc,X,a.symm,rfl⟩⟩
  rintro r⟨d,J,rfl,y⟩;rcases y.h with⟨acc,X,a,rfl⟩|⟨acc,e,X,z,a,rfl⟩;·show oI _ 9 _ _;unfold vU;rw[vE rfl];simp(disch:=omega)only[go_sem,simprocAttr];rw[<-l];obtain⟨A,B,C,F⟩:=acc.fl;exact Cf rfl rfl rfl rfl A B C F (bh.ok a)
  show oI _ 9 _ _;unfold vU;rw[Sw rfl];simp(disch:=omega)only[go_sem,simprocAttr];rw[<-l];exact Cf rfl rfl rfl rfl rfl rfl rfl rfl (bh.er a z)
 rw[E1 o];refine aH.ex (aH.bodyR (vf:=wT) BN rfl rfl ?_);simp only[Tb.c,k];generalize l:mq wT.res 0 (fE wT.own _)=Q;simp(disch:=omega)only[go_sem,simprocAttr,LQ,f,q,N2 o];rw[<-l];exact Cf rfl rfl rfl rfl rfl rfl rfl rfl (bh.er rfl (by decide))
end
section
open Go.Dm
set_option maxRecDepth 10000
def anH{n:Int}{m:Nat}{d:D}(a:Fr n m d)(f:eL n m):ai VS 114 [d] (.i .i64 (mI ⟨2,n,m,0⟩)):=by
 obtain⟨W,X,Y,d0,F,v,G⟩:=B4 (-2147483648) (by decide) (by decide);obtain⟨Z,I,b,d1,J,w,L⟩:=B4 2147483647 (by decide) (by decide);obtain⟨a2,M,e,d2,N,z,u3⟩:=B4 1 (by decide) (by decide);have l:=λ{H K}=>F.c (H:=H) (K:=K) sE rfl rfl (.inl rfl);have A:=λ{H K}=>J.c (H:=H) (K:=K) sE rfl rfl (.inl rfl);have P:=λ{H K}=>N.c (H:=H) (K:=K) sE rfl rfl (.inl rfl);have g:=λ{H K}=>(xg a v f G).c (H:=H) (K:=K) sG rfl (by simp[a.pl,v.pl]) (.inl rfl);have o:=λ{H K}=>(xg a w f L).c (H:=H) (K:=K) sG rfl (by simp[a.pl,w.pl]) (.inl rfl);obtain⟨p,Q⟩:∃p,p=di (n*((1:Nat))) (-2147483648*m):=⟨_,rfl⟩;obtain⟨q,S⟩:∃q,q=di (n*((1:Nat))) (2147483647*m):=⟨_,rfl⟩;rw[<-Q]at g;rw[<-S]at o;obtain⟨r,r1,r2⟩:=acH a z f u3 (by decide) (mode:=3) (by omega);have B:=λ{H K}=>r1.c (H:=H) (K:=K) BO rfl (by simp[a.pl,z.pl,aZ]) (.inl rfl);have U:=λ{H K}=>lq (H:=H) (K:=K);obtain⟨x,y,rfl,_,_⟩:=a.h;simp[me]at B;have C:p<0↔n< -2147483648*m:=by grind[di]
 have E:0<q↔2147483647*m<n:=by grind[di]
 refine .body Tf rfl ?_;unfold mI;by_cases b:p<0;·rw[E4 (C.1 b)];simp[go_sem,LG,l,g,b]
 rw[E1 (λh=>b (C.2 h))];by_cases e:0<q;·rw[E4 (E.1 e)];simp[go_sem,LG,l,g,b,A,o,e]
 rw[E1 (λh=>e (E.2 h))];have hm:=f.z;obtain⟨k,s⟩:∃k,k=n/m:=⟨_,rfl⟩;have I:-2147483648<=k:=by rw[s];exact(Int.le_ediv_iff_mul_le (by omega)).2 (by omega)
 have M:k<=2147483647:=by rw[s];exact Int.ediv_le_of_le_mul (by omega) (by omega)
 have hr:nW 3 (n*((1:Nat))) (m*(1:Int).natAbs)*1=k:=by grind[nW,iJ]
 rw[hr]at r2;obtain⟨d9,t|⟨t,_⟩⟩:=r2.h
 ·obtain⟨_,_,rfl,h4⟩:=t;have u:Fr k 1 d9:=by simp_all
  have j:eL k 1:=Ah (by omega);obtain⟨x9,y9,rfl,_,_⟩:=u.h;have hi:=acA u j;rw[E4 rfl,show ib k=true by grind[ib],E4 rfl,E4 rfl]at hi;have V:=λ{H K}=>hi.c (H:=H) (K:=K) yp rfl (by simp[u.pl]) (.inl rfl);simp[go_sem,LG,l,g,b,A,o,e,P,B,U,V];exact s
 refine absurd ?_ t;have j:eL k 1:=Ah (by omega);simpa using And.intro j.bn j.bm
end
section
open Go.Dm
set_option maxRecDepth 10000
def vV(mode:Int)(x y:NV):NR:=if mode<1\/6<mode then .er 185 else if y.n<=0 then .er 181 else pr x.k (nW mode.toNat (x.n*y.m) (x.m*y.n.natAbs)*y.n) y.m
def anI{x y:NV}{d e:D}(w:VD x d)(z:VD y e)(A:x.ok)(B:y.ok)(o:x.k=2\/x.k=3)(C:y.k=2\/y.k=3)(mode:Int):aH VS 94 [d,e,.i .i64 mode] (lS (vV mode x y)):=by
 obtain⟨V,W,t1,X,rfl,p⟩:=w.cs;obtain⟨Y,Z,t2,y2,rfl,f⟩:=z.cs;have E:=(A.f o).1;have k:=(B.f C).1;obtain⟨a0,b0,c0,d0,F,u,G⟩:=B4 0 (by decide) (by decide);have l:=λ{H K}=>F.c (H:=H) (K:=K) sE rfl rfl (.inl rfl);have g:=λ{H K}=>(xg f u k G).c (H:=H) (K:=K) sG rfl (by simp[f.pl,u.pl]) (.inl rfl);have z1:=λ{H K}=>eZ (e:=185) (H:=H) (K:=K);have z2:=λ{H K}=>eZ (e:=181) (H:=H) (K:=K);have I:=λ{H K}=>lq (H:=H) (K:=K);have J:=λ{H K}=>kr (e:=3) (by decide) (H:=H) (K:=K);unfold vV;refine aH.body S6 rfl ?_;by_cases a:mode<1;·rw[E4 (.inl a)];simp[go_sem,zA,a,z1]
 by_cases b:6<mode;·rw[E4 (.inr b)];simp[go_sem,zA,b,z1]
 rw[E1 (by omega)];obtain⟨q,L⟩:∃q,q=di (y.n*((1:Nat))) (0*y.m):=⟨_,rfl⟩;rw[<-L]at g;have v:q<=0↔y.n<=0:=by grind[di]
 by_cases c3:q<=0;·rw[E4 (v.1 c3)];simp[go_sem,simprocAttr,zA,a,b,l,g,c3,z2]
 rw[E1 (λh=>c3 (v.2 h))];have M:0<y.n:=by omega
 obtain⟨j,N⟩:=AAG (show 0<=mode by omega);subst N;obtain⟨r,r1,r2⟩:=acH p f E k M (mode:=j) (by omega);have m:=λ{H K}=>r1.c (H:=H) (K:=K) BO rfl (by simp[p.pl,f.pl,aZ]) (.inl rfl);rcases Ag o k.z r2 with⟨s,x',t,y',n',m',n,rfl,P,Q,S,U,hv,ho⟩|⟨n,rfl⟩;·simp(disch:=omega)[go_sem,simprocAttr,zA,a,b,l,g,c3,w8,m,I,n,ah P,ah Q,ah S,ah U];grind
 unfold pk at m;simp(disch:=omega)[go_sem,simprocAttr,zA,a,b,l,g,c3,w8,m,J,n]
def lL{P:D->Prop}{lo hi:Int}(h:∃r,P r/\vN lo hi r):∃n e:Int,P (.tu [.i .i64 n,.i .i64 e])/\lo<=n/\n<=hi:=by obtain⟨r,a,n,e,rfl,b⟩:=h;grind
noncomputable def kO(d:Int):Int×Int:=(Classical.choose (lL (Hl d)),Classical.choose (i4 (lL (Hl d))))
def anJ(d:Int):ai VS 91 [.i .i64 d] (.tu [.i .i64 (kO d).1,.i .i64 (kO d).2])/\0<=(kO d).1/\(kO d).1<=2154:=i4 (i4 (lL (Hl d)))
noncomputable def oR(m:Int):Int×Int:=(Classical.choose (lL (Hm m)),Classical.choose (i4 (lL (Hm m))))
def anK(m:Int):ai VS 92 [.i .i64 m] (.tu [.i .i64 (oR m).1,.i .i64 (oR m).2])/\-1000000<=(oR m).1/\(oR m).1<=1000000:=i4 (i4 (lL (Hm m)))
noncomputable def oS(d m:Int):Int×Int:=(Classical.choose (lL (B3 (d:=d) (m:=m))),Classical.choose (i4 (lL (B3 (d:=d) (m:=m)))))
def anL(d m:Int):ai VS 187 [.i .i64 d,.i .i64 m] (.tu [.i .i64 (oS d m).1,.i .i64 (oS d m).2])/\0<=(oS d m).1/\(oS d m).1<=65535:=i4 (i4 (lL (B3)))
noncomputable def oT(a b:Int):Int×Int:=(Classical.choose (lL (Hn a b)),Classical.choose (i4 (lL (Hn a b))))
def anM(a b:Int):ai VS 133 [.i .i64 a,.i .i64 b] (.tu [.i .i64 (oT a b).1,.i .i64 (oT a b).2])/\-3000<=(oT a b).1/\(oT a b).1<=3000:=i4 (i4 (lL (Hn a b)))
end
section
open Go.Dm
set_option maxRecDepth 10000
noncomputable def sM(a:Nat)(x y:NV):NR:=if(oS x.i (if a=8 then-y.i else y.i)).2=0 then rp (oS x.i (if a=8 then-y.i else y.i)).1 else .er (oS x.i (if a=8 then-y.i else y.i)).2
def anN{j:Nat}(q:j=7\/j=8){x y:NV}{d e:D}(A:VD x d)(B:VD y e)(E:x.ok)(C:y.ok)(F:x.k=4)(G:y.k=6):aH VS 129 [.i .u8 j,d,e] (lS (sM j x y)):=by
 obtain⟨I,J,t1,L,rfl,M⟩:=A.cs;obtain⟨N,P,Q,S,rfl,U⟩:=B.cs;obtain⟨n,h⟩:∃n,n=if j=8 then-y.i else y.i:=⟨_,rfl⟩;have r2:=C.rng;have r:IntKind.i64.wrap (0-y.i)=-y.i:=by grind[wr]
 have u:=λ{H K}=>lq (H:=H) (K:=K);have d4:(x.k:Int)=4:=by omega
 have k:(y.k:Int)=6:=by omega
 unfold sM;rw[<-h];have l:=λ{H K}=>(anL x.i n).1.c (H:=H) (K:=K) G5 rfl rfl (.inl rfl);have w:=Py (n:=(oS x.i n).1);refine aH.body oL rfl ?_;by_cases m:(oS x.i n).2=0
 ·rcases q with rfl|rfl
  ·rw[E1 (by decide)]at h;subst h;simp[go_sem,simprocAttr,lQ,d4,k,l,m,u];refine ac.ans w qC rfl rfl rfl (λv s x t y o a b c e f g=>?_) (λe p=>?_);·simp[go_sem,ah a,ah b,ah c,ah e,o];grind
   simp[go_sem,p]
  rw[E4 rfl]at h;subst h;simp only[go_sem,simprocAttr,lQ,d4,k,r,l,m,u];refine ac.ans w qC rfl rfl rfl (λv s x t y o a b c e f g=>?_) (λe p=>?_);·simp[go_sem,ah a,ah b,ah c,ah e,o];grind
  simp[go_sem,p]
 rw[E1 m];have z:=λ{H K}=>kr m (H:=H) (K:=K);rcases q with rfl|rfl;·rw[E1 (by decide)]at h;subst h;simp[go_sem,simprocAttr,lQ,d4,k,l,z]
 rw[E4 rfl]at h;subst h;simp only[go_sem,simprocAttr,lQ,d4,k,r,l,z]
def anO{h:Nat}(n:h=7\/h=8){x y:NV}{d e:D}(j:VD x d)(k:VD y e)(o:x.ok)(p:y.ok)(q:x.k=4)(r:y.k=6):aH VS 95 [.i .u8 h,d,e] (lS (sM h x y)):=by
 have hs:=anN n j k o p q r;have u:=j;have w:=k;obtain⟨z,A,t1,B,rfl,C⟩:=j.cs;obtain⟨E,F,G,H,rfl,I⟩:=k.cs;have J:=u.pl;have K:=w.pl;refine aH.body yq rfl ?_;rcases n with rfl|rfl
 ·simp[go_sem,jv];refine ac.ans hs oL rfl rfl (by grind[aZ]) (λv s x t y l a b c e f g=>?_) (λe m=>?_);·simp[go_sem,ah a,ah b,ah c,ah e,l];grind
  simp[go_sem,m]
 simp[go_sem,simprocAttr,jv];refine ac.ans hs oL rfl rfl (by grind[aZ]) (λv s x t y l a b c e f g=>?_) (λe m=>?_);·simp[go_sem,ah a,ah b,ah c,ah e,l];grind
 simp[go_sem,m]
noncomputable def vW(x y:NV):NR:=if(oT x.i y.i).2=0 then rn 6 (oT x.i y.i).1 else .er (oT x.i y.i).2
def anP{x y:NV}{d e:D}(k:VD x d)(l:VD y e):aH VS 95 [.i .u8 20,d,e] (lS (vW x y)):=by
 obtain⟨u,w,t1,z,rfl,A⟩:=k.cs;obtain⟨B,C,E,F,rfl,G⟩:=l.cs;have m:=λ{H K}=>lq (H:=H) (K:=K);have j:=λ{H K}=>(anM x.i y.i).1.c (H:=H) (K:=K) BQ rfl rfl (.inl rfl);have o:=EH (n:=(oT x.i y.i).1) (.inr rfl);unfold vW;refine aH.body yq rfl ?_;by_cases h:(oT x.i y.i).2=0
 ·simp[go_sem,simprocAttr,jv,j,h,m];refine ac.ans o oJ rfl rfl rfl (λv s x t y p a b c e f g=>?_) (λe q=>?_);·simp[go_sem,ah a,ah b,ah c,ah e,p];grind
  simp[go_sem,q]
 rw[E1 h];have r:=λ{H K}=>kr h (H:=H) (K:=K);simp[go_sem,simprocAttr,jv,j,r]
noncomputable def yI(x:NV):NR:=if x.m=1 then(if ib x.n then rn 6 x.n else .er 3)else .er 22
noncomputable def yJ(x:NV):NR:=if x.k=2\/x.k=3 then .ok ⟨2,x.n,x.m,0⟩else .ok ⟨2,x.i,1,0⟩
noncomputable def yK(x:NV):NR:=if(kO x.i).2=0 then(if(oR (kO x.i).1).2=0 then rp (oR (kO x.i).1).1 else .er (oR (kO x.i).1).2)else .er (kO x.i).2
noncomputable def gq(a:Nat)(b:Int)(vs:List NV):NR:=let x:=vs[0]!;let y:=vs[1]!;if a=17 then .ok (dI (decide (x.i=0)))else if a=19 then vV b x y else if a=20 then vW x y else if a=24 then yI x else if a=25 then yJ x else if a=26 then yK x else if(a=7\/a=8)/\x.k=4/\y.k=6 then sM a x y else rq a x y
end
section
open Go.Dm
set_option maxRecDepth 10000
def qK:List Nat:=[1,2,3,4,5,6]
def sO:List (List Nat):=qK.map (λa=>[a])++qK.flatMap (λa=>qK.map λb=>[a,b])++qK.flatMap (λa=>qK.flatMap λb=>qK.map λc=>[a,b,c])
def kP(k:Nat):Bool:=k==2||k==3
def HN(d:Nat)(e:List Nat):Bool:=match d,e with|17,[a]=>a==1|19,[a,b]=>kP a&&kP b|20,[a,b]=>a==4&&b==4|24,[a]=>kP a|25,[a]=>kP a||a==5||a==6|26,[a]=>a==4|3,[a]=>a==4|4,[a]=>a==4|6,[a]=>kP a|6,[a,b]=>kP a&&kP b|21,[a,b]=>a==4&&b==4|22,[a,b,c]=>a==4&&b==4&&(c==5||c==6)|23,[a,b]=>a==4&&b==4|5,[a]=>a==4|7,[_,_]=>true|8,[_,_]=>true|9,[_,_]=>true|10,[_,_]=>true|11,[_,_]=>true|12,[_,_]=>true|13,[_,_]=>true|14,[_,_]=>true|_,_=>false
def anQ:((List.range 27).all λa=>sO.all λb=>!cm a b||HN a b)=true:=by kernel_rfl
theorem yL{k:Nat}(h:1<=k/\k<=6):k∈qK:=by simp[qK]<;>omega
def HO:∀{d:List Nat},d≠[]->d.length<=3->(∀k∈d,1<=k/\k<=6)->d∈sO|[],h,_,_=>(h rfl).elim|[a],_,_,h=>by grind[yL,sO]|[a,b],_,_,h=>by simp_all[yL,sO]|[a,b,c],_,_,h=>by have e:=yL (h a (by simp));have f:=yL (h b (by simp));grind[yL,sO]|_::_::_::_::_,_,h,_=>by grind
variable{a:Nat}
def HP{b:List Nat}(d:b.length<=3)(e:∀k∈b,1<=k/\k<=6)(h:cm a b=true):a<27/\HN a b=true:=by have c:=h;unfold cm at c;simp only[D0,Hq]at c;have f:=TB.1 (TB.1 anQ a (qb.2 c.1)) b (HO c.2.1 d e);grind
def anR{vs:List AV}:(jb vs).take vs.length=vs.map AV.c:=by grind[jb]
def Cg{c:Nat}(e:c<256){vs:List AV}(d:vs.length<=3){H:ab}{i:Nat}(hi:H[i]?=some (aU vs false)){K:CR->Prop}:ac VS 82 [.i .u8 c,.mu i 3 0 vs.length] H K↔K (.ret (.b (cm c (vs.map λa=>a.v.k))) (H.set i (aU vs true))):=by
 have f:aO H i 3=some (6,jb vs,some 3,true,false):=by simp[Dm.aO,hi,aU,EM d]
 have g:Sl 6 (vs.map AV.c) _:=.im;have h:=ayY (λa=>⟨_,rfl,rfl⟩) g e (by omega);have j:aW bG H [.i .u8 c,.mu i 3 0 vs.length]=some ([.i .u8 c,.im 6 (vs.map AV.c)],H.set i (aU vs true)):=by have k:=anR (vs:=vs);simp[go_sem,f];simp[aU,k,EM d,d];rfl
 have l:=eU (K:=K) S0 rfl h j;exact l
variable{x:D}{y:List UInt8}{z:Int}
def anS{b:Nat}(d:b<256){vs:List AV}(f:vs.length<=3){H:ab}{i:Nat}(hi:H[i]?=some (aU vs false))(g:cm b (vs.map λa=>a.v.k)=false){w:D}{K:CR->Prop}(h:K (.pan (eO 185) (H.set i (aU vs true)))):ac VS 62 [x,.i .u8 b,.s y,.i .i64 z,.mu i 3 0 vs.length,w] H K:=by have c:=λ{K}=>Cg d f hi (K:=K);rw[g]at c;have j:=λ{H K}=>eZ (e:=185) (H:=H) (K:=K);refine .body jT rfl rfl ?_;simp[go_sem,fS,c,j];exact h
structure Do1(op:Nat)(a:AV)(i:Nat)(H H2:ab):Prop where ec:∀{K:CR->Prop},ac VS 82 [.i .u8 op,.mu i 3 0 1] H K↔K (.ret (.b true) H2)ar:aO H2 i 3=some (6,[a.c,cr,cr],some 3,true,true)g:H2[i]?=some (.ar 6 [a.c,cr,cr] (some 3) true true)l:i<H2.length
def yM{b:Nat}(f:b<256){a:AV}(g:cm b [a.v.k]=true){H:ab}{i:Nat}(hi:H[i]?=some (aU [a] false)):Do1 b a i H (H.set i (aU [a] true)):=by
 have c:=λ{K}=>Cg f (by simp) hi (K:=K);simp only[kb,AAK,g]at c;have d:(H.set i (aU [a] true))[i]?=some (aU [a] true):=by grind
 have e:(H.set i _)[i]?=some (.ar 6 [a.c,cr,cr] _ true true):=d;exact⟨c,by simp only[Dm.aO,e];rfl,e,ay d⟩
theorem HQ(z:QV){k:Nat}(b:k=2\/k=3){H:ab}:gi (.ok ⟨k,z.q.1,z.q.2,0⟩) H (.ret (.ag [.i .u8 k,z.s,z.x,z.t,z.y,.i .i64 0]) H):=ut (a:=⟨⟨k,z.q.1,z.q.2,0⟩,z.s,z.x,z.t,z.y⟩) ⟨VD.of z.f,NV.frac_ok b z.l⟩
def anU(b:Bool){H:ab}:gi (.ok (dI b)) H (.ret (mR b) H):=by obtain⟨c,d⟩:=uo b;exact ut (a:=⟨dI b,.b false,.nil,.b false,.nil⟩) ⟨c,d⟩
theorem anV{a:AV}(d:cm 17 [a.v.k]=true){H:ab}{i:Nat}(hi:H[i]?=some (aU [a] false)){w:D}:ac VS 62 [x,.i .u8 17,.s y,.i .i64 z,.mu i 3 0 1,w] H (gi (gq 17 z [a.v]) (H.set i (aU [a] true))):=by have q:=yM (by decide) d hi;generalize H.set i _=e at*;have c:=λ{K}=>q.ec (K:=K);have f:=q.ar;simp[me]at c;have g:=λb{H K}=>pq (b:=b) (H:=H) (K:=K);refine .body jT rfl rfl ?_;simp[go_sem,simprocAttr,fS,c,f,AV.c,g,mR];have t:=anU (decide (a.v.i=0)) (H:=e);simp[mR,Hq]at t;exact t
def anW{a:AV}(e:a.ok)(h:cm 25 [a.v.k]=true){H:ab}{i:Nat}(hi:H[i]?=some (aU [a] false)){w:D}:ac VS 62 [x,.i .u8 25,.s y,.i .i64 z,.mu i 3 0 1,w] H (gi (gq 25 z [a.v]) (H.set i (aU [a] true))):=by
 have q:=yM (by decide) h hi;generalize H.set i _=f at*;have c:=λ{K}=>q.ec (K:=K);have g:=q.ar;simp[me]at c;have l:=e.o.rng;refine .body jT rfl rfl ?_;show ak _ _ _ (du _ (gi (yJ a.v) f));unfold yJ;by_cases j:a.v.k=2
 ·have b:(a.v.k:Int)=2:=by omega
  simp[go_sem,simprocAttr,fS,c,g,AV.c,b];obtain⟨d,z1,z2,z3,z4,z5⟩:=e.qv (.inl j);grind[HQ,z1,z2,z3,z4,z5]
 by_cases k:a.v.k=3
 ·have b:(a.v.k:Int)=3:=by omega
  simp[go_sem,simprocAttr,fS,c,g,AV.c,b];obtain⟨d,z1,z2,z3,z4,z5⟩:=e.qv (.inr k);have:=HQ d (.inl rfl) (H:=f);grind
 have b:¬(a.v.k:Int)=2:=by omega
 have c3:¬(a.v.k:Int)=3:=by omega
 obtain⟨d,z1,z2⟩:=QV.int (n:=a.v.i) (by omega);simp[go_sem,simprocAttr,fS,c,g,AV.c,b,c3,z2];have:=HQ d (.inl rfl) (H:=f);grind
def anX{a:AV}(r:a.ok)(u:a.v.k=2\/a.v.k=3)(A:cm 24 [a.v.k]=true){H:ab}{i:Nat}(hi:H[i]?=some (aU [a] false)){B w:D}{C:List UInt8}:ac VS 62 [B,.i .u8 24,.s C,.i .i64 z,.mu i 3 0 1,w] H (gi (gq 24 z [a.v]) (H.set i (aU [a] true))):=by
 have q:=yM (by decide) A hi;generalize H.set i _=E at*;have j:=λ{K}=>q.ec (K:=K);have l:=q.ar;simp[me]at j;obtain⟨m,z1,z2,z3,z4,z5⟩:=r.qv u;have d:=acA m.f m.l;rw[z1,z2,z3,z4,z5]at d;have J:=m.f.pl;have F:=λ{H K}=>lq (H:=H) (K:=K);refine .body jT rfl rfl ?_;show ak _ _ _ (du _ (gi (yI a.v) E));unfold yI;by_cases p:a.v.m=1
 ·rw[E4 p]at d⊢;by_cases k:ib a.v.n=true
  ·rw[E4 k]at d;rw[E4 k]at d⊢;have h:=λ{H K}=>d.c (H:=H) (K:=K) yp rfl (by grind) (.inl rfl);have G:=EH (n:=a.v.n) (.inr rfl);simp[go_sem,simprocAttr,fS,j,l,AV.c,h,F];refine ac.ans G oJ rfl rfl rfl (λv s x t y I a b c e f g=>?_) (λe L=>?_);·simp[go_sem,I];exact ut (a:=⟨v,s,x,t,y⟩) ⟨f,g⟩
   constructor<;>grind
  rw[E1 k]at d;rw[E1 k]at d⊢;have h:=λ{H K}=>d.c (H:=H) (K:=K) yp rfl (by grind) (.inl rfl);have o:=λ{H K}=>kr (e:=3) (by decide) (H:=H) (K:=K);simp[go_sem,simprocAttr,fS,j,l,AV.c,h,o];exact ru
 rw[E1 p]at d⊢;have h:=λ{H K}=>d.c (H:=H) (K:=K) yp rfl (by grind) (.inl rfl);have o:=λ{H K}=>kr (e:=22) (by decide) (H:=H) (K:=K);simp[go_sem,simprocAttr,fS,j,l,AV.c,h,o];exact ru
def anY{a:AV}(r:cm 26 [a.v.k]=true){H:ab}{i:Nat}(hi:H[i]?=some (aU [a] false)){u w:D}{A:List UInt8}:ac VS 62 [u,.i .u8 26,.s A,.i .i64 z,.mu i 3 0 1,w] H (gi (gq 26 z [a.v]) (H.set i (aU [a] true))):=by
 have q:=yM (by decide) r hi;generalize H.set i _=B at*;have h:=λ{K}=>q.ec (K:=K);have k:=q.ar;simp[me]at h;have o:=λ{H K}=>lq (H:=H) (K:=K);have l:=λ{H K}=>(anJ a.v.i).1.c (H:=H) (K:=K) S5 rfl rfl (.inl rfl);have p:=λ{H K}=>(anK (kO a.v.i).1).1.c (H:=H) (K:=K) BM rfl rfl (.inl rfl);have C:=Py (n:=(oR (kO a.v.i).1).1);refine .body jT rfl rfl ?_;show ak _ _ _ (du _ (gi (yK a.v) B));unfold yK;by_cases d:(kO a.v.i).2=0
 ·rw[E4 d];by_cases j:(oR (kO a.v.i).1).2=0
  ·rw[E4 j];simp[go_sem,simprocAttr,fS,h,k,AV.c,l,d,o,p,j];refine ac.ans C qC rfl rfl rfl (λv s x t y E a b c e f g=>?_) (λe F=>?_);·simp[go_sem,E];exact ut (a:=⟨v,s,x,t,y⟩) ⟨f,g⟩
   simp[go_sem,F];exact ru
  rw[E1 j];have m:=λ{H K}=>kr j (H:=H) (K:=K);simp[go_sem,simprocAttr,fS,h,k,AV.c,l,d,o,p,m];exact ru
 rw[E1 d];have m:=λ{H K}=>kr d (H:=H) (K:=K);simp[go_sem,simprocAttr,fS,h,k,AV.c,l,m];exact ru
end
section
open Go.Dm
set_option maxRecDepth 10000
structure Do2(op:Nat)(a b:AV)(i:Nat)(H H2:ab):Prop where ec:∀{K:CR->Prop},ac VS 82 [.i .u8 op,.mu i 3 0 2] H K↔K (.ret (.b true) H2)ar:aO H2 i 3=some (6,[a.c,b.c,cr],some 3,true,true)g:H2[i]?=some (.ar 6 [a.c,b.c,cr] (some 3) true true)l:i<H2.length
def HS{c:Nat}(g:c<256){a b:AV}(h:cm c [a.v.k,b.v.k]=true){H:ab}{i:Nat}(hi:H[i]?=some (aU [a,b] false)):Do2 c a b i H (H.set i (aU [a,b] true)):=by
 have d:=λ{K}=>Cg g (by simp) hi (K:=K);simp only[kb,AAK,h]at d;have e:(H.set i (aU [a,b] true))[i]?=some (aU [a,b] true):=by grind
 have f:(H.set i _)[i]?=some (.ar 6 [a.c,b.c,cr] _ true true):=e;exact⟨d,by simp only[Dm.aO,f];rfl,f,ay e⟩
def an0{a b:AV}(d:a.ok)(h:b.ok)(k:a.v.k=2\/a.v.k=3)(l:b.v.k=2\/b.v.k=3)(m:cm 19 [a.v.k,b.v.k]=true){H:ab}{i:Nat}(hi:H[i]?=some (aU [a,b] false)){n w:D}{o:List UInt8}{c:Int}:ac VS 62 [n,.i .u8 19,.s o,.i .i64 c,.mu i 3 0 2,w] H (gi (gq 19 c [a.v,b.v]) (H.set i (aU [a,b] true))):=by
 have q:=HS (by decide) m hi;generalize H.set i _=p at*;have j:=λ{K}=>q.ec (K:=K);have r:=q.ar;have u:=q.l;simp[me]at j;have hr:=anI d.d h.d d.o h.o k l c;have z:=d.pl;have A:=h.pl;simp[AV.c]at z A;refine .body jT rfl rfl ?_;show ak _ _ _ (du _ (gi (vV c a.v b.v) p));simp[go_sem,simprocAttr,fS,j,r,u,AV.c];refine ac.ans hr S6 rfl rfl (by grind[aZ]) (λv s x t y B _ _ _ _ f g=>?_) (λe C=>?_);·simp[go_sem];rw[B];exact ut (a:=⟨v,s,x,t,y⟩) ⟨f,g⟩
 simp[go_sem];grind[ru]
def an1{a b:AV}(c:a.ok)(d:b.ok)(k:cm 20 [a.v.k,b.v.k]=true){H:ab}{i:Nat}(hi:H[i]?=some (aU [a,b] false)){l w:D}{m:List UInt8}{h:Int}:ac VS 62 [l,.i .u8 20,.s m,.i .i64 h,.mu i 3 0 2,w] H (gi (gq 20 h [a.v,b.v]) (H.set i (aU [a,b] true))):=by
 have q:=HS (by decide) k hi;generalize H.set i _=n at*;have j:=λ{K}=>q.ec (K:=K);have o:=q.ar;have p:=q.l;simp[me]at j;have hr:=anP c.d d.d;have r:=c.pl;have u:=d.pl;simp[AV.c]at r u;refine .body jT rfl rfl ?_;show ak _ _ _ (du _ (gi (vW a.v b.v) n));simp[go_sem,simprocAttr,fS,j,o,p,AV.c];refine ac.ans hr yq rfl rfl (by grind[aZ]) (λv s x t y z _ _ _ _ f g=>?_) (λe A=>?_);·simp[go_sem];rw[z];exact ut (a:=⟨v,s,x,t,y⟩) ⟨f,g⟩
 simp[go_sem];grind[ru]
def do7{c:Nat}(m:7<=c/\c<=14){a b:AV}(d:a.ok)(j:b.ok)(n:cm c [a.v.k,b.v.k]=true){H:ab}{i:Nat}(hi:H[i]?=some (aU [a,b] false)){u w:D}{z:List UInt8}{k:Int}:ac VS 62 [u,.i .u8 c,.s z,.i .i64 k,.mu i 3 0 2,w] H (gi (gq c k [a.v,b.v]) (H.set i (aU [a,b] true))):=by
 have q:=HS (by omega) n hi;generalize H.set i _=W at*;have A:=λ{K}=>q.ec (K:=K);have B:=q.ar;have C:=q.l;have hr:aH VS 95 [.i .u8 c,.ag a.c,.ag b.c] (lS (gq c k [a.v,b.v])):=by
  by_cases l:a.v.k=4/\b.v.k=6
  ·obtain⟨X,Y,Z,f4,f5⟩:=acO m d.o.k j.o.k n;have o:c=7\/c=8:=by
    refine ot λhc=>?_;by_cases h9:c=9\/c=10;·omega
    omega
   have e:gq c k [a.v,b.v]=sM c a.v b.v:=by show(if c=17 then _ else if c=19 then _ else if c=20 then _ else if c=24 then _ else if c=25 then _ else if c=26 then _ else if(c=7\/c=8)/\a.v.k=4/\b.v.k=6 then sM c a.v b.v else _)=_;rw[E1 (by omega),E1 (by omega),E1 (by omega),E1 (by omega),E1 (by omega),E1 (by omega),E4 ⟨o,l⟩]
   rw[e];exact anO o d.d j.d d.o j.o l.1 l.2
  have e:gq c k [a.v,b.v]=rq c a.v b.v:=by show(if c=17 then _ else if c=19 then _ else if c=20 then _ else if c=24 then _ else if c=25 then _ else if c=26 then _ else if(c=7\/c=8)/\a.v.k=4/\b.v.k=6 then _ else rq c a.v b.v)=_;rw[E1 (by omega),E1 (by omega),E1 (by omega),E1 (by omega),E1 (by omega),E1 (by omega),E1 (λh=>l h.2)]
  rw[e];exact ay2 m d.d j.d d.o j.o (ay4 m d.o j.o n l)
 have p:=d.pl;have r:=j.pl;simp[AV.c]at p r;have E:¬(c:Int)=3:=by omega
 have F:¬(c:Int)=4:=by omega
 have G:¬(c:Int)=6:=by omega
 have I:¬(c:Int)=17:=by omega
 have J:¬(c:Int)=19:=by omega
 have L:¬(c:Int)=21:=by omega
 have M:¬(c:Int)=22:=by omega
 have N:¬(c:Int)=23:=by omega
 have P:¬(c:Int)=24:=by omega
 have Q:¬(c:Int)=25:=by omega
 have S:¬(c:Int)=26:=by omega
 generalize gq c k [a.v,b.v]=R at*;refine .body jT rfl rfl ?_;simp[go_sem,simprocAttr,fS,A,B,C,AV.c,E,F,G,I,J,L,M,N,P,Q,S];refine ac.ans hr yq rfl rfl (by simp[p,r,aZ]) (λv s x t y U _ _ _ _ f g=>?_) (λe V=>?_);·simp[go_sem];rw[U];exact ut (a:=⟨v,s,x,t,y⟩) ⟨f,g⟩
 rw[V];exact ru
end
section
open Go.Dm
set_option maxRecDepth 10000
def Vp(a:Nat):Bool:=decide ((3<=a/\a<=4)\/a=6\/(7<=a/\a<=14)\/a=17\/(19<=a/\a<=26))
def an3:((List.range 27).all λa=>sO.all λb=>!cm a b||Vp a)=true:=by kernel_rfl
def Ch{a:Nat}{b:List Nat}(d:b.length<=3)(e:∀k∈b,1<=k/\k<=6)(h:cm a b=true):(3<=a/\a<=4)\/a=6\/(7<=a/\a<=14)\/a=17\/(19<=a/\a<=26):=by have c:=h;unfold cm at c;simp only[D0,Hq]at c;have f:=TB.1 (TB.1 an3 a (qb.2 c.1)) b (HO c.2.1 d e);grind[Vp]
theorem yN{k:Nat}(h:kP k=true):k=2\/k=3:=by grind[kP]
def an4{d:Nat}(t:¬(3<=d/\d<=6)/\¬(21<=d/\d<=23)){vs:List AV}(l:vs.length<=3)(g:∀a∈vs,a.ok)(e:cm d (vs.map λa=>a.v.k)=true){H:ab}{i:Nat}(hi:H[i]?=some (aU vs false)){q w:D}{r:List UInt8}{p:Int}:ac VS 62 [q,.i .u8 d,.s r,.i .i64 p,.mu i 3 0 vs.length,w] H (gi (gq d p (vs.map AV.v)) (H.set i (aU vs true))):=by
 have j:∀k∈vs.map λa=>a.v.k,1<=k/\k<=6:=by intro k j;obtain⟨a,f,rfl⟩:=fT.1 j;exact(g a f).o.k
 have u:=Ch (by grind) j e;obtain⟨_,hs⟩:=HP (by grind) j e;have h:(7<=d/\d<=14)\/d=17\/d=19\/d=20\/d=24\/d=25\/d=26:=by omega
 match vs,l,g,e,hi,hs with
 |[],_,_,e,_,_=>grind[cm]|[a],_,g,e,hi,hs=>
 have f:=g a (by simp);simp only[kb,AAK]at e hs⊢;rcases h with h|rfl|rfl|rfl|rfl|rfl|rfl
 ·have:d=7\/d=8\/d=9\/d=10\/d=11\/d=12\/d=13\/d=14:=by omega
  rcases this with rfl|rfl|rfl|rfl|rfl|rfl|rfl|rfl<;>cases hs
 ·grind[anV]
 ·cases hs
 ·cases hs
 ·exact anX f (yN hs) e hi
 ·exact anW f e hi
 exact anY e hi|[a,b],_,g,e,hi,hs=>
 have f:=g a (by simp);have m:=g b (by simp);rcases h with h|rfl|rfl|rfl|rfl|rfl|rfl;·exact do7 h f m e hi
 ·cases hs
 ·have n:(kP a.v.k&&kP b.v.k)=true:=hs;rw[D0]at n;exact an0 f m (yN n.1) (yN n.2) e hi
 ·exact an1 f m e hi
 ·cases hs
 ·cases hs
 cases hs|[a,b,c],_,_,_,_,hs=>
 rcases h with h|rfl|rfl|rfl|rfl|rfl|rfl
 ·have:d=7\/d=8\/d=9\/d=10\/d=11\/d=12\/d=13\/d=14:=by omega
  rcases this with rfl|rfl|rfl|rfl|rfl|rfl|rfl|rfl<;>cases hs
 all_goals cases hs|_::_::_::_::_,l,_,_,_,_=>simp at l
end
section
open Go.Dm
set_option maxRecDepth 10000
def an5{α:Type}[Inhabited α]{p:α->Bool}{l:List α}(h:l.Pairwise λr s=>p s=true->p r=true){k:Nat}(j:k<=l.length)(f:k<l.length->p l[k]! =false)(g:0<k->p l[k-1]! =true):l.filter p=l.take k:=by
 have d:=AAB.1 h;have e:=(rr k l).symm;have m:(l.take k).filter p=l.take k:=by
  rw[AAk];intro r hr;obtain⟨i,hi,rfl⟩:=kz.1 hr;rw[il]at hi;have a:=g (by omega);rw[Hy l _ (by omega)]at a;rw[ABy];by_cases c:i=k-1;·subst c;exact a
  exact d i _ (by omega) (by omega) (by omega) a
 have n:(l.drop k).filter p=[]:=by
  rw[x6];intro r hr;obtain⟨i,hi,rfl⟩:=kz.1 hr;rw[nr]at hi;have a:=f (by omega);rw[Hy l k (by omega)]at a;rw[ABz];intro b;by_cases c:i=0;·subst c;simp[l4]at b;rw[a]at b;cases b
  have:=d k _ (by omega) (by omega) (by omega) b;rw[a]at this;cases this
 grind
def an6{α:Type}[Inhabited α]{p:α->Bool}{l:List α}(h:l.Pairwise λr s=>p s=true->p r=true){k:Nat}(a:k<=l.length)(b:k<l.length->p l[k]! =false)(c:0<k->p l[k-1]! =true):(l.filter p).getLast?=if k=0 then none else some l[k-1]!:=by rw[an5 h a b c];grind
def HT(l:List bV):Prop:=l.Pairwise λr s=>r.a<s.a\/(r.a=s.a/\r.b<=s.b)
def an7{r s:Rw}(h:(!decide (ny s r<0))=true):r.a<s.a\/(r.a=s.a/\r.b<=s.b):=by grind[ny,iX]
def an8{t:Tb}(h:t.v=true)(a:Int):HT (bK a (t.rows.map Rw.n) []):=by
 have hs:nz t.rows=true:=by grind[Tb.v]
 have c:=Cd (λ_ _ h=>an7 h) (λ_ _ _ b d=>by omega) hs;have b:=c.sublist (by simpa using Ce (known:=a) (acc:=[]));have:=yE (known:=a) (l:=t.rows) (acc:=[]);rw[AAK]at this;rw[this];unfold HT;rw[AAy];exact b
def an9{l:List bV}{a c:Int}(h:HT l){k:Nat}(e:k<=l.length)(f:k<l.length->¬(l[k]!.a<a\/(l[k]!.a=a/\l[k]!.b<=c)))(g:0<k->(l[k-1]!.a<a\/(l[k-1]!.a=a/\l[k-1]!.b<=c))):C6 l a c=if k=0 then none else if l[k-1]!.a=a then some l[k-1]! else none:=by unfold C6;have:=an6 (p:=λr=>decide (r.a<a\/(r.a=a/\r.b<=c))) (h.imp λ{r s}d i=>by grind) e (λd=>N2 (f d)) (λd=>Rp (g d));grind
def Canon.mem:∀{l:List aD},Canon l->∀t∈l,t.frm<t.to
 |[],_,t,a=>by cases a|s::l,h,t,a=>by
  rcases S2.1 a with rfl|a;·exact h.hd
  exact Canon.mem h.tail t a
def Vq:∀{l:List aD}{d:Int}{k:Nat},Canon l->k<=l.length->(k<l.length->d<l[k]!.to)->(0<k->l[k-1]!.to<=d)->bQ l d=if k<l.length/\l[k]!.frm<=d then some l[k]!.v else none
 |[],d,k,_,e,_,_=>by grind[bQ]|s::l,d,0,h,_,a,_=>by
  have f:d<s.to:=a (by simp);rw[eW];by_cases b:s.frm<=d;·grind
  rw[E1 (λh=>b h.1),E1 (λh=>b h.2)];exact wz λt g=>by have:=h.le t g;omega|s::l,d,k+1,h,e,a,i=>by
  have m:k<=l.length:=by grind
  have g1:∀j,(s::l)[j+1]! =l[j]!:=λj=>by simp
  have f:s.to<=d:=by have:=i (by omega);rw[ABo]at this;cases k with|zero=>grind|succ j=>
   rw[g1]at this;have c:l[j]!∈l:=by grind
   have:=h.le _ c;have:=h.tail.mem _ c;omega
  have o:=Vq (d:=d) h.tail m (λn=>by grind) (λn=>by grind);grind[eW]
end
section
open Go.Dm
set_option maxRecDepth 10000
variable{x y z:Nat}
def aoa{l:List SV}{x:D}{d:Int}(a:Sl 8 (l.map SV.c) x){i p:Nat}(hi:i<l.length){H:ab}(c:H[p]?=some (.hb 185 [x]))(e:H[y]?=some (.hb 3 [.i .i64 d])){K:CR->Prop}:ac VS 112 [.i .i64 (i:Int),.hp p 0,.hp y 0] H K↔K (.ret (.b (decide (d<l[i]!.to))) H):=by
 have f:(i:Int)<(l.length:Int):=by omega
 have c3:(0:Int)<=(i:Int):=by omega
 have g:=λ{V dr os keep h j Q m H n k o}=>a.q (V:=V) (dr:=dr) (os:=os) (keep:=keep) (loc:=h) (sl:=j) (Q:=Q) (sl':=m) (H:=H) (H':=n) (k:=k) (x:=o);have q:=λb=>a.under b;refine dO (cz.iff_q.2 (.body ald rfl rfl ?_));simp[go_sem,simprocAttr,avj,c,e,g,q,f,SV.c];grind
def Vr{l:List RV}{x:D}{a:Int}(c:Sl 7 (l.map RV.c) x){i p:Nat}(hi:i<l.length){H:ab}(d:H[p]?=some (.hb 42 [x]))(e:H[y]?=some (.hb 3 [.i .i64 a])){K:CR->Prop}:ac VS 115 [.i .i64 (i:Int),.hp p 0,.hp y 0] H K↔K (.ret (.b (decide (a<l[i]!.a))) H):=by
 have f:(i:Int)<(l.length:Int):=by omega
 have c3:(0:Int)<=(i:Int):=by omega
 have g:=λ{V dr os keep h j Q m H n k o}=>c.q (V:=V) (dr:=dr) (os:=os) (keep:=keep) (loc:=h) (sl:=j) (Q:=Q) (sl':=m) (H:=H) (H':=n) (k:=k) (x:=o);have q:=λb=>c.under b;refine dO (cz.iff_q.2 (.body alf rfl rfl ?_));simp[go_sem,simprocAttr,avl,d,e,g,q,f,RV.c];grind
def aob{l:List RV}{x:D}{a c:Int}(o:Sl 7 (l.map RV.c) x){i p t u:Nat}(hi:i<l.length){H:ab}(e:H[p]?=some (.hb 42 [x]))(f:H[y]?=some (.hb t [.i .i64 a]))(q:H[z]?=some (.hb u [.i .i64 c])){K:CR->Prop}:ac VS 116 [.i .i64 (i:Int),.hp p 0,.hp y 0,.hp z 0] H K↔K (.ret (.b (decide (¬(l[i]!.a<a\/(l[i]!.a=a/\l[i]!.b<=c))))) H):=by
 have g:(i:Int)<(l.length:Int):=by omega
 have c3:(0:Int)<=(i:Int):=by omega
 have h:=λ{V dr os keep v w Q A H B k C}=>o.q (V:=V) (dr:=dr) (os:=os) (keep:=keep) (loc:=v) (sl:=w) (Q:=Q) (sl':=A) (H:=H) (H':=B) (k:=k) (x:=C);have j:=λb=>o.under b;refine dO (cz.iff_q.2 (.body alg rfl rfl ?_));obtain⟨d,m⟩:∃d,d=l[i]!:=⟨_,rfl⟩;by_cases r:a<d.a;·simp only[go_sem,simprocAttr,DL,e,f,h,j,g,c3,RV.c,<-m,r];grind
 by_cases n:d.a=a
 ·by_cases s:c<d.b;·simp only[go_sem,simprocAttr,DL,e,f,q,h,j,g,c3,RV.c,<-m,n,s];grind
  simp only[go_sem,simprocAttr,DL,e,f,q,h,j,g,c3,RV.c,<-m,n,s];grind
 simp only[go_sem,simprocAttr,DL,e,f,h,j,g,c3,RV.c,<-m,r,n];grind
end
section
open Go.Dm
set_option maxRecDepth 10000
inductive iY (known:Int):List bV -> Prop where
 | nil:iY known []
 | snoc {l:List bV} {r:bV}:iY known l -> r.known <= known -> (∀ s,l.getLast?=some s -> ¬ (s.a=r.a /\ s.b=r.b)) -> iY known (l++[r])
theorem iY.drop {known:Int} {L:List bV} (h:iY known L) {s:bV} (hs:L.getLast?=some s):iY known L.dropLast /\ s.known <= known /\ ∀ u,L.dropLast.getLast?=some u -> ¬ (u.a=s.a /\ u.b=s.b):=by
 cases h<;>grind
theorem iY.take {known:Int} {L:List bV} (h:iY known L) : ∀ n,iY known (L.take n):=by
 induction h with
 | nil=>intro n;rw[List.take_nil];exact .nil
 | @snoc l r h1 h2 h3 ih =>
  intro n
  by_cases hn:n <= l.length
  ·grind
  ·rw[E2 (by grind)];exact .snoc h1 h2 h3
theorem yO {known:Int} : ∀ {l acc:List bV},iY known acc -> iY known (bK known l acc)
 | [],_,h=>h
 | r :: l,acc,h=>by
  show iY known (if known<r.known then bK known l acc else match acc.getLast? with
   | some s=>if s.a=r.a /\ s.b=r.b then bK known l _ else bK known l _
   | none=>bK known l _)
  by_cases h1:known<r.known
  ·rw[E4 h1];exact yO h
  ·rw [E1 h1]
   cases hg:acc.getLast? with
   | none=>exact yO (.snoc h (by omega) (fun s hs=>by grind))
   | some s =>
    simp
    by_cases h2:s.a=r.a /\ s.b=r.b
    ·rw[E4 h2]
     obtain⟨d1,_,d3⟩:=h.drop hg
     exact yO (.snoc d1 (by omega) (fun u hu hc=>d3 u hu (by omega)))
    ·rw [E1 h2]
     exact yO (.snoc h (by omega) (fun u hu=>by
      grind))
theorem Vs {known:Int} : ∀ {l acc:List bV},iY known (acc++l) -> bK known l acc=acc++l
 | [],acc,_=>(oy acc).symm
 | r::l,acc,h=>by
  have ht:=h.take (acc.length+1)
  have e:(acc++r::l).take (acc.length+1)=acc++[r]:=by
   rw[List.take_append,E2 (by omega)]
   simp
  rw[e]at ht
  have hl:(acc++[r]).getLast?=some r:=by simp
  obtain⟨_,d2,d3⟩:=ht.drop hl
  rw[ACT]at d3
  have ih:=Vs (acc:=acc++[r]) (by rw[gC];exact h)
  rw[gC]at ih
  show (if known<r.known then bK known l acc else match acc.getLast? with
   | some s=>if s.a=r.a /\ s.b=r.b then bK known l _ else bK known l _
   | none=>bK known l _)=acc++r::l
  rw[E1 (by omega)]
  cases hg:acc.getLast? with
  | none=>exact ih
  | some s =>
   simp
   rw[E1 (d3 s hg)]
   exact ih
end
section
open Go.Dm
set_option maxRecDepth 10000
structure i9 (M M':af):Prop where
 p : ∀ x∈M.pairs,x∈M'.pairs
 f : ∀ x∈M.facts,x∈M'.facts
 t : ∀ x∈M.tabs,x∈M'.tabs
 h : ∀ x,M.pairs[0]?=some x -> M'.pairs[0]?=some x
inductive au (A:af -> Prop):Tr -> Tr -> Prop where
 | ret (v:NV):au A (.ret v) (.ret v)
 | err (e:Int):au A (.err e) (.err e)
 | st {u:af -> af} {k k':af -> Tr}:(∀ M,A (u M) -> au A (k M) (k' M)) -> au A (.st u k) (.st u k')
 | call {j:aL} {k k':NV -> Tr}:(∀ v,au A (k v) (k' v)) -> au A (.call j k) (.call j k')
section
variable {A:af -> Prop} (anti : ∀ M M',i9 M M' -> A M' -> A M)
include anti
end
section
variable {W W':Wd} {O:bB}
end
end
section
open Go.Dm
set_option maxRecDepth 10000
structure Hs(H:ab)(L:List (Nat×an)):Prop where
 nd:(L.map Prod.fst).Nodup
 at_:∀p∈L,H[p.1]?=some p.2
section
variable{H:ab}{L A B:List (Nat×an)}{i:Nat}{x y:an}
def Hs.get(h:Hs H (A++(i,x)::B)):H[i]?=some x:=h.at_ (i,x) (by simp)
def Hs.app(h:Hs H L)(t:ab):Hs (H++t) L:=⟨h.nd,λp m=>by rw[dw (ay (h.at_ p m))];exact h.at_ p m⟩
variable{z:List (Nat×an)}
def Hs.perm(h:Hs H L)(p:L.Perm z):Hs H z:=⟨(p.map _).nodup_iff.1 h.nd,λq m=>h.at_ q (p.mem_iff.2 m)⟩
def Hs.sub(h:Hs H L)(p:z.Sublist L):Hs H z:=⟨h.nd.sublist (p.map _),λq m=>h.at_ q (p.subset m)⟩
def Hs.set(h:Hs H (A++(i,x)::B)):Hs (H.set i y) (A++(i,y)::B):=by
 have a:=h.nd;simp[eH,kb]at a;have hi:=ay h.get;have b:i∉A.map _:=λm=>(AAH.1 a).2.2 i m i N1 rfl;have c:=(AAI.1 (AAH.1 a).2.1).1;refine⟨by grind,λp m=>?_⟩;rcases TA.1 m with m|m;·have:i≠p.1:=λe=>b (e▸od m);rw[K0 this];exact h.at_ p (T4 _ m)
 rcases S2.1 m with rfl|m;·grind
 have:i≠p.1:=λe=>c (e▸od m);rw[K0 this];exact h.at_ p (gA _ (M0 _ m))
def Hs.new(h:Hs H L):Hs (H++[x]) ((H.length,x)::L):=by
 refine⟨?_,λp m=>?_⟩;·simp only[kb,AAI];refine⟨λm=>?_,h.nd⟩;obtain⟨p,a,e⟩:=fT.1 m;have:=ay (h.at_ p a);omega
 rcases S2.1 m with rfl|m;·simp
 exact(h.app [x]).at_ p m
def Hs.newm(h:Hs H (A++B)):Hs (H++[x]) (A++(H.length,x)::B):=(h.new).perm (List.perm_middle.symm)
end
inductive LR(w:Nat):D->List (List D)->List (Nat×an)->Prop where|nil:LR w .nil [] []|mu(a:Nat)(rows:List (List D)):rows≠[]->LR w (.mu a rows.length 0 rows.length) rows [(a,.ar w rows none true false)]
def LR.c1{w:Nat}{x:D}{rows:List (List D)}{L:List (Nat×an)}(h:LR w x rows L):x.cellsN 1=some [x]:=by cases h<;>rfl
def LR.app{w bytes:Nat}{x:D}{rows:List (List D)}{L A B:List (Nat×an)}{X:ab}{r:List D}(h:LR w x rows L)(hs:Hs X (A++(L++B)))(b:r.all D.flat=true)(hr:(rows.length+1)*bytes<=140737488355328)(f:rows.length<140737488355328):∃c d e,bY X x (.sv w [r]) w bytes true=some (c,d)/\LR w c (rows++[r]) e/\Hs d (A++(e++B)):=by cases h with|nil=>exact⟨_,_,_,vg b (by grind),.mu _ [r] (by simp),hs.newm⟩|mu a rows g=>have:=LR.mu (w:=w) a (rows++[r]) (by simp);rw[N3]at this;exact⟨_,_,_,HH hs.get rfl b hr f,this,hs.set⟩
abbrev PK:Type:=Nm×Int
def qL(p:PK):D:=.ag [.s p.1,.i .i64 p.2]
def yP:jQ (.st [2,1]) qL:=by refine⟨λa=>rfl,λa b=>?_⟩;obtain⟨n,d⟩:=a;obtain⟨m,e⟩:=b;show dj [2,1] [.s n,.i .i64 d] [.s m,.i .i64 e]=_;simp only[dj,fZ,Ft,Fu,wx];by_cases c:n=m<;>by_cases f:d=e<;>simp[c,f]
abbrev RK:Type:=Nm×Int×Int
def yQ(p:RK):D:=.ag [.s p.1,.i .i64 p.2.1,.i .i64 p.2.2]
def HU:jQ (.st [2,1,1]) yQ:=by refine⟨λa=>rfl,λa b=>?_⟩;obtain⟨n,d,c⟩:=a;obtain⟨m,e,f⟩:=b;show dj [2,1,1] [.s n,.i .i64 d,.i .i64 c] [.s m,.i .i64 e,.i .i64 f]=_;simp only[dj,fZ,Ft,Fu,wx];by_cases g:n=m<;>by_cases h:d=e<;>by_cases j:c=f<;>simp[g,h,j]
def kS(s:Nm):D:=.s s
def iz:jQ (.c 2) kS:=uX
def kB(x:Bool):D:=.b x
def kA(a:AV):D:=.ag a.c
def aA{κ β:Type}[DecidableEq κ](k:κ)(m:List (κ×β)):Option β:=m.lookup k
def Vt{α β:Type}{c d:BEq α}(e:@LawfulBEq α c)(f:@LawfulBEq α d)(k:α):∀l:List (α×β),@List.lookup α β c k l=@List.lookup α β d k l|[]=>rfl|(a,b)::l=>by have g:=Vt e f k l;grind
def aoc{κ β:Type}[DecidableEq κ][BEq κ][LawfulBEq κ]{k:κ}{m:List (κ×β)}:m.lookup k=aA k m:=Vt inferInstance inferInstance k m
def iZ{κ β:Type}[DecidableEq κ]{k:κ}{v:β}:∀{m:List (κ×β)},aA k m=some v->(k,v)∈m
 |(a,b)::m,h=>by
  unfold aA at h;by_cases e:k=a;·grind
  have:(k==a)=false:=by grind
  simp[List.lookup,this]at h;exact M0 _ (iZ h)
def Ci{κ β γ:Type}[DecidableEq κ]{k:κ}{g:β->γ}:∀{m:List (κ×β)},aA k (m.map λp=>(p.1,g p.2))=(aA k m).map g|[]=>rfl|(a,b)::m=>by have c:=Ci (k:=k) (g:=g) (m:=m);grind[aA]
theorem qM{κ β:Type}[DecidableEq κ]{k a:κ}{v b:β}:∀{m:List (κ×β)},(a,b)∈aS k v m->(a=k/\b=v)\/(a,b)∈m
 |[],h=>.inl (by grind[aS])|p::m,h=>by
  unfold aS at h;split at h;·grind
  rcases S2.1 h with h|h;·grind
  exact(qM h).imp id (M0 _)
def vh{κ β γ:Type}[DecidableEq κ]{k:κ}{v:β}{g:β->γ}:∀{m:List (κ×β)},(aS k v m).map (λp=>(p.1,g p.2))=aS k (g v) (m.map λp=>(p.1,g p.2))
 |[]=>rfl|p::m=>by
  simp[aS,kb];split;·rfl
  rw[kb,vh]
def i5(p:PK):List D:=[.s p.1,.i .i64 p.2]
def iA(p:RK):List D:=[.s p.1,.i .i64 p.2.1,.i .i64 p.2.2]
def nC(s:Nm):List D:=[.s s]
structure bU where
 v:Nat
 mb:Nat
 mv:Nat
 mr:Nat
 ml:Nat
 b:Nat
 kd:Nat
 fm:Nat
 vm:Nat
 tm:Nat
 rm:Nat
structure Cl where
 nm:Nm
 lb:Nm
 frm:Int
 to:Int
 known:Int
 off:Bool
 w:Ex
 t:Ex
instance:Inhabited Cl:=⟨⟨[],[],0,0,0,false,default,default⟩⟩
def Cl.row(c:Cl):List D:=[.s c.nm,.s c.lb,.i .i64 c.frm,.i .i64 c.to,.i .i64 c.known,.b c.off]++(c.w.row++c.t.row)
def Cl.n(c:Cl):eK:=⟨c.nm,c.lb,c.frm,c.to,c.known,c.off,c.w.en,c.t.en⟩
structure BW where
 pn:Nm
 defs:D
 tabs:D
 clsD:D
 cls:List Cl
 known:Int
 kinds:List (Nm×Nat)grp:List (Nm×List Fc)tbs:List (Nm×Tb)
def BW.vw(B:BW)(k:Nm):List aD:=match aA k B.grp with|some l=>iD (cZ (l.map Fc.n) k B.known)|none=>[]
def Tb.forced(t:Tb)(a:Int):List bV:=bK a (t.rows.map Rw.n) []
structure BW.ok(B:BW):Prop where
 g:∀p∈B.grp,p.2≠[]/\p.2.length<40/\dP p.2=true
 t:∀p∈B.tbs,p.2.v=true/\p.2.name=p.1
 c:Sl 24 (B.cls.map Cl.row) B.clsD
 cl:B.cls.length<1000000
 x:fK B.defs=true/\fK B.tabs=true
 d:B.defs.flat=true/\B.tabs.flat=true
 k:B.known<=9223372036854775807
structure ES where
 P:D
 F:D
 T:D
 aP:List (Nat×an)aF:List (Nat×an)aT:List (Nat×an)vs:List (PK×AV)vws:List (Nm×D)rws:List (Nm×D)g:List (Nm×Nat×List Fc×Bool)
def vX(a:List PK):List (D×D):=dN qL kB (jh a)
def vY(vs:List (PK×AV)):List (D×D):=dN qL kA vs
def yR(l:List RK):List (D×D):=dN yQ kB (jh l)
def yS(l:List Nm):List (D×D):=dN kS kB (jh l)
def dE(l:List (Nm×D)):List (D×D):=dN kS id l
def tE(l:List (Nm×Tb)):List (D×D):=dN kS (λt:Tb=>.ag t.c) l
def gE(g:List (Nm×Nat×List Fc×Bool)):List (D×D):=dN kS (λq:Nat×List Fc×Bool=>.mu q.1 q.2.1.length 0 q.2.1.length) g
def gL(g:List (Nm×Nat×List Fc×Bool)):List (Nat×an):=g.map λq=>(q.2.1,.ar 11 (q.2.2.1.map Fc.c) none true q.2.2.2)
def sP(I:bU)(B:BW)(S:ES)(M:af):List (Nat×an):=[(I.v,.hb 101 [.hp I.b 0,.mp I.mb,.mp I.mv,.mp I.mr,.mp I.ml,S.P,S.F,S.T]),(I.mb,.mp (vX M.begun)),(I.mv,.mp (vY S.vs)),(I.mr,.mp (yR M.facts)),(I.ml,.mp (yS M.tabs)),(I.b,.hb 140 [.s B.pn,B.defs,B.tabs,B.clsD,.i .i64 B.known,.mp I.kd,.mp I.fm,.mp I.vm,.mp I.tm,.mp I.rm]),(I.kd,.mp (kE B.kinds)),(I.fm,.mp (gE S.g)),(I.vm,.mp (dE S.vws)),(I.tm,.mp (tE B.tbs)),(I.rm,.mp (dE S.rws))]
structure bv(I:bU)(B:BW)(M:af)(S:ES)(Fr:List (Nat×an))(H:ab):Prop where
 hs:Hs H (sP I B S M++(S.aP++(S.aF++(S.aT++(gL S.g++Fr)))))p:LR 2 S.P (M.pairs.map i5) S.aP
 f:LR 3 S.F (M.facts.map iA) S.aF
 t:LR 1 S.T (M.tabs.map nC) S.aT
 v:S.vs.map (λp=>(p.1,p.2.v))=M.vals
 vo:∀p∈S.vs,p.2.ok
 g:S.g.map (λq=>(q.1,q.2.2.1))=B.grp
 w:∀k x,(k,x)∈S.vws->∃m:List SV,Sl 8 (m.map SV.c) x/\m.map SV.n=B.vw k
 r:∀k x,(k,x)∈S.rws->∃t,aA k B.tbs=some t/\∃m:List RV,Sl 7 (m.map RV.c) x/\m.map RV.n=t.forced B.known
structure EV(I:bU)(B:BW)(M:af)(Fr:List (Nat×an))(H:ab):Prop where h:∃S,bv I B M S Fr H
section
variable{I:bU}{B:BW}{M:af}{S:ES}{Fr:List (Nat×an)}{H:ab}
def bv.hv(h:bv I B M S Fr H):H[I.v]?=some (.hb 101 [.hp I.b 0,.mp I.mb,.mp I.mv,.mp I.mr,.mp I.ml,S.P,S.F,S.T]):=h.hs.get (A:=[])
def bv.hmb(h:bv I B M S Fr H):H[I.mb]?=some (.mp (vX M.begun)):=h.hs.get (A:=[_])
def bv.hmv(h:bv I B M S Fr H):H[I.mv]?=some (.mp (vY S.vs)):=h.hs.get (A:=[_,_])
def bv.hmr(h:bv I B M S Fr H):H[I.mr]?=some (.mp (yR M.facts)):=h.hs.get (A:=[_,_,_])
def bv.hml(h:bv I B M S Fr H):H[I.ml]?=some (.mp (yS M.tabs)):=h.hs.get (A:=[_,_,_,_])
def bv.hb(h:bv I B M S Fr H):H[I.b]?=some (.hb 140 [.s B.pn,B.defs,B.tabs,B.clsD,.i .i64 B.known,.mp I.kd,.mp I.fm,.mp I.vm,.mp I.tm,.mp I.rm]):=h.hs.get (A:=[_,_,_,_,_])
def bv.hkd(h:bv I B M S Fr H):H[I.kd]?=some (.mp (kE B.kinds)):=h.hs.get (A:=[_,_,_,_,_,_])
def bv.hfm(h:bv I B M S Fr H):H[I.fm]?=some (.mp (gE S.g)):=h.hs.get (A:=[_,_,_,_,_,_,_])
def bv.hvm(h:bv I B M S Fr H):H[I.vm]?=some (.mp (dE S.vws)):=h.hs.get (A:=[_,_,_,_,_,_,_,_])
def bv.htm(h:bv I B M S Fr H):H[I.tm]?=some (.mp (tE B.tbs)):=h.hs.get (A:=[_,_,_,_,_,_,_,_,_])
def bv.hrm(h:bv I B M S Fr H):H[I.rm]?=some (.mp (dE S.rws)):=h.hs.get (A:=[_,_,_,_,_,_,_,_,_,_])
def bv.app(h:bv I B M S Fr H)(t:ab):bv I B M S Fr (H++t):={h with hs:=h.hs.app t}
def EV.app(h:EV I B M Fr H)(t:ab):EV I B M Fr (H++t):=let⟨S,h⟩:=h.h;⟨S,h.app t⟩
def bv.new{x:an}(h:bv I B M S Fr H):bv I B M S ((H.length,x)::Fr) (H++[x]):={h with hs:=by have:=h.hs;simp[<-List.append_assoc]at this⊢;exact this.newm}
def EV.new{x:an}(h:EV I B M Fr H):EV I B M ((H.length,x)::Fr) (H++[x]):=let⟨S,h⟩:=h.h;⟨S,h.new⟩
def bv.set{i:Nat}{x y:an}(h:bv I B M S ((i,x)::Fr) H):bv I B M S ((i,y)::Fr) (H.set i y):={h with hs:=by have:=h.hs;simp[<-List.append_assoc]at this⊢;exact this.set}
def EV.set{i:Nat}{x y:an}(h:EV I B M ((i,x)::Fr) H):EV I B M ((i,y)::Fr) (H.set i y):=let⟨S,h⟩:=h.h;⟨S,h.set⟩
def bv.fr{i:Nat}{x:an}(h:bv I B M S ((i,x)::Fr) H):H[i]?=some x:=by have:=h.hs;simp[<-List.append_assoc]at this;exact this.get
def EV.fr{i:Nat}{x:an}(h:EV I B M ((i,x)::Fr) H):H[i]?=some x:=let⟨_,h⟩:=h.h;h.fr
def bv.drop{p:Nat×an}(h:bv I B M S (p::Fr) H):bv I B M S Fr H:={h with hs:=by refine h.hs.sub ?_;grind}
def EV.drop{p:Nat×an}(h:EV I B M (p::Fr) H):EV I B M Fr H:=let⟨S,h⟩:=h.h;⟨S,h.drop⟩
end
end
section
open Go.Dm
set_option maxRecDepth 10000
section
variable{I:bU}{B:BW}{M:af}{Fr:List (Nat×an)}{H:ab}
def oU{κ β:Type}[DecidableEq κ]{c:KK}{a:κ->D}{d:β->D}(h:jQ c a)(k:κ)(m:List (κ×β))(zero:D):fj c (a k) true zero (some (.mp (dN a d m)))=some (.tu [((aA k m).map d).getD zero,.b (aA k m).isSome]):=sj h k m true zero
def Vu{κ β:Type}[DecidableEq κ]{b:KK}{a:κ->D}{c:β->D}(h:jQ b a)(k:κ)(m:List (κ×β))(zero:D):fj b (a k) false zero (some (.mp (dN a c m)))=some (((aA k m).map c).getD zero):=sj h k m false zero
def HV{κ:Type}[DecidableEq κ]{c:KK}{a:κ->D}(d:jQ c a){p:κ}{l:List κ}(h:p∈l):fj c (a p) false (.b false) (some (.mp (dN a kB (jh l))))=some (.b true):=by rw[sj d p _ false _,Fv p l,E4 h];rfl
def HW{κ:Type}[DecidableEq κ]{c:KK}{a:κ->D}(d:jQ c a){p:κ}{l:List κ}(h:p∉l):fj c (a p) false (.b false) (some (.mp (dN a kB (jh l))))=some (.b false):=by rw[sj d p _ false _,Fv p l,E1 h];rfl
def HX{κ:Type}[DecidableEq κ]{c:KK}{a:κ->D}(d:jQ c a){p:κ}{l:List κ}(h:p∉l){G:ab}{i:Nat}:iS G c i (a p) (.b true) (some (.mp (dN a kB (jh l))))=some (G.set i (.mp (dN a kB (jh (l++[p]))))):=by rw[<-Qj p l h];grind[om,kB]
def HY(h:EV I B M Fr H)(C:M.facts.length<=1000000000){k:Nm}{f t:Int}:ac VS 335 [.hp I.v 0,.s k,.i .i64 f,.i .i64 t] H (λr=>∃j,r=.ret (.tu []) j/\EV I B (gg (k,f,t) M) Fr j):=by
 obtain⟨S,a⟩:=h.h;have d:=a.hv;have hr:=a.hmr;have e:=ay d;have p:=ay hr;unfold yR at hr;refine .body alR rfl rfl ?_;by_cases g:(k,f,t)∈M.facts
 ·have b:=HV HU g;simp[yQ]at b;have l:gg (k,f,t) M=M:=by simp_all[gg,gT]
  simp[go_sem,simprocAttr,ab2,d,hr,b];grind
 have b:=HW HU g;simp[yQ]at b;have m:=λ{G i}=>HX HU g (G:=G) (i:=i);simp[yQ]at m;have l:gg (k,f,t) M={M with facts:=M.facts++[(k,f,t)]}:=by grind[gg,gT]
 simp only[go_sem,simprocAttr,ab2,d,hr,b,m];refine⟨e,p,e,?_⟩;have c:=a.hs.set (A:=[_,_,_]) (y:=.mp (yR (M.facts++[(k,f,t)])));unfold yR at c;generalize E:List.set H I.mr _=J at c⊢;have q:=c.get (A:=[]);obtain⟨u,K,v,n,w,o⟩:=a.f.app (bytes:=32) (r:=iA (k,f,t)) (A:=sP I B S {M with facts:=M.facts++[(k,f,t)]}++S.aP) (by exact c) rfl (by grind) (by grind);simp[iA]at n;have x:=o.get (A:=[]);have z:=w.c1;simp[go_sem,simprocAttr,q,n,x,z];refine⟨e,?_⟩;rw[l];refine⟨{S with F:=u,aF:=v},⟨o.set (A:=[]),a.p,by grind,a.t,a.v,a.vo,a.g,a.w,a.r⟩⟩
def HZ(h:EV I B M Fr H)(v:M.tabs.length<=1000000000){k:Nm}:ac VS 336 [.hp I.v 0,.s k] H (λr=>∃f,r=.ret (.tu []) f/\EV I B (gy k M) Fr f):=by
 obtain⟨S,a⟩:=h.h;have g:=a.hv;have hr:=a.hml;unfold yS at hr;refine .body alS rfl rfl ?_;by_cases d:k∈M.tabs
 ·have b:=HV iz d;simp[kS]at b;have j:gy k M=M:=by simp_all[gy,gT]
  simp[go_sem,simprocAttr,ab3,g,hr,b];grind
 have b:=HW iz d;simp[kS]at b;have l:=λ{G i}=>HX iz d (G:=G) (i:=i);simp[kS]at l;have j:gy k M={M with tabs:=M.tabs++[k]}:=by grind[gy,gT]
 simp[go_sem,simprocAttr,ab3,g,hr,b,l];have c:=a.hs.set (A:=[_,_,_,_]) (y:=.mp (yS (M.tabs++[k])));unfold yS at c;generalize w:List.set H I.ml _=x at c⊢;have n:=c.get (A:=[]);obtain⟨o,z,p,m,q,e⟩:=a.t.app (bytes:=16) (r:=nC k) (A:=sP I B S {M with tabs:=M.tabs++[k]}++(S.aP++S.aF)) (by simp[gC];exact c) rfl (by grind) (by grind);simp[nC]at m;simp[gC]at e;have t:=e.get (A:=[]);have u:=q.c1;simp[go_sem,simprocAttr,n,m,t,u];rw[j];refine⟨{S with T:=o,aT:=p},⟨e.set (A:=[]),a.p,a.f,by grind,a.v,a.vo,a.g,a.w,a.r⟩⟩
def Vv(h:EV I B M Fr H){k:Nm}{K:CR->Prop}(d:K (.ret (.tu [.i .u8 ((aA k B.kinds).getD 0:Nat),.b (aA k B.kinds).isSome]) H)):ac VS 64 [.hp I.b 0,.s k] H K:=by
 obtain⟨S,a⟩:=h.h;have e:=a.hb;have f:=a.hkd;have g:fj (.c 2) (.s k) true (.i .u8 0) (some (.mp (kE B.kinds)))=some (.tu [.i .u8 ((aA k B.kinds).getD 0),.b (aA k B.kinds).isSome]):=by refine(oU iz k _ _).trans ?_;cases aA k _<;>rfl
 refine .body ak1 rfl rfl ?_;simp[go_sem,simprocAttr,au4,e,f,g];exact d
theorem yT{κ β:Type}[DecidableEq κ]{k:κ}{v:β}{m:List (κ×β)}:aA k ((k,v)::m)=some v:=by grind[aA]
theorem yU{κ β:Type}[DecidableEq κ]{k a:κ}{v:β}{m:List (κ×β)}(h:k≠a):aA k ((a,v)::m)=aA k m:=by grind[aA]
def Vw{κ β:Type}[DecidableEq κ]{k:κ}{q:β}:∀{g:List (κ×β)},aA k g=some q->∃A C,g=A++(k,q)::C/\∀a,aA k (A++(k,a)::C)=some a
 |(b,c)::g,h=>by
  by_cases e:k=b;·subst e;rw[yT]at h;cases h;exact⟨[],g,rfl,λ_=>yT⟩
  rw[yU e]at h;obtain⟨A,C,rfl,d⟩:=Vw h;grind[yU]
def bv.lock{S:ES}(h:bv I B M S Fr H){k:Nm}{a:Nat}{l:List Fc}{lk:Bool}(d:aA k S.g=some (a,l,lk)):H[a]?=some (.ar 11 (l.map Fc.c) none true lk)/\∃g,bv I B M {S with g:=g} Fr (H.set a (.ar 11 (l.map Fc.c) none true true)):=by
 obtain⟨A,C,b,j⟩:=Vw d;have hs:=h.hs;have e:gL S.g=gL A++(a,.ar 11 (l.map Fc.c) none true lk)::gL C:=by rw[b];simp[gL]
 have f:gL (A++(k,a,l,true)::C)=gL A++(a,.ar 11 (l.map Fc.c) none true true)::gL C:=by simp[gL]
 have i:gE (A++(k,a,l,true)::C)=gE S.g:=by rw[b];simp[gE,dN]
 rw[e]at hs;have c:Hs H ((sP I B S M++(S.aP++(S.aF++(S.aT++gL A))))++(a,.ar 11 (l.map Fc.c) none true lk)::(gL C++Fr)):=by simpa only[gC,U3]using hs
 refine⟨c.get,A++(k,a,l,true)::C,⟨?_,h.p,h.f,h.t,h.v,h.vo,?_,h.w,h.r⟩⟩;·have:=c.set (y:=.ar 11 (l.map Fc.c) none true true);rw[f,show sP I B {S with g:=A++(k,a,l,true)::C} M=sP I B S M by unfold sP;simp[i]];simpa only[gC,U3]using this
 rw[<-h.g,b];simp
def bv.noteV{S:ES}(h:bv I B M S Fr H){k:Nm}{y:D}(a:∃m:List SV,Sl 8 (m.map SV.c) y/\m.map SV.n=B.vw k):bv I B M {S with vws:=aS k y S.vws} Fr (H.set I.vm (.mp (dE (aS k y S.vws)))):=⟨h.hs.set (A:=[_,_,_,_,_,_,_,_]),h.p,h.f,h.t,h.v,h.vo,h.g,λb c m=>by
 rcases qM m with⟨rfl,rfl⟩|m;·exact a
 exact h.w b c m,h.r⟩
def bv.noteR{S:ES}(h:bv I B M S Fr H){k:Nm}{y:D}(a:∃t,aA k B.tbs=some t/\∃m:List RV,Sl 7 (m.map RV.c) y/\m.map RV.n=t.forced B.known):bv I B M {S with rws:=aS k y S.rws} Fr (H.set I.rm (.mp (dE (aS k y S.rws)))):=⟨h.hs.set (A:=[_,_,_,_,_,_,_,_,_,_]),h.p,h.f,h.t,h.v,h.vo,h.g,h.w,λb c m=>by
 rcases qM m with⟨rfl,rfl⟩|m;·exact a
 exact h.r b c m⟩
def Vy{k:Nm}{y:D}{l:List (Nm×D)}{G:ab}{i:Nat}:iS G (.c 2) i (.s k) y (some (.mp (dE l)))=some (G.set i (.mp (dE (aS k y l)))):=om (ev:=id) iz i k y l
structure VwR(I:bU)(B:BW)(M:af)(Fr:List (Nat×an))(k:Nm)(r:CR):Prop where h:∃(y:D)(m:List SV)(H':ab),r=.ret y H'/\Sl 8 (m.map SV.c) y/\m.map SV.n=B.vw k/\EV I B M Fr H'
def H6(P:B.ok)(h:EV I B M Fr H){k:Nm}:ac VS 110 [.hp I.b 0,.s k] H (VwR I B M Fr k):=by
 obtain⟨S,e⟩:=h.h;have n:=e.hb;have p:=e.hvm;have r:=e.hfm;have d:fj (.c 2) (.s k) true .nil (some (.mp (dE S.vws)))=some (.tu [(aA k S.vws).getD .nil,.b (aA k S.vws).isSome]):=by refine(oU iz k S.vws .nil).trans ?_;grind
 have w:=ay n;refine .body alc rfl rfl ?_;cases t:aA k S.vws with|some x=>obtain⟨m,m1,m2⟩:=e.w k x (iZ t);rw[t]at d;simp[fL,pu]at d;simp[go_sem,simprocAttr,LB,n,p,d];constructor<;>grind|none=>
 rw[t]at d;simp[uA,pv]at d;have f:fj _ (.s k) false .nil (some (.mp (gE S.g)))=some _:=Vu iz k S.g .nil;have j:(aA k S.g).map (λq=>q.2.1)=aA k B.grp:=by rw[<-e.g,Ci (g:=λq:Nat×List Fc×Bool=>q.2.1)]
 cases u:aA k S.g with|none=>
 rw[u]at f j;simp[AAC,uA]at f j;have o:B.vw k=[]:=by grind[BW.vw]
 simp[go_sem,simprocAttr,LB,n,p,r,d,f];exact⟨.nil,[],H,rfl,.nil rfl,o.symm,h⟩|some q=>
 obtain⟨a,l,lk⟩:=q;rw[u]at f j;simp[ga,fL]at f j;have o:B.vw k=iD (cZ (l.map Fc.n) k B.known):=by grind[BW.vw]
 obtain⟨g1,z,A⟩:=P.g (k,l) (iZ j.symm);obtain⟨y,m,Q,C,E⟩:=ank (l:=l) .im z A (key:=k) (known:=B.known);obtain⟨U,g,v⟩:=e.lock u;simp only at g1 z A;have V:aO H a l.length=some (11,l.map Fc.c,none,true,lk):=by simp[Dm.aO,U]
 have W:aW bG H [.mu a l.length 0 l.length,.s k,.i .i64 B.known]=some ([.im 11 (l.map Fc.c),.s k,.i .i64 B.known],H.set a (.ar 11 (l.map Fc.c) none true true)):=by simp only[go_sem,V];simp[E2]
 have F:=λ{K}=>eU (K:=K) Tn rfl Q W;simp[sB,show DO.own=false from rfl]at F;have X:(l.length:Int)>0:=by have:=V2.2 g1;omega
 have ll:∀{H:ab},dS H 1 (.mu a l.length 0 l.length)=some (.i .i64 l.length):=λ{H}=>rfl;simp only[go_sem,simprocAttr,LB,n,p,r,d,f,X,F];have J:=v.hb;have L:=v.hvm;have N:=v.noteV ⟨m,C,E.trans o.symm⟩;generalize List.set H a _=H1 at J L N⊢;have Y:=λ{G:ab}{K:CR->Prop}=>lq (H:=G) (K:=K);have Z:=λ{G i}=>Vy (k:=k) (y:=y) (l:=S.vws) (G:=G) (i:=i);refine⟨w,ay r,w,?_⟩;simp[go_sem,simprocAttr,Y,J,L,Z];exact⟨y,m,_,rfl,C,E.trans o.symm,_,N⟩
structure RwR(I:bU)(B:BW)(M:af)(Fr:List (Nat×an))(t:Tb)(r:CR):Prop where h:∃(y:D)(m:List RV)(H':ab),r=.ret y H'/\Sl 7 (m.map RV.c) y/\m.map RV.n=t.forced B.known/\EV I B M Fr H'
def Vz(v:B.ok)(h:EV I B M Fr H){k:Nm}{t:Tb}(g:aA k B.tbs=some t):ac VS 113 [.hp I.b 0,.ag t.c] H (RwR I B M Fr t):=by
 obtain⟨S,d⟩:=h.h;have j:=d.hb;have e:=d.hrm;have a:fj (.c 2) (.s t.name) true .nil (some (.mp (dE S.rws)))=some (.tu [(aA t.name S.rws).getD .nil,.b (aA t.name S.rws).isSome]):=by refine(oU iz _ S.rws .nil).trans ?_;grind
 have f:=ay j;obtain⟨t1,o⟩:=v.t (k,t) (iZ g);refine .body ale rfl rfl ?_;cases n:aA _ S.rws with|some x=>obtain⟨J,p,m,w,z⟩:=d.r t.name x (iZ n);rw[o,g]at p;cases p;rw[n]at a;simp[fL,pu]at a;simp[go_sem,simprocAttr,Z2,Tb.c,j,e,a];exact⟨f,ay e,x,m,H,rfl,w,z,h⟩|none=>rw[n]at a;simp[uA,pv]at a;obtain⟨y,m,A,q,r,_⟩:=amw t t1 B.known;have u:=λ{H K}=>A.c (H:=H) (K:=K) To rfl (by simp[t.pl];rfl) (.inl rfl);simp[Tb.c]at u;have C:=λ{G i}=>Vy (k:=t.name) (y:=y) (l:=S.rws) (G:=G) (i:=i);have E:=λ{G:ab}{K:CR->Prop}=>lq (H:=G) (K:=K);have F:=d.noteR (k:=t.name) ⟨t,o▸g,m,q,r⟩;simp only[go_sem,simprocAttr,Z2,Tb.c,j,e,a,u,E,C];exact⟨f,ay e,f,f,y,m,_,rfl,q,r,_,F⟩
end
end
section
open Go.Dm
set_option maxRecDepth 10000
def VA{T:List FN}(m:∀f∈T,f.frm<f.to):Canon (iD T)/\∀d,bQ (iD T) d=gc T d:=by
 have e:∀f∈T,f.frm∈gw T/\f.to∈gw T:=λf b=>by constructor<;>exact IP.2 (AAM.2 ⟨f,b,by simp⟩)
 have hs:=CQ (T.flatMap λf=>[f.frm,f.to]);unfold iD;cases h:gw T with
 |nil=>cases T with|nil=>exact⟨.nil,λd=>rfl⟩|cons f T=>grind
 |cons a r=>
 rw[h]at e;have i:(a::r).Pairwise (·<·):=h▸hs;obtain⟨j,k⟩:=XI (T:=T) i (λf b=>⟨.inr (e f b).1,.inr (e f b).2⟩) .nil (λt l=>by cases l);refine⟨j,λd=>?_⟩;rw[k d];by_cases c:d<a
 · rw[E4 c];have:fQ T d=none:=by
    unfold fQ;rw[x6.2 (λf b=>?_)];rfl;have n:∀x∈a::r,a<=x:=λx g=>by
     rcases S2.1 g with rfl|g;·omega
     exact ABb ((hM.1 i).1 x g)
    grind
   unfold gc;rw[this];rfl
 grind
def VB{g:FN}:∀{l:List FN},g∈lK l->g∈l
 |[],h=>h|f::l,h=>by
  rcases HF h with rfl|h;·grind
  exact M0 _ (VB h)
def H8{F:List FN}{key:Nm}{a:Int}{f:FN}(h:f∈cZ F key a):f∈F/\f.key=key/\f.known<=a:=by have:=qo.1 (VB h);grind
def BW.infr(B:BW)(a:Nm)(d:Int):List Nat:=(fJ (B.cls.map Cl.row) a d B.known).map Int.toNat
def BW.wd(B:BW):Wd where kind n:=aA n B.kinds;cl n d:=(B.infr n d).map λi=>(i,B.cls[i]!.n);clause i:=B.cls[i]!.n;view k:=.ok (B.vw k);tab k:=(aA k B.tbs).map λt=>(t.two,t.forced B.known)
def BW.ok.canon{B:BW}(h:B.ok)(k:Nm):Canon (B.vw k):=by unfold BW.vw;cases a:aA k B.grp with|none=>exact .nil|some l=>obtain⟨_,_,b⟩:=h.g (k,l) (iZ a);refine(VA λf c=>?_).1;have d:=(H8 c).1;obtain⟨g,e,rfl⟩:=fT.1 d;have:=vT b g e;unfold Fc.right at this;simp only[D0,Hq]at this;exact this.1.2.2.2.1
def VC{f:FN}:∀{l:List FN},(gW f l).length=l.length+1
 |[]=>rfl|g::l=>by
  unfold gW;split;·rfl
  simp[VC]
theorem VE:∀{l:List FN},(lK l).length=l.length|[]=>rfl|f::l=>by rw[show lK _=gW f _ from rfl,VC,VE];rfl
def VF{T:List FN}:∀{r:List Int}{acc:List aD},(i7 T r acc).length<=acc.length+r.length|[],acc=>by grind[i7]|[a],acc=>by grind[i7]|a::b::r,acc=>by have:=VF (T:=T) (r:=b::r) (acc:=match fQ T a with|some f=>if f.gone then acc else cJ acc ⟨a,b,f.v⟩|none=>acc);grind[i7,fQ,cJ,UL]
theorem BW.ok.len{B:BW}(h:B.ok)(k:Nm):(B.vw k).length<=80:=by unfold BW.vw;cases a:aA k B.grp with|none=>simp|some l=>
 obtain⟨_,c,_⟩:=h.g (k,l) (iZ a);refine dG VF ?_;unfold gw;have b:=zh (cV ((cZ (l.map Fc.n) k B.known).flatMap λf=>[f.frm,f.to]));rw[oW]at b;have d:((cZ (l.map Fc.n) k B.known).flatMap λf=>[f.frm,f.to]).length=2*(cZ (l.map Fc.n) k B.known).length:=by generalize cZ _ k _=T;induction T<;>grind
 grind[cZ,Fc.n,VE]
structure eG(I:bU)(B:BW)(Fr:List (Nat×an))(res:NR->af->Prop)(r:CR):Prop where h:(∃(a:AV)(M':af)(H':ab),r=.ret (.ag a.c) H'/\a.ok/\res (.ok a.v) M'/\EV I B M' Fr H')\/(∃(e:Int)(M':af)(H':ab),r=.pan (eO e) H'/\res (.er e) M'/\EV I B M' Fr H')
def eG.drop{I:bU}{B:BW}{Fr:List (Nat×an)}{p:NR->af->Prop}{r:CR}{q:Nat×an}(h:eG I B (q::Fr) p r):eG I B Fr p r:=by
 rcases h.h with⟨a,b,c,d,i,f,g⟩|⟨e,b,c,d,f,g⟩;·exact⟨.inl ⟨a,b,c,d,i,f,g.drop⟩⟩
 exact⟨.inr ⟨e,b,c,d,f,g.drop⟩⟩
def wD(I:bU):D:=.ifc 88 (.hp I.v 0)
def H9:VS.meth 88 "Fact"=some 335:=by kernel_rfl
def Ia:VS.meth 88 "Table"=some 336:=by kernel_rfl
def aof:VS.meth 88 "Pair"=some 33:=by kernel_rfl
section
variable{I:bU}{B:BW}{M:af}{Fr:List (Nat×an)}{H:ab}{body:aL->Tr}
def aog(G:B.ok)(h:EV I B M Fr H)(hl:M.facts.length<=1000000000){d:Int}(hd:0<=d/\d<65536){f:Nat}(au:f=3\/f=4){k:Nm}:ac VS 83 [.hp I.b 0,.i .u8 f,.s k,.i .i64 d,wD I] H (eG I B Fr (aG body (.st (gg (k,d,d+1)) λ_=>fI B.wd f k d) M)):=by
 have w1:IntKind.i64.wrap _=d+1:=wr (by omega) (by omega);have h1:=h.new (x:=.hb 3 [.i .i64 d]);refine .body ak8 rfl rfl ?_;simp[go_sem,ava,w1,H9];refine(HY h1 hl).mono λr hr=>?_;obtain⟨H2,rfl,h2⟩:=hr;simp[go_sem];refine(H6 G h2).mono λr hr=>?_;obtain⟨y,m,H3,rfl,p,g,h3⟩:=hr.h;have hc:=p.c1;have J:=h3.new (x:=.hb 185 [y]);have X:=J.fr;have w:=J.drop.fr;have A:=λ{H}=>p.n (H:=H);simp only[go_sem,hc,ABH];simp[go_sem,A];have ax:=by have:=G.len k;rw[<-g]at this;simpa using this
 refine(qG (by omega) (by decide) λi hi{K}=>aoa p hi X w).mono λr hr=>?_;obtain⟨j,rfl,j1,Y,Z⟩:=hr;simp only[Hq,vy]at Y Z;have hq:=λ{V dr os keep al sl Q an H H' k x'}=>p.q (V:=V) (dr:=dr) (os:=os) (keep:=keep) (loc:=al) (sl:=sl) (Q:=Q) (sl':=an) (H:=H) (H':=H') (k:=k) (x:=x');have hu:=λb=>p.under b;have L:∀i,i<m.length->(m.map SV.n)[i]! =m[i]!.n:=λi hi=>by rw[Hy _ i (by simpa using hi),Hy m i hi,wv]
 have a:=Vq (G.canon k) (by rw[<-g];simpa using j1) (λC=>by
 rw[<-g]at C⊢;have ad:=by simpa using C
 rw[L j ad];exact Y ad) (λC=>by rw[<-g,L _ (by omega)];exact ACU.1 (Z C));rw[<-g]at a;simp only[T3]at a;have l:=J.drop.drop;have o:=ay X;have N:=ay w;rw[N3,qu]at o N;have P:∀b,f=4->(bQ (B.vw k) d).isSome=b->aG body (.st (gg (k,d,d+1)) λ_=>fI B.wd f k d) M _ _:=λb e e2=>.st (by simp[fI,BW.wd,e,if_true,e2];exact .ret);by_cases S:j<m.length
 ·rw[L j S]at a;have E:(j:Int)<m.length:=by omega
  have c3:(0:Int)<=j:=by omega
  obtain⟨z,U⟩:∃z,z=m[j]!:=⟨_,rfl⟩;rw[<-U]at a;by_cases F:z.frm<=d
  ·rw[E4 ⟨S,F⟩,g]at a;obtain⟨t1,q⟩:=uo true;obtain⟨b,t,u,v⟩:=t1.av q;have c:=λ{H K}=>pq (b:=true) (H:=H) (K:=K);rw[u]at c;simp[AV.c]at c;simp only[go_sem,simprocAttr,w,A,hq,hu,E,c3,<-U,SV.c,F,c];refine⟨o,o,N,λe=>?_,λe=>?_⟩;·exact⟨.inl ⟨b,_,_,rfl,v,t▸P true (by omega) (by rw[a];rfl),l⟩⟩
   refine⟨.inl ⟨z.a,_,_,rfl,z.ok,.st ?_,l⟩⟩;simp[fI,BW.wd,E1 (show¬f=4 by omega),a];exact .ret
  rw[E1 (λh=>F h.2),g]at a;obtain⟨t1,q⟩:=uo false;obtain⟨b,t,u,v⟩:=t1.av q;have c:=λ{H K}=>pq (b:=false) (H:=H) (K:=K);have W:=λ{H K}=>eZ (e:=182) (H:=H) (K:=K);rw[u]at c;simp[AV.c]at c;simp only[go_sem,simprocAttr,w,A,hq,hu,E,c3,<-U,SV.c,F,c,W];refine⟨o,o,N,λe=>?_,λe=>?_⟩;·exact⟨.inl ⟨b,_,_,rfl,v,t▸P false (by omega) (by rw[a];rfl),l⟩⟩
  refine⟨.inr ⟨182,_,_,rfl,.st ?_,l⟩⟩;simp[fI,BW.wd,E1 (show¬f=4 by omega),a];exact .err
 rw[E1 (λh=>S h.1),g]at a;have E:¬(j:Int)<m.length:=by omega
 obtain⟨t1,q⟩:=uo false;obtain⟨b,t,u,v⟩:=t1.av q;have c:=λ{H K}=>pq (b:=false) (H:=H) (K:=K);have W:=λ{H K}=>eZ (e:=182) (H:=H) (K:=K);rw[u]at c;simp[AV.c]at c;simp only[go_sem,A,E,c,W];refine⟨o,λe=>?_,λe=>?_⟩;·exact⟨.inl ⟨b,_,_,rfl,v,t▸P false (by omega) (by rw[a];rfl),l⟩⟩
 refine⟨.inr ⟨182,_,_,rfl,.st ?_,l⟩⟩;simp[fI,BW.wd,E1 (show¬f=4 by omega),a];exact .err
end
end
section
open Go.Dm
set_option maxRecDepth 10000
def AV.num{a:AV}(h:a.ok)(b:a.v.k=2\/a.v.k=3):Fr a.v.n a.v.m (.ag [a.s,a.x,a.t,a.y])/\eL a.v.n a.v.m:=by refine⟨?_,(h.o.f b).1⟩;obtain⟨x,y,e,c,d⟩:=h.d.h;simp[AV.c,D.ag.injEq,s0,and_true,true_and]at e;constructor<;>grind
def Fr.free{n:Int}{m:Nat}{s x t y:D}(h:Fr n m (.ag [s,x,t,y])):nZ [.ag [s,x,t,y]]=true:=by obtain⟨k,l,e,a,b⟩:=h.h;simp[D.ag.injEq,s0,and_true]at e;obtain⟨c,d,f,g⟩:=e;subst c;subst d;subst f;subst g;have i:=a.sl;have j:=b.sl;cases i<;>cases j<;>rfl
def Ib{a:AV}(h:a.ok)(b:a.v.k=2\/a.v.k=3){H:ab}{K:CR->Prop}:ac VS 114 [.ag [a.s,a.x,a.t,a.y]] H K↔K (.ret (.i .i64 (mI a.v)) H):=by obtain⟨f,l⟩:=AV.num h b;exact(anH f l).c Tf rfl (by simp[f.pl]) (.inl rfl)
def QV.av(q:QV):∃a:AV,a.v=⟨2,q.q.1,q.q.2,0⟩/\a.c=[.i .u8 2,q.s,q.x,q.t,q.y,.i .i64 0]/\a.ok:=by
 refine⟨⟨⟨2,q.q.1,q.q.2,0⟩,q.s,q.x,q.t,q.y⟩,rfl,rfl,?_,?_⟩;·obtain⟨x,y,e,b,c⟩:=q.f.h;simp[D.ag.injEq,s0,and_true]at e;exact⟨x,y,by grind[AV.c],b,c⟩
 exact⟨by simp,λ_=>⟨q.l,rfl⟩,λh=>absurd (.inl rfl) h,λh=>(by cases h),λh=>(by cases h),λh=>(by grind)⟩
def aoh{W:Wd}{k:Nm}{v:NV}{rows:List bV}(h:W.tab k=some (false,rows)):eC W k [v]=match nP rows (mI v)with|none=>.err 6|some r=>.ret ⟨2,r.n,r.m,0⟩:=by grind[eC]
def Cj{W:Wd}{k:Nm}{v w:NV}{rows:List bV}(h:W.tab k=some (true,rows)):eC W k [v,w]=match nP rows (mI v)with|none=>.err 6|some r=>match C6 rows r.a (mI w)with|none=>.err 6|some s=>.ret ⟨2,s.n,s.m,0⟩:=by grind[eC]
def VG{W:Wd}{k:Nm}{vs:List NV}{two:Bool}{rows:List bV}(h:W.tab k=some (two,rows))(a:two≠decide (vs.length=2)):eC W k vs=.err 185:=by grind[eC]
section
variable{I:bU}{B:BW}{M:af}{Fr:List (Nat×an)}{H:ab}{body:aL->Tr}
def BW.ok.rl{B:BW}(h:B.ok){k:Nm}{t:Tb}(a:aA k B.tbs=some t):(t.forced B.known).length<=400:=by
 obtain⟨t1,_⟩:=h.t (k,t) (iZ a);unfold Tb.v at t1;simp only[D0,Hq]at t1;have:∀{l acc:List bV},(bK B.known l acc).length<=acc.length+l.length:=by intro l;induction l<;>grind[bK]
 grind[Rw.n,Tb.forced]
def aoi(E:B.ok){i:Nat}{a:AV}(ha:a.ok)(hk:a.v.k=2\/a.v.k=3)(h:EV I B M ((i,aU [a] true)::Fr) H)(hl:M.tabs.length<=1000000000){k:Nm}:ac VS 84 [.hp I.b 0,.s k,.mu i 3 0 1,wD I] H (eG I B ((i,aU [a] true)::Fr) (aG body (.st (gy k) λ_=>eC B.wd k [a.v]) M)):=by have ek:=λ{H K}=>Ib ha hk (H:=H) (K:=K);have e0:aU [a] true=.ar 6 [a.c,cr,cr] _ true true:=rfl;refine .body S3 rfl rfl ?_;simp[go_sem,ZQ,Ia];refine(HZ h hl).mono λr hr=>?_;obtain⟨H2,rfl,v⟩:=hr;obtain⟨S,U⟩:=v.h;have F:=U.hb;have G:=U.htm;have c:fj _ (.s k) true (.ag [.s [],.b false,.nil]) (some (.mp (tE B.tbs)))=some _:=oU iz k B.tbs _;have W:=λ{H K}=>eZ (e:=6) (H:=H) (K:=K);have aw:=λ{H K}=>eZ (e:=185) (H:=H) (K:=K);cases d:aA k B.tbs with|none=>rw[d]at c;simp[AAC,uA,pv]at c;simp[go_sem,simprocAttr,F,G,c,W];refine⟨.inr ⟨6,_,_,rfl,.st ?_,v⟩⟩;simp[eC,BW.wd,d,AAC];exact .err|some t=>rw[d]at c;simp[ga,fL,pu]at c;simp[Tb.c]at c;cases w:t.two with|true=>rw[w]at c;simp[go_sem,simprocAttr,F,G,c,aw];refine⟨.inr ⟨185,_,_,rfl,.st ?_,v⟩⟩;rw[VG (two:=true) (rows:=t.forced B.known) (by grind[BW.wd]) (by simp)];exact .err|false=>
 rw[w]at c;simp[go_sem,simprocAttr,F,G,c];have X:=Vz E v d;simp[Tb.c,w]at X;refine X.mono λr hr=>?_;obtain⟨y,m,Y,rfl,A,g,h3⟩:=hr.h;have hc:=A.c1;have l:=h3.new (x:=.hb 42 [y]);have Z:=l.fr;have J:=l.drop.fr;have hn:=λ{H}=>A.n (H:=H);rw[e0]at J;simp only[go_sem,hc,ABH];generalize hp:Y.length=p at l Z⊢;generalize Y++[an.hb 42 [y]]=H4 at l Z J⊢;have o:=l.new (x:=.hb 3 [.i .i64 (mI a.v)]);have C:=o.fr;have u:=o.drop.fr;have l5:=ay C;have l6:=ay u;have L:=o.drop.drop;simp only[go_sem,simprocAttr,J,AV.c,ek,ABH];generalize hq:H4.length=q at o C l5 l6⊢;generalize H4++[an.hb 3 [.i .i64 _]]=H5 at o C u l5 l6 L⊢;simp[go_sem,u,hn];have bg:=by have:=E.rl d;rw[<-g]at this;simpa using this
 refine(qG (by omega) (by decide) λi hi{K}=>Vr A hi u C).mono λr hr=>?_;obtain⟨j,rfl,j1,j2,j3⟩:=hr;simp only[Hq,vy]at j2 j3;have N:∀i,i<m.length->(m.map RV.n)[i]! =m[i]!.n:=λi hi=>by rw[Hy _ i (by simpa using hi),Hy m i hi,wv]
 have ai:=HK (E.t _ (iZ d)).1 B.known;rw[show bK _ _ []=m.map RV.n from g.symm]at ai;have f:=HL ai (by simpa using j1) (λP=>by
 have aj:=by simpa using P
 rw[N j aj];exact j2 aj) (λP=>by rw[N _ (by omega)];exact ACU.1 (j3 P));rw[g]at f;have ak:∀r,nP _ _=r->eC B.wd k [a.v]=match r with|none=>.err 6|some r=>.ret ⟨2,r.n,r.m,0⟩:=λr e=>by rw[aoh (rows:=t.forced B.known) (by simp[BW.wd,d,ga,w]),e]
 have hq:=λ{V dr os keep a2 sl Q a4 H H' k x'}=>A.q (V:=V) (dr:=dr) (os:=os) (keep:=keep) (loc:=a2) (sl:=sl) (Q:=Q) (sl':=a4) (H:=H) (H':=H') (k:=k) (x:=x');by_cases h0:j=0;·subst h0;simp[go_sem,simprocAttr,wr,W];exact⟨.inr ⟨6,_,_,rfl,.st (by rw[ak _ f];exact .err),L⟩⟩
 rw[E1 h0,<-g,N _ (by omega)]at f;have w1:IntKind.i64.wrap (j-1)=((j-1:Nat)):=by rw[wr (by omega) (by omega)];omega
 have c1:¬((j-1:Nat):Int)<0:=by omega
 have c0:((j-1:Nat):Int)<m.length:=by omega
 have c3:0<=((j-1:Nat):Int):=by omega
 obtain⟨z,hz⟩:∃z,z=m[j-1]!:=⟨_,rfl⟩;rw[<-hz]at f;simp[go_sem,simprocAttr,w1,c1,c0,hq,<-hz,RV.c,u];rw[g]at f;obtain⟨b,b1,b2,b3⟩:=z.q.av;exact⟨.inl ⟨b,_,_,by rw[b2],b3,.st (by rw[ak _ f,b1];exact .ret),L⟩⟩
def aoj(N:B.ok){i:Nat}{a b:AV}(ha:a.ok)(hk:a.v.k=2\/a.v.k=3)(aq:b.ok)(au:b.v.k=2\/b.v.k=3)(h:EV I B M ((i,aU [a,b] true)::Fr) H)(hl:M.tabs.length<=1000000000){k:Nm}:ac VS 84 [.hp I.b 0,.s k,.mu i 3 0 2,wD I] H (eG I B ((i,aU [a,b] true)::Fr) (aG body (.st (gy k) λ_=>eC B.wd k [a.v,b.v]) M)):=by have ek:=λ{H K}=>Ib ha hk (H:=H) (K:=K);have bj:=λ{H K}=>Ib aq au (H:=H) (K:=K);have e0:aU [a,b] true=.ar 6 [a.c,b.c,cr] _ true true:=rfl;refine .body S3 rfl rfl ?_;simp[go_sem,ZQ,Ia];refine(HZ h hl).mono λr hr=>?_;obtain⟨H2,rfl,P⟩:=hr;obtain⟨S,hS⟩:=P.h;have hb:=hS.hb;have ht:=hS.htm;have c:fj _ (.s k) true (.ag [.s [],.b false,.nil]) (some (.mp (tE B.tbs)))=some _:=oU iz k B.tbs _;have U:=λ{H K}=>eZ (e:=6) (H:=H) (K:=K);have bk:=λ{H K}=>eZ (e:=185) (H:=H) (K:=K);cases f:aA k B.tbs with|none=>rw[f]at c;simp[AAC,uA,pv]at c;simp[go_sem,simprocAttr,hb,ht,c,U];refine⟨.inr ⟨6,_,_,rfl,.st ?_,P⟩⟩;simp[eC,BW.wd,f,AAC];exact .err|some t=>rw[f]at c;simp[ga,fL,pu]at c;simp[Tb.c]at c;cases W:t.two with|false=>rw[W]at c;simp[go_sem,simprocAttr,hb,ht,c,bk];refine⟨.inr ⟨185,_,_,rfl,.st ?_,P⟩⟩;rw[VG (two:=false) (rows:=t.forced B.known) (by grind[BW.wd]) (by simp)];exact .err|true=>
 rw[W]at c;simp[go_sem,simprocAttr,hb,ht,c];have ax:=Vz N P f;simp[Tb.c,W]at ax;refine ax.mono λr hr=>?_;obtain⟨y,m,H3,rfl,w,d,h3⟩:=hr.h;have hc:=w.c1;have J:=h3.new (x:=.hb 42 [y]);have g4:=J.fr;have ak:=J.drop.fr;have hn:=λ{H}=>w.n (H:=H);rw[e0]at ak;simp only[go_sem,hc,ABH];generalize hp:H3.length=p at J g4⊢;generalize H3++[an.hb 42 [y]]=H4 at J g4 ak⊢;have A:=J.new (x:=.hb 3 [.i .i64 (mI a.v)]);have X:=A.fr;have C:=A.drop.fr;have l5:=ay X;have l6:=ay C;have hE:=A.drop.drop;simp only[go_sem,simprocAttr,ak,AV.c,ek,ABH];generalize Y:H4.length=q at A X l5 l6⊢;generalize H4++[an.hb 3 [.i .i64 _]]=Z at A X C l5 l6 hE⊢;simp[go_sem,C,hn];have b6:=by have:=N.rl f;rw[<-d]at this;simpa using this
 refine(qG (by omega) (by decide) λi hi{K}=>Vr w hi C X).mono λr hr=>?_;obtain⟨j,rfl,j1,j2,j3⟩:=hr;simp only[Hq,vy]at j2 j3;have E:∀i,i<m.length->(m.map RV.n)[i]! =m[i]!.n:=λi hi=>by rw[Hy _ i (by simpa using hi),Hy m i hi,wv]
 have a7:=HK (N.t _ (iZ f)).1 B.known;rw[show bK _ _ []=m.map RV.n from d.symm]at a7;have l:=HL a7 (by simpa using j1) (λv=>by
 have L:=by simpa using v
 rw[E j L];exact j2 L) (λv=>by rw[E _ (by omega)];exact ACU.1 (j3 v));rw[d]at l;have aa:B.wd.tab k=some (true,t.forced B.known):=by simp[BW.wd,f,ga,W]
 have Y:=λ{V dr os keep bp sl Q br H H' k x'}=>w.q (V:=V) (dr:=dr) (os:=os) (keep:=keep) (loc:=bp) (sl:=sl) (Q:=Q) (sl':=br) (H:=H) (H':=H') (k:=k) (x:=x');have hu:=λb=>w.under b;by_cases h0:j=0;·subst h0;simp[go_sem,simprocAttr,wr,U];exact⟨.inr ⟨6,_,_,rfl,.st (by rw[Cj aa,l];exact .err),hE⟩⟩
 rw[E1 h0,<-d,E _ (by omega)]at l;have w1:IntKind.i64.wrap (j-1)=((j-1:Nat)):=by rw[wr (by omega) (by omega)];omega
 have c0:((j-1:Nat):Int)<m.length:=by omega
 have c3:0<=((j-1:Nat):Int):=by omega
 obtain⟨z,hz⟩:∃z,z=m[j-1]!:=⟨_,rfl⟩;rw[<-hz]at l;rw[d]at l;have c4:((j-1:Nat):Int)>=0:=c3;have ab:=hE.fr;rw[e0]at ab;have bx:aO Z i 3=some (6,[a.c,b.c,cr],some 3,true,true):=by simp[Dm.aO,ab]
 simp only[go_sem,simprocAttr,w1,c4,c0,Y,hu,<-hz,RV.c,C,bx,AV.c,bj];refine⟨ay C,ay ab,ay ab,?_,?_⟩;·have bz:=(AV.num aq au).1.free;unfold Gu;simp only[bz];rfl
 have o:=(A.new (x:=.hb 0 [.i .i64 z.a])).new (x:=.hb 0 [.i .i64 (mI b.v)]);simp[gC,U3,bN,N3,qu]at o;have q7:=o.fr;have F:=o.drop.fr;have q5:=o.drop.drop.drop.fr;have ae:=o.drop.drop.drop.drop;have s7:=ay q7;have s6:=ay F;have s5:=ay q5;generalize Z.length+1=u7 at o q7 s7⊢;generalize Z.length=u6 at o F s6⊢;generalize Z++[an.hb 0 [D.i _ z.a],an.hb 0 [D.i _ _]]=H7 at o q7 F q5 s7 s6 s5 ae⊢;simp[go_sem,q5,hn];refine(qG (by omega) (by decide) λi hi{K}=>aob w hi q5 F q7).mono λr hr=>?_;obtain⟨g,rfl,g1,g2,g3⟩:=hr;simp only[Hq,vy]at g2 g3;have bd:=an8 (N.t _ (iZ f)).1 B.known;rw[show bK _ _ []=m.map RV.n from d.symm]at bd;have u:=an9 bd (by simpa using g1) (λv=>by
 have L:=by simpa using v
 rw[E g L];exact g2 L) (λv=>by rw[E _ (by omega)];exact Decidable.not_not.1 (g3 v));rw[d]at u;by_cases z0:g=0;·subst z0;simp[go_sem,simprocAttr,wr,U];exact⟨.inr ⟨6,_,_,rfl,.st (by rw[Cj aa,l];simp[RV.n];rw[u];exact .err),ae⟩⟩
 rw[E1 z0,<-d,E _ (by omega)]at u;have w2:IntKind.i64.wrap (g-1)=((g-1:Nat)):=by rw[wr (by omega) (by omega)];omega
 have d1:¬((g-1:Nat):Int)<0:=by omega
 have d0:((g-1:Nat):Int)<m.length:=by omega
 have d3:0<=((g-1:Nat):Int):=by omega
 obtain⟨G,ap⟩:∃G,G=m[g-1]!:=⟨_,rfl⟩;rw[<-ap]at u;by_cases ah:G.a=z.a;·simp[go_sem,simprocAttr,w2,d1,d0,Y,hu,<-ap,RV.c,q5,F,ah];rw[E4 (show G.n.a=z.a from ah),d]at u;obtain⟨b,b1,b2,b3⟩:=G.q.av;exact⟨s5,s6,⟨.inl ⟨b,_,_,by rw[b2],b3,.st (by rw[Cj aa,l];simp[RV.n];rw[u,b1];exact .ret),ae⟩⟩⟩
 simp[go_sem,simprocAttr,w2,d0,Y,hu,<-ap,RV.c,q5,F,ah,U];rw[E1 (show¬G.n.a=z.a from ah),d]at u;exact⟨s5,s6,⟨.inr ⟨6,_,_,rfl,.st (by rw[Cj aa,l];simp[RV.n];rw[u];exact .err),ae⟩⟩⟩
end
end
section
open Go.Dm
set_option maxRecDepth 10000
def QV.avk(q:QV){k:Nat}(b:k=2\/k=3):∃a:AV,a.v=⟨k,q.q.1,q.q.2,0⟩/\a.c=[.i .u8 k,q.s,q.x,q.t,q.y,.i .i64 0]/\a.ok:=by
 refine⟨⟨⟨k,q.q.1,q.q.2,0⟩,q.s,q.x,q.t,q.y⟩,rfl,rfl,?_,?_⟩;·obtain⟨x,y,e,c,d⟩:=q.f.h;simp[D.ag.injEq,s0,and_true]at e;exact⟨x,y,by grind[AV.c],c,d⟩
 exact⟨by grind,λ_=>⟨q.l,rfl⟩,λh=>absurd b h,λh=>(by grind),λh=>(by grind),λh=>(by grind)⟩
def bh.two{r:EQ}{d:D}(h:bh r d){P:Prop}(f:∀q:QV,r=.ok q.q->d=.tu [.ag [q.s,q.x,q.t,q.y],.i .i64 0]->P)(g:∀e:Int,r=.error e->e≠0->d=.tu [.ag [.b false,.nil,.b false,.nil],.i .i64 e]->P):P:=by rcases h.h with⟨q,a,b⟩|⟨e,a,b,c⟩<;>grind
variable{x:Int}
def iY.mono{k:Int}(a:k<=x){l:List bV}(h:iY k l):iY x l:=by induction h with|nil=>exact .nil|snoc _ b c d=>constructor<;>grind
theorem aok{k:Int}(a:k<=x){l:List bV}:bK x (bK k l []) []=bK k l []:=Vs ((yO .nil).mono a)
def aol{k y:Int}(a:k<=x){l:List bV}:qJ (bK k l []) x y=qJ l k y:=by grind[qJ,aok]
theorem VH{k lo hi:Int}(a:k<=x){l:List bV}:∀{n y:Nat}{acc:Fq},jV (bK k l []) x lo hi n y acc=jV l k lo hi n y acc|0,_,_=>rfl|n+1,y,acc=>by unfold jV;unfold sK;rw[aol a];simp[VH a]
def aom{a:Bool}{k lo hi:Int}(b:k<=x){l:List bV}:kN a (bK k l []) lo hi x=kN a l lo hi k:=by grind[kN,VH]
def Ic(O:bB):Prop:=∀{l:List SV}{x:D}{a b n:Int},Sl 8 (l.map SV.c) x->l.length<1000->∃r,ai VS 119 [x,.i .i64 a,.i .i64 b,.i .i64 n] r/\bh (O.best (l.map SV.n) a b n) r
section
variable{I:bU}{B:BW}{M:af}{Fr:List (Nat×an)}{H:ab}{body:aL->Tr}{O:bB}
def aon(J:O.serv=oX)(u:B.ok){i:Nat}{a b:AV}(h:EV I B M ((i,aU [a,b] true)::Fr) H)(L:M.facts.length<=1000000000){k:Nm}:ac VS 85 [.hp I.b 0,.i .u8 21,.s k,.mu i 3 0 2,wD I] H (eG I B ((i,aU [a,b] true)::Fr) (aG body (if b.v.i<=a.v.i then .ret ⟨2,0,1,0⟩else .st (gg (k,a.v.i,b.v.i)) λ_=>fp O B.wd 21 k [a.v,b.v]) M)):=by
 have N:aU [a,b] true=.ar 6 [a.c,b.c,cr] _ true true:=rfl;have hi:=h.fr;rw[N]at hi;have v:aO H i 3=some (6,[a.c,b.c,cr],some 3,true,true):=by simp[Dm.aO,hi]
 have c:=ay hi;refine .body S4 rfl rfl ?_;by_cases x:b.v.i<=a.v.i;·obtain⟨q,d,f⟩:=QV.int (n:=0) (by omega);obtain⟨zz,z1,z2,z3⟩:=q.avk (.inl rfl);simp only[go_sem,simprocAttr,DI,v,AV.c,x,f];refine⟨c,c,c,c,⟨.inl ⟨zz,M,H,by grind,z3,?_,h⟩⟩⟩;rw[z1,d];exact .ret
 simp only[go_sem,simprocAttr,DI,v,AV.c,x,H9];refine⟨c,c,c,c,(HY h L).mono λr hr=>?_⟩;obtain⟨X,rfl,P⟩:=hr;simp[go_sem];refine(H6 u P).mono λr hr=>?_;obtain⟨y,m,Y,rfl,z,A,l⟩:=hr.h;have Z:m.length<=80:=by have:=u.len k;grind
 obtain⟨zz,e,c1,c2⟩:=Ht (a:=a.v.i) (b:=b.v.i) z (by omega);have o:=λ{H K}=>c1.c (H:=H) (K:=K) vH rfl (by simp[z.pl,aZ]) (.inl rfl);have C:=λ{H K}=>lq (H:=H) (K:=K);have E:∀r,gf (B.vw k) a.v.i b.v.i=r->fp O B.wd 21 k [a.v,b.v]=match r with|.error e=>.err e|.ok p=>(oX p a.v.i b.v.i).tr 2:=λr e=>by unfold fp;simp only[BW.wd,J];grind
 rcases c2.h with⟨rfl,p,F,g,p3⟩|⟨rfl,rfl,g⟩
 ·rw[A]at g;have j:=E _ g;simp at j;obtain⟨r,Q,S⟩:=amg (a:=a.v.i) (b:=b.v.i) F (by omega);have G:=λ{H K}=>Q.c (H:=H) (K:=K) vI rfl (by simp[F.pl,aZ]) (.inl rfl);refine S.two (λq d f=>?_) λe d f U=>?_;·obtain⟨w,V,w2,W⟩:=q.avk (.inl rfl);subst f;simp[go_sem,simprocAttr,o,C,G];refine⟨.inl ⟨w,_,_,by grind,W,.st ?_,l⟩⟩;rw[j,V,d];exact .ret
  subst U;have t:=λ{H K}=>kr f (H:=H) (K:=K);simp[go_sem,o,C,G,t];refine⟨.inr ⟨e,_,_,rfl,.st ?_,l⟩⟩;rw[j,d];exact .err
 rw[A]at g;have j:=E _ g;have t:=λ{H K}=>kr (e:=2) (by decide) (H:=H) (K:=K);simp[go_sem,o,t];refine⟨.inr ⟨2,_,_,rfl,.st ?_,l⟩⟩;rw[j];exact .err
def aoo(Q:Ic O)(v:B.ok){i:Nat}{a b c:AV}(h:EV I B M ((i,aU [a,b,c] true)::Fr) H)(S:M.facts.length<=1000000000){k:Nm}:ac VS 85 [.hp I.b 0,.i .u8 22,.s k,.mu i 3 0 3,wD I] H (eG I B ((i,aU [a,b,c] true)::Fr) (aG body (if b.v.i<=a.v.i then .err 6 else .st (gg (k,a.v.i,b.v.i)) λ_=>fp O B.wd 22 k [a.v,b.v,c.v]) M)):=by
 have x:aU [a,b,c] true=.ar 6 [a.c,b.c,c.c] _ true true:=rfl;have hi:=h.fr;rw[x]at hi;have z:aO H i 3=some (6,[a.c,b.c,c.c],some 3,true,true):=by simp[Dm.aO,hi]
 have d:=ay hi;refine .body S4 rfl rfl ?_;by_cases A:b.v.i<=a.v.i;·have U:=λ{H K}=>eZ (e:=6) (H:=H) (K:=K);simp only[go_sem,simprocAttr,DI,z,AV.c,A,U];exact⟨d,d,d,d,⟨.inr ⟨6,M,H,rfl,.err,h⟩⟩⟩
 simp only[go_sem,simprocAttr,DI,z,AV.c,A,H9];refine⟨d,d,d,d,(HY h S).mono λr hr=>?_⟩;obtain⟨H2,rfl,V⟩:=hr;simp[go_sem];refine(H6 v V).mono λr hr=>?_;obtain⟨y,m,W,rfl,C,E,j⟩:=hr.h;have F:=j.fr;rw[x]at F;have G:aO W i 3=some (6,[a.c,b.c,c.c],some 3,true,true):=by simp[Dm.aO,F]
 have ae:m.length<=80:=by have:=v.len k;grind
 obtain⟨zz,e,c1,c2⟩:=Ht (a:=a.v.i) (b:=b.v.i) C (by omega);have l:=λ{H K}=>c1.c (H:=H) (K:=K) vH rfl (by simp[C.pl,aZ]) (.inl rfl);have J:=λ{H K}=>lq (H:=H) (K:=K);have L:∀r,gf (B.vw k) a.v.i b.v.i=r->fp O B.wd 22 k [a.v,b.v,c.v]=match r with|.error e=>.err e|.ok p=>(O.best p a.v.i b.v.i c.v.i).tr 3:=λr e=>by grind[fp,BW.wd,NV]
 rcases c2.h with⟨rfl,p,N,f,p3⟩|⟨rfl,rfl,f⟩
 ·rw[E]at f;have g:=L _ f;simp at g;obtain⟨r,X,Y⟩:=Q (a:=a.v.i) (b:=b.v.i) (n:=c.v.i) N (by omega);have P:=λ{H K}=>X.c (H:=H) (K:=K) Tg rfl (by simp[N.pl,aZ]) (.inl rfl);refine Y.two (λq o t=>?_) λe o t Z=>?_;·obtain⟨w,w1,w2,w3⟩:=q.avk (.inr rfl);subst t;simp[go_sem,simprocAttr,l,J,P,G,AV.c];refine⟨.inl ⟨w,_,_,by grind,w3,.st ?_,j⟩⟩;rw[g,w1,o];exact .ret
  subst Z;have u:=λ{H K}=>kr t (H:=H) (K:=K);simp[go_sem,simprocAttr,l,J,P,G,AV.c,u];refine⟨.inr ⟨e,_,_,rfl,.st ?_,j⟩⟩;rw[g,o];exact .err
 rw[E]at f;have g:=L _ f;have u:=λ{H K}=>kr (e:=2) (by decide) (H:=H) (K:=K);simp[go_sem,l,u];refine⟨.inr ⟨2,_,_,rfl,.st ?_,j⟩⟩;rw[g];exact .err
def aop(v:∀c rows lo hi,O.grow c rows lo hi=kN c rows lo hi 9223372036854775807)(x:B.known<=9223372036854775807)(y:B.ok)(h:EV I B M Fr H)(z:M.tabs.length<=1000000000){k:Nm}{lo hi:Int}:ac VS 86 [.hp I.b 0,.s k,.i .i64 lo,.i .i64 hi,wD I] H (eG I B Fr (aG body (.st (gy k) λ_=>match B.wd.tab k with|none=>.err 6|some (c,rows)=>(O.grow c rows lo hi).tr 2) M)):=by refine .body ak9 rfl rfl ?_;simp[go_sem,avb,Ia];refine(HZ h z).mono λr hr=>?_;obtain⟨N,rfl,d⟩:=hr;obtain⟨S,o⟩:=d.h;have f:=o.hb;have p:=ay f;have j:=o.htm;have a:fj _ (.s k) true (.ag [.s [],.b false,.nil]) (some (.mp (tE B.tbs)))=some _:=oU iz k B.tbs _;have A:=λ{H K}=>eZ (e:=6) (H:=H) (K:=K);have C:=λ{H K}=>lq (H:=H) (K:=K);cases g:aA k B.tbs with|none=>rw[g]at a;simp[AAC,uA,pv]at a;simp[go_sem,simprocAttr,f,j,a,A];refine⟨.inr ⟨6,_,_,rfl,.st ?_,d⟩⟩;simp[BW.wd,g,AAC];exact .err|some t=>
 rw[g]at a;simp[ga,fL,pu]at a;obtain⟨t1,P⟩:=y.t (k,t) (iZ g);obtain⟨r,g1,E⟩:=anG t t1 lo hi B.known;have l:=λ{H K}=>g1.c (H:=H) (K:=K) BN rfl (by simp[t.pl,aZ]) (.inl rfl);simp[Tb.c]at a l;have Q:O.grow t.two (t.forced _) lo hi=kN t.two _ lo hi _:=(v _ _ _ _).trans (aom x);have u:(match B.wd.tab k with|none=>Tr.err 6|some (c,rows)=>(O.grow c rows lo hi).tr 2)=(kN t.two (t.rows.map Rw.n) lo hi B.known).tr 2:=by grind[BW.wd]
 refine E.two (λq m n=>?_) λe m n F=>?_;·obtain⟨w,G,U,J⟩:=q.avk (.inl rfl);subst n;simp[go_sem,simprocAttr,f,j,a,l,C];exact⟨p,⟨.inl ⟨w,_,_,by grind,J,.st (by rw[u,m,G];exact .ret),d⟩⟩⟩
 subst F;have L:=λ{H K}=>kr n (H:=H) (K:=K);simp[go_sem,simprocAttr,f,j,a,l,L];exact⟨p,⟨.inr ⟨e,_,_,rfl,.st (by rw[u,m];exact .err),d⟩⟩⟩
end
end
section
open Go.Dm
set_option maxRecDepth 10000
def VI(O:bB)(op:Nat):Prop:=∀(I:bU)(B:BW)(M:af)(Fr:List (Nat×an))(H:ab)(body:aL->Tr)(i:Nat)(vs:List AV)(nm:Nm)(md:Int),B.ok->vs.length<=3->(∀a∈vs,a.ok)->EV I B M ((i,aU vs false)::Fr) H->M.facts.length<=1000000000->M.tabs.length<=1000000000->ac VS 62 [.hp I.b 0,.i .u8 op,.s nm,.i .i64 md,.mu i 3 0 vs.length,wD I] H (eG I B Fr (aG body (cB O B.wd op nm md (vs.map AV.v)) M))
def sQ{O:bB}{W:Wd}{op:Nat}{nm:Nm}{md:Int}{vs:List AV}(b:cm op (vs.map λa=>a.v.k)=true):cB O W op nm md (vs.map AV.v)=(if op=3\/op=4 then .st (gg (nm,(vs.map AV.v)[0]!.i,(vs.map AV.v)[0]!.i+1)) λ_=>fI W op nm (vs.map AV.v)[0]!.i else if op=6 then .st (gy nm) λ_=>eC W nm (vs.map AV.v)else if op=21\/op=22 then(if(vs.map AV.v)[1]!.i<=(vs.map AV.v)[0]!.i then(if op=22 then .err 6 else .ret ⟨2,0,1,0⟩)else .st (gg (nm,(vs.map AV.v)[0]!.i,(vs.map AV.v)[1]!.i)) λ_=>fp O W op nm (vs.map AV.v))else if op=23 then .st (gy nm) λ_=>match W.tab nm with|none=>.err 6|some (c,rows)=>(O.grow c rows (vs.map AV.v)[0]!.i (vs.map AV.v)[1]!.i).tr 2 else(O.pure op md (vs.map AV.v)).tr):=by unfold cB;rw[AAi,show(NV.k∘AV.v)=(λa=>a.v.k)from rfl,E4 b];rfl
section
variable{I:bU}{B:BW}{M:af}{Fr:List (Nat×an)}{H:ab}{body:aL->Tr}{O:bB}{op i:Nat}{vs:List AV}{nm:Nm}{md:Int}
def eG.ans{b:NR}{t:Tr}(h:∀r,gi b H r->gi b H r)(g:EV I B M Fr H)(hr:aG body t M b M){r:CR}(c:gi b H r):eG I B Fr (aG body t M) r:=by cases r with|ret d f=>obtain⟨rfl,a,rfl,rfl,i⟩:=c;constructor<;>grind|pan d f=>obtain⟨rfl,e,rfl,rfl⟩:=c;constructor<;>grind|bad=>exact c.elim
def NR.run(a:NR):aG body a.tr M a M:=by cases a with|ok v=>exact .ret|er e=>exact .err
theorem aoq(b:op<256)(c:vs.length<=3)(h:EV I B M ((i,aU vs false)::Fr) H)(d:cm op (vs.map λa=>a.v.k)=false):ac VS 62 [.hp I.b 0,.i .u8 op,.s nm,.i .i64 md,.mu i 3 0 vs.length,wD I] H (eG I B Fr (aG body (cB O B.wd op nm md (vs.map AV.v)) M)):=by refine anS b c h.fr d ⟨.inr ⟨185,M,_,rfl,?_,(h.set).drop⟩⟩;unfold cB;rw[AAi,show(NV.k∘AV.v)=(λa=>a.v.k)from rfl,E1 (by grind)];exact .err
def aor(c:O.pure=gq)(d:¬(3<=op/\op<=6)/\¬(21<=op/\op<=23))(e:vs.length<=3)(f:∀a∈vs,a.ok)(h:EV I B M ((i,aU vs false)::Fr) H)(b:cm op (vs.map λa=>a.v.k)=true):ac VS 62 [.hp I.b 0,.i .u8 op,.s nm,.i .i64 md,.mu i 3 0 vs.length,wD I] H (eG I B Fr (aG body (cB O B.wd op nm md (vs.map AV.v)) M)):=by refine(an4 d e f b h.fr).mono λr hr=>?_;refine eG.ans (λ_ h=>h) (h.set).drop ?_ hr;rw[sQ b,E1 (by omega),E1 (by omega),E1 (by omega),E1 (by omega),c];exact NR.run _
theorem aos{a:AV}(n:op=3\/op=4)(u:B.ok)(v:a.ok)(w:a.v.k=4)(h:EV I B M ((i,aU [a] false)::Fr) H)(x:M.facts.length<=1000000000)(o:cm op [a.v.k]=true):ac VS 62 [.hp I.b 0,.i .u8 op,.s nm,.i .i64 md,.mu i 3 0 1,wD I] H (eG I B Fr (aG body (cB O B.wd op nm md [a.v]) M)):=by
 have q:=yM (by omega) o h.fr;have p:=h.set (y:=aU [a] true);generalize H.set i _=C at q p;have g:=λ{K}=>q.ec (K:=K);have t:=q.ar;have z:=v.o.d w;have j:=aog (body:=body) u p x z n (k:=nm);have A:cB O B.wd op nm md [a.v]=.st (gg (nm,a.v.i,a.v.i+1)) λ_=>fI B.wd op nm a.v.i:=by have:=sQ (O:=O) (W:=B.wd) (nm:=nm) (md:=md) (vs:=[a]) o;grind
 rw[A];refine .body jT rfl rfl ?_;rcases n with rfl|rfl
 ·simp[me]at g j;simp[go_sem,simprocAttr,fS,g,t,AV.c];refine j.mono λr hr=>?_;rcases hr.drop.h with⟨l,b,c,rfl,m,d,f⟩|⟨e,b,c,rfl,d,f⟩;·simp[go_sem,AV.c];exact⟨.inl ⟨l,b,c,rfl,m,d,f⟩⟩
  constructor<;>grind
 simp[me]at g j;simp[go_sem,simprocAttr,fS,g,t,AV.c];refine j.mono λr hr=>?_;rcases hr.drop.h with⟨l,b,c,rfl,m,d,f⟩|⟨e,b,c,rfl,d,f⟩;·simp[go_sem,AV.c];exact⟨.inl ⟨l,b,c,rfl,m,d,f⟩⟩
 constructor<;>grind
structure DoM(op:Nat)(vs:List AV)(i:Nat)(H H2:ab):Prop where ec:∀{K:CR->Prop},ac VS 82 [.i .u8 op,.mu i 3 0 vs.length] H K↔K (.ret (.b true) H2)ar:aO H2 i 3=some (6,jb vs,some 3,true,true)g:H2[i]?=some (.ar 6 (jb vs) (some 3) true true)l:i<H2.length
def yV(f:op<256)(b:vs.length<=3)(g:cm op (vs.map λa=>a.v.k)=true)(hi:H[i]?=some (aU vs false)):DoM op vs i H (H.set i (aU vs true)):=by
 have c:=λ{K}=>Cg f b hi (K:=K);rw[g]at c;have d:(H.set i (aU vs true))[i]?=some (aU vs true):=by grind
 have e:(H.set i _)[i]?=some (.ar 6 _ _ true true):=d;exact⟨c,by simp[Dm.aO,e,EM b],e,ay d⟩
theorem aou{a:AV}(n:B.ok)(o:a.ok)(p:a.v.k=2\/a.v.k=3)(h:EV I B M ((i,aU [a] false)::Fr) H)(t:M.tabs.length<=1000000000)(b:cm 6 [a.v.k]=true):ac VS 62 [.hp I.b 0,.i .u8 6,.s nm,.i .i64 md,.mu i 3 0 1,wD I] H (eG I B Fr (aG body (cB O B.wd 6 nm md [a.v]) M)):=by
 have q:=yV (vs:=[a]) (by omega) (by simp) b h.fr;have c:=h.set (y:=aU [a] true);generalize H.set i _=C at q c;have d:=λ{K}=>q.ec (K:=K);have f:=q.ar;have u:=q.g;have v:=aoi (body:=body) n o p c t (k:=nm);have w:cB O B.wd 6 nm md [a.v]=.st (gy nm) λ_=>eC B.wd nm [a.v]:=by have:=sQ (O:=O) (W:=B.wd) (nm:=nm) (md:=md) (vs:=[a]) b;grind
 rw[w];refine .body jT rfl rfl ?_;simp only[fA,lA,me,Nat.reduceAdd]at d;have x:jb [a]=[a.c,cr,cr]:=rfl;rw[x]at f u;simp[go_sem,simprocAttr,fS,d,f,AV.c];refine v.mono λr hr=>?_;rcases hr.drop.h with⟨z,g,j,rfl,A,l,m⟩|⟨e,g,j,rfl,l,m⟩;·simp[go_sem,AV.c];exact⟨.inl ⟨z,g,j,rfl,A,l,m⟩⟩
 constructor<;>grind
theorem aov{a b:AV}(o:B.ok)(p:a.ok)(t:a.v.k=2\/a.v.k=3)(u:b.ok)(v:b.v.k=2\/b.v.k=3)(h:EV I B M ((i,aU [a,b] false)::Fr) H)(w:M.tabs.length<=1000000000)(c:cm 6 [a.v.k,b.v.k]=true):ac VS 62 [.hp I.b 0,.i .u8 6,.s nm,.i .i64 md,.mu i 3 0 2,wD I] H (eG I B Fr (aG body (cB O B.wd 6 nm md [a.v,b.v]) M)):=by
 have q:=yV (vs:=[a,b]) (by omega) (by simp) c h.fr;have d:=h.set (y:=aU [a,b] true);generalize H.set i _=G at q d;have f:=λ{K}=>q.ec (K:=K);have g:=q.ar;have x:=q.g;have z:=aoj (body:=body) o p t u v d w (k:=nm);have A:cB O B.wd 6 nm md [a.v,b.v]=.st (gy nm) λ_=>eC B.wd nm [a.v,b.v]:=by have:=sQ (O:=O) (W:=B.wd) (nm:=nm) (md:=md) (vs:=[a,b]) c;grind
 rw[A];refine .body jT rfl rfl ?_;simp only[fA,lA,me,Nat.reduceAdd]at f;have C:jb [a,b]=[a.c,b.c,cr]:=rfl;rw[C]at g x;simp[go_sem,simprocAttr,fS,f,g,AV.c];refine z.mono λr hr=>?_;rcases hr.drop.h with⟨E,j,l,rfl,F,m,n⟩|⟨e,j,l,rfl,m,n⟩;·simp[go_sem,AV.c];exact⟨.inl ⟨E,j,l,rfl,F,m,n⟩⟩
 constructor<;>grind
def aow{a b:AV}(o:O.serv=oX)(p:B.ok)(h:EV I B M ((i,aU [a,b] false)::Fr) H)(t:M.facts.length<=1000000000)(c:cm 21 [a.v.k,b.v.k]=true):ac VS 62 [.hp I.b 0,.i .u8 21,.s nm,.i .i64 md,.mu i 3 0 2,wD I] H (eG I B Fr (aG body (cB O B.wd 21 nm md [a.v,b.v]) M)):=by
 have q:=yV (vs:=[a,b]) (by omega) (by simp) c h.fr;have d:=h.set (y:=aU [a,b] true);generalize H.set i _=C at q d;have f:=λ{K}=>q.ec (K:=K);have g:=q.ar;have u:=q.g;have v:=aon (body:=body) o p d t (k:=nm);have w:cB O B.wd 21 nm md [a.v,b.v]=if b.v.i<=a.v.i then .ret ⟨2,0,1,0⟩else .st (gg (nm,a.v.i,b.v.i)) λ_=>fp O B.wd 21 nm [a.v,b.v]:=by have:=sQ (O:=O) (W:=B.wd) (nm:=nm) (md:=md) (vs:=[a,b]) c;grind
 rw[w];refine .body jT rfl rfl ?_;simp only[fA,lA,me,Nat.reduceAdd]at f;have x:jb [a,b]=[a.c,b.c,cr]:=rfl;rw[x]at g u;simp[go_sem,simprocAttr,fS,f,g,AV.c];refine v.mono λr hr=>?_;rcases hr.drop.h with⟨z,j,l,rfl,A,m,n⟩|⟨e,j,l,rfl,m,n⟩;·simp[go_sem,AV.c];exact⟨.inl ⟨z,j,l,rfl,A,m,n⟩⟩
 constructor<;>grind
def aox{a b c:AV}(p:Ic O)(t:B.ok)(h:EV I B M ((i,aU [a,b,c] false)::Fr) H)(u:M.facts.length<=1000000000)(d:cm 22 [a.v.k,b.v.k,c.v.k]=true):ac VS 62 [.hp I.b 0,.i .u8 22,.s nm,.i .i64 md,.mu i 3 0 3,wD I] H (eG I B Fr (aG body (cB O B.wd 22 nm md [a.v,b.v,c.v]) M)):=by
 have q:=yV (vs:=[a,b,c]) (by omega) (by simp) d h.fr;have f:=h.set (y:=aU [a,b,c] true);generalize H.set i _=E at q f;have g:=λ{K}=>q.ec (K:=K);have j:=q.ar;have v:=q.g;have w:=aoo (body:=body) p t f u (k:=nm);have x:cB O B.wd 22 nm md [a.v,b.v,c.v]=if b.v.i<=a.v.i then .err 6 else .st (gg (nm,a.v.i,b.v.i)) λ_=>fp O B.wd 22 nm [a.v,b.v,c.v]:=by have:=sQ (O:=O) (W:=B.wd) (nm:=nm) (md:=md) (vs:=[a,b,c]) d;grind
 rw[x];refine .body jT rfl rfl ?_;simp only[fA,lA,me,Nat.reduceAdd]at g;have z:jb [a,b,c]=[a.c,b.c,c.c]:=rfl;rw[z]at j v;simp[go_sem,simprocAttr,fS,g,j,AV.c];refine w.mono λr hr=>?_;rcases hr.drop.h with⟨A,l,m,rfl,C,n,o⟩|⟨e,l,m,rfl,n,o⟩;·simp[go_sem,AV.c];exact⟨.inl ⟨A,l,m,rfl,C,n,o⟩⟩
 constructor<;>grind
def aoy{a b:AV}(p:∀c rows lo hi,O.grow c rows lo hi=kN c rows lo hi 9223372036854775807)(t:B.known<=9223372036854775807)(u:B.ok)(h:EV I B M ((i,aU [a,b] false)::Fr) H)(v:M.tabs.length<=1000000000)(d:cm 23 [a.v.k,b.v.k]=true):ac VS 62 [.hp I.b 0,.i .u8 23,.s nm,.i .i64 md,.mu i 3 0 2,wD I] H (eG I B Fr (aG body (cB O B.wd 23 nm md [a.v,b.v]) M)):=by
 have q:=yV (vs:=[a,b]) (by omega) (by simp) d h.fr;have f:=h.set (y:=aU [a,b] true);generalize H.set i _=G at q f;have g:=λ{K}=>q.ec (K:=K);have j:=q.ar;have w:=q.g;have x:=q.l;have z:=aop (body:=body) p t u f v (k:=nm) (lo:=a.v.i) (hi:=b.v.i);have A:cB O B.wd 23 nm md [a.v,b.v]=.st (gy nm) λ_=>match B.wd.tab nm with|none=>.err 6|some (c,rows)=>(O.grow c rows a.v.i b.v.i).tr 2:=by have:=sQ (O:=O) (W:=B.wd) (nm:=nm) (md:=md) (vs:=[a,b]) d;grind
 rw[A];refine .body jT rfl rfl ?_;simp only[fA,lA,me,Nat.reduceAdd]at g;have C:jb [a,b]=[a.c,b.c,cr]:=rfl;rw[C]at j w;simp[go_sem,simprocAttr,fS,g,j,x,AV.c];refine z.mono λr hr=>?_;rcases hr.drop.h with⟨E,l,m,rfl,F,n,o⟩|⟨e,l,m,rfl,n,o⟩;·simp[go_sem,AV.c];exact⟨.inl ⟨E,l,m,rfl,F,n,o⟩⟩
 constructor<;>grind
end
structure vZ(O:bB):Prop where
 p:O.pure=gq
 s:O.serv=oX
 b:Ic O
 g:∀two rows lo hi,O.grow two rows lo hi=kN two rows lo hi 9223372036854775807
def aoz{O:bB}(f:vZ O){op:Nat}(p:op<256):VI O op:=λI B M Fr H body i vs nm md g l e h m q=>by cases d:cm op (vs.map λa=>a.v.k)with|false=>grind[aoq]|true=>
 by_cases r:¬(3<=op/\op<=6)/\¬(21<=op/\op<=23);·exact aor f.p r l e h d
 have j:∀k∈vs.map λa=>a.v.k,1<=k/\k<=6:=by intro k j;obtain⟨a,s,rfl⟩:=fT.1 j;exact(e a s).o.k
 have p:=Ch (by grind) j d;obtain⟨_,hs⟩:=HP (by grind) j d;have n:op=3\/op=4\/op=6\/op=21\/op=22\/op=23:=by omega
 match vs,l,e,d,h,hs with
 |[],_,_,d,_,_=>grind[cm]|[a],_,e,d,h,hs=>grind[aos,HN,aou,yN]|[a,b],_,e,d,h,hs=>
 simp only[kb,AAK]at d hs⊢;rcases n with rfl|rfl|rfl|rfl|rfl|rfl;·cases hs
 ·cases hs
 ·have t:(kP a.v.k&&kP b.v.k)=true:=hs;grind[aov,yN]
 ·exact aow f.s g h m d
 ·cases hs
 exact aoy f.g g.k g h q d|[a,b,c],_,_,d,h,hs=>
 rcases n with rfl|rfl|rfl|rfl|rfl|rfl;·cases hs
 ·cases hs
 ·cases hs
 ·cases hs
 ·exact aox f.b g h m d
 cases hs|_::_::_::_::_,l,_,_,_,_=>grind
end
section
open Go.Dm
set_option maxRecDepth 10000
mutual
def EN.size:EN -> Nat
 | .mk _ _ _ _ a=>1+db a
def db:List EN -> Nat
 | []=>0
 | e::l=>e.size+db l
end
theorem EN.size_eq (e:EN):e.size=1+db e.args:=by cases e;rfl
theorem VJ : ∀ {l:List EN} {i:Nat},i<l.length -> l[i]!.size <= db l
 | e::l,0,_=>by grind[db]
 | e::l,i+1,h=>by
  have:=VJ (l:=l) (i:=i) (by grind)
  grind[db]
theorem Id : ∀ {l:List EN} {i j:Nat},i<j -> j<l.length -> l[i]!.size+l[j]!.size <= db l
 | e::l,0,j+1,_,h=>by
  have:=VJ (l:=l) (i:=j) (by grind)
  grind[db]
 | e::l,i+1,j+1,h1,h=>by
  have:=Id (l:=l) (i:=i) (j:=j) (by omega) (by grind)
  grind[db]
def eB:aL -> Int
 | .term e _=>e.size
 | .pair _ _=>0
def kQ (K:Int) (M:af):Int:=(M.facts.length:Int)+M.tabs.length-K*M.begun.length
structure eI (K a:Int) (M M':af):Prop where
 p:kQ K M' <= kQ K M+a
 b:M.begun.length <= M'.begun.length
inductive cU (K:Int):Int -> Tr -> Prop where
 | ret {c:Int} {v:NV}:0 <= c -> cU K c (.ret v)
 | err {c e:Int}:0 <= c -> cU K c (.err e)
 | st {c:Int} {u:af -> af} {k:af -> Tr} (a:Int):(∀ M,eI K a M (u M)) -> (∀ M,cU K (c-a) (k M)) -> cU K c (.st u k)
 | call {c:Int} {j:aL} {k:NV -> Tr}:eB j <= c -> (∀ v,cU K (c-eB j) (k v)) -> cU K c (.call j k)
theorem cU.run {K:Int} {f:aL -> af -> Option (NR×af)} (hf : ∀ j M r M',f j M=some (r,M') -> eI K (eB j) M M') {c:Int} {t:Tr} (h:cU K c t) : ∀ {M:af} {r:NR} {M':af},cI f t M=some (r,M') -> eI K c M M':=by
 induction h with
 | ret hc=>intro M r M' e;cases e;exact⟨by omega,G1 _⟩
 | err hc=>intro M r M' e;cases e;exact⟨by omega,G1 _⟩
 | @st c u k a hu _ ih =>
  intro M r M' e
  have h1:=ih M e
  have h2:=hu M
  exact⟨by have:=h1.p;have:=h2.p;omega,dG h2.b h1.b⟩
 | @call c j k hc _ ih =>
  intro M r M' e
  simp[cI]at e
  cases hj:f j M with
  | none=>grind
  | some p =>
   obtain⟨a,M1⟩:=p
   rw[hj]at e
   have h1:=hf _ _ _ _ hj
   cases a with
   | er x=>cases e;exact⟨by have:=h1.p;omega,h1.b⟩
   | ok v =>
    have h2:=ih v e
    exact⟨by have:=h1.p;have:=h2.p;omega,dG h1.b h2.b⟩
theorem VK {K:Int} {body:aL -> Tr} (hb : ∀ j,cU K (eB j) (body j)) : ∀ (n:Nat) (j:aL) (M:af) (r:NR) (M':af),gv body n j M=some (r,M') -> eI K (eB j) M M'
 | 0,_,_,_,_,h=>by cases h
 | n+1,j,M,r,M',h=>(hb j).run (fun j M r M'=>VK hb n j M r M') h
theorem aN.cst {K:Int} {body:aL -> Tr} (hb : ∀ j,cU K (eB j) (body j)) {j:aL} {M:af} {r:NR} {M':af} (h:aN body j M r M'):eI K (eB j) M M':=by
 obtain⟨n,h⟩:=h
 grind[VK]
section
variable {K:Int}
theorem eI.noteF (x:Nm×Int×Int) (M:af):eI K 1 M (gg x M):=by
 have:=Qk M.facts x
 refine⟨?_,G1 _⟩
 show((gT _ x).length:Int)+M.tabs.length-K*M.begun.length <= _
 grind[kQ]
theorem eI.noteT (x:Nm) (M:af):eI K 1 M (gy x M):=by
 have:=Qk M.tabs x
 refine⟨?_,G1 _⟩
 show M.facts.length+(gT _ x).length-K*M.begun.length <= _
 grind[kQ]
theorem eI.refl (M:af):eI K 0 M M:=⟨by omega,G1 _⟩
theorem cU.mono {c c':Int} {t:Tr} (h:cU K c t):c <= c' -> cU K c' t:=by
 revert c'
 induction h with
 | ret hc=>intro c' hl;exact .ret (by omega)
 | err hc=>intro c' hl;exact .err (by omega)
 | st a hu _ ih=>intro c' hl;exact .st a hu fun M=>ih M (by omega)
 | call hc _ ih=>intro c' hl;exact .call (by omega) fun v=>ih v (by omega)
theorem NR.cst (r:NR) {c:Int} (h:0 <= c):cU K c r.tr:=by cases r<;>first|exact .ret h|exact .err h
theorem EQ.cst (k:Nat) (r:EQ) {c:Int} (h:0 <= c):cU K c (r.tr k):=by cases r<;>first|exact .ret h|exact .err h
theorem aoA (W:Wd) (nm:Nm) (vs:List NV):cU K 0 (eC W nm vs):=by
 unfold eC
 repeat' first|exact .err (ux _)|exact .ret (ux _)|split
theorem aoB (O:bB) (W:Wd) (op:Nat) (nm:Nm) (vs:List NV):cU K 0 (fp O W op nm vs):=by
 unfold fp
 repeat' first|exact .err (ux _)|exact EQ.cst _ _ (ux _)|split
theorem aoC (W:Wd) (op:Nat) (nm:Nm) (d:Int):cU K 0 (fI W op nm d):=by
 unfold fI
 repeat' first|exact .err (ux _)|exact .ret (ux _)|split
theorem aoD (O:bB) (W:Wd) (op:Nat) (nm:Nm) (md:Int) (vs:List NV):cU K 1 (cB O W op nm md vs):=by
 have h1:(0:Int) <= 1:=by decide
 unfold cB
 split
 ·split
  ·exact .st 1 (eI.noteF _) fun _=>aoC W op nm _
  ·split
   ·exact .st 1 (eI.noteT _) fun _=>aoA W nm vs
   ·split
    ·split
     ·split
      ·exact .err h1
      ·exact .ret h1
     ·exact .st 1 (eI.noteF _) fun _=>aoB O W op nm vs
    ·split
     ·refine .st 1 (eI.noteT _) fun _ => ?_
      split
      ·exact .err (ux _)
      grind[EQ.cst]
     grind[NR.cst]
 ·exact .err h1
theorem wb {e:EN} {d c:Int} {k:Bool -> Tr} (h : ∀ b,cU K c (k b)) (hc:0 <= c):cU K (e.size+c) (dX e d k):=by
 refine .call (by grind[eB]) fun v => ?_
 have e1:e.size+c-eB (.term e d)=c:=by grind[eB]
 rw[e1]
 split
 ·grind
 ·exact .err hc
theorem VL {d c:Int} {k:List NV -> Tr} (h : ∀ l,cU K c (k l)) (hc:0 <= c) : ∀ (l:List EN) (acc:List NV),cU K (db l+c) (gZ d k l acc)
 | [],acc=>by
  have e1:((db []):Int)+c=c:=by grind[db]
  rw[e1];exact h acc
 | e::l,acc=>by
  refine .call (by grind[eB,db]) fun v => ?_
  have e1:((db (e::l):Nat))+c-eB (.term e d)=db l+c:=by grind[eB,db]
  rw[e1]
  exact VL h hc l _
def dZ (l:List (Nat×eK)):Nat:=(l.map fun p=>p.2.when.size).sum
theorem Ie {d c:Int} {k:Nat -> Tr} (h : ∀ i,cU K c (k i)) (hc:0 <= c) : ∀ (l:List (Nat×eK)) (i n:Nat),cU K (dZ l+c) (bC d k l i n)
 | [],i,n=>by
  have e1:((dZ []):Int)+c=c:=by simp[dZ]
  rw[e1]
  unfold bC
  split
  ·exact .err hc
  ·split
   ·exact .err hc
   grind
 | (j,x)::l,i,n=>by
  have e1:((dZ ((j,x)::l):Nat))+c=x.when.size+(dZ l+c):=by grind[dZ]
  rw[e1]
  refine wb (fun b => ?_) (by omega)
  split
  ·exact Ie h hc l _ _
  ·exact Ie h hc l _ _
theorem VM (op:Nat):(ic op).2 <= 3:=by
 grind[ic]
theorem aoE : ∀ {l:List EN},l.length=3 -> l[0]!.size+l[1]!.size+l[2]!.size <= db l
 | [a,b,c],_=>by
  grind[db]
theorem VN {e:EN} (h:e.formed=true):(e.op=15 \/ e.op=16 -> e.args.length=2) /\ (e.op=18 -> e.args.length=3) /\ e.args.length <= 3:=by
 unfold EN.formed at h
 simp only[D0,Hq]at h
 have h3:=VM e.op
 grind[ic]
theorem aoF (O:bB) (W:Wd) (e:EN) (d:Int):cU K e.size (bM O W e d):=by
 have hs:=e.size_eq
 unfold bM
 split
 ·rename_i hf
  obtain⟨n1,n2,n3⟩:=VN hf
  split
  ·exact .ret (by omega)
  ·split
   ·exact .ret (by omega)
   ·split
    ·rename_i ho
     have:=Id (l:=e.args) (i:=0) (j:=1) (by omega) (by omega)
     refine cU.mono (wb (c:=e.args[1]!.size+0) (fun b => ?_) (by omega)) (by omega)
     split
     ·exact wb (fun c => .ret (ux _)) (ux _)
     ·exact .ret (by omega)
    ·split
     ·rename_i ho
      have:=Id (l:=e.args) (i:=0) (j:=1) (by omega) (by omega)
      refine cU.mono (wb (c:=e.args[1]!.size+0) (fun b => ?_) (by omega)) (by omega)
      split
      ·exact .ret (by omega)
      ·exact wb (fun c => .ret (ux _)) (ux _)
     ·split
      ·rename_i ho
       refine cU.mono (wb (c:=e.args[1]!.size+e.args[2]!.size) (fun b => ?_) (by omega)) ?_
       ·split
        ·exact .call (by grind[eB]) fun v => .ret (by grind[eB])
        ·exact .call (by grind[eB]) fun v => .ret (by grind[eB])
       grind[aoE]
      ·refine cU.mono (VL (c:=1) (fun vs => ?_) (by decide) _ []) (by omega)
       split
       ·unfold kX
        split
        ·exact .call (by grind[eB]) fun v => .ret (by grind[eB])
        ·exact .err (by decide)
       grind[aoD,O]
 ·exact .err (by omega)
theorem aoG (W:Wd) (nm:Nm) (d:Int) (hK : ∀ c,(dZ (W.cl nm d):Int)+(W.clause c).thn.size <= K):cU K 0 (jY W nm d):=by
 refine .st 0 (fun M=>eI.refl M) fun M => ?_
 split
 ·exact .ret (by decide)
 ·refine .st 0 (fun M=>eI.refl M) fun M => ?_
  split
  ·exact .err (by decide)
  ·refine .st 0 (fun M=>⟨by grind[kQ,js],G1 _⟩) fun M => ?_
   split
   ·exact .err (by decide)
   ·refine .st (-K) (fun M=>⟨?_,by grind[kY]⟩) fun M => ?_
    ·unfold kQ kY
     simp only[N3,qu]
     grind
    ·have h0:=hK 0
     split
     ·exact .err (by omega)
     ·refine cU.mono (Ie (c:=K-dZ (W.cl nm d)) (fun c => ?_) (by omega) _ 0 0) (by omega)
      refine .call (by grind[eB]) fun v => ?_
      split
      ·exact .st 0 (fun M=>⟨by grind[kQ,oY],G1 _⟩) fun M => .ret (by grind[eB])
      ·exact .err (by grind[eB])
theorem aoH (O:bB) (W:Wd) (hK : ∀ nm d c,(dZ (W.cl nm d):Int)+(W.clause c).thn.size <= K) (j:aL):cU K (eB j) (bk O W j):=by
 cases j with
 | term e d=>exact aoF O W e d
 | pair nm d=>exact aoG W nm d (hK nm d)
end
end
section
open Go.Dm
set_option maxRecDepth 10000
inductive bA(Al:Nat->Prop):Ex->Prop where|mk{e:Ex}:e.op<256->Al e.op->(∀a∈e.args,bA Al a)->bA Al e
variable{x:Ex}
def bA.lt{Al:Nat->Prop}(h:bA Al x):x.op<256:=by cases h;omega
def bA.al{Al:Nat->Prop}(h:bA Al x):Al x.op:=by cases h;omega
theorem bA.args{Al:Nat->Prop}(h:bA Al x):∀a∈x.args,bA Al a:=by cases h;omega
structure jl(M:af):Prop where
 p:M.pairs.length<=M.begun.length
 b:M.begun.length<=4096
structure eJ(K:Int)(m:Nat)(s:Int)(M:af):Prop where
 ok:jl M
 m:4096<=M.begun.length+m
 p:kQ K M+s<=500000000
 k:0<=K/\K<=100000
def eJ.f{K:Int}{m:Nat}{s:Int}{M:af}(h:eJ K m s M)(hs:0<=s):M.facts.length<=1000000000/\M.tabs.length<=1000000000:=by have a:=h.p;have b:=h.ok.b;have c:K*M.begun.length<=100000*4096:=Int.mul_le_mul h.k.2 (by omega) (by omega) (by omega);grind[kQ]
def eJ.stp{K:Int}{m:Nat}{s a:Int}{M b:af}(h:eJ K m s M)(hs:eI K a M b)(c:jl b):eJ K m (s-a) b:=⟨c,by have:=h.m;have:=hs.b;omega,by have:=h.p;have:=hs.p;omega,h.k⟩
def eJ.le{K:Int}{m:Nat}{s s':Int}{M:af}(h:eJ K m s M)(hs:s'<=s):eJ K m s' M:=⟨h.ok,h.m,by have:=h.p;omega,h.k⟩
structure Cx(O:bB)(B:BW)(K:Int)(Al:Nat->Prop):Prop where
 b:B.ok
 d:∀op,Al op->op<256->VI O op
 w:∀nm d c,(dZ (B.wd.cl nm d):Int)+(B.wd.clause c).thn.size<=K
 k:K<=100000
 c:∀c∈B.cls,bA Al c.w/\bA Al c.t
def mz(O:bB)(I:bU)(B:BW)(Fr:List (Nat×an))(j:aL)(M:af):CR->Prop:=eG I B Fr (λr a=>aN (bk O B.wd) j M r a/\∀v,r=.ok v->jl a)
def mA(O:bB)(B:BW)(K:Int)(Al:Nat->Prop)(m s:Nat):Prop:=∀(I:bU)(M:af)(Fr:List (Nat×an))(H:ab)(e:Ex)(d:Int),e.en.size<=s->bA Al e->0<=d/\d<65536->eJ K m e.en.size M->EV I B M Fr H->ac VS 38 [.hp I.b 0,e.d,.i .i64 d,wD I] H (mz O I B Fr (.term e.en d) M)
def yW(O:bB)(B:BW)(K:Int)(m:Nat):Prop:=∀(I:bU)(M:af)(Fr:List (Nat×an))(H:ab)(a:Nm)(d:Int),0<=d/\d<65536->eJ K m 0 M->EV I B M Fr H->ac VS 33 [.hp I.v 0,.s a,.i .i64 d] H (mz O I B Fr (.pair a d) M)
structure aoI(O:bB)(I:bU)(B:BW)(Fr:List (Nat×an))(K:Int)(e:EN)(d:Int)(M:af)(r:CR):Prop where h:(∃(b:Bool)(M':af)(H':ab),r=.ret (.b b) H'/\(∀k x M2,aG (bk O B.wd) (k b) M' x M2->aG (bk O B.wd) (dX e d k) M x M2)/\jl M'/\eI K e.size M M'/\EV I B M' Fr H')\/(∃(c:Int)(M':af)(H':ab),r=.pan (eO c) H'/\(∀k,aG (bk O B.wd) (dX e d k) M (.er c) M')/\EV I B M' Fr H')
section
variable{O:bB}{I:bU}{B:BW}{K:Int}{Al:Nat->Prop}{M:af}{Fr:List (Nat×an)}{H:ab}{m s:Nat}
theorem Cx.cst(a:Cx O B K Al)(j:aL):cU K (eB j) (bk O B.wd j):=aoH O B.wd a.w j
def wc(o:Cx O B K Al)(p:mA O B K Al m s){e:Ex}{d:Int}(hs:e.en.size<=s)(q:bA Al e)(t:0<=d/\d<65536)(hr:eJ K m e.en.size M)(h:EV I B M Fr H):ac VS 60 [.hp I.b 0,e.d,.i .i64 d,wD I] H (aoI O I B Fr K e.en d M):=by
 have n:=p I M Fr H e d hs q t hr h;have u:=λ{H K}=>eZ (e:=185) (H:=H) (K:=K);refine .body akZ rfl rfl ?_;simp only[Ex.d,Ex.row_eq]at n⊢;simp[go_sem,au2];refine n.mono λr v=>?_;rcases v.h with⟨a,f,g,rfl,A,⟨b,w⟩,j⟩|⟨c,f,g,rfl,⟨b,_⟩,j⟩
 ·have y:=b.cst o.cst;simp[AV.c];by_cases z:a.v.k=1
  ·have l:(a.v.k:Int)=1:=by omega
   simp[go_sem,simprocAttr,l];refine⟨.inl ⟨decide _,f,g,rfl,λk x C E=>?_,w _ rfl,y,j⟩⟩;refine aG.call b ?_;grind
  have l:¬(a.v.k:Int)=1:=by omega
  simp[go_sem,simprocAttr,l,u];refine⟨.inr ⟨185,f,g,rfl,λk=>?_,j⟩⟩;refine aG.call b ?_;rw[E1 z];exact .err
 exact⟨.inr ⟨c,f,g,rfl,λk=>aG.calle b,j⟩⟩
end
end
section
open Go.Dm
set_option maxRecDepth 10000
def Ex.en_op(e:Ex):e.en.op=e.op:=by rw[e.en_eq];rfl
def Ex.en_args(e:Ex):e.en.args=e.args.map Ex.en:=by rw[e.en_eq];rfl
def Ex.en_name(e:Ex):e.en.name=e.name:=by rw[e.en_eq];rfl
def Ex.en_md(e:Ex):e.en.md=e.v.i:=by rw[e.en_eq];rfl
def Ex.en_val(e:Ex):e.en.val=if e.v.valid=true then some e.v.nv else none:=by rw[e.en_eq];rfl
def Ex.n_args{e:Ex}(h:e.formed=true):(e.op=15\/e.op=16->∃a b,e.args=[a,b])/\(e.op=18->∃a b c,e.args=[a,b,c])/\e.args.length<=3:=by
 obtain⟨f,g,i⟩:=VN (e:=e.en) (e.en_formed▸h);rw[e.en_op,e.en_args,T3]at*;refine⟨λd=>?_,λd=>?_,i⟩;·have:=f d;match e.args,this with|[a,b],_=>grind
 have:=g d;match e.args,this with|[a,b,c],_=>grind
def Ck(b:Bool):∃a:AV,a.v=dI b/\mR b=.ag a.c/\a.ok:=by obtain⟨t1,c⟩:=uo b;exact t1.av c
section
variable{O:bB}{I:bU}{B:BW}{K:Int}{Al:Nat->Prop}{M:af}{Fr:List (Nat×an)}{H:ab}{m s:Nat}{e:Ex}{d:Int}
def aoJ(f:bA Al e)(b:e.formed=false)(hr:jl M)(h:EV I B M Fr H):ac VS 38 [.hp I.b 0,e.d,.i .i64 d,wD I] H (mz O I B Fr (.term e.en d) M):=by have a:=λ{H K}=>(uq e f.lt).c (H:=H) (K:=K) qB rfl (by simp[e.pl]) (.inl rfl);rw[b]at a;have g:=λ{H K}=>eZ (e:=185) (H:=H) (K:=K);refine .body sC rfl rfl ?_;simp only[Ex.d,Ex.row_eq]at a⊢;simp[go_sem,ub,a,g];refine⟨.inr ⟨185,M,H,rfl,⟨aN.of ?_,λ_ h=>by cases h⟩,h⟩⟩;show aG _ (bM O B.wd e.en d) M _ _;unfold bM;rw[E1 (by rw[e.en_formed,b];decide)];exact .err
def aoK(j:e.op=1)(k:bA Al e)(f:e.formed=true)(hr:jl M)(h:EV I B M Fr H):ac VS 38 [.hp I.b 0,e.d,.i .i64 d,wD I] H (mz O I B Fr (.term e.en d) M):=by
 have b:=λ{H K}=>(uq e k.lt).c (H:=H) (K:=K) qB rfl (by simp[e.pl]) (.inl rfl);rw[f]at b;have g:e.v.valid=true:=by grind[Ex.formed]
 obtain⟨a,l,m,n⟩:=Vl.av g;have d1:(e.op:Int)=1:=by omega
 refine .body sC rfl rfl ?_;simp only[Ex.d,Ex.row_eq]at b⊢;simp only[d1]at b⊢;simp[go_sem,simprocAttr,ub,b];refine⟨.inl ⟨a,M,H,?_,n,⟨aN.of ?_,λ_ _=>hr⟩,h⟩⟩;·rw[<-m];rfl
 show aG _ (bM O B.wd e.en d) M _ _;unfold bM;rw[E4 (by rw[e.en_formed,f]),E4 (by rw[e.en_op,j]),e.en_val,E4 g,l];exact .ret
def aoL(f:e.op=2)(j:bA Al e)(g:e.formed=true)(l:0<=d/\d<65536)(hr:jl M)(h:EV I B M Fr H):ac VS 38 [.hp I.b 0,e.d,.i .i64 d,wD I] H (mz O I B Fr (.term e.en d) M):=by
 have b:=λ{H K}=>(uq e j.lt).c (H:=H) (K:=K) qB rfl (by simp[e.pl]) (.inl rfl);rw[g]at b;obtain⟨m,o⟩:=NV.plain_ok (k:=4) (n:=d) (.inl rfl) (λ_=>l) (λh=>(h rfl).elim);obtain⟨a,p,r,q⟩:=m.av o;have d1:(e.op:Int)=2:=by omega
 refine .body sC rfl rfl ?_;simp only[Ex.d,Ex.row_eq]at b⊢;simp only[d1]at b⊢;simp[go_sem,simprocAttr,ub,b];refine⟨.inl ⟨a,M,H,?_,q,⟨aN.of ?_,λ_ _=>hr⟩,h⟩⟩;·grind
 show aG _ (bM O B.wd e.en d) M _ _;unfold bM;rw[E4 (by rw[e.en_formed,g]),E1 (by rw[e.en_op,f];decide),E4 (by rw[e.en_op,f]),p];exact .ret
theorem aoM(E:Cx O B K Al)(F:mA O B K Al m s)(j:e.op=15)(hs:e.en.size<=s+1)(p:bA Al e)(q:e.formed=true)(G:0<=d/\d<65536)(hr:eJ K m e.en.size M)(h:EV I B M Fr H):ac VS 38 [.hp I.b 0,e.d,.i .i64 d,wD I] H (mz O I B Fr (.term e.en d) M):=by
 have l:=λ{H K}=>(uq e p.lt).c (H:=H) (K:=K) qB rfl (by simp[e.pl]) (.inl rfl);rw[q]at l;obtain⟨a,b,t⟩:=(Ex.n_args q).1 (.inl j);have S:=t▸e.hsl;have U:=p.args a (by grind);have W:=p.args b (by grind);have ag:e.en.size=1+(a.en.size+(b.en.size+0)):=by rw[EN.size_eq,e.en_args,t];rfl
 have n:bk O B.wd (.term e.en d)=dX a.en d λx=>if x=true then dX b.en d λc=>.ret (dI c)else .ret (dI false):=by show bM O B.wd e.en d=_;unfold bM;rw[E4 (by rw[e.en_formed,q]),E1 (by rw[e.en_op,j];decide),E1 (by rw[e.en_op,j];decide),E4 (by rw[e.en_op,j]),e.en_args,t];rfl
 have J:=λ{V dr os keep X Y Q Z H H' k x'}=>S.q (V:=V) (dr:=dr) (os:=os) (keep:=keep) (loc:=X) (sl:=Y) (Q:=Q) (sl':=Z) (H:=H) (H':=H') (k:=k) (x:=x');have d1:(e.op:Int)=15:=by omega
 have L:=wc E F (by omega) U G (hr.le (by omega)) h;refine .body sC rfl rfl ?_;simp only[Ex.d,Ex.row_eq]at l L⊢;simp only[d1]at l⊢;simp[go_sem,simprocAttr,ub,l,J,wN,Ex.row_eq];refine L.mono λr ad=>?_;rcases ad.h with⟨x,M1,u,rfl,g,N,st1,o⟩|⟨c,M1,u,rfl,g,o⟩;·cases x with|false=>obtain⟨z,z1,z2,z3⟩:=Ck false;have f:=λ{H K}=>pq (b:=false) (H:=H) (K:=K);rw[z2]at f;simp[AV.c]at f;simp[go_sem,f];refine⟨.inl ⟨z,M1,u,rfl,z3,⟨aN.of ?_,λ_ _=>N⟩,o⟩⟩;rw[n,z1];exact g _ _ _ .ret|true=>
  have P:=wc E F (by omega) W G ((hr.stp st1 N).le (by omega)) o;simp[Ex.d,Ex.row_eq]at P;simp[go_sem,simprocAttr,J,wN,AAr,Ex.row_eq];refine P.mono λr ae=>?_;rcases ae.h with⟨y,v,w,rfl,A,m2,ah,C⟩|⟨c,v,w,rfl,A,C⟩;·obtain⟨z,z1,z2,z3⟩:=Ck y;have f:=λ{H K}=>pq (b:=y) (H:=H) (K:=K);rw[z2]at f;simp[AV.c]at f;simp[go_sem,f];refine⟨.inl ⟨z,v,w,rfl,z3,⟨aN.of ?_,λ_ _=>m2⟩,C⟩⟩;rw[n,z1];exact g _ _ _ (A (λc=>.ret _) _ _ .ret)
  refine⟨.inr ⟨c,v,w,rfl,⟨aN.of ?_,λ_ h=>by cases h⟩,C⟩⟩;rw[n];exact g _ _ _ (A λc=>.ret _)
 refine⟨.inr ⟨c,M1,u,rfl,⟨aN.of ?_,λ_ h=>by cases h⟩,o⟩⟩;rw[n];exact g _
theorem aoN(E:Cx O B K Al)(F:mA O B K Al m s)(g:e.op=16)(hs:e.en.size<=s+1)(p:bA Al e)(q:e.formed=true)(G:0<=d/\d<65536)(hr:eJ K m e.en.size M)(h:EV I B M Fr H):ac VS 38 [.hp I.b 0,e.d,.i .i64 d,wD I] H (mz O I B Fr (.term e.en d) M):=by
 have l:=λ{H K}=>(uq e p.lt).c (H:=H) (K:=K) qB rfl (by simp[e.pl]) (.inl rfl);rw[q]at l;obtain⟨a,b,t⟩:=(Ex.n_args q).1 (.inr g);have S:=t▸e.hsl;have U:=p.args a (by grind);have W:=p.args b (by grind);have ag:e.en.size=1+(a.en.size+(b.en.size+0)):=by rw[EN.size_eq,e.en_args,t];rfl
 have n:bk O B.wd (.term e.en d)=dX a.en d λx=>if x=true then .ret (dI true)else dX b.en d λc=>.ret (dI c):=by show bM O B.wd e.en d=_;unfold bM;rw[E4 (by rw[e.en_formed,q]),E1 (by rw[e.en_op,g];decide),E1 (by rw[e.en_op,g];decide),E1 (by rw[e.en_op,g];decide),E4 (by rw[e.en_op,g]),e.en_args,t];rfl
 have J:=λ{V dr os keep X Y Q Z H H' k x'}=>S.q (V:=V) (dr:=dr) (os:=os) (keep:=keep) (loc:=X) (sl:=Y) (Q:=Q) (sl':=Z) (H:=H) (H':=H') (k:=k) (x:=x');have d1:(e.op:Int)=16:=by omega
 have L:=wc E F (by omega) U G (hr.le (by omega)) h;refine .body sC rfl rfl ?_;simp only[Ex.d,Ex.row_eq]at l L⊢;simp only[d1]at l⊢;simp[go_sem,simprocAttr,ub,l,J,wN,Ex.row_eq];refine L.mono λr ad=>?_;rcases ad.h with⟨x,M1,u,rfl,j,N,st1,o⟩|⟨c,M1,u,rfl,j,o⟩;·cases x with|true=>obtain⟨z,z1,z2,z3⟩:=Ck true;have f:=λ{H K}=>pq (b:=true) (H:=H) (K:=K);rw[z2]at f;simp[AV.c]at f;simp[go_sem,f];refine⟨.inl ⟨z,M1,u,rfl,z3,⟨aN.of ?_,λ_ _=>N⟩,o⟩⟩;rw[n,z1];exact j _ _ _ .ret|false=>
  have P:=wc E F (by omega) W G ((hr.stp st1 N).le (by omega)) o;simp[Ex.d,Ex.row_eq]at P;simp[go_sem,simprocAttr,J,wN,AAr,Ex.row_eq];refine P.mono λr ae=>?_;rcases ae.h with⟨y,v,w,rfl,A,m2,ah,C⟩|⟨c,v,w,rfl,A,C⟩;·obtain⟨z,z1,z2,z3⟩:=Ck y;have f:=λ{H K}=>pq (b:=y) (H:=H) (K:=K);rw[z2]at f;simp[AV.c]at f;simp[go_sem,f];refine⟨.inl ⟨z,v,w,rfl,z3,⟨aN.of ?_,λ_ _=>m2⟩,C⟩⟩;rw[n,z1];exact j _ _ _ (A (λc=>.ret _) _ _ .ret)
  refine⟨.inr ⟨c,v,w,rfl,⟨aN.of ?_,λ_ h=>by cases h⟩,C⟩⟩;rw[n];exact j _ _ _ (A λc=>.ret _)
 refine⟨.inr ⟨c,M1,u,rfl,⟨aN.of ?_,λ_ h=>by cases h⟩,o⟩⟩;rw[n];exact j _
theorem aoO(P:Cx O B K Al)(A:mA O B K Al m s)(n:e.op=18)(hs:e.en.size<=s+1)(t:bA Al e)(C:e.formed=true)(E:0<=d/\d<65536)(hr:eJ K m e.en.size M)(h:EV I B M Fr H):ac VS 38 [.hp I.b 0,e.d,.i .i64 d,wD I] H (mz O I B Fr (.term e.en d) M):=by
 have u:=λ{H K}=>(uq e t.lt).c (H:=H) (K:=K) qB rfl (by simp[e.pl]) (.inl rfl);rw[C]at u;obtain⟨a,b,c,F⟩:=(Ex.n_args C).2.1 n;have S:=F▸e.hsl;have U:=t.args a (by grind);have W:=t.args b (by grind);have X:=t.args c (by grind);have af:e.en.size=1+(a.en.size+(b.en.size+(c.en.size+0))):=by rw[EN.size_eq,e.en_args,F];rfl
 have v:bk O B.wd (.term e.en d)=dX a.en d λx=>if x=true then .call (.term b.en d) .ret else .call (.term c.en d) .ret:=by show bM O B.wd e.en d=_;unfold bM;rw[E4 (by rw[e.en_formed,C]),E1 (by rw[e.en_op,n];decide),E1 (by rw[e.en_op,n];decide),E1 (by rw[e.en_op,n];decide),E1 (by rw[e.en_op,n];decide),E4 (by rw[e.en_op,n]),e.en_args,F];rfl
 have G:=λ{V dr os keep Y Z Q aa H H' k x'}=>S.q (V:=V) (dr:=dr) (os:=os) (keep:=keep) (loc:=Y) (sl:=Z) (Q:=Q) (sl':=aa) (H:=H) (H':=H') (k:=k) (x:=x');have d1:(e.op:Int)=18:=by omega
 have L:=wc P A (by omega) U E (hr.le (by omega)) h;refine .body sC rfl rfl ?_;simp only[Ex.d,Ex.row_eq]at u L⊢;simp only[d1]at u⊢;simp[go_sem,simprocAttr,ub,u,G,wN,Ex.row_eq];refine L.mono λr ae=>?_;rcases ae.h with⟨x,M1,w,rfl,p,N,st1,y⟩|⟨c,M1,w,rfl,p,y⟩
 ·cases x with|true=>
  have q:=A I M1 Fr w b d (by omega) W E ((hr.stp st1 N).le (by omega)) y;simp[Ex.d,Ex.row_eq]at q;simp[go_sem,simprocAttr,G,wN,AAr,Ex.row_eq];refine q.mono λr J=>?_;rcases J.h with⟨z,f,g,rfl,z3,⟨o,j⟩,l⟩|⟨c,f,g,rfl,⟨o,j⟩,l⟩;·simp[go_sem,AV.c];refine⟨.inl ⟨z,f,g,rfl,z3,⟨aN.of ?_,j⟩,l⟩⟩;rw[v];exact p _ _ _ (aG.call o .ret)
  refine⟨.inr ⟨c,f,g,rfl,⟨aN.of ?_,j⟩,l⟩⟩;grind[aG.calle]|false=>
  have q:=A I M1 Fr w c d (by omega) X E ((hr.stp st1 N).le (by omega)) y;simp[Ex.d,Ex.row_eq]at q;simp[go_sem,simprocAttr,G,wN,AAr,Ex.row_eq];refine q.mono λr J=>?_;rcases J.h with⟨z,f,g,rfl,z3,⟨o,j⟩,l⟩|⟨c,f,g,rfl,⟨o,j⟩,l⟩;·simp[go_sem,AV.c];refine⟨.inl ⟨z,f,g,rfl,z3,⟨aN.of ?_,j⟩,l⟩⟩;rw[v];exact p _ _ _ (aG.call o .ret)
  refine⟨.inr ⟨c,f,g,rfl,⟨aN.of ?_,j⟩,l⟩⟩;rw[v];exact p _ _ _ (aG.calle o)
 refine⟨.inr ⟨c,M1,w,rfl,⟨aN.of ?_,λ_ h=>by cases h⟩,y⟩⟩;rw[v];exact p _
end
end
section
open Go.Dm
set_option maxRecDepth 10000
inductive Kp:Tr -> Prop where
 | ret (v:NV):Kp (.ret v)
 | err (e:Int):Kp (.err e)
 | st {u:af -> af} {k:af -> Tr}:(∀ M,(u M).pairs=M.pairs /\ (u M).begun=M.begun) -> (∀ M,Kp (k M)) -> Kp (.st u k)
theorem Kp.ok {t:Tr} (h:Kp t) {body:aL -> Tr} : ∀ {M:af} {r:NR} {M':af},aG body t M r M' -> jl M -> jl M':=by
 induction h with
 | ret v=>intro M r M' ⟨n,e⟩ h;cases e;exact h
 | err c=>intro M r M' ⟨n,e⟩ h;cases e;exact h
 | @st u k hu _ ih =>
  intro M r M' ⟨n,e⟩ h
  refine ih M ⟨n,e⟩ ⟨?_, ?_⟩
  ·rw[(hu M).1,(hu M).2];exact h.p
  ·rw[(hu M).2];exact h.b
theorem NR.kp (r:NR):Kp r.tr:=by cases r<;>constructor
theorem EQ.kp (k:Nat) (r:EQ):Kp (r.tr k):=by cases r<;>constructor
theorem aoP (O:bB) (W:Wd) (op:Nat) (nm:Nm) (md:Int) (vs:List NV):Kp (cB O W op nm md vs):=by
 unfold cB eC fp fI
 repeat' first|exact .err _|exact .ret _|exact NR.kp _|exact EQ.kp _ _|(refine .st (fun _=>⟨rfl,rfl⟩) fun _ => ?_)|split
section
variable {O:bB} {I:bU} {B:BW} {K:Int} {Al:Nat -> Prop} {M:af} {Fr:List (Nat×an)} {H:ab} {m s:Nat} {e:Ex} {d:Int}
theorem aoQ (hP:yW O B K m) {nm:Nm} {a:AV} (ha:a.ok) (hr:eJ K m 0 M) (h:EV I B M Fr H):ac VS 61 [.s nm,.ag a.c,wD I] H (eG I B Fr (fun r M'=>aG (bk O B.wd) (kX nm a.v) M r M' /\ ∀ v,r = .ok v -> jl M')):=by
 have ef:=fun{H K}=>eZ (e:=185) (H:=H) (K:=K)
 refine .body ak0 rfl rfl ?_
 by_cases hk:a.v.k=4
 ·have c1:(a.v.k:Int)=4:=by omega
  simp  [go_sem,simprocAttr,ZB,AV.c,c1,aof]
  refine(hP I M Fr H nm a.v.i (ha.o.d hk) hr h).mono fun r hq => ?_
  rcases hq.h with⟨b,M',H',rfl,e2,⟨e3,e5⟩,e4⟩|⟨c,M',H',rfl,⟨e3,e5⟩,e4⟩
  ·simp  [go_sem,AV.c]
   refine⟨.inl ⟨b,M',H',rfl,e2,⟨?_,e5⟩,e4⟩⟩
   unfold kX
   rw[if_pos hk]
   exact aG.call e3 .ret
  ·refine⟨.inr ⟨c,M',H',rfl,⟨?_,e5⟩,e4⟩⟩
   grind[kX,aG.calle]
 ·have c1 : ¬ (a.v.k:Int)=4:=by omega
  simp  [go_sem,simprocAttr,ZB,AV.c,c1,ef]
  refine⟨.inr ⟨185,M,H,rfl,⟨?_,fun _ h=>by cases h⟩,h⟩⟩
  unfold kX
  rw[if_neg hk]
  exact .err
structure Cm (O:bB) (I:bU) (B:BW) (Fr:List (Nat×an)) (K:Int) (d:Int) (l:List EN) (M:af) (i k:Nat) (vs:List AV) (H:ab):Prop where
 n:vs.length=k
 o : ∀ a∈vs,a.ok
 h : ∃ M',EV I B M' ((i,aU vs false)::Fr) H /\ jl M' /\ eI K (db (l.take k)) M M' /\ ∀ κ x M2,aG (bk O B.wd) (gZ d κ (l.drop k) (vs.map AV.v)) M' x M2 -> aG (bk O B.wd) (gZ d κ l []) M x M2
theorem VO : ∀ {l:List EN} {k:Nat},k<l.length -> db (l.take (k+1))=db (l.take k)+l[k]!.size
 | e::l,0,_=>by simp[db]
 | e::l,k+1,h=>by
  have:=VO (l:=l) (k:=k) (by grind)
  grind[db]
theorem VP : ∀ {l:List EN} {k:Nat},db (l.take k) <= db l
 | [],k=>by grind
 | e::l,0=>by simp[db]
 | e::l,k+1=>by
  have:=VP (l:=l) (k:=k)
  grind[db]
theorem Cm.step (hc:Cx O B K Al) (hT:mA O B K Al m s) {l:List Ex} (hs:db (l.map Ex.en) <= s) (hx : ∀ a∈l,bA Al a) (hd:0 <= d /\ d<65536) (hr:eJ K m (1+db (l.map Ex.en):Nat) M) {i k:Nat} {vs:List AV} (hk:k<l.length) (hp:Cm O I B Fr K d (l.map Ex.en) M i k vs H) :
  ac VS 38 [.hp I.b 0,(l[k]!).d,.i .i64 d,wD I] H (fun r=>(∃ (a:AV) (H':ab),r = .ret (.ag a.c) H' /\ a.ok /\ H'[i]?=some (aU vs false) /\ Cm O I B Fr K d (l.map Ex.en) M i (k+1) (vs++[a]) (H'.set i (aU (vs++[a]) false))) \/
   (∃ (c:Int) (M':af) (H':ab),r = .pan (eO c) H' /\ EV I B M' Fr H' /\ ∀ κ,aG (bk O B.wd) (gZ d κ (l.map Ex.en) []) M (.er c) M')):=by
 obtain⟨n,o,M1,E1,m1,s1,k1⟩:=hp
 have hl:k<(l.map Ex.en).length:=by simpa using hk
 have hz:(l.map Ex.en)[k]! = l[k]!.en:=by rw[getElem!_pos _ k hl,getElem!_pos l k hk,List.getElem_map]
 have hst:=VO hl
 have hle:=VP (l:=l.map Ex.en) (k:=k+1)
 rw[hz]at hst
 have hmem:l[k]! ∈ l:=by rw[getElem!_pos l k hk];exact List.getElem_mem hk
 have hcall:=hT I M1 _ H l[k]! d (by omega) (hx _ hmem) hd ((hr.stp s1 m1).le (by omega)) E1
 have hdr:(l.map Ex.en).drop k=l[k]!.en::(l.map Ex.en).drop (k+1):=by rw[<- hz,List.drop_eq_getElem_cons hl,getElem!_pos _ k hl]
 refine hcall.mono fun r hq => ?_
 rcases hq.h with⟨a,M',H',rfl,e2,⟨e3,e5⟩,e4⟩|⟨c,M',H',rfl,⟨e3,_⟩,e4⟩
 ·refine .inl ⟨a,H',rfl,e2,e4.fr,⟨by simp[n],fun b hb => ?_,M',e4.set,e5 _ rfl, ?_,fun κ x M2 hk2=>k1 κ x M2 ?_⟩⟩
  ·rcases List.mem_append.1 hb with hb|hb
   ·exact o b hb
   ·rw[List.mem_singleton.1 hb];exact e2
  ·have:=e3.cst hc.cst
   exact⟨by have:=this.p;have:=s1.p;simp only[eB]at *;omega,Nat.le_trans s1.b this.b⟩
  ·rw[hdr]
   refine aG.call e3 ?_
   rw[List.map_append]at hk2
   exact hk2
 ·refine .inr ⟨c,M',H',rfl,e4.drop,fun κ=>k1 κ _ _ ?_⟩
  rw[hdr]
  exact aG.calle e3
theorem aoR (hc:Cx O B K Al) (hT:mA O B K Al m s) (hP:yW O B K m) (n1:e.op≠1) (n2:e.op≠2) (n15:e.op≠15) (n16:e.op≠16) (n18:e.op≠18) (hs:e.en.size <= s+1) (hx:bA Al e) (hf:e.formed=true) (hd:0 <= d /\ d<65536) (hr:eJ K m e.en.size M) (h:EV I B M Fr H):ac VS 38 [.hp I.b 0,e.d,.i .i64 d,wD I] H (mz O I B Fr (.term e.en d) M):=by
 have e1:=fun{H K}=>(uq e hx.lt).c (H:=H) (K:=K) qB rfl (by simp[e.pl]) (.inl rfl)
 rw[hf]at e1
 have hlt:=hx.lt
 have hsl:=e.hsl
 have hl3:=(Ex.n_args hf).2.2
 have hsz:e.en.size=1+db (e.args.map Ex.en):=by rw[EN.size_eq,e.en_args]
 have c1 : ¬ (e.op:Int)=1:=by omega
 have c2 : ¬ (e.op:Int)=2:=by omega
 have c15 : ¬ (e.op:Int)=15:=by omega
 have c16 : ¬ (e.op:Int)=16:=by omega
 have c18 : ¬ (e.op:Int)=18:=by omega
 have hJ:bk O B.wd (.term e.en d)=gZ d (fun vs=>if e.op=5 then kX e.name vs[0]! else cB O B.wd e.op e.name e.v.i vs) (e.args.map Ex.en) []:=by
  show bM O B.wd e.en d=_
  unfold bM
  rw[e.en_op,e.en_args,e.en_name,e.en_md,if_pos (by rw[e.en_formed,hf]),if_neg n1,if_neg n2,if_neg n15,if_neg n16,if_neg n18]
 have h0:Cm O I B Fr K d (e.args.map Ex.en) M _ 0 [] _ :=
  ⟨rfl,fun _ h=>(by cases h),M,h.new,hr.ok,(by simp_all[db,eI.refl]),fun κ x M2 hk=>hk⟩
 refine .body sC rfl rfl ?_
 simp only[Ex.d,Ex.row_eq]at e1 ⊢
 simp  [go_sem,simprocAttr,ub,e1,c1,c2,c15,c16,c18,hsl.n]
 refine ay6 hl3 hsl _ h0 (fun k vs H' h=>h.n) (fun k vs H' hk hp => ?_) (fun vs H' c12 c20 hp => ?_)
 ·refine (hp.step hc hT (by omega) hx.args hd (hsz▸hr) hk).mono fun r hq => ?_
  rcases hq with⟨a,H2,rfl,q1,q2,q3⟩|⟨c,M2,H2,rfl,q1,q2⟩
  ·grind
  ·intro s
   refine⟨.inr ⟨c,M2,H2,rfl,⟨aN.of ?_,fun _ h=>by cases h⟩,q1⟩⟩
   grind
 ·obtain ⟨hn,ho,M1,E1,m1,s1,k1⟩:=hp
  rw[List.take_of_length_le (by simp)]at s1
  have hdr:(e.args.map Ex.en).drop e.args.length=[]:=by rw[List.drop_eq_nil_of_le (by simp)]
  rw[hdr]at k1
  have k2:=k1 (fun vs=>if e.op=5 then kX e.name vs[0]! else cB O B.wd e.op e.name e.v.i vs)
  rw[<- hJ]at k2
  have hR:=hr.stp s1 m1
  unfold Ai
  rw[<- hn]
  by_cases h5:e.op=5
  ·have c5:(e.op:Int)=5:=by omega
   obtain ⟨a,rfl⟩ : ∃ a,vs=[a]:=by
    have:e.args.length=1:=by
     have hf':=hf
     unfold Ex.formed at hf'
     rw[h5]at hf'
     simp only[show ic 5=(1,1)from rfl,Bool.and_eq_true,decide_eq_true_eq]at hf'
     omega
    rw[this]at hn
    match vs,hn with
    | [a],_=>exact⟨a,rfl⟩
   have ha:=ho a (by simp)
   have hne:=aoQ (nm:=e.name) hP ha (hR.le (by omega)) E1
   have hg:=E1.fr
   have hgl:=ay hg
   rw[show aU [a] false = .ar 6 [a.c,cr,cr] _ true false from rfl]at hg
   have har:aO H' H.length 3=some (6,[a.c,cr,cr],some 3,true,false):=by simp[Dm.aO,hg]
   simp[AV.c]at hne hg har
   simp  only[go_sem,simprocAttr,c5,har,List.length_nil]
   refine⟨hgl,hgl,hne.mono fun r hq => ?_⟩
   rcases hq.drop.h with⟨b,M',H',rfl,e2,⟨e3,e5⟩,e4⟩|⟨c,M',H',rfl,⟨e3,e5⟩,e4⟩
   ·simp  [go_sem,AV.c]
    refine⟨.inl ⟨b,M',H',rfl,e2,⟨aN.of (k2 _ _ ?_),e5⟩,e4⟩⟩
    unfold gZ
    rw[if_pos h5]
    exact e3
   ·refine⟨.inr ⟨c,M',H',rfl,⟨aN.of (k2 _ _ ?_),e5⟩,e4⟩⟩
    unfold gZ
    rw[if_pos h5]
    exact e3
  ·have c5 : ¬ (e.op:Int)=5:=by omega
   have hdo:=hc.d e.op hx.al hlt I B M1 Fr H' (bk O B.wd) _ vs e.name e.v.i hc.b (by omega) ho E1 (hR.f (by omega)).1 (hR.f (by omega)).2
   simp  [go_sem,simprocAttr,c5]
   refine hdo.mono fun r hq => ?_
   rcases hq.h with⟨b,M',H',rfl,e2,e3,e4⟩|⟨c,M',H',rfl,e3,e4⟩
   ·simp  [go_sem,AV.c]
    refine⟨.inl ⟨b,M',H',rfl,e2,⟨aN.of (k2 _ _ ?_),fun _ _=>(aoP _ _ _ _ _ _).ok e3 m1⟩,e4⟩⟩
    unfold gZ
    rw[if_neg h5]
    exact e3
   ·refine⟨.inr ⟨c,M',H',rfl,⟨aN.of (k2 _ _ ?_),fun _ h=>by cases h⟩,e4⟩⟩
    unfold gZ
    rw[if_neg h5]
    exact e3
theorem VQ (hc:Cx O B K Al) (hP:yW O B K m) : ∀ s,mA O B K Al m s
 | 0=>fun I M Fr H e d hs hx hd hr h=>by
  have:=e.en.size_eq
  omega
 | s+1=>fun I M Fr H e d hs hx hd hr h=>by
  have hT:=VQ hc hP s
  cases hf:e.formed with
  | false=>exact aoJ hx hf hr.ok h
  | true =>
   by_cases n1:e.op=1
   ·exact aoK n1 hx hf hr.ok h
   by_cases n2:e.op=2
   ·exact aoL n2 hx hf hd hr.ok h
   grind[aoM,aoN,aoO,aoR]
end
end
section
open Go.Dm
set_option maxRecDepth 10000
theorem VT{l:List UInt8}{i:Nat}{q:List UInt8×Nat}:∀{m:List (List UInt8×Nat)},q∈ja l i m->q.2=i\/q∈m
 |[],h=>.inl (by rw[eD.1 h])|(k,j)::m,h=>by
  unfold ja at h;split at h;·grind
  rcases S2.1 h with rfl|h;·grind
  exact(VT h).imp id (M0 _)
variable{z:List UInt8}{x y:Int}
theorem VU{rows:List (List D)}:∀{n:Nat}{q:List UInt8×Nat},q∈dQ rows z x y n->q.2<n
 |0,_,h=>by cases h|n+1,q,h=>by
  have a:q.2=n\/q∈dQ rows z x y n->q.2<n+1:=λh=>by
   rcases h with h|h;·omega
   have:=VU h;omega
  grind[dQ,jw,VT]
def Cn{rows:List (List D)}{a x:Int}{l:List Int}(b:l=fJ rows z y a)(h:x∈l):0<=x/\x<rows.length:=by subst b;have:=(tc _).mem_iff.1 h;obtain⟨q,c,rfl⟩:=fT.1 this;grind[VU]
theorem Cl.ok(c:Cl):mN c.row=true:=by simp[mN,Cl.row,Ex.row_eq]
def iB{rows:List (List D)}{w:Nat}:Sl w rows (cO w rows):=by cases rows with|nil=>exact .nil rfl|cons r a=>exact .im
theorem VV{l:List UInt8}{i:Nat}:∀{m:List (List UInt8×Nat)},(ja l i m).length<=m.length+1
 |[]=>G1 _|(k,j)::m=>by
  unfold ja;split;·simp
  have:=VV (l:=l) (i:=i) (m:=m);grind
theorem If{rows:List (List D)}{name:List UInt8}{date known:Int}:∀{n:Nat},(dQ rows name date known n).length<=n|0=>G1 _|n+1=>by have a:=If (rows:=rows) (name:=name) (date:=date) (known:=known) (n:=n);grind[VV,ug,dQ,jw]
def VW{B:BW}{nm:Nm}{d:Int}{l:List Int}(h:l=fJ (B.cls.map Cl.row) nm d B.known)(a:B.cls.length<1000000):l.length<1000000000000:=by grind[fJ,oW,Cl.row,dQ,If]
section
variable{O:bB}{I:bU}{B:BW}{K:Int}{Al:Nat->Prop}{M:af}{Fr:List (Nat×an)}{H:ab}{m:Nat}{d:Int}{nm:Nm}
def VX(a:B.ok):ai VS 19 [.ag [.s B.pn,B.defs,B.tabs,B.clsD],.s nm,.i .i64 d,.i .i64 B.known] (cO 1 ((fJ (B.cls.map Cl.row) nm d B.known).map aV)):=by
 have f:(B.cls.map Cl.row).all mN=true:=by rw[TB];intro r hr;obtain⟨c,_,rfl⟩:=fT.1 hr;exact c.ok
 have g:(B.cls.map Cl.row).length<1099511627776:=by have:=a.cl;grind
 have h:uh (B.cls.map Cl.row) nm d B.known=some (cO 1 ((fJ (B.cls.map Cl.row) nm d B.known).map aV)):=by grind[uh]
 refine⟨1,?_⟩;have j:VS.pext 19 [.ag [.s B.pn,B.defs,B.tabs,B.clsD],.s nm,.i .i64 d,.i .i64 B.known]=some (cO 1 ((fJ (B.cls.map Cl.row) nm d B.known).map aV)):=by
  show(if 103=103 then zO [.ag [.s B.pn,B.defs,B.tabs,B.clsD],.s nm,.i .i64 d,.i .i64 _]else none)=_;have e:(fK (.s B.pn)&&fK B.defs&&fK B.tabs)=true:=by rw[a.x.1,a.x.2];rfl
  have b:=a.c;simp[zO,e,if_true];generalize B.clsD=c at b;cases b<;>grind
 have:=BG;grind[dh,dU]
structure aoS(O:bB)(I:bU)(B:BW)(Fr:List (Nat×an))(K:Int)(nm:Nm)(d:Int)(M:af)(r:CR):Prop where h:(∃(c:Nat)(M':af)(H':ab),r=.ret (.i .i64 (c:Int)) H'/\c<B.cls.length/\(∀κ x M2,aG (bk O B.wd) (κ c) M' x M2->aG (bk O B.wd) (jt B.wd nm d κ) M x M2)/\jl M'/\eI K (dZ (B.wd.cl nm d)) M M'/\EV I B M' Fr H')\/(∃(e:Int)(M':af)(H':ab),r=.pan (eO e) H'/\(∀κ,aG (bk O B.wd) (jt B.wd nm d κ) M (.er e) M')/\EV I B M' Fr H')
structure Ig(O:bB)(I:bU)(B:BW)(Fr:List (Nat×an))(K:Int)(d:Int)(l:List (Nat×eK))(M:af)(k c n:Nat)(H:ab):Prop where
 nk:n<=k
 cb:n=0\/c<B.cls.length
 h:∃M',EV I B M' Fr H/\jl M'/\eI K (dZ (l.take k)) M M'/\∀κ x M2,aG (bk O B.wd) (bC d κ (l.drop k) c n) M' x M2->aG (bk O B.wd) (bC d κ l 0 0) M x M2
def VY:∀{l:List (Nat×eK)}{k:Nat},k<l.length->dZ (l.take (k+1))=dZ (l.take k)+l[k]!.2.when.size|e::l,0,_=>by simp[dZ]|e::l,k+1,h=>by have:=VY (l:=l) (k:=k) (by grind);grind[dZ]
def VZ:∀{l:List (Nat×eK)}{k:Nat},dZ (l.take k)<=dZ l|[],k=>by simp|e::l,0=>by simp[dZ]|e::l,k+1=>by have:=VZ (l:=l) (k:=k);grind[dZ]
def V0(F:Cx O B K Al)(hT:∀s,mA O B K Al m s)(hd:0<=d/\d<65536)(hr:eJ K m (dZ (B.wd.cl nm d)) M)(h:EV I B M Fr H):ac VS 42 [.hp I.b 0,.s nm,.i .i64 d,wD I] H (aoS O I B Fr K nm d M):=by
 obtain⟨S,hS⟩:=h.h;have hb:=hS.hb;have f:=F.b;have a2:=f.cl;have ei:=λ{H K}=>(VX (nm:=nm) (d:=d) f).c (H:=H) (K:=K) BG rfl (by simp[bO,lH,f.d.1,f.d.2,f.c.flat];exact⟨rfl,rfl,rfl⟩) (.inl rfl);obtain⟨l,v⟩:∃l,l=fJ (B.cls.map Cl.row) nm d B.known:=⟨_,rfl⟩;rw[<-v]at ei;have ag:Sl 1 (l.map aV) _:=iB;have hW:B.wd.cl nm d=(l.map Int.toNat).map λi=>(i,B.cls[i]!.n):=by rw[v];rfl
 have a4:=λ{V dr os keep G J Q L H N k P}=>ag.q (V:=V) (dr:=dr) (os:=os) (keep:=keep) (loc:=G) (sl:=J) (Q:=Q) (sl':=L) (H:=H) (H':=N) (k:=k) (x:=P);have a7:=λ{V dr os keep G J Q L H N k P}=>f.c.q (V:=V) (dr:=dr) (os:=os) (keep:=keep) (loc:=G) (sl:=J) (Q:=Q) (sl':=L) (H:=H) (H':=N) (k:=k) (x:=P);have a8:=λ{H}=>ag.n (H:=H);have ah:=ay hb;refine .body akV rfl rfl ?_;simp only[go_sem,simprocAttr,auQ,hb,ei,a8];refine⟨ah,ah,?_⟩;have bk:=VW v a2;refine ak.up (λk s=>∃(c n:Nat)(g:ab)(a5 a6 al:D),Ig O I B Fr K d (B.wd.cl nm d) M k c n g/\s=⟨[.hp I.b 0,.s nm,.i .i64 d,.ifc 88 _,.i .i64 0,a5,a6,.u,.u,.i .i64 c,.i .i64 n,.i .i64 k,.i .i64 _,cO 1 _,al],g⟩) l.length ⟨0,0,H,_,_,_,⟨G1 _,.inl rfl,M,h,hr.ok,(by simp_all[dZ,eI.refl]),λκ x a hk=>hk⟩,rfl⟩ ?_;rintro k s hk⟨c,n,g,a5,a6,al,⟨nk,cn,M1,o,m1,p,b⟩,rfl⟩;have bm:(B.wd.cl nm d).length=l.length:=by grind
 by_cases q:k<l.length
 ·have t:(k:Int)<l.length:=by omega
  have c0:(0:Int)<=k:=by omega
  have w1:IntKind.i64.wrap (k+1)=((k+1:Nat)):=by rw[wr (by omega) (by omega)];omega
  have w2:IntKind.i64.wrap (n+1)=((n+1:Nat)):=by rw[wr (by omega) (by omega)];omega
  have w:k<(B.wd.cl nm d).length:=by omega
  have y:=Cn v (show l[k]!∈l by rw[Hy l k q];exact hY q);rw[T3]at y;obtain⟨i,hi⟩:∃i:Nat,l[k]! =i:=⟨l[k]!.toNat,by omega⟩;rw[hi]at y;have i1:=y.2;have i0:=y.1;have U:i<B.cls.length:=by omega
  have W:(B.wd.cl nm d)[k]! =(i,B.cls[i]!.n):=by rw[Hy _ k w];simp only[hW,wv];rw[<-getElem!_pos l k q,hi,dA]
  have z:(B.wd.cl nm d).drop k=(i,B.cls[i]!.n)::(B.wd.cl nm d).drop (k+1):=by rw[<-W,oz w,Hy _ k w]
  have X:=VY w;have bq:=VZ (l:=B.wd.cl nm d) (k:=k+1);rw[W]at X;obtain⟨e,Y⟩:∃e,e=B.cls[i]!:=⟨_,rfl⟩;have hx:=(F.c e (by rw[Y,Hy _ i U];exact hY U)).1;rw[<-Y]at W z X;have bc:e.n.when=e.w.en:=rfl;rw[bc]at X;have S1:=o.h;obtain⟨S1,bd⟩:=S1;have be:=bd.hb;have ht:=wc F (hT _) (G1 _) hx hd ((hr.stp p m1).le (by omega)) o;simp[Ex.d,Ex.row_eq]at ht;simp[go_sem,simprocAttr,DD,t,a4,a7,hi,aV,be,i1,<-Y,Cl.row,Ex.row_eq,bN];refine ht.mono λr hq=>?_;rcases hq.h with⟨x,a,j,rfl,A,m2,s2,C⟩|⟨c',a,j,rfl,A,C⟩
  ·have aw:eI K (dZ ((B.wd.cl nm d).take (k+1))) M a:=by exact⟨by have:=p.p;have:=s2.p;omega,dG p.b s2.b⟩
   cases x with|true=>have Z:Ig O I B Fr K d _ M _ i (n+1) j:=⟨by omega,.inr U,a,C,m2,aw,λκ x M3 ad=>b κ x M3 (by rw[z];unfold bC;refine A _ _ _ ?_;exact ad)⟩;simp only[go_sem,w1,w2];exact⟨q,i,n+1,j,Z,⟨rfl,by omega⟩,rfl⟩|false=>have Z:Ig O I B Fr K d _ M _ c n j:=⟨by omega,cn,a,C,m2,aw,λκ x M3 ad=>b κ x M3 (by rw[z];unfold bC;refine A _ _ _ ?_;exact ad)⟩;simp only[go_sem,w1];exact⟨q,c,n,j,Z,⟨rfl,rfl⟩,rfl⟩
  refine⟨.inr ⟨c',a,j,rfl,λκ=>b κ _ _ ?_,C⟩⟩;rw[z];unfold bC;exact A _
 have t:¬(k:Int)<l.length:=by omega
 rw[E2 (by omega)]at p;rw[dn (by omega)]at b;have e3:=λ{H K}=>eZ (e:=183) (H:=H) (K:=K);have e4:=λ{H K}=>eZ (e:=184) (H:=H) (K:=K);by_cases E:n=0
 ·have d0:(n:Int)=0:=by omega
  simp[go_sem,DD,t,d0,e3];refine⟨.inr ⟨183,M1,g,rfl,λκ=>b κ _ _ ?_,o⟩⟩;unfold bC;rw[E4 E];exact .err
 have d0:¬(n:Int)=0:=by omega
 by_cases n1:1<n
 ·have d1:(n:Int)>1:=by omega
  simp only[go_sem,DD,t,d0,d1,e4];refine⟨.inr ⟨184,M1,g,rfl,λκ=>b κ _ _ ?_,o⟩⟩;unfold bC;rw[E1 E,E4 n1];exact .err
 have d1:¬(n:Int)>1:=by omega
 simp only[go_sem,DD,t,d0,d1];refine⟨.inl ⟨c,M1,g,rfl,cn.resolve_left E,λκ x a bj=>b κ _ _ ?_,m1,p,o⟩⟩;unfold bC;rw[E1 E,E1 n1];exact bj
end
end
section
open Go.Dm
set_option maxRecDepth 10000
section
variable{O:bB}{I:bU}{B:BW}{K:Int}{Al:Nat->Prop}{M:af}{Fr:List (Nat×an)}{H:ab}{m:Nat}{d:Int}{nm:Nm}
def Co(W:Wd)(nm:Nm)(d:Int)(k:NV->Tr):Tr:=jt W nm d λc=>.call (.term (W.clause c).thn d) λv=>if W.kind nm=some v.k then k v else .err 185
structure aoT(O:bB)(I:bU)(B:BW)(Fr:List (Nat×an))(nm:Nm)(d:Int)(M:af)(r:CR):Prop where h:(∃(a:AV)(c:Nat)(M':af)(H':ab),r=.ret (.tu [.ag a.c,.i .i64 (c:Int)]) H'/\a.ok/\(∀κ x M2,aG (bk O B.wd) (κ a.v) M' x M2->aG (bk O B.wd) (Co B.wd nm d κ) M x M2)/\jl M'/\EV I B M' Fr H')\/(∃(e:Int)(M':af)(H':ab),r=.pan (eO e) H'/\(∀κ,aG (bk O B.wd) (Co B.wd nm d κ) M (.er e) M')/\EV I B M' Fr H')
def aoU(g:Cx O B K Al)(w:∀s,mA O B K Al m s)(y:0<=d/\d<65536)(hr:eJ K m K M)(h:EV I B M Fr H):ac VS 53 [.hp I.b 0,.s nm,.i .i64 d,wD I] H (aoT O I B Fr nm d M):=by
 have aj:=g.w nm d 0;have F:=g.b;have G:=V0 (nm:=nm) g w y (hr.le (by omega)) h;have J:=λ{V dr os keep L N Q P H S k U}=>F.c.q (V:=V) (dr:=dr) (os:=os) (keep:=keep) (loc:=L) (sl:=N) (Q:=Q) (sl':=P) (H:=H) (H':=S) (k:=k) (x:=U);have z:=λ{H K}=>eZ (e:=185) (H:=H) (K:=K);refine .body akX rfl rfl ?_;simp[go_sem,auW];refine G.mono λr q=>?_;rcases q.h with⟨c,M1,t,rfl,cl,b,W,X,p⟩|⟨e,M1,t,rfl,b,p⟩
 ·have Y:=g.w nm d c;obtain⟨S1,Z⟩:=p.h;have aa:=Z.hb;have i1:(c:Int)<B.cls.length:=by omega
  have i0:(0:Int)<=c:=by omega
  obtain⟨e,A⟩:∃e,e=B.cls[c]!:=⟨_,rfl⟩;have hx:=(g.c e (by grind)).2;have j:(B.wd.clause c).thn=e.t.en:=by rw[A];rfl
  rw[j]at Y;have C:=w _ I M1 Fr t e.t d (G1 _) hx y ((hr.stp X W).le (by omega)) p;simp[Ex.d,Ex.row_eq]at C;simp[go_sem,simprocAttr,aa,J,i1,<-A,Cl.row,Ex.row_eq,bN];refine C.mono λr q=>?_;rcases q.h with⟨a,l,n,rfl,ho,⟨o,E⟩,f⟩|⟨c',l,n,rfl,⟨o,E⟩,f⟩;·have ag:=λ{K}=>Vv f (k:=nm) (K:=K);simp[go_sem,AV.c];refine ag ?_;cases hk:aA nm _ with|none=>simp only[pv];simp[go_sem,z];refine⟨.inr ⟨185,l,n,rfl,λκ=>b _ _ _ ?_,f⟩⟩;rw[j];refine aG.call o ?_;rw[E1 (by show¬aA nm _=_;grind)];exact .err|some u=>
   simp[pu,fL];by_cases hv:a.v.k=u
   ·have v:(a.v.k:Int)=u:=by omega
    simp[go_sem,simprocAttr,v];refine⟨.inl ⟨a,c,l,n,(by rw[<-hv];rfl),ho,λκ x M3 ao=>b _ _ _ ?_,E _ rfl,f⟩⟩;rw[j];refine aG.call o ?_;rw[E4 (by show aA nm _=_;grind)];omega
   have v:¬(a.v.k:Int)=u:=by omega
   simp[go_sem,simprocAttr,v,z];refine⟨.inr ⟨185,l,n,rfl,λκ=>b _ _ _ ?_,f⟩⟩;rw[j];refine aG.call o ?_;rw[E1 (by show¬aA nm _=_;rw[hk];simp;omega)];exact .err
  refine⟨.inr ⟨c',l,n,rfl,λκ=>b _ _ _ ?_,f⟩⟩;rw[j];exact aG.calle o
 exact⟨.inr ⟨e,M1,t,rfl,λκ=>b _,p⟩⟩
structure aoV(O:bB)(I:bU)(B:BW)(Fr:List (Nat×an))(nm:Nm)(d:Int)(M:af)(r:CR):Prop where h:(∃H',r=.ret (.tu []) H'/\(∀k x M2,aG (bk O B.wd) k (kY (nm,d) (js (nm,d) M)) x M2->aG (bk O B.wd) (eY B.wd (nm,d) k) M x M2)/\M.begun.length≠4096/\EV I B (kY (nm,d) (js (nm,d) M)) Fr H')\/(∃(e:Int)(M':af)(H':ab),r=.pan (eO e) H'/\(∀k,aG (bk O B.wd) (eY B.wd (nm,d) k) M (.er e) M')/\EV I B M' Fr H')
def V3(F:jl M)(h:EV I B M Fr H):ac VS 41 [.hp I.v 0,.ag [.s nm,.i .i64 d]] H (aoV O I B Fr nm d M):=by
 obtain⟨S,b⟩:=h.h;have p:=b.hv;have j:=b.hmb;have q:=ay p;have J:=ay j;have m1:=F.p;have m2:=F.b;unfold vX at j;refine .body akU rfl rfl ?_;by_cases f:(nm,d)∈M.begun;·have g:=HV yP f;simp[qL]at g;have t:=λ{H K}=>eZ (e:=186) (H:=H) (K:=K);simp[go_sem,simprocAttr,Zv,p,j,g,t];refine⟨q,J,⟨.inr ⟨186,M,H,rfl,λk=>.st ?_,h⟩⟩⟩;rw[E4 f];exact .err
 have g:=HW yP f;simp[qL]at g;have u:∀k x l,aG _ (if M.begun.length=4096 then .err 5 else .st _ λ_=>match B.wd.kind nm with|none=>.err 6|some _=>k) (js _ M) x l->aG (bk O B.wd) (eY B.wd _ k) M x l:=λk x l m=>.st (by rw[E1 f];exact .st m);obtain⟨n,L,v,N,Q,U⟩:=b.p.app (bytes:=24) (r:=i5 (nm,d)) b.hs rfl (by grind) (by grind);simp[i5]at N;have Z:=Q.c1;have aa:=U.get (A:=[]);have a:bv I B (js _ M) {S with P:=n,aP:=v} Fr (L.set I.v (.hb 101 [.hp I.b 0,.mp I.mb,.mp I.mv,.mp I.mr,.mp I.ml,n,S.F,S.T])):=⟨U.set (A:=[]),(by show LR 2 n ((M.pairs++[(nm,d)]).map i5) v;rw[eH];exact Q),b.f,b.t,b.v,b.vo,b.g,b.w,b.r⟩;simp[go_sem,simprocAttr,Zv,p,j,g,N,aa,Z];refine⟨q,J,q,?_⟩;generalize L.set I.v _=c at a⊢;have w:=a.hv;have V:=a.hmb;have W:=ay w;have ab:(vX M.begun).length=M.begun.length:=by simp[vX,dN,jh]
 have X:dS c 2 (.mp I.mb)=some (.i .i64 M.begun.length):=by have:c[I.mb]?=some (.mp (vX M.begun)):=V;simp[dS,this,ab]
 by_cases o:M.begun.length=4096
 ·have y:(M.begun.length:Int)=4096:=by omega
  have e5:=λ{H K}=>eZ (e:=5) (H:=H) (K:=K);simp[go_sem,simprocAttr,w,X,y,e5];refine⟨.inr ⟨5,_,c,rfl,λk=>u k _ _ ?_,_,a⟩⟩;rw[E4 o];exact .err
 have y:¬(M.begun.length:Int)=4096:=by omega
 have Y:=λ{G i}=>HX yP f (G:=G) (i:=i);simp[qL]at Y;have ae:c[I.mb]?=some (.mp (dN qL kB (jh M.begun))):=V;have z:bv I B (kY _ (js _ M)) {S with P:=n,aP:=v} Fr (c.set I.mb (.mp (dN qL kB (jh (M.begun++[(nm,d)]))))):=⟨a.hs.set (A:=[_]),a.p,a.f,a.t,a.v,a.vo,a.g,a.w,a.r⟩;simp only[go_sem,simprocAttr,w,X,y,ae,Y];refine⟨W,W,?_⟩;generalize c.set I.mb _=C at z⊢;have af:=z.hv;have E:EV I B _ Fr C:=⟨_,z⟩;have ah:=λ{K}=>Vv E (k:=nm) (K:=K);have t:=λ{H K}=>eZ (e:=6) (H:=H) (K:=K);simp[go_sem,simprocAttr,af];refine ah ?_;cases m:aA nm _ with|none=>simp only[pv];simp[go_sem,t];refine⟨.inr ⟨6,_,C,rfl,λk=>u k _ _ ?_,E⟩⟩;rw[E1 o];refine .st ?_;rw[show B.wd.kind nm=none from m];exact .err|some kd=>simp only[pu];simp[go_sem];refine⟨.inl ⟨C,rfl,λk x l aj=>u k _ _ ?_,o,E⟩⟩;rw[E1 o];refine .st ?_;rw[show B.wd.kind nm=some kd from m];exact aj
end
end
section
open Go.Dm
set_option maxRecDepth 10000
section
variable{O:bB}{I:bU}{B:BW}{K:Int}{Al:Nat->Prop}{M:af}{Fr:List (Nat×an)}{H:ab}{m:Nat}{d:Int}{nm:Nm}
def aoW{W:Wd}:jY W nm d=.st id λM=>match aA (nm,d) M.vals with|some v=>.ret v|none=>eY W (nm,d) (Co W nm d λv=>.st (oY (nm,d) v) λ_=>.ret v):=by unfold jY;congr 1;funext M;rw[aoc];rfl
def eJ.beg(hr:eJ K (m+1) 0 M)(b:M.begun.length≠4096):eJ K m K (kY (nm,d) (js (nm,d) M)):=by
 have c:=hr.m;have a:=hr.p;have e:=hr.ok.p;have f:=hr.ok.b;refine⟨⟨?_,?_⟩,?_,?_,hr.k⟩;·show(M.pairs++[(nm,d)]).length<=(M.begun++[(nm,d)]).length;grind
 ·show(M.begun++[(nm,d)]).length<=4096;grind
 ·show 4096<=(M.begun++[(nm,d)]).length+m;grind
 show M.facts.length+M.tabs.length-K*((M.begun++[(nm,d)]).length)+K<=500000000;unfold kQ at a;simp only[N3,qu];grind
theorem aoX(hc:Cx O B K Al)(hT:∀n s,n<m->mA O B K Al n s):yW O B K m:=λI M Fr H nm d hd hr h=>by
 obtain⟨S,l⟩:=h.h;have t:=l.hv;have u:=l.hmv;have Q:=ay t;have U:=ay u;have j:fj _ (.ag [.s nm,.i .i64 d]) true _ (some (.mp (vY S.vs)))=some (.tu [((aA (nm,d) S.vs).map kA).getD (.ag [.i .u8 0,.b false,.nil,.b false,.nil,.i .i64 0]),.b (aA (nm,d) S.vs).isSome]):=oU yP (nm,d) S.vs _;have w:aA (nm,d) M.vals=(aA (nm,d) S.vs).map AV.v:=by rw[<-l.v,Ci]
 have V:bk O B.wd (.pair nm d)=.st id λM=>match aA _ _ with|some v=>.ret v|none=>eY B.wd _ _:=aoW;refine .body akQ rfl rfl ?_;cases y:aA _ S.vs with|some a=>rw[y]at j w;have z:=l.vo _ (iZ y);simp[ga,fL,pu,kA,AV.c]at j;simp[go_sem,simprocAttr,Zt,t,u,j];refine⟨Q,U,⟨.inl ⟨a,M,H,rfl,z,⟨aN.of ?_,λ_ _=>hr.ok⟩,h⟩⟩⟩;rw[V];refine .st ?_;rw[w];exact .ret|none=>
 rw[y]at j w;simp[AAC,uA,pv]at j;have C:∀x g,aG (bk O B.wd) (eY B.wd (nm,d) (Co B.wd nm d λv=>.st (oY (nm,d) v) λ_=>.ret v)) M x g->aN (bk O B.wd) _ M x g:=λx g hk=>aN.of (by rw[V];refine .st ?_;grind);have z:=V3 (O:=O) (nm:=nm) (d:=d) hr.ok h;simp[go_sem,simprocAttr,Zt,t,u,j];refine⟨Q,U,z.mono λr E=>?_⟩;rcases E.h with⟨W,rfl,o,h4,q⟩|⟨e,M1,W,rfl,o,q⟩
 ·obtain⟨F,rfl⟩:∃F,m=F+1:=⟨m-1,by have:=hr.m;have:=hr.ok.b;omega⟩;have ah:=aoU (nm:=nm) hc (λs=>hT F s (by omega)) hd (hr.beg h4) q;obtain⟨S1,ai⟩:=q.h;have aj:=ai.hv;simp[go_sem,simprocAttr,aj];refine ah.mono λr E=>?_;rcases E.h with⟨a,c,g,J,rfl,X,L,Y,N⟩|⟨e,g,J,rfl,L,N⟩
  ·obtain⟨k,f⟩:=N.h;have Z:=f.hv;have ak:=f.hmv;have al:=ay Z;have aa:∀{G:ab}{i:Nat},iS G _ i (.ag [.s nm,.i .i64 d]) (.ag _) (some (.mp (vY k.vs)))=some (G.set i (.mp (vY _))):=λ{G i}=>om (ev:=kA) yP i (nm,d) a k.vs;simp[AV.c]at aa;have E3:bv I B (oY _ a.v g) {k with vs:=aS _ a k.vs} Fr (J.set I.mv (.mp (vY (aS (nm,d) a k.vs)))):=⟨f.hs.set (A:=[_,_]),f.p,f.f,f.t,by rw[vh,f.v];rfl,λp P=>by
 rcases qM P with⟨_,rfl⟩|P;·exact X
 exact f.vo _ P,f.g,f.w,f.r⟩;simp[go_sem,simprocAttr,Z,ak,AV.c,aa];exact⟨al,⟨.inl ⟨a,_,_,rfl,X,⟨C _ _ (o _ _ _ (L _ _ _ (.st .ret))),λ_ _=>⟨Y.p,Y.b⟩⟩,_,E3⟩⟩⟩
  exact⟨.inr ⟨e,g,J,rfl,⟨C _ _ (o _ _ _ (L _)),λ_ h=>by cases h⟩,N⟩⟩
 exact⟨.inr ⟨e,M1,W,rfl,⟨C _ _ (o _),λ_ h=>by cases h⟩,q⟩⟩
def Ih(a:Cx O B K Al):∀m,yW O B K m/\∀s,mA O B K Al m s:=λm=>by induction m using Nat.strongRecOn<;>grind[aoX,VQ]
def af.rdy(h:0<=K/\K<=100000){s:Int}(hs:s<=500000000):eJ K 4096 s af.nil:=⟨⟨G1 _,AAg _⟩,G1 _,by show 0+0-K*(0:Nat)+s<=_;omega,h⟩
def aoY(a:Cx O B K Al)(b:0<=d/\d<65536)(h:EV I B af.nil Fr H):ac VS 33 [.hp I.v 0,.s nm,.i .i64 d] H (mz O I B Fr (.pair nm d) af.nil):=by
 have c:0<=K:=by have:=a.w nm d 0;omega
 exact(Ih a 4096).1 I _ Fr H nm d b (af.rdy ⟨c,a.k⟩ (by decide)) h
def aoZ(a:Cx O B K Al){e:Ex}(b:bA Al e)(hs:e.en.size<=100000)(c:0<=d/\d<65536)(h:EV I B af.nil Fr H):ac VS 38 [.hp I.b 0,e.d,.i .i64 d,wD I] H (mz O I B Fr (.term e.en d) af.nil):=by
 have f:0<=K:=by have:=a.w [] d 0;omega
 exact(Ih a 4096).2 _ I _ Fr H e d (G1 _) b c (af.rdy ⟨f,a.k⟩ (by omega)) h
end
end
section
open Go.Dm
set_option maxRecDepth 10000
structure Df where
 name:Nm
 kind:Nat
 fact:Bool
instance:Inhabited Df:=⟨⟨[],0,false⟩⟩
def Df.c(d:Df):List D:=[.s d.name,.i .u8 d.kind,.b d.fact]
def jm(m:List (Nm×Nat))(d:Df):List (Nm×Nat):=if(aA d.name m).isNone&&!d.fact then aS d.name d.kind m else m
def jn(l:List Df):List (Nm×Nat):=l.foldl jm []
def nD(g:List (Nm×List Fc))(f:Fc):List (Nm×List Fc):=aS f.key ((aA f.key g).getD []++[f]) g
def nE(l:List Fc):List (Nm×List Fc):=l.foldl nD []
def kR(m:List (Nm×Tb))(t:Tb):List (Nm×Tb):=if(aA t.name m).isNone then aS t.name t m else m
def jo(l:List Tb):List (Nm×Tb):=l.foldl kR []
def Ii{α β:Type}[Inhabited α]{g:β->α->β}{b:β}{l:List α}{k:Nat}(h:k<l.length):(l.take (k+1)).foldl g b=g ((l.take k).foldl g b) l[k]!:=by rw[sd,Hk h,Hy l k h,AAx];rfl
abbrev GA:=List (Nm×Nat×List Fc×Bool)
def gN(g:GA):List (Nm×List Fc):=g.map λq=>(q.1,q.2.2.1)
def Ij(I:bU)(B:BW)(kinds:List (Nm×Nat))(g:GA)(tbs:List (Nm×Tb)):List (Nat×an):=[(I.b,.hb 140 [.s B.pn,B.defs,B.tabs,B.clsD,.i .i64 B.known,.mp I.kd,.mp I.fm,.mp I.vm,.mp I.tm,.mp I.rm]),(I.kd,.mp (kE kinds)),(I.fm,.mp (gE g)),(I.vm,.mp (dE [])),(I.tm,.mp (tE tbs)),(I.rm,.mp (dE []))]
structure dV(I:bU)(B:BW)(kinds:List (Nm×Nat))(g:GA)(tbs:List (Nm×Tb))(Fr:List (Nat×an))(H:ab):Prop where hs:Hs H (Ij I B kinds g tbs++(gL g++Fr))u:∀q∈g,q.2.2.2=false/\q.2.2.1≠[]
section
variable{I:bU}{B:BW}{kinds:List (Nm×Nat)}{g:GA}{tbs:List (Nm×Tb)}{Fr:List (Nat×an)}{H:ab}
def dV.hb(h:dV I B kinds g tbs Fr H):H[I.b]?=some (.hb 140 [.s B.pn,B.defs,B.tabs,B.clsD,.i .i64 B.known,.mp I.kd,.mp I.fm,.mp I.vm,.mp I.tm,.mp I.rm]):=h.hs.get (A:=[])
def dV.hkd(h:dV I B kinds g tbs Fr H):H[I.kd]?=some (.mp (kE kinds)):=h.hs.get (A:=[_])
def dV.hfm(h:dV I B kinds g tbs Fr H):H[I.fm]?=some (.mp (gE g)):=h.hs.get (A:=[_,_])
def dV.htm(h:dV I B kinds g tbs Fr H):H[I.tm]?=some (.mp (tE tbs)):=h.hs.get (A:=[_,_,_,_])
def dV.kind(h:dV I B kinds g tbs Fr H)(a:List (Nm×Nat)):dV I B a g tbs Fr (H.set I.kd (.mp (kE a))):=⟨h.hs.set (A:=[_]),h.u⟩
def dV.tab(h:dV I B kinds g tbs Fr H)(a:List (Nm×Tb)):dV I B kinds g a Fr (H.set I.tm (.mp (tE a))):=⟨h.hs.set (A:=[_,_,_,_]),h.u⟩
def V4{κ β:Type}[DecidableEq κ]{k:κ}{v:β}:∀{m:List (κ×β)},aA k m=none->aS k v m=m++[(k,v)]
 |[],_=>rfl|(a,b)::m,h=>by
  by_cases e:k=a;·grind[yT]
  rw[yU e]at h;unfold aS;rw[E1 e,V4 h];rfl
def V5{κ β:Type}[DecidableEq κ]{k:κ}{q:β}:∀{m:List (κ×β)},aA k m=some q->∃A C,m=A++(k,q)::C/\∀v,aS k v m=A++(k,v)::C
 |(a,b)::m,h=>by
  by_cases e:k=a;·subst e;rw[yT]at h;cases h;exact⟨[],m,rfl,λv=>by grind[aS]⟩
  rw[yU e]at h;obtain⟨A,C,c,d⟩:=V5 h;grind[aS]
def dV.fact(h:dV I B kinds g tbs Fr H)(f:Fc)(K:∀q∈g,q.2.2.1.length<1000000):∃(x y:D)(d:ab)(e:GA),fj (.c 2) (.s f.key) false .nil (some (.mp (gE g)))=some x/\bY H x (.sv 11 [f.c]) 11 128 true=some (y,d)/\(∀{G:ab},iS G (.c 2) I.fm (.s f.key) y (some (.mp (gE g)))=some (G.set I.fm (.mp (gE e))))/\y.cellsN 1=some [y]/\d[I.b]?=H[I.b]?/\d[I.fm]?=H[I.fm]?/\gN e=nD (gN g) f/\dV I B kinds e tbs Fr (d.set I.fm (.mp (gE e))):=by
 have i:fj _ (.s f.key) false .nil (some (.mp (gE g)))=some _:=Vu iz f.key g .nil;have j:aA f.key (gN g)=(aA f.key g).map _:=Ci (g:=λq:Nat×List Fc×Bool=>q.2.1);have r:∀(v:Nat×List Fc×Bool){G:ab},iS G (.c 2) I.fm (.s f.key) (.mu v.1 v.2.1.length 0 v.2.1.length) (some (.mp (gE g)))=some (G.set I.fm (.mp (gE (aS f.key v g)))):=λv{G}=>om (ev:=λq:Nat×List Fc×Bool=>.mu q.1 q.2.1.length 0 q.2.1.length) iz I.fm f.key v g;have t:∀v,gN (aS f.key v g)=aS f.key v.2.1 (gN g):=λv=>vh (g:=λq:Nat×List Fc×Bool=>q.2.1)
 cases k:aA f.key g with|none=>
 rw[k]at i j;have u:aS f.key _ g=g++[(f.key,H.length,[f],false)]:=V4 k;refine⟨.nil,.mu _ 1 0 1,H++[.ar 11 [f.c] none true false],aS f.key _ g,i,vg (by rw[f.fl]) (by decide),r (H.length,[f],false),rfl,?_,?_,?_,?_,?_⟩;·rw[dw (ay h.hb)]
 ·rw[dw (ay h.hfm)]
 ·rw[t,nD,j];rfl
 ·rw[u];have w:Hs (H++[.ar 11 [f.c] none true false]) ((Ij I B kinds g tbs++gL g)++(H.length,.ar 11 [f.c] none true false)::Fr):=by have:=h.hs;rw[<-List.append_assoc]at this;exact this.newm
  have o:gL (g++[(f.key,H.length,[f],false)])=gL g++[(H.length,.ar 11 [f.c] none true false)]:=by simp[gL]
  rw[o];simp[gC,U3,bN]at w⊢;exact w.set (A:=[_,_])
 intro q b;rw[u]at b;rcases TA.1 b with m|m;·exact h.u q m
 rw[eD.1 m];exact⟨rfl,by simp⟩|some q=>
 obtain⟨a,l,lk⟩:=q;rw[k]at i j;obtain⟨A,C,n,L⟩:=V5 k;have z:(f.key,a,l,lk)∈g:=by rw[n];simp
 obtain⟨E,M⟩:=h.u _ z;have N:=K _ z;simp only at E M N;subst E;have F:aS f.key _ g=A++(f.key,a,l++[f],false)::C:=L _;have o:gL g=gL A++(a,.ar 11 (l.map Fc.c) none true false)::gL C:=by rw[n];simp[gL]
 have P:gL (A++(f.key,a,l++[f],false)::C)=gL A++(a,.ar 11 (l.map Fc.c++[f.c]) none true false)::gL C:=by simp[gL]
 have hs:=h.hs;rw[o]at hs;have J:Hs H ((Ij I B kinds g tbs++gL A)++(a,.ar 11 (l.map Fc.c) none true false)::(gL C++Fr)):=by simpa only[gC,U3]using hs
 have Q:=J.get;have S:=J.set (y:=.ar 11 (l.map Fc.c++[f.c]) none true false);have p:=by simpa only[gC]using S
 refine⟨.mu a l.length 0 _,.mu a _ 0 _,_,aS f.key (a,l++[f],false) g,i,HH Q (by simp) (by rw[f.fl]) (by omega) (by omega),?_,rfl,?_,?_,?_,?_,?_⟩;·intro G;have:=r (a,l++[f],false) (G:=G);simpa using this
 ·exact(p.get (A:=[])).trans h.hb.symm
 ·exact(p.get (A:=[_,_])).trans h.hfm.symm
 ·rw[t,nD,j];rfl
 ·rw[F,P];simp[gC,U3];exact p.set (A:=[_,_])
 intro q b;rw[F]at b;rcases TA.1 b with m|m;·exact h.u q (by rw[n];exact T4 _ m)
 rcases S2.1 m with rfl|m;·exact⟨rfl,by simp⟩
 exact h.u q (by rw[n];exact gA _ (M0 _ m))
end
end
section
open Go.Dm
set_option maxRecDepth 10000
section
variable{I:bU}{B:BW}{kinds:List (Nm×Nat)}{g:GA}{tbs:List (Nm×Tb)}{Fr:List (Nat×an)}{H:ab}
variable{c0 c1 c2 c3 c4 c5 c6 c7 c8 c9 c10 c11 c12 c14 c15 c16 c17 c18 c19 c20 c21 c22 c23 c24 c25:D}{Q:Dm.Ex->St->Prop}
def ao0{l:List Df}{x:D}(E:Sl 3 (l.map Df.c) x)(U:l.length<1000000)(h:dV I B [] g tbs Fr H)(F:∀d c4 c5 c14 c15,dV I B (jn l) g tbs Fr d->Q (.ex 0) ⟨[c0,c1,c2,c3,c4,c5,c6,c7,c8,c9,.i .i64 (l.length:Int),.i .i64 (l.length:Int),x,.hp I.b 0,c14,c15,c16,c17,c18,c19,c20,c21,c22,c23,c24,c25],d⟩):ak VS (.loop Kj) ⟨[c0,c1,c2,c3,c4,c5,c6,c7,c8,c9,.i .i64 0,.i .i64 (l.length:Int),x,.hp I.b 0,c14,c15,c16,c17,c18,c19,c20,c21,c22,c23,c24,c25],H⟩ Q:=by
 have v:=λ{V dr os keep J K Q L H M k N}=>E.q (V:=V) (dr:=dr) (os:=os) (keep:=keep) (loc:=J) (sl:=K) (Q:=Q) (sl':=L) (H:=H) (H':=M) (k:=k) (x:=N);refine ak.up (λk s=>∃d c4 c5 c14 c15,dV I B (jn (l.take k)) g tbs Fr d/\s=⟨[c0,c1,c2,c3,c4,c5,c6,c7,c8,c9,.i .i64 k,.i .i64 _,x,.hp I.b 0,c14,c15,c16,c17,c18,c19,c20,c21,c22,c23,c24,c25],d⟩) l.length ⟨H,_,_,_,_,h,rfl⟩ ?_;rintro k s W⟨d,c4,c5,c14,c15,a,rfl⟩;by_cases w:k<l.length
 ·have d1:(k:Int)<l.length:=by omega
  have d0:(0:Int)<=k:=by omega
  have y:IntKind.i64.wrap (k+1)=((k+1:Nat)):=by grind[wr]
  have o:=a.hb;have j:=a.hkd;have z:=ay o;have p:=ay j;have A:jn _=jm (jn _) l[k]!:=Ii w;obtain⟨m,C⟩:∃m,m=jn (l.take k):=⟨_,rfl⟩;obtain⟨e,q⟩:∃e,e=l[k]!:=⟨_,rfl⟩;rw[<-C,<-q]at A;rw[<-C]at a j;have f:fj (.c 2) (.s e.name) true (.i .u8 0) (some (.mp (kE m)))=some (.tu [.i .u8 ((aA e.name m).getD 0),.b (aA e.name m).isSome]):=by refine(oU iz _ m _).trans ?_;cases aA _ m<;>rfl
  have P:∀{G:ab}{i:Nat},iS G _ i (.s _) _ (some (.mp (kE m)))=some (G.set i (.mp (kE _))):=λ{G i}=>om (ev:=λn:Nat=>D.i .u8 n) iz i e.name e.kind m;have S:=a.kind (aS e.name e.kind m);cases r:aA _ m with
  |some n=>
 rw[r]at f;have t:jm m e=m:=by grind[jm]
 simp[go_sem,simprocAttr,DF,d1,v,<-q,Df.c,o,j,f,y]
 grind|none=>rw[r]at f;simp only[uA,pv]at f;cases u:e.fact with|true=>
  have t:jm m e=m:=by unfold jm;rw[r,u];rfl
  simp[go_sem,simprocAttr,DF,d1,v,<-q,Df.c,o,j,f,y,u];exact⟨z,p,w,by rw[A,t];exact a⟩|false=>
  have t:jm m e=aS e.name e.kind m:=by unfold jm;rw[r,u];rfl
  simp[go_sem,simprocAttr,DF,d1,v,<-q,Df.c,o,j,f,P,y,u];exact⟨z,p,z,w,by rw[A,t];exact S⟩
 have d1:¬(k:Int)<l.length:=by omega
 have p:k=l.length:=by omega
 subst p;rw[o5]at a;simp[go_sem,DF];exact F _ _ _ _ _ a
def ao1{l:List Tb}{x:D}(E:Sl 3 (l.map Tb.c) x)(S:l.length<1000000)(h:dV I B kinds g [] Fr H)(F:∀c c7 c8 c23 c24 c25,dV I B kinds g (jo l) Fr c->Q (.ex 4) ⟨[c0,c1,c2,c3,c4,c5,c6,c7,c8,c9,c10,c11,c12,.hp I.b 0,c14,c15,c16,c17,c18,c19,.i .i64 (l.length:Int),.i .i64 (l.length:Int),x,c23,c24,c25],c⟩):ak VS (.loop Kl) ⟨[c0,c1,c2,c3,c4,c5,c6,c7,c8,c9,c10,c11,c12,.hp I.b 0,c14,c15,c16,c17,c18,c19,.i .i64 0,.i .i64 (l.length:Int),x,c23,c24,c25],H⟩ Q:=by
 have y:=λ{V dr os keep J K Q L H M k N}=>E.q (V:=V) (dr:=dr) (os:=os) (keep:=keep) (loc:=J) (sl:=K) (Q:=Q) (sl':=L) (H:=H) (H':=M) (k:=k) (x:=N);refine ak.up (λk s=>∃c c7 c8 c23 c24 c25,dV I B kinds g (jo (l.take k)) Fr c/\s=⟨[c0,c1,c2,c3,c4,c5,c6,c7,c8,c9,c10,c11,c12,.hp I.b 0,c14,c15,c16,c17,c18,c19,.i .i64 k,.i .i64 _,x,c23,c24,c25],c⟩) l.length ⟨H,_,_,_,_,_,h,rfl⟩ ?_;rintro k s U⟨c,c7,c8,c23,c24,c25,a,rfl⟩;by_cases p:k<l.length
 ·have d1:(k:Int)<l.length:=by omega
  have d0:(0:Int)<=k:=by omega
  have z:IntKind.i64.wrap (k+1)=((k+1:Nat)):=by rw[wr (by omega) (by omega)];omega
  have q:=a.hb;have f:=a.htm;have r:=ay q;have j:=ay f;have u:jo _=kR (jo _) l[k]!:=Ii p;obtain⟨m,A⟩:∃m,m=jo (l.take k):=⟨_,rfl⟩;obtain⟨e,v⟩:∃e,e=l[k]!:=⟨_,rfl⟩;rw[<-A,<-v]at u;rw[<-A]at a f;have d:fj _ (.s _) true (.ag [.s [],.b false,.nil]) (some (.mp (tE m)))=some _:=oU iz e.name m _;have C:∀{G:ab}{i:Nat},iS G _ i (.s _) _ (some (.mp (tE m)))=some (G.set i (.mp (tE _))):=λ{G i}=>om (ev:=λt=>D.ag t.c) iz i e.name e m
  have P:=a.tab (aS e.name e m);cases o:aA _ m with|some n=>
  rw[o]at d;simp[ga,fL,pu,Tb.c]at d;have w:kR m e=m:=by unfold kR;rw[o];rfl
  simp[go_sem,simprocAttr,Km,d1,y,<-v,Tb.c,q,f,d,z];exact⟨r,j,p,by rw[u,w];exact a⟩|none=>
  rw[o]at d;simp[AAC,uA,pv]at d;simp[Tb.c]at C;have w:kR m e=aS e.name e m:=by unfold kR;rw[o];rfl
  simp[go_sem,simprocAttr,Km,d1,y,<-v,Tb.c,q,f,d,C,z];exact⟨r,j,r,p,by rw[u,w];exact P⟩
 have d1:¬(k:Int)<l.length:=by omega
 have j:k=l.length:=by omega
 subst j;rw[o5]at a;simp[go_sem,Km];exact F _ _ _ _ _ _ a
def ao2{l:List Fc}:∀{g:List (Nm×List Fc)}{n:Nat},(∀q∈g,q.2.length<=n)->∀q∈l.foldl nD g,q.2.length<=n+l.length:=by induction l with|nil=>grind|cons f l b=>
 intro g n h q a;have:=b (n:=n+1) (λq a=>by
 obtain⟨k,v⟩:=q;rcases qM a with⟨_,rfl⟩|a;·cases c:aA f.key g with|none=>simp|some v=>have:=h _ (iZ c);grind
 grind) q a;grind
def ao3{l:List Fc}{x:D}(j:Sl 11 (l.map Fc.c) x)(K:l.length<1000000)(h:dV I B kinds [] tbs Fr H)(m:∀a g c6 c19,gN g=nE l->dV I B kinds g tbs Fr a->Q (.ex 2) ⟨[c0,c1,c2,c3,c4,c5,c6,c7,c8,c9,c10,c11,c12,.hp I.b 0,c14,c15,.i .i64 (l.length:Int),.i .i64 (l.length:Int),x,c19,c20,c21,c22,c23,c24,c25],a⟩):ak VS (.loop Kk) ⟨[c0,c1,c2,c3,c4,c5,c6,c7,c8,c9,c10,c11,c12,.hp I.b 0,c14,c15,.i .i64 0,.i .i64 (l.length:Int),x,c19,c20,c21,c22,c23,c24,c25],H⟩ Q:=by
 have c:=λ{V dr os keep o p Q r H t k u}=>j.q (V:=V) (dr:=dr) (os:=os) (keep:=keep) (loc:=o) (sl:=p) (Q:=Q) (sl':=r) (H:=H) (H':=t) (k:=k) (x:=u);refine ak.up (λk s=>∃a g c6 c19,gN g=nE (l.take k)/\dV I B kinds g tbs Fr a/\s=⟨[c0,c1,c2,c3,c4,c5,c6,c7,c8,c9,c10,c11,c12,.hp I.b 0,c14,c15,.i .i64 k,.i .i64 _,x,c19,c20,c21,c22,c23,c24,c25],a⟩) l.length ⟨H,[],_,_,rfl,h,rfl⟩ ?_;rintro k s L⟨a,g,c6,c19,d,b,rfl⟩;by_cases v:k<l.length
 ·have w:IntKind.i64.wrap (k+1)=((k+1:Nat)):=by grind[wr]
  have y:=b.hb;have z:=b.hfm;have M:nE _=nD (nE _) l[k]!:=Ii v;have A:∀q∈g,q.2.2.1.length<1000000:=λq c=>by have:=ao2 (g:=[]) (n:=0) (λ_ h=>by cases h) _ (by show _∈nE _;rw[<-d];exact od c);grind
  obtain⟨e,C⟩:∃e,e=l[k]!:=⟨_,rfl⟩;obtain⟨N,P,S,U,E,f,F,W,X,G,Y,Z⟩:=b.fact e A;simp[Fc.c]at f;simp[go_sem,simprocAttr,Zy,d1,c,<-C,Fc.c,y,z,E,f,F,G,w];grind
 have d1:¬(k:Int)<l.length:=by omega
 have J:k=l.length:=by omega
 subst J;rw[o5]at d;simp[go_sem,Zy];exact m _ _ _ _ d b
end
end
section
open Go.Dm
set_option maxRecDepth 10000
structure Pl where
 name:Nm
 defs:List Df
 tabs:List Tb
 cls:List Cl
 dD:D
 tD:D
 cD:D
 hd:Sl 3 (defs.map Df.c) dD
 ht:Sl 3 (tabs.map Tb.c) tD
 hc:Sl 24 (cls.map Cl.row) cD
def Pl.d(p:Pl):D:=.ag [.s p.name,p.dD,p.tD,p.cD]
def Pl.pl(p:Pl):p.d.plain=true:=by simp[Pl.d,bO,lH,p.hd.flat,p.ht.flat,p.hc.flat]
def Pl.bw(p:Pl)(l:List Fc)(a:Int):BW:=⟨p.name,p.dD,p.tD,p.cD,p.cls,a,jn p.defs,nE l,jo p.tabs⟩
def ao4(p:Pl){l:List Fc}{x:D}(a:Sl 11 (l.map Fc.c) x){known:Int}(d:p.defs.length<1000000)(e:p.tabs.length<1000000)(f:l.length<1000000){Fr:List (Nat×an)}{H:ab}(h:Hs H Fr){K:CR->Prop}(u:∀(I:bU)(g:GA)(b:ab),gN g=nE l->dV I (p.bw l known) (jn p.defs) g (jo p.tabs) Fr b->K (.ret (.hp I.b 0) b)):ac VS 50 [p.d,x,.i .i64 known] H K:=by
 obtain⟨I,c⟩:∃I:bU,I=⟨0,0,0,0,0,H.length+5,H.length,H.length+1,H.length+2,H.length+3,H.length+4⟩:=⟨_,rfl⟩;have j:dV I (p.bw l known) [] [] [] Fr (H++[.mp [],.mp [],.mp [],.mp [],.mp [],.hb 140 [.s p.name,p.dD,p.tD,p.cD,.i .i64 known,.mp H.length,.mp (H.length+1),.mp (H.length+2),.mp (H.length+3),.mp (H.length+4)]]):=by refine⟨?_,λ_ h=>by cases h⟩;have q:=(((((h.new (x:=.mp [])).new (x:=.mp [])).new (x:=.mp [])).new (x:=.mp [])).new (x:=.mp [])).new (x:=.hb 140 [.s p.name,p.dD,p.tD,p.cD,.i .i64 known,.mp H.length,.mp (H.length+1),.mp (H.length+2),.mp (H.length+3),.mp (H.length+4)]);simp only[gC,U3,bN,N3,fA,lA]at q;rw[c];exact q.perm (.cons _ ((List.reverse_perm [(H.length,an.mp []),(H.length+1,an.mp []),(H.length+2,an.mp []),(H.length+3,an.mp []),(H.length+4,an.mp [])]).append_right Fr))
 have k:I.b=H.length+5:=by rw[c]
 have m:=λ{H}=>p.hd.n (H:=H);have n:=λ{H}=>a.n (H:=H);have o:=λ{H}=>p.ht.n (H:=H);refine .body akW rfl rfl ?_;unfold Pl.d;simp[go_sem,simprocAttr,auT,m];rw[<-k];refine ao0 p.hd d j λv _ _ _ _ r=>?_;simp[go_sem,n];refine ao3 a f r λw g _ _ y t=>?_;simp[go_sem,simprocAttr,o];refine ao1 p.ht e t λz _ _ _ _ _ A=>?_;simp[go_sem];grind
def V6{α:Type}[Inhabited α]{p:α->Bool}{l:List α}{k:Nat}(h:k<l.length)(a:(l.take k).all p=true):(p l[k]! =true->(l.take (k+1)).all p=true)/\(p l[k]! =false->l.all p=false):=by
 have e:=Hy l k h;refine⟨λq=>?_,λq=>?_⟩;·rw[sd,Hk h,List.all_append,a,<-e];grind
 grind
def Cl.sz(c:Cl):Bool:=fU c.w&&fU c.t
def Pl.bounded(p:Pl):Bool:=decide (p.defs.length<=64/\p.cls.length<=400/\p.tabs.length<=16)&&p.cls.all Cl.sz&&p.tabs.all Tb.v
def Ik(e:Ex){H:ab}{K:CR->Prop}:ac VS 36 [.ag [.i .u8 e.op,.s e.name,.i .u8 e.v.k,.b e.v.f.s,e.v.f.x,.b e.v.f.t,e.v.f.y,.i .i64 e.v.i,e.sl]] H K↔K (.ret (.b (fU e)) H):=by have:=(ayL e).c (H:=H) (K:=K) SM rfl (by simp[e.pl]) (.inl rfl);grind[Ex.d,Ex.row_eq]
def ao5(t:Tb){H:ab}{K:CR->Prop}:ac VS 47 [.ag [.s t.name,.b t.two,t.x]] H K↔K (.ret (.b t.v) H):=by have:=(B8 t).c (H:=H) (K:=K) yo rfl (by simp[t.pl]) (.inl rfl);grind[Tb.c]
def Il(p:Pl)(Y:p.defs.length<1000000000000)(Z:p.tabs.length<1000000000000)(h3:p.cls.length<1000000000000):ai VS 22 [p.d] (.b p.bounded):=by
 have n:=λ{H}=>p.hd.n (H:=H);have t:=λ{H}=>p.ht.n (H:=H);have v:=λ{H}=>p.hc.n (H:=H);refine .body (vf:=DB) BI rfl ?_;unfold Pl.d;by_cases W:p.defs.length<=64/\p.cls.length<=400/\p.tabs.length<=16
 ·have g:¬(p.defs.length:Int)>64:=by omega
  have o:¬(p.cls.length:Int)>400:=by omega
  have c3:¬(p.tabs.length:Int)>16:=by omega
  simp(disch:=omega)only[go_sem,simprocAttr,DC,n,t,v,g,o,c3];have w:=λ{V dr os keep y z Q A H B k C}=>p.hc.q (V:=V) (dr:=dr) (os:=os) (keep:=keep) (loc:=y) (sl:=z) (Q:=Q) (sl':=A) (H:=H) (H':=B) (k:=k) (x:=C);have ab:=λb=>p.hc.under b;have L:=λ{V dr os keep y z Q A H B k C}=>p.ht.q (V:=V) (dr:=dr) (os:=os) (keep:=keep) (loc:=y) (sl:=z) (Q:=Q) (sl':=A) (H:=H) (H':=B) (k:=k) (x:=C);have ac:=λb=>p.ht.under b;have E:p.bounded=(p.cls.all Cl.sz&&p.tabs.all Tb.v):=by grind[Pl.bounded]
  rw[E];refine ak.up (λk s=>(p.cls.take k).all Cl.sz=true/\∃h j l,s=⟨[.ag [.s p.name,p.dD,p.tD,p.cD],.b false,.b false,h,j,.u,.u,.bx [.s p.name,p.dD,p.tD,p.cD],.i .i64 (k:Int),.i .i64 (p.cls.length:Int),p.cD,l,.u,.u,.u,.u],[]⟩) p.cls.length ⟨by simp,_,_,_,rfl⟩ ?_;rintro k s X⟨F,h,j,l,rfl⟩;by_cases M:k<p.cls.length
  ·have d1:(k:Int)<(p.cls.length:Int):=by omega
   have d0:(0:Int)<=(k:Int):=by omega
   have G:IntKind.i64.wrap ((k:Int)+1)=((k+1:Nat):Int):=by rw[wr (by omega) (by omega)];omega
   obtain⟨e,d⟩:∃e,e=p.cls[k]!:=⟨_,rfl⟩;have f:=V6 (p:=Cl.sz) M F;rw[<-d]at f
   have a:=λ{H K}=>Ik e.w (H:=H) (K:=K);have q:=λ{H K}=>Ik e.t (H:=H) (K:=K);cases c:fU e.w with|false=>
    have m:Cl.sz e=false:=by unfold Cl.sz;rw[c];rfl
    rw[c]at a;rw[f.2 m]
    simp(disch:=omega) only[go_sem,simprocAttr,DA,d1,d0,w,dA, <- d,Cl.row,Ex.row_eq,U3,bN,a,AAF]|true=>cases r:fU e.t with|false=>
   have m:Cl.sz e=false:=by unfold Cl.sz;rw[c,r];rfl
   rw[c]at a;rw[r]at q;rw[f.2 m];simp(disch:=omega)only[go_sem,simprocAttr,DA,d1,d0,w,dA,<-d,Cl.row,Ex.row_eq,U3,bN,a,q,AAF]|true=>
   have m:Cl.sz e=true:=by unfold Cl.sz;rw[c,r];rfl
   rw[c]at a;rw[r]at q;simp(disch:=omega)only[go_sem,simprocAttr,DA,d1,d0,w,dA,<-d,Cl.row,Ex.row_eq,U3,bN,a,q,G];exact⟨M,f.1 m⟩
  have d1:¬(k:Int)<(p.cls.length:Int):=by omega
  have I:k=p.cls.length:=by omega
  subst I;rw[o5]at F;rw[F,wy];simp(disch:=omega)only[go_sem,simprocAttr,DA,d1,t];refine ak.up (λk s=>(p.tabs.take k).all Tb.v=true/\∃h j N P l S,s=⟨[.ag [.s p.name,p.dD,p.tD,p.cD],.b false,.b false,h,j,N,P,.bx [.s p.name,p.dD,p.tD,p.cD],.i .i64 (p.cls.length:Int),.i .i64 (p.cls.length:Int),p.cD,l,.i .i64 (k:Int),.i .i64 (p.tabs.length:Int),p.tD,S],[]⟩) p.tabs.length ⟨by simp,_,_,_,_,_,_,rfl⟩ ?_;rintro k s X⟨J,h,j,N,P,l,S,rfl⟩;by_cases U:k<p.tabs.length
  ·have d2:(k:Int)<(p.tabs.length:Int):=by omega
   have d0:(0:Int)<=(k:Int):=by omega
   have G:IntKind.i64.wrap ((k:Int)+1)=((k+1:Nat):Int):=by rw[wr (by omega) (by omega)];omega
   obtain⟨e,d⟩:∃e,e=p.tabs[k]!:=⟨_,rfl⟩;have f:=V6 (p:=Tb.v) U J;rw[<-d]at f;have a:=λ{H K}=>ao5 e (H:=H) (K:=K);cases c:e.v with|false=>rw[c]at a;rw[f.2 c];simp(disch:=omega)only[go_sem,simprocAttr,JR,d2,d0,L,dA,<-d,Tb.c,a]|true=>rw[c]at a;simp(disch:=omega)only[go_sem,simprocAttr,JR,d2,d0,L,dA,<-d,Tb.c,a,G];exact⟨U,f.1 c⟩
  have d2:¬(k:Int)<(p.tabs.length:Int):=by omega
  have I:k=p.tabs.length:=by omega
  subst I;rw[o5]at J;rw[J];simp(disch:=omega)only[go_sem,simprocAttr,JR,d2]
 have E:p.bounded=false:=by unfold Pl.bounded;rw[N2 W];rfl
 rw[E];by_cases g:(p.defs.length:Int)>64;·simp(disch:=omega)only[go_sem,simprocAttr,DC,n,g]
 by_cases o:(p.cls.length:Int)>400;·simp(disch:=omega)only[go_sem,simprocAttr,DC,n,v,g,o]
 have c3:(p.tabs.length:Int)>16:=by omega
 simp(disch:=omega)only[go_sem,simprocAttr,DC,n,t,v,g,o,c3]
end
section
open Go.Dm
set_option maxRecDepth 10000
def ao6:∀e:Ex,∀d p,(kq e d p).1=true->(kq e d p).2=p+e.en.size:=by
 refine Ex.ind' λe c d p h=>?_;rw[EF]at h⊢;split at h;·cases h
 rename_i b;rw[E1 b,EN.size_eq,e.en_args];have:∀l,(∀a∈l,a∈e.args)->∀q,(jz l (d+1) q).1=true->(jz l (d+1) q).2=q+db (l.map Ex.en):=by intro l;induction l<;>grind[jz,kq,db]
 grind
theorem V7{e:Ex}(h:fU e=true):e.en.size<=200:=by have a:=ao6 e 1 0 h;have b:=acI e 1 0 (by decide) h;omega
theorem Cp{m:List (Nm×Nat)}{k a:Nm}{v:Nat}:f9 (aS k v m) a=if a=k then v else f9 m a:=by grind[f9,sf]
def Im{k:Nm}:∀{l:List Fc}{m a:List (Nm×Nat)},f9 m k=f9 a k->gX l m=true->gX (l.filter λf=>decide (f.key=k)) a=true
 |[],_,_,_,_=>rfl|f::l,m,a,d,h=>by
  unfold gX at h;split at h;·cases h
  rename_i b;by_cases e:f.key=k
  ·rw[AAp (by grind)];unfold gX;have c:nB a f=nB m f:=by grind[nB]
   rw[c,E1 b];refine Im ?_ h;grind[oQ,Cp]
  rw[AAq (by grind)];refine Im ?_ h;grind[oQ,Cp]
def V8{l:List Fc}:∀{g:List (Nm×List Fc)}{k:Nm},(aA k (l.foldl nD g)).getD []=(aA k g).getD []++l.filter λf=>decide (f.key=k):=by induction l<;>grind[aA,nD,sf]
def V9{κ β:Type}[DecidableEq κ]{k:κ}{v:β}:∀{m:List (κ×β)},(m.map Prod.fst).Nodup->((aS k v m).map Prod.fst).Nodup/\∀x,x∈(aS k v m).map Prod.fst↔x=k\/x∈m.map Prod.fst
 |[],_=>by simp[aS]|(a,b)::m,h=>by
  unfold aS;simp only[kb,AAI]at h;by_cases e:k=a;·grind
  obtain⟨c,d⟩:=V9 (k:=k) (v:=v) h.2;grind
def Wa{κ β:Type}[DecidableEq κ]{k:κ}{v:β}:∀{m:List (κ×β)},(m.map Prod.fst).Nodup->(k,v)∈m->aA k m=some v
 |(a,b)::m,h,c=>by
  simp only[kb,AAI]at h;rcases S2.1 c with e|c;·grind[yT]
  have:k≠a:=λe=>h.1 (e▸od c);rw[yU this];exact Wa h.2 c
def ao7{l:List Fc}:∀{g:List (Nm×List Fc)},(g.map Prod.fst).Nodup->((l.foldl nD g).map Prod.fst).Nodup:=by induction l with|nil=>grind|cons f l a=>intro g h;exact a (V9 h).1
def ao8{l:List Fc}:∀{g:List (Nm×List Fc)},(∀q∈g,q.2≠[])->∀q∈l.foldl nD g,q.2≠[]:=by induction l with|nil=>grind|cons f l b=>
 intro g h;refine b λq a=>?_;obtain⟨k,v⟩:=q;rcases qM a with⟨_,rfl⟩|a;·simp
 grind
def ao9{l:List Fc}{k:Nm}{v:List Fc}(h:(k,v)∈nE l):v=l.filter (λf=>decide (f.key=k))/\v≠[]:=by have a:=Wa (ao7 (g:=[]) ACP) h;have b:=V8 (l:=l) (g:=[]) (k:=k);refine⟨by grind[aA],ao8 (λ_ h=>by cases h) _ h⟩
def Wb{l:List Tb}:∀{m:List (Nm×Tb)},∀q∈l.foldl kR m,q∈m\/(q.2∈l/\q.2.name=q.1):=by induction l<;>grind[kR,qM]
def Wc{w:Nat}{rows:List (List D)}{x:D}(h:Sl w rows x):fK x=true:=by cases h<;>rfl
def kT(p:Pl)(l:List Fc)(a:Int)(k:Nm):(p.bw l a).vw k=iD (cZ (l.map Fc.n) k a):=by
 have c:=V8 (l:=l) (g:=[]) (k:=k);have b:cZ (l.map Fc.n) k a=cZ ((l.filter λf=>decide (f.key=k)).map Fc.n) k a:=by unfold cZ;congr 1;rw[vn,vn,AAu];congr 1;refine ABK λf _=>?_;grind[Fc.n]
 show(match aA k (nE l)with|some l=>iD (cZ _ k a)|none=>[])=_;rw[b];unfold nE;cases d:aA k _ with
 |none=>
 have:l.filter (λf=>decide (f.key=k))=[]:=by simp_all
 rw[this];rfl|some v=>grind[aA]
def We(p:Pl){l:List Fc}{d:Int}(a:p.bounded=true)(e:l.length<40)(hr:dP l=true)(g:d<=9223372036854775807):(p.bw l d).ok:=by
 unfold Pl.bounded at a;simp only[D0,Hq]at a;have i:=TB.1 a.2;refine⟨λq b=>?_,λq b=>?_,p.hc,by show p.cls.length<1000000;omega,⟨Wc p.hd,Wc p.ht⟩,⟨p.hd.flat,p.ht.flat⟩,g⟩;·obtain⟨k,v⟩:=q;obtain⟨rfl,c⟩:=ao9 (b);refine⟨c,kx (n4 _ _) e,?_⟩;unfold dP at hr⊢;simp only[D0,Hq]at hr⊢;refine⟨⟨dG (n4 _ _) hr.1.1,?_⟩,Im rfl hr.2⟩;rw[TB];intro f j;exact TB.1 hr.1.2 f (qo.1 j).1
 rcases Wb q b with h|⟨m,c⟩;·cases h
 exact⟨i _ m,c⟩
def apa{l:List (Nat×eK)}{n:Nat}(h:∀p∈l,p.2.when.size<=n):dZ l<=l.length*n:=by induction l with|nil=>simp[dZ]|cons p l a=>have b:=a λq c=>h q (M0 _ c);have d:=h p N1;unfold dZ at b⊢;simp only[kb,List.sum_cons,fA,k6];omega
def Cq(p:Pl){O:bB}(j:vZ O){l:List Fc}{a:Int}(e:p.bounded=true)(k:l.length<40)(hr:dP l=true)(m:a<=9223372036854775807)(n:∀c∈p.cls,bA (λ_=>True) c.w/\bA (λ_=>True) c.t):Cx O (p.bw l a) 100000 (λ_=>True):=by
 have f:=e;unfold Pl.bounded at f;simp only[D0,Hq]at f;have g:∀c:Nat,(p.cls[c]!).w.en.size<=200/\(p.cls[c]!).t.en.size<=200:=λc=>by
  by_cases h:c<p.cls.length;·grind[Cl.sz,V7]
  rw[getElem!_neg p.cls c h];exact⟨by decide,by decide⟩
 refine⟨We p e k hr m,λs _ o=>aoz j o,λb d c=>?_,by decide,n⟩;have u:dZ _<=((p.bw l a).wd.cl b d).length*200:=apa λq r=>by obtain⟨i,_,rfl⟩:=fT.1 r;exact(g i).1
 have v:((p.bw l a).wd.cl b d).length<=400:=by show(((p.bw l a).infr b d).map _).length<=400;unfold BW.infr;rw[T3,T3];show(fJ (p.cls.map _) b d a).length<=400;grind[fJ,oW,If]
 have x:((p.bw l a).wd.clause c).thn.size<=200:=(g c).2;omega
end
section
open Go.Dm
set_option maxRecDepth 10000
def dW(p:Pl)(l:List Fc)(d:Int):Bool:=decide (0<=d/\d<65536)&&p.bounded&&dP l
def In(p:Pl){l:List Fc}{x:D}(j:Sl 11 (l.map Fc.c) x){d known:Int}(r:p.defs.length<1000000)(s:p.tabs.length<1000000)(y:l.length<40)(z:p.cls.length<1000000){Fr:List (Nat×an)}{H:ab}(h:Hs H Fr){K:CR->Prop}(n:dW p l d=false->K (.ret (.tu [.np,.i .i64 2]) H))(k:dW p l d=true->∀(I:bU)(a:ab),EV I (p.bw l known) af.nil Fr a->K (.ret (.tu [.hp I.v 0,.i .i64 0]) a)):ac VS 29 [p.d,x,.i .i64 d,.i .i64 known] H K:=by
 have b:=λ{H K}=>(Il p (by omega) (by omega) (by omega)).c (H:=H) (K:=K) BI rfl (by simp[p.pl]) (.inl rfl);have m:=λ{H K}=>(Vm j (by omega)).c (H:=H) (K:=K) GK rfl (by simp[j.pl]) (.inl rfl);have o:=λ{K}=>ao4 p j (known:=known) r s (by omega) h (K:=K);refine .body akN rfl rfl ?_;unfold Pl.d at b o⊢;unfold dW at n k;by_cases e:d<0;·simp[go_sem,zt,e];grind
 by_cases f:d>=65536;·simp[go_sem,zt,e,f];grind
 cases t:p.bounded with|false=>simp[go_sem,zt,e,f,b];grind|true=>rw[t]at b n k;cases hr:dP l with|false=>simp[go_sem,zt,e,f,b,m];grind|true=>
 rw[hr]at m k;simp[go_sem,zt,e,f,b,m];refine o λI g a u v=>?_;obtain⟨J,w⟩:∃J:bU,J=⟨a.length+4,a.length,a.length+1,a.length+2,a.length+3,I.b,I.kd,I.fm,I.vm,I.tm,I.rm⟩:=⟨_,rfl⟩;have A:EV J (p.bw l known) af.nil Fr (a++[.mp [],.mp [],.mp [],.mp [],.hb 101 [.hp I.b 0,.mp a.length,.mp (a.length+1),.mp (a.length+2),.mp (a.length+3),.nil,.nil,.nil]]):=by refine⟨⟨.nil,.nil,.nil,[],[],[],[],[],[],g⟩,⟨?_,.nil,.nil,.nil,rfl,λ_ h=>(by cases h),u,λ_ _ h=>(by cases h),λ_ _ h=>(by cases h)⟩⟩;have q:=((((v.hs.new (x:=.mp [])).new (x:=.mp [])).new (x:=.mp [])).new (x:=.mp [])).new (x:=.hb 101 [.hp I.b 0,.mp a.length,.mp (a.length+1),.mp (a.length+2),.mp (a.length+3),.nil,.nil,.nil]);simp only[gC,U3,bN,N3,fA,lA]at q;rw[w];exact q.perm (.cons _ ((List.reverse_perm [(a.length,an.mp []),(a.length+1,an.mp []),(a.length+2,an.mp []),(a.length+3,an.mp [])]).append_right _))
 simp[go_sem,simprocAttr];grind
section
variable{O:bB}{I:bU}{B:BW}{K:Int}{Al:Nat->Prop}{M:af}{Fr:List (Nat×an)}{H:ab}{nm:Nm}{d:Int}
variable{x:List (Nat×an)}
def EV.perm(h:EV I B M Fr H)(p:Fr.Perm x):EV I B M x H:=by obtain⟨S,h⟩:=h.h;refine⟨S,{h with hs:=h.hs.perm ?_}⟩;exact((((p.append_left _).append_left _).append_left _).append_left _).append_left _
def EV.set2{i j:Nat}{x y y':an}(h:EV I B M ((j,x)::(i,y)::Fr) H):EV I B M ((j,x)::(i,y')::Fr) (H.set i y'):=(EV.set (h.perm (.swap _ _ _))).perm (.swap _ _ _)
def apb(n:Cx O B K Al)(o:0<=d/\d<65536){a b c:Nat}(p:H[a]?=some (.hb 88 [.hp I.v 0]))(q:H[b]?=some (.hb 9 [.s nm]))(t:H[c]?=some (.hb 3 [.i .i64 d]))(h:EV I B af.nil Fr H):ac VS 31 [.hp a 0,.hp b 0,.hp c 0] H (eG I B Fr (aN (bk O B.wd) (.pair nm d) af.nil)):=by
 have u:=aoY (nm:=nm) n o h;refine .body akP rfl rfl ?_;simp[go_sem,auH,p,q,t];refine u.mono λr hr=>?_;rcases hr.h with⟨z,f,g,rfl,j,⟨l,_⟩,k⟩|⟨e,f,g,rfl,⟨l,_⟩,k⟩;·obtain⟨d,v,w⟩:=acS j;have m:=λ{H K}=>v.c (H:=H) (K:=K) GI rfl (by simp[j.pl]) (.inl rfl);obtain⟨x,A,rfl,y⟩:=w.av j.o;simp[AV.c]at m⊢;simp[go_sem,m];exact⟨.inl ⟨x,f,g,rfl,y,by grind,k⟩⟩
 exact⟨.inr ⟨e,f,g,rfl,l,k⟩⟩
def LR.im{w:Nat}{x:D}{rows:List (List D)}{L:List (Nat×an)}(h:LR w x rows L)(hs:∀p∈L,H[p.1]?=some p.2):∃b,(∀m,Dm.bS (m+1) H x=some (cO w rows,b))/\∀i,(∀p∈L,p.1≠i)->b[i]?=H[i]?:=by cases h with|nil=>exact⟨H,λm=>rfl,λi _=>rfl⟩|mu a rows d=>have c:=hs _ N1;refine⟨H.set a (.ar w rows none true true),λm=>?_,λi hi=>K0 (hi _ N1)⟩;cases rows with|nil=>grind|cons r e=>simp[go_sem,c,cO]
def bv.reads{S:ES}(h:bv I B M S Fr H):∃c d f,(∀m,Dm.bS (m+1) H S.P=some (cO 2 (M.pairs.map i5),c))/\(∀m,Dm.bS (m+1) c S.F=some (cO 3 (M.facts.map iA),d))/\(∀m,Dm.bS (m+1) d S.T=some (cO 1 (M.tabs.map nC),f)):=by
 have hs:Hs H (S.aP++(S.aF++S.aT)):=by refine h.hs.sub ?_;grind
 have e:=hs.nd;simp[eH]at e;have g:=(AAH.1 e).2.2;have j:=(AAH.1 (AAH.1 e).2.1).2.2;obtain⟨c,l,i⟩:=h.p.im λp a=>hs.at_ p (T4 _ a);obtain⟨d,n,k⟩:=h.f.im λp a=>by rw[i p.1 λq b=>g _ (od b) _ (T4 _ (od a))];exact hs.at_ p (gA _ (T4 _ a))
 obtain⟨f,o,r⟩:=h.t.im λp a=>by rw[k p.1 λq b=>j _ (od b) _ (od a),i p.1 λq b=>g _ (od b) _ (gA _ (od a))];exact hs.at_ p (gA _ (gA _ a))
 simp_all
def jp(M:af):D:=.ag [cO 2 (M.pairs.map i5),cO 3 (M.facts.map iA),cO 1 (M.tabs.map nC)]
structure TrR(O:bB)(p:Pl)(l:List Fc)(nm:Nm)(d known:Int)(r:PR):Prop where n:dW p l d=false->r=.ret (.tu [ls,.ag [.nil,.nil,.nil],.i .i64 2])y:dW p l d=true->(∃v y M',aN (bk O (p.bw l known).wd) (.pair nm d) af.nil (.ok v) M'/\VD v y/\v.ok/\r=.ret (.tu [y,jp M',.i .i64 0]))\/(∃e M',aN (bk O (p.bw l known).wd) (.pair nm d) af.nil (.er e) M'/\r=.ret (.tu [ls,jp M',.i .i64 e]))
end
end
section
open Go.Dm
set_option maxRecDepth 10000
structure Pl.few(p:Pl)(l:List Fc)(known:Int):Prop where
 d:p.defs.length<1000000
 t:p.tabs.length<1000000
 c:p.cls.length<1000000
 f:l.length<40
 k:known<=9223372036854775807
 x:∀c∈p.cls,bA (λ_=>True) c.w/\bA (λ_=>True) c.t
def apd(p:Pl){O:bB}(C:vZ O){l:List Fc}{x:D}(E:Sl 11 (l.map Fc.c) x){nm:Nm}{d n:Int}(b:p.few l n):aH VS 9 [p.d,x,.s nm,.i .i64 d,.i .i64 n] (TrR O p l nm d n):=by
 have F:Hs [an.hb 9 [D.s nm],.hb 3 [.i .i64 d]] [(1,.hb 3 [.i .i64 d]),(0,.hb 9 [.s nm])]:=by grind[Hs]
 have A:=λ{K}=>In p E (d:=d) (known:=n) b.d b.t b.f b.c F (K:=K);refine .body vG rfl ?_;unfold Pl.d at A⊢;simp[go_sem,cd9];refine A (λhn=>?_) (λB I G H=>?_);·simp[go_sem,simprocAttr];exact⟨λ_=>rfl,λh=>by grind⟩
 have J:0<=d/\d<65536:=by grind[dW]
 have L:p.bounded=true:=by grind[dW]
 have hr:dP l=true:=by grind[dW]
 have M:=Cq p C L b.f hr b.k b.x;have N:=H.new (x:=.hb 88 [.hp I.v 0]);have g:=(N.new (x:=.hb 36 cr)).new (x:=.hb 54 [.i .i64 0]);simp only[go_sem];refine acQ (by decide) ?_;simp only[gC,U3,bN,N3,fA,lA]at g⊢;obtain⟨q,P⟩:∃q,q=G.length:=⟨_,rfl⟩;rw[<-P]at g⊢;have Q:=g.drop.drop.fr;have g1:=g.drop.drop.drop.drop.fr;have g0:=g.drop.drop.drop.fr;refine(apb M J Q g1 g0 g).mono λr hr=>?_;rcases hr.h with⟨a,t,u,rfl,o,v,c⟩|⟨e,t,u,rfl,v,c⟩;·refine⟨a,rfl,o,c.drop.fr,c.fr,?_⟩;have f:=(EV.set2 (y':=.hb 36 a.c) c).set (y:=.hb 54 [.i .i64 0]);generalize(u.set _ _).set _ _=U at f⊢;have j:=f.drop.drop.fr;obtain⟨S,k⟩:=f.h;have m:=k.hv;have w:=ay j;have z:=ay m;obtain⟨V,W,X,Y⟩:=o.fl;simp[AV.c];simp[go_sem,j,m];obtain⟨Z,G2,G3,r1,r2,r3⟩:=k.reads;simp[go_sem,ah V,ah W,ah X,ah Y,r1,r2,r3];exact⟨w,z,λh=>(by rw[B]at h;cases h),λ_=>.inl ⟨a.v,_,t,v,o.d,o.o,rfl⟩⟩
 refine⟨e,rfl,c.drop.fr,c.fr,?_⟩;have f:=(EV.set2 (y':=.hb 36 cr) c).set (y:=.hb 54 [.i .i64 e]);generalize(u.set _ _).set _ _=U at f⊢;have j:=f.drop.drop.fr;obtain⟨S,k⟩:=f.h;have m:=k.hv;have w:=ay j;have z:=ay m;obtain⟨Z,G2,G3,r1,r2,r3⟩:=k.reads;unfold ls cr;simp[go_sem,j,m];simp[go_sem,r1,r2,r3];exact⟨w,z,λh=>(by rw[B]at h;cases h),λ_=>.inr ⟨e,t,v,rfl⟩⟩
end
section
open Go.Dm
set_option maxRecDepth 10000
def apm{l:List (Int×Int)}{K:CR->Prop}(d:l.length<1000000):ac VS 294 [bD [] .nil (l.map bR),.fn (.func 295) [] []] (bH [] 2 (l.map bR)) K↔K (.ret (.tu []) (bH [] 2 ((lg l).map bR))):=by have f:=(Er l).length_eq;cases l with|nil=>have e:=ABd f;rw[e];exact ac.beside (by kernel_rfl) (by decide) rfl|cons a l=>
 refine ac.beside (by kernel_rfl) (by decide) ?_;have c:=aca (a::l);simp[kb]at c;have:lg (a::l)≠[]:=λe=>by grind
 obtain⟨b,m,g⟩:=ABs this;simp[fA]at d;simp[VS,Vx,q9,bD,bH,Eq,Dm.aO,c,g];omega
def Cr(s:List (Int×Int))(x:Int×Int):List (Int×Int):=if 0<s.length/\x.1<=s[s.length-1]!.2 then s.set (s.length-1) (s[s.length-1]!.1,max s[s.length-1]!.2 x.2)else s++[x]
def kU(l:List (Int×Int))(i:Nat):List (Int×Int):=(l.take i).foldl Cr []
def Wf{l:List (Int×Int)}{i:Nat}(hi:i<l.length):kU l (i+1)=Cr (kU l i) l[i]!:=by unfold kU;rw[fD hi,AAx,Hy l i hi];rfl
def Io{l:List (Int×Int)}:∀{i:Nat},i<=l.length->(kU l i).length<=i|0,_=>by simp[kU]|i+1,h=>by rw[Wf (by omega)];have:=Io (l:=l) (i:=i) (by omega);grind[Cr]
def we(l:List (Int×Int)):List (Int×Int):=kU (lg l) l.length
def Ip{l:List (Int×Int)}{a b:Int}:l.map bR++[[.i .i64 a,.i .i64 b]]=(l++[(a,b)]).map bR:=by simp[bR]
theorem Wg{l:List (Int×Int)}{i:Nat}{a b:Int}:(l.map bR).set i [.i .i64 a,.i .i64 b]=(l.set i (a,b)).map bR:=by rw[AAS];rfl
def apn{l:List (Int×Int)}{d:D}(h:Sl 2 (l.map bR) d)(M:l.length<1000000)(N:∀s∈l,0<=s.1/\s.1<s.2/\s.2<=65536):∃q,ai VS 277 [d] (.tu [q,.i .i64 0])/\Sl 2 ((we l).map bR) q:=by
 suffices h:∃r,ai VS 277 [d] r/\∃q,r=.tu [q,.i .i64 0]/\Sl 2 ((we l).map bR) q by grind
 have hs:=λ{K:CR->Prop}=>apm (K:=K) M;refine aH.ex (.body Un rfl ?_);simp[go_sem,awB,h.n];refine ak.up (λi s=>∃e f g j k m z A B C n o,s=⟨[d,.nil,.i .i64 0,e,f,g,j,k,bD [] .nil ((l.take i).map bR),.i .i64 i,.i .i64 _,d,m,z,A,B,C,n,o],bH [] 2 ((l.take i).map bR)⟩) l.length ⟨.u,.u,.u,.u,.u,.u,.u,.u,.u,.u,.u,.u,rfl⟩ ?_;rintro i s hi⟨e,f,g,j,k,m,z,A,B,C,n,o,rfl⟩;by_cases E:i<l.length
 ·have F:(i:Int)<(l.length:Int):=by omega
  have c:=N l[i]! (by grind);have a:l.take (i+1)=l.take i++[l[i]!]:=by simp_all
  have X:(l.take i).length<=i:=by grind
  obtain⟨x,G⟩:∃x,x=l[i]!:=⟨_,rfl⟩;rw[<-G]at c a;have P:IntKind.i64.wrap (i+1)=((i+1:Nat)):=by grind[wr]
  have Q:∀{H K},ac VS 293 [.ag [.i .i64 x.1,.i .i64 x.2]] H K↔K (.ret (.b true) H):=λ{H K}=>by refine ai.c (.body Uu rfl ?_) Uu rfl rfl (.inl rfl);simp[go_sem,simprocAttr,awP,c.1,c.2,ABb c.2.1]
  simp(disch:=omega)only[go_sem,simprocAttr,abs,h.q,<-G,bR,F,Q,c.2.1,m9,a,Ip,P];omega
 have F:¬(i:Int)<l.length:=by omega
 have v:i=l.length:=by omega
 subst v;have I:=(Er l).length_eq;have U:bD [] .nil (l.map bR)=bD [] .nil ((lg l).map bR):=vD (by grind);rw[o5];simp[go_sem,abs,hs];unfold we;rw[U,<-I];generalize lg l=S at I⊢;by_cases J:S=[];·subst J;rw[bJ];simp only[go_sem,simprocAttr,zJ,bD];exact⟨_,rfl,.nil rfl⟩
 obtain⟨V,W⟩:=mo (H0:=[]) (w:=2) (enc:=bR) J;rw[V,W];refine ak.up (λi s=>∃e f g j k m n o,s=⟨[d,.nil,.i .i64 0,e,f,g,j,k,.mu 0 _ 0 _,.i .i64 _,.i .i64 _,d,m,bD [.ar 2 (S.map bR) none true false] .nil ((kU S i).map bR),.i .i64 i,.i .i64 _,.mu 0 _ 0 _,n,o],bH [.ar 2 _ none true false] 2 ((kU S i).map bR)⟩) S.length ⟨_,_,_,_,_,_,_,_,rfl⟩ ?_;rintro i s hi⟨e,f,g,j,k,m,n,o,rfl⟩;have c:=Io hi;by_cases E:i<S.length
 ·have p:(i:Int)<(S.length:Int):=by omega
  have a:=Wf E;unfold Cr at a;by_cases y:0<(kU S i).length
  ·have t:(0:Int)<((kU S i).length:Int):=by omega
   by_cases L:S[i]!.1<=(kU S i)[(kU S i).length-1]!.2;·simp(disch:=omega)only[go_sem,simprocAttr,zJ,bR,p,t,wr,a,y,L];grind[vD,Wg]
   simp(disch:=omega)only[go_sem,simprocAttr,zJ,bR,p,t,wr,a,y,L,m9,Ip];omega
  rw[E1 (λh=>y h.1)]at a;have t:¬(0:Int)<((kU S i).length:Int):=by omega
  simp(disch:=omega)only[go_sem,simprocAttr,zJ,bR,p,t,wr,a,m9,Ip];omega
 have p:¬(i:Int)<S.length:=by omega
 have v:i=S.length:=by omega
 subst v;simp only[go_sem,zJ,p];exact⟨_,rfl,oH rfl _ _⟩
end
section
open Go.Dm
set_option maxRecDepth 10000
def jq(p:Nat->Bool):Nat->Nat->Nat->Nat|0,i,_=>i|m+1,i,j=>if i<j then(if p ((i+j)/2)=true then jq p m i ((i+j)/2)else jq p m ((i+j)/2+1) j)else i
def gY(n:Nat)(p:Nat->Bool):Nat:=jq p n 0 n
def Iq{n g:Nat}{cp:List D}{p:Nat->Bool}{H:ab}(C:n<4611686018427387904)(v:g<4294967295)(w:∀i,i<n->∀{K:CR->Prop},ac VS g (.i .i64 (i:Int)::cp) H K↔K (.ret (.b (p i)) H)){K:CR->Prop}:ac VS 111 [.i .i64 (n:Int),.fn (.func g) [] cp] H K↔K (.ret (.i .i64 (gY n p:Int)) H):=by
 refine dO (cz.iff_q.2 (.body Te rfl rfl ?_));simp[go_sem,Z1];refine ak.loop (λm s=>∃i j:Nat,∃d e f,j<=m+i/\j<=n/\jq p m i j=gY n p/\s=⟨[.i .i64 _,.fn _ [] cp,.i .i64 0,d,e,.i .i64 i,.i .i64 j,f],H⟩) n ⟨0,n,.u,.u,.u,by omega,by omega,rfl,rfl⟩ ?_;rintro m s⟨i,j,d,e,f,E,F,l,rfl⟩;by_cases x:i<j
 ·have c:(i:Int)<j:=by omega
  obtain⟨h,o⟩:∃h,h=(i+j)/2:=⟨_,rfl⟩;have q:IntKind.i64.wrap (i+j)=((i+j:Nat)):=by grind[wr]
  have r:IntKind.wrap .u64 _=((i+j:Nat)):=bW (by omega);obtain⟨k,rfl⟩:∃k,m=k+1:=⟨m-1,by omega⟩;unfold jq at l;obtain⟨S,y⟩:∃S,S=i+j:=⟨_,rfl⟩;rw[<-y]at q r o;have t:bin .shr _ (.i .u64 1)=some (.i .u64 ((S/2:Nat))):=ff (by decide);rw[<-o]at t;have z:IntKind.i64.wrap _=h:=wr (by omega) (by omega);have G:IntKind.i64.wrap (h+1)=((h+1:Nat)):=by grind[wr]
  have A:=λ{K:CR->Prop}=>w h (by omega) (K:=K);have B:=λ{args H K}=>iu (V:=VS) (H:=H) (args:=args) (K:=K) (a:=[]) (b:=cp) v;simp[go_sem,DK,c,q,r,z,t,B,A];grind
 have c:¬(i:Int)<j:=by omega
 have:i=gY n p:=by rw[<-l];cases m<;>simp[jq,x]
 simp[go_sem,DK,c];omega
def Ir{p:Nat->Bool}{n:Nat}:∀{m i j:Nat},j<=m+i->j<=n->i<=j->(j<n->p j=true)->(0<i->p (i-1)=false)->jq p m i j<=n/\(jq p m i j<n->p (jq p m i j)=true)/\(0<jq p m i j->p (jq p m i j-1)=false)
 |0,i,j,f,a,g,b,d=>by
  have:i=j:=by omega
  subst this;exact⟨a,b,d⟩|m+1,i,j,f,a,g,b,d=>by
  unfold jq;by_cases c:i<j
  ·rw[E4 c];split;·rename_i e;exact Ir (by omega) (by omega) (by omega) (λ_=>e) d
   rename_i e;exact Ir (by omega) a (by omega) b (λ_=>by grind)
  grind
def Wi{n:Nat}{p:Nat->Bool}:gY n p<=n/\(gY n p<n->p (gY n p)=true)/\(0<gY n p->p (gY n p-1)=false):=Ir (by omega) (G1 _) (AAg _) (λh=>absurd h (AA8 _)) (λh=>absurd h (AA8 _))
def Wj(s:aD):Int×Int:=(s.frm,s.to)
def kV(l:List aD):List (Int×Int):=we (l.map Wj)
def Cs:∀{l:List aD},cK l=true->∀s∈l,fR s=true
 |[],_,s,hs=>by cases hs|[t],h,s,hs=>by rw[eD.1 hs];exact h|t::u::l,h,s,hs=>by
  have a:(fR t&&ge t u&&cK _)=true:=h;simp[D0]at a;rcases S2.1 hs with rfl|hs;·grind
  exact Cs a.2 s hs
def apo{l:List SV}{x:D}(h:Sl 8 (l.map SV.c) x)(A:l.length<1000000)(hr:cK (l.map SV.n)=true):∃q,ai VS 254 [x] q/\Sl 2 ((kV (l.map SV.n)).map bR) q:=by
 have g:=λ{H K}=>(B6 h (by omega)).c (H:=H) (K:=K) yw rfl (by simp[h.pl]) (.inl rfl);rw[hr]at g;have u:∀s∈l.map λs=>(s.frm,s.to),0<=s.1/\s.1<s.2/\s.2<=65536:=λs hs=>by obtain⟨t,a,rfl⟩:=fT.1 hs;exact hO (Cs hr _ (od a))
 have v:kV (l.map SV.n)=we (l.map λs=>(s.frm,s.to)):=by unfold kV;rw[AAi];rfl
 refine aH.ex (.body Uh rfl ?_);simp only[go_sem,awo,h.n,g];refine⟨by omega,ak.up (λi s=>∃b j k m n o,b.length=l.length/\b.take i=(l.take i).map (λs=>(s.frm,s.to))/\s=⟨[x,.nil,j,k,.i .i64 i,.i .i64 l.length,x,.mu 0 l.length 0 l.length,m,n,o],[.ar 2 (b.map bR) (some l.length) true false]⟩) l.length ⟨List.replicate l.length (0,0),_,_,_,_,_,by simp,by simp,by rw[ABk];rfl⟩ ?_⟩;rintro i s hi⟨b,j,k,m,n,o,e,a,rfl⟩;by_cases d:i<l.length
 ·have f:(i:Int)<l.length:=by omega
  obtain⟨z,p⟩:∃z,z=l[i]!:=⟨_,rfl⟩;simp(disch:=omega)only[go_sem,simprocAttr,aa3,f,h.q,<-p,SV.c,wr,e,Wg,bR];refine⟨by omega,by omega,d,d,b.set i _,by grind,?_,rfl⟩;rw[sd,sd,AAn (G1 _),a,eH,K2 (by omega),Hk d,p,Hy l i d];rfl
 have w:i=l.length:=by omega
 subst w;have f:¬(l.length:Int)<l.length:=by omega
 rw[<-e,o5,e,o5]at a;subst a;obtain⟨q,y,r⟩:=apn .im (by omega) u;simp only[go_sem,aa3,f];refine ac.fzr Un rfl rfl y ⟨[.ar 2 ((l.map λs=>(s.frm,s.to)).map bR) (some l.length) true true],?_⟩ λB=>?_;·show aW 12 _ _=_;rw[dM,f7];simp[Dm.aO,gK,E2]
 simp[go_sem,v];exact⟨_,iV r.flat,r⟩
def Ct(set:List (Int×Int))(a b:Int):Bool:=decide (gY set.length (λi=>decide (a<set[i]!.2))<set.length/\set[gY set.length λi=>decide (a<set[i]!.2)]!.1<=a/\b<=set[gY set.length λi=>decide (a<set[i]!.2)]!.2)
def apq{l:List (Int×Int)}{x:D}{d:Int}(a:Sl 2 (l.map bR) x){i p q:Nat}(hi:i<l.length){H:ab}(c:H[p]?=some (.hb 316 [x]))(e:H[q]?=some (.hb 3 [.i .i64 d])){K:CR->Prop}:ac VS 278 [.i .i64 (i:Int),.hp p 0,.hp q 0] H K↔K (.ret (.b (decide (d<l[i]!.2))) H):=by
 have f:(i:Int)<(l.length:Int):=by omega
 have g:=λ{V dr os keep h j Q m H n k o}=>a.q (V:=V) (dr:=dr) (os:=os) (keep:=keep) (loc:=h) (sl:=j) (Q:=Q) (sl':=m) (H:=H) (H':=n) (k:=k) (x:=o);refine dO (cz.iff_q.2 (.body alH rfl rfl ?_));simp only[go_sem,simprocAttr,awC,c,e,g,f,bR];exact⟨ay c,a.under _,by omega,ay e⟩
def apr{l:List (Int×Int)}{x:D}{a b:Int}(c:Sl 2 (l.map bR) x)(o:l.length<1000000000):ai VS 255 [x,.i .i64 a,.i .i64 b] (.b (Ct l a b)):=by
 have hs:=λ{K}=>Iq (g:=278) (cp:=[.hp 0 0,.hp 1 0]) (H:=[.hb 316 [x],.hb 3 [.i .i64 a]]) (K:=K) (by omega) (by decide) (λi hi K=>apq c hi rfl rfl);have e:=c.c1;have h:=λb=>c.under b;refine .body Ui rfl ?_;unfold Ct;obtain⟨k,n⟩:∃k,k=gY l.length λi=>decide (a<l[i]!.2):=⟨_,rfl⟩;rw[<-n]at hs⊢;obtain⟨z,j⟩:∃z,z=l[k]!:=⟨_,rfl⟩;by_cases f:k<l.length
 ·have d:(k:Int)<l.length:=by omega
  by_cases m:z.1<=a;·simp only[go_sem,simprocAttr,Od,e,c.n,c.q,hs,d,m,bR,<-j,h,f];simp
  simp only[go_sem,simprocAttr,Od,e,c.n,c.q,hs,d,m,bR,<-j,h,f];simp
 have d:¬(k:Int)<l.length:=by omega
 simp only[go_sem,simprocAttr,Od,e,c.n,hs,d,f];simp
end
section
open Go.Dm
set_option maxRecDepth 10000
def lM(l:List aD)(a:Int):Nat:=gY l.length λi=>decide (a<l[i]!.to)
def nF(l:List aD)(b:Int):Nat:=gY l.length λi=>decide (b<=l[i]!.frm)
def wg(l:List aD)(a b:Int):EQ:=match wA ((l.drop (lM l a)).take (nF l b-lM l a)) a b with|.error e=>.error e|.ok q=>XJ q (b-a,1)
def Wk:∀{l:List aD}{i:Nat},cK l=true->i+1<l.length->l[i]!.to<=l[i+1]!.frm|[],i,_,h=>by grind|[t],i,_,h=>by grind|t::u::l,i,h,hi=>by have a:(fR t&&ge t u&&cK _)=true:=h;simp[D0]at a;cases i with|zero=>exact(hO a.1.2).1|succ i=>exact Wk (l:=u::l) a.2 (by grind)
def Wl{l:List aD}(h:cK l=true){i:Nat}:∀{j:Nat},i<=j->j<l.length->l[i]!.frm<=l[j]!.frm
 |0,d,_=>by grind|j+1,d,f=>by
  by_cases e:i=j+1;·grind
  have a:=Wl h (show i<=j by omega) (by omega);have b:=Wk h f;have c:=hO (Cs h l[j]! (by grind));omega
def aps{l:List aD}(h:cK l=true){a b:Int}(j:a<b):lM l a<=nF l b/\nF l b<=l.length:=by obtain⟨f,g,d⟩:=Wi (n:=l.length) (p:=λi=>decide (a<l[i]!.to));obtain⟨g1,e,k⟩:=Wi (n:=l.length) (p:=λi=>decide (b<=l[i]!.frm));change lM l a<=_ at f;change _->_=_ at g;change(0<lM l a)->decide (a<l[lM l a-1]!.to)=false at d;change nF l b<=_ at g1;change(nF l b<_)->decide (b<=l[nF l b]!.frm)=true at e;refine⟨ot λm=>?_,g1⟩;have o:=ACb (d (by omega));have q:=hO (e (by omega));have r:=Wl h (show nF l b<=lM l a-1 by omega) (by omega);have c:=hO (Cs h l[lM l a-1]! (by grind));omega
def apt{l:List SV}{x:D}{d:Int}(a:Sl 8 (l.map SV.c) x){i p q:Nat}(hi:i<l.length){H:ab}(c:H[p]?=some (.hb 185 [x]))(e:H[q]?=some (.hb 3 [.i .i64 d])){K:CR->Prop}:ac VS 256 [.i .i64 (i:Int),.hp p 0,.hp q 0] H K↔K (.ret (.b (decide (d<l[i]!.to))) H):=by
 have f:(i:Int)<(l.length:Int):=by omega
 have g:=λ{V dr os keep h j Q m H n k o}=>a.q (V:=V) (dr:=dr) (os:=os) (keep:=keep) (loc:=h) (sl:=j) (Q:=Q) (sl':=m) (H:=H) (H':=n) (k:=k) (x:=o);refine dO (cz.iff_q.2 (.body alB rfl rfl ?_));simp only[go_sem,simprocAttr,awp,c,e,g,f,SV.c];exact⟨ay c,a.under _,by omega,ay e⟩
def apu{l:List SV}{x:D}{d:Int}(a:Sl 8 (l.map SV.c) x){i p q:Nat}(hi:i<l.length){H:ab}(c:H[p]?=some (.hb 185 [x]))(e:H[q]?=some (.hb 3 [.i .i64 d])){K:CR->Prop}:ac VS 257 [.i .i64 (i:Int),.hp p 0,.hp q 0] H K↔K (.ret (.b (decide (d<=l[i]!.frm))) H):=by
 have f:(i:Int)<(l.length:Int):=by omega
 have g:=λ{V dr os keep h j Q m H n k o}=>a.q (V:=V) (dr:=dr) (os:=os) (keep:=keep) (loc:=h) (sl:=j) (Q:=Q) (sl':=m) (H:=H) (H':=n) (k:=k) (x:=o);refine dO (cz.iff_q.2 (.body alC rfl rfl ?_));simp only[go_sem,simprocAttr,awq,c,e,g,f,SV.c];exact⟨ay c,a.under _,by omega,ay e⟩
def Wm{l:List SV}{i:Nat}(hi:i<l.length):(l.map SV.n)[i]! =l[i]!.n:=by grind
def Wn{n:Nat}{p q:Nat->Bool}(h:∀i,i<n->p i=q i):gY n p=gY n q:=by
 have:∀m i j,j<=n->jq p m i j=jq q m i j:=by intro m;induction m<;>grind[jq]
 exact this _ _ _ (G1 _)
def apv{l:List SV}{x:D}{a b:Int}(c:Sl 8 (l.map SV.c) x)(M:l.length<1000000)(hr:cK (l.map SV.n)=true)(C:a<b)(N:-10000000<=a/\b<=10000000):∃r,ai VS 211 [x,.i .i64 a,.i .i64 b] r/\bh (wg (l.map SV.n) a b) r:=by
 have m:=c.c1;obtain⟨i,hi⟩:∃i,i=lM (l.map SV.n) a:=⟨_,rfl⟩;obtain⟨j,w⟩:∃j,j=nF (l.map SV.n) b:=⟨_,rfl⟩;obtain⟨P,Q⟩:=aps hr C;have d:=λ{K}=>Iq (g:=256) (cp:=[.hp 0 0,.hp 1 0]) (H:=[.hb 185 [x],.hb 3 [.i .i64 a],.hb 3 [.i .i64 b]]) (K:=K) (by omega) (by decide) (λi hi K=>apt c hi rfl rfl);have f:=λ{K}=>Iq (g:=257) (cp:=[.hp 0 0,.hp 2 0]) (H:=[.hb 185 [x],.hb 3 [.i .i64 a],.hb 3 [.i .i64 b]]) (K:=K) (by omega) (by decide) (λi hi K=>apu c hi rfl rfl);have t1:(gY l.length λi=>decide (a<l[i]!.to))=i:=by rw[hi];unfold lM;rw[T3];exact Wn λk o=>by rw[Wm o];rfl
 have E:(gY l.length λi=>decide (b<=l[i]!.frm))=j:=by rw[w];unfold nF;rw[T3];exact Wn λk o=>by rw[Wm o];rfl
 rw[t1]at d;rw[E]at f;have F:eo (some (.i .i64 i)) (some (.i .i64 j)) l.length l.length=some (i,j):=by grind[eo,jH,ij]
 have q:=λ{H}=>c.sD (H:=H) F;obtain⟨r,r1,r2⟩:=UR (a:=a) (b:=b) (c.slM i j) (by grind);have s:=λ{H K}=>r1.c (H:=H) (K:=K) sH rfl (by simp[(c.slM i j).pl,aZ]) (.inl rfl);rw[ABt,List.map_drop]at r2;have y:IntKind.i64.wrap _=b-a:=wr (by omega) (by omega);obtain⟨z,z1,z2⟩:=QV.int (n:=b-a) (by omega);unfold wg;rw[<-hi,<-w];refine aH.ex (.body TL rfl ?_);rcases r2.h with⟨p,u,rfl⟩|⟨e,u,A,rfl⟩
 ·rw[u];obtain⟨v,h,B⟩:=p.div z (by grind);rw[z1]at h;rcases h.h with⟨t,t1,rfl⟩|⟨e,t1,S,rfl⟩;·obtain⟨g1,G,I,J⟩:=t.fl;simp[go_sem,simprocAttr,Nn,m,c.n,d,f,q,s,y,z2,B,ah g1,ah G,ah I,ah J];exact⟨c.under _,h⟩
  simp[go_sem,simprocAttr,Nn,m,c.n,d,f,q,s,y,z2,B];exact⟨c.under _,h⟩
 rw[u];have L:¬e=0:=A;simp[go_sem,simprocAttr,Nn,m,c.n,d,f,q,s,L];exact⟨c.under _,⟨.inr ⟨e,rfl,A,rfl⟩⟩⟩
end
section
open Go.Dm
set_option maxRecDepth 10000
def Cu(m:Nat):Int×Int:=if m<2154 then(bT m,0)else(0,2)
def Wo(m:Nat){H:ab}{K:CR->Prop}:ac VS 92 [.i .i64 m] H K↔K (.ret (.tu [.i .i64 (Cu m).1,.i .i64 (Cu m).2]) H):=by
 refine ai.c (.body BM rfl ?_) BM rfl rfl (.inl rfl);have e:¬(m:Int)<0:=by omega
 unfold Cu;by_cases b:m<2154
 ·have a:¬2154<=(m:Int):=by omega
  have d:=λ{H K}=>(sJ (m:=m) (by omega)).c (H:=H) (K:=K) qD rfl rfl (.inl rfl);rw[E4 b];simp[go_sem,zy,a,d]
 have a:2154<=(m:Int):=by omega
 rw[E1 b];simp[go_sem,zy,a]
def Wp{m:Nat}:∀{n:Nat},m+n<2159->0<n->bT m<bT (m+n)
 |n+1,h,_=>by
  have a:bT (m+n)<bT (m+n+1):=by
   have:∀k,k<2160->bT k<bT (k+1):=by decide+kernel
   grind
  rcases sn n with rfl|b;·exact a
  have:=Wp (m:=m) (by omega) b;grind
section
variable(set:List (Int×Int))(l:List aD)(a b:Int)(n:Nat)
def yX(m:Nat):Bool:=decide (a<=bT m/\bT (m+n)<=b)&&Ct set (bT m) (bT (m+n))
def Wq(o:Option Fq)(q:Fq):Fq:=match o with|none=>q|some p=>if p.1*q.2<q.1*p.2 then q else p
def mB:Nat->Nat->Option Fq->EQ
 |0,_,o=>match o with|none=>.error 6|some q=>.ok q
 |k+1,m,o=>if m+n<2154 then(if yX set a b n m=true then(match wg l (bT m) (bT (m+n))with|.error e=>.error e|.ok q=>mB k (m+1) (some (Wq o q)))else mB k (m+1) o)else match o with|none=>.error 6|some q=>.ok q
end
def wh(l:List aD)(a b n:Int):EQ:=if(tw l&&qR a b&&decide (1<=n/\n<=1200))=true then mB (kV l) l a b n.toNat 2155 0 none else .error 2
def apw{l:List SV}{x:D}(L:Sl 8 (l.map SV.c) x)(hl:l.length<1000000)(hr:cK (l.map SV.n)=true)(ae:(kV (l.map SV.n)).length<1000000000){a b:Int}{n F c:Nat}(hn:1<=n/\n<=1200){I:Nat->ab->Prop}{E:ab->Prop}(M:∀m H,I m H->H[c]?=some (.hb 185 [x])/\H[c+1]?=some (.hb 3 [.i .i64 a])/\H[c+2]?=some (.hb 3 [.i .i64 b])/\H[c+3]?=some (.hb 3 [.i .i64 n]))(e:∀m H,I m H->m+n<2154->yX (kV (l.map SV.n)) a b n m=false->I (m+1) H)(y:∀m H,I m H->¬m+n<2154->E H)(hs:∀m H,I m H->m+n<2154->yX (kV (l.map SV.n)) a b n m=true->ac VS yF [.yl F,.ag [.i .i64 m,.i .i64 (bT m),.i .i64 (bT (m+n))]] H (λr=>∃h,(r=.ret (.b true) h/\I (m+1) h)\/(r=.ret (.b false) h/\E h))){H:ab}(N:I 0 H):ac VS 253 [.yl F,.hp c 0,.hp (c+3) 0,.hp (c+1) 0,.hp (c+2) 0] H (λr=>∃d h,r=.ret d h/\E h):=by
 obtain⟨q,q1,P⟩:=apo L hl hr;have e0:=λ{H K}=>q1.c (H:=H) (K:=K) Uh rfl (by simp[L.pl]) (.inl rfl);obtain⟨Q,u,z,j⟩:=M _ _ N;refine .body alA rfl rfl ?_;simp[go_sem,awn,Q,e0];refine ak.loop (λk s=>∃(m:Nat)(S U V W X Y Z:D)(H:ab),k+m=2155/\I m H/\s=⟨[.yl F,.hp c 0,.hp _ 0,.hp _ 0,.hp _ 0,S,U,V,.i .i64 m,W,X,Y,Z,q],H⟩) 2155 ⟨0,_,_,_,_,_,_,_,H,rfl,N,rfl⟩ ?_;rintro k s⟨m,S,U,V,W,X,Y,Z,H,hm,A,rfl⟩;obtain⟨Q,u,z,j⟩:=M _ _ A;have w:=hs _ _ A;have e:=e _ _ A;have y:=y _ _ A;unfold yX at w e;obtain⟨p,hp⟩:∃p,p=m+n:=⟨_,rfl⟩;rw[<-hp]at w e y;have t:IntKind.i64.wrap (m+n)=p:=by rw[wr (by omega) (by omega)];omega
 have B:IntKind.i64.wrap _=m+1:=wr (by omega) (by omega);have f:=λ{H K}=>Wo m (H:=H) (K:=K);have g:=λ{H K}=>Wo p (H:=H) (K:=K);unfold Cu at f g;by_cases o:p<2154
 ·have G:=λ{H K}=>(apr (a:=bT m) (b:=bT p) P ae).c (H:=H) (K:=K) Ui rfl (by simp[P.pl,aZ]) (.inl rfl);rw[E4 o]at g;generalize Ct _ _ _=v at G w e;by_cases g1:bT m<a;·rw[N2 (by omega)]at e;simp(disch:=omega)only[go_sem,wV,f,g,t,B,u,j,g1];exact⟨k-1,by omega,m+1,by omega,_,_,_,_,_,_,_,_,e o rfl,⟨rfl,rfl,rfl,by omega,rfl,rfl,rfl,rfl⟩,rfl⟩
  by_cases J:b<bT p;·rw[N2 (by omega)]at e;simp(disch:=omega)only[go_sem,wV,f,g,t,B,u,z,j,g1,J];exact⟨k-1,by omega,m+1,by omega,_,_,_,_,_,_,_,_,e o rfl,⟨rfl,rfl,rfl,by omega,rfl,rfl,rfl,rfl⟩,rfl⟩
  rw[Rp (by omega)]at e w;cases v with|false=>simp(disch:=omega)only[go_sem,wV,f,g,G,t,B,u,z,j,g1,J];exact⟨k-1,by omega,m+1,by omega,_,_,_,_,_,_,_,_,e o rfl,⟨rfl,rfl,rfl,by omega,rfl,rfl,rfl,rfl⟩,rfl⟩|true=>
  simp(disch:=omega)only[go_sem,simprocAttr,wV,f,g,G,t,u,z,j,g1,J];refine(w o rfl).mono ?_;rintro r⟨H2,⟨rfl,aj⟩|⟨rfl,C⟩⟩;·simp only[go_sem,B];exact⟨k-1,by omega,m+1,by omega,_,_,_,_,_,_,_,_,aj,⟨rfl,rfl,rfl,by omega,rfl,rfl,rfl,rfl⟩,rfl⟩
  simp[go_sem];exact⟨_,_,⟨rfl,rfl⟩,C⟩
 rw[E1 o]at g;have C:=y o;by_cases c2:m<2154;·rw[E4 c2]at f;simp[go_sem,simprocAttr,wV,f,g,t,j];exact⟨_,_,⟨rfl,rfl⟩,C⟩
 rw[E1 c2]at f;simp[go_sem,simprocAttr,wV,f,g,t,j];exact⟨_,_,⟨rfl,rfl⟩,C⟩
end
section
open Go.Dm
set_option maxRecDepth 10000
variable{d e f:Nat}
def apx{l:List SV}{x:D}(a:Sl 8 (l.map SV.c) x)(f:l.length<1000000)(hr:cK (l.map SV.n)=true){n:Nat}(g:0<n)(j:d+n<2154):∃r,bh (wg (l.map SV.n) (bT d) (bT (d+n))) r/\∀{k p:Nat}{H:ab}{K:CR->Prop},H[p]?=some (.hb 185 [x])->(ac VS 210 [.ag [.i .i64 k,.i .i64 (bT d),.i .i64 (bT (d+n))],.hp p 0] H K↔K (.ret r H)):=by
 have m:=B1 (m:=d) (by omega);have o:=B1 (m:=d+n) (by omega);obtain⟨r,r1,r2⟩:=apv a f hr (Wp (m:=d) (by omega) g) (by omega);have b:=λ{H K}=>r1.c (H:=H) (K:=K) TL rfl (by simp[a.pl,aZ]) (.inl rfl);refine⟨r,r2,λ{k p H K}c=>dO (cz.iff_q.2 (.body als rfl rfl ?_))⟩;rcases r2.h with⟨q,h,rfl⟩|⟨e,h,s,rfl⟩;·simp[go_sem,simprocAttr,aaF,c,b]
 simp[go_sem,simprocAttr,aaF,c,b]
def wB(o:Option ((Int×Int×Int)×QV)):List an:=match o with|none=>[.hb 236 [.i .i64 0,.i .i64 0,.i .i64 0],.hb 34 [.b false,.nil,.b false,.nil],.hb 4 [.b false]]|some (w,q)=>[.hb 236 [.i .i64 w.1,.i .i64 w.2.1,.i .i64 w.2.2],.hb 34 q.c,.hb 4 [.b true]]
def bsH(x:D)(a b:Int)(n:Nat)(e:Int)(o:Option ((Int×Int×Int)×QV))(s:RS)(X:ab):ab:=.hb 185 [x]::.hb 185 [x]::.hb 3 [.i .i64 a]::.hb 3 [.i .i64 b]::.hb 3 [.i .i64 n]::.hb 281 [.fn (.func 210) [] [.hp 0 0]]::.hb 236 [.i .i64 0,.i .i64 0,.i .i64 0]::.hb 34 [.b false,.nil,.b false,.nil]::.hb 54 [.i .i64 e]::.hb 236 [.i .i64 0,.i .i64 0,.i .i64 0]::(wB o++.df::.yh r2.f r2.path 2 r2.nt r2.tm [.fn (.func 253) [] [.hp 1 0,.hp 4 0,.hp 2 0,.hp 3 0],.fn (.func 210) [] [.hp 0 0],.hp 6 0,.hp 7 0,.hp 8 0,.fn (.func 253) [] [.hp 1 0,.hp 4 0,.hp 2 0,.hp 3 0],.u,.u,.u,.u,.hp 5 0,.u,.u,.hp 9 0,.hp 12 0,.u,.hp 11 0,.hp 10 0] s::X)
structure Is(l:List aD)(x:D)(a b:Int)(n:Nat)(R:EQ)(m:Nat)(G:ab):Prop where h:∃(o:Option ((Int×Int×Int)×QV))(X:ab),m<=2155/\mB (kV l) l a b n (2155-m) m (o.map λp=>p.2.q)=R/\G=bsH x a b n 0 o .rd X
structure BsE(l:List aD)(x:D)(a b:Int)(n:Nat)(R:EQ)(G:ab):Prop where h:(∃(o:Option ((Int×Int×Int)×QV))(X:ab),(R=match o with|none=>.error 6|some p=>.ok p.2.q)/\G=bsH x a b n 0 o .rd X)\/(∃(o:Option ((Int×Int×Int)×QV))(e:Int)(X:ab),e≠0/\R=.error e/\G=bsH x a b n e o .dr X)
def apz{l:List SV}{x:D}(A:Sl 8 (l.map SV.c) x)(B:l.length<1000000)(hr:cK (l.map SV.n)=true){a b:Int}{n:Nat}{R:EQ}{G:ab}(C:0<n)(E:Is (l.map SV.n) x a b n R d G)(t:d+n<2154)(F:yX (kV (l.map SV.n)) a b n d=true):ac VS yF [.yl 14,.ag [.i .i64 d,.i .i64 (bT d),.i .i64 (bT (d+n))]] G (λr=>∃k,(r=.ret (.b true) k/\Is (l.map SV.n) x a b n R (d+1) k)\/(r=.ret (.b false) k/\BsE (l.map SV.n) x a b n R k)):=by
 obtain⟨o,X,I,g,rfl⟩:=E.h;obtain⟨r,u,v⟩:=apx A B hr C t;rw[show 2155-d=(2154-d)+1 by omega]at g;unfold mB at g;rw[E4 t,E4 F]at g;have y:=λ{args H K}=>iu (V:=VS) (H:=H) (args:=args) (K:=K) (f:=210) (a:=[]) (b:=[.hp 0 0]) (by decide)
 cases o with|none=>
 unfold bsH wB;refine ac.round vM rfl Hg ⟨rfl,rfl,rfl,rfl,rfl⟩ ?_;simp(disch:=omega)only[go_sem,aaE,gP];refine⟨_,_,_,_,_,_,rfl,?_⟩;rw[y];simp[U3,bN];rw[v rfl];rcases u.h with⟨q,h,rfl⟩|⟨e,h,j,rfl⟩;·simp only[go_sem,simprocAttr,yG];simp only[xB,aj.writes,D.blk,D.under,D.over,Bs.un,Bs.ov,simprocAttr,AB0,AB9,ABe,ABf,U3,bN];rw[h]at g;exact⟨by simp,by simp,rfl,rfl,rfl,_,_,_,_,_,_,rfl,_,.inl ⟨rfl,some ((d,bT d,bT _),q),_,by omega,by rw[show 2155-(d+1)=2154-d by omega];exact g,rfl⟩⟩
 have m:¬e=0:=j;simp only[go_sem,m];exact⟨_,_,_,_,_,_,rfl,_,.inr ⟨rfl,⟨.inr ⟨none,e,_,j,by rw[<-g,h],rfl⟩⟩⟩⟩|some p=>
 obtain⟨w,p⟩:=p;unfold bsH wB QV.c;refine ac.round vM rfl Hg ⟨rfl,rfl,rfl,rfl,rfl⟩ ?_;simp(disch:=omega)only[go_sem,aaE,gP];refine⟨_,_,_,_,_,_,rfl,?_⟩;rw[y];simp[U3,bN];rw[v rfl];rcases u.h with⟨q,h,rfl⟩|⟨e,h,j,rfl⟩
 ·have z:=λ{H K}=>q.cmp p (H:=H) (K:=K);rw[h]at g;simp only[ga,Wq]at g;by_cases c:p.q.1*q.q.2<q.q.1*p.q.2
  ·have s:0<di (q.q.1*p.q.2) (p.q.1*q.q.2):=by rw[Hu];exact c
   rw[E4 c]at g;simp only[go_sem,simprocAttr,z,s];simp only[xB,aj.writes,D.blk,D.under,D.over,Bs.un,Bs.ov,simprocAttr,AB0,AB9,ABe,ABf,U3,bN];exact⟨by simp,by simp,rfl,rfl,rfl,_,_,_,_,_,_,rfl,_,.inl ⟨rfl,some ((d,bT d,bT _),q),_,by omega,by rw[show 2155-(d+1)=2154-d by omega];exact g,rfl⟩⟩
  have s:¬0<di (q.q.1*p.q.2) (p.q.1*q.q.2):=by rw[Hu];exact c
  rw[E1 c]at g;simp only[go_sem,z,s];exact⟨_,_,_,_,_,_,rfl,_,.inl ⟨rfl,some (w,p),_,by omega,by rw[show 2155-(d+1)=2154-d by omega];exact g,rfl⟩⟩
 have m:¬e=0:=j;simp only[go_sem,m];exact⟨_,_,_,_,_,_,rfl,_,.inr ⟨rfl,⟨.inr ⟨some (w,p),e,_,j,by rw[<-g,h],rfl⟩⟩⟩⟩
variable{x y z a b c:D}
def bh.fl{r:EQ}{p t:D}{e:Int}(h:bh r (.tu [.ag [p,x,y,t],.i .i64 e])):p.flat=true/\x.flat=true/\y.flat=true/\t.flat=true:=by
 rcases h.h with⟨z,_,z2⟩|⟨a,_,_,z2⟩;·cases z2;exact z.fl
 cases z2;exact⟨rfl,rfl,rfl,rfl⟩
def It{H:ab}{g:List D}{p t h:D}{b:Nat}{K:CR->Prop}(i:H[6]?=some (.hb d [x,y,z]))(j:H[7]?=some (.hb e [p,a,c,t]))(k:H[8]?=some (.hb f [h]))(l:g[2]?=some (.hp 6 0))(m:g[3]?=some (.hp 7 0))(n:g[4]?=some (.hp 8 0))(o:∀H,K (.ret (.tu [.ag [x,y,z],.ag [p,a,c,t],h]) H)):mq [.hb 2 3 true,.hb 3 4 true,.hb 4 1 false] b K .rt ⟨g,H⟩:=by
 have q:=yH (base:=b) i;have r:=yH (base:=b) j;have s:=yH (base:=b) k;rw[Sy];generalize eA b H=U at*;have a:de ⟨g,U⟩ [.hb 2 3 true,.hb 3 4 true,.hb 4 1 false]=some [.ag [x,y,z],.ag [p,a,c,t],h]:=by simp[dc.ev,cT,l,m,n,q,r,s,de,val];rfl
 exact⟨_,a,o _⟩
def apA{l:List SV}{x:D}(k:Sl 8 (l.map SV.c) x)(u:l.length<1000000)(hr:cK (l.map SV.n)=true)(v:(kV (l.map SV.n)).length<1000000000){a b:Int}{n:Nat}(y:1<=n/\n<=1200):ac VS 208 [.fn (.func 253) [] [.hp 1 0,.hp 4 0,.hp 2 0,.hp 3 0],.fn (.func 210) [] [.hp 0 0]] [.hb 185 [x],.hb 185 [x],.hb 3 [.i .i64 a],.hb 3 [.i .i64 b],.hb 3 [.i .i64 n]] (λr=>∃(w:Int×Int×Int)(p q s t:D)(e:Int)(H:ab),r=.ret (.tu [.ag [.i .i64 w.1,.i .i64 w.2.1,.i .i64 w.2.2],.ag [p,q,s,t],.i .i64 e]) H/\bh (mB (kV (l.map SV.n)) (l.map SV.n) a b n 2155 0 none) (.tu [.ag [p,q,s,t],.i .i64 e])):=by
 refine ac.bodyR alq rfl rfl rfl ?_;generalize h:mq _ _ _=Q;simp[go_sem,simprocAttr,avW];rw[yi Hg rfl (by decide)];refine(apw k u hr v y (I:=Is _ x a b n (mB _ _ a b n 2155 0 none)) ?_ ?_ ?_ (λm H f g j=>apz k u hr (by omega) f g j) ⟨none,[],by omega,rfl,rfl⟩).mono ?_;·intro m H f;obtain⟨o,X,_,_,rfl⟩:=f.h;exact⟨rfl,rfl,rfl,rfl⟩
 ·intro m H f g j;obtain⟨o,X,z,c,rfl⟩:=f.h;rw[show 2155-m=(2154-m)+1 by omega]at c;unfold mB at c;rw[E4 g,E1 (by simp[j])]at c;exact⟨o,X,by omega,by rw[show 2155-(m+1)=2154-m by omega];exact c,rfl⟩
 ·intro m H f g;obtain⟨o,X,z,c,rfl⟩:=f.h;refine⟨.inl ⟨o,X,?_,rfl⟩⟩;rw[<-c];cases 2155-m<;>simp[mB,E1 g]<;>cases o<;>rfl
 rintro r⟨d,C,rfl,A⟩;rcases A.h with⟨o,X,c,rfl⟩|⟨o,e,X,B,c,rfl⟩;·cases o with|none=>unfold bsH wB;rw[vE rfl];simp[go_sem];rw[<-h];exact It rfl rfl rfl rfl rfl rfl λH=>⟨(0,0,0),_,_,_,_,_,H,rfl,bh.er c (by decide)⟩|some p=>obtain⟨w,p⟩:=p;unfold bsH wB QV.c;rw[vE rfl];simp[go_sem];simp only[xB,aj.writes,D.blk,D.under,D.over,Bs.un,Bs.ov,simprocAttr,AB0,AB9,ABe,ABf,U3,bN];rw[<-h];exact⟨by simp,by simp,by simp,by simp,by simp,It rfl rfl rfl rfl rfl rfl λH=>⟨w,_,_,_,_,_,H,rfl,bh.ok c⟩⟩
 cases o<;>(rw[Sw rfl];simp[go_sem];rw[<-h];exact It rfl rfl rfl rfl rfl rfl λH=>⟨(0,0,0),_,_,_,_,e,H,rfl,bh.er c B⟩)
def apB{l:List SV}{x:D}(a:Sl 8 (l.map SV.c) x)(g:l.length<1000000):ai VS 252 [x] (.b (tw (l.map SV.n))):=by have d:=λ{H K}=>(B6 a (by omega)).c (H:=H) (K:=K) yw rfl (by simp[a.pl]) (.inl rfl);refine .body Ug rfl ?_;unfold tw;cases hr:cK _ with|false=>rw[hr]at d;simp[go_sem,N9,d]|true=>
 rw[hr]at d;by_cases e:l=[];·subst e;simp[go_sem,N9,d,a.n]
 have h:=V2.2 e;obtain⟨s,hs⟩:∃s,s=l[0]!:=⟨_,rfl⟩;have f:¬(l.length:Int)=0:=by omega
 simp only[go_sem,simprocAttr,N9,d,a.n,a.q,f,<-hs,SV.c];refine⟨by omega,?_⟩;cases l with|nil=>grind|cons t l=>have:s=t:=hs;subst this;exact decide_eq_decide.2 (by show _↔s.a.v.k=3;omega)
def apC{l:List SV}{x:D}(g:Sl 8 (l.map SV.c) x)(j:l.length<1000000){a b:Int}:ai VS 206 [x,.i .i64 a,.i .i64 b] (.b (tw (l.map SV.n)&&qR a b)):=by have d:=λ{H K}=>(apB g j).c (H:=H) (K:=K) Ug rfl (by simp[g.pl]) (.inl rfl);refine .body TJ rfl ?_;unfold qR;generalize tw _=v at d⊢;cases v with|false=>simp[go_sem,zH,d]|true=>
 by_cases e:0<=a
 ·by_cases f:a<=65536
  ·by_cases h:0<=b;·simp[go_sem,zH,d,e,f,h];try simp
   simp only[go_sem,zH,d,e,f,h];try simp
  simp only[go_sem,zH,d,e,f];try simp
 simp only[go_sem,zH,d,e];try simp
def apD(n:Int):ai VS 207 [.i .i64 n] (.b (decide (1<=n/\n<=1200))):=by
 refine .body TK rfl ?_;by_cases a:1<=n;·simp[go_sem,aaD,a];try simp
 simp only[go_sem,aaD,a];try simp
theorem apE:∀{l:List (Int×Int)},(we l).length<=l.length:=by intro l;have:=Io (i:=l.length) (by rw[(Er l).length_eq];omega);exact this
def apF{l:List SV}{x:D}(d:Sl 8 (l.map SV.c) x)(A:l.length<1000000){a b n:Int}:∃r,ai VS 119 [x,.i .i64 a,.i .i64 b,.i .i64 n] r/\bh (wh (l.map SV.n) a b n) r:=by
 have f:=λ{H K}=>(apC d A (a:=a) (b:=b)).c (H:=H) (K:=K) TJ rfl (by simp[d.pl,aZ]) (.inl rfl);have g:=λ{H K}=>(apD n).c (H:=H) (K:=K) TK rfl rfl (.inl rfl);have h:=d.c1;have C:∃r,ai VS 161 [x,.i .i64 a,.i .i64 b,.i .i64 n] r/\∃(w:Int×Int×Int)(p q s t:D)(e:Int),r=.tu [.ag [.i .i64 w.1,.i .i64 w.2.1,.i .i64 w.2.2],.ag [p,q,s,t],.i .i64 e]/\bh (wh (l.map SV.n) a b n) (.tu [.ag [p,q,s,t],.i .i64 e]):=by refine aH.ex (.body Tt rfl ?_);unfold wh;generalize J:(tw _&&qR a b)=v at f⊢;cases v with|false=>simp only[go_sem,Mr,h,f];exact⟨(0,0,0),_,_,_,_,_,rfl,bh.er rfl (by decide)⟩|true=>
  by_cases B:1<=n/\n<=1200
  ·obtain⟨k,rfl⟩:=AAG (show 0<=n by omega);have hr:cK (l.map SV.n)=true:=by simp_all[tw]
   rw[Rp B]at g⊢;have E:(kV (l.map SV.n)).length<1000000000:=by grind[apE,SV.n,Wj,kV]
   have F:=apA d A hr E (a:=a) (b:=b) (n:=k) (by omega);have m:∀{K:CR->Prop},K (.ret (.fn (.func 253) [] [.hp 1 0,.hp 4 0,.hp 2 0,.hp 3 0]) [.hb 185 [x],.hb 185 [x],.hb 3 [.i .i64 a],.hb 3 [.i .i64 b],.hb 3 [.i .i64 _]])->ac VS 209 [x,.i .i64 a,.i .i64 b,.i .i64 k] [.hb 185 [x]] K:=λ{K}G=>by refine .body alr rfl rfl ?_;simp[go_sem,simprocAttr,avX,h];exact G
   simp only[go_sem,Mr,h,f,g];refine m ?_;simp only[go_sem];refine F.mono ?_;rintro r⟨w,p,q,s,t,e,H,rfl,j⟩;obtain⟨o,u,y,z⟩:=j.fl;simp only[go_sem,ah o,ah u,ah y,ah z];grind
  rw[N2 B]at g⊢;simp only[go_sem,Mr,h,f,g];exact⟨(0,0,0),_,_,_,_,_,rfl,bh.er rfl (by decide)⟩
 obtain⟨_,I,w,p,q,s,t,e,rfl,j⟩:=C;have m:=λ{H K}=>I.c (H:=H) (K:=K) Tt rfl (by simp[d.pl,aZ]) (.inl rfl);obtain⟨o,u,y,z⟩:=j.fl;refine aH.ex (.body Tg rfl ?_);simp[go_sem,avm,m,ah o,ah u,ah y,ah z];exact j
end
section
open Go.Dm
set_option maxRecDepth 10000
variable{env:qj}
variable{y:List T}
def wi{b:Nat}{d:D}(h:cP env (.sl b y) d):∃rows,(∀r∈rows,cY env y r)/\Sl y.length rows d/\rows.length*b<=140737488351232:=by cases h with|nil=>exact⟨[],λr hr=>(by cases hr),.nil rfl,by simp⟩|z=>exact⟨[],λr hr=>(by cases hr),.z rfl,by simp⟩|sl _ _ rows h hr=>exact⟨rows,hr,.im,h.2⟩
inductive LX:Ex->Prop where|mk{e:Ex}:e.op<256->e.args.length<4611686018427387904->(∀a∈e.args,LX a)->LX e
def LX.x{e:Ex}(h:LX e):bA (λ_=>True) e:=by induction h with|mk a _ _ b=>constructor<;>grind
def qN{α:Type}{enc:α->List D}{P:α->Prop}:∀{rows:List (List D)},(∀r∈rows,∃a,r=enc a/\P a)->∃l:List α,rows=l.map enc/\∀a∈l,P a|[],_=>⟨[],rfl,λ_ h=>by cases h⟩|r::rows,h=>by obtain⟨a,rfl,b⟩:=h r N1;obtain⟨l,rfl,c⟩:=qN (rows:=rows) λr hr=>h r (M0 _ hr);exact⟨a::l,rfl,λx d=>(S2.1 d).elim (λe=>e▸b) (c x)⟩
def wj{k:IntKind}(a:k.min=0){d:D}(h:cP env (.i k) d):∃n:Nat,d=.i k n/\(n:Int)<=k.max:=by cases h with|i _ n h=>obtain⟨m,rfl⟩:=AAG (show 0<=n by omega);grind
def Ws{d:D}(h:cP env (.sl 2 [.i .u16]) d):∃l:List Nat,Sl 1 (l.map u16) d/\lm 65536 l/\l.length<70368744177665:=by
 obtain⟨rows,c,e,f⟩:=wi h;obtain⟨l,rfl,g⟩:=qN (enc:=u16) (P:=(·<65536)) λr hr=>by cases c r hr with|cons a b=>cases b;obtain⟨n,rfl,j⟩:=wj rfl a;exact⟨n,rfl,by have:IntKind.max .u16=65535:=rfl;omega⟩
 rw[T3]at f;exact⟨l,e,g,by omega⟩
def Iu{a b c d:D}(e:cP env .b a)(f:cP env (.sl 2 [.i .u16]) b)(g:cP env .b c)(h:cP env (.sl 2 [.i .u16]) d):∃r:RF,[a,b,c,d]=r.cells:=by obtain⟨l,j,k,n⟩:=Ws f;obtain⟨m,o,p,q⟩:=Ws h;cases e;cases g;exact⟨⟨_,_,_,_,l,m,j,o,k,p,n,q⟩,rfl⟩
abbrev mC(n:Nat):List T:=[.i .u8,.s,.i .u8,.b,.sl 2 [.i .u16],.b,.sl 2 [.i .u16],.i .i64,.rc 128 n]
abbrev Wt(n:Nat):List T:=[.s,.s,.i .i64,.i .i64,.i .i64,.b]++(mC n++mC n)
abbrev wk:List T:=[.s,.i .i64,.i .i64,.i .i64,.b,.i .u8,.b,.sl 2 [.i .u16],.b,.sl 2 [.i .u16],.i .i64]
abbrev Wu:List T:=[.i .i64,.i .i64,.i .i64,.b,.sl 2 [.i .u16],.b,.sl 2 [.i .u16]]
abbrev Wv:List T:=[.s,.b,.sl 88 Wu]
abbrev yY(n:Nat):List T:=[.s,.sl 24 [.s,.i .u8,.b],.sl 48 Wv,.sl 320 (Wt n)]
def nH{d:D}(h:cP env .s d):∃s:Nm,d=.s s/\s.length<1000000000000000:=by cases h with|s l h=>exact⟨l,rfl,by unfold reachBytes at h;omega⟩
def gu{d:D}(h:cP env (.i .i64) d):∃n:Int,d=.i .i64 n/\-9223372036854775808<=n/\n<=9223372036854775807:=by cases h with|i _ n h=>exact⟨n,rfl,h.1,h.2⟩
def Cv{d:D}(h:cP env .b d):∃b:Bool,d=.b b:=by cases h with|b x=>grind
def apG{r:List D}(h:cY env Wu r):∃x:Rw,r=x.c/\True:=by cases h with|cons d h=>cases h with|cons e h=>cases h with|cons g h=>cases h with|cons i h=>cases h with|cons j h=>cases h with|cons k h=>cases h with|cons l h=>cases h;obtain⟨a,rfl,_⟩:=gu d;obtain⟨b,rfl,_⟩:=gu e;obtain⟨c,rfl,_⟩:=gu g;obtain⟨f,m⟩:=Iu i j k l;exact⟨⟨a,b,c,f⟩,by grind[Rw.c,RF.cells],trivial⟩
def apH{r:List D}(h:cY env Wv r):∃x:Tb,r=x.c/\True:=by cases h with|cons a h=>cases h with|cons c h=>cases h with|cons d h=>cases h;obtain⟨s,rfl,hs⟩:=nH a;obtain⟨b,rfl⟩:=Cv c;obtain⟨rows,r1,r2,r3⟩:=wi d;obtain⟨l,rfl,_⟩:=qN λr hr=>apG (r1 r hr);rw[T3]at r3;exact⟨⟨s,b,_,l,r2,by omega,hs⟩,rfl,trivial⟩
def apI{r:List D}(h:cY env wk r):∃x:Fc,r=x.c/\x.v.k<256:=by cases h with|cons d h=>cases h with|cons e h=>cases h with|cons j h=>cases h with|cons l h=>cases h with|cons m h=>cases h with|cons n h=>cases h with|cons o h=>cases h with|cons p h=>cases h with|cons q h=>cases h with|cons t h=>cases h with|cons u h=>cases h;obtain⟨s,rfl,hs⟩:=nH d;obtain⟨a,rfl,_⟩:=gu e;obtain⟨b,rfl,_⟩:=gu j;obtain⟨c,rfl,_⟩:=gu l;obtain⟨g,rfl⟩:=Cv m;obtain⟨k,rfl,w⟩:=wj rfl n;obtain⟨f,v⟩:=Iu o p q t;obtain⟨i,rfl,_⟩:=gu u;obtain⟨rfl,rfl,rfl,rfl⟩:=v;exact⟨⟨s,a,b,c,g,⟨k,f,i⟩,hs⟩,rfl,by have:IntKind.max .u8=255:=rfl;grind⟩
def Cw{d:D}(h:cP env (.sl 128 wk) d):∃l:List Fc,Sl 11 (l.map Fc.c) d:=by obtain⟨rows,r1,r2,r3⟩:=wi h;obtain⟨l,rfl,_⟩:=qN λr hr=>apI (r1 r hr);exact⟨l,r2⟩
def apJ{r:List D}(h:cY env [.s,.i .u8,.b] r):∃x:Df,r=x.c/\True:=by cases h with|cons a h=>cases h with|cons c h=>cases h with|cons d h=>cases h;obtain⟨s,rfl,_⟩:=nH a;obtain⟨k,rfl,_⟩:=wj rfl c;obtain⟨b,rfl⟩:=Cv d;exact⟨⟨s,k,b⟩,rfl,trivial⟩
def yZ(d:D):Prop:=∃(y:Zs)(l:List Ex),d=EE 9 y (l.map Ex.row)/\l.length<4611686018427387904/\∀a∈l,LX a
def Iw{rows:List (List D)}{d:D}(f:d=.im 9 rows\/(d=.nil\/d=.z)/\rows=[])(b:rows.length<4611686018427387904)(h:∀r∈rows,∃e:Ex,r=e.row/\LX e):yZ d:=by
 obtain⟨l,rfl,c⟩:=qN h;rw[T3]at b;rcases f with rfl|⟨rfl|rfl,e⟩;·cases l with|nil=>exact⟨.i,[],rfl,b,c⟩|cons a l=>exact⟨.n,a::l,rfl,b,c⟩
 ·cases l with|nil=>exact⟨.n,[],rfl,b,c⟩|cons a l=>cases e
 cases l with|nil=>exact⟨.z,[],rfl,b,c⟩|cons a l=>cases e
def apK{d0 d1 d2 d3 d4 d5 d6 d7 d8:D}(a:cP env (.i .u8) d0)(c:cP env .s d1)(d:cP env (.i .u8) d2)(g:cP env .b d3)(h:cP env (.sl 2 [.i .u16]) d4)(j:cP env .b d5)(m:cP env (.sl 2 [.i .u16]) d6)(n:cP env (.i .i64) d7)(p:yZ d8):∃e:Ex,[d0,d1,d2,d3,d4,d5,d6,d7,d8]=e.row/\LX e:=by obtain⟨o,rfl,u⟩:=wj rfl a;obtain⟨s,rfl,_⟩:=nH c;obtain⟨k,rfl,_⟩:=wj rfl d;obtain⟨f,q⟩:=Iu g h j m;obtain⟨i,rfl,_⟩:=gu n;obtain⟨y,l,rfl,r,t⟩:=p;obtain⟨rfl,rfl,rfl,rfl⟩:=q;refine⟨.mk o s ⟨k,f,i⟩ y l,by rw[Ex.row,Pw],.mk ?_ r t⟩;have:IntKind.max .u8=255:=rfl;show o<256;omega
variable{x:List D}
def Ww{n:Nat}(h:∀(j:Nat)t d,(mC n)[j]?=some t->x[j]?=some d->cP env t d/\(t=.rc 128 n->yZ d))(a:x.length=9):∃e:Ex,x=e.row/\LX e:=by match x,a with|[d0,d1,d2,d3,d4,d5,d6,d7,d8],_=>exact apK (h 0 _ _ rfl rfl).1 (h 1 _ _ rfl rfl).1 (h 2 _ _ rfl rfl).1 (h 3 _ _ rfl rfl).1 (h 4 _ _ rfl rfl).1 (h 5 _ _ rfl rfl).1 (h 6 _ _ rfl rfl).1 (h 7 _ _ rfl rfl).1 ((h 8 _ _ rfl rfl).2 rfl)
def apL{n:Nat}(g:env n=some (mC n))(h:cY env y x):∀(j:Nat)t d,y[j]?=some t->x[j]?=some d->cP env t d/\(t=.rc 128 n->yZ d):=by
 refine cY.rec (motive_1:=λt d _=>t=.rc 128 n->yZ d) ?_ ?_ ?_ ?_ ?_ ?_ ?_ ?_ ?_ ?_ ?_ h;·grind
 ·grind
 ·grind
 ·grind
 ·grind
 ·grind
 ·simp_all[Iw]
 ·simp_all[Iw]
 ·intro _ _ y i rows b hr c e;cases e;have a:y=mC n:=by grind
  subst a;exact Iw (.inl rfl) (by have:=b.2;unfold reachBytes at this;omega) λx h=>Ww (c x h) (hr x h).len
 ·intro j t d h;cases h
 intro t y d ds h hs f i2 j t' d' e1 a;cases j with|zero=>cases e1;cases a;exact⟨h,f⟩|succ j=>exact i2 j t' d' e1 a
def Wx{n:Nat}(a:env n=some (mC n))(h:cY env (mC n) x):∃e:Ex,x=e.row/\LX e:=Ww (apL a h) h.len
def cY.split{ts:List T}:∀{r:List D},cY env (ts++y) r->∃a b,r=a++b/\cY env ts a/\cY env y b:=by induction ts with|nil=>exactλh=>⟨[],_,rfl,.nil,h⟩|cons t ts c=>intro r h;cases h with|cons d h=>obtain⟨a,b,rfl,e,f⟩:=c h;exact⟨_::a,b,rfl,.cons d e,f⟩
def apM{n:Nat}(d:env n=some (mC n)){r:List D}(h:cY env (Wt n) r):∃c:Cl,r=c.row/\LX c.w/\LX c.t:=by cases h with|cons e h=>cases h with|cons f h=>cases h with|cons i h=>cases h with|cons j h=>cases h with|cons k h=>cases h with|cons l h=>obtain⟨s,rfl,_⟩:=nH e;obtain⟨t,rfl,_⟩:=nH f;obtain⟨a,rfl,_⟩:=gu i;obtain⟨b,rfl,_⟩:=gu j;obtain⟨c,rfl,_⟩:=gu k;obtain⟨g,rfl⟩:=Cv l;obtain⟨x,y,rfl,m,o⟩:=cY.split (ts:=mC n) h;obtain⟨w,rfl,p⟩:=Wx d m;obtain⟨z,rfl,q⟩:=Wx d o;exact⟨⟨s,t,a,b,c,g,w,z⟩,rfl,p,q⟩
def Cy{n:Nat}(g:env n=some (mC n)){d:D}(h:ox env (true,yY n) d):∃p:Pl,d=p.d/\(∀c∈p.cls,LX c.w/\LX c.t)/\p.defs.length<1000000000000000/\p.tabs.length<4611686018427387904/\p.cls.length*320<=140737488351232:=by cases h with|ag _ ds h=>cases h with|cons i h=>cases h with|cons j h=>cases h with|cons k h=>cases h with|cons a h=>cases h;obtain⟨s,rfl,_⟩:=nH i;obtain⟨r1,l,m,o⟩:=wi j;obtain⟨r2,q,t,u⟩:=wi k;obtain⟨r3,v,w,b⟩:=wi a;obtain⟨e,rfl,_⟩:=qN λr hr=>apJ (l r hr);obtain⟨f,rfl,_⟩:=qN λr hr=>apH (q r hr);obtain⟨x,rfl,a⟩:=qN λr hr=>apM g (v r hr);rw[T3]at o u b;exact⟨⟨s,e,f,x,_,_,_,m,t,w⟩,rfl,a,by show e.length<_;omega,by show f.length<_;omega,b⟩
end
section
open Go.Dm Go.Proofs
set_option maxRecDepth 100000
def CC:vk Tryz.prog [39]=true:=by kernel_rfl
def CD:fo Tryz.prog [39] 39=some (mC 39):=by kernel_rfl
end
end Go.Proofs.YtigbdbdlkoeadaaGreatDoor.Dv
