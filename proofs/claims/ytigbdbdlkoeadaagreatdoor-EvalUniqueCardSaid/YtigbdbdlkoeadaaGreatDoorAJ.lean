/-
  Part of the proof.
-/
import Derived.Test.YtigbdbdlkoeadaaGreatDoorAI
set_option linter.all false
namespace Go.Proofs.YtigbdbdlkoeadaaGreatDoor.Dv
section
open Go.Dm
set_option maxRecDepth 10000
structure asw(l:List Nat)(x:D)(k:Nat)(s:St):Prop where
 le:k<=l.length
 z:vl 65536 (l.drop k)=0
 h:∃a,s=⟨[x,.nil,a,.i .i64 (k:Int)],[]⟩
def I6{l:List Nat}{x:D}(h:Sl 1 (l.map u16) x)(r:lm 65536 l)(t:l.length<1099511627776):∃d,ai VS 268 [x] d/\bc (vl 65536 l) d:=by
 refine aH.ex (.body BZ rfl ?_);simp[go_sem,awv,h.n];refine ak.loop (asw l x) _ ⟨G1 _,by rw[T5 (G1 _)];rfl,.u,rfl⟩ ?_;rintro k s⟨v,n,a,rfl⟩;have f:=h.slT k;have b:∀{H:ab},dY H 1 x none (some (.i .i64 k)) none=some (EO x 0 k):=λ{H}=>h.sD (by grind[eo,jH,ij]);have g:tp (l.take k)->bc (vl 65536 l) (EO x 0 k):=λw=>⟨by grind[xm]⟩;rcases k with _|k;·have o:∀{H:ab},dY H 1 x none (some (.i .i64 0)) none=some _:=b;have c:=g (λe=>absurd rfl e);simp[go_sem,simprocAttr,Ou,o];exact⟨_,iV f.flat,c⟩
 have e:((k:Int)+1-1)=k:=by omega
 have j:(0:Int)<k+1:=by omega
 have p:k<l.length:=by omega
 have q:(((k+1:Nat):Int))=k+1:=by omega
 rw[q]at b;by_cases m:l[k]! =0;·simp(disch:=omega)only[go_sem,Ou,j,e,wr,h.q,u16,m];refine⟨⟨by omega,by omega⟩,k,by omega,by omega,?_,_,rfl⟩;rw[dJ p,m,n]
 have c3:¬(l[k]!:Int)=0:=by omega
 have c:=g (λ_=>by grind);simp(disch:=omega)only[go_sem,Ou,j,e,wr,h.q,u16,c3,b];exact⟨⟨by omega,by omega⟩,_,iV f.flat,c⟩
def asx{a b:Nat}(h:(ds 65536 a).length<(ds 65536 b).length):a<b:=by
 rcases lu a b with c|c;·exact c
 have:=fV aM c;omega
structure asy(a b:Nat)(x y:D)(k:Nat)(s:St):Prop where
 le:k<=(ds 65536 a).length
 z:(ds 65536 a).drop k=(ds 65536 b).drop k
 h:∃a1 a2 a3,s=⟨[x,y,.b false,a1,a2,a3,.i .i64 ((k:Int)-1)],[]⟩
def XV{a b:Nat}{x y:D}(l:bc a x)(m:bc b y)(r:(ds 65536 a).length<1099511627776)(t:(ds 65536 b).length<1099511627776):ai VS 236 [x,y] (.b (decide (a<b))):=by
 have d:=l.sl;have f:=m.sl;refine .body G8 rfl ?_;by_cases g:(ds 65536 a).length=(ds 65536 b).length
 ·simp(disch:=omega)[go_sem,aaU,d.n,f.n,g,wr];refine ak.loop (asy a b x y) _ ⟨G1 _,?_,.b false,.u,.u,?_⟩ ?_;·rw[T5 (G1 _),T5 (by omega)]
  ·rw[g]
  rintro k s⟨v,j,w,z,A,rfl⟩;rcases k with _|k
  ·have e:=Go.Dm.uz aM (by simpa using j);have c:¬a<b:=by omega
   simp[go_sem,simprocAttr,aaT,c]
  have e:((k:Int)+1-1)=k:=by omega
  have B:(((k+1:Nat):Int))=(k:Int)+1:=by omega
  have g1:=λh=>by have:=Am aM (co aM a) (by omega) g j h;rwa[bF aM,bF aM]at this
  have n:=λh=>by have:=Am aM (co aM b) (by omega) g.symm j.symm h;rwa[bF aM,bF aM]at this
  simp(disch:=omega)only[go_sem,aaT,d.q,f.q,wr,u16,e,d.under,f.under];refine⟨λ_=>⟨⟨by omega,by omega⟩,⟨by omega,by omega⟩,λC=>⟨⟨by omega,by omega⟩,⟨by omega,by omega⟩,decide_eq_decide.2 ⟨λh=>g1 (by omega),λh=>Int.not_le.1 λq=>absurd (n (by omega)) (by omega)⟩⟩,λE=>⟨k,by omega,by omega,?_,_,_,_,rfl⟩⟩,λh=>absurd (by omega) h⟩;rw[rB (by omega),rB (i:=k) (by omega),j];congr 1;omega
 have o:¬(((ds 65536 a).length:Int)=((ds 65536 b).length)):=by omega
 have p:(((ds 65536 a).length:Int)<((ds 65536 b).length))↔a<b:=by refine⟨λh=>asx (by omega),λh=>?_⟩;have:=fV aM (ABV h);omega
 simp[go_sem,aaU,d.n,f.n,o,p]
def XW{a b i:Nat}(h:(ds 65536 a).drop i=ds 65536 b):(i<(ds 65536 a).length->b≠0/\(ds 65536 a)[i]! =b%65536)/\(¬i<(ds 65536 a).length->b=0)/\(ds 65536 a).drop (i+1)=ds 65536 (b/65536):=by
 by_cases c:i<(ds 65536 a).length
 ·rw[rB c]at h;have d:b≠0:=λe=>by rw[e,bE]at h;cases h
  rw[gF aM d]at h;obtain⟨f,g⟩:=ABO h;exact⟨λ_=>⟨d,f⟩,λq=>absurd c q,g⟩
 rw[T5 (by omega)]at h;have d:b=0:=(PB aM).1 h.symm;refine⟨λq=>absurd q c,λ_=>d,?_⟩;rw[T5 (by omega),d,Nat.zero_div,bE]
def wE{a:Nat}:Int.tmod (a:Int) 65536=((a%65536:Nat):Int):=rfl
def wF{a:Nat}:Int.tdiv (a:Int) 65536=((a/65536:Nat):Int):=rfl
def wG{o:List Nat}{v:Int}(h:o.length<1000000000):bY (bH [] 1 (o.map u16)) (bD [] .nil (o.map u16)) (.sv 1 [[.i .u16 v]]) 1 2 true=some (bD [] .nil (o.map u16++[[.i .u16 v]]),bH [] 1 (o.map u16++[[.i .u16 v]])):=by grind[m9,u16,D.flat]
structure XX(a b:Nat)(x y:D)(i:Nat)(s:St):Prop where h:∃a' b' n,∃o:List Nat,(ds 65536 a).drop i=ds 65536 a'/\(ds 65536 b).drop i=ds 65536 b'/\n<=1/\o.length=i/\o++ds 65536 (a'+b'+n)=ds 65536 (a+b)/\∃a1 a2 a3,s=⟨[x,y,.nil,a1,a2,a3,bD [] .nil (o.map u16),.i .i64 (n:Int),.i .i64 (i:Int)],bH [] 1 (o.map u16)⟩
def C7{a b:Nat}{x y:D}(F:bc a x)(G:bc b y)(P:(ds 65536 (a+b)).length<1000000000):∃d,ai VS 237 [x,y] d/\bc (a+b) d:=by
 have j:=F.sl;have k:=G.sl;refine aH.ex (.body yz rfl ?_);simp[go_sem,awd];refine ak.up (XX a b x y) (ds 65536 (a+b)).length ⟨a,b,0,[],rfl,rfl,by omega,rfl,rfl,.u,.u,.u,rfl⟩ ?_;rintro i s hi⟨c,f,n,o,H,I,Q,J,hs,q,r,t,rfl⟩;obtain⟨K,S,L⟩:=XW H;obtain⟨C,U,M⟩:=XW I;by_cases p:i<(ds 65536 (a+b)).length
 ·have w:c+f+n≠0:=λe=>by rw[e,bE,oy]at hs;rw[<-hs]at p;omega
  rw[gF aM w]at hs;have v:∀h,h=n+c%65536+f%65536->∀q r t,XX a b x y _ ⟨[x,y,.nil,q,r,t,bD [] .nil (o.map u16++[[.i .u16 ((h%65536:Nat))]]),.i .i64 _,.i .i64 (i+1)],bH [] 1 (o.map u16++[[.i .u16 ((h%65536:Nat))]])⟩:=λh V q r t=>by
   refine⟨c/65536,f/65536,h/65536,o++[h%65536],L,M,by omega,by simp[J],?_,q,r,t,?_⟩;·rw[<-hs,gC,show(c+f+n)%65536=h%65536 by omega,show(c+f+n)/65536=c/65536+f/65536+h/65536 by omega];rfl
   rw[eH];rfl
  by_cases N:i<(ds 65536 a).length
  ·have l:(i:Int)<(ds 65536 a).length:=by omega
   obtain⟨_,g1⟩:=K N;by_cases z:i<(ds 65536 b).length
   ·have g:(i:Int)<(ds 65536 b).length:=by omega
    obtain⟨_,A⟩:=C z;obtain⟨m,B⟩:∃m,m=n+c%65536+f%65536:=⟨_,rfl⟩;have g0:(n+((c%65536:Nat))+((f%65536:Nat):Int))=m:=by omega
    simp(disch:=omega)only[go_sem,simprocAttr,zI,j.n,k.n,j.q,k.q,u16,l,g,wr,g1,A,g0,wE,wF,mS,wG];exact⟨by omega,by omega,p,v _ B _ _ _⟩
   have g:¬(i:Int)<(ds 65536 b).length:=by omega
   obtain⟨m,B⟩:∃m,m=n+c%65536:=⟨_,rfl⟩;have g0:(n+((c%65536:Nat):Int))=m:=by omega
   simp(disch:=omega)only[go_sem,simprocAttr,zI,j.n,k.n,j.q,u16,l,g,wr,g1,g0,wE,wF,mS,wG];exact⟨by omega,p,v _ (by omega) _ _ _⟩
  have l:¬(i:Int)<(ds 65536 a).length:=by omega
  by_cases z:i<(ds 65536 b).length
  ·have g:(i:Int)<(ds 65536 b).length:=by omega
   obtain⟨_,A⟩:=C z;obtain⟨m,B⟩:∃m,m=n+f%65536:=⟨_,rfl⟩;have g0:(n+((f%65536:Nat):Int))=m:=by omega
   simp(disch:=omega)only[go_sem,simprocAttr,zI,j.n,k.n,k.q,u16,l,g,wr,A,g0,wE,wF,mS,wG];exact⟨by omega,p,v _ (by omega) _ _ _⟩
  have g:¬(i:Int)<(ds 65536 b).length:=by omega
  have c3:(0:Int)<n:=by omega
  simp(disch:=omega)only[go_sem,simprocAttr,zI,j.n,k.n,l,g,c3,wr,wE,wF,mS,wG];exact⟨p,v _ (by omega) _ _ _⟩
 have w:c+f+n=0:=by
  by_cases E:c+f+n=0;·exact E
  have:=ka List.length hs;rw[gF aM E]at this;simp at this;omega
 have l:¬(i:Int)<(ds 65536 a).length:=by omega
 have g:¬(i:Int)<(ds 65536 b).length:=by omega
 have c3:¬(0:Int)<n:=by omega
 simp only[go_sem,zI,j.n,k.n,l,g,c3];refine⟨?_⟩;rw[w,bE,oy]at hs;rw[<-hs];exact oH rfl 1 _
end
section
open Go.Dm
set_option maxRecDepth 10000
def asz{o:List Nat}{v:Nat}:o.map u16++[[D.i .u16 (v:Int)]]=(o++[v]).map u16:=by rw[eH];rfl
def asA{o:List Nat}(b:lm 65536 o)(c:o.length<1099511627776):∃d,bc (vl 65536 o) d/\∀{K:CR->Prop},(∀a,K (.ret d a))->ac VS 268 [bD [] .nil (o.map u16)] (bH [] 1 (o.map u16)) K:=by obtain⟨d,f,g⟩:=I6 (oH rfl 1 _ (x0:=.nil)) b c;obtain⟨a,e⟩:=akv (H0:=[]) (x0:=.nil) (w:=1) (rows:=o.map u16) rfl;refine⟨d,g,λ{K}i=>?_⟩;have h:=eU (K:=K) BZ rfl f e;simp[sB,show wX.own=false from rfl]at h;grind
structure XY(a b:Nat)(x y:D)(i:Nat)(s:St):Prop where h:∃c,∃o:List Nat,c<=1/\o.length=i/\lm 65536 o/\vl 65536 o+vl 65536 ((ds 65536 b).take i)=vl 65536 ((ds 65536 a).take i)+65536^i*c/\∃a1 a2 a3,s=⟨[x,y,.nil,a1,a2,bD [] .nil (o.map u16),.i .i64 (c:Int),.i .i64 (i:Int),a3],bH [] 1 (o.map u16)⟩
def asB{a b:Nat}{x y:D}(E:bc a x)(F:bc b y)(G:b<=a)(S:(ds 65536 a).length<1000000000):∃d,ai VS 239 [x,y] d/\bc (a-b) d:=by
 have e:=E.sl;have p:=F.sl;have H:=fV aM G;refine aH.ex (.body Ua rfl ?_);simp[go_sem,awf];refine ak.up (XY a b x y) (ds 65536 a).length ⟨0,[],by omega,rfl,ie,rfl,.u,.u,.u,rfl⟩ ?_;rintro i s hi⟨c,o,U,t,v,A,f,j,V,rfl⟩;by_cases k:i<(ds 65536 a).length
 ·have l:(i:Int)<(ds 65536 a).length:=by omega
  have W:=cF (co aM a) k;have B:∀n g,n+g+c=65536+(ds 65536 a)[i]!->g<65536->vl 65536 ((ds 65536 b).take _)=vl 65536 ((ds 65536 b).take i)+65536^i*g->∀f j,XY a b x y (i+1) ⟨[x,y,.nil,f,j,bD [] .nil (o.map u16++[[.i .u16 ((n%65536:Nat))]]),.i .i64 (1-((n/65536:Nat))),.i .i64 (i+1),.i .i64 _],bH [] 1 (o.map u16++[[.i .u16 ((n%65536:Nat))]])⟩:=λn g X Y I f j=>by
   refine⟨1-n/65536,o++[n%65536],by omega,by simp[t],Aj.2 ⟨v,jA.2 ⟨by omega,ie⟩⟩,?_,f,j,.i .i64 n,?_⟩
   ·rw[rA,fq k,I,t];simp only[vl,nu,l4];obtain⟨q,J⟩:∃q,q=n/65536:=⟨_,rfl⟩;obtain⟨r,hr⟩:∃r,r=n%65536:=⟨_,rfl⟩;have K:r+g+c=(ds 65536 a)[i]!+65536*(1-q):=by omega
    have L:=ka (65536^i*·) K;rw[<-J,<-hr];simp only[ABA]at L;have Z:65536^(i+1)*(1-q)=65536^i*(65536*(1-q)):=by rw[oa,xt]
    omega
   rw[asz,show(1-((n/65536:Nat)))=((1-n/65536:Nat):Int)by omega];rfl
  by_cases C:i<(ds 65536 b).length
  ·have w:(i:Int)<(ds 65536 b).length:=by omega
   have M:=cF (co aM b) C;obtain⟨m,N⟩:∃m,m=65536+(ds 65536 a)[i]!-c-(ds 65536 b)[i]!:=⟨_,rfl⟩;have g0:(65536+(((ds 65536 a)[i]!):Int)-c-(((ds 65536 b)[i]!:Nat)))=m:=by omega
   simp(disch:=omega)only[go_sem,simprocAttr,NX,e.n,p.n,e.q,p.q,u16,l,w,wr,g0,wE,wF,mS,wG];exact⟨by omega,by omega,k,B m _ (by omega) M (fq C) _ _⟩
  have w:¬(i:Int)<(ds 65536 b).length:=by omega
  obtain⟨m,N⟩:∃m,m=65536+(ds 65536 a)[i]!-c:=⟨_,rfl⟩;have g0:(65536+(((ds 65536 a)[i]!):Int)-c)=m:=by omega
  simp(disch:=omega)only[go_sem,simprocAttr,NX,e.n,p.n,e.q,u16,l,w,wr,g0,wE,wF,mS,wG];exact⟨by omega,k,B m 0 (by omega) (by omega) (by rw[E2 (by omega),E2 (by omega)];rfl) _ _⟩
 have l:¬(i:Int)<(ds 65536 a).length:=by omega
 obtain rfl:i=(ds 65536 a).length:=by omega
 rw[E2 (G1 _),E2 H,bF aM,bF aM]at A;obtain⟨d,z,P⟩:=asA v (by omega);simp[go_sem,NX,e.n,l];have Q:c=0:=by
  have:=dR aM v;rw[t]at this;rcases lu c 1 with h|h;·omega
  obtain rfl:c=1:=by omega
  omega
 rw[Q,nu]at A;rw[show vl 65536 o=a-b by omega]at z;refine P λH1=>?_;simp[go_sem];exact⟨d,iV z.sl.flat,z⟩
def XZ{w:List Nat}{n:Nat}{cp:Option Nat}(g:w.length=n)(a:lm 65536 w)(h:n<1099511627776):∃d,bc (vl 65536 w) d/\∀{K:CR->Prop},(∀b,K (.ret d b))->ac VS 268 [.mu 0 n 0 n] [.ar 1 (w.map u16) cp true false] K:=by obtain⟨d,c,e⟩:=I6 .im a (by omega);refine⟨d,e,λ{K}i=>?_⟩;have f:=eU (K:=K) BZ rfl c (args:=[.mu 0 n 0 n]) (H:=[.ar 1 (w.map u16) cp true false]) (H1:=[.ar 1 (w.map u16) cp true true]) (by show aW 12 _ _=_;grind[aO,u16,dM,f7,gK]);simp[sB,show wX.own=false from rfl]at f;grind
def X1{w:List Nat}{k v:Nat}(h:k<w.length):(w.set k v).drop k=v::w.drop (k+1):=by rw[AAf,E4 h,List.drop_append_of_le_length (by grind)];simp
def asC{n:Nat}(a:n<65536):∃d,bc n d/\∀{H:ab}{K:CR->Prop},(∀b,K (.ret d b))->ac VS 268 [.sv 1 [[.i .u16 (n:Int)]]] H K:=by obtain⟨d,c,f⟩:=I6 .im (jA.2 ⟨a,ie⟩) (by simp);refine⟨d,by grind[vl],λ{H K}g=>?_⟩;have e:=eU (K:=K) BZ rfl c (args:=[.sv 1 [[.i .u16 _]]]) (H:=H) (by constructor<;>grind);simp[sB,show wX.own=false from rfl]at e;grind
structure asD(a:Nat)(x:D)(k:Nat)(s:St):Prop where
 le:k<=(ds 65536 a).length
 h:∃n,∃w:List Nat,w.length=(ds 65536 a).length/\lm 65536 w/\n<65536*65536/\vl 65536 ((ds 65536 a).drop k)=2*vl 65536 (w.drop k)+n%2/\∃a2,s=⟨[x,.nil,a2,.i .i64 (n:Int),.i .i64 ((k:Int)-1),.mu 0 (ds 65536 a).length 0 (ds 65536 a).length],[.ar 1 (w.map u16) (some (ds 65536 a).length) true false]⟩
def asE{a:Nat}{x:D}(i:bc a x)(o:(ds 65536 a).length<1000000000):∃d,ai VS 238 [x] d/\bc (a/2) d:=by
 have g:=i.sl;refine aH.ex (.body T9 rfl ?_);simp(disch:=omega)only[go_sem,awe,g.n,wr];refine⟨⟨⟨by omega,by omega⟩,⟨by omega,by omega⟩,by omega⟩,ak.loop (asD a x) _ ⟨G1 _,0,List.replicate (ds 65536 a).length 0,by simp,nX (by omega),by omega,?_,.u,?_⟩ ?_⟩;·rw[T5 (G1 _),T5 (by simp)];rfl
 ·rw[<-ET];rfl
 rintro k s⟨p,n,w,b,h,q,c,r,rfl⟩;rcases k with _|k;·simp[AAN]at c;rw[bF aM]at c;obtain⟨d,f,j⟩:=XZ (cp:=some (ds 65536 a).length) b h (by omega);rw[show vl 65536 w=a/2 by omega]at f;simp[go_sem,simprocAttr,aaX];refine j λt=>?_;simp[go_sem];exact⟨d,iV f.sl.flat,f⟩
 have e:((k:Int)+1-1)=k:=by omega
 have l:(0:Int)<=k:=by omega
 have v:(ds 65536 a)[k]!<65536:=cF (co aM a) (by omega);obtain⟨m,y⟩:∃m,m=n%2*65536+(ds 65536 a)[k]!:=⟨_,rfl⟩;have g0:(((n%2:Nat))*65536+(((ds 65536 a)[k]!):Int))=m:=by omega
 simp(disch:=omega)only[go_sem,simprocAttr,aaX,g.q,u16,e,wr,PG,PF,g0,mS,l,b,Ar];refine⟨by omega,by omega,by omega,k,by omega,⟨by omega,m,w.set k _,by simp[b],gG h (by omega),by omega,?_,_,rfl⟩⟩;rw[dJ (by omega),c,X1 (by omega),vl];omega
structure asF(a d:Nat)(x:D)(k:Nat)(s:St):Prop where
 le:k<=(ds 65536 a).length
 h:∃n,∃w:List Nat,w.length=(ds 65536 a).length/\lm 65536 w/\n<d/\vl 65536 ((ds 65536 a).drop k)=d*vl 65536 (w.drop k)+n/\∃a2,s=⟨[x,.i .i64 (d:Int),.nil,.nil,a2,.i .i64 (n:Int),.i .i64 ((k:Int)-1),.mu 0 (ds 65536 a).length 0 (ds 65536 a).length],[.ar 1 (w.map u16) (some (ds 65536 a).length) true false]⟩
def asG{a d:Nat}{x:D}(p:bc a x)(c:0<d)(H:d<65536)(I:(ds 65536 a).length<1000000000):∃t,ai VS 235 [x,.i .i64 (d:Int)] t/\∃q r,t=.tu [q,r]/\bc (a/d) q/\bc (a%d) r:=by
 have h:=p.sl;refine aH.ex (.body T8 rfl ?_);simp(disch:=omega)only[go_sem,awc,h.n,wr];refine⟨⟨⟨by omega,by omega⟩,⟨by omega,by omega⟩,by omega⟩,ak.loop (asF a d x) _ ⟨G1 _,0,List.replicate (ds 65536 a).length 0,by simp,nX (by omega),by omega,?_,.u,?_⟩ ?_⟩;·rw[T5 (G1 _),T5 (by simp)];rfl
 ·rw[<-ET];rfl
 rintro k s⟨J,n,w,f,j,l,b,K,rfl⟩;have y:¬((d:Int)=0):=by omega
 rcases k with _|k
 ·simp[AAN]at b;rw[bF aM]at b;obtain⟨q,g,z⟩:=XZ (cp:=some (ds 65536 a).length) f j (by omega);obtain⟨r,hr,A⟩:=asC (show n<65536 by omega);have B:vl 65536 w=a/d:=by rw[b,Nat.mul_add_div c,AAW l];rfl
  have C:n=a%d:=by rw[b,Nat.mul_add_mod_self_left,m0 l]
  rw[B]at g;rw[C]at hr;simp[go_sem,simprocAttr,aaR];refine z λL=>?_;simp(disch:=omega)[go_sem,simprocAttr,mS];refine A λM=>?_;simp only[go_sem,ah g.sl.flat,ah hr.sl.flat];exact⟨_,_,rfl,g,hr⟩
 have e:((k:Int)+1-1)=k:=by omega
 have E:(0:Int)<=k:=by omega
 have N:(ds 65536 a)[k]!<65536:=cF (co aM a) (by omega);obtain⟨m,P⟩:∃m,m=n*65536+(ds 65536 a)[k]!:=⟨_,rfl⟩;have g0:(n*65536+(((ds 65536 a)[k]!):Int))=m:=by omega
 have Q:m/d<65536:=by rw[AAD c];omega
 obtain⟨v,o⟩:∃v,v=m/d:=⟨_,rfl⟩;have F:((m:Int)).tdiv (d:Int)=v:=by rw[o];rfl
 simp(disch:=omega)only[go_sem,aaR,h.q,u16,e,wr,xn,F,g0,mS,E,y,f,Ar];refine⟨by omega,by omega,by omega,k,by omega,⟨by omega,m%d,w.set k v,by simp[f],gG j (by omega),mm _ c,?_,_,rfl⟩⟩;rw[dJ (by omega),b,X1 (by omega),vl,o];have:=AAT m d;obtain⟨V,G⟩:∃V,V=vl 65536 (w.drop (k+1)):=⟨_,rfl⟩;rw[<-G,ABA,ABA,Nat.mul_left_comm d 65536 V];omega
end
section
open Go.Dm
set_option maxRecDepth 10000
variable{x:Nat}
def zj{v a b:Nat}(h:v<=2*a+b)(c:(ds 65536 a).length<=x)(d:(ds 65536 b).length<=x):(ds 65536 v).length<=x+1:=by refine(jB aM).2 ?_;grind[jB]
def asH{n v:Nat}(h:2^n<=v)(a:(ds 65536 v).length<=x):n<16*x:=by
 have c:=(jB aM).1 a;have b:2^n<2^(16*x):=by rw[ACf];grind
 exact(Nat.pow_lt_pow_iff_right (by omega)).1 b
structure zl(r:Nat)(v:D)(H:ab):Prop where h:bc r v\/∃lk,v=.mu 0 (ds 65536 r).length 0 (ds 65536 r).length/\H=[.ar 1 ((ds 65536 r).map u16) none true lk]
def zl.fz{r:Nat}{v:D}{H:ab}(h:zl r v H):∃x b,bc r x/\zl r v b/\(∀ds:List D,(∀d∈ds,d.plain=true)->aW 12 H (v::ds)=some (x::ds,b))/\Dm.bS 11 H v=some (x,b):=by
 rcases h.h with a|⟨lk,rfl,rfl⟩;·exact⟨v,H,a,⟨.inl a⟩,λds c=>mj λd g=>(S2.1 g).elim (λe=>e▸a.pl) (c d),ah a.sl.flat _ _⟩
 have f:∀m,Dm.bS (m+3) [.ar 1 ((ds 65536 r).map u16) none true lk] (.mu 0 (ds 65536 r).length 0 (ds 65536 r).length)=some (.im 1 ((ds 65536 r).map u16),[.ar 1 ((ds 65536 r).map u16) none true true]):=λm=>by
  have i:aO [.ar 1 ((ds 65536 r).map u16) none true lk] 0 (ds 65536 r).length=some (1,(ds 65536 r).map u16,none,true,lk):=by simp[Dm.aO]
  rw[f7];simp[i,E2]
 refine⟨.im 1 _,_,⟨.im⟩,⟨.inr ⟨true,rfl,rfl⟩⟩,λds c=>?_,f 8⟩;rw[dM,f 8];dsimp only;rw[show aW 12 _ ds=_ from mj c]
structure asI(a b:Nat)(x y:D)(k:Nat)(s:St):Prop where h:∃(n:Nat)(d:D),bc (b*2^n) d/\k=a+1-b*2^n/\b*2^n<=2*a+b/\∃a4 a5,s=⟨[x,y,.nil,.nil,a4,a5,.u,.u,.u,.i .i64 (n:Int),d,.u,.u,.u,.u,.u],[]⟩
structure asJ(b n:Nat)(x y dz:D)(i:Nat)(s:St):Prop where h:∃d,bc (b*2^i) d/\∃a4 a5 a6,s=⟨[x,y,.nil,.nil,a4,a5,a6,.u,.u,.i .i64 (n:Int),dz,d,.i .i64 (i:Int),.u,.u,.u],[]⟩
structure asK(a b n:Nat)(x y dz:D)(j:Nat)(s:St):Prop where h:∃d q r qv rv H,bc (b*2^(n-j)) d/\bc q qv/\zl r rv H/\r<b*2^(n-j)/\q*(b*2^(n-j))+r=a/\∃a4 a5 a6 a7 a8 a12,s=⟨[x,y,.nil,.nil,a4,a5,a6,a7,a8,.i .i64 (n:Int),dz,d,a12,qv,rv,.i .i64 (j:Int)],H⟩
def asL:bc 1 (.im 1 [[.i .u16 1]]):=⟨by rw[gF aM (by omega),bE];exact .im⟩
def asM{a b:Nat}{x y:D}(F:bc a x)(Q:bc b y)(S:0<b){m:Nat}(hm:m<10000000)(G:(ds 65536 a).length<=m)(I:(ds 65536 b).length<=m):∃t,ai VS 196 [x,y] t/\∃q r,t=.tu [q,r]/\bc (a%b) r:=by
 have h1:=F.sl;have U:=Q.sl;refine aH.ex (.body Ty rfl ?_);by_cases c1:(ds 65536 b).length=1
 ·have ax:=by have:=(jB aM (n:=b) (k:=1)).1 (by omega);simpa using this
  have g:(ds 65536 b)[0]! =b:=by rw[gF aM (by omega)];simp;omega
  obtain⟨t,ht,q,r,rfl,A,hr⟩:=asG F S ax (by omega);have e1:=λ{H K}=>ht.c (H:=H) (K:=K) T8 rfl (by simp[F.pl,aZ]) (.inl rfl);have V:((ds 65536 b).length:Int)=1:=by omega
  simp(disch:=omega)only[go_sem,simprocAttr,aav,U.n,V,U.q,u16,g,wr,e1,ah A.sl.flat,ah hr.sl.flat];exact⟨_,_,rfl,hr⟩
 have V:¬((ds 65536 b).length:Int)=1:=by omega
 simp[go_sem,aav,U.n,V];refine ak.loop (asI a b x y) (a+1-b) ⟨0,y,by simpa using Q,by simp,by simp,.b false,.u,rfl⟩ ?_;rintro k s⟨n,d,J,hk,am,a4,a5,rfl⟩;have ld:=zj am G I;have bo:1<=2^n:=ACc;have a1:2^n<=b*2^n:=Nat.le_mul_of_pos_left _ S;have hn:=asH a1 ld;have h:=λ{H K}=>(XV F J (by omega) (by omega)).c (H:=H) (K:=K) G8 rfl (by simp[F.pl,J.pl]) (.inl rfl);by_cases W:a<b*2^n
 ·have l:=Rp W;rw[l]at h;simp[go_sem,aar,h];have B:∀i,b*2^i+b*2^i=b*2^(i+1):=λi=>by rw[oa,<-Nat.mul_assoc];omega
  have an:∀i,i<=n->b*2^i<=2*a+b:=λi hi=>dG (gp _ (m4 (by omega) hi)) am;refine ak.up (asJ b n x y d) n ⟨y,by simpa using Q,_,_,_,rfl⟩ ?_;rintro i s hi⟨d1,M,b4,b5,b6,rfl⟩;by_cases ao:i<n
  ·have c3:(i:Int)<n:=by omega
   have bt:=zj (an (i+1) ao) G I;obtain⟨X,g1,o⟩:=C7 M M (by rw[B];omega);have C:=λ{H K}=>g1.c (H:=H) (K:=K) yz rfl (by simp[M.pl]) (.inl rfl);rw[B]at o;simp(disch:=omega)only[go_sem,aat,C,c3,wr];exact⟨ao,⟨X,o,_,_,_,rfl⟩⟩
  have c3:¬(i:Int)<n:=by omega
  obtain rfl:i=n:=by omega
  have ea:=BA (bytes:=2) (x0:=.z) rfl h1 (λ_=>rfl) (by omega) (by omega) (H:=[]);have hR:zl a (bD [] .z ((ds 65536 a).map u16)) (bH [] 1 ((ds 65536 a).map u16)):=by cases Y:ds 65536 a with|nil=>exact⟨.inl ⟨by rw[Y];exact .z rfl⟩⟩|cons u us=>exact⟨.inr ⟨false,by rw[Y];simp[bD],by rw[Y];rfl⟩⟩
  simp[go_sem,aat,ea];have w0:bc 0 .nil:=⟨by rw[bE];exact .nil rfl⟩;refine ak.up (asK a b i x y d) i ⟨d1,0,a,_,_,_,M,w0,hR,W,by omega,_,_,_,_,_,_,rfl⟩ ?_;rintro j s hj⟨d2,q,r,qv,Z,H,E,A,hr,aa,ad,t4,t5,t6,t7,t8,b2,rfl⟩;by_cases ap:j<i
  ·have c4:(j:Int)<i:=by omega
   obtain⟨f,p⟩:∃f,f=b*2^(i-(j+1)):=⟨_,rfl⟩;have a6:b*2^(i-j)=f+f:=by rw[p,B,show i-(j+1)+1=i-j by omega]
   have a7:1<=f:=by rw[p];exact dG S (ACJ _ ACc)
   rw[a6]at E aa ad;have b3:=zj (v:=f+f) (by have:=an (i-j) (by omega);omega) G I;have b7:=fV aM (show r<=a by omega);have b8:=fV aM (show f<=f+f by omega);have b9:q*(f+f)=q*f+q*f:=ABA _ _ _;have ca:q<=q*f:=ACJ _ a7;have cb:=zj (v:=q+q+1) (by omega) G I;obtain⟨d3,g1,w⟩:=asE E (by omega);rw[show(f+f)/2=f by omega]at w;have h:=λ{H K}=>g1.c (H:=H) (K:=K) T9 rfl (by simp[E.pl]) (.inl rfl);have cc:=fV aM (show q+q<=q+q+1 by omega);obtain⟨q2,o,ag⟩:=C7 A A (by omega);have C:=λ{H K}=>o.c (H:=H) (K:=K) yz rfl (by simp[A.pl]) (.inl rfl);obtain⟨xr,N,wl,ar,aj,_⟩:=hr.fz;have P:∀{K:CR->Prop},ac VS 236 [Z,d3] H K↔K (.ret (.b _) N):=λ{K}=>by have L:=eU (K:=K) G8 rfl (XV wl w (by omega) (by omega)) (aj [d3] (by simp[w.pl]));exact L
   by_cases al:r<f;·have l:=Rp al;rw[l]at P;simp(disch:=omega)only[go_sem,MZ,c4,h,C,P,wr];refine⟨ap,⟨d3,q+q,r,q2,Z,N,by rw[<-p];exact w,ag,ar,by rw[<-p];exact al,?_,_,_,_,_,_,_,rfl⟩⟩;rw[<-p,k6];omega
   have l:=N2 al;rw[l]at P;obtain⟨xs,H2,a8,ce,a9,_⟩:=ar.fz;obtain⟨e,g4,he⟩:=asB a8 w (by omega) (by omega);have f4:∀{K:CR->Prop},ac VS 239 [Z,d3] N K↔K (.ret e H2):=λ{K}=>by have L:=eU (K:=K) Ua rfl g4 (a9 [d3] (by simp[w.pl]));exact L
   obtain⟨q3,g5,bf⟩:=C7 ag asL (by omega);have f5:∀{H:ab}{K:CR->Prop},ac VS 237 [q2,.sv 1 [[.i .u16 1]]] H K↔K (.ret q3 H):=λ{H K}=>by have L:=eU (K:=K) yz rfl g5 (args:=[q2,.sv 1 [[.i .u16 1]]]) (H:=H) (H1:=H) (by show aW 12 _ _=_;have:=Bq 7 H (rs:=[[D.i .u16 1]]) (by simp[D.flat]);rw[dM,ah ag.sl.flat];dsimp only;rw[dM,f7];simp[this,gK]);exact L
   simp(disch:=omega)only[go_sem,simprocAttr,MZ,c4,h,C,P,f4,f5,wr];refine⟨ap,⟨d3,q+q+1,r-f,q3,e,H2,by rw[<-p];exact w,bf,⟨.inl he⟩,by omega,?_,_,_,_,_,_,_,rfl⟩⟩;rw[<-p,k6,k6];omega
  have c4:¬(j:Int)<i:=by omega
  obtain rfl:j=i:=by omega
  simp[ABH,Nat.pow_zero,AAQ]at aa ad;obtain⟨xr,N,wl,_,_,aj⟩:=hr.fz;have e5:r=a%b:=by rw[<-ad,Nat.mul_add_mod_self_right,m0 aa]
  rw[e5]at wl;simp[go_sem,MZ,ah A.sl.flat];refine⟨.tu [qv,xr],?_,_,_,rfl,wl⟩;rw[aj];simp[vB,yd,yf,gK]
 have l:=N2 W;rw[l]at h;have B:b*2^n+b*2^n=b*2^(n+1):=by rw[oa,<-Nat.mul_assoc];omega
 have E:b*2^(n+1)<=2*a+b:=by omega
 have cf:=zj E G I;obtain⟨X,g1,o⟩:=C7 J J (by rw[B];omega);have C:=λ{H K}=>g1.c (H:=H) (K:=K) yz rfl (by simp[J.pl]) (.inl rfl);rw[B]at o;simp(disch:=omega)only[go_sem,aar,h,C,wr];exact⟨a+1-b*2^(n+1),by omega,⟨n+1,X,o,rfl,E,_,_,rfl⟩⟩
end
section
open Go.Dm
set_option maxRecDepth 10000
structure asN(a b:Nat)(k:Nat)(s:St):Prop where h:∃u v x y,bc u x/\bc v y/\k=v/\Nat.gcd u v=Nat.gcd a b/\(ds 65536 u).length<=1024/\(ds 65536 v).length<=1024/\∃a3 a4,s=⟨[x,y,.nil,a3,a4],[]⟩
def asO{a b:Nat}{x y:D}(c:bc a x)(e:bc b y)(l:(ds 65536 a).length<=1024)(n:(ds 65536 b).length<=1024):∃d,ai VS 150 [x,y] d/\bc (Nat.gcd a b) d:=by
 refine aH.ex (.body Tm rfl ?_);simp(disch:=omega)only[go_sem,simprocAttr,avw];refine ak.loop (asN a b) b ⟨a,b,x,y,c,e,rfl,rfl,l,n,.u,.u,rfl⟩ ?_;rintro k s⟨u,v,x,y,c,e,rfl,f,g,i,z,A,rfl⟩;by_cases j:k=0
 ·subst j;have o:(ds 65536 0).length=0:=by rw[bE];rfl
  rw[ABp]at f;rw[f]at c;simp(disch:=omega)only[go_sem,simprocAttr,aad,e.sl.n,o];exact⟨_,iV c.sl.flat,c⟩
 have B:0<(ds 65536 k).length:=by
  rcases sn (ds 65536 k).length with h|h;·exact absurd ((PB aM).1 (kh.1 h)) j
  exact h
 obtain⟨t,g1,q,r,rfl,hr⟩:=asM c e (by omega) (m:=1024) (by omega) g i;have p:=λ{H K}=>g1.c (H:=H) (K:=K) Ty rfl (by simp[c.pl,e.pl]) (.inl rfl);have w:(0:Int)<((ds 65536 k).length:Int):=by omega
 simp(disch:=omega)only[go_sem,simprocAttr,aad,e.sl.n,w,p];exact⟨u%k,mm _ (by omega),⟨k,u%k,_,_,e,hr,rfl,by rw[<-f,AAZ u k,ACM k u,AAZ],i,dG (fV aM (Nat.mod_le _ _)) g,_,_,rfl⟩⟩
end
section
open Go.Dm
set_option maxRecDepth 10000
def asP{n:Nat}{x:D}(h:bc n x)(f:(ds 65536 n).length<1099511627776):ai VS 149 [x] (.b (n==1)):=by
 refine .body Tl rfl ?_;by_cases c:(ds 65536 n).length=1
 ·have i:=by have:=(jB aM (n:=n) (k:=1)).1 (by omega);simpa using this
  have d:n≠0:=λe=>by rw[e,bE]at c;cases c
  have g:(ds 65536 n)[0]! =n:=by rw[gF aM d];simp;omega
  have a:((ds 65536 n).length:Int)=1:=by omega
  have e:(n==1)=decide ((n:Int)=1):=by
   by_cases q:n=1;·simp[q]
   have:¬(n:Int)=1:=by omega
   simp[q,this]
  rw[e];simp[go_sem,simprocAttr,aab,h.sl.n,a,h.sl.q,u16,g];try simp
 have a:¬((ds 65536 n).length:Int)=1:=by omega
 have e:(n==1)=false:=by refine beq_eq_false_iff_ne.2 λq=>c ?_;rw[q,gF aM (by omega),bE];rfl
 rw[e];simp[go_sem,aab,h.sl.n,a]
def asQ{s t:Bool}{l m:List Nat}{x y:D}(h:Sl 1 (l.map u16) x)(d:Sl 1 (m.map u16) y):ai VS 148 [.ag [.b s,x,.b t,y]] (.b (decide (l.length<=256)&&decide (m.length<=256))):=by
 refine .body Tk rfl ?_;by_cases c:l.length<=256
 ·have a:(l.length:Int)<=256:=by omega
  have e:decide (m.length<=256)=decide ((m.length:Int)<=256):=decide_eq_decide.2 (by omega);simp[go_sem,simprocAttr,aaa,h.n,d.n,a,c,e,decide_true]
 have a:¬(l.length:Int)<=256:=by omega
 simp[go_sem,simprocAttr,aaa,h.n,a,c,decide_false]
def X2{neg:Bool}{l:List Nat}{x:D}(h:Sl 1 (l.map u16) x)(i:l.length<70368744177665):ai VS 147 [.ag [.b neg,x]] (.b (ia neg l)):=by refine .body GT rfl ?_;cases l with|nil=>simp[go_sem,Mf,h.n,ia]|cons a l=>
 generalize f:a::l=m at*;have j:m.length≠0:=by grind
 have d:¬(m.length:Int)=0:=by omega
 have g:ia neg m=(decide (m.length<=1024)&&decide (m[m.length-1]!≠0)):=by subst f;rfl
 rw[g];by_cases e:m.length<=1024
 ·have c:(m.length:Int)<=1024:=by omega
  simp(disch:=omega)only[go_sem,Mf,h.n,h.q,d,c,e,wr,u16];grind
 have c:¬(m.length:Int)<=1024:=by omega
 simp only[go_sem,Mf,h.n,d,c,e]
def asR{s t:Bool}{l m:List Nat}{x y:D}(h:Sl 1 (l.map u16) x)(d:Sl 1 (m.map u16) y)(q:lm 65536 l)(r:lm 65536 m)(u:l.length<70368744177665)(v:m.length<70368744177665):ai VS 104 [.ag [.b s,x,.b t,y]] (.b (cW s l t m)):=by have e:=λ{H K}=>(X2 (neg:=s) h u).c (H:=H) (K:=K) GT rfl (by simp[bO,cg,h.flat]) (.inl rfl);have f:=λ{H K}=>(X2 (neg:=t) d v).c (H:=H) (K:=K) GT rfl (by simp[bO,cg,d.flat]) (.inl rfl);have i:=λ{H K}=>(asQ (s:=s) (t:=t) h d).c (H:=H) (K:=K) Tk rfl (by simp[bO,cg,h.flat,d.flat]) (.inl rfl);refine .body Ta rfl ?_;cases j:ia s l with
 |false=>
 have a:cW s l t m=false:=by grind[cW]
 rw[j]at e;simp[go_sem,simprocAttr,wR,e,a]
 |true=>rw[j]at e;cases k:ia t m with|false=>
 have a:cW s l t m=false:=by grind[cW]
 rw[k]at f;simp[go_sem,simprocAttr,wR,e,f,a]|true=>rw[k]at f;cases n:(decide (l.length<=256)&&decide (m.length<=256))with
 |false=>
 have a:cW s l t m=false:=by grind[cW]
 rw[n]at i;simp[go_sem,simprocAttr,wR,e,f,i,a]
 |true=>rw[n]at i;cases t with|true=>
 have a:cW s l true m=false:=by simp[cW]
 simp[go_sem,simprocAttr,wR,e,f,i,a]|false=>
 by_cases E:m=[]
 ·have a:cW s l false m=false:=by grind[cW]
  have o:(m.length:Int)=0:=by grind
  simp[go_sem,simprocAttr,wR,e,f,i,d.n,o,a]
 have o:¬(m.length:Int)=0:=by simp_all
 obtain⟨_,_,_,w⟩:=xd h q j;obtain⟨_,_,_,z⟩:=xd d r k;simp[D0,Hq]at n;obtain⟨g,g1,p⟩:=asO ⟨by rw[w];exact h⟩ ⟨by rw[z];exact d⟩ (by grind) (by grind);have A:=λ{H K}=>g1.c (H:=H) (K:=K) Tm rfl (by simp[h.pl,d.pl]) (.inl rfl);have F:(ds 65536 (Nat.gcd (vl 65536 l) (vl 65536 m))).length<=m.length:=by
  have B:0<vl 65536 m:=by grind[vl,bE]
  have:=fV aM (ACD (vl 65536 l) B);grind
 have C:=λ{H K}=>(asP p (by omega)).c (H:=H) (K:=K) Tl rfl (by simp[p.pl]) (.inl rfl);have a:cW s l false m=(Nat.gcd (vl 65536 l) (vl 65536 m)==1):=by grind[cW]
 rw[a];simp only[go_sem,simprocAttr,wR,e,f,i,d.n,o,A,C]
def X3{s:Bool}{l:List Nat}{x:D}(h:Sl 1 (l.map u16) x):ai VS 103 [.ag [.b s,x],.ag [.b false,.nil]] (.b (!s&&decide (l=[]))):=by refine .body GP rfl ?_;have c:Sl 1 ([].map u16) .nil:=.nil rfl;cases s with|true=>simp[go_sem,simprocAttr,Lu]|false=>cases l with|nil=>simp[go_sem,simprocAttr,Lu,h.n,c.n];rw[bJ];simp[go_sem,simprocAttr,avg,h.n]|cons a l=>
 have d:¬((l.length:Int)+1=0):=by omega
 have e:decide (a::l=[])=false:=by simp
 simp[go_sem,simprocAttr,Lu,h.n,d]
def X4(f:RF):f.zero=((!f.s&&decide (f.l=[]))&&(!f.t&&decide (f.m=[]))):=by unfold RF.zero RF.eq;cases f.s<;>cases f.t<;>rfl
def asS(v:Vl):ai VS 73 [v.d,.ag [.i .u8 0,.b false,.nil,.b false,.nil,.i .i64 0]] (.b (v.eq default)):=by
 have a:=λ{H K}=>(X3 (s:=v.f.s) v.f.hx).c (H:=H) (K:=K) GP rfl (by simp[bO,cg,v.f.hx.flat,show D.nil.flat=true from rfl]) (.inl rfl);have g:=λ{H K}=>(X3 (s:=v.f.t) v.f.hy).c (H:=H) (K:=K) GP rfl (by simp[bO,cg,v.f.hy.flat,show D.nil.flat=true from rfl]) (.inl rfl);have e:v.eq default=((decide (v.k=0)&&((!v.f.s&&decide (v.f.l=[]))&&(!v.f.t&&decide (v.f.m=[]))))&&decide (v.i=0)):=by rw[<-X4];rfl
 rw[e];refine .body SU rfl ?_;simp only[Vl.d,Vl.cells];by_cases h:v.k=0
 ·have d:(v.k:Int)=0:=by omega
  by_cases f:v.i=0;·cases j:(!v.f.s&&decide (v.f.l=[]))with|false=>rw[j]at a;simp[go_sem,simprocAttr,DH,a];try simp|true=>simp only[go_sem,simprocAttr,DH,d,f,a,g];grind
  simp[go_sem,simprocAttr,DH,f];try simp
 have d:¬(v.k:Int)=0:=by omega
 simp[go_sem,simprocAttr,DH,h];try simp
theorem asT(v:Vl)(p:¬v.k=2)(q:¬v.k=3)(z1:v.f.l=[])(z2:v.f.m=[]):ak VS qX.body ⟨[.ag [.i .u8 v.k,.b false,v.f.x,.b false,v.f.y,.i .i64 v.i]]++uu (qX.nsl-qX.npar),[]⟩ (du qX.res (fE qX.own (·=.ret (.b (if v.k=1 then decide (0<=v.i/\v.i<=1)else if v.k=4 then decide (0<=v.i/\v.i<65536)else if v.k=5\/v.k=6 then decide (-1048576<=v.i/\v.i<=1048576)else false))))):=by
 have a:=λ{H:ab}=>v.f.hx.n (H:=H);have d:=λ{H:ab}=>v.f.hy.n (H:=H);have z3:(v.f.l.length:Int)=0:=by grind
 have z4:(v.f.m.length:Int)=0:=by grind
 have j:¬(v.k:Int)=2:=by omega
 have k:¬(v.k:Int)=3:=by omega
 by_cases f:v.k=1;·simp only[go_sem,simprocAttr,lf,f,a,d,z3,z4,wr];grind
 have l:¬(v.k:Int)=1:=by omega
 rw[E1 f];by_cases e:v.k=4
 · by_cases c:0<=v.i;·simp[go_sem,simprocAttr,lf,e,a,d,z3,z4,wr,c];try simp
   simp only[go_sem,simprocAttr,lf,e,a,d,z3,z4,wr,c];try simp
 have m:¬(v.k:Int)=4:=by omega
 rw[E1 e];by_cases g:v.k=5
 · by_cases c:-1048576<=v.i;·simp only[go_sem,simprocAttr,lf,g,a,d,z3,z4,wr,c];try simp
   simp only[go_sem,simprocAttr,lf,g,a,d,z3,z4,wr,c];try simp
 have n:¬(v.k:Int)=5:=by omega
 by_cases h:v.k=6
 · by_cases c:-1048576<=v.i;·simp only[go_sem,simprocAttr,lf,h,a,d,z3,z4,wr,c];try simp
   simp only[go_sem,simprocAttr,lf,h,a,d,z3,z4,wr,c];try simp
 have o:¬(v.k:Int)=6:=by omega
 rw[E1 (by omega)];simp[go_sem,simprocAttr,lf,l,j,k,m,n,o,a,d,z4]
def asU(v:Vl):ai VS 74 [v.d] (.b v.valid):=by
 have e:=λ{H K}=>(asR v.f.hx v.f.hy v.f.hl v.f.hm v.f.nl v.f.nm (s:=v.f.s) (t:=v.f.t)).c (H:=H) (K:=K) Ta rfl (by simp[bO,cg,v.f.hx.flat,v.f.hy.flat]) (.inl rfl);have f:=λ{H:ab}=>v.f.hx.n (H:=H);have g:=λ{H:ab}=>v.f.hy.n (H:=H);have j:=v.f.nl;have k:=v.f.nm;refine .body SW rfl ?_;unfold Vl.valid;unfold RF.v;simp only[Vl.d,Vl.cells];by_cases h:v.k=2;·by_cases c:v.i=0<;>simp[go_sem,lf,e,h,c]
 by_cases i:v.k=3;·by_cases c:v.i=0<;>simp[go_sem,lf,e,i,c]
 have a:¬(v.k:Int)=2:=by omega
 have d:¬(v.k:Int)=3:=by omega
 rw[E1 (by omega),X4];cases hs:v.f.s with|true=>simp[go_sem,lf,a,d]|false=>cases l:v.f.t with|true=>simp[go_sem,lf,a,d,hs]|false=>
 by_cases m:v.f.l.length+v.f.m.length=0;·have z1:v.f.l=[]:=kh.1 (by omega);have z2:v.f.m=[]:=kh.1 (by omega);grind[z3,z4,z1,z2,asT]
 have z4:(decide (v.f.l=[])&&decide (v.f.m=[]))=false:=by grind
 simp(disch:=omega)only[go_sem,simprocAttr,lf,a,d,f,g,z3,wr,hs];grind
end
section
open Go.Dm
set_option maxRecDepth 10000
def as1(f:Fc):ai VS 48 [.ag f.c] (.b f.right):=by
 have j:=λ{H K}=>(asS f.v).c (H:=H) (K:=K) SU rfl (by simp[f.v.pl,bO,jj,cg,show D.nil.flat=true from rfl]) (.inl rfl);have k:=λ{H K}=>(asU f.v).c (H:=H) (K:=K) SW rfl (by simp[f.v.pl]) (.inl rfl);have m:=f.hk;simp only[Vl.d,Vl.cells]at j k;refine .body SN rfl ?_;unfold Fc.right;simp only[Fc.c];by_cases a:(f.key.length:Int)<1
 ·have hr:¬f.rng:=λq=>by have:=q.1;omega
  simp(disch:=omega)only[go_sem,simprocAttr,pc,a,hr,decide_false,AAF]
 by_cases d:(24:Int)<(f.key.length:Int)
 ·have hr:¬f.rng:=λq=>by have:=q.2.1;omega
  simp(disch:=omega)only[go_sem,simprocAttr,pc,a,d,hr,decide_false,AAF]
 by_cases c3:f.frm<0
 ·have hr:¬f.rng:=λq=>by have:=q.2.2.1;omega
  simp(disch:=omega)only[go_sem,simprocAttr,pc,a,d,c3,hr,decide_false,AAF]
 by_cases e:f.to<=f.frm
 ·have hr:¬f.rng:=λq=>by have:=q.2.2.2.1;omega
  simp(disch:=omega)only[go_sem,simprocAttr,pc,a,d,c3,e,hr,decide_false,AAF]
 by_cases g:65536<f.to
 ·have hr:¬f.rng:=λq=>by have:=q.2.2.2.2.1;omega
  simp(disch:=omega)only[go_sem,simprocAttr,pc,a,d,c3,e,g,hr,decide_false,AAF]
 by_cases h:f.known<0
 ·have hr:¬f.rng:=λq=>by have:=q.2.2.2.2.2.1;omega
  simp(disch:=omega)only[go_sem,simprocAttr,pc,a,d,c3,e,g,h,hr,decide_false,AAF]
 by_cases i:65536<=f.known
 ·have hr:¬f.rng:=λq=>by have:=q.2.2.2.2.2.2;omega
  simp(disch:=omega)only[go_sem,simprocAttr,pc,a,d,c3,e,g,h,i,hr,decide_false,AAF]
 have hr:f.rng:=⟨by omega,by omega,by omega,by omega,by omega,by omega,by omega⟩;cases l:f.gone with|true=>simp(disch:=omega)only[go_sem,simprocAttr,pc,a,d,c3,e,g,h,i,hr,l,j,decide_true,wy,if_true]|false=>simp(disch:=omega)only[go_sem,simprocAttr,pc,a,d,c3,e,g,h,i,hr,l,k,decide_true,wy,if_true,AAY,if_false]
def oZ(f g:Fc):Prop:=f.key=g.key->f.gone=false->g.gone=false->f.v.k=g.v.k
structure as2(l:List Fc)(x:D)(i:Nat)(s:St):Prop where
 r:∀j,j<i->l[j]!.right=true/\∀k,k<j->oZ l[k]! l[j]!
 h:∃a2 a3 a4 a5 a6 a8,s=⟨[x,.b false,a2,a3,a4,a5,a6,.i .i64 (i:Int),a8],[]⟩
structure X6(l:List Fc)(x:D)(i:Nat)(k:Nat)(s:St):Prop where
 r:∀j,j<k->oZ l[j]! l[i]!
 h:∃a2 a3 a4 a5 a6,s=⟨[x,.b false,a2,a3,a4,a5,a6,.i .i64 (i:Int),.i .i64 (k:Int)],[]⟩
def X7{l P:List Fc}{m:List (Nm×Nat)}(j:∀key,f9 m key≠0->∃f∈P,f.key=key/\f.gone=false/\f.v.k=f9 m key)(k:∀f∈l,f.gone=true->f.v.k=0)(h:∀f∈P++l,∀g∈l,oZ f g\/oZ g f):gX l m=true:=by induction l generalizing P m with|nil=>rfl|cons f l p=>
 have b:nB m f=true->False:=λb=>by
  unfold nB at b;simp only[D0,Hq,k7,ne_eq]at b;obtain⟨g,g1,i,n,o⟩:=j f.key b.1.1;rcases h g (TA.2 (.inl g1)) f N1 with q|q;·exact b.2 (o▸q i n b.1.2)
  exact b.2 (o▸(q i.symm b.1.2 n).symm)
 unfold gX;rw[E1 b];refine p (P:=P++[f]) (λkey d=>?_) (λg e=>k g (M0 _ e)) λa r g e=>h a (by simpa using r) g (M0 _ e);unfold oQ at d⊢;rw[Cp]at d⊢;by_cases c:key=f.key;·subst c;rw[E4 rfl]at d⊢;cases e:f.gone with|true=>rw[k f N1 e,Nat.max_zero]at d⊢;obtain⟨g,g1,i⟩:=j _ d;exact⟨g,TA.2 (.inl g1),i⟩|false=>
  refine⟨f,by simp,rfl,e,?_⟩;by_cases z:f9 m f.key=0;·omega
  have:f9 m f.key=f.v.k:=Decidable.not_not.1 λq=>b (by simp[nB,z,e,q]);omega
 rw[E1 c]at d⊢;obtain⟨g,g1,i⟩:=j _ d;exact⟨g,TA.2 (.inl g1),i⟩
def X8{l:List Fc}{x:D}(a:Sl 11 (l.map Fc.c) x)(J:l.length<1000000000000000):∃b,ai VS 23 [x] (.b b)/\(b=true->dP l=true):=by
 suffices h:∃r,ai VS 23 [x] r/\∃b,r=.b b/\(b=true->dP l=true)by obtain⟨_,g1,b,rfl,G⟩:=h;exact⟨b,g1,G⟩
 refine aH.ex (.body GH rfl ?_);by_cases C:(2000:Int)<(l.length:Int);·simp(disch:=omega)only[go_sem,simprocAttr,Zr,a.n,C]
 simp(disch:=omega)only[go_sem,simprocAttr,Zr,a.n,C];refine ak.up (as2 l x) l.length ⟨λj h=>absurd h (ACK _),_,_,_,_,_,_,rfl⟩ ?_;rintro i s hi⟨hr,L,M,N,Q,S,U,rfl⟩;by_cases I:i<l.length
 ·have p:(i:Int)<(l.length:Int):=by omega
  have o:=λ{H K}=>(as1 l[i]!).c (H:=H) (K:=K) SN rfl (by rw[AAb,l[i]!.pl];rfl) (.inl rfl);obtain⟨f,d⟩:∃f,f=l[i]!:=⟨_,rfl⟩;rw[<-d]at o;simp only[Fc.c]at o;cases v:f.right with|false=>rw[v]at o;simp(disch:=omega)only[go_sem,simprocAttr,JS,a.n,p,a.q,<-d,Fc.c,o];omega|true=>
  rw[v]at o;simp(disch:=omega)only[go_sem,simprocAttr,JS,a.n,p,a.q,<-d,Fc.c,o];refine⟨by omega,ak.up (X6 l x i) i ⟨λj h=>absurd h (ACK _),_,_,_,_,_,rfl⟩ ?_⟩;rintro k s t⟨E,w,y,z,A,B,rfl⟩;by_cases V:k<i
  ·have c3:(k:Int)<(i:Int):=by omega
   obtain⟨g,e⟩:∃g,g=l[k]!:=⟨_,rfl⟩;have u:oZ g f->∀w y z A B,X6 l x i (k+1) ⟨[x,.b false,w,y,z,A,B,.i .i64 (i:Int),.i .i64 ((k:Int)+1)],[]⟩:=λm w y z A B=>⟨λj n=>by
  by_cases q:j<k;·exact E j q
  obtain rfl:j=k:=by omega
  rw[<-e,<-d];exact m,_,_,_,_,_,rfl⟩;by_cases d1:g.key=f.key;·cases d2:g.gone with
  |true=>
 simp(disch:=omega)only[go_sem,simprocAttr,wP,c3,a.q,<-d,<-e,Fc.c,d1,d2,a.under,wr];have m:oZ g f:=λ_ h _=>by rw[d2]at h;cases h
 repeat' apply And.intro
 all_goals first|omega|exact u m _ _ _ _ _
  |false=>cases d3:f.gone with
 |true=>
 simp(disch:=omega)only[go_sem,simprocAttr,wP,c3,a.q,<-d,<-e,Fc.c,d1,d2,d3,a.under,wr];have m:oZ g f:=λ_ _ h=>by rw[d3]at h;cases h
 repeat' apply And.intro
 all_goals first|omega|exact u m _ _ _ _ _
   |false=>
    by_cases d4:(g.v.k:Int)=(f.v.k:Int)
    ·simp(disch:=omega)only[go_sem,simprocAttr,wP,c3,a.q,<-d,<-e,Fc.c,d1,d2,d3,d4,a.under,wr];have m:oZ g f:=λ_ _ _=>by omega
     repeat' apply And.intro
     all_goals first|omega|exact u m _ _ _ _ _
    simp(disch:=omega)only[go_sem,simprocAttr,wP,c3,a.q,<-d,<-e,Fc.c,d1,d2,d3,d4,a.under,wr];repeat' apply And.intro
    all_goals omega
   simp(disch:=omega)only[go_sem,simprocAttr,wP,c3,a.q,<-d,<-e,Fc.c,d1,a.under,wr];have m:oZ g f:=λh=>absurd h d1;repeat' apply And.intro
   all_goals first|omega|exact u m _ _ _ _ _
  have c3:¬(k:Int)<(i:Int):=by omega
  obtain rfl:k=i:=by omega
  simp(disch:=omega)only[go_sem,simprocAttr,wP,c3,wr];refine⟨I,⟨λj n=>?_,_,_,_,_,_,_,rfl⟩⟩;by_cases q:j<k;·exact hr j q
  obtain rfl:j=k:=by omega
  exact⟨by rw[<-d];exact v,E⟩
 have p:¬(i:Int)<(l.length:Int):=by omega
 obtain rfl:i=l.length:=by omega
 simp(disch:=omega)only[go_sem,simprocAttr,JS,a.n,p];unfold dP;simp only[D0,Hq,TB];have F:∀f∈l,f.right=true:=λf d=>by obtain⟨j,n,rfl⟩:=kz.1 d;have:=(hr j n).1;rwa[Hy l j n]at this
 refine⟨⟨by omega,F⟩,X7 (P:=[]) (λkey h=>absurd rfl h) (λf d e=>?_) λf d g e=>?_⟩;·have:=F f d;unfold Fc.right at this;simp only[e,if_true,D0]at this;have:=this.2;unfold Vl.eq at this;simp only[D0,Hq]at this;exact this.1.1
 obtain⟨j,n,rfl⟩:=kz.1 (show f∈l from d);obtain⟨k,t,rfl⟩:=kz.1 e;rcases Nat.lt_trichotomy j k with q|rfl|q;·have:=(hr k t).2 j q;rw[Hy l j n,Hy l k t]at this;exact .inl this
 ·exact .inl λ_ _ _=>rfl
 have:=(hr j n).2 k q;rw[Hy l j n,Hy l k t]at this;exact .inr this
end
section
open Go.Dm
set_option maxRecDepth 10000
def Cz (f:FuncId) (ds:List D):Prop := ∃ n:Int,ai VS f ds (.i .i64 n)
def sS (f:FuncId) (ds:List D):Prop := ∃ b:Bool,ai VS f ds (.b b)
theorem sS.of {f:FuncId} {ds:List D} (h:aH VS f ds fun r => ∃ b,r = .ret (.b b)):sS f ds:=by
 obtain⟨n,h1,b,h2⟩:=h
 exact⟨b,n,h2⟩
theorem Cz.of {f:FuncId} {ds:List D} (h:aH VS f ds fun r => ∃ b,r = .ret (.i .i64 b)):Cz f ds:=by
 obtain⟨n,h1,b,h2⟩:=h
 exact⟨b,n,h2⟩
theorem sT {α:Type} [Inhabited α] {l:List α} {i:Nat} (h:i<l.length):l[i]! ∈ l:=by
 grind
theorem Ex.rpl (e:Ex):(D.ag [.i .u8 e.op,.s e.name,.i .u8 e.v.k,.b e.v.f.s,e.v.f.x,.b e.v.f.t,e.v.f.y,.i .i64 e.v.i,e.sl]).plain=true:=by
 have:=e.pl
 grind[Ex.d,Ex.row_eq]
theorem apN {e:Ex} (h:LX e) : ∀ most bG:Int,Cz 66 [e.d,.i .i64 most,.i .i64 bG]:=by
 induction h with | @mk e _ hl _ ih =>
 intro most bG
 refine .of (.body GM rfl ?_)
 simp only[Ex.d,Ex.row_eq]at ih ⊢
 by_cases c0:bG=0
 ·simp  [go_sem,ZD,c0]
  try exact⟨_,rfl⟩
 ·simp  [go_sem,ZD,c0,e.hsl.n]
  refine ak.up (fun i s => ∃ (n:Int) (a5 a6 a12:D),s=⟨[.ag [.i .u8 e.op,.s _,.i .u8 e.v.k,.b _,e.v.f.x,.b _,e.v.f.y,.i .i64 e.v.i,e.sl],.i .i64 most,.i .i64 bG,.i .i64 0,.b false,a5,a6,.i .i64 n,.bx [.i .u8 e.op,.s _,.i .u8 e.v.k,.b _,e.v.f.x,.b _,e.v.f.y,.i .i64 e.v.i,e.sl],.i .i64 i,.i .i64 _,e.sl,a12],[]⟩) e.args.length ⟨1,_,_,_,rfl⟩ ?_
  rintro i s hi ⟨n,a5,a6,a12,rfl⟩
  by_cases hlt:i<e.args.length
  ·have c1:(i:Int)<e.args.length:=by omega
   have c2:(0:Int) <= (i:Int):=by omega
   obtain⟨a,ha⟩ : ∃ a,a=e.args[i]! := ⟨_,rfl⟩
   obtain⟨k,hk⟩:=ih a (ha▸sT hlt) (IntKind.i64.wrap (most-n)) (IntKind.i64.wrap (bG-1))
   have e1:=fun{H K}=>hk.c (H:=H) (K:=K) GM rfl (by simp[a.rpl,aZ]) (.inl rfl)
   by_cases c3:n <= most
   ·simp(disch:=omega) only[go_sem,KC,c1,c2,c3,e.hsl.q, <- ha,Ex.row_eq,e1,wr]
    omega
   ·simp(disch:=omega) only[go_sem,KC,c1,c2,c3,e.hsl.q,Ex.row_eq,wr]
    omega
  ·have c1 : ¬ (i:Int)<e.args.length:=by omega
   simp  [go_sem,KC,c1]
theorem apO (v:Vl):sS 98 [v.d]:=by
 refine .of (.body S7 rfl ?_)
 have h1:=fun{H:ab}=>v.f.hx.n (H:=H)
 have h2:=fun{H:ab}=>v.f.hy.n (H:=H)
 simp only[Vl.d,Vl.cells]
 by_cases c:(v.f.l.length:Int) <= 8
 ·simp  only[go_sem,simprocAttr,ZU,h1,h2,c]
  try exact⟨_,rfl⟩
 ·simp  [go_sem,simprocAttr,ZU,h1,c]
  try exact⟨_,rfl⟩
theorem apP {e:Ex} (h:LX e):sS 67 [e.d]:=by
 induction h with | @mk e _ hl _ ih =>
 refine .of (.body GN rfl ?_)
 simp only[Ex.d,Ex.row_eq]at ih ⊢
 obtain⟨b,hb⟩:=apO e.v
 have e0:=fun{H K}=>hb.c (H:=H) (K:=K) S7 rfl (by simp[e.v.pl]) (.inl rfl)
 simp[Vl.d,Vl.cells]at e0
 cases b with
 | false =>
  simp  [go_sem,simprocAttr,ZF,e0]
  try exact⟨_,rfl⟩
 | true =>
  simp  only[go_sem,simprocAttr,ZF,e0,e.hsl.n]
  refine ak.up (fun i s => ∃ (a2 a3 a4 a9:D),s=⟨[.ag [.i .u8 e.op,.s _,.i .u8 e.v.k,.b _,e.v.f.x,.b _,e.v.f.y,.i .i64 e.v.i,e.sl],.b false,a2,a3,a4,.bx [.i .u8 e.op,.s _,.i .u8 e.v.k,.b _,e.v.f.x,.b _,e.v.f.y,.i .i64 e.v.i,e.sl],.i .i64 i,.i .i64 _,e.sl,a9],[]⟩) e.args.length ⟨_,_,_,_,rfl⟩ ?_
  rintro i s hi ⟨a2,a3,a4,a9,rfl⟩
  by_cases hlt:i<e.args.length
  ·have c1:(i:Int)<e.args.length:=by omega
   have c2:(0:Int) <= i:=by omega
   obtain⟨a,ha⟩ : ∃ a,a=e.args[i]! := ⟨_,rfl⟩
   obtain⟨k,hk⟩:=ih a (ha▸sT hlt)
   have e1:=fun{H K}=>hk.c (H:=H) (K:=K) GN rfl (by simp[a.rpl]) (.inl rfl)
   cases k with
   | true =>
    simp(disch:=omega) only[go_sem,KG,c1,c2,e.hsl.q, <- ha,Ex.row_eq,e1,wr]
    omega
   | false =>
    simp  [go_sem,KG,e.hsl.q, <- ha,Ex.row_eq,e1]
    try exact⟨_,rfl⟩
  ·have c1 : ¬ (i:Int)<e.args.length:=by omega
   simp  [go_sem,KG,c1]
   try exact⟨_,rfl⟩
theorem Ix {e:Ex} (h:LX e) (m:Int):Cz 44 [e.d,.i .i64 m]:=by
 obtain⟨k,hk⟩:=apN h m 24
 have e1:=fun{H K}=>hk.c (H:=H) (K:=K) GM rfl (by simp[e.pl,aZ]) (.inl rfl)
 refine .of (.body BJ rfl ?_)
 simp only[Ex.d,Ex.row_eq]at e1 ⊢
 simp  [go_sem,auS,e1]
 try exact⟨_,rfl⟩
theorem Wz {e:Ex} (h:LX e) (m:Int):sS 45 [e.d,.i .i64 m]:=by
 obtain⟨k,hk⟩:=Ix h m
 obtain⟨b,hb⟩:=apP h
 have e1:=fun{H K}=>hk.c (H:=H) (K:=K) BJ rfl (by simp[e.pl,aZ]) (.inl rfl)
 have e2:=fun{H K}=>hb.c (H:=H) (K:=K) GN rfl (by simp[e.pl]) (.inl rfl)
 refine .of (.body GJ rfl ?_)
 simp only[Ex.d,Ex.row_eq]at e1 e2 ⊢
 by_cases c:k <= m
 ·simp  [go_sem,Zx,e1,e2]
  try exact⟨_,rfl⟩
 ·simp  [go_sem,Zx,e1,c]
  try exact⟨_,rfl⟩
end
section
open Go.Dm
set_option maxRecDepth 10000
def wl:IntKind.i64.wrap 1=1:=by decide
def wr2:IntKind.i64.wrap 2=2:=by decide
section
variable{a0 a1 a3 a4 a5 a6 a7 a8 a9 a10 a11 a12 a13 a15 a16 a17 a18 a22 a23 a24 a25 a26 a27 a28 a29 a30 a31 a32 a33 a34 a35 v:D}{Q:Dm.Ex->St->Prop}
def apR{c:Cl}(u:LX c.w)(w:LX c.t)(x:v=.sv 9 [c.w.row,c.t.row]){L:Int}(F:∀M h j k l o p,Q (.ex 2) ⟨[a0,a1,.b false,a3,a4,h,j,a7,a8,a9,a10,a11,a12,a13,.i .i64 M,a15,a16,a17,a18,k,.i .i64 2,l,o,p,a24,a25,a26,a27,a28,a29,a30,a31,a32,a33,a34,a35],[]⟩)(G:∀h j y k l o p,Q .rt ⟨[a0,a1,.b false,a3,a4,h,j,a7,a8,a9,a10,a11,a12,a13,y,a15,a16,a17,a18,k,.i .i64 2,l,o,p,a24,a25,a26,a27,a28,a29,a30,a31,a32,a33,a34,a35],[]⟩):ak VS (.loop JJ) ⟨[a0,a1,.b false,a3,a4,a5,a6,a7,a8,a9,a10,a11,a12,a13,.i .i64 L,a15,a16,a17,a18,.i .i64 0,.i .i64 2,v,a22,a23,a24,a25,a26,a27,a28,a29,a30,a31,a32,a33,a34,a35],[]⟩ Q:=by
 subst x;have a:∀{H:ab},cG H (.sv 9 [c.w.row,c.t.row]) (.i .i64 0) 9=some _:=λ{_}=>rfl;have e:∀{H:ab},cG H (.sv 9 [c.w.row,c.t.row]) (.i .i64 1) 9=some _:=λ{_}=>rfl;obtain⟨n,z⟩:=Ix u L;obtain⟨b,A⟩:=Wz u L;have f:=λ{H K}=>z.c (H:=H) (K:=K) BJ rfl (by simp[c.w.pl,aZ]) (.inl rfl);have q:=λ{H K}=>A.c (H:=H) (K:=K) GJ rfl (by simp[c.w.pl,aZ]) (.inl rfl);obtain⟨M,B⟩:∃M,M=IntKind.i64.wrap (L-n):=⟨_,rfl⟩;obtain⟨m,C⟩:=Ix w M;obtain⟨d,E⟩:=Wz w M;have g:=λ{H K}=>C.c (H:=H) (K:=K) BJ rfl (by simp[c.t.pl,aZ]) (.inl rfl);have r:=λ{H K}=>E.c (H:=H) (K:=K) GJ rfl (by simp[c.t.pl,aZ]) (.inl rfl);simp[Ex.d,Ex.row_eq]at f q g r a e⊢;rw[bJ];by_cases s:L<n;·simp[go_sem,simprocAttr,JL,a,f,s];grind
 cases b with|false=>simp[go_sem,simprocAttr,JL,a,f,q,s];grind|true=>
 simp[go_sem,simprocAttr,JL,a,f,q,s,<-B,wl];rw[bJ];by_cases t:M<m;·simp[go_sem,simprocAttr,e,g,t];grind
 cases d with|false=>simp[go_sem,simprocAttr,e,g,r,t];grind|true=>simp[go_sem,simprocAttr,e,g,r,t,wr2];rw[bJ];simp[go_sem,simprocAttr];grind
end
structure sU(p:Pl)(l:List Fc):Prop where
 d:p.defs.length<=66
 c:p.cls.length<=16
 t:p.tabs.length<=18
 f:l.length<=30
def CA(p:Pl)(l:List Fc)(r:PR):Prop:=∃b,r=.ret (.b b)/\(b=true->sU p l)
section
variable{p:Pl}{l:List Fc}{x:D}
theorem apS(d:Sl 11 (l.map Fc.c) x)(j:sU p l){a3 a4 a5 a6 a7 a8 a9 a10 a11 a12 a14 a15 a16 a17 a18 a19 a20 a21 a22 a23 a24 a25 a26 a27 a28 a29 a30 a31 a35:D}:ak VS (.block 8 (.loop zr)) ⟨[.ag [.s p.name,p.dD,p.tD,p.cD],x,.b false,a3,a4,a5,a6,a7,a8,a9,a10,a11,a12,.bx [.s p.name,p.dD,p.tD,p.cD],a14,a15,a16,a17,a18,a19,a20,a21,a22,a23,a24,a25,a26,a27,a28,a29,a30,a31,.i .i64 0,.i .i64 l.length,x,a35],[]⟩ (kK VS (.seq (.reg [⟨.mov (.c (.b true)),some 2,none⟩] none) .ret) (du [.s 2] (fE false (CA p l)))):=by
 have t:=j.f;rw[vz];refine ak.up (λi s=>∃k m n:D,s=⟨[.ag [.s _,p.dD,p.tD,p.cD],x,.b false,a3,a4,a5,a6,a7,a8,a9,a10,k,m,.bx [.s p.name,p.dD,p.tD,p.cD],a14,a15,a16,a17,a18,a19,a20,a21,a22,a23,a24,a25,a26,a27,a28,a29,a30,a31,.i .i64 i,.i .i64 _,x,n],[]⟩) l.length ⟨_,_,_,rfl⟩ ?_;rintro i s hi⟨k,m,n,rfl⟩;by_cases u:i<l.length
 ·have a:(i:Int)<l.length:=by omega
  have r:(0:Int)<=i:=by omega
  obtain⟨f,e⟩:∃f,f=l[i]!:=⟨_,rfl⟩;have g:=λ{H}=>f.v.f.hx.n (H:=H);have o:=λ{H}=>f.v.f.hy.n (H:=H);by_cases c3:(4:Int)<f.v.f.l.length;·simp[go_sem,simprocAttr,Dz,a,c3,d.q,<-e,Fc.c,g];exact⟨false,rfl,λh=>by cases h⟩
  by_cases q:(4:Int)<f.v.f.m.length;·simp[go_sem,simprocAttr,Dz,a,c3,q,d.q,<-e,Fc.c,g,o];exact⟨false,rfl,λh=>by cases h⟩
  simp(disch:=omega)only[go_sem,simprocAttr,Dz,a,r,c3,q,d.q,<-e,Fc.c,g,o,wr];omega
 have a:¬(i:Int)<l.length:=by omega
 simp[go_sem,Dz,a];exact⟨true,rfl,λ_=>j⟩
end
section
variable{a0 a1 a3 a4 a5 a6 a7 a8 a9 a10 a11 a12 a13 a14 a15 a16 a17 a18 a19 a20 a21 a22 a23 a24 a25 a26 a27 a31 a32 a33 a34 a35:D}{Q:Dm.Ex->St->Prop}
def apT{u:Tb}(n:u.rows.length<=20)(o:∀a c g d,Q (.ex 6) ⟨[a0,a1,.b false,a3,a4,a5,a6,a7,a8,a,c,a11,a12,a13,a14,a15,a16,a17,a18,a19,a20,a21,a22,a23,a24,a25,a26,a27,g,.i .i64 u.rows.length,u.x,d,a32,a33,a34,a35],[]⟩)(p:∀a c g d,Q .rt ⟨[a0,a1,.b false,a3,a4,a5,a6,a7,a8,a,c,a11,a12,a13,a14,a15,a16,a17,a18,a19,a20,a21,a22,a23,a24,a25,a26,a27,g,.i .i64 u.rows.length,u.x,d,a32,a33,a34,a35],[]⟩):ak VS (.loop JN) ⟨[a0,a1,.b false,a3,a4,a5,a6,a7,a8,a9,a10,a11,a12,a13,a14,a15,a16,a17,a18,a19,a20,a21,a22,a23,a24,a25,a26,a27,.i .i64 0,.i .i64 u.rows.length,u.x,a31,a32,a33,a34,a35],[]⟩ Q:=by
 refine ak.up (λi s=>∃a c d:D,s=⟨[a0,a1,.b false,a3,a4,a5,a6,a7,a8,a,c,a11,a12,a13,a14,a15,a16,a17,a18,a19,a20,a21,a22,a23,a24,a25,a26,a27,.i .i64 i,.i .i64 _,u.x,d,a32,a33,a34,a35],[]⟩) u.rows.length ⟨_,_,_,rfl⟩ ?_;rintro i s hi⟨a,c,d,rfl⟩;by_cases q:i<u.rows.length
 ·have e:(i:Int)<u.rows.length:=by omega
  have m:(0:Int)<=(i:Int):=by omega
  obtain⟨f,h⟩:∃f,f=u.rows[i]!:=⟨_,rfl⟩;have j:=λ{H}=>f.f.hx.n (H:=H);have k:=λ{H}=>f.f.hy.n (H:=H);by_cases c3:(4:Int)<f.f.l.length;·simp[go_sem,simprocAttr,Dx,e,c3,u.hx.q,<-h,Rw.c,j];grind
  by_cases l:(4:Int)<f.f.m.length;·simp[go_sem,simprocAttr,Dx,e,c3,l,u.hx.q,<-h,Rw.c,j,k];grind
  simp(disch:=omega)only[go_sem,simprocAttr,Dx,e,m,c3,l,u.hx.q,<-h,Rw.c,j,k,wr];omega
 have e:¬(i:Int)<u.rows.length:=by omega
 simp[go_sem,Dx,e];grind
end
section
variable{p:Pl}{l:List Fc}{x:D}
theorem apU(t:Sl 11 (l.map Fc.c) x)(v:sU p l){a3 a4 a5 a6 a7 a8 a9 a10 a11 a12 a14 a15 a16 a17 a18 a19 a20 a21 a22 a23 a27 a28 a29 a30 a31 a32 a33 a34 a35:D}:ak VS (.block 4 (.loop Dy)) ⟨[.ag [.s p.name,p.dD,p.tD,p.cD],x,.b false,a3,a4,a5,a6,a7,a8,a9,a10,a11,a12,.bx [.s p.name,p.dD,p.tD,p.cD],a14,a15,a16,a17,a18,a19,a20,a21,a22,a23,.i .i64 0,.i .i64 p.tabs.length,p.tD,a27,a28,a29,a30,a31,a32,a33,a34,a35],[]⟩ (kK VS (.seq (.seq (.reg [⟨.mov (.s 1),some 34,none⟩,⟨.len 1 (.s 34),some 33,none⟩,⟨.mov (.c (.i .i64 0)),some 32,none⟩] none) (.block 8 (.loop zr))) (.seq (.reg [⟨.mov (.c (.b true)),some 2,none⟩] none) .ret)) (du [.s 2] (fE false (CA p l)))):=by
 have y:=v.t;have w:=λ{H:ab}=>t.n (H:=H);rw[vz];refine ak.up (λi s=>∃d e f g j k m n o:D,s=⟨[.ag [.s _,p.dD,p.tD,p.cD],x,.b false,a3,a4,a5,a6,d,e,f,g,a11,a12,.bx [.s p.name,p.dD,p.tD,p.cD],a14,a15,a16,a17,a18,a19,a20,a21,a22,a23,.i .i64 i,.i .i64 _,p.tD,j,k,m,n,o,a32,a33,a34,a35],[]⟩) p.tabs.length ⟨_,_,_,_,_,_,_,_,_,rfl⟩ ?_;rintro i s hi⟨d,e,f,g,j,k,m,n,o,rfl⟩;by_cases z:i<p.tabs.length
 ·have a:(i:Int)<p.tabs.length:=by omega
  have A:(0:Int)<=i:=by omega
  obtain⟨u,q⟩:∃u,u=p.tabs[i]!:=⟨_,rfl⟩;have r:=λ{H}=>u.hx.n (H:=H);by_cases c3:(20:Int)<u.rows.length;·simp[go_sem,JO,a,c3,p.ht.q,<-q,Tb.c,r];exact⟨false,rfl,λh=>by cases h⟩
  simp[go_sem,JO,a,c3,p.ht.q,<-q,Tb.c,r];refine apT (by omega) (λ_ _ _ _=>?_) λ_ _ _ _=>?_;·simp(disch:=omega)[go_sem,wr];omega
  simp[go_sem];exact⟨false,rfl,λh=>by cases h⟩
 have a:¬(i:Int)<p.tabs.length:=by omega
 simp[go_sem,JO,a,w];grind[vz,apS]
def apV(z:Sl 11 (l.map Fc.c) x)(r:sU p l)(t:∀c∈p.cls,LX c.w/\LX c.t){a3 a4 a5 a6 a7 a8 a9 a10 a11 a12 a18 a19 a20 a21 a22 a23 a24 a25 a26 a27 a28 a29 a30 a31 a32 a33 a34 a35:D}:ak VS (.block 0 (.loop JM)) ⟨[.ag [.s p.name,p.dD,p.tD,p.cD],x,.b false,a3,a4,a5,a6,a7,a8,a9,a10,a11,a12,.bx [.s p.name,p.dD,p.tD,p.cD],.i .i64 220,.i .i64 0,.i .i64 p.cls.length,p.cD,a18,a19,a20,a21,a22,a23,a24,a25,a26,a27,a28,a29,a30,a31,a32,a33,a34,a35],[]⟩ (kK VS (.seq (.seq (.reg [⟨.lfa (.sl 13) 2,none,none⟩,⟨.lld (.lo 0) 1 false,some 26,none⟩,⟨.len 1 (.s 26),some 25,none⟩,⟨.mov (.c (.i .i64 0)),some 24,none⟩] none) (.block 4 (.loop Dy))) (.seq (.seq (.reg [⟨.mov (.s 1),some 34,none⟩,⟨.len 1 (.s 34),some 33,none⟩,⟨.mov (.c (.i .i64 0)),some 32,none⟩] none) (.block 8 (.loop zr))) (.seq (.reg [⟨.mov (.c (.b true)),some 2,none⟩] none) .ret))) (du [.s 2] (fE false (CA p l)))):=by
 have A:=r.c;have u:=λ{H:ab}=>p.ht.n (H:=H);rw[vz];refine ak.up (λi s=>∃(L:Int)(d e f g j k m n o:D),s=⟨[.ag [.s _,p.dD,p.tD,p.cD],x,.b false,a3,d,e,f,a7,a8,a9,a10,a11,a12,.bx [.s p.name,p.dD,p.tD,p.cD],.i .i64 L,.i .i64 i,.i .i64 p.cls.length,p.cD,g,j,k,m,n,o,a24,a25,a26,a27,a28,a29,a30,a31,a32,a33,a34,a35],[]⟩) p.cls.length ⟨220,_,_,_,_,_,_,_,_,_,rfl⟩ ?_;rintro i s hi⟨L,d,e,f,g,j,k,m,n,o,rfl⟩;by_cases v:i<p.cls.length
 ·have a:(i:Int)<p.cls.length:=by omega
  have B:(0:Int)<=i:=by omega
  obtain⟨c,q⟩:∃c,c=p.cls[i]!:=⟨_,rfl⟩;obtain⟨w,y⟩:=t c (q▸sT v);simp[go_sem,simprocAttr,Zk,a,p.hc.q,<-q,Cl.row,Ex.row_eq,bN];refine apR w y (by grind[Ex.row_eq]) (λ_ _ _ _ _ _ _=>?_) λ_ _ _ _ _ _ _=>?_;·simp(disch:=omega)[go_sem,wr];omega
  simp[go_sem];exact⟨false,rfl,λh=>by cases h⟩
 have a:¬(i:Int)<p.cls.length:=by omega
 simp[go_sem,simprocAttr,Zk,a,u];rw[<-vz];grind[apU]
def WA(a:Sl 11 (l.map Fc.c) x)(i:p.defs.length<1000000000000000)(b:∀c∈p.cls,LX c.w/\LX c.t):aH VS 20 [p.d,x] (CA p l):=by
 have d:=λ{H:ab}=>a.n (H:=H);have e:=λ{H:ab}=>p.hd.n (H:=H);have f:=λ{H:ab}=>p.ht.n (H:=H);have g:=λ{H:ab}=>p.hc.n (H:=H);refine .body GG rfl ?_;unfold Pl.d;simp only[go_sem,simprocAttr,auA,d,e,f,g];repeat' first|(refine And.intro ?_ ?_)|intro _
 all_goals first|exact⟨false,rfl,λh=>by cases h⟩|(rw[<-vz];exact apV a ⟨by omega,by omega,by omega,by omega⟩ b)
structure nI(p:Pl)(l:List Fc)(d:Int):Prop where
 f:sU p l
 b:dW p l d=true
end
end
section
open Go.Dm
set_option maxRecDepth 10000
structure PA (M:af):Prop where
 p:M.pairs.length <= M.begun.length
 b:M.begun.length <= 4096
structure y6 (M:af):Prop where
 p:M.pairs.length <= M.begun.length+1
 b:M.begun.length <= 4096
theorem PA.pb1 {M:af} (h:PA M):y6 M:=⟨Nat.le_succ_of_le h.p,h.b⟩
inductive Gt (W:Wd):Tr -> Prop where
 | ret (v:NV):Gt W (.ret v)
 | err (e:Int):Gt W (.err e)
 | st {u:af -> af} {k:af -> Tr}:(∀ M,PA M -> PA (u M)) -> (∀ M,Gt W (k M)) -> Gt W (.st u k)
 | call {j:aL} {k:NV -> Tr}:(∀ v,Gt W (k v)) -> Gt W (.call j k)
 | op {p:Nm×Int} {k:Tr}:Gt W k -> Gt W (eY W p k)
theorem Gt.run {W:Wd} {f:aL -> af -> Option (NR×af)} (hf : ∀ j M r M',f j M=some (r,M') -> PA M -> y6 M' /\ ∀ v,r = .ok v -> PA M') {t:Tr} (h:Gt W t) : ∀ {M:af} {r:NR} {M':af},cI f t M=some (r,M') -> PA M -> y6 M' /\ ∀ v,r = .ok v -> PA M':=by
 induction h with
 | ret v=>intro M r M' e hM;cases e;exact⟨hM.pb1,fun _ _=>hM⟩
 | err e=>intro M r M' e hM;cases e;exact⟨hM.pb1,fun _ h=>by cases h⟩
 | st hu _ ih=>intro M r M' e hM;exact ih M e (hu M hM)
 | @call j k _ ih =>
  grind[cI]
 | @op p k _ ih =>
  intro M r M' e hM
  unfold eY at e<;>grind[eY,cI,y6,js,PA,kY]
theorem WB {W:Wd} {body:aL -> Tr} (hb : ∀ j,Gt W (body j)) : ∀ (n:Nat) (j:aL) (M:af) (r:NR) (M':af),gv body n j M=some (r,M') -> PA M -> y6 M' /\ ∀ v,r = .ok v -> PA M'
 | 0,_,_,_,_,h,_=>by cases h
 | n+1,j,M,r,M',h,hM=>(hb j).run (fun j M r M'=>WB hb n j M r M') h hM
section
variable {W:Wd} {O:bB}
theorem NR.gt (r:NR):Gt W r.tr:=by cases r<;>first|exact .ret _|exact .err _
theorem EQ.gt (k:Nat) (r:EQ):Gt W (r.tr k):=by cases r<;>first|exact .ret _|exact .err _
theorem apX {r:Nm×Int×Int} {M:af} (h:PA M):PA (gg r M):=⟨h.p,h.b⟩
theorem apY {r:Nm} {M:af} (h:PA M):PA (gy r M):=⟨h.p,h.b⟩
theorem WC {d:Int} {k:List NV -> Tr} (h : ∀ l,Gt W (k l)) : ∀ (l:List EN) (acc:List NV),Gt W (gZ d k l acc)
 | [],acc=>h acc
 | _::l,_ => .call fun _=>WC h l _
theorem WD {e:EN} {d:Int} {k:Bool -> Tr} (h : ∀ b,Gt W (k b)):Gt W (dX e d k) := .call fun v=>by
 split
 ·grind
 ·exact .err _
theorem Iy {d:Int} {k:Nat -> Tr} (h : ∀ c,Gt W (k c)) : ∀ (l:List (Nat×eK)) (c n:Nat),Gt W (bC d k l c n)
 | [],c,n=>by
  unfold bC
  repeat' first|exact .err _|exact h c|split
 | (i,x)::l,c,n=>WD fun b=>by
  split
  ·exact Iy h l _ _
  ·exact Iy h l _ _
theorem apZ (j:aL):Gt W (bk O W j):=by
 cases j with
 | term e d =>
  show Gt W (bM O W e d)
  unfold bM
  repeat' first|exact .ret _|exact .err _|exact .call fun v => .ret v|(refine WD fun b => ?_)|(refine WC (fun vs => ?_) _ _)|split
  ·unfold kX
   split
   ·exact .call fun v => .ret v
   ·exact .err _
  ·unfold cB fI eC fp
   repeat' first|exact NR.gt _|exact EQ.gt _ _|exact .ret _|exact .err _|(refine .st (fun _=>apX) fun _ => ?_)|(refine .st (fun _=>apY) fun _ => ?_)|split
 | pair nm d =>
  refine .st (fun _ h=>h) fun M => ?_
  split
  ·exact .ret _
  ·refine .op (Iy (fun c => .call fun v => ?_) _ _ _)
   split
   ·exact .st (fun _ h=>⟨h.p,h.b⟩) fun M => .ret _
   ·exact .err _
structure MB (M:af):Prop where
 p:M.pairs.length<1000000000
 f:M.facts.length<1000000000
 t:M.tabs.length<1000000000
theorem WE {B:BW} {K:Int} {Al:Nat -> Prop} (hc:Cx O B K Al) {nm:Nm} {d:Int} {r:NR} {M:af} (h:aN (bk O B.wd) (.pair nm d) af.nil r M):MB M:=by
 have h1:=h.cst hc.cst
 obtain⟨n,hn⟩:=h
 obtain⟨h2,_⟩:=WB (apZ (W:=B.wd)) n _ _ _ _ hn ⟨G1 _,by show 0 <= 4096;omega⟩
 have h3:=h1.p
 have h4:=h2.p
 have h5:=h2.b
 have h6:K*M.begun.length <= 100000*4096:=by
  rcases ACA K 0 with hk|hk
  ·have:K*M.begun.length <= 0:=Int.mul_nonpos_of_nonpos_of_nonneg (by omega) (by omega)
   omega
  ·exact Int.mul_le_mul hc.k (by omega) (by omega) (by omega)
 have h7:kQ K af.nil=0:=by simp[kQ,af.nil]
 have h8:eB (.pair nm d)=0:=rfl
 rw[h7,h8]at h3
 unfold kQ at h3
 constructor<;>grind
end
end
section
open Go.Dm
set_option maxRecDepth 10000
def WF{b:Bool}{n:Nat}{x y:D}(a:bc n x)(d:bc n y)(e:(ds 65536 n).length<70368744177665):ai VS 54 [.ag [.b b,x],.ag [.b b,y]] (.b true):=by have f:=λ{H K}=>(ayH a.sl d.sl e e).c (H:=H) (K:=K) SZ rfl (by simp[a.sl.pl,d.sl.pl]) (.inl rfl);refine .body GL rfl ?_;simp[go_sem,simprocAttr,auX,f]
def sV{v:NV}{y j:D}(h:VD v y)(l:VD v j)(k:(ds 65536 v.n.natAbs).length<70368744177665/\(ds 65536 v.m).length<70368744177665):ai VS 10 [y,j] (.b true):=by
 obtain⟨a,b,rfl,e,f⟩:=h.h;obtain⟨c,d,rfl,g,i⟩:=l.h;have m:=λ{H K}=>(WF (b:=decide (v.n<0)) e g k.1).c (H:=H) (K:=K) GL rfl (by simp[bO,cg,e.sl.flat,g.sl.flat]) (.inl rfl);have n:=λ{H K}=>(WF (b:=false) f i k.2).c (H:=H) (K:=K) GL rfl (by simp[bO,cg,f.sl.flat,i.sl.flat]) (.inl rfl);have o:∀{H K},ac VS 34 [.ag [.b (decide (v.n<0)),a,.b false,b],.ag [.b (decide (v.n<0)),c,.b false,d]] H K↔K (.ret (.b true) H):=λ{H K}=>by refine ai.c (.body SL rfl ?_) SL rfl (by simp[bO,cg,e.sl.flat,g.sl.flat,f.sl.flat,i.sl.flat]) (.inl rfl);simp[go_sem,simprocAttr,auJ,m,n]
 refine .body qz rfl ?_;simp[go_sem,simprocAttr,aus,o]
end
section
open Go.Dm
set_option maxRecDepth 10000
def IB{l:List Fc}(hr:dP l=true){key:Nm}{b:Int}{f:FN}(c:f∈cZ (l.map Fc.n) key b):∃g∈l,g.n=f/\g.key=key/\g.rng:=by obtain⟨d,e,_⟩:=H8 c;obtain⟨g,a,rfl⟩:=fT.1 d;have:=vT hr g a;unfold Fc.right at this;simp only[D0,Hq]at this;exact⟨g,a,rfl,e,this.1⟩
def qO{l:List Fc}(hr:dP l=true)(key:Nm)(a:Int):Canon (iD (cZ (l.map Fc.n) key a))/\∀d,bQ (iD (cZ (l.map Fc.n) key a)) d=gc (cZ (l.map Fc.n) key a) d:=VA λf b=>by obtain⟨g,_,rfl,_,q⟩:=IB hr b;exact q.2.2.2.1
end
end Go.Proofs.YtigbdbdlkoeadaaGreatDoor.Dv
