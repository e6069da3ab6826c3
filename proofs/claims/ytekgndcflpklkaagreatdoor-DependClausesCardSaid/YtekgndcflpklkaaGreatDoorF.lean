/-
  Part of the proof.
-/
import Derived.Test.YtekgndcflpklkaaGreatDoorE
set_option linter.all false
namespace Go.Proofs.YtekgndcflpklkaaGreatDoor.Dv
section
open Go.Dm
set_option maxRecDepth 10000
structure NV where
 k:Nat
 n:Int
 m:Nat
 i:Int deriving DecidableEq
instance:Inhabited NV:=⟨⟨0,0,0,0⟩⟩
structure VD(v:NV)(d:D):Prop where h:∃x y,d=.ag [.i .u8 v.k,.b (decide (v.n<0)),x,.b false,y,.i .i64 v.i]/\eL v.n.natAbs x/\eL v.m y
structure NV.ok(v:NV):Prop where
 k:1<=v.k/\v.k<=6
 f:v.k=2\/v.k=3->dP v.n v.m/\v.i=0
 o:¬(v.k=2\/v.k=3)->v.n=0/\v.m=0
 t:v.k=1->0<=v.i/\v.i<=1
 d:v.k=4->0<=v.i/\v.i<65536
 c:v.k=5\/v.k=6->-1048576<=v.i/\v.i<=1048576
def VD.pl{v:NV}{d:D}(h:VD v d):d.plain=true:=by obtain⟨x,y,rfl,a,b⟩:=h.h;simp[cE,jR,cZ,a.sl.flat,b.sl.flat]
def NV.ok.rng{v:NV}(h:v.ok):-1048576<=v.i/\v.i<=1048576:=by
 by_cases a:v.k=2\/v.k=3;·have:=(h.f a).2;omega
 by_cases b:v.k=1;·have:=h.t b;omega
 by_cases c:v.k=4;·have:=h.d c;omega
 have:=h.k;exact h.c (by omega)
def uH{x:D}(h:Sl 1 [] x):eL 0 x:=⟨by grind[cz]⟩
def Vl.nv(v:Vl):NV:=⟨v.k,ke v.f.s v.f.l,vl 65536 v.f.m,v.i⟩
def RF.zero_n{f:RF}(h:f.zero=true):f.s=false/\f.l=[]/\f.t=false/\f.m=[]:=by unfold RF.zero RF.eq at h;simp[D0,U3,Hq]at h;obtain⟨⟨a,b⟩,c,d⟩:=h;exact⟨a,b,c,d⟩
def Vl.nv_ok{v:Vl}(h:v.valid=true):VD v.nv v.d/\v.nv.ok:=by
 have n:v.f.zero=true->¬(v.k=2\/v.k=3)->VD v.nv v.d/\v.nv.n=0/\v.nv.m=0:=λq _=>by
  obtain⟨g,i,o,p⟩:=RF.zero_n q;have j:v.nv.n=0:=by show ke v.f.s v.f.l=0;rw[g,i];rfl
  have k:v.nv.m=0:=by show vl 65536 v.f.m=0;rw[p];rfl
  have l:=v.f.hx;have m:=v.f.hy;rw[i]at l;rw[p]at m;refine⟨⟨v.f.x,v.f.y,?_,?_,?_⟩,j,k⟩;·rw[j];simp only[Vl.d,Vl.cells,Vl.nv,g,o];rfl
  ·rw[j];exact uH l
  rw[k];exact uH m
 unfold Vl.valid at h;split at h
 ·rename_i f;simp[D0,Hq]at h;obtain⟨hi,r⟩:=h;obtain⟨g,i⟩:=v.f.fr r;obtain⟨x,y,e,l,m⟩:=g.h;simp only[RF.d,RF.cells,D.ag.injEq,qo,and_true]at e;obtain⟨j,k,s,t⟩:=e;subst k t;refine⟨⟨v.f.x,v.f.y,?_,l,m⟩,⟨?_,λ_=>⟨i,hi⟩,λd=>(d f).elim,λd=>?_,λd=>?_,λd=>?_⟩⟩;·simp only[Vl.d,Vl.cells,Vl.nv,j,s];rfl
  ·show 1<=v.k/\v.k<=6;omega
  all_goals(have d:v.nv.k=v.k:=rfl;omega)
 rename_i f;have u:v.nv.k=v.k:=rfl;split at h;·rename_i g;simp[D0,Hq]at h;obtain⟨a,b,c⟩:=n h.1 f;exact⟨a,⟨by omega,λd=>(f d).elim,λ_=>⟨b,c⟩,λ_=>h.2,λd=>by omega,λd=>by omega⟩⟩
 split at h;·rename_i g i;simp[D0,Hq]at h;obtain⟨a,b,c⟩:=n h.1 f;exact⟨a,⟨by omega,λd=>(f d).elim,λ_=>⟨b,c⟩,λd=>by omega,λ_=>h.2,λd=>by omega⟩⟩
 split at h;·rename_i g i o;simp[D0,Hq]at h;obtain⟨a,b,c⟩:=n h.1 f;exact⟨a,⟨by omega,λd=>(f d).elim,λ_=>⟨b,c⟩,λd=>by omega,λd=>by omega,λ_=>h.2⟩⟩
 grind
theorem VD.vl{v:NV}{d:D}(h:VD v d)(c:v.ok):∃a:Vl,a.d=d/\a.k=v.k/\a.i=v.i/\a.f.s=decide (v.n<0)/\a.f.l=ds 65536 v.n.natAbs/\a.f.t=false/\a.f.m=ds 65536 v.m:=by
 obtain⟨x,y,rfl,a,b⟩:=h.h;have e:(ds 65536 v.n.natAbs).length<70368744177665/\(ds 65536 v.m).length<70368744177665:=by
  by_cases f:v.k=2\/v.k=3;·have:=(c.f f).1;exact⟨l7 this.bn (by omega),l7 this.bm (by omega)⟩
  obtain⟨g,i⟩:=c.o f;rw[g,i,show(0:Int).natAbs=0 from rfl,cz];exact⟨by simp,by simp⟩
 exact⟨⟨v.k,⟨decide _,x,false,y,ds 65536 _,ds 65536 v.m,a.sl,b.sl,cH bY _,cH bY _,e.1,e.2⟩,v.i⟩,rfl,rfl,rfl,rfl,rfl,rfl,rfl⟩
theorem uN{a b:Nat}:ds 65536 a=ds 65536 b↔a=b:=⟨λh=>by grind[bX],λh=>by rw[h]⟩
theorem asj{a b:Int}{c e:Nat}:(((decide (a<0)==decide (b<0))&&decide (ds 65536 a.natAbs=ds 65536 b.natAbs))&&((false==false)&&decide (ds 65536 c=ds 65536 e)))=decide (a=b/\c=e):=by grind[uN]
def Yo{v w:NV}{d e:D}(h:VD v d)(j:VD w e)(l:v.ok)(o:w.ok):ai VS 60 [d,e] (.b (decide (v=w))):=by
 obtain⟨a,rfl,p,q,x,y,z,A⟩:=h.vl l;obtain⟨b,rfl,r,s,B,C,E,F⟩:=j.vl o;have c:=λ{H K}=>RF.same_c a.f b.f (H:=H) (K:=K);have e:a.f.eq b.f=decide (v.n=w.n/\v.m=w.m):=by grind[RF.eq,asj]
 rw[e]at c;refine .body wb rfl ?_;simp only[RF.d,RF.cells,Vl.d,Vl.cells]at c⊢;obtain⟨k,n,m,i⟩:=v;obtain⟨t,G,I,u⟩:=w;simp only at p q r s c;by_cases f:k=t
 ·have d1:(a.k:Int)=b.k:=by omega
  by_cases g:i=u
  ·have d2:a.i=b.i:=by omega
   simp[go_sem,simprocAttr,ur,d1,d2,c,NV.mk.injEq,f,g]
  have d2:¬a.i=b.i:=by omega
  simp[go_sem,simprocAttr,ur,d2,NV.mk.injEq,g,and_false]
 have d1:¬(a.k:Int)=b.k:=by omega
 simp[go_sem,simprocAttr,ur,d1,NV.mk.injEq,f,false_and]
def eX(e:Int):D:=.ifc 165 (.ag [.i .i64 e])
def Ci(V:au)(f:FuncId)(ds:List D)(p:D):Prop:=aE V f ds (·=.pan p)
theorem Ci.c{V:au}{f:FuncId}{vf:aH}{ds:List D}{p:D}{H:ab}{K:CR->Prop}(h:Ci V f ds p)(a:V.fn f=some vf)(b:vf.pure=true)(c:vf.own=false)(d:ds.all D.plain=true):ac V f ds H K↔K (.pan p H):=Cf (ac.pl a b c d (h.mono λr hr=>by grind))
inductive NR where|ok(v:NV)|er(e:Int)
def kR:NR->PR->Prop|.ok v,.ret d=>VD v d/\v.ok|.er e,.pan d=>d=eX e|_,_=>False
@[go_sem]def axy{v:NV}{d:D}:kR (.ok v) (.ret d)↔VD v d/\v.ok:=dG
variable{x:Int}
@[go_sem]def axz{d:D}:kR (.er x) (.pan d)↔d=eX x:=dG
theorem VD.cells{v:NV}{d:D}(h:VD v d):∃s x t y,d=.ag [.i .u8 v.k,s,x,t,y,.i .i64 v.i]/\s.flat=true/\x.flat=true/\t.flat=true/\y.flat=true:=by obtain⟨x,y,rfl,a,b⟩:=h.h;exact⟨_,_,_,_,rfl,rfl,a.sl.flat,rfl,b.sl.flat⟩
def ac.ans{f:FuncId}{j:aH}{ds:List D}{g:NR}{H:ab}{K:CR->Prop}(h:aE VS f ds (kR g))(k:VS.fn f=some j)(l:j.pure=true)(m:j.own=false)(n:ds.all D.plain=true)(o:∀v s x t y,g=.ok v->s.flat=true->x.flat=true->t.flat=true->y.flat=true->VD v (.ag [.i .u8 v.k,s,x,t,y,.i .i64 v.i])->v.ok->K (.ret (.ag [.i .u8 v.k,s,x,t,y,.i .i64 v.i]) H))(p:∀e,g=.er e->K (.pan (eX e) H)):ac VS f ds H K:=by refine ac.pl k l m n (h.mono λr hr=>?_);cases g with
 |ok v=>cases r with|ret d=>obtain⟨s,x,t,y,rfl,a,b,c,e⟩:=hr.1.cells;exact o v s x t y rfl a b c e hr.1 hr.2|pan d=>exact hr.elim|bad=>exact hr.elim
 |er e=>cases r with|ret d=>exact hr.elim|pan d=>rw[hr];grind|bad=>exact hr.elim
@[go_sem]def axA{H:ab}:Dm.bC 12 H (eX x)=some (eX x,H):=rfl
@[go_sem]def axB{d:D}{H:ab}:(∃x,(d,H)=(d,x))↔True:=by grind
def asl:Ci VS 91 [.i .i64 x] (eX x):=by refine .body PV rfl ?_;simp only[go_sem,aoS];exact⟨_,⟨_,rfl⟩,rfl⟩
def eB{e:Int}{H:ab}{K:CR->Prop}:ac VS 91 [.i .i64 e] H K↔K (.pan (eX e) H):=asl.c PV rfl rfl rfl
def ki{H:ab}{K:CR->Prop}:ac VS 135 [.i .i64 0] H K↔K (.ret (.tu []) H):=by refine ai.c (.body zI rfl ?_) zI rfl rfl (.inl rfl);simp[go_sem,VY]
def jB{e:Int}(h:e≠0){H:ab}{K:CR->Prop}:ac VS 135 [.i .i64 e] H K↔K (.pan (eX e) H):=by have a:=λ{H K}=>eB (e:=e) (H:=H) (K:=K);refine Ci.c (.body zI rfl ?_) zI rfl rfl rfl;simp[go_sem,VY,h,a]
def fK(b:Bool):NV:=⟨1,0,0,if b then 1 else 0⟩
def l8(b:Bool):D:=.ag [.i .u8 1,.b false,.nil,.b false,.nil,.i .i64 (if b then 1 else 0)]
def r9(b:Bool):VD (fK b) (l8 b)/\(fK b).ok:=⟨⟨.nil,.nil,rfl,uH (.nil rfl),uH (.nil rfl)⟩,⟨⟨Hk 1,by show 1<=6;decide⟩,λh=>(by grind[fK]),λ_=>⟨rfl,rfl⟩,λ_=>(by cases b<;>decide),λh=>(by cases h),λh=>(by grind[fK])⟩⟩
def asm(b:Bool):ai VS 106 [.b b] (l8 b):=by refine .body P0 rfl ?_;cases b<;>simp[go_sem,ao0]<;>rfl
def oc{b:Bool}{H:ab}{K:CR->Prop}:ac VS 106 [.b b] H K↔K (.ret (l8 b) H):=(asm b).c P0 rfl rfl (.inl rfl)
def uI(k:Nat)(n:Int):NR:=if n< -1048576\/1048576<n then .er 3 else .ok ⟨k,0,0,n⟩
def xO(n:Int):NR:=if n<0\/65536<=n then .er 30 else .ok ⟨4,0,0,n⟩
theorem NV.plain_ok{k:Nat}{n:Int}(d:k=4\/k=5\/k=6)(a:k=4->0<=n/\n<65536)(c:k≠4->-1048576<=n/\n<=1048576):VD ⟨k,0,0,n⟩ (.ag [.i .u8 k,.b false,.nil,.b false,.nil,.i .i64 n])/\(⟨k,0,0,n⟩:NV).ok:=⟨⟨.nil,.nil,rfl,uH (.nil rfl),uH (.nil rfl)⟩,⟨by grind,λh=>(by grind),λ_=>⟨rfl,rfl⟩,λh=>(by grind),λh=>a h,λh=>c (by grind)⟩⟩
def Cj{k:Nat}{n:Int}(d:k=5\/k=6):aE VS 136 [.i .u8 k,.i .i64 n] (kR (uI k n)):=by
 unfold uI;have c:=λ{H K}=>eB (e:=3) (H:=H) (K:=K);by_cases a:n< -1048576;·rw[G1 (.inl a)];refine aE.body nC rfl ?_;simp[go_sem,IR,a,c]
 by_cases b:1048576<n;·rw[G1 (.inr b)];refine aE.body nC rfl ?_;simp[go_sem,IR,b,c]
 rw[E1 (by omega)];refine aE.body nC rfl ?_;simp[go_sem,simprocAttr,IR,a,b];grind[NV.plain_ok]
def Mf{n:Int}:aE VS 140 [.i .i64 n] (kR (xO n)):=by
 unfold xO;have c:=λ{H K}=>eB (e:=30) (H:=H) (K:=K);by_cases a:n<0;·rw[G1 (.inl a)];refine aE.body o5 rfl ?_;simp[go_sem,IW,a,c]
 by_cases b:65536<=n;·rw[G1 (.inr b)];refine aE.body o5 rfl ?_;simp[go_sem,IW,b,c]
 rw[E1 (by omega)];refine aE.body o5 rfl ?_;simp[go_sem,simprocAttr,IW,a,b];grind[NV.plain_ok]
end
section
open Go.Dm
set_option maxRecDepth 10000
def kT(a:Nat):Int×Int:=if a=1\/a=2 then(0,0)else if a=5 then(1,1)else if a=6 then(1,2)else if a=15\/a=16 then(2,2)else if a=18 then(3,3)else if a=3\/a=4\/a=17\/a=24\/a=25\/a=26 then(1,1)else if a=22 then(3,3)else if 7<=a/\a<=23 then(2,2)else(1,0)
def xP(a:Nat):D:=.tu [.i .i64 (kT a).1,.i .i64 (kT a).2]
def asn:(List.range 256).map (λa:Nat=>iH VS 20 128 [.i .u8 (a:Int)])=(List.range 256).map (λa:Nat=>PR.ret (xP a)):=by kernel_rfl
variable{e:Nat}
def aso(h:e<256):ai VS 128 [.i .u8 e] (xP e):=by refine⟨20,?_⟩;have:=gb (λl=>l[e]?) asn;simp_all
def Yp{op:Nat}(h:op<256){H:ab}{K:CR->Prop}:ac VS 128 [.i .u8 op] H K↔K (.ret (xP op) H):=(aso h).c agK rfl rfl (.inl rfl)
def Ex.formed(e:Ex):Bool:=(if e.op=1 then e.v.valid else true)&&decide ((kT e.op).1<=e.args.length/\e.args.length<=(kT e.op).2)
def sc(e:Ex)(h:e.op<256):ai VS 105 [e.d] (.b e.formed):=by
 have d:=λ{H K}=>(Me e.v).c (H:=H) (K:=K) zG rfl (by simp[e.v.pl]) (.inl rfl);have a:=λ{H K}=>Yp h (H:=H) (K:=K);refine .body oZ rfl ?_;unfold Ex.formed;simp only[Ex.d,Ex.row_eq,Vl.d,Vl.cells,xP]at d a⊢;by_cases g:e.op=1;·have a:=λ{H K}=>Yp (op:=1) (by omega) (H:=H) (K:=K);simp[xP,Int.natCast_one]at a;cases i:e.v.valid with|false=>rw[i]at d;simp[go_sem,simprocAttr,xi,d,g]|true=>
  rw[i]at d;by_cases f:(kT 1).1<=e.args.length;·simp[go_sem,simprocAttr,xi,d,a,g,f,e.hsl.n]
  simp[go_sem,simprocAttr,xi,d,a,g,f,e.hsl.n,false_and]
 have d1:¬(e.op:Int)=1:=by omega
 by_cases f:(kT e.op).1<=e.args.length;·simp[go_sem,simprocAttr,xi,a,d1,g,f,e.hsl.n]
 simp[go_sem,simprocAttr,xi,a,d1,f,e.hsl.n,false_and]
def xQ:List UInt8:=[32]
inductive Splits:List UInt8->List (List UInt8)->Prop where|nil:Splits [] []|cons{r p q:List UInt8}{ps:List (List UInt8)}{b:Bool}:r≠[]->r.length<1000->Lib.cut r xQ=(p,q,b)->Splits q ps->Splits r (p::ps)
def Ck:Nat->List (List UInt8)|3|4|26=>[[52]]|6=>[[50],[50,50]]|7=>[[50,50],[51,51],[53,53],[54,54],[52,53],[52,54]]|8=>[[50,50],[51,51],[53,53],[54,54],[52,52],[52,53],[52,54]]|9=>[[50,50],[51,50],[50,51]]|10=>[[50,50],[51,51],[51,50]]|11|12|13=>[[50,50],[51,51],[52,52],[53,53],[54,54]]|14=>[[49,49],[50,50],[51,51],[52,52],[53,53],[54,54]]|17=>[[49]]|19=>[[50,50],[51,51]]|20|21|23=>[[52,52]]|22=>[[52,52,54]]|24=>[[50]]|25=>[[50],[51],[53],[54]]|_=>[]
def Cm:Nat->List UInt8->Option (List (List UInt8))|0,_=>none|n+1,r=>if r=[]then some []else if r.length<1000 then match Cm n (Lib.cut r xQ).2.1 with|some a=>some ((Lib.cut r xQ).1::a)|none=>none else none
def Yq:∀(n:Nat)(r:List UInt8)(a:List (List UInt8)),Cm n r=some a->Splits r a
 |0,_,_,h=>by cases h|n+1,r,a,h=>by
  unfold Cm at h;split at h;·rename_i e;cases h;subst e;exact .nil
  split at h
  ·rename_i e l;split at h;·rename_i c b;cases h;exact .cons e l rfl (Yq n _ _ b)
   grind
  grind
def asp:(List.range 27).map (λa=>Cm 20 lW[a]!)=(List.range 27).map (λa=>some (Ck a)):=by kernel_rfl
def asq(h:e<27):Splits lW[e]! (Ck e):=by refine Yq 20 _ _ ?_;have:=gb (λl=>l[e]?) asp;grind
def Mg(c:UInt8):Int:=IntKind.u8.wrap ((c.toNat:Int)-48)
def uJ(a:List Nat)(s:List UInt8):Bool:=decide (s.length=a.length/\∀j,j<a.length->Mg s[j]! =(a[j]!:Int))
def co(a:Nat)(b:List Nat):Bool:=decide (a<27)&&(decide (b≠[])&&(Ck a).any (uJ b))
def asr{s t:List UInt8}(h:s.length<LQ){H:ab}{K:CR->Prop}:ac VS 150 [.s s,.s t] H K↔K (.ret (.tu [.s (Lib.cut s t).1,.s (Lib.cut s t).2.1,.b (Lib.cut s t).2.2]) H):=ac.beside (by kernel_rfl) (by decide) (by show xB s t H=_;grind[xB])
theorem ass:lW.length=27:=by kernel_rfl
def ast(h:e<27):mX (VS.glob 0) (.i .u8 e) 27 1=some (.ip [.s lW[e]!]):=by
 show mX (some _) _ _ _=_;have a:(lW.map λs=>[D.s s])[e]?=some [.s lW[e]!]:=by grind[ass,lW]
 grind[eG,mX]
structure Inn(ks:List Nat)(s:List UInt8)(i:Nat)(b:Bool):Prop where e:b=decide (s.length=ks.length/\∀j,j<i->Mg s[j]! =(ks[j]!:Int))
section
variable{x:D}{α:Type}[Inhabited α]{enc:α->List D}{kd:α->Nat}{l:List α}
variable{y z a b c d:D}
def asv(k:∀a,∃r,enc a=.i .u8 (kd a)::r/\r.length=5)(h:Sl 6 (l.map enc) x)(B:l.length<100){p:List UInt8}{e f g:D}{Q:Dm.Ex->St->Prop}(C:∀e m,Q (.ex 2) ⟨[y,x,z,c,d,e,f,g,.s p,.b (uJ (l.map kd) p),m],[]⟩):ak VS (.loop IG) ⟨[y,x,z,c,d,e,f,g,.s p,.b (decide ((p.length:Int)=(l.length:Int))),.i .i64 0],[]⟩ Q:=by
 refine ak.up (λi s=>∃(b:Bool)(e:D),Inn (l.map kd) p i b/\s=⟨[y,x,z,c,d,e,f,g,.s p,.b b,.i .i64 i],[]⟩) l.length ⟨_,_,⟨?_⟩,rfl⟩ ?_;·grind
 rintro i s hi⟨b,E,⟨n⟩,rfl⟩;have done:i=l.length\/b=false->uJ (l.map kd) p=b:=λF=>by grind[uJ]
 cases b with|false=>simp[go_sem,IH];grind|true=>
 have o:=gA n.symm;rw[S2]at o;by_cases q:i<l.length
 ·have j:(i:Int)<l.length:=by omega
  have t:(0:Int)<=i:=by omega
  have u:(i:Int)<p.length:=by omega
  obtain⟨r,hr,G⟩:=k l[i]!;have v:D.under (0,[]) x=true:=h.under _;have w:IntKind.u8.wrap _=Mg p[i]!:=rfl;have A:IntKind.i64.wrap (i+1)=((i+1:Nat)):=by grind[wr]
  simp only[go_sem,simprocAttr,IH,h.n,h.q,t,j,u,v,hr,w,A];refine⟨q,⟨?_⟩⟩;grind
 have j:¬(i:Int)<(l.length:Int):=by omega
 simp[go_sem,IH,h.n,j];grind
def asw(F:∀a,∃r,enc a=.i .u8 (kd a)::r/\r.length=5)(h:Sl 6 (l.map enc) x)(Q:e<256)(G:l.length<100):ai VS 129 [.i .u8 e,x] (.b (co e (l.map kd))):=by
 refine .body P3 rfl ?_;unfold co;have g:IntKind.i64.wrap _=e:=wr (by omega) (by omega);by_cases d:e<27
 ·have d1:¬27<=(e:Int):=by omega
  have I:=ast d;by_cases J:l=[];·subst J;simp only[go_sem,IJ,g,d1,h.n,d];rfl
  have c3:¬(l.length:Int)=0:=by simp_all
  have S:l.map kd≠[]:=by simp_all
  simp only[go_sem,IJ,g,d1,h.n,d,c3,I];have hs:=asq d;obtain⟨r0,o⟩:∃r0,r0=lW[e]!:=⟨_,rfl⟩;obtain⟨f,u⟩:∃f,f=Ck e:=⟨_,rfl⟩;rw[<-o,<-u]at hs;rw[<-o,<-u];refine ak.loop (λk s=>∃(c:List _)(rest:List UInt8)(v w y z A B C:D),c.length=k/\Splits rest c/\f.any _=c.any (uJ (l.map kd))/\s=⟨[.i .u8 _,x,.b false,v,w,y,z,.s rest,A,B,C],[]⟩) _ ⟨f,r0,_,_,_,_,_,_,_,rfl,hs,rfl,rfl⟩ ?_;rintro k s⟨c,rest,v,w,y,z,A,B,C,L,j,m,rfl⟩;cases j with|nil=>simp[go_sem,VV,m,List.any_nil]|cons M N P j=>rename_i p q c b;have n:=λ{H K}=>asr (t:=xQ) (em N (by decide)) (H:=H) (K:=K);rw[P]at n;simp[xQ]at n;simp only[go_sem,VV,M,n,h.n];refine asv F h G (λU V=>?_);cases E:uJ (l.map kd) p with|true=>simp only[go_sem,m,List.any_cons,E,ACD];grind|false=>
  simp only[go_sem];refine⟨c.length,?_,c,rfl,q,j,?_⟩;·rw[<-L];exact Nat.lt_succ_self _
  simp only[m,List.any_cons,E,AAU,and_self]
 have d1:27<=(e:Int):=by omega
 simp[go_sem,IJ,g,d1,d]
end
end
section
open Go.Dm
set_option maxRecDepth 10000
def se(x y:NV):Int:=if x.k=2\/x.k=3 then cP (x.n*y.m) (y.n*x.m)else if x.i<y.i then-1 else if y.i<x.i then 1 else 0
def sf(k:Nat)(a:Int)(b:Nat):NR:=if(a/(Nat.gcd a.natAbs b:Nat)).natAbs<cap 256/\b/Nat.gcd a.natAbs b<cap 256 then .ok ⟨k,a/(Nat.gcd a.natAbs b:Nat),b/Nat.gcd a.natAbs b,0⟩else .er 3
def VD.cs{v:NV}{d:D}(h:VD v d):∃s x t y,d=.ag [.i .u8 v.k,s,x,t,y,.i .i64 v.i]/\Fr v.n v.m (.ag [s,x,t,y]):=by obtain⟨x,y,rfl,a,b⟩:=h.h;exact⟨_,_,_,_,rfl,⟨x,y,rfl,a,b⟩⟩
def VD.of{v:NV}{s x t y:D}(h:Fr v.n v.m (.ag [s,x,t,y])):VD v (.ag [.i .u8 v.k,s,x,t,y,.i .i64 v.i]):=by obtain⟨c,d,e,a,b⟩:=h.h;constructor<;>grind
def Yr{a:Int}{b:Nat}(c:b≠0)(h:(a/(Nat.gcd a.natAbs b:Nat)).natAbs<cap 256/\b/Nat.gcd a.natAbs b<cap 256):dP (a/(Nat.gcd a.natAbs b:Nat)) (b/Nat.gcd a.natAbs b):=by obtain⟨_,_,r3,r4,_,_⟩:=asd (n:=a) rfl c;constructor<;>grind
def NV.frac_ok{k:Nat}{n:Int}{m:Nat}(b:k=2\/k=3)(h:dP n m):(⟨k,n,m,0⟩:NV).ok:=⟨by grind,λ_=>⟨h,rfl⟩,λa=>(a b).elim,λa=>(by grind),λa=>(by grind),λa=>(by grind)⟩
def xR{k:Nat}{a:Int}{b:Nat}{r:D}(j:k=2\/k=3)(l:b≠0)(h:gf a b r):(∃s x t y n m,sf k a b=.ok ⟨k,n,m,0⟩/\r=.tu [.ag [s,x,t,y],.i .i64 0]/\s.flat=true/\x.flat=true/\t.flat=true/\y.flat=true/\VD ⟨k,n,m,0⟩ (.ag [.i .u8 k,s,x,t,y,.i .i64 0])/\(⟨k,n,m,0⟩:NV).ok)\/(sf k a b=.er 3/\r=.tu [n9,.i .i64 3]):=by
 unfold sf;obtain⟨d,⟨c,e,rfl,o⟩|⟨c,rfl⟩⟩:=h.h;·left;rw[G1 ⟨c,e⟩];obtain⟨x,y,rfl,f,g⟩:=o.h;exact⟨_,_,_,_,_,_,rfl,rfl,rfl,f.sl.flat,rfl,g.sl.flat,VD.of (v:=⟨k,_,_,0⟩) ⟨x,y,rfl,f,g⟩,NV.frac_ok j (Yr l ⟨c,e⟩)⟩
 grind
def Fr.pl4{n:Int}{m:Nat}{s x t y:D}(h:Fr n m (.ag [s,x,t,y])):s.flat=true/\x.flat=true/\t.flat=true/\y.flat=true:=by have:=h.pl;grind[cE]
def asx{x y:NV}{d e:D}(h:VD x d)(j:VD y e)(k:x.ok)(l:y.ok)(m:x.k=y.k):ai VS 171 [d,e] (.i .i64 (se x y)):=by
 obtain⟨n,o,t1,p,rfl,b⟩:=h.cs;obtain⟨q,r,s,t,rfl,f⟩:=j.cs;refine .body zM rfl ?_;unfold se;by_cases c:x.k=2\/x.k=3
 ·have g:=λ{H K}=>(uG b f (k.f c).1 (l.f (by omega)).1).c (H:=H) (K:=K) q8 rfl (by simp[b.pl,f.pl]) (.inl rfl);rw[G1 c];rcases c with c|c
  ·have d1:(x.k:Int)=2:=by omega
   simp[go_sem,simprocAttr,xn,d1,g]
  have d1:(x.k:Int)=3:=by omega
  simp[go_sem,simprocAttr,xn,d1,g]
 rw[E1 c];have d1:¬(x.k:Int)=2:=by omega
 have d2:¬(x.k:Int)=3:=by omega
 by_cases a:x.i<y.i;·simp[go_sem,simprocAttr,xn,d1,d2,a]
 by_cases u:y.i<x.i;·simp[go_sem,simprocAttr,xn,d1,d2,a]
 simp[go_sem,simprocAttr,xn,d1,d2,a]
def Mh(a:Nat)(x y:NV):NR:=let n:=if a=8 then-y.i else y.i;if x.k=4 then(if y.k=4 then uI 5 (x.i+n)else if y.k=5 then xO (x.i+n)else .er 0)else if x.k=5\/x.k=6 then uI x.k (x.i+n)else sf x.k (if a=8 then x.n*y.m+-(y.n*x.m)else x.n*y.m+y.n*x.m) (x.m*y.m)
def uK(x y:NV):Prop:=(x.k=y.k/\x.k≠1)\/(x.k=4/\y.k=5)
def asy{p:Nat}(r:p=7\/p=8){x y:NV}{d e:D}(Y:VD x d)(Z:VD y e)(z:x.ok)(M:y.ok)(hs:uK x y):aE VS 168 [.i .u8 p,d,e] (kR (Mh p x y)):=by
 obtain⟨s1,x1,t1,y1,rfl,u⟩:=Y.cs;obtain⟨s2,x2,t2,y2,rfl,w⟩:=Z.cs;obtain⟨n,j⟩:∃n,n=if p=8 then-y.i else y.i:=⟨_,rfl⟩;have r1:=z.rng;have r2:=M.rng;have A:IntKind.i64.wrap (0-y.i)=-y.i:=by grind[wr]
 have o:IntKind.i64.wrap (x.i+n)=x.i+n:=by grind[wr]
 have N:=λ{H K}=>ki (H:=H) (K:=K);have P:=λ{H K}=>jB (e:=3) (by decide) (H:=H) (K:=K);unfold Mh;by_cases Q:x.k=4
 ·have d4:(x.k:Int)=4:=by omega
  rw[G1 Q];by_cases S:y.k=4
  ·have U:(y.k:Int)=4:=by omega
   rw[G1 S];have l:=Cj (n:=x.i+n) (.inl rfl);refine aE.body nE rfl ?_;rcases r with rfl|rfl
   ·rw[E1 (by decide)]at j;subst j;simp[go_sem,simprocAttr,kP,d4,U,o];refine ac.ans l nC rfl rfl rfl (λv s x t y h a b c e f g=>?_) (λe k=>?_);·simp[go_sem,ah a,ah b,ah c,ah e,h];grind
    simp[go_sem,k]
   rw[G1 rfl]at j;subst j;simp only[go_sem,simprocAttr,kP,d4,U,A,o];refine ac.ans l nC rfl rfl rfl (λv s x t y h a b c e f g=>?_) (λe k=>?_);·simp[go_sem,ah a,ah b,ah c,ah e,h];grind
   simp[go_sem,k]
  have k5:y.k=5:=by grind[uK]
  have V:(y.k:Int)=5:=by omega
  rw[E1 S,G1 k5];have l:=Mf (n:=x.i+n);refine aE.body nE rfl ?_;rcases r with rfl|rfl
  ·rw[E1 (by decide)]at j;subst j;simp[go_sem,simprocAttr,kP,d4,V,o];refine ac.ans l o5 rfl rfl rfl (λv s x t y h a b c e f g=>?_) (λe k=>?_);·simp[go_sem,ah a,ah b,ah c,ah e,h];grind
   simp[go_sem,k]
  rw[G1 rfl]at j;subst j;simp only[go_sem,simprocAttr,kP,d4,V,A,o];refine ac.ans l o5 rfl rfl rfl (λv s x t y h a b c e f g=>?_) (λe k=>?_);·simp[go_sem,ah a,ah b,ah c,ah e,h];grind
  simp[go_sem,k]
 have W:¬(x.k:Int)=4:=by omega
 rw[E1 Q];have hk:=z.k;by_cases q:x.k=5\/x.k=6
 ·rw[G1 q];have l:=Cj (n:=x.i+n) q;refine aE.body nE rfl ?_;rcases r with rfl|rfl;·rw[E1 (by decide)]at j;subst j;rcases q with c|c;all_goals
   rw[c]at l⊢;simp[go_sem,simprocAttr,kP,o];refine ac.ans l nC rfl rfl rfl (λv s x t y h a b c e f g=>?_) (λe k=>?_);·simp[go_sem,ah a,ah b,ah c,ah e,h];grind
   simp[go_sem,k]
  rw[G1 rfl]at j;subst j;rcases q with c|c;all_goals
  rw[c]at l⊢;simp only[go_sem,simprocAttr,kP,A,o];refine ac.ans l nC rfl rfl rfl (λv s x t y h a b c e f g=>?_) (λe k=>?_);·simp[go_sem,ah a,ah b,ah c,ah e,h];grind
  simp[go_sem,k]
 rw[E1 q];have B:x.k=2\/x.k=3:=by grind[uK]
 have ab:y.k=2\/y.k=3:=by grind[uK]
 have d5:¬(x.k:Int)=5:=by omega
 have d6:¬(x.k:Int)=6:=by omega
 have C:=(z.f B).1;have E:=(M.f ab).1;have X:=pa C.z E.z;obtain⟨ra,ad,ae⟩:=Ye u w C E;obtain⟨rs,af,ag⟩:=ar5 u w C E;refine aE.body nE rfl ?_;rcases r with rfl|rfl
 ·have F:=λ{H K}=>ad.c (H:=H) (K:=K) Ek rfl (by simp[u.pl,w.pl]) (.inl rfl);simp(disch:=omega)only[go_sem,simprocAttr,kP,W,d5,d6];rw[gP (by decide)];simp[W0,T1,F];rcases xR B X ae with⟨s,x',t,y',n',m',m,rfl,G,I,J,L,h,ho⟩|⟨m,rfl⟩;·simp[go_sem,simprocAttr,N,m,ah G,ah I,ah J,ah L];grind
  simp[go_sem,P,m,n9]
 have F:=λ{H K}=>af.c (H:=H) (K:=K) Qn rfl (by simp[u.pl,w.pl]) (.inl rfl);simp(disch:=omega)only[go_sem,simprocAttr,kP,W,d5,d6];rw[gP (by decide)];simp only[W0,T1,F];rcases xR B X ag with⟨s,x',t,y',n',m',m,rfl,G,I,J,L,h,ho⟩|⟨m,rfl⟩;·simp[go_sem,simprocAttr,N,m,ah G,ah I,ah J,ah L];grind
 simp[go_sem,P,m,n9]
end
section
open Go.Dm
set_option maxRecDepth 10000
def xS(a:Nat)(x y:NV):NR:=if a=7\/a=8 then Mh a x y else if a=9 then sf (max x.k y.k) (x.n*y.n) (x.m*y.m)else if a=10 then(if y.n=0 then .er 181 else sf (if x.k=y.k then 2 else 3) (r7 x.n y.n y.m) (x.m*y.n.natAbs))else if a=11\/a=12 then .ok (if decide (se x y<=0)=decide (a=11)then x else y)else if a=13 then .ok (fK (decide (se x y<0)))else .ok (fK (decide (x=y)))
structure Ys(op:Nat)(x y:NV):Prop where
 s:op=7\/op=8->uK x y
 f:op=9\/op=10->(x.k=2\/x.k=3)/\(y.k=2\/y.k=3)m:op=9->x.k=2\/y.k=2
 d:op=10->x.k=y.k\/x.k=3
 c:11<=op->x.k=y.k
theorem xT{n:Int}(h:n.natAbs<18446744073709551616):dP n 1:=⟨by decide,Nat.gcd_one_right _,em (show n.natAbs<cap 4 from h) (mN (by omega)),em (show 1<cap 1 by decide) (mN (by omega))⟩
def asz{n:Int}{m:Nat}:cP (n*((1:Nat):Int)) (0*(m:Int))=0↔n=0:=by grind[cP]
def asA{j:Nat}(bf:7<=j/\j<=14){x y:NV}{d e:D}(A:VD x d)(B:VD y e)(o:x.ok)(p:y.ok)(z:Ys j x y):aE VS 142 [.i .u8 j,d,e] (kR (xS j x y)):=by
 have af:=λ(h:j=7\/j=8)=>asy h A B o p (z.s h);have av:=Yo A B o p;have U:=λ(h:x.k=y.k)=>asx A B o p h;have V:=A;have W:=B;obtain⟨s1,x1,t1,y1,rfl,C⟩:=A.cs;obtain⟨s2,x2,t2,y2,rfl,u⟩:=B.cs;obtain⟨a1,a2,a3,a4⟩:=C.pl4;obtain⟨b1,b2,b3,b4⟩:=u.pl4;have J:(D.ag [.i .u8 x.k,s1,x1,t1,y1,.i .i64 x.i]).plain=true:=V.pl;have L:(D.ag [.i .u8 y.k,s2,x2,t2,y2,.i .i64 y.i]).plain=true:=W.pl;have X:=λ{H K}=>ki (H:=H) (K:=K);have m3:=λ{H K}=>jB (e:=3) (by decide) (H:=H) (K:=K);have z1:=λ{H K}=>eB (e:=181) (H:=H) (K:=K);have tr:=λb{H K}=>oc (b:=b) (H:=H) (K:=K);have tv:=λb=>r9 b;have cases:j=7\/j=8\/j=9\/j=10\/j=11\/j=12\/j=13\/j=14:=by omega
 unfold xS;refine aE.body (vf:=Bn) wg rfl ?_;rcases cases with rfl|rfl|rfl|rfl|rfl|rfl|rfl|rfl
 ·rw[G1 (.inl rfl)];simp(disch:=omega)only[go_sem,simprocAttr,iY];refine ac.ans (af (.inl rfl)) nE rfl rfl (by grind[aV]) (λv s x t y m a b c e f g=>?_) (λe Y=>?_);·simp(disch:=omega)only[go_sem,simprocAttr,ah a,ah b,ah c,ah e,m];grind
  simp(disch:=omega)only[go_sem,simprocAttr,Y]
 ·rw[G1 (.inr rfl)];simp(disch:=omega)only[go_sem,simprocAttr,iY];refine ac.ans (af (.inr rfl)) nE rfl rfl (by grind[aV]) (λv s x t y m a b c e f g=>?_) (λe Y=>?_);·simp(disch:=omega)only[go_sem,simprocAttr,ah a,ah b,ah c,ah e,m];grind
  simp(disch:=omega)only[go_sem,simprocAttr,Y]
 ·rw[E1 (by decide),G1 rfl];obtain⟨Z,k2⟩:=z.f (.inl rfl);have E:=(o.f Z).1;have F:=(p.f k2).1;have hb:x.m*y.m≠0:=pa E.z F.z;obtain⟨r,r1,r2⟩:=Yd C u E F;have l:=λ{H K}=>r1.c (H:=H) (K:=K) Ei rfl (by simp[C.pl,u.pl]) (.inl rfl);have a7:max (x.k:Int) (y.k:Int)=((max x.k y.k:Nat):Int):=by omega
  simp(disch:=omega)only[go_sem,simprocAttr,iY,l];rcases xR (k:=max x.k y.k) (by omega) hb r2 with⟨s,x',t,y',n',m',w,rfl,M,N,P,Q,m,G⟩|⟨w,rfl⟩;·simp(disch:=omega)only[go_sem,simprocAttr,X,w,a7,ah M,ah N,ah P,ah Q];grind
  simp(disch:=omega)only[go_sem,simprocAttr,m3,w,n9]
 ·rw[E1 (by decide),E1 (by decide),G1 rfl];obtain⟨Z,k2⟩:=z.f (.inr rfl);have E:=(o.f Z).1;have F:=(p.f k2).1;obtain⟨zf,w1,w2⟩:=Mc (n:=0) (by omega);have ew:=λ{H K}=>w1.c (H:=H) (K:=K) qY rfl rfl (.inl rfl);have ad:=λ{H K}=>(uG u w2 F (xT (by decide))).c (H:=H) (K:=K) q8 rfl (by simp[u.pl,w2.pl]) (.inl rfl);have hz:cP (y.n*((1:Nat):Int)) (0*y.m)=0↔y.n=0:=asz;obtain⟨q,hq⟩:∃q,q=cP (y.n*((1:Nat):Int)) (0*y.m):=⟨_,rfl⟩;rw[<-hq]at ad hz;by_cases I:y.n=0;·rw[G1 I];have:=hz.2 I;simp(disch:=omega)only[go_sem,simprocAttr,iY,ew,ad,this,z1]
  rw[E1 I];have be:¬q=0:=λh=>I (hz.1 h);obtain⟨r,r1,r2⟩:=Yi C u E F I;have l:=λ{H K}=>r1.c (H:=H) (K:=K) Ej rfl (by simp[C.pl,u.pl]) (.inl rfl);have hb:x.m*y.n.natAbs≠0:=pa E.z (by omega);simp(disch:=omega)only[go_sem,simprocAttr,iY,ew,ad,be,l];rcases xR (k:=if x.k=y.k then 2 else 3) (by grind) hb r2 with⟨s,x',t,y',n',m',w,rfl,M,N,P,Q,m,G⟩|⟨w,rfl⟩
  ·rw[w];by_cases S:x.k=y.k
   ·have dk:(x.k:Int)=(y.k:Int):=by omega
    rw[G1 S]at m G;simp(disch:=omega)only[go_sem,simprocAttr,X,S,ah M,ah N,ah P,ah Q];exact⟨m,G⟩
   have dk:¬(x.k:Int)=(y.k:Int):=by omega
   rw[E1 S]at m G;simp(disch:=omega)only[go_sem,simprocAttr,X,dk,S,ah M,ah N,ah P,ah Q];exact⟨m,G⟩
  rw[w];simp(disch:=omega)only[go_sem,simprocAttr,m3,n9]
 ·have l:=λ{H K}=>(U (z.c (by omega))).c (H:=H) (K:=K) zM rfl (by simp[J,L]) (.inl rfl);rw[E1 (by decide),E1 (by decide),E1 (by decide),G1 (.inl rfl)];by_cases c:se x y<=0;·simp(disch:=omega)only[go_sem,simprocAttr,iY,l,c,ah a1,ah a2,ah a3,ah a4];exact⟨V,o⟩
  simp(disch:=omega)only[go_sem,simprocAttr,iY,l,c,ah b1,ah b2,ah b3,ah b4];exact⟨W,p⟩
 ·have l:=λ{H K}=>(U (z.c (by omega))).c (H:=H) (K:=K) zM rfl (by simp[J,L]) (.inl rfl);rw[E1 (by decide),E1 (by decide),E1 (by decide),G1 (.inr rfl)];by_cases c:se x y<=0;·simp(disch:=omega)only[go_sem,simprocAttr,iY,l,c,ah b1,ah b2,ah b3,ah b4];exact⟨W,p⟩
  simp(disch:=omega)only[go_sem,simprocAttr,iY,l,c,ah a1,ah a2,ah a3,ah a4];exact⟨V,o⟩
 ·have l:=λ{H K}=>(U (z.c (by omega))).c (H:=H) (K:=K) zM rfl (by simp[J,L]) (.inl rfl);rw[E1 (by decide),E1 (by decide),E1 (by decide),E1 (by decide),G1 rfl];simp(disch:=omega)only[go_sem,simprocAttr,iY,l,tr,l8];have:=tv (decide (se x y<0));simpa only[l8,Hq]using this
 have l:=λ{H K}=>av.c (H:=H) (K:=K) wb rfl (by simp[J,L]) (.inl rfl);rw[E1 (by decide),E1 (by decide),E1 (by decide),E1 (by decide),E1 (by decide)];simp(disch:=omega)only[go_sem,simprocAttr,iY,l,tr,l8];have:=tv (decide (x=y));simpa only[l8,Hq]using this
end
section
open Go.Dm
set_option maxRecDepth 10000
def asB{H:ab}{a n len w bytes:Nat}{rows:List (List D)}{r:List D}(h:H[a]?=some (.ar w rows (some n) true false))(b:rows.length=n)(c:len<n)(d:r.all D.flat=true)(hr:(len+1)*bytes<=140737488355328)(e:n<140737488355328):bu H (.mu a n 0 len) (.sv w [r]) w bytes true=some (.mu a n 0 (len+1),H.set a (.ar w (rows.set len r) (some n) true false)):=by
 have f:ja H [r]=some _:=nj H (λq g=>by grind);have i:aK H a n=some (w,rows,some n,true,false):=by simp[Dm.aK,h,b]
 have j:=vU hr (by omega);have hs:rows.take len++[r]++rows.drop (len+1)=rows.set len r:=by rw[ABH,G1 (by omega),dn];rfl
 have k:len<=n:=by omega
 have l:len+1<=n:=by omega
 simp_all[bu,eZ,fe,kq,iB]
structure AV where
 v:NV
 s:D
 x:D
 t:D
 y:D
instance:Inhabited AV:=⟨⟨default,.u,.u,.u,.u⟩⟩
def AV.c(a:AV):List D:=[.i .u8 a.v.k,a.s,a.x,a.t,a.y,.i .i64 a.v.i]
structure AV.ok(a:AV):Prop where d:VD a.v (.ag a.c)o:a.v.ok
def AV.ok.fl{a:AV}(h:a.ok):a.s.flat=true/\a.x.flat=true/\a.t.flat=true/\a.y.flat=true:=by obtain⟨s,x,t,y,e,q⟩:=h.d.cells;grind[AV.c,D.ag.injEq]
def AV.ok.al{a:AV}(h:a.ok):a.c.all D.flat=true:=by obtain⟨b,c,d,e⟩:=h.fl;grind[AV.c,jR]
def AV.ok.pl{a:AV}(h:a.ok):(D.ag a.c).plain=true:=by exact h.al
def VD.av{v:NV}{d:D}(h:VD v d)(o:v.ok):∃a:AV,a.v=v/\d=.ag a.c/\a.ok:=by obtain⟨s,x,t,y,rfl,_⟩:=h.cells;exact⟨⟨v,s,x,t,y⟩,rfl,rfl,⟨h,o⟩⟩
def fM(c:NR)(H:ab):CR->Prop|.ret d b=>b=H/\∃a:AV,c=.ok a.v/\d=.ag a.c/\a.ok|.pan d b=>b=H/\∃e,c=.er e/\d=eX e|.bad=>False
def sj{a:AV}{H:ab}(h:a.ok):fM (.ok a.v) H (.ret (.ag a.c) H):=⟨rfl,a,rfl,rfl,h⟩
theorem p8{e:Int}{H:ab}:fM (.er e) H (.pan (eX e) H):=⟨rfl,e,rfl,rfl⟩
def cw:List D:=[.i .u8 0,.b false,.nil,.b false,.nil,.i .i64 0]
variable{x y:Nat}
def Yt{p:Nat}(a:7<=x/\x<=14)(b:1<=p/\p<=6)(c:1<=y/\y<=6)(h:co x [p,y]=true):(x=7\/x=8->(p=y/\p≠1)\/(p=4/\(y=5\/y=6)))/\(x=9\/x=10->(p=2\/p=3)/\(y=2\/y=3))/\(x=9->p=2\/y=2)/\(x=10->p=y\/p=3)/\(11<=x->p=y):=by
 obtain rfl|rfl|rfl|rfl|rfl|rfl:p=1\/p=2\/p=3\/p=4\/p=5\/p=6:=by omega
 all_goals obtain rfl|rfl|rfl|rfl|rfl|rfl:y=1\/y=2\/y=3\/y=4\/y=5\/y=6:=by omega
 all_goals obtain rfl|rfl|rfl|rfl|rfl|rfl|rfl|rfl:x=7\/x=8\/x=9\/x=10\/x=11\/x=12\/x=13\/x=14:=by omega
 all_goals first|(exfalso;revert h;decide)|decide
def asC{x y:NV}{a:Nat}(b:7<=a/\a<=14)(c:x.ok)(d:y.ok)(h:co a [x.k,y.k]=true)(j:¬(x.k=4/\y.k=6)):Ys a x y:=by obtain⟨k,e,f,g,i⟩:=Yt b c.k d.k h;refine⟨λh=>?_,e,f,g,i⟩;grind[uK]
end
section
open Go.Dm
set_option maxRecDepth 10000
def iz(vs:List AV):List (List D):=vs.map AV.c++List.replicate (3-vs.length) cw
def Cn{vs:List AV}(h:vs.length<=3):(iz vs).length=3:=by grind[iz]
def asD{vs:List AV}{a:AV}(h:vs.length<3):(iz vs).set vs.length a.c=iz (vs++[a]):=by
 unfold iz;have:3-vs.length=(3-(vs.length+1))+1:=by omega
 grind
def aO(vs:List AV)(lk:Bool):an:=.ar 6 (iz vs) (some 3) true lk
section
variable{bs ed w c4 c5 c6 c7 c8 c9 c10 c11 c13 c14 c15 sl:D}{date:Int}{l:List Ex}{i:Nat}
def xU(bs ed w c4 c5 c6 c7 c8 c9 c10 c11 a c13 c14 c15 sl b:D)(date:Int)(i n k:Nat):List D:=[bs,ed,.i .i64 date,w,c4,c5,c6,c7,c8,c9,c10,c11,a,c13,c14,c15,.mu i 3 0 k,.i .i64 (k:Int),.i .i64 (n:Int),sl,b]
def asE(C:l.length<=3)(m:Sl 9 (l.map Ex.row) sl){Q:Dm.Ex->St->Prop}(P:Nat->List AV->ab->Prop){H:ab}{n o:D}(p:P 0 [] H)(q:∀k vs H,P k vs H->vs.length=k)(step:∀k vs H,k<l.length->P k vs H->ac VS 94 [bs,(l[k]!).d,.i .i64 date,w] H (λr=>match r with|.ret d b=>∃a:AV,d=.ag a.c/\a.ok/\b[i]?=some (aO vs false)/\P (k+1) (vs++[a]) (b.set i (aO (vs++[a]) false))|.pan d b=>∀s,Q (.pn d) ⟨s,b⟩|.bad=>False))(t:∀vs H c e,P l.length vs H->Q (.ex 1) ⟨xU bs ed w c4 c5 c6 c7 c8 c9 c10 c11 c c13 c14 c15 sl e date i l.length l.length,H⟩):ak VS (.loop Ii) ⟨xU bs ed w c4 c5 c6 c7 c8 c9 c10 c11 n c13 c14 c15 sl o date i l.length 0,H⟩ Q:=by
 refine ak.up (λk s=>∃vs H c e,P k vs H/\s=⟨xU bs ed w c4 c5 c6 c7 c8 c9 c10 c11 c c13 c14 c15 sl e date i _ k,H⟩) l.length ⟨_,_,_,_,p,rfl⟩ ?_;rintro k s E⟨vs,H,c,e,f,rfl⟩;have u:=q _ _ _ f;unfold xU;by_cases h:k<l.length
 ·have j:(k:Int)<l.length:=by omega
  have v:(0:Int)<=k:=by omega
  have x:IntKind.i64.wrap (k+1)=((k+1:Nat)):=by grind[wr]
  have hs:=step k vs H h f;simp only[Ex.d,Ex.row_eq]at hs;simp only[go_sem,VI,m.q,v,j,Ex.row_eq];refine hs.mono λr hr=>?_;cases r with|bad=>grind|pan d b=>simp only[go_sem];grind|ret d b=>obtain⟨a,rfl,y,z,A⟩:=hr;have g:=asB (bytes:=80) z (Cn (by omega)) (show vs.length<3 by omega) y.al (by omega) (by decide);rw[asD (by omega),u]at g;simp only[AV.c]at g⊢;simp[go_sem,simprocAttr,g,x];exact⟨h,_,A⟩
 have j:¬(k:Int)<l.length:=by omega
 have B:k=l.length:=by omega
 subst B;simp[go_sem,VI];exact t _ _ _ _ f
end
end
section
open Go.Dm
set_option maxRecDepth 10000
def Vl.av{v:Vl}(h:v.valid=true):∃a:AV,a.v=v.nv/\v.d=.ag a.c/\a.ok:=(nv_ok h).1.av (nv_ok h).2
end
section
open Go.Dm
set_option maxRecDepth 10000
def asF(e:Int):ai VS 64 [eX e] (.i .i64 e):=by refine .body PJ rfl ?_;simp[go_sem,aoB,eX]
def asG{e:Int}{H:ab}{K:CR->Prop}:ac VS 64 [eX e] H K↔K (.ret (.i .i64 e) H):=by rw[fX PJ rfl (asF e) rfl];exact dG
def xV:D:=.ag cw
def asH{g:FuncId}{cap:List D}{H:ab}{K:CR->Prop}(s:g<4294967295)(h:ac VS g cap (H++[.hb 34 cw,.hb 45 [.i .i64 0]]) (λr=>match r with
 |.ret d c=>∃a:AV,d=.ag a.c/\a.ok/\c[H.length]?=some (.hb 34 cw)/\c[H.length+1]?=some (.hb 45 [.i .i64 0])/\K (.ret (.tu [.ag a.c,.i .i64 0]) ((c.set H.length (.hb 34 a.c)).set (H.length+1) (.hb 45 [.i .i64 0])))|.pan d c=>∃e,d=eX e/\c[H.length]?=some (.hb 34 cw)/\c[H.length+1]?=some (.hb 45 [.i .i64 0])/\K (.ret (.tu [xV,.i .i64 e]) ((c.set H.length (.hb 34 cw)).set (H.length+1) (.hb 45 [.i .i64 e])))
 |.bad=>False)):ac VS 27 [.fn (.func g) [] cap] H K:=by refine .dfr agi rfl rfl rfl ?_;simp(disch:=omega)only[go_sem,aom,GZ];refine⟨rfl,h.mono λr hr=>?_⟩;cases r with|bad=>grind|ret d c=>
 obtain⟨a,rfl,t,j,f,k⟩:=hr;have n:H.length+1<c.length:=aw f;simp[cw,AV.c]at*;have l:((c.set H.length (.hb 34 [D.i IntKind.u8 a.v.k,a.s,a.x,a.t,a.y,D.i IntKind.i64 a.v.i])).set (H.length+1) (.hb 45 [.i .i64 0]))[H.length]?=some (.hb 34 [D.i IntKind.u8 a.v.k,a.s,a.x,a.t,a.y,D.i IntKind.i64 a.v.i]):=by grind
 have m:((c.set H.length (.hb 34 [D.i IntKind.u8 a.v.k,a.s,a.x,a.t,a.y,D.i IntKind.i64 a.v.i])).set (H.length+1) (.hb 45 [.i .i64 0]))[H.length+1]?=some (.hb 45 [.i .i64 0]):=by grind
 simp(disch:=omega)only[go_sem,simprocAttr,j,f,ne,Hy];refine⟨.inl trivial,by omega,[.ag [D.i _ a.v.k,a.s,a.x,a.t,a.y,D.i _ a.v.i],.i .i64 0],?_,k⟩;simp[cU.ev,cN,l,m,vK,cW];rfl|pan d c=>
 obtain⟨e,rfl,j,f,k⟩:=hr;have n:H.length+1<c.length:=aw f;have o:=λ{H K}=>asG (e:=e) (H:=H) (K:=K);simp[cw]at*;have l:((c.set H.length (.hb 34 [D.i IntKind.u8 0,D.b false,D.nil,D.b false,D.nil,D.i IntKind.i64 0])).set (H.length+1) (.hb 45 [.i .i64 e]))[H.length]?=some (.hb 34 [D.i IntKind.u8 0,D.b false,D.nil,D.b false,D.nil,D.i IntKind.i64 0]):=by grind
 have m:((c.set H.length (.hb 34 [D.i IntKind.u8 0,D.b false,D.nil,D.b false,D.nil,D.i IntKind.i64 0])).set (H.length+1) (.hb 45 [.i .i64 e]))[H.length+1]?=some (.hb 45 [.i .i64 e]):=by grind
 have p:eF true EK.ifc (eX e) D.ni=some (.b true):=rfl;have q:(c.set H.length (.hb 34 [D.i IntKind.u8 0,D.b false,D.nil,D.b false,D.nil,D.i IntKind.i64 0]))[H.length+1]?=some (.hb 45 [.i .i64 0]):=by grind
 simp only[go_sem,simprocAttr,j,q,ne,o,p];refine⟨.inl trivial,by omega,[.ag [D.i _ 0,D.b false,D.nil,D.b false,D.nil,D.i _ 0],.i .i64 e],?_,k⟩;simp[cU.ev,cN,l,m,vK,cW];rfl
def Yu{l:List Nat}{y:D}(b:Sl 1 (l.map aJ) y)(c:l.length<70368744177665){H:ab}:bu H .nil y 1 2 true=some (bD H .nil (l.map aJ),bH H 1 (l.map aJ)):=vV rfl b (λa=>rfl) (by omega) (by omega)
def asI{a:AV}(f:a.ok):∃d,ai VS 29 [.ag a.c] d/\VD a.v d:=by
 obtain⟨x,y,e,o,r⟩:=f.d.h;have c:(ds 65536 a.v.n.natAbs).length<70368744177665/\(ds 65536 a.v.m).length<70368744177665:=by
  by_cases g:a.v.k=2\/a.v.k=3;·have:=(f.o.f g).1;exact⟨l7 this.bn (by omega),l7 this.bm (by omega)⟩
  obtain⟨s,t⟩:=f.o.o g;rw[s,t,show(0:Int).natAbs=0 from rfl,cz];exact⟨by simp,by simp⟩
 have h:=λ{H}=>Yu o.sl c.1 (H:=H);have j:=λ{H}=>Yu r.sl c.2 (H:=H);obtain⟨l,k⟩:∃l,l=ds 65536 a.v.n.natAbs:=⟨_,rfl⟩;obtain⟨m,n⟩:∃m,m=ds 65536 a.v.m:=⟨_,rfl⟩;rw[<-k]at h c;rw[<-n]at j c;rw[e];refine⟨.ag [.i .u8 a.v.k,.b _,iN .nil 1 _,.b false,iN .nil 1 _,.i .i64 a.v.i],.body Pv rfl ?_,⟨_,_,rfl,⟨by rw[<-k];exact qV rfl 1 _⟩,⟨by rw[<-n];exact qV rfl 1 _⟩⟩⟩;simp[go_sem,simprocAttr,aoo,h,j];cases l with
 |nil=>cases m with|nil=>rfl|cons q m=>simp[bD,bH,iN,E4,go_sem]
 |cons p l=>cases m with|nil=>simp[bD,bH,iN,E4,go_sem]|cons q m=>simp[bD,bH,iN,E4,go_sem]
end
section
open Go.Dm
set_option maxRecDepth 10000
@[go_sem]def axC{t r:ab}{x:an}:(t++x::r)[t.length]?=some x:=by simp
@[go_sem]def axD{t r:ab}{x y:an}:(t++x::y::r)[t.length+1]?=some y:=by grind
@[go_sem]def axE{t r:ab}{x z:an}:(t++x::r).set t.length z=t++z::r:=by simp
@[go_sem]def axF{t r:ab}{x y z:an}:(t++x::y::r).set (t.length+1) z=t++x::z::r:=by simp_all
end
section
open Go.Dm
set_option maxRecDepth 10000
def asJ{n:Int}:ke (decide (n<0)) (ds 65536 n.natAbs)=n:=by unfold ke;grind[bX]
def VD.vlv{v:NV}{d:D}(h:VD v d)(b:v.ok):∃a:Vl,a.d=d/\a.valid=true/\a.nv=v:=by
 obtain⟨a,f,m,n,g,i,j,k⟩:=h.vl b;refine⟨a,f,?_,?_⟩
 ·unfold Vl.valid;rw[m,n];by_cases l:v.k=2\/v.k=3
  ·obtain⟨e,hi⟩:=b.f l;have s:=iZ.2 e.bn;have u:=iZ.2 e.bm;have o:=xH (neg:=decide (v.n<0)) (aN e.bn (show 256<=1024 by omega)) (λf=>by grind);have p:=xH (aN e.bm (show 256<=1024 by omega)) (λf=>rfl);have w:=kV bY e.z;have:a.f.v=true:=by show fq a.f.s a.f.l a.f.t a.f.m=true;rw[g,i,j,k];unfold fq;rw[o,p,bX bY,bX bY,e.g];grind
   grind
  obtain⟨q,r⟩:=b.o l;have x:a.f.zero=true:=by show a.f.eq _=true;unfold RF.eq;rw[g,i,j,k,q,r,show(0:Int).natAbs=0 from rfl,cz];rfl
  have y:=b.k;have t:=b.t;have z:=b.d;have c:=b.c;grind
 simp_all[Vl.nv,asJ,bX,bY]
end
section
open Go.Dm
set_option maxRecDepth 10000
end
section
open Go.Dm
set_option maxRecDepth 10000
abbrev Nm:=List UInt8
inductive EN where|mk(op:Nat)(name:Nm)(val:Option NV)(md:Int)(args:List EN)
instance:Inhabited EN:=⟨.mk 0 [] none 0 []⟩
def EN.op:EN->Nat|.mk o _ _ _ _=>o
def EN.name:EN->Nm|.mk _ n _ _ _=>n
def EN.val:EN->Option NV|.mk _ _ v _ _=>v
def EN.md:EN->Int|.mk _ _ _ m _=>m
def EN.args:EN->List EN|.mk _ _ _ _ a=>a
mutual def Ex.en:Ex->EN|.mk o n v _ a=>.mk o n (if v.valid=true then some v.nv else none) v.i (AW a)def AW:List Ex->List EN|[]=>[]|e::l=>e.en::AW l end
def T9:∀l:List Ex,AW l=l.map Ex.en|[]=>rfl|e::l=>by rw[AW,T9 l];rfl
theorem Ex.en_eq(e:Ex):e.en=.mk e.op e.name (if e.v.valid=true then some e.v.nv else none) e.v.i (e.args.map Ex.en):=by cases e;rw[Ex.en,T9];rfl
def EN.formed(e:EN):Bool:=(if e.op=1 then e.val.isSome else true)&&decide ((kT e.op).1<=e.args.length/\e.args.length<=(kT e.op).2)
def Ex.en_formed(e:Ex):e.en.formed=e.formed:=by grind[Ex.en_eq,EN.formed,Ex.formed,EN.op,EN.val,EN.args]
structure FN where
 key:Nm
 frm:Int
 to:Int
 known:Int
 gone:Bool
 v:NV
structure aB where
 frm:Int
 to:Int
 v:NV deriving DecidableEq
instance:Inhabited aB:=⟨⟨0,0,default⟩⟩
structure bU where
 a:Int
 b:Int
 known:Int
 n:Int
 m:Nat deriving DecidableEq
instance:Inhabited bU:=⟨⟨0,0,0,0,0⟩⟩
structure jt where
 name:Nm
 label:Nm
 frm:Int
 to:Int
 known:Int
 off:Bool
 when:EN
 thn:EN
instance:Inhabited jt:=⟨⟨[],[],0,0,0,false,default,default⟩⟩
structure aj where pairs:List (Nm×Int)begun:List (Nm×Int)vals:List ((Nm×Int)×NV)facts:List (Nm×Int×Int)tabs:List Nm
def aj.nil:aj:=⟨[],[],[],[],[]⟩
inductive bk where|term(e:EN)(d:Int)|pair(nm:Nm)(d:Int)
inductive Tr where|ret(v:NV)|err(e:Int)|st(u:aj->aj)(k:aj->Tr)|call(j:bk)(k:NV->Tr)
def fY(rec:bk->aj->Option (NR×aj)):Tr->aj->Option (NR×aj)|.ret v,M=>some (.ok v,M)|.err e,M=>some (.er e,M)|.st u k,M=>fY rec (k M) (u M)|.call j k,M=>match rec j M with|none=>none|some (.er e,M')=>some (.er e,M')|some (.ok v,M')=>fY rec (k v) M'
structure Wd where
 kind:Nm->Option Nat
 cl:Nm->Int->List (Nat×jt)clause:Nat->jt
 view:Nm->Except Int (List aB)tab:Nm->Option (Bool×List bU)
def kM(body:bk->Tr):Nat->bk->aj->Option (NR×aj)|0,_,_=>none|n+1,j,M=>fY (kM body n) (body j) M
def AX{f g:bk->aj->Option (NR×aj)}(h:∀j M r,f j M=some r->g j M=some r):∀(t:Tr)(M:aj)(r:NR×aj),fY f t M=some r->fY g t M=some r|.ret _,_,_,e=>e|.err _,_,_,e=>e|.st u k,M,r,e=>AX h (k M) (u M) r e|.call j k,M,r,e=>by simp[fY]at e⊢;cases b:f j M with|none=>grind|some p=>rw[h j M p b];rw[b]at e;obtain⟨a,M'⟩:=p;cases a with|er x=>exact e|ok v=>exact AX h _ M' r e
theorem Ua{body:bk->Tr}:∀(n:Nat)(j:bk)(M:aj)(r:NR×aj),kM body n j M=some r->kM body (n+1) j M=some r|0,_,_,_,e=>by cases e|n+1,j,M,r,e=>AX (λj M r=>Ua n j M r) (body j) M r e
def AY{body:bk->Tr}{n m:Nat}(h:n<=m){j:bk}{M:aj}{r:NR×aj}(e:kM body n j M=some r):kM body m j M=some r:=by induction h<;>grind[step,Ua]
def bO(body:bk->Tr)(j:bk)(M:aj)(r:NR)(M':aj):Prop:=∃n,kM body n j M=some (r,M')
def aM(body:bk->Tr)(t:Tr)(M:aj)(r:NR)(M':aj):Prop:=∃n,fY (kM body n) t M=some (r,M')
section
variable{body:bk->Tr}{M M' M2:aj}{r:NR}
def bO.det{r2:NR}{j:bk}(h:bO body j M r M')(c:bO body j M r2 M2):r=r2/\M'=M2:=by obtain⟨n,h⟩:=h;obtain⟨m,c⟩:=c;have a:=AY (Nat.le_max_left n m) h;have b:=AY (AAz n m) c;grind
def bO.of{j:bk}(h:aM body (body j) M r M'):bO body j M r M':=by obtain⟨n,h⟩:=h;exact⟨n+1,h⟩
def aM.ret{v:NV}:aM body (.ret v) M (.ok v) M:=⟨0,rfl⟩
def aM.err{e:Int}:aM body (.err e) M (.er e) M:=⟨0,rfl⟩
def aM.st{u:aj->aj}{k:aj->Tr}(h:aM body (k M) (u M) r M'):aM body (.st u k) M r M':=by obtain⟨n,h⟩:=h;exact⟨n,h⟩
theorem aM.call{j:bk}{k:NV->Tr}{v:NV}(h:bO body j M (.ok v) M')(a:aM body (k v) M' r M2):aM body (.call j k) M r M2:=by obtain⟨n,h⟩:=h;obtain⟨m,a⟩:=a;refine⟨max n m,?_⟩;simp[fY,AY (Nat.le_max_left n m) h];exact AX (λj M r e=>AY (AAz n m) e) _ _ _ a
theorem aM.calle{j:bk}{k:NV->Tr}{e:Int}(h:bO body j M (.er e) M'):aM body (.call j k) M (.er e) M':=by obtain⟨n,h⟩:=h;exact⟨n,by grind[fY]⟩
end
end
section
open Go.Dm
set_option maxRecDepth 10000
def aB.has(s:aB)(d:Int):Bool:=decide (s.frm<=d/\d<s.to)
def bF(l:List aB)(d:Int):Option NV:=(l.find? (·.has d)).map (·.v)
inductive Canon:List aB->Prop where|nil:Canon []|one{s:aB}:s.frm<s.to->Canon [s]|cons{s t:aB}{l:List aB}:s.frm<s.to->s.to<=t.frm->(s.to=t.frm->s.v≠t.v)->Canon (t::l)->Canon (s::t::l)
variable{x:aB}
def Canon.tail{l:List aB}(h:Canon (x::l)):Canon l:=by cases h with|one=>exact .nil|cons _ _ _ h=>exact h
def Canon.hd{l:List aB}(h:Canon (x::l)):x.frm<x.to:=by cases h with|one h=>exact h|cons h _ _ _=>exact h
def Canon.le{l:List aB}(h:Canon (x::l)):∀t∈l,x.to<=t.frm:=by induction l generalizing x with|nil=>intro t a;cases a|cons u l c=>intro t a;cases h with|cons e d f b=>
 rcases dA.1 a with rfl|a;·exact d
 have:=c b t a;have:=b.hd;omega
theorem dZ{l:List aB}{d:Int}:bF (x::l) d=if x.frm<=d/\d<x.to then some x.v else bF l d:=by
 unfold bF aB.has;by_cases h:x.frm<=d/\d<x.to;·rw[G1 h,List.find?_cons_of_pos (by simpa using h)];rfl
 rw[E1 h,List.find?_cons_of_neg (by simpa using h)]
def uo{l:List aB}{d:Int}(h:∀t∈l,d<t.frm):bF l d=none:=by induction l with|nil=>rfl|cons s l a=>have:=h s N2;rw[dZ,E1 (by omega)];exact a λt b=>h t (K2 _ b)
def Canon.uniq:∀{l k:List aB},Canon l->Canon k->(∀d,bF l d=bF k d)->l=k
 |[],[],_,_,_=>rfl|[],s::l,_,g,e=>by have:=e s.frm;have z:=g.hd;rw[dZ,G1 (by omega)]at this;cases this|s::l,[],h,_,e=>by have:=e s.frm;have z:=h.hd;rw[dZ,G1 (by omega)]at this;cases this|s::l,t::m,h,g,e=>by
  have hs:=h.hd;have E:=g.hd;have o:=h.le;have r:=g.le;have j:s.frm=t.frm:=by
   by_cases c:s.frm<t.frm;·have:=e s.frm;rw[dZ,G1 (by omega),dZ,E1 (by omega),uo (λu f=>by have:=r u f;omega)]at this;cases this
   by_cases A:t.frm<s.frm;·have:=e t.frm;rw[dZ,E1 (by omega),dZ,G1 (by omega),uo (λu f=>by have:=o u f;omega)]at this;cases this
   omega
  have i:s.v=t.v:=by have:=e s.frm;rw[dZ,G1 (by omega),dZ,G1 (by omega)]at this;exact kb this
  have key:∀{a b:aB}{p q:List aB},Canon (a::p)->Canon (b::q)->(∀d,bF (a::p) d=bF (b::q) d)->a.frm=b.frm->a.v=b.v->¬a.to<b.to:=by intro a b p q v F e j i c;have G:=v.hd;have:=e a.to;rw[dZ,E1 (by omega),dZ,G1 (by omega)]at this;cases p with|nil=>cases this|cons u p=>cases v with|cons g1 H B x=>
   have f:=x.hd;by_cases A:u.frm<=a.to;·rw[dZ,G1 (by omega)]at this;exact B (by omega) (by rw[kb this,i])
   rw[uo]at this;·cases this
   intro w n;rcases dA.1 n with rfl|n;·omega
   have:=x.le w n;omega
  have y:s.to=t.to:=by have a:=key h g e j i;have b:=key g h (λd=>(e d).symm) j.symm i.symm;omega
  have C:s=t:=by cases s;cases t;simp only at j i y;subst j i y;rfl
  subst C;rw[Canon.uniq h.tail g.tail λd=>?_];by_cases c:s.to<=d;·have:=e d;rwa[dZ,E1 (by omega),dZ,E1 (by omega)]at this
  rw[uo (λu f=>by have:=o u f;omega),uo (λu f=>by have:=r u f;omega)]
def cg(l:List aB)(s:aB):List aB:=if s.to<=s.frm then l else match l.getLast? with|some t=>if t.to=s.frm/\t.v=s.v then l.dropLast++[⟨t.frm,s.to,t.v⟩]else l++[s]|none=>[s]
def rI(l:List aB)(a b:Int):List aB:=l.foldl (λacc s=>cg acc ⟨max s.frm a,min s.to b,s.v⟩) []
def ej(a b:Int)(s:aB):Option aB:=if min s.to b<=max s.frm a then none else some ⟨max s.frm a,min s.to b,s.v⟩
def Gn{a b:Int}:∀{l:List aB}{acc:List aB},Canon l->(∀t,acc.getLast?=some t->∀s∈l.head?,t.to<=s.frm/\(t.to=s.frm->t.v≠s.v))->(∀t,acc.getLast?=some t->t.to<=b/\a<t.to)->l.foldl (λacc s=>cg acc ⟨max s.frm a,min s.to b,s.v⟩) acc=acc++l.filterMap (ej a b)
 |[],acc,_,_,_=>by simp|s::l,acc,h,m,n=>by
  rw[x6];have hs:=h.hd;by_cases c:min s.to b<=max s.frm a
  ·have i:cg acc ⟨max s.frm a,min s.to b,s.v⟩=acc:=by unfold cg;rw[G1 c]
   have j:(s::l).filterMap (ej a b)=l.filterMap (ej a b):=by rw[AAM];unfold ej;rw[G1 c]
   rw[i,j];refine Gn h.tail (λt d u f=>?_) n;have g:=m t d s rfl;cases l with|nil=>cases f|cons w l=>cases f;cases h with|cons g1 o r v=>exact⟨by omega,λe=>by omega⟩
  have i:cg acc ⟨max s.frm a,min s.to b,s.v⟩=acc++[⟨max s.frm a,min s.to b,s.v⟩]:=by unfold cg;rw[E1 c];cases k:acc.getLast? with|none=>rw[AB1.1 k];rfl|some t=>have g:=m t k s rfl;have o:=n t k;simp only;rw[E1];rintro⟨p,q⟩;exact g.2 (by omega) q
  have j:(s::l).filterMap (ej a b)=⟨max s.frm a,min s.to b,s.v⟩::l.filterMap (ej a b):=by rw[AAM];unfold ej;rw[E1 c]
  rw[i,j,Gn h.tail (λt d u f=>?_) (λt d=>?_),dn];·rfl
  ·rw[AA0,AAm]at d;cases d;cases l with|nil=>cases f|cons w l=>cases f;cases h with|cons g1 o r v=>exact⟨by first|omega|(simp only;omega),λe=>r (by first|omega|(simp only at e;omega))⟩
  rw[AA0,AAm]at d;cases d;first|omega|(simp only;omega)
def Ub{l:List aB}(h:Canon l)(a b:Int):rI l a b=l.filterMap (ej a b):=by unfold rI;rw[Gn h (λt c=>by cases c) (λt c=>by cases c),W0]
def Gp{a b:Int}:∀{l:List aB},Canon l->Canon (l.filterMap (ej a b))/\∀s∈l.head?,∀t∈(l.filterMap (ej a b)).head?,max s.frm a<=t.frm/\(s.frm=t.frm->s.v=t.v)
 |[],_=>⟨.nil,λs hs=>by cases hs⟩|s::l,h=>by
  obtain⟨f,i⟩:=Gp (a:=a) (b:=b) h.tail;have hs:=h.hd;by_cases c:min s.to b<=max s.frm a
  ·have j:(s::l).filterMap (ej a b)=l.filterMap (ej a b):=by rw[AAM];unfold ej;rw[G1 c]
   rw[j];refine⟨f,λu k t d=>?_⟩;cases k;cases l with|nil=>cases d|cons w l=>have:=i w rfl t d;cases h with|cons g1 p n q=>exact⟨by omega,λe=>by omega⟩
  have j:(s::l).filterMap (ej a b)=⟨max s.frm a,min s.to b,s.v⟩::l.filterMap (ej a b):=by rw[AAM];unfold ej;rw[E1 c]
  rw[j];refine⟨?_,λu k t d=>?_⟩;·cases o:l.filterMap (ej a b)with|nil=>exact .one (by first|omega|(simp only;omega))|cons t m=>rw[o]at f i;cases l with|nil=>cases o|cons w l=>have g:=i w rfl t rfl;cases h with|cons g1 p n q=>exact .cons (by first|omega|(simp only;omega)) (by first|omega|(simp only;omega)) (λe=>by simp only at e⊢;rw[<-g.2 (by omega)];exact n (by omega)) f
  cases k;cases d;exact⟨sd _,λ_=>rfl⟩
def AZ{a b:Int}:∀{l:List aB}{d:Int},bF (l.filterMap (ej a b)) d=if a<=d/\d<b then bF l d else none
 |[],d=>by simp[bF]|s::l,d=>by
  by_cases c:min s.to b<=max s.frm a
  ·have f:(s::l).filterMap (ej a b)=l.filterMap (ej a b):=by rw[AAM];unfold ej;rw[G1 c]
   rw[f,AZ,dZ];by_cases e:a<=d/\d<b;·rw[G1 e,G1 e,E1 (by omega)]
   rw[E1 e,E1 e]
  have f:(s::l).filterMap (ej a b)=⟨max s.frm a,min s.to b,s.v⟩::l.filterMap (ej a b):=by rw[AAM];unfold ej;rw[E1 c]
  rw[f,dZ,AZ,dZ];by_cases e:a<=d/\d<b
  ·rw[G1 e,G1 e];by_cases c3:s.frm<=d/\d<s.to;·rw[G1 (by first|omega|(simp only;omega)),G1 c3]
   rw[E1 (by first|omega|(simp only;omega)),E1 c3]
  rw[E1 e,E1 e,E1 (by first|omega|(simp only;omega))]
theorem am8{l f:List aB}(h:Canon l)(g:Canon f){a b:Int}(e:∀d,a<=d->d<b->bF l d=bF f d):rI l a b=rI f a b:=by
 rw[Ub h,Ub g];refine Canon.uniq (Gp h).1 (Gp g).1 λd=>?_;rw[AZ,AZ];by_cases c:a<=d/\d<b;·rw[G1 c,G1 c,e d c.1 c.2]
 rw[E1 c,E1 c]
end
section
open Go.Dm
set_option maxRecDepth 10000
def Canon.snoc:∀{l:List aB}{s:aB},Canon l->(∀t,l.getLast?=some t->t.to<=s.frm/\(t.to=s.frm->t.v≠s.v))->s.frm<s.to->Canon (l++[s])|[],_,_,_,hs=>.one hs|[u],s,h,a,hs=>by have:=a u rfl;exact .cons h.hd this.1 this.2 (.one hs)|u::w::l,s,h,a,hs=>by have b:=Canon.snoc h.tail (λt e=>a t (by grind)) hs;cases h with|cons g1 c d f=>exact .cons g1 c d b
theorem Canon.grow:∀{l:List aB}{t:aB}{x:Int},Canon (l++[t])->t.to<=x->Canon (l++[⟨t.frm,x,t.v⟩])
 |[],t,x,h,a=>.one (by have:=h.hd;grind)|[u],t,x,h,a=>by cases h with|cons g1 b c d=>exact .cons g1 b c (.one (by have:=d.hd;grind))
 |u::w::l,t,x,h,a=>by cases h with|cons g1 b c d=>exact .cons g1 b c (Canon.grow (l:=w::l) d a)
def Canon.all_hd{l:List aB}(h:Canon l):∀s∈l,s.frm<s.to:=by induction l with|nil=>grind|cons u l a=>
 intro s hs;rcases dA.1 hs with rfl|hs;·exact h.hd
 exact a h.tail s hs
def Gq{l m:List aB}{d:Int}:bF (l++m) d=(bF l d).or (bF m d):=by grind[bF]
def Canon.mem_to{l:List aB}(h:Canon l){b:Int}(c:∀t,l.getLast?=some t->t.to<=b):∀s∈l,s.to<=b:=by induction l with|nil=>grind|cons u l a=>intro s hs;cases l with|nil=>grind|cons w l=>
 have a:=a h.tail (λt d=>c t (by grind));rcases dA.1 hs with rfl|hs;·have:=a w N2;have e:=h.le w N2;have:=h.tail.hd;omega
 grind
def A0{l:List aB}{d:Int}(h:∀t∈l,t.to<=d):bF l d=none:=by induction l with|nil=>rfl|cons s l a=>grind[dZ]
def am9{l:List aB}{s:aB}(h:Canon l)(g:∀t,l.getLast?=some t->t.to<=s.frm)(hs:s.frm<s.to):Canon (cg l s)/\(∀d,bF (cg l s) d=if s.frm<=d/\d<s.to then some s.v else bF l d)/\∀t,(cg l s).getLast?=some t->t.to=s.to:=by
 have i:=h.mem_to g;have j:bF [s]=λd=>if s.frm<=d/\d<s.to then some s.v else none:=by funext d;rw[dZ];rfl
 unfold cg;rw[E1 (by omega)];cases b:l.getLast? with|none=>rw[AB1.1 b];exact⟨.one hs,λd=>by rw[j];rfl,λt k=>by grind⟩|some t=>
 have k:=g t b;obtain⟨m,rfl⟩:=List.getLast?_eq_some_iff.1 b;simp only;by_cases c:t.to=s.frm/\t.v=s.v
 ·rw[G1 c,ACO];refine⟨h.grow (by omega),λd=>?_,λu a=>?_⟩
  ·rw[Gq,Gq,dZ,dZ];have o:∀u∈m,u.to<=s.frm:=λu a=>i u (by simp[a]);by_cases f:s.frm<=d
   ·rw[A0 (λu a=>by have:=o u a;omega)];by_cases c3:d<s.to;·rw[G1 (by have:=h.all_hd t (by simp);simp;omega),G1 ⟨f,c3⟩,<-c.2];rfl
    rw[E1 (by first|(simp only;omega)),E1 (by omega),E1 (by omega)]
   rw[E1 (c:=s.frm<=d/\d<s.to) (by omega)];cases bF m d with|some w=>rfl|none=>
   by_cases n:t.frm<=d/\d<t.to;·rw[G1 (by first|(simp;omega)),G1 n]
   rw[E1 (by first|(simp only;omega)),E1 n]
  rw[AA0,AAm]at a;cases a;rfl
 rw[E1 c];refine⟨h.snoc (λu a=>?_) hs,λd=>?_,λu a=>?_⟩;·rw[b]at a;cases a;exact⟨k,λe q=>c ⟨e,q⟩⟩
 ·rw[Gq,j];by_cases f:s.frm<=d/\d<s.to;·rw[A0 (λu a=>by have:=i u a;omega)];rfl
  simp only[E1 f];cases bF _ d<;>rfl
 rw[AA0,AAm]at a;cases a;rfl
def eo(T:List FN)(d:Int):Option FN:=(T.filter λf=>decide (f.frm<=d/\d<f.to)).getLast?
def eT(T:List FN)(d:Int):Option NV:=match eo T d with|some f=>if f.gone then none else some f.v|none=>none
def ir(T:List FN):List Int->List aB->List aB|a::b::r,acc=>ir T (b::r) (match eo T a with|some f=>if f.gone then acc else cg acc ⟨a,b,f.v⟩|none=>acc)|_,acc=>acc
def ana{T:List FN}{a b d:Int}(h:∀f∈T,(f.frm<=a\/b<=f.frm)/\(f.to<=a\/b<=f.to))(c:a<=d/\d<b):eo T d=eo T a:=by unfold eo;congr 1;refine x3 λf e=>?_;grind
theorem anb{T:List FN}{d:Int}(h:∀f∈T,f.to<=d):eo T d=none:=by grind[eo]
def Uc{T:List FN}:∀{r:List Int}{a:Int}{acc:List aB},(a::r).Pairwise (·<·)->(∀f∈T,(f.frm<a\/f.frm∈a::r)/\(f.to<a\/f.to∈a::r))->Canon acc->(∀t,acc.getLast?=some t->t.to<=a)->Canon (ir T (a::r) acc)/\∀d,bF (ir T (a::r) acc) d=if d<a then bF acc d else eT T d
 |[],a,acc,_,h,g,i=>by
  refine⟨g,λd=>?_⟩;show bF acc d=_;by_cases c:d<a;·grind
  rw[E1 c,A0 (λu l=>by have:=g.mem_to i u l;omega)];grind[eT,anb]|b::r,a,acc,m,h,g,i=>by
  have A:=(ey.1 m).1 b N2;have B:=(ey.1 (ey.1 m).2).1;have p:∀x,(x<a\/x∈a::b::r)->x<=a\/b<=x:=λx e=>by
   rcases e with e|e;·omega
   simp[dA]at e;rcases e with rfl|rfl|e;·omega
   ·omega
   have:=B x e;omega
  have q:∀x,(x<a\/x∈a::b::r)->x<b\/x∈b::r:=λx e=>by
   rcases e with e|e;·omega
   rcases dA.1 e with rfl|e;·omega
   exact .inr e
  have C:∀f∈T,(f.frm<b\/f.frm∈b::r)/\(f.to<b\/f.to∈b::r):=λf j=>⟨q _ (h f j).1,q _ (h f j).2⟩;have E:∀d,a<=d/\d<b->eo T d=eo T a:=λd F=>ana (λf j=>⟨p _ (h f j).1,p _ (h f j).2⟩) F;have v:∀k,Canon k->(∀t,k.getLast?=some t->t.to<=b)->(∀d,bF k d=if a<=d/\d<b then eT T a else bF acc d)->Canon _/\∀d,bF _ d=if d<a then bF acc d else eT T d:=λk G H I=>by
   obtain⟨J,K⟩:=Uc (ey.1 m).2 C G H;refine⟨J,λd=>?_⟩;rw[K d];by_cases w:d<b
   · rw[G1 w,I d];by_cases y:d<a;·rw[G1 y,E1 (by omega)]
     rw[E1 y,G1 (by omega)];unfold eT;rw[E d (by omega)]
   rw[E1 w,E1 (by omega)]
  show Canon (ir T (b::r) _)/\∀d,bF (ir T (b::r) _) d=_;have keep:eT T a=none->Canon _/\∀d,bF _ d=if d<a then bF acc d else eT T d:=λL=>by
   refine v acc g (λt n=>by have:=i t n;omega) λd=>?_;by_cases c:a<=d/\d<b;·rw[G1 c,L,A0 (λu l=>by have:=g.mem_to i u l;omega)]
   rw[E1 c]
  cases o:eo T a with|none=>exact keep (by unfold eT;rw[o])|some f=>simp;cases z:f.gone with|true=>exact keep (by unfold eT;rw[o];simp[z,if_true])|false=>
 obtain⟨M,N,P⟩:=am9 (s:=⟨a,b,f.v⟩) g i A;rw[E1 (by decide)];refine v _ M (λt n=>by have:=P t n;simp at this;omega) λd=>?_;rw[N d];have:eT T a=some f.v:=by unfold eT;rw[o];simp[z]
 rw[this]
def fZ(T:List FN):List Int:=bZ (cG (T.flatMap λf=>[f.frm,f.to]))
def gV(T:List FN):List aB:=ir T (fZ T) []
end
section
open Go.Dm
set_option maxRecDepth 10000
abbrev Fq:=Int×Nat
abbrev EQ:=Except Int Fq
def wW(a:Int)(b:Nat):EQ:=if(a/(Nat.gcd a.natAbs b:Nat)).natAbs<cap 256/\b/Nat.gcd a.natAbs b<cap 256 then .ok (a/(Nat.gcd a.natAbs b:Nat),b/Nat.gcd a.natAbs b)else .error 3
def nU(x y:Fq):EQ:=wW (x.1*y.1) (x.2*y.2)
def pr(x y:Fq):EQ:=wW (x.1*y.2+y.1*x.2) (x.2*y.2)
def Ud(x y:Fq):EQ:=wW (r7 x.1 y.1 y.2) (x.2*y.1.natAbs)
def kN:List aB->Fq->EQ|[],q=>.ok q|s::l,q=>match nU (s.v.n,s.v.m) (s.to-s.frm,1)with|.error e=>.error e|.ok p=>match pr q p with|.error e=>.error e|.ok a=>kN l a
def fk(s:aB):Bool:=decide (0<=s.frm/\s.frm<s.to/\s.to<=65536)
def fI(s t:aB):Bool:=decide (s.to<=t.frm/\s.v.k=t.v.k/\¬(s.to=t.frm/\s.v=t.v))
def ci:List aB->Bool|[]=>true|[s]=>fk s|s::t::l=>fk s&&fI s t&&ci (t::l)
def gz(l:List aB)(a b:Int):Except Int (List aB):=if ci l=true/\0<=a/\a<=b/\b<=65536 then .ok (rI l a b)else .error 2
def px(l:List aB):Bool:=match l with|[]=>true|s::_=>decide (s.v.k=2\/s.v.k=3)
def A1(l:List aB)(a b:Int):EQ:=match gz l a b with|.error e=>.error e|.ok p=>if px l=true then kN p (0,1)else .error 2
def py(a b:Int):Bool:=decide (0<=a/\a<=65536/\0<=b/\b<=65536)
def rJ(l:List aB):Bool:=ci l&&l.all λs=>decide (s.v.k=2/\0<=s.v.n/\s.v.n<=s.v.m)
def rK(l:List aB)(a b:Int):EQ:=if(rJ l&&py a b)=true then(if b<=a then .ok (0,1)else match A1 l a b with|.error e=>.error e|.ok q=>nU q (4,1461))else .error 2
def rL(l:List aB):Bool:=ci l&&match l with|[]=>true|s::_=>decide (s.v.k=3)
end
section
open Go.Dm
set_option maxRecDepth 10000
def lS(x:NV):Int:=if x.n< -2147483648*(x.m:Int)then-2147483648 else if 2147483647*(x.m:Int)<x.n then 2147483647 else x.n/(x.m:Int)
def nV(rows:List bU)(a:Int):Option bU:=(rows.filter λr=>decide (r.a<=a)).getLast?
def A2(rows:List bU)(a c:Int):Option bU:=match(rows.filter λr=>decide (r.a<a\/(r.a=a/\r.b<=c))).getLast? with|some r=>if r.a=a then some r else none|none=>none
def bK(a:Int):List bU->List bU->List bU|[],acc=>acc|r::l,acc=>if a<r.known then bK a l acc else match acc.getLast? with|some s=>if s.a=r.a/\s.b=r.b then bK a l (acc.dropLast++[r])else bK a l (acc++[r])|none=>bK a l (acc++[r])
structure bV where
 pure:Nat->Int->List NV->NR
 serv:List aB->Int->Int->EQ
 best:List aB->Int->Int->Int->EQ
 grow:Bool->List bU->Int->Int->EQ
def fJ(r:Nm×Int×Int)(M:aj):aj:={M with facts:=gq M.facts r}
def gc(n:Nm)(M:aj):aj:={M with tabs:=gq M.tabs n}
def NR.tr:NR->Tr|.ok v=>.ret v|.er e=>.err e
def EQ.tr(k:Nat):EQ->Tr|.ok q=>.ret ⟨k,q.1,q.2,0⟩|.error e=>.err e
def gB(e:EN)(d:Int)(k:Bool->Tr):Tr:=.call (.term e d) λv=>if v.k=1 then k (decide (v.i=1))else .err 185
def iX(d:Int)(k:List NV->Tr):List EN->List NV->Tr|[],acc=>k acc|e::l,acc=>.call (.term e d) λv=>iX d k l (acc++[v])
def fo(d:Int)(k:Nat->Tr):List (Nat×jt)->Nat->Nat->Tr|[],c,n=>if n=0 then .err 183 else if 1<n then .err 184 else k c|(i,x)::l,c,n=>gB x.when d λb=>if b=true then fo d k l i (n+1)else fo d k l c n
section
variable(O:bV)(W:Wd)
def eU(b:Nm)(vs:List NV):Tr:=match W.tab b with|none=>.err 6|some (a,rows)=>if a=decide (vs.length=2)then(match nV rows (lS vs[0]!)with|none=>.err 6|some r=>if a=true then(match A2 rows r.a (lS vs[1]!)with|none=>.err 6|some s=>.ret ⟨2,s.n,s.m,0⟩)else .ret ⟨2,r.n,r.m,0⟩)else .err 185
def ge(a:Nat)(b:Nm)(vs:List NV):Tr:=match W.view b with|.error e=>.err e|.ok l=>match gz l vs[0]!.i vs[1]!.i with|.error e=>.err e|.ok p=>if a=21 then(O.serv p vs[0]!.i vs[1]!.i).tr 2 else(O.best p vs[0]!.i vs[1]!.i vs[2]!.i).tr 3
def gD(a:Nat)(b:Nm)(d:Int):Tr:=match W.view b with|.error e=>.err e|.ok l=>if a=4 then .ret (fK (bF l d).isSome)else match bF l d with|some v=>.ret v|none=>.err 182
def cS(a:Nat)(b:Nm)(c:Int)(vs:List NV):Tr:=if co a (vs.map NV.k)=true then(if a=3\/a=4 then .st (fJ (b,vs[0]!.i,vs[0]!.i+1)) λ_=>gD W a b vs[0]!.i else if a=6 then .st (gc b) λ_=>eU W b vs else if a=21\/a=22 then(if vs[1]!.i<=vs[0]!.i then(if a=22 then .err 6 else .ret ⟨2,0,1,0⟩)else .st (fJ (b,vs[0]!.i,vs[1]!.i)) λ_=>ge O W a b vs)else if a=23 then .st (gc b) λ_=>match W.tab b with|none=>.err 6|some (d,rows)=>(O.grow d rows vs[0]!.i vs[1]!.i).tr 2 else(O.pure a c vs).tr)else .err 185
def lT(a:Nm)(v:NV):Tr:=if v.k=4 then .call (.pair a v.i) .ret else .err 185
def eA(e:EN)(d:Int):Tr:=if e.formed=true then(if e.op=1 then .ret (e.val.getD default)else if e.op=2 then .ret ⟨4,0,0,d⟩else if e.op=15 then gB e.args[0]! d λb=>if b=true then gB e.args[1]! d λc=>.ret (fK c)else .ret (fK false)else if e.op=16 then gB e.args[0]! d λb=>if b=true then .ret (fK true)else gB e.args[1]! d λc=>.ret (fK c)else if e.op=18 then gB e.args[0]! d λb=>if b=true then .call (.term e.args[1]! d) .ret else .call (.term e.args[2]! d) .ret else iX d (λvs=>if e.op=5 then lT e.name vs[0]! else cS O W e.op e.name e.md vs) e.args [])else .err 185
def mJ(p:Nm×Int)(M:aj):aj:={M with pairs:=M.pairs++[p]}
def pz(p:Nm×Int)(M:aj):aj:={M with begun:=M.begun++[p]}
def wX(p:Nm×Int)(v:NV)(M:aj):aj:={M with vals:=aZ p v M.vals}
def j0(p:Nm×Int)(k:Tr):Tr:=.st id λM=>if p∈M.begun then .err 186 else .st (mJ p) λ_=>if M.begun.length=4096 then .err 5 else .st (pz p) λ_=>match W.kind p.1 with|none=>.err 6|some _=>k
def A3(a:Nm)(d:Int)(k:Nat->Tr):Tr:=fo d k (W.cl a d) 0 0
def rM(a:Nm)(d:Int):Tr:=.st id λM=>match M.vals.lookup (a,d)with|some v=>.ret v|none=>j0 W (a,d) (A3 W a d λc=>.call (.term (W.clause c).thn d) λv=>if W.kind a=some v.k then .st (wX (a,d) v) λ_=>.ret v else .err 185)
def bQ:bk->Tr|.term e d=>eA O W e d|.pair a d=>rM W a d
end
end
section
open Go.Dm
set_option maxRecDepth 10000
structure SV where
 frm:Int
 to:Int
 a:AV
 ok:a.ok
def SV.c(s:SV):List D:=[.i .i64 s.frm,.i .i64 s.to,.i .u8 s.a.v.k,s.a.s,s.a.x,s.a.t,s.a.y,.i .i64 s.a.v.i]
def SV.n(s:SV):aB:=⟨s.frm,s.to,s.a.v⟩
def wm(b:Bool):∃a:AV,a.v=fK b/\a.ok:=by obtain⟨t1,c⟩:=r9 b;obtain⟨a,d,_,e⟩:=t1.av c;grind
noncomputable instance:Inhabited SV:=⟨⟨0,0,Classical.choose (wm true),(fx (wm true)).2⟩⟩
def AV.same_c(a b:AV)(d:a.ok)(e:b.ok){H:ab}{K:CR->Prop}:ac VS 60 [.ag [.i .u8 a.v.k,a.s,a.x,a.t,a.y,.i .i64 a.v.i],.ag [.i .u8 b.v.k,b.s,b.x,b.t,b.y,.i .i64 b.v.i]] H K↔K (.ret (.b (decide (a.v=b.v))) H):=(Yo d.d e.d d.o e.o).c wb rfl (by simp[AAn,AA9,AAo,D0];exact⟨d.pl,e.pl⟩) (.inl rfl)
def AV.valid_c(a:AV)(d:a.ok){H:ab}{K:CR->Prop}:ac VS 61 [.ag [.i .u8 a.v.k,a.s,a.x,a.t,a.y,.i .i64 a.v.i]] H K↔K (.ret (.b true) H):=by obtain⟨w,e,f,g⟩:=d.d.vlv d.o;have:=(Me w).c (H:=H) (K:=K) zG rfl (by simp[w.pl]) (.inl rfl);rw[e,f]at this;exact this
theorem SV.len(s:SV):s.c.length=8:=rfl
def SV.fl(s:SV):s.c.all D.flat=true:=by obtain⟨a,b,c,d⟩:=s.ok.fl;simp_all[SV.c,jR]
def ahu(s:SV){H:ab}{K:CR->Prop}:ac VS 233 (.ag s.c::[]) H K↔K (.ret (.b false) H):=by have e:=λ{H K}=>s.a.valid_c s.ok (H:=H) (K:=K);refine ai.c (.body Qs rfl ?_) Qs rfl (by simpa[cE]using s.fl) (.inl rfl);simp only[SV.c];simp[go_sem,apL,e]
structure zZ(l:List SV)(i:Nat):Prop where a:∀j,j<i->fk l[j]!.n=true/\(0<j->fI l[j-1]!.n l[j]!.n=true)
def Ra:∀{l:List SV},(∀j,j<l.length->fk l[j]!.n=true/\(0<j->fI l[j-1]!.n l[j]!.n=true))->ci (l.map SV.n)=true
 |[],_=>rfl|[s],h=>(h 0 (by simp)).1|s::t::l,h=>by
  have b:=(h 1 (by simp)).2 (by omega);have c:=Ra (l:=t::l) λj d=>by have:=h (j+1) (by grind);refine⟨this.1,λe=>?_⟩;have a:=this.2 (by omega);obtain⟨m,rfl⟩:∃m,j=m+1:=⟨j-1,by omega⟩;exact a
  grind[fk,fI,ci,SV.n]
def EH:∀{l:List SV}{j:Nat},j<l.length->(fk l[j]!.n=false\/(0<j/\fI l[j-1]!.n l[j]!.n=false))->ci (l.map SV.n)=false
 |[],_,a,_=>by grind|[s],0,_,h=>by
  rcases h with h|h;·exact h
  omega|[s],j+1,a,_=>by grind|s::t::l,0,_,h=>by grind[fk,fI,ci,SV.n]|s::t::l,1,_,h=>by
  show(fk s.n&&fI s.n t.n&&ci ((t::l).map SV.n))=false;rcases h with h|⟨_,h⟩;·rw[EH (j:=0) (by simp) (.inl h),ABh]
  grind|s::t::l,j+2,a,h=>by show(fk s.n&&fI s.n t.n&&ci ((t::l).map SV.n))=false;rw[EH (j:=j+1) (by grind) (by grind),ABh]
variable{x:SV}
def EI(h:¬(0<=x.frm/\x.frm<x.to/\x.to<=65536)):fk x.n=false:=R1 h
def ahv(h:0<=x.frm/\x.frm<x.to/\x.to<=65536):fk x.n=true:=R2 h
def EJ{t:SV}(h:¬(x.to<=t.frm/\x.a.v.k=t.a.v.k/\¬(x.to=t.frm/\x.a.v=t.a.v))):fI x.n t.n=false:=R1 h
def Rb{t:SV}(h:x.to<=t.frm/\x.a.v.k=t.a.v.k/\¬(x.to=t.frm/\x.a.v=t.a.v)):fI x.n t.n=true:=R2 h
def zZ.succ{l:List SV}{i:Nat}(h:zZ l i)(a:fk l[i]!.n=true)(b:0<i->fI l[i-1]!.n l[i]!.n=true):zZ l (i+1):=⟨λj d=>by
 by_cases c:j=i;·grind
 exact h.a j (by omega)⟩
def Aa{l:List SV}{x:D}(h:Sl 8 (l.map SV.c) x)(hl:l.length<1099511627776):ai VS 182 [x] (.b (ci (l.map SV.n))):=by
 have W:=λ{H K}=>mj (V:=VS) (f:=232) (h:=280) (g:=233) (w:=8) (agg:=true) (enc:=SV.c) (key:=λs=>.ag s.c) (l:=l) (x:=x) (cp:=[]) (p:=λ_=>false) (H:=H) (K:=K) (Qr.trans (by kernel_rfl)) (QQ.trans (by kernel_rfl)) h (by omega) SV.len (λ_=>rfl) (by decide) (λa K=>ahu a);have X:(l.any λ_=>false)=false:=by simp
 refine .body (vf:=Bv) wi rfl ?_;simp(disch:=omega)only[go_sem,simprocAttr,apn,h.n];refine ak.up (λi s=>∃I J L M N P Q,zZ l i/\s=⟨[x,.b false,I,J,L,M,.i .i64 i,.i .i64 l.length,x,N,P,Q],[]⟩) l.length ⟨_,_,_,_,_,_,_,⟨λj Y=>by omega⟩,rfl⟩ ?_;rintro i s hi⟨I,J,L,M,N,P,Q,hr,rfl⟩;by_cases u:i<l.length
 ·have c:(i:Int)<(l.length:Int):=by omega
  have d:(0:Int)<=(i:Int):=by omega
  have A:IntKind.i64.wrap ((i:Int)+1)=((i+1:Nat):Int):=by rw[wr (by omega) (by omega)];omega
  obtain⟨s,hs⟩:∃s,s=l[i]!:=⟨_,rfl⟩;have v:(fk s.n=false\/(0<i/\fI l[i-1]!.n s.n=false))->ci (l.map SV.n)=false:=λh=>EH u (hs▸h);by_cases d1:s.frm<0;·have:=v (.inl (EI (by omega)));simp(disch:=omega)only[go_sem,simprocAttr,mK,h.q,c,d,da,<-hs,SV.c,d1,this]
  by_cases d2:s.to<=s.frm;·have:=v (.inl (EI (by omega)));simp(disch:=omega)only[go_sem,simprocAttr,mK,h.q,c,d,da,<-hs,SV.c,d1,d2,this]
  by_cases d3:65536<s.to;·have:=v (.inl (EI (by omega)));simp(disch:=omega)only[go_sem,simprocAttr,mK,h.q,c,d,da,<-hs,SV.c,d1,d2,d3,this]
  have Z:fk s.n=true:=ahv (by omega);have B:fk l[i]!.n=true:=hs▸Z;by_cases ab:i=0;·have z0:((i:Int)=0)↔True:=iff_of_true (by omega) trivial;have k:=hr.succ B (λh=>by omega);simp(disch:=omega)only[go_sem,simprocAttr,mK,h.q,c,d,da,<-hs,SV.c,d1,d2,d3,A,z0];exact⟨u,k⟩
  have z0:¬(i:Int)=0:=by omega
  have m:IntKind.i64.wrap ((i:Int)-1)=((i-1:Nat):Int):=by rw[wr (by omega) (by omega)];omega
  have c3:(0:Int)<=((i-1:Nat):Int):=by omega
  have o:((i-1:Nat):Int)<(l.length:Int):=by omega
  obtain⟨t,e⟩:∃t,t=l[i-1]!:=⟨_,rfl⟩;have C:fI t.n s.n=false->ci (l.map SV.n)=false:=λh=>v (.inr ⟨by omega,e▸h⟩);have S:=λ{H K}=>t.a.same_c s.a t.ok s.ok (H:=H) (K:=K);by_cases q:s.frm<t.to;·have:=C (EJ (by omega));simp(disch:=omega)only[go_sem,simprocAttr,mK,h.q,c,d,da,<-hs,SV.c,d1,d2,d3,m,z0,c3,o,<-e,q,this]
  by_cases E:t.a.v.k=s.a.v.k
  ·have r:((t.a.v.k:Int)=(s.a.v.k:Int))↔True:=iff_of_true (by omega) trivial;by_cases y:t.to=s.frm
   ·have U:(t.to=s.frm)↔True:=iff_of_true y trivial;by_cases z:t.a.v=s.a.v;·have:=C (EJ (λg=>g.2.2 ⟨y,z⟩));have F:=λ{H K}=>(S (H:=H) (K:=K)).trans (by rw[R2 z]);simp(disch:=omega)only[go_sem,simprocAttr,mK,h.q,c,d,da,<-hs,SV.c,d1,d2,d3,m,z0,c3,o,<-e,q,r,U,F,this]
    have G:fI t.n s.n=true:=Rb ⟨by omega,E,λg=>z g.2⟩;have k:=hr.succ B (λ_=>by rw[<-hs,<-e];exact G);have F:=λ{H K}=>(S (H:=H) (K:=K)).trans (by rw[R1 z]);simp(disch:=omega)only[go_sem,simprocAttr,mK,h.q,c,d,da,<-hs,SV.c,d1,d2,d3,A,m,z0,c3,o,<-e,q,r,U,F];exact⟨u,k⟩
   have G:fI t.n s.n=true:=Rb ⟨by omega,E,λg=>y g.1⟩;have k:=hr.succ B (λ_=>by rw[<-hs,<-e];exact G);simp(disch:=omega)only[go_sem,simprocAttr,mK,h.q,c,d,da,<-hs,SV.c,d1,d2,d3,A,m,z0,c3,o,<-e,q,r,y];exact⟨u,k⟩
  have r:¬(t.a.v.k:Int)=(s.a.v.k:Int):=by omega
  have:=C (EJ (λg=>E g.2.1));simp(disch:=omega)only[go_sem,simprocAttr,mK,h.q,c,d,da,<-hs,SV.c,d1,d2,d3,m,z0,c3,o,<-e,q,r,this]
 have c:¬(i:Int)<(l.length:Int):=by omega
 simp(disch:=omega)only[go_sem,simprocAttr,mK,c,W,X];rw[Ra (λj Y=>hr.a j (by omega))]
end
section
open Go.Dm
set_option maxRecDepth 10000
def EL{v:NV}(h:v.ok):(ds 65536 v.n.natAbs).length<70368744177665/\(ds 65536 v.m).length<70368744177665:=by
 by_cases a:v.k=2\/v.k=3;·have:=(h.f a).1;exact⟨l7 this.bn (by omega),l7 this.bm (by omega)⟩
 obtain⟨b,c⟩:=h.o a;grind[cz]
def ahw{a:AV}(c:a.ok):∃b:AV,b.v=a.v/\b.ok/\ai VS 234 [.ag a.c] (.ag b.c):=by obtain⟨x,y,e,g,h⟩:=c.d.h;obtain⟨i,j⟩:=EL c.o;obtain⟨k,l,d⟩:=p6 g.sl i;obtain⟨n,o,f⟩:=p6 h.sl j;have p:=λ{H K}=>l.c (H:=H) (K:=K) nB rfl (by simp[g.sl.pl]) (.inl rfl);have q:=λ{H K}=>o.c (H:=H) (K:=K) nB rfl (by simp[h.sl.pl]) (.inl rfl);have r:=λm H=>ah d.flat m H;have s:=λm H=>ah f.flat m H;have t:VD a.v _:=⟨k,n,rfl,⟨d⟩,⟨f⟩⟩;obtain⟨b,u,v,w⟩:=t.av c.o;refine⟨b,u,w,?_⟩;rw[e,<-v];refine .body Qt rfl ?_;simp[go_sem,simprocAttr,apM,p,q,r,s,d.c1,f.c1]
def ahx{a:AV}(c:a.ok):∃b:AV,b.v=a.v/\b.ok/\∀{H K},ac VS 234 [.ag [.i .u8 a.v.k,a.s,a.x,a.t,a.y,.i .i64 a.v.i]] H K↔K (.ret (.ag [.i .u8 b.v.k,b.s,b.x,b.t,b.y,.i .i64 b.v.i]) H):=by obtain⟨b,d,e,f⟩:=ahw c;exact⟨b,d,e,λ{H K}=>f.c Qt rfl (by simp[AAn,AA9,AAo];exact c.pl) (.inl rfl)⟩
def ahy{a b:Int}:ai VS 183 [.i .i64 a,.i .i64 b] (.b (decide (0<=a/\a<=b/\b<=65536))):=by
 refine .body Qg rfl ?_;by_cases c:0<=a
 ·by_cases d:a<=b
  ·by_cases e:b<=65536;·simp[go_sem,Bw,c,d];try simp[c,d,e]
   simp[go_sem,Bw,c,d];try simp[c,d,e]
  simp only[go_sem,Bw,c,d];grind
 simp only[go_sem,Bw,c];grind
def Rc{l:List SV}(h:l≠[]):(l.map SV.n).getLast?=some l[l.length-1]!.n:=by have a:=V2.2 h;grind
def Rd{α:Type}{l:List α}(h:l≠[]){n:Nat}{a:α}(c:n=l.length:=by simp):l.set (n-1) a=l.dropLast++[a]:=by obtain⟨m,b,rfl⟩:=ABQ l|>.resolve_left h;simp_all
def Re(a:ab)(acc:List SV)(s:SV)(r:CR):Prop:=∃l:List SV,l.map SV.n=cg (acc.map SV.n) s.n/\r=.ret (bD a .nil (l.map SV.c)) (bH a 8 (l.map SV.c))
def ahz{H0:ab}{acc:List SV}{s:SV}(X:acc.length<1099511627776):ac VS 184 [bD H0 .nil (acc.map SV.c),.sv 8 [s.c]] (bH H0 8 (acc.map SV.c)) (Re H0 acc s):=by
 obtain⟨b,Z,I,o⟩:=ahx s.ok;have g0:∀{H:ab},cJ H (.sv 8 [s.c]) (.i .i64 0) 8=some _:=λ{H}=>rfl;have c:IntKind.i64.wrap 1=1:=by decide
 have P:∀{H:ab},dj H 1 (.sv 8 [s.c])=some (.i .i64 1):=λ{H}=>rfl;simp[SV.c]at g0 P⊢;refine .body agS rfl rfl ?_;simp[go_sem,apo];rw[bv];by_cases d1:s.to<=s.frm;·simp[go_sem,simprocAttr,xo,g0,d1,c];rw[bv];simp[go_sem,simprocAttr];exact⟨acc,by unfold cg;rw[G1 (show s.n.to<=s.n.frm from d1)],rfl⟩
 have p:∀(m:List aB),cg m s.n=match m.getLast? with|some t=>if t.to=s.frm/\t.v=s.a.v then m.dropLast++[⟨t.frm,s.to,t.v⟩]else m++[s.n]|none=>[s.n]:=λm=>by unfold cg;rw[E1 (show¬s.n.to<=s.n.frm from d1)];rfl
 obtain⟨a,Q⟩:∃a:SV,a=⟨s.frm,s.to,b,I⟩:=⟨_,rfl⟩;have q:a.c=[.i .i64 s.frm,.i .i64 s.to,.i .u8 b.v.k,b.s,b.x,b.t,b.y,.i .i64 b.v.i]:=by rw[Q];rfl
 have J:a.n=s.n:=by grind[SV.n]
 obtain⟨u,v,x,y⟩:=I.fl;have f:=nz (H0:=H0) (w:=8) (bytes:=96) (r:=a.c) (enc:=SV.c) (l:=acc) (by omega) (by omega);rw[q]at f;by_cases d:acc=[]
 ·have S:(acc.length:Int)=0:=by grind
  simp[go_sem,simprocAttr,xo,g0,d1,c,o,S,f,u,v,x,y];rw[bv];simp[go_sem,simprocAttr];refine⟨[a],?_,?_⟩;·rw[p,d];simp[J]
  rw[d,<-q];rfl
 have e:=V2.2 d;have z:(0:Int)<acc.length:=by omega
 have A:IntKind.i64.wrap (acc.length-1)=((acc.length-1:Nat)):=by rw[wr (by omega) (by omega)];omega
 have c3:0<=((acc.length-1:Nat):Int):=by omega
 have B:((acc.length-1:Nat):Int)<acc.length:=by omega
 have C:acc.length-1<acc.length:=by omega
 obtain⟨t,h⟩:∃t,t=acc[acc.length-1]!:=⟨_,rfl⟩;have E:=Rc d;rw[<-h]at E;have L:=λ{H K}=>t.a.same_c s.a t.ok s.ok (H:=H) (K:=K);have F:¬(t.to=s.frm/\t.a.v=s.a.v)->∃l:List SV,l.map SV.n=cg _ s.n/\acc.map SV.c++[a.c]=l.map SV.c:=λU=>⟨acc++[a],by rw[p,E];simp only;rw[E1 (show¬(t.n.to=s.frm/\t.n.v=s.a.v)from U),<-J];simp,by simp⟩;have ext:∀{Y:List _},(∃l:List SV,l.map SV.n=cg _ s.n/\Y=l.map SV.c)->Re H0 acc s (.ret _ _):=λ⟨l,V,W⟩=>⟨l,V,by rw[W]⟩;rw[q]at F;by_cases j:t.to=s.frm
 ·have M:=iff_of_true j trivial;by_cases k:t.a.v=s.a.v
  ·have G:=λ{H K}=>(L (H:=H) (K:=K)).trans (by rw[R2 k]);simp only[go_sem,simprocAttr,xo,g0,d1,c,A,z,c3,B,C,SV.c,<-h,M,G];refine⟨e,e,?_⟩;rw[bv];simp[go_sem,simprocAttr];obtain⟨n,N⟩:∃n:SV,n=⟨t.frm,s.to,t.a,t.ok⟩:=⟨_,rfl⟩;refine⟨acc.set (acc.length-1) n,?_,?_⟩;·rw[p,E];simp only;rw[G1 (⟨j,k⟩),AAH,Rd (by simpa using d),N];rfl
   rw[AAH,show n.c=[.i .i64 t.frm,.i .i64 s.to,.i .u8 _,t.a.s,t.a.x,t.a.t,t.a.y,.i .i64 _]by rw[N];rfl,tK (rows:=(List.map SV.c acc).set _ _) (rows':=List.map SV.c acc) (by simp)]
  have G:=λ{H K}=>(L (H:=H) (K:=K)).trans (by rw[R1 k]);simp only[go_sem,simprocAttr,xo,g0,d1,c,A,o,z,c3,B,C,SV.c,<-h,M,G,f,u,v,x,y];rw[bv];simp only[go_sem,simprocAttr];exact⟨e,e,ext (F λg=>k g.2)⟩
 simp only[go_sem,simprocAttr,xo,g0,d1,c,A,o,z,c3,B,C,SV.c,<-h,j,f,u,v,x,y];rw[bv];simp[go_sem,simprocAttr];exact⟨e,ext (F λg=>j g.1)⟩
theorem Rf(l:List aB)(s:aB):(cg l s).length<=l.length+1:=by grind[cg]
structure Rg(l:List SV)(a b:Int)(y:D)(e:Int):Prop where h:(e=0/\∃m:List SV,Sl 8 (m.map SV.c) y/\gz (l.map SV.n) a b=.ok (m.map SV.n)/\m.length<=l.length)\/(e=2/\y=.nil/\gz (l.map SV.n) a b=.error 2)
def tT(l:List SV)(a b:Int)(i:Nat):List aB:=(l.take i).foldl (λacc s=>cg acc ⟨max s.frm a,min s.to b,s.a.v⟩) []
def ahA{l:List SV}{a b:Int}{i:Nat}(h:i<l.length):tT l a b (i+1)=cg (tT l a b i) ⟨max l[i]!.frm a,min l[i]!.to b,l[i]!.a.v⟩:=by unfold tT;rw[pv,E2 h,K0 l i h,ABE];rfl
theorem ahB{l:List SV}{a b:Int}:tT l a b l.length=rI (l.map SV.n) a b:=by unfold tT rI;rw[ph,List.foldl_map];rfl
def bl{s:SV}{a b:Int}:∃t:SV,t=⟨max s.frm a,min s.to b,s.a,s.ok⟩:=by grind
def EM{l:List SV}{x:D}{a b:Int}(h:Sl 8 (l.map SV.c) x)(C:l.length<1000000000000):∃y e,ai VS 157 [x,.i .i64 a,.i .i64 b] (.tu [y,.i .i64 e])/\Rg l a b y e:=by
 have f:=λ{H K}=>(Aa h (by omega)).c (H:=H) (K:=K) wi rfl (by simp[h.pl]) (.inl rfl);have g:=λ{H K}=>(ahy (a:=a) (b:=b)).c (H:=H) (K:=K) Qg rfl rfl (.inl rfl);by_cases j:ci (l.map SV.n)=true
 ·rw[j]at f;by_cases m:0<=a/\a<=b/\b<=65536
  ·rw[R2 m]at g;have w:aE VS 157 [x,.i .i64 a,.i .i64 b] (λr=>∃d,r=.ret d/\∃y,d=.tu [y,.i .i64 0]/\Rg l a b y 0):=by
    refine .body tN rfl ?_;simp[go_sem,I8,f,g,h.n];refine ak.up (λi s=>∃(acc:List SV)(n o:D),acc.map SV.n=tT l a b i/\acc.length<=i/\s=⟨[x,.i .i64 a,.i .i64 b,.nil,.i .i64 0,.b false,n,bD [] .nil (acc.map SV.c),.i .i64 i,.i .i64 _,x,o],bH [] 8 (acc.map SV.c)⟩) l.length ⟨[],_,_,rfl,Hk _,rfl⟩ ?_;rintro i s hi⟨acc,n,o,z,E,rfl⟩;by_cases p:i<l.length
    ·have k:(i:Int)<l.length:=by omega
     have c3:(0:Int)<=i:=by omega
     have A:IntKind.i64.wrap (i+1)=((i+1:Nat)):=by grind[wr]
     obtain⟨s,hs⟩:∃s,s=l[i]!:=⟨_,rfl⟩;obtain⟨t,q⟩:=bl (s:=s) (a:=a) (b:=b);have u:=ahz (H0:=[]) (acc:=acc) (s:=t) (by omega);rw[show t.c=[.i .i64 (max s.frm a),.i .i64 (min s.to b),.i .u8 s.a.v.k,s.a.s,s.a.x,s.a.t,s.a.y,.i .i64 s.a.v.i]by rw[q];rfl]at u;simp[go_sem,simprocAttr,V4,h.q,k,<-hs,SV.c];refine u.mono λr hr=>?_;obtain⟨v,g1,rfl⟩:=hr;have B:v.length<=i+1:=by grind[Rf,SV.n]
     simp[go_sem,A];exact⟨p,v,by rw[g1,z,ahA p,<-hs,q];rfl,B,rfl,rfl⟩
    have k:¬(i:Int)<l.length:=by omega
    simp only[go_sem,V4,k];exact⟨_,rfl,⟨.inl ⟨rfl,acc,qV rfl 8 _,by grind[gz,ahB],by omega⟩⟩⟩
   obtain⟨d,F,y,rfl,G⟩:=w.ex;grind
  rw[R1 m]at g;refine⟨.nil,2,.body tN rfl ?_,⟨.inr ⟨rfl,rfl,by grind[gz]⟩⟩⟩;simp[go_sem,I8,f,g]
 rw[Bool.not_eq_true]at j;rw[j]at f;refine⟨.nil,2,.body tN rfl ?_,⟨.inr ⟨rfl,rfl,by grind[gz]⟩⟩⟩;simp[go_sem,I8,f]
end
section
open Go.Dm
set_option maxRecDepth 10000
structure QV where
 q:Fq
 s:D
 x:D
 t:D
 y:D
 f:Fr q.1 q.2 (.ag [s,x,t,y])l:dP q.1 q.2
def QV.c(q:QV):List D:=[q.s,q.x,q.t,q.y]
structure ba(r:EQ)(d:D):Prop where h:(∃q:QV,r=.ok q.q/\d=.tu [.ag [q.s,q.x,q.t,q.y],.i .i64 0])\/(∃e:Int,r=.error e/\e≠0/\d=.tu [.ag [.b false,.nil,.b false,.nil],.i .i64 e])
theorem gf.eq{a:Int}{b:Nat}{r:D}(f:b≠0)(h:gf a b r):ba (wW a b) r:=by
 unfold wW;obtain⟨d,⟨c,e,rfl,g⟩|⟨c,rfl⟩⟩:=h.h;·rw[G1 ⟨c,e⟩];obtain⟨x,y,rfl,i,j⟩:=g.h;exact⟨.inl ⟨⟨(_,_),_,_,_,_,⟨x,y,rfl,i,j⟩,Yr f ⟨c,e⟩⟩,rfl,rfl⟩⟩
 rw[E1 c];exact⟨.inr ⟨3,rfl,by decide,rfl⟩⟩
def QV.fl(q:QV):q.s.flat=true/\q.x.flat=true/\q.t.flat=true/\q.y.flat=true:=q.f.pl4
def QV.mul(a b:QV):∃r,ba (nU a.q b.q) r/\∀{H K},ac VS 169 [.ag [a.s,a.x,a.t,a.y],.ag [b.s,b.x,b.t,b.y]] H K↔K (.ret r H):=by obtain⟨r,r1,r2⟩:=Yd a.f b.f a.l b.l;have e:=r2.eq (pa a.l.z b.l.z);refine⟨r,e,λ{H K}=>r1.c Ei rfl (by simp[a.f.pl,b.f.pl]) ?_⟩;exact .inl rfl
def QV.add(a b:QV):∃r,ba (pr a.q b.q) r/\∀{H K},ac VS 194 [.ag [a.s,a.x,a.t,a.y],.ag [b.s,b.x,b.t,b.y]] H K↔K (.ret r H):=by obtain⟨r,r1,r2⟩:=Ye a.f b.f a.l b.l;have e:=r2.eq (pa a.l.z b.l.z);exact⟨r,e,λ{H K}=>r1.c Ek rfl (by simp[a.f.pl,b.f.pl]) (.inl rfl)⟩
def QV.div(a b:QV)(c:b.q.1≠0):∃r,ba (Ud a.q b.q) r/\∀{H K},ac VS 170 [.ag [a.s,a.x,a.t,a.y],.ag [b.s,b.x,b.t,b.y]] H K↔K (.ret r H):=by obtain⟨r,r1,r2⟩:=Yi a.f b.f a.l b.l c;have e:=r2.eq (pa a.l.z (by omega));exact⟨r,e,λ{H K}=>r1.c Ej rfl (by simp[a.f.pl,b.f.pl]) (.inl rfl)⟩
def QV.cmp(a b:QV){H:ab}{K:CR->Prop}:ac VS 166 [.ag [a.s,a.x,a.t,a.y],.ag [b.s,b.x,b.t,b.y]] H K↔K (.ret (.i .i64 (cP (a.q.1*b.q.2) (b.q.1*a.q.2))) H):=(uG a.f b.f a.l b.l).c q8 rfl (by simp[a.f.pl,b.f.pl]) (.inl rfl)
def QV.int{n:Int}(a:-9223372036854775808<=n/\n<9223372036854775808):∃q:QV,q.q=(n,1)/\∀{H K},ac VS 137 [.i .i64 n] H K↔K (.ret (.ag [q.s,q.x,q.t,q.y]) H):=by obtain⟨d,b,c⟩:=Mc a;obtain⟨x,y,rfl,e,f⟩:=c.h;exact⟨⟨(n,1),_,_,_,_,⟨x,y,rfl,e,f⟩,xT (by omega)⟩,rfl,λ{H K}=>b.c qY rfl rfl (.inl rfl)⟩
def AV.ok.qv{a:AV}(h:a.ok)(b:a.v.k=2\/a.v.k=3):∃q:QV,q.q=(a.v.n,a.v.m)/\q.s=a.s/\q.x=a.x/\q.t=a.t/\q.y=a.y:=by obtain⟨s,x,t,y,e,f⟩:=h.d.cs;obtain⟨rfl,rfl,rfl,rfl⟩:=e;exact⟨⟨(_,_),_,_,_,_,f,(h.o.f b).1⟩,rfl,rfl,rfl,rfl,rfl⟩
def ahC{P:NV->Prop}{l:List aB}{s:aB}(h:∀t∈l,P t.v)(hs:P s.v):∀t∈cg l s,P t.v:=by
 unfold cg;split;·exact h
 split
 ·rename_i t b;split
  ·intro u a;rcases bN.1 a with a|a;·exact h u (ABX _ a)
   grind
  grind
 grind
def Rh{P:NV->Prop}{a b:Int}:∀{l acc:List aB},(∀t∈l,P t.v)->(∀t∈acc,P t.v)->∀t∈l.foldl (λacc s=>cg acc ⟨max s.frm a,min s.to b,s.v⟩) acc,P t.v|[],_,_,h=>h|s::l,acc,c,h=>Rh (l:=l) (λt d=>c t (K2 _ d)) (ahC h (c s N2))
theorem Ri:∀{l:List aB}{s:aB},ci (s::l)=true->∀t∈s::l,t.v.k=s.v.k
 |[],s,_,t,a=>by grind|u::l,s,h,t,a=>by
  have b:(fk s&&fI s u&&ci _)=true:=h;simp[D0]at b;have c:=(gA b.1.2).2.1;rcases dA.1 a with rfl|a;·rfl
  rw[Ri b.2 t a,c]
def ahD{l p:List aB}{a b:Int}(h:gz l a b=.ok p)(d:px l=true):∀t∈p,t.v.k=2\/t.v.k=3:=by
 unfold gz at h;split at h;·rename_i hr;cases h;cases l with|nil=>intro t c;cases c|cons s l=>have e:=gA d;refine Rh (P:=λv=>v.k=2\/v.k=3) (λt c=>?_) (λt c=>by cases c);grind[Ri]
 grind
def ahE{l p:List aB}{a b:Int}(h:gz l a b=.ok p):0<=a/\a<=b/\b<=65536:=by grind[gz]
def ahF{a b:Int}(d:0<=a/\b<=65536){l:List aB}{s:aB}(h:∀t∈l,0<=t.frm/\t.to<=65536/\t.frm<t.to)(hs:0<=s.frm/\s.to<=65536):∀t∈cg l s,0<=t.frm/\t.to<=65536/\t.frm<t.to:=by
 unfold cg;split;·exact h
 rename_i e;split
 ·rename_i t f;split
  ·rename_i g;intro u c;rcases bN.1 c with c|c;·exact h u (ABX _ c)
   grind
  grind
 grind
def Rj{a b:Int}(c:0<=a/\b<=65536):∀{l acc:List aB},(∀t∈acc,0<=t.frm/\t.to<=65536/\t.frm<t.to)->∀t∈l.foldl (λacc s=>cg acc ⟨max s.frm a,min s.to b,s.v⟩) acc,0<=t.frm/\t.to<=65536/\t.frm<t.to|[],_,h=>h|s::l,acc,h=>Rj c (l:=l) (ahF c h ⟨by grind,by grind⟩)
def ahG{l p:List aB}{a b:Int}(h:gz l a b=.ok p):∀t∈p,0<=t.frm/\t.to<=65536/\t.frm<t.to:=by
 have hr:=ahE h;unfold gz at h;split at h;·cases h;exact Rj ⟨hr.1,hr.2.2⟩ (λt c=>by cases c)
 grind
def tU(l:List SV)(i:Nat):EQ:=kN ((l.take i).map SV.n) (0,1)
def ahH{l:List aB}{s:aB}:∀{q:Fq},kN (l++[s]) q=match kN l q with|.error e=>.error e|.ok a=>match nU (s.v.n,s.v.m) (s.to-s.frm,1)with|.error e=>.error e|.ok p=>pr a p:=by induction l<;>grind[kN,nU,pr]
def ahI{l m:List aB}:∀{q:Fq}{e:Int},kN l q=.error e->kN (l++m) q=.error e:=by induction l<;>grind[kN,nU,pr]
def ahJ{l:List SV}{i:Nat}(h:i<l.length):tU l (i+1)=match tU l i with|.error e=>.error e|.ok b=>match nU (l[i]!.a.v.n,l[i]!.a.v.m) (l[i]!.to-l[i]!.frm,1)with|.error e=>.error e|.ok p=>pr b p:=by unfold tU;rw[pv,E2 h,K0 l i h,hI];exact ahH
theorem Rk{l:List SV}{i:Nat}{e:Int}(h:tU l i=.error e):kN (l.map SV.n) (0,1)=.error e:=by have:=ahI (m:=(l.drop i).map SV.n) h;simp_all
theorem ba.er{r:EQ}{e:Int}(h:r=.error e)(a:e≠0):ba r (.tu [.ag [.b false,.nil,.b false,.nil],.i .i64 e]):=⟨.inr ⟨e,h,a,rfl⟩⟩
theorem ba.ok{r:EQ}{q:QV}(h:r=.ok q.q):ba r (.tu [.ag [q.s,q.x,q.t,q.y],.i .i64 0]):=⟨.inl ⟨q,h,rfl⟩⟩
def Rl{l:List SV}{x:D}{a b:Int}(h:Sl 8 (l.map SV.c) x)(Y:l.length<1000000000000):∃r,ai VS 187 [x,.i .i64 a,.i .i64 b] r/\ba (A1 (l.map SV.n) a b) r:=by
 obtain⟨y,e,Z,c2⟩:=EM (a:=a) (b:=b) h Y;have o:=λ{H K}=>Z.c (H:=H) (K:=K) tN rfl (by simp[h.pl,aV]) (.inl rfl);unfold A1;rcases c2.h with⟨rfl,m,g,v,a8⟩|⟨rfl,rfl,v⟩
 ·rw[v];simp only;obtain⟨j,z1,z2⟩:=QV.int (n:=0) (by omega);have L:px (l.map SV.n)=true->∀(w a6 z A B C E:D),ak VS (.loop Jx) ⟨[x,.i .i64 a,.i .i64 b,.bx [.b false,.nil,.b false,.nil],.i .i64 0,.b false,.b false,z,A,B,.i .i64 0,y,.i .i64 0,.i .i64 m.length,y,C,w,.bx [j.s,j.x,j.t,j.y],E],[]⟩ (mt 0 (kD VS (match By.body with|.seq _ (.seq _ (.seq _ (.seq _ (.seq _ (.seq _ r)))))=>r|c=>c) (dh [.bx 3 4 true,.s 4] (fG false λr=>∃d,r=.ret d/\ba (kN (m.map SV.n) (0,1)) d)))):=by
   intro hn w a6 z A B C E;have hk:=ahD v hn;have ae:=ahG v;refine ak.up (λi s=>∃(acc:QV)(w z A B C E:D),tU m i=.ok acc.q/\s=⟨[x,.i .i64 a,.i .i64 b,.bx [.b false,.nil,.b false,.nil],.i .i64 0,.b false,.b false,z,A,B,.i .i64 0,y,.i .i64 i,.i .i64 _,y,C,w,.bx [acc.s,acc.x,acc.t,acc.y],E],[]⟩) m.length ⟨j,_,_,_,_,_,_,by rw[z1];rfl,rfl⟩ ?_;rintro i s hi⟨acc,w,z,A,B,C,E,ha,rfl⟩;obtain⟨g1,g2,g3,g4⟩:=acc.fl;by_cases am:i<m.length
   ·have F:(i:Int)<(m.length:Int):=by omega
    have c3:(0:Int)<=(i:Int):=by omega
    have w1:IntKind.i64.wrap (i+1)=((i+1:Nat)):=by grind[wr]
    obtain⟨s,hs⟩:∃s,s=m[i]!:=⟨_,rfl⟩;have S:s.n∈m.map SV.n:=by grind
    have ao:s.a.v.k=2\/s.a.v.k=3:=hk _ S;have a9:0<=s.frm/\s.to<=65536/\s.frm<s.to:=ae _ S;have M:IntKind.i64.wrap _=s.to-s.frm:=wr (by omega) (by omega);obtain⟨qs,aq,ar,au,av,aw⟩:=s.ok.qv ao;obtain⟨qd,ay,N⟩:=QV.int (n:=s.to-s.frm) (by omega);obtain⟨r1,U,J⟩:=qs.mul qd;rw[ar,au,av,aw]at J;have V:=ahJ am;rw[<-hs,ha]at V;rw[aq,ay]at U;rcases U.h with⟨p,W,rfl⟩|⟨e,W,p2,rfl⟩
    ·rw[W]at V;obtain⟨r2,n1,X⟩:=acc.add p;rcases n1.h with⟨q,q1,rfl⟩|⟨e,q1,q2,rfl⟩;·simp only[go_sem,simprocAttr,Bx,g.q,F,c3,<-hs,SV.c,M,N,J,X,w1];grind
     have a3:¬e=0:=q2;simp[go_sem,simprocAttr,Bx,g.q,F,<-hs,SV.c,M,N,J,X,a3];grind[ba.er,Rk]
    have a4:¬e=0:=p2;simp[go_sem,simprocAttr,Bx,g.q,F,<-hs,SV.c,M,N,J,a4];grind[ba.er,Rk]
   have F:¬(i:Int)<(m.length:Int):=by omega
   have bb:kN (m.map SV.n) (0,1)=.ok acc.q:=by grind[tU]
   simp[go_sem,Bx,nW,F,ah g1,ah g2,ah g3,ah g4];grind[ba.ok]
  have z3:=j.fl;by_cases P:l=[]
  ·have G:(l.length:Int)=0:=by grind
   have k:px (l.map SV.n)=true:=by rw[P];rfl
   rw[G1 k];refine aE.ex (.body q9 rfl ?_);have:=L k .u .u .u .u .u .u .u;simp[nW,simprocAttr,CS]at this;simp[go_sem,simprocAttr,nW,o,h.n,G,z2,g.n];omega
  have hp:=V2.2 P;have G:(0:Int)<l.length:=by omega
  obtain⟨s,hs⟩:∃s,s=l[0]!:=⟨_,rfl⟩;have k:px (l.map SV.n)=decide (s.a.v.k=2\/s.a.v.k=3):=by cases l with|nil=>exact(P rfl).elim|cons t l=>rw[hs];rfl
  by_cases k2:s.a.v.k=2
  ·have I:(s.a.v.k:Int)=2:=by omega
   have f:px (l.map SV.n)=true:=by rw[k];exact R2 (.inl k2)
   rw[G1 f];refine aE.ex (.body q9 rfl ?_);have:=L f .u .u .u .u .u .u .u;simp[nW,simprocAttr,CS]at this;simp only[go_sem,simprocAttr,nW,o,h.n,h.q,G,z2,g.n,<-hs,SV.c,I];exact this
  by_cases k3:s.a.v.k=3
  ·have I:¬(s.a.v.k:Int)=2:=by omega
   have Q:((s.a.v.k:Int)=3)↔True:=iff_of_true (by omega) trivial;have f:px (l.map SV.n)=true:=by rw[k];exact R2 (.inr k3)
   rw[G1 f];refine aE.ex (.body q9 rfl ?_);have:=L f .u .u .u .u .u .u .u;simp[nW,simprocAttr,CS]at this;simp only[go_sem,simprocAttr,nW,o,h.n,h.q,G,z2,g.n,<-hs,SV.c,I,Q];exact this
  have I:¬(s.a.v.k:Int)=2:=by omega
  have Q:¬(s.a.v.k:Int)=3:=by omega
  have f:¬px (l.map SV.n)=true:=by rw[k,R1 (by omega)];exact ACU
  rw[E1 f];refine⟨_,.body q9 rfl ?_,ba.er rfl (by decide)⟩;simp only[go_sem,simprocAttr,nW,o,h.n,h.q,G,<-hs,SV.c,I,Q]
 rw[v];refine⟨_,.body q9 rfl ?_,ba.er rfl (by decide)⟩;simp[go_sem,simprocAttr,nW,o]
end
section
open Go.Dm
set_option maxRecDepth 10000
def wn(s:SV):Bool:=decide (s.a.v.k=2/\0<=s.a.v.n/\s.a.v.n<=s.a.v.m)
def EO{a b:Int}:(0<cP a b)=(b<a):=by grind[cP]
def ahK(q:QV)(m:q.q=(1,1))(s:SV){K:CR->Prop}:ac VS 281 (.ag s.c::[.hp 0 0]) [.hb 32 [q.s,q.x,q.t,q.y]] K↔K (.ret (.b (!wn s)) [.hb 32 [q.s,q.x,q.t,q.y]]):=by
 refine cC (bI.iff_q.2 (.body (vf:=BP) ahb rfl rfl ?_));have n:=s.ok.d.h;obtain⟨w,x,e,y,A⟩:=n;simp only[AV.c,D.ag.injEq,qo,and_true,true_and]at e;obtain⟨g,B,C,E⟩:=e;unfold wn;simp only[SV.c];by_cases d:s.a.v.k=2
 ·have a:(s.a.v.k:Int)=2:=by omega
  obtain⟨p,o,r,t,u,v⟩:=s.ok.qv (.inl d);have c:=λ{H K}=>p.cmp q (H:=H) (K:=K);rw[r,t,u,v,o,m]at c;by_cases i:s.a.v.n<0;·rw[g,R2 i];rw[R1 (p:=s.a.v.k=2/\0<=s.a.v.n/\s.a.v.n<=s.a.v.m) (by omega)];simp(disch:=omega)only[go_sem,simprocAttr,BQ,a]
  rw[g,R1 i]at c⊢;obtain⟨z,j⟩:∃z,z=cP (s.a.v.n*((1:Nat):Int)) (1*(s.a.v.m:Int)):=⟨_,rfl⟩;have k:(0<z)=(s.a.v.m<s.a.v.n):=by rw[j,EO];simp
  rw[show(s.a.v.n,s.a.v.m).1*(((1,1):Fq).2:Int)=s.a.v.n*((1:Nat):Int)from rfl,show((1,1):Fq).1*((s.a.v.n,s.a.v.m).2:Int)=1*(s.a.v.m:Int)from rfl,<-j]at c;by_cases l:s.a.v.m<s.a.v.n;·have f:0<z:=k▸l;rw[R1 (p:=s.a.v.k=2/\0<=s.a.v.n/\s.a.v.n<=s.a.v.m) (by omega)];simp(disch:=omega)only[go_sem,simprocAttr,BQ,a,c,f]
  have f:¬0<z:=λh=>l (k▸h);rw[R2 (p:=s.a.v.k=2/\0<=s.a.v.n/\s.a.v.n<=s.a.v.m) ⟨d,by omega,by omega⟩];simp(disch:=omega)only[go_sem,simprocAttr,BQ,a,c,f]
 have a:¬(s.a.v.k:Int)=2:=by omega
 rw[R1 (p:=s.a.v.k=2/\0<=s.a.v.n/\s.a.v.n<=s.a.v.m) (λh=>d h.1)];simp(disch:=omega)only[go_sem,simprocAttr,BQ,a]
def ahL{l:List SV}:rJ (l.map SV.n)=(ci (l.map SV.n)&&l.all wn):=by unfold rJ;rw[List.all_map];rfl
def ahM{l:List SV}{x:D}(h:Sl 8 (l.map SV.c) x)(j:l.length<1000000000000):ai VS 235 [x] (.b (rJ (l.map SV.n))):=by
 obtain⟨q,f,g⟩:=QV.int (n:=1) (by omega);have d:=λ{H K}=>(Aa h (by omega)).c (H:=H) (K:=K) wi rfl (by simp[h.pl]) (.inl rfl);have e:=λ{K}=>mj (agg:=true) (K:=K) (Qr.trans (by kernel_rfl)) (QQ.trans (by kernel_rfl)) h (by omega) SV.len (λ_=>rfl) (by decide) (λa K=>ahK q f a);have i:(l.any λs=>!wn s)=!(l.all wn):=by grind
 rw[i]at e;rw[ahL];refine .body Qu rfl ?_;cases hr:ci _ with|false=>rw[hr]at d;simp[go_sem,WK,d]|true=>rw[hr]at d;simp[go_sem,WK,d,g,e,Bool.not_not]
def ahN{l:List SV}{x:D}{a b:Int}(h:Sl 8 (l.map SV.c) x)(k:l.length<1000000000000):ai VS 185 [x,.i .i64 a,.i .i64 b] (.tu [.ag [.i .i64 a,.i .i64 b,x],.b (rJ (l.map SV.n)&&py a b)]):=by have d:=λ{H K}=>(ahM h k).c (H:=H) (K:=K) Qu rfl (by simp[h.pl]) (.inl rfl);have e:=λm H=>ah h.flat m H;refine .body Qh rfl ?_;unfold py;cases hs:rJ _ with|false=>rw[hs]at d;simp[go_sem,simprocAttr,uv,d,h.c1,e]|true=>
 rw[hs]at d;by_cases f:0<=a
 ·by_cases g:a<=65536
  ·by_cases n:0<=b
   ·by_cases j:b<=65536;·simp[go_sem,simprocAttr,uv,d,f,g,j,h.c1,e,decide_true]
    simp[go_sem,simprocAttr,uv,d,j,h.c1,e,decide_false]
   simp[go_sem,simprocAttr,uv,d,n,h.c1,e,false_and,decide_false]
  simp[go_sem,simprocAttr,uv,d,g,h.c1,e,false_and,decide_false]
 simp[go_sem,simprocAttr,uv,d,f,h.c1,e,false_and,decide_false]
def ahO{x:D}{a b:Int}(c:x.flat=true)(d:x.cellsN 1=some [x]):ai VS 186 [.ag [.i .i64 a,.i .i64 b,x]] (.b (decide (b<=a))):=by refine .body Qi rfl ?_;simp[go_sem,simprocAttr,apq]
def ahP{l:List SV}{x:D}{a b:Int}(h:Sl 8 (l.map SV.c) x)(z:l.length<1000000000000):∃r,ai VS 158 [x,.i .i64 a,.i .i64 b] r/\ba (rK (l.map SV.n) a b) r:=by have d:=λ{H K}=>(ahN (a:=a) (b:=b) h z).c (H:=H) (K:=K) Qh rfl (by simp[h.pl,aV]) (.inl rfl);have f:=λ{H K}=>(ahO (a:=a) (b:=b) h.flat h.c1).c (H:=H) (K:=K) Qi rfl (by simp[cE,jR,h.flat]) (.inl rfl);obtain⟨r,E,F⟩:=Rl (a:=a) (b:=b) h z;have o:=λ{H K}=>E.c (H:=H) (K:=K) q9 rfl (by simp[h.pl,aV]) (.inl rfl);unfold rK;cases A:(rJ _&&py a b)with|false=>rw[A]at d;refine⟨_,.body tO rfl ?_,ba.er rfl (by decide)⟩;simp[go_sem,xl,d]|true=>
 rw[A]at d;rw[G1 rfl];by_cases k:b<=a;·rw[R2 k]at f;rw[G1 k];obtain⟨q,g,m⟩:=QV.int (n:=0) (by omega);obtain⟨s,t,u,v⟩:=q.fl;refine⟨_,.body tO rfl ?_,ba.ok (by rw[g])⟩;simp[go_sem,xl,d,f,m,ah s,ah t,ah u,ah v]
 rw[R1 k]at f;rw[E1 k];rcases F.h with⟨q,g,rfl⟩|⟨e,g,m,rfl⟩
 ·rw[g];obtain⟨d4,G,I⟩:=xJ (n:=4) (by omega);obtain⟨d5,J,L⟩:=xJ (n:=1461) (by omega);obtain⟨w,rfl,M⟩:=I.h;obtain⟨z4,rfl,z5⟩:=L.h;have B:=λ{H K}=>G.c (H:=H) (K:=K) qZ rfl rfl (.inl rfl);have C:=λ{H K}=>J.c (H:=H) (K:=K) qZ rfl rfl (.inl rfl);obtain⟨c,j⟩:∃c:QV,c=⟨(4,1461),.b false,w,.b false,z4,⟨w,z4,rfl,M,z5⟩,⟨by decide,by decide,by decide,by decide⟩⟩:=⟨_,rfl⟩;obtain⟨r,r1,r2⟩:=q.mul c;have N:c.q=(4,1461):=by rw[j]
  rw[N]at r1;rw[show c.s=.b false by rw[j],show c.x=w by rw[j],show c.t=.b false by rw[j],show c.y=z4 by rw[j]]at r2;rcases r1.h with⟨p,y,rfl⟩|⟨e,y,P,rfl⟩;·obtain⟨s,t,u,v⟩:=p.fl;refine⟨_,.body tO rfl ?_,ba.ok y⟩;simp[go_sem,simprocAttr,xl,d,f,o,B,C,r2,ah s,ah t,ah u,ah v]
  refine⟨_,.body tO rfl ?_,ba.er y P⟩;simp[go_sem,simprocAttr,xl,d,f,o,B,C,r2]
 rw[g];have Q:¬e=0:=m;refine⟨_,.body tO rfl ?_,ba.er rfl m⟩;simp[go_sem,xl,d,f,o,Q]
end
section
open Go.Dm
set_option maxRecDepth 10000
structure Rw where
 a:Int
 b:Int
 known:Int
 f:RF
instance:Inhabited Rw:=⟨⟨0,0,0,default⟩⟩
def Rw.c(r:Rw):List D:=[.i .i64 r.a,.i .i64 r.b,.i .i64 r.known,.b r.f.s,r.f.x,.b r.f.t,r.f.y]
def Rw.fl(r:Rw):r.c.all D.flat=true:=by simp[Rw.c,jR,cZ,r.f.hx.flat,r.f.hy.flat]
theorem Rw.len(r:Rw):r.c.length=7:=rfl
def Rw.pl(r:Rw):(D.ag r.c).plain=true:=by exact r.fl
def iO(a b:Int):Int:=if a<b then-1 else if b<a then 1 else 0
def pd(r s:Rw):Int:=if iO r.a s.a≠0 then iO r.a s.a else if iO r.b s.b≠0 then iO r.b s.b else iO r.known s.known
def Rm(a b:Int):ai VS 79 [.i .i64 a,.i .i64 b] (.i .i64 (iO a b)):=by
 have c:∀{x:Int}{H K},ac VS 97 [.i .i64 x] H K↔K (.ret (.b false) H):=λ{x H K}=>by refine ai.c (.body PX rfl ?_) PX rfl rfl (.inl rfl);simp[go_sem,aoW]
 refine .body Ea rfl ?_;unfold iO;by_cases d:a<b;·simp[go_sem,HW,c,d]
 by_cases e:b<a;·simp[go_sem,HW,c,d]
 simp[go_sem,HW,c,d]
def EP(x y z:Int):Int:=if x≠0 then x else if y≠0 then y else z
def ahQ(x y z:Int):ai VS 78 [.im 1 [[.i .i64 x],[.i .i64 y],[.i .i64 z]]] (.i .i64 (EP x y z)):=by
 have g:∀{H:ab},dj H 1 (.im 1 [[.i .i64 x],[.i .i64 y],[.i .i64 z]])=some (.i .i64 3):=λ{H}=>rfl;have d:∀{H:ab},cJ H (.im 1 [[.i .i64 x],[.i .i64 y],[.i .i64 z]]) (.i .i64 0) 1=some _:=λ{H}=>rfl;have e:∀{H:ab},cJ H (.im 1 [[.i .i64 x],[.i .i64 y],[.i .i64 z]]) (.i .i64 1) 1=some _:=λ{H}=>rfl;have f:∀{H:ab},cJ H (.im 1 [[.i .i64 x],[.i .i64 y],[.i .i64 z]]) (.i .i64 2) 1=some _:=λ{H}=>rfl;have h:IntKind.i64.wrap 1=1:=by decide
 have j:IntKind.i64.wrap 2=2:=by decide
 have k:IntKind.i64.wrap 3=3:=by decide
 refine .body PP rfl ?_;unfold EP;simp only[go_sem,aoN,g];rw[bv];by_cases a:x=0
 ·have l:=iff_of_true a trivial;rw[E1 (by omega)];simp only[go_sem,simprocAttr,Vw,d,l,h];rw[bv];by_cases b:y=0
  ·have m:=iff_of_true b trivial;rw[E1 (by omega)];simp[go_sem,simprocAttr,e,m,j];rw[bv];by_cases c:z=0;·have n:=iff_of_true c trivial;simp[go_sem,simprocAttr,f,n,k];rw[bv];simp[go_sem,simprocAttr];rw[c]
   simp[go_sem,simprocAttr,f,c]
  rw[G1 b];simp[go_sem,simprocAttr,e,b]
 rw[G1 a];simp[go_sem,simprocAttr,Vw,d,a]
def ahR(x y z:Int){H:ab}{K:CR->Prop}:ac VS 78 [.sv 1 [[.i .i64 x],[.i .i64 y],[.i .i64 z]]] H K↔K (.ret (.i .i64 (EP x y z)) H):=by rw[fX (H1:=H) PP rfl (ahQ x y z) (by simp[go_sem])];exact dG
def ahS(r s:Rw){H:ab}{K:CR->Prop}:ac VS 48 [.ag r.c,.ag s.c] H K↔K (.ret (.i .i64 (pd r s)) H):=by have d:=λ{a b:Int}{H K}=>(Rm a b).c (H:=H) (K:=K) Ea rfl rfl (.inl rfl);have e:=λ{H K}=>ahR (iO r.a s.a) (iO r.b s.b) (iO r.known s.known) (H:=H) (K:=K);refine ai.c (.body PC rfl ?_) PC rfl (by simp[r.pl,s.pl]) (.inl rfl);simp only[Rw.c];simp[go_sem,simprocAttr,aos,d,e];rfl
def nI{α:Type}(p:α->α->Bool):List α->Bool|[]=>true|[_]=>true|a::b::l=>p a b&&nI p (b::l)
def Rn{α:Type}[Inhabited α]{p:α->α->Bool}:∀{l:List α},(∀j,j+1<l.length->p l[j]! l[j+1]! =true)->nI p l=true|[],_=>rfl|[_],_=>rfl|a::b::l,h=>by have c:=h 0 (by simp);have d:=Rn λj e=>h (j+1) (by grind);grind[nI]
def Ro{α:Type}[Inhabited α]{p:α->α->Bool}:∀{l:List α}{j:Nat},j+1<l.length->p l[j]! l[j+1]! =false->nI p l=false|[],_,c,_=>by grind|[_],j,c,_=>by grind|a::b::l,0,_,h=>by grind[nI]|a::b::l,j+1,c,h=>by show(p a b&&nI p _)=false;rw[Ro (j:=j) (by grind) h,ABh]
def pf(l:List Rw):Bool:=nI (λr s=>!decide (pd s r<0)) l
structure ahT(l:List Rw)(i:Nat):Prop where h:∀j,i<=j->j+1<l.length->¬pd l[j+1]! l[j]!<0
def ahU{l:List Rw}{x:D}(h:Sl 7 (l.map Rw.c) x)(F:l.length<2000000000000){H:ab}{K:CR->Prop}:ac VS 73 [x,.fn (.func 48) [] []] H K↔K (.ret (.b (pf l)) H):=by
 refine cC (bI.iff_q.2 (.body agC rfl rfl ?_));have z:IntKind.i64.wrap _=l.length-1:=wr (by omega) (by omega);simp[go_sem,aoJ,h.n,z];refine ak.loop (λm s=>∃(i:Int)(e g:D),ahT l i.toNat/\m=(i+1).toNat/\-1<=i/\i<l.length/\s=⟨[x,.fn _ [] [],.b false,e,g,.i .i64 i],H⟩) l.length ⟨l.length-1,_,_,⟨λj A n=>by omega⟩,by omega,by omega,by omega,rfl⟩ ?_;rintro m s⟨i,e,g,hs,G,I,o,rfl⟩;by_cases d:0<i
 ·obtain⟨k,J⟩:∃k:Nat,i=k+1:=⟨i.toNat-1,by omega⟩;have p:0<=i:=by omega
  have q:IntKind.i64.wrap (i-1)=k:=by grind[wr]
  have c3:(0:Int)<=k:=by omega
  have r:(k:Int)<l.length:=by omega
  have t:i.toNat=k+1:=by omega
  have u:=λb=>h.under b;have v:=λ{H K}=>ahS l[k+1]! l[k]! (H:=H) (K:=K);have w:=λ{args H K}=>gP (V:=VS) (H:=H) (args:=args) (K:=K) (f:=48) (a:=[]) (b:=[]) (by decide);have t1:∀j:Nat,List.take 7 _=l[j]!.c:=λj=>E4 (by grind[Rw.len]);by_cases y:pd l[k+1]! l[k]!<0;·have B:pf l=false:=Ro (j:=k) (by omega) (by grind);simp only[go_sem,HN,d,h.q,u,p,q,c3,r,o,t,Rw.len,t1,w,v,y,B]
  simp only[go_sem,HN,d,h.q,u,p,q,c3,r,o,t,Rw.len,t1,w,v,y];refine⟨k+1,by omega,k,⟨λj A n=>?_⟩,by omega,by omega,by omega,rfl⟩;by_cases L:j=k;·grind
  exact hs.h j (by omega) n
 have C:pf l=true:=Rn λj E=>by have:=hs.h j (by omega) E;grind
 simp[go_sem,HN,d,C]
def iC(a:Int):Bool:=decide (-2147483648<=a/\a<=2147483647)
def jT(a:Bool)(r:Rw):Bool:=iC r.a&&iC r.b&&(a||decide (r.b=0))&&decide (0<=r.known/\r.known<65536)&&r.f.v
def ahV(d:Bool)(r:Rw):ai VS 45 [.b d,.ag r.c] (.b (jT d r)):=by
 have e:=λ{H K}=>r.f.valid_c (H:=H) (K:=K);have n:ox (.ag [.i .i64 r.a,.i .i64 r.b]) (.i .i64 0) 2 1 false=some _:=rfl;have o:ox (.ag [.i .i64 r.a,.i .i64 r.b]) (.i .i64 1) 2 1 false=some _:=rfl;have u:IntKind.i64.wrap 1=1:=by decide
 have v:IntKind.i64.wrap 2=2:=by decide
 simp[RF.d,RF.cells]at e;refine .body Pz rfl ?_;simp only[Rw.c];have key:∀{a:Int},(a< -2147483648->iC a=false)/\(2147483647<a->iC a=false)/\(¬a< -2147483648->¬2147483647<a->iC a=true):=λ{a}=>⟨λh=>R1 (by omega),λh=>R1 (by omega),λA B=>R2 (by omega)⟩;simp[go_sem,simprocAttr,pI];rw[bv];by_cases g:r.a< -2147483648;·simp only[go_sem,simprocAttr,Hi,n,g];grind[jT]
 by_cases p:2147483647<r.a;·simp only[go_sem,simprocAttr,Hi,n,g,p];grind[jT]
 have w:=key.2.2 g p;simp[go_sem,simprocAttr,Hi,n,g,p,u];rw[bv];by_cases j:r.b< -2147483648;·simp only[go_sem,simprocAttr,o,j];grind[jT]
 by_cases q:2147483647<r.b;·simp only[go_sem,simprocAttr,o,j,q];grind[jT]
 have y:=key.2.2 j q;simp[go_sem,simprocAttr,o,j,q,v];rw[bv];unfold jT;rw[w,y];have z:(d||decide (r.b=0))=true->ak VS (match Be.body with|.seq _ (.seq _ r)=>r|c=>c) ⟨[.b d,.ag [.i .i64 r.a,.i .i64 r.b,.i .i64 r.known,.b r.f.s,r.f.x,.b r.f.t,r.f.y],.b false,.b false,.b false,.bx [.i .i64 r.a,.i .i64 r.b,.i .i64 r.known,.b r.f.s,r.f.x,.b r.f.t,r.f.y],.i .i64 2,.ag [.i .i64 r.a,.i .i64 r.b],.i .i64 r.b],[]⟩ (dh [.s 2] (fG false λx=>x=.ret (.b (true&&true&&(d||decide (r.b=0))&&decide (0<=r.known/\r.known<65536)&&r.f.v)))):=by
  intro k;rw[k];by_cases l:0<=r.known
  ·by_cases m:r.known<65536;·cases d with|true=>cases t:r.f.v<;>(rw[t]at e;simp[go_sem,simprocAttr,pI,l,m,e];try rfl)|false=>have f:(r.b=0)↔True:=iff_of_true (by grind) trivial;cases t:r.f.v<;>(rw[t]at e;simp[go_sem,simprocAttr,pI,l,m,e,f];try rfl)
   cases d with|true=>simp[go_sem,simprocAttr,pI,m];try rfl|false=>have f:(r.b=0)↔True:=iff_of_true (by grind) trivial;simp[go_sem,simprocAttr,pI,m];try rfl
  cases d with|true=>simp[go_sem,simprocAttr,pI,l];try rfl|false=>have f:(r.b=0)↔True:=iff_of_true (by grind) trivial;simp[go_sem,simprocAttr,pI,l];try rfl
 cases k:(d||decide (r.b=0))with|true=>have:=z k;rw[k]at this;simp only[go_sem,simprocAttr,pI]at this⊢;omega|false=>
 obtain⟨rfl,f⟩:d=false/\¬r.b=0:=by grind
 simp[go_sem,simprocAttr,f];try rfl
end
section
open Go.Dm
set_option maxRecDepth 10000
structure Tb where
 name:Nm
 two:Bool
 x:D
 rows:List Rw
 hx:Sl 7 (rows.map Rw.c) x
 hl:rows.length<1599289640355
 hn:name.length<1000000000000000
def Tb.c(t:Tb):List D:=[.s t.name,.b t.two,t.x]
instance:Inhabited Tb:=⟨⟨[],false,.nil,[],.nil rfl,by simp,by simp⟩⟩
def Tb.fl(t:Tb):t.c.all D.flat=true:=by simp[Tb.c,nh,cZ,t.hx.flat]
def Tb.pl(t:Tb):(D.ag t.c).plain=true:=by exact t.fl
def Tb.v(t:Tb):Bool:=decide (1<=t.name.length/\t.name.length<=24/\t.rows.length<=400)&&pf t.rows&&t.rows.all (jT t.two)
def ahW(t:Tb)(r:Rw){K:CR->Prop}:ac VS 74 (.ag r.c::[.hp 0 0]) [.hb 64 [.s t.name,.b t.two,t.x]] K↔K (.ret (.b (!jT t.two r)) [.hb 64 [.s t.name,.b t.two,t.x]]):=by have a:=λ{H K}=>(ahV t.two r).c (H:=H) (K:=K) Pz rfl (by simp[r.pl,jm]) (.inl rfl);refine cC (bI.iff_q.2 (.body agD rfl rfl ?_));simp only[Rw.c]at a⊢;simp[go_sem,simprocAttr,aoK,a]
def Ab(t:Tb):ai VS 44 [.ag t.c] (.b t.v):=by
 have e:=λ{K}=>mj (agg:=true) (K:=K) (Py.trans (by kernel_rfl)) (PM.trans (by kernel_rfl)) t.hx (by have:=t.hl;omega) Rw.len (λ_=>rfl) (by decide) (λa K=>ahW t a);have i:(t.rows.any λs=>!jT t.two s)=!(t.rows.all (jT t.two)):=by grind
 rw[i]at e;have c:=λ{H K}=>ahU t.hx (by have:=t.hl;omega) (H:=H) (K:=K);have d:=λ{H:ab}=>t.hx.n (H:=H);refine .body v6 rfl ?_;unfold Tb.v;simp only[Tb.c];by_cases f:(t.name.length:Int)<1;·rw[R1 (by omega)];simp[go_sem,simprocAttr,xg,f]
 by_cases g:24<(t.name.length:Int);·rw[R1 (by omega)];simp[go_sem,simprocAttr,xg,g]
 by_cases h:400<(t.rows.length:Int);·rw[R1 (by omega)];simp[go_sem,simprocAttr,xg,d,h]
 rw[R2 (by omega)];cases hs:pf _ with|false=>rw[hs]at c;simp[go_sem,simprocAttr,xg,d,c,ABh]|true=>rw[hs]at c;simp[go_sem,simprocAttr,xg,f,g,d,h,c,e,Bool.not_not]
end
section
open Go.Dm
set_option maxRecDepth 10000
def cf(a:Int)(acc:List Rw)(r:Rw):List Rw:=if a<r.known then acc else match acc.getLast? with|some s=>if s.a=r.a/\s.b=r.b then acc.dropLast++[r]else acc++[r]|none=>acc++[r]
def Rw.n(r:Rw):bU:=⟨r.a,r.b,r.known,ke r.f.s r.f.l,vl 65536 r.f.m⟩
def wo{known:Int}:∀{l acc:List Rw},bK known (l.map Rw.n) (acc.map Rw.n)=(l.foldl (cf known) acc).map Rw.n|[],acc=>rfl|r::l,acc=>by rw[fA,x6,<-wo];grind[bK,Rw.n,cf]
theorem Rq(a:Int)(acc:List Rw)(r:Rw):(cf a acc r).length<=acc.length+1:=by grind[cf]
def ahX{P:Rw->Prop}{b:Int}{acc:List Rw}{r:Rw}(h:∀s∈acc,P s)(hr:P r):∀s∈cf b acc r,P s:=by
 unfold cf;split;·exact h
 split
 ·split
  ·intro u a;rcases bN.1 a with a|a;·exact h u (ABX _ a)
   grind
  grind
 grind
def ahY{rows:List (List D)}{r:List D}{n:Nat}(a:rows.length=n)(e:0<n)(f:r.all D.flat=true)(hs:n<1599289640355):bu [.ar 7 rows none true false] (.mu 0 n 0 (n-1)) (.sv 7 [r]) 7 88 true=some (.mu 0 n 0 n,[.ar 7 (rows.dropLast++[r]) none true false]):=by
 have b:ja [.ar 7 rows none true false] [r]=some ([r],[.ar 7 rows none true false]):=nj _ (by grind);have c:aK [.ar 7 rows none true false] 0 n=some (7,rows,none,true,false):=by simp[Dm.aK,a]
 have hr:eI (n-1+1) 88=true:=by grind[eI]
 have g:rows.take (n-1)++[r]++rows.drop (n-1+1)=rows.dropLast++[r]:=by rw[dm (by omega),qq,List.dropLast_eq_take,a]
 have d:n-1<=n:=by omega
 simp only[bu,eZ,if_true,b,fe,kq,c,i4,n3,hr,and_self,iB,d];grind
def ahZ{rows:List (List D)}{n:Nat}(a:rows.length=n):dc [.ar 7 rows none true false] 7 (.mu 0 n 0 n) none (some (.i .i64 ((n-1:Nat):Int))) none=some (.mu 0 n 0 (n-1)):=by simp_all[aK,db,gM,fw,dc]
def Rr(r:Rw){H:ab}{K:CR->Prop}:ac VS 279 [.ag [.i .i64 r.a,.i .i64 r.b,.i .i64 r.known,.b r.f.s,r.f.x,.b r.f.t,r.f.y]] H K↔K (.ret (.ag [.i .i64 r.a,.i .i64 r.b]) H):=by refine ai.c (.body QP rfl ?_) QP rfl (by simpa[Rw.c]using r.pl) (.inl rfl);simp[go_sem,simprocAttr,aqa]
def ER{a b c d:Int}:eF false (.st [1,1]) (.ag [.i .i64 a,.i .i64 b]) (.ag [.i .i64 c,.i .i64 d])=some (.b (decide (a=c/\b=d))):=by
 simp only[eF,uT,cV,fQ,C5];by_cases e:a=c;·by_cases f:b=d<;>grind
 grind
def nJ(a:Int)(l:List Rw)(i:Nat):List Rw:=(l.take i).foldl (cf a) []
def ah0{known:Int}{l:List Rw}{i:Nat}(h:i<l.length):nJ known l (i+1)=cf known (nJ known l i) l[i]!:=by unfold nJ;rw[pv,E2 h,K0 l i h,ABE];rfl
def ah1{l:List Rw}(h:l≠[]):l.getLast?=some l[l.length-1]!:=by have a:=V2.2 h;grind
def Ac(rows:List (List D)):D:=match rows with|[]=>.nil|r::a=>.ow 7 (r::a)
def Rs(t:Tb)(c:Int):ai VS 231 [.ag t.c,.i .i64 c] (Ac ((t.rows.foldl (cf c) []).map Rw.c)):=by
 have hl:=t.hl;refine .body Et rfl ?_;simp only[Tb.c];have hn:=λ{H:ab}=>t.hx.n (H:=H);simp[go_sem,apK,hn];refine ak.up (λi s=>∃(U W X Y Z:D),s=⟨[.ag [.s _,.b t.two,t.x],.i .i64 c,.nil,U,W,X,bD [] .nil ((nJ c t.rows i).map Rw.c),.bx [.s _,.b t.two,t.x],.i .i64 i,.i .i64 _,t.x,Y,Z],bH [] 7 ((nJ c t.rows i).map Rw.c)⟩/\(nJ c t.rows i).length<=i) t.rows.length ⟨_,_,_,_,_,rfl,Hk _⟩ ?_;rintro i s hi⟨U,W,X,Y,Z,rfl,F⟩;by_cases p:i<t.rows.length
 ·have e:(i:Int)<t.rows.length:=by omega
  have c3:(0:Int)<=i:=by omega
  have v:IntKind.i64.wrap (i+1)=((i+1:Nat)):=by grind[wr]
  have d:=ah0 (known:=c) p;obtain⟨r,hr⟩:∃r,r=t.rows[i]!:=⟨_,rfl⟩;rw[<-hr]at d;obtain⟨acc,ad⟩:∃acc,acc=nJ c t.rows i:=⟨_,rfl⟩;rw[<-ad]at d F⊢;have f:(cf c acc r).length<=i+1:=by grind[Rq]
  have q:=λ{V dr os keep ae sl Q ah H H' k x'}=>t.hx.q (V:=V) (dr:=dr) (os:=os) (keep:=keep) (loc:=ae) (sl:=sl) (Q:=Q) (sl':=ah) (H:=H) (H':=H') (k:=k) (x:=x');by_cases h:c<r.known
  ·have j:cf c acc r=acc:=by grind[cf]
   simp[go_sem,simprocAttr,rU,q,e,<-hr,Rw.c,h,v];grind
  by_cases m:acc=[]
  ·have u:(acc.length:Int)=0:=by grind
   have j:cf c acc r=acc++[r]:=by grind[cf]
   rw[j]at d f;have o:=nz (H0:=[]) (w:=7) (bytes:=88) (r:=r.c) (enc:=Rw.c) (l:=acc) (by omega) (by omega);have y:=r.f.hx.flat;have z:=r.f.hy.flat;simp only[Rw.c]at o;simp[go_sem,simprocAttr,rU,q,e,<-hr,Rw.c,h,v,u,o,y,z];rw[d,hI];exact⟨p,⟨rfl,rfl⟩,f⟩
  have A:=V2.2 m;have u:(0:Int)<acc.length:=by omega
  have G:IntKind.i64.wrap (acc.length-1)=((acc.length-1:Nat)):=by rw[wr (by omega) (by omega)];omega
  have I:0<=((acc.length-1:Nat):Int):=by omega
  have J:((acc.length-1:Nat):Int)<acc.length:=by omega
  have L:acc.length-1<acc.length:=by omega
  have y:=r.f.hx.flat;have z:=r.f.hy.flat;obtain⟨s,hs⟩:∃s,s=acc[acc.length-1]!:=⟨_,rfl⟩;have B:=ah1 m;rw[<-hs]at B;have M:=λ{H K}=>Rr s (H:=H) (K:=K);have N:=λ{H K}=>Rr r (H:=H) (K:=K);have o:=nz (H0:=[]) (w:=7) (bytes:=88) (r:=r.c) (enc:=Rw.c) (l:=acc) (by omega) (by omega);simp only[Rw.c]at o;by_cases C:s.a=r.a
  ·have aa:=iff_of_true C trivial;by_cases E:s.b=r.b
   ·have j:cf c acc r=acc.dropLast++[r]:=by unfold cf;rw[E1 h,B];simp only;rw[G1 ⟨C,E⟩]
    rw[j]at d f;have am:=iff_of_true E trivial;simp only[go_sem,simprocAttr,rU,q,e,c3,<-hr,<-hs,Rw.c,h,G,u,I,J,L,M,N,ER,aa,am];refine⟨A,?_⟩;obtain⟨g1,P⟩:=lG (H0:=[]) (w:=7) (enc:=Rw.c) m;rw[g1,P];have S:=ahY (rows:=acc.map Rw.c) (by simp) A r.fl (by omega);have an:=ahZ (rows:=acc.map Rw.c) (n:=acc.length) (by simp);simp[Rw.c]at S;simp[W0,kx]at S an⊢;simp[go_sem,simprocAttr,S];obtain⟨g3,g4⟩:=lG (H0:=[]) (w:=7) (enc:=Rw.c) (l:=acc.dropLast++[r]) (by simp);rw[d,g3,g4];have aq:(acc.dropLast++[r]).length=acc.length:=by simp[Rp,List.length_dropLast,n3];omega
    refine⟨p,⟨⟨by rw[aq];rfl,by omega⟩,?_⟩,f⟩;rw[hI,List.map_dropLast];rfl
   have j:cf c acc r=acc++[r]:=by unfold cf;rw[E1 h,B];simp only;rw[E1 (λg=>E g.2)]
   rw[j]at d f;simp only[go_sem,simprocAttr,rU,q,e,c3,<-hr,<-hs,Rw.c,h,v,G,u,I,J,L,M,N,ER,aa,E,o,y,z];rw[d,hI];exact⟨A,p,⟨rfl,rfl⟩,f⟩
  have j:cf c acc r=acc++[r]:=by unfold cf;rw[E1 h,B];simp only;rw[E1 (λg=>C g.1)]
  rw[j]at d f;simp only[go_sem,simprocAttr,rU,q,e,c3,<-hr,<-hs,Rw.c,h,v,G,u,I,J,L,M,N,ER,C,false_and,o,y,z];rw[d,hI];exact⟨A,p,⟨rfl,rfl⟩,f⟩
 have e:¬(i:Int)<t.rows.length:=by omega
 have ar:i=t.rows.length:=by omega
 have au:nJ c t.rows i=t.rows.foldl (cf c) []:=by unfold nJ;rw[ar,ph]
 rw[au]at F⊢;generalize t.rows.foldl _ []=acc at F⊢;by_cases m:acc=[];·subst m;simp only[go_sem,rU,e];rfl
 obtain⟨g1,P⟩:=lG (H0:=[]) (w:=7) (enc:=Rw.c) m;rw[g1,P];simp[go_sem,rU,e];obtain⟨a,l,rfl⟩:∃a l,acc=a::l:=ABq m;simp[ff,Dm.aK,Ac,E4]
end
section
open Go.Dm
set_option maxRecDepth 10000
structure RV where
 a:Int
 b:Int
 known:Int
 q:QV
def RV.c(r:RV):List D:=[.i .i64 r.a,.i .i64 r.b,.i .i64 r.known,r.q.s,r.q.x,r.q.t,r.q.y]
def RV.n(r:RV):bU:=⟨r.a,r.b,r.known,r.q.q.1,r.q.q.2⟩
def ah2:∃q:QV,q.q=(0,1):=by obtain⟨q,h,_⟩:=QV.int (n:=0) (by omega);grind
noncomputable instance:Inhabited RV:=⟨⟨0,0,0,Classical.choose ah2⟩⟩
def Rw.rv{r:Rw}(h:r.f.v=true):∃v:RV,v.c=r.c/\v.n=r.n:=by obtain⟨a,b⟩:=r.f.fr h;exact⟨⟨r.a,r.b,r.known,⟨(_,_),_,_,_,_,a,b⟩⟩,rfl,rfl⟩
def ET:∀{l:List Rw},(∀r∈l,r.f.v=true)->∃m:List RV,m.map RV.c=l.map Rw.c/\m.map RV.n=l.map Rw.n|[],_=>⟨[],rfl,rfl⟩|r::l,h=>by obtain⟨v,a,b⟩:=Rw.rv (h r N2);obtain⟨m,c,d⟩:=ET λs hs=>h s (K2 _ hs);exact⟨v::m,by grind,by grind⟩
def Rt(q:QV):∃p:QV,p.q=q.q/\∀{H K},ac VS 51 [.ag [q.s,q.x,q.t,q.y]] H K↔K (.ret (.ag [p.s,p.x,p.t,p.y]) H):=by obtain⟨x,y,e,d,f⟩:=q.f.h;have i:=l7 q.l.bn (by omega);have j:=l7 q.l.bm (by omega);obtain⟨g,k,a⟩:=p6 d.sl i;obtain⟨h,l,c⟩:=p6 f.sl j;have n:=λ{H K}=>k.c (H:=H) (K:=K) nB rfl (by simp[d.sl.pl]) (.inl rfl);have o:=λ{H K}=>l.c (H:=H) (K:=K) nB rfl (by simp[f.sl.pl]) (.inl rfl);have r:=λm H=>ah a.flat m H;have s:=λm H=>ah c.flat m H;have t:=q.f.pl;refine⟨⟨q.q,.b _,g,.b false,h,⟨g,h,rfl,⟨a⟩,⟨c⟩⟩,q.l⟩,rfl,?_⟩;rw[e]at t⊢;intro H K;refine ai.c (.body PD rfl ?_) PD rfl (by grind) (.inl rfl);simp[go_sem,simprocAttr,aot,n,o,r,s,a.c1,c.c1]
def ah3(rows:List (List D)):dV true (Ac rows) []=(bD [] .nil rows,bH [] 7 rows):=by cases rows with|nil=>rfl|cons r a=>rfl
def ah4(t:Tb)(a:Int){K:CR->Prop}:ac VS 231 [.ag [.s t.name,.b t.two,t.x],.i .i64 a] [] K↔K (.ret (bD [] .nil ((t.rows.foldl (cf a) []).map Rw.c)) (bH [] 7 ((t.rows.foldl (cf a) []).map Rw.c))):=by
 have f:=Rs t a;have g:aX bE [] [.ag t.c,.i .i64 a]=some ([.ag t.c,.i .i64 a],[]):=nw (by
 intro d c;simp[dA,AAO,or_false]at c;rcases c with rfl|rfl;·exact t.pl
 rfl);have e:=fX (K:=K) Et rfl f g;rw[show xr.own=true from rfl,ah3]at e;exact e
def EU{P:Rw->Prop}{b:Int}:∀{l acc:List Rw},(∀s∈acc,P s)->(∀r∈l,P r)->∀s∈l.foldl (cf b) acc,P s|[],_,h,_=>h|r::l,_,h,a=>EU (l:=l) (ahX h (a r N2)) λs hs=>a s (K2 _ hs)
def Tb.v_rows{t:Tb}(h:t.v=true):∀r∈t.rows,jT t.two r=true:=by grind[Tb.v]
def Ru{a:Bool}{r:Rw}(h:jT a r=true):r.f.v=true:=by grind[jT]
def ah5(t:Tb)(h:t.v=true)(a:Int):∃(y:D)(m:List RV),ai VS 181 [.ag t.c,.i .i64 a] (.tu [.ag [.s t.name,.b t.two,y],.i .i64 0])/\Sl 7 (m.map RV.c) y/\m.map RV.n=bK a (t.rows.map Rw.n) []/\m.length<=t.rows.length:=by
 have g:=λ{H K}=>(Ab t).c (H:=H) (K:=K) v6 rfl (by simp[t.pl]) (.inl rfl);rw[h]at g;have n:=λ{K}=>ah4 t a (K:=K);have X:=t.hl;have Y:(t.rows.foldl (cf a) []).length<=t.rows.length:=by
  have:∀{l acc:List Rw},(l.foldl (cf a) acc).length<=acc.length+l.length:=by intro l;induction l with|nil=>intro acc;simp|cons r l z=>intro acc;have:=z (acc:=cf a acc r);have:=Rq a acc r;simp only[x6,fD];omega
  simpa using this (l:=t.rows) (acc:=[])
 obtain⟨m,o,A⟩:=ET (l:=t.rows.foldl (cf a) []) (EU (P:=λr=>r.f.v=true) (λs hs=>by cases hs) λr hr=>Ru (t.v_rows h r hr));rw[<-o]at n;have Z:m.length<=t.rows.length:=by have:=gb List.length o;simp only[S2]at this;omega
 have B:m.map RV.n=bK a (t.rows.map Rw.n) []:=by rw[A];exact(wo (l:=t.rows) (acc:=[])).symm
 simp only[Tb.c]at g;have C:aE VS 181 [.ag t.c,.i .i64 a] (λr=>∃d,r=.ret d/\∃(y:D)(m:List RV),d=.tu [.ag [.s t.name,.b t.two,y],.i .i64 0]/\Sl 7 (m.map RV.c) y/\m.map RV.n=bK a (t.rows.map Rw.n) []/\m.length<=t.rows.length):=by
  refine .body (vf:=Bu) Qf rfl ?_;simp only[Tb.c];simp(disch:=omega)only[go_sem,simprocAttr,apm,g,n];refine ak.up (λi s=>∃(e:List RV)(q u v:D),e.map RV.n=m.map RV.n/\e.length=m.length/\s=⟨[.ag [.s t.name,.b t.two,t.x],.i .i64 a,.bx [.s [],.b false,.nil],.i .i64 0,q,u,.bx [.s t.name,.b t.two,t.x],bD [] .nil (e.map RV.c),.i .i64 i,.i .i64 m.length,v],bH [] 7 (e.map RV.c)⟩) m.length ⟨m,_,_,_,rfl,rfl,rfl⟩ ?_;rintro i s hi⟨e,q,u,v,w,E,rfl⟩;by_cases F:i<m.length
  ·have j:(i:Int)<(m.length:Int):=by omega
   have c3:(0:Int)<=(i:Int):=by omega
   have G:(i:Int)<(e.length:Int):=by omega
   have k:i<e.length:=by omega
   have I:IntKind.i64.wrap ((i:Int)+1)=((i+1:Nat):Int):=by rw[wr (by omega) (by omega)];omega
   obtain⟨r,hr⟩:∃r,r=e[i]!:=⟨_,rfl⟩;obtain⟨p,J,L⟩:=Rt r.q;obtain⟨g1,M,N,Q⟩:=p.fl;simp(disch:=omega)only[go_sem,simprocAttr,Wm,j,c3,G,k,da,<-hr,RV.c,L,I,g1,M,N,Q];obtain⟨f,x⟩:∃f:RV,f=⟨r.a,r.b,r.known,p⟩:=⟨_,rfl⟩;have S:f.n=r.n:=by rw[x];unfold RV.n;simp only[J]
   refine⟨F,e.set i f,?_,by rw[eh];exact E,?_,?_⟩;·rw[AAH,S,hr,K0 e i k,<-w];have:=@ACH _ (e.map RV.n) i (by simpa using k);rw[wv]at this;exact this
   ·rw[AAH];exact tK (by simp)
   rw[AAH,show f.c=[.i .i64 r.a,.i .i64 r.b,.i .i64 r.known,p.s,p.x,p.t,p.y]by rw[x];rfl]
  have j:¬(i:Int)<(m.length:Int):=by omega
  simp(disch:=omega)only[go_sem,simprocAttr,Wm,j];exact⟨_,rfl,e,qV rfl 7 _,by rw[w,B],by omega⟩
 obtain⟨d,U,y,V,rfl,W⟩:=C.ex;exact⟨y,V,U,W⟩
end
end Go.Proofs.YtekgndcflpklkaaGreatDoor.Dv
namespace Go.Dm
structure gF(w:Nat)(r:List D):Prop where
 len:r.length=w
 fz:r.all D.flat=true
 i3:∃n:Int,r[3]?=some (.i .i64 n)
theorem lU{α:Type}{l:List α}{i:Nat}{v:α}(h:l[i]?=some v):l.set i v=l:=by refine m0 λj=>?_;grind
end Go.Dm
namespace Go.Proofs.YtekgndcflpklkaaGreatDoor.Dv
section
open Go.Dm
set_option maxRecDepth 10000
def jw(a b k:Nat)(l:List (List D)):List (List D):=(List.range l.length).map λj=>if a<=j/\j<a+k then l[j+(b-a)]! else if b<=j/\j<b+k then l[j-(b-a)]! else l[j]!
theorem A4{a b k:Nat}{l:List (List D)}:(jw a b k l).length=l.length:=by simp[jw]
theorem wY{a b k j:Nat}{l:List (List D)}(c:j<l.length):(jw a b k l)[j]?=some (if a<=j/\j<a+k then l[j+(b-a)]! else if b<=j/\j<b+k then l[j-(b-a)]! else l[j]!):=by grind[jw]
theorem anT{a b:Nat}{l:List (List D)}:jw a b 0 l=l:=by refine m0 λj=>?_;grind[wY,A4]
def anU{a b k:Nat}{l:List (List D)}(c:a+k<b)(d:b+k<l.length):((jw a b k l).set (a+k) l[b+k]!).set (b+k) l[a+k]! =jw a b (k+1) l:=by refine m0 λj=>?_;grind[wY,A4]
def anV{a b k j:Nat}{l:List (List D)}(c:a+k<=b)(d:b+k<=l.length):(jw a b k l)[j]?=if a<=j/\j<a+k then l[j+(b-a)]? else if b<=j/\j<b+k then l[j-(b-a)]? else l[j]?:=by grind[wY,A4]
variable{x y z a:List (List D)}
def Gx{P S:List (List D)}{a b k:Nat}(c:P.length=a)(d:x.length=k)(e:z.length=k)(f:a+k+y.length=b):jw a b k (P++(x++(y++(z++S))))=P++(z++(y++(x++S))):=by
 refine m0 λj=>?_;rw[anV (by omega) (by simp only[Rp];omega)];simp only[List.getElem?_append,c,d,e];repeat' split
 all_goals first|rfl|omega|(congr 1;omega)
def Gy{H:ab}{x n a b k:Nat}{l:List (List D)}{cap:Option Nat}{p:Bool}{g:D}(h:H[x]?=some (.ar 11 l cap p false))(hn:l.length=n)(hr:∀r∈l,gF 11 r)(ag:a+k<=b)(hb:b+k<=n)(hs:n<4611686018427387904){K:CR->Prop}(y:K (.ret (.tu []) (H.set x (.ar 11 (jw a b k l) cap p false)))):ac VS 315 [.mu x n 0 n,.i .i64 (a:Int),.i .i64 (b:Int),.i .i64 (k:Int),g] H K:=by
 refine .body ahp rfl rfl ?_;simp[go_sem,aqx];have h0:H=H.set x (.ar 11 (jw a b 0 l) cap p false):=by grind[anT,lU]
 refine ak.up (λi s=>∃j,s=⟨[.mu x n 0 n,.i .i64 a,.i .i64 b,.i .i64 k,g,j,.i .i64 i],H.set x (.ar 11 (jw a b i l) cap p false)⟩) k ⟨.u,by grind⟩ ?_;rintro i s hi⟨j,rfl⟩;obtain⟨L,hL⟩:∃L,L=jw a b i l:=⟨_,rfl⟩;rw[<-hL];have z:L.length=n:=by grind[A4]
 obtain⟨G,d⟩:∃G,G=H.set x (.ar 11 L cap p false):=⟨_,rfl⟩;have g0:G[x]?=some (.ar 11 L cap p false):=by grind
 rw[<-d];by_cases C:i<k
 ·obtain⟨u,E⟩:∃u,u=a+i:=⟨_,rfl⟩;obtain⟨v,F⟩:∃v,v=b+i:=⟨_,rfl⟩;have m:u<l.length:=by omega
  have o:v<l.length:=by omega
  obtain⟨A,e⟩:∃A,A=l[u]!:=⟨_,rfl⟩;obtain⟨B,f⟩:∃B,B=l[v]!:=⟨_,rfl⟩;have I:L[u]?=some A:=by rw[hL,wY m,E1 (by omega),E1 (by omega),e]
  have q:L[v]?=some B:=by rw[hL,wY o,E1 (by omega),E1 (by omega),f]
  have t:gF 11 A:=hr _ (by rw[e,K0 l _ m];exact kv _);have w:gF 11 B:=hr _ (by rw[f,K0 l _ o];exact kv _);have J:(L.set u B)[v]?=some B:=by rw[Hy (by omega),q]
  have M:(G.set x (.ar 11 ((L.set u B).set v A) cap p false))=H.set x (.ar 11 (jw a b (i+1) l) cap p false):=by rw[d,s0,hL,e,f,E,F,anU (by omega) (by omega)]
  have N:IntKind.i64.wrap (a+i)=u:=by rw[wr (by omega) (by omega)];omega
  have P:IntKind.i64.wrap (b+i)=v:=by rw[wr (by omega) (by omega)];omega
  have Q:IntKind.i64.wrap _=i+1:=wr (by omega) (by omega);have S:=t.len;have U:=w.len;have V:List.drop 11 A=[]:=dm (by omega);have dB:List.drop 11 B=[]:=dm (by omega);have W:=t.fz;have X:=w.fz;have c:(i:Int)<k:=by omega
  have Y:=aw g0;have Z:(u:Int)<n:=by omega
  have c2:(v:Int)<n:=by omega
  have c3:(0:Int)<=u:=by omega
  have c4:(0:Int)<=v:=by omega
  simp only[go_sem,XI,c,N,P,Q,g0,z,I,q,J,S,U,V,dB,E4,c3,c4,W,X,Z,c2,N1,s0,Y,M];exact C
 have c:¬(i:Int)<k:=by omega
 have he:i=k:=by omega
 simp[go_sem,XI,c];rw[d,hL,he];exact y
def anW{H:ab}{x n a m b:Nat}{P U W S:List (List D)}{cap:Option Nat}{p:Bool}{g:D}(h:H[x]?=some (.ar 11 (P++(U++(W++S))) cap p false))(X:(P++(U++(W++S))).length=n)(hr:∀r∈P++(U++(W++S)),gF 11 r)(ha:P.length=a)(hm:a+U.length=m)(hb:m+W.length=b)(hU:U≠[])(hW:W≠[])(hs:n<4611686018427387904){K:CR->Prop}(hK:K (.ret (.tu []) (H.set x (.ar 11 (P++(W++(U++S))) cap p false)))):ac VS 314 [.mu x n 0 n,.i .i64 (a:Int),.i .i64 (m:Int),.i .i64 (b:Int),g] H K:=by
 have ay:=X;have w1:IntKind.i64.wrap (m-a)=U.length:=by grind[wr]
 have w2:IntKind.i64.wrap (b-m)=W.length:=by grind[wr]
 refine .body aho rfl rfl ?_;simp[go_sem,aqw,w1,w2];refine ak.loop (λq s=>∃k d f o Y Z,q=d.length+f.length/\k++(f++(d++o))=P++(W++(U++S))/\k.length+d.length=m/\d≠[]/\f≠[]/\(k++(d++(f++o))).length=n/\(∀r∈k++(d++(f++o)),gF 11 r)/\s=⟨[.mu x n 0 n,.i .i64 a,.i .i64 _,.i .i64 _,g,Y,Z,.i .i64 d.length,.i .i64 f.length],H.set x (.ar 11 (k++(d++(f++o))) cap p false)⟩) _ ⟨P,U,W,S,.u,.u,rfl,rfl,by omega,hU,hW,X,hr,by rw[lU h]⟩ ?_;rintro q s⟨k,d,f,o,Y,Z,hq,C,ai,hu,hw,y,z,rfl⟩;have a0:=V2.mpr hu;have a1:=V2.mpr hw;have am:=y;simp[Rp]at am;obtain⟨i,hi⟩:∃i,i=d.length:=⟨_,rfl⟩;obtain⟨j,E⟩:∃j,j=f.length:=⟨_,rfl⟩;obtain⟨G,hG⟩:∃G,G=H.set x (.ar 11 (k++(d++(f++o))) cap p false):=⟨_,rfl⟩;have g0:G[x]?=some (.ar 11 (k++(d++(f++o))) cap p false):=by grind
 have F:IntKind.i64.wrap (m-i)=k.length:=by grind[wr]
 rw[<-hi,<-E,<-hG];have I:∀{A B:List (List D)},G.set x (.ar 11 A cap p false)=H.set x (.ar 11 A cap p false):=by simp_all
 by_cases he:i=j;·subst he;simp[go_sem,LB,F];refine Gy (l:=k++(d++([]++(f++o)))) (by simpa using g0) (by grind) (by grind) (by omega) (by omega) hs ?_;rw[Gx rfl hi.symm E.symm (by grind),W0,C,I (B:=[])];simp[go_sem];exact hK
 have c:¬(i:Int)=j:=by omega
 by_cases a2:j<i
 ·have J:(j:Int)<i:=by omega
  have L:IntKind.i64.wrap (i-j)=((i-j:Nat)):=by rw[wr (by omega) (by omega)];omega
  simp only[go_sem,LB,c,J,F];have w:d=d.take j++d.drop j:=(pu _ _).symm;have t:(d.take j).length=j:=by rw[fL];omega
  have v:(d.drop j).length=i-j:=by rw[l3];omega
  obtain⟨A,M⟩:∃A,A=d.take j:=⟨_,rfl⟩;obtain⟨B,N⟩:∃B,B=d.drop j:=⟨_,rfl⟩;rw[<-M]at t w;rw[<-N]at v w;subst w;refine Gy (by simpa using g0) (by simpa using y) (by simpa using z) (by omega) (by omega) hs ?_;rw[Gx rfl t E.symm (by omega),I (B:=[])];simp only[go_sem,L];have Q:B≠[]:=V2.mp (by omega);have V:A≠[]:=V2.mp (by omega);refine⟨(i-j)+j,by omega,k++f,B,A,by rw[t,v],o,?_,?_,Q,V,?_,?_,?_⟩;·rw[<-C];simp
  ·simp[Rp]at hi ai⊢;omega
  ·simp only[Rp]at y⊢;omega
  ·intro r ap;refine z r ?_;grind
  rw[t,v];simp
 have J:¬(j:Int)<i:=by omega
 have L:IntKind.i64.wrap (j-i)=((j-i:Nat)):=by rw[wr (by omega) (by omega)];omega
 have aq:IntKind.i64.wrap _=m+j:=wr (by omega) (by omega);have aa:IntKind.i64.wrap (m+j-i)=((m+(j-i):Nat)):=by rw[wr (by omega) (by omega)];omega
 obtain⟨e,hE⟩:∃e,e=m+(j-i):=⟨_,rfl⟩;rw[<-hE]at aa;simp only[go_sem,LB,c,J,F,aq,aa];have w:f=f.take (j-i)++f.drop _:=(pu _ _).symm;have t:(f.take (j-i)).length=j-i:=by rw[fL];omega
 have v:(f.drop (j-i)).length=i:=by rw[l3];omega
 obtain⟨A,M⟩:∃A,A=f.take (j-i):=⟨_,rfl⟩;obtain⟨B,N⟩:∃B,B=f.drop (j-i):=⟨_,rfl⟩;rw[<-M]at t w;rw[<-N]at v w;subst w;refine Gy (by simpa using g0) (by simpa using y) (by simpa using z) (by omega) (by omega) hs ?_;rw[Gx rfl hi.symm v (by omega),I (B:=[])];simp only[go_sem,L];have Q:B≠[]:=V2.mp (by omega);have V:A≠[]:=V2.mp (by omega);refine⟨i+(j-i),by omega,k,B,A,by rw[t,v],d++o,?_,?_,Q,V,?_,?_,?_⟩;·rw[<-C];simp
 ·omega
 ·simp only[Rp]at y⊢;omega
 ·intro r ap;refine z r ?_;grind
 rw[t,v];simp
end
section
open Go.Dm
set_option maxRecDepth 10000
structure Gz (ky:List D -> Int) (l t:List (List D)):Prop where
 ord:t.Pairwise (fun r s=>ky r <= ky s)
 fil : ∀ k,t.filter (fun r=>decide (ky r=k))=l.filter (fun r=>decide (ky r=k))
theorem Uo {A B:List (List D)} {y z:List D} {q:Nat} (h:A.length=q):(A++z::y::B)[q]?=some z /\ (A++z::y::B)[q+1]?=some y /\ ((A++z::y::B).set (q+1) z).set q y=A++y::z::B:=by
 simp_all
theorem wZ {ky:List D -> Int} {l t:List (List D)} (h : ∀ k,t.filter (fun r=>decide (ky r=k))=l.filter (fun r=>decide (ky r=k))) {r:List D} (hr:r∈t):r∈l:=by
 have:r∈t.filter (fun s=>decide (ky s=ky r)):=n0.mpr ⟨hr,by simp⟩
 simp_all
def rN (ky:List D -> Int) (g:Nat):Prop := ∀ {r s:List D},gF 11 r -> gF 11 s -> ∃ c:Int,(c<0↔ky r<ky s) /\ ∀ {H:ab} {K:CR -> Prop},ac VS g [.ag r,.ag s] H K↔K (.ret (.i .i64 c) H)
theorem GB {ky:List D -> Int} {g:Nat} (hg:rN ky g) (hy:g<4294967295) {H:ab} {x n a b:Nat} {P X S:List (List D)} {cap:Option Nat} {p:Bool} (h:H[x]?=some (.ar 11 (P++(X++S)) cap p false)) (hn:(P++(X++S)).length=n) (hr : ∀ r∈P++(X++S),gF 11 r) (ha:P.length=a) (hb:a+X.length=b) (hs:n<4611686018427387904) {K:CR -> Prop} (hK : ∀ T,Gz ky X T -> T.length=X.length -> K (.ret (.tu []) (H.set x (.ar 11 (P++(T++S)) cap p false)))):ac VS 312 [.mu x n 0 n,.i .i64 (a:Int),.i .i64 (b:Int),.fn (.func g) [] []] H K:=by
 have hx:=aw h
 have hn':=hn
 simp[Rp]at hn'
 have w1:IntKind.i64.wrap (a+1)=((a+1:Nat)):=by grind[wr]
 refine .body Q1 rfl rfl ?_
 simp  [go_sem,Xz,w1]
 cases hX:X with
 | nil =>
  subst hX
  have c : ¬ ((a:Int)+1)<(b:Int):=by grind
  rw[bv]
  simp  [go_sem,BX,c]
  have:=hK [] ⟨.nil,fun _=>rfl⟩ rfl
  grind[lU]
 | cons r0 X0 =>
  have hXl:X.length=X0.length+1:=by grind
  refine ak.up (fun i s => ∃ T R a4 a5 a7,T.length=i+1 /\ T.length+R.length=X.length /\ T.Pairwise (fun r s=>ky r <= ky s) /\ (∀ k,(T++R).filter (fun r=>decide (ky r=k))=X.filter (fun r=>decide (ky r=k))) /\ s=⟨[.mu x n 0 n,.i .i64 a,.i .i64 b,.fn (.func g) [] [],a4,a5,.i .i64 ((a+1+i:Nat)),a7],H.set x (.ar 11 (P++(T++(R++S))) cap p false)⟩) X0.length ⟨[r0],X0,.u,.u,.u,rfl,by grind,ABB _ _,fun k=>by grind,by
   grind[r0,lU]⟩ ?_
  rintro i s hi ⟨T,R,a4,a5,a7,hT,hTR,hsd,hfl,rfl⟩
  by_cases hlt:i<X0.length
  ·have c:((a+1+i:Nat):Int)<b:=by omega
   obtain ⟨y,R',rfl⟩ : ∃ y R',R=y::R':=by
    cases R with
    | nil=>simp at hTR;omega
    | cons y R'=>exact⟨y,R',rfl⟩
   have w2:IntKind.i64.wrap (((a+1+i:Nat))+1)=((a+1+(i+1):Nat)):=by rw[wr (by omega) (by omega)];omega
   obtain⟨e,he⟩ : ∃ e,e=a+1+i:=⟨_,rfl⟩
   rw[<- he]at c w2
   rw[<- he]
   simp  only[go_sem,BX,c]
   refine ak.loop (fun q s => ∃ T1 T2 a5,q=T1.length /\ T=T1++T2 /\ (∀ r∈T2,ky y<ky r) /\ s=⟨[.mu x n 0 n,.i .i64 a,.i .i64 b,.fn (.func g) [] [],.b true,a5,.i .i64 e,.i .i64 ((a+T1.length:Nat))],H.set x (.ar 11 (P++(T1++(y::(T2++(R'++S))))) cap p false)⟩) _ ⟨T,[],a5,rfl,by simp,by simp,by simp;omega⟩ ?_
   rintro q s ⟨T1,T2,a5,hq,hTe,hT2,rfl⟩
   subst hTe
   have fin : ∀ {T':List _},T'=T1++y::T2 -> (∀ r∈T1,ky r <= ky y) -> T'.length=i+1+1 /\ T'.length+R'.length=X.length /\ List.Pairwise (fun r s=>ky r <= ky s) T' /\ (∀ k,(T'++R').filter (fun r=>decide (ky r=k))=X.filter (fun r=>decide (ky r=k))):=by
    rintro T' rfl h1
    simp only[Rp,fD]at hT hTR ⊢
    refine⟨by omega,by omega, ?_,fun k => ?_⟩
    ·rw[gx]at hsd ⊢
     refine⟨hsd.1,ey.mpr ⟨fun r hr'=>ABY (hT2 r hr'),hsd.2.1⟩,fun r hr' s hs' => ?_⟩
     rcases dA.mp hs' with rfl|hs'
     ·exact h1 r hr'
     ·exact hsd.2.2 r hr' s hs'
    ·rw [<- hfl k]
     simp only[k7,od,dn]
     congr 1
     by_cases hk:ky y=k
     ·have:T2.filter (fun r=>decide (ky r=k))=[]:=by
       rw[rr]
       intro r hr' he'
       have:=hT2 r hr'
       simp at he'
       omega
      simp[hk,this]
     ·simp[hk]
   have hTl:=by simpa using hT
   have hRl:=by simpa using hTR
   rcases ABQ T1 with rfl|⟨T1',z,h1⟩
   ·have hj:a+([]:List (List D)).length=a:=rfl
    have cj : ¬ (a:Int)<a:=by omega
    simp  only[go_sem,Lv,cj,w2]
    obtain⟨f1,f2,f3,f4⟩:=fin (T':=y::T2) rfl (by simp)
    exact⟨hlt,y::T2,f1,R',f2,f3,f4,rfl⟩
   ·rw [List.concat_eq_append]at h1
    subst h1
    obtain⟨t,ht⟩ : ∃ t,t=a+T1'.length:=⟨_,rfl⟩
    have hj:((a+(T1'++[z]).length:Nat):Int)=t+1:=by simp;omega
    rw[hj]
    obtain⟨L,hL⟩ : ∃ L,L=P++(T1'++[z]++y::(T2++(R'++S))):=⟨_,rfl⟩
    have hL2:L=(P++T1')++z::y::(T2++(R'++S)):=by rw[hL];simp
    obtain⟨rz,ry,e2⟩:=Uo (A:=P++T1') (B:=T2++(R'++S)) (y:=y) (z:=z) (q:=t) (by simp;omega)
    rw[<- hL2]at rz ry e2
    have hLn:L.length=n:=by rw[hL2];simp at hTl ⊢;omega
    rw[<- hL]
    obtain⟨G,hG⟩ : ∃ G,G=H.set x (.ar 11 L cap p false):=⟨_,rfl⟩
    have g0:G[x]?=some (.ar 11 L cap p false):=by rw[hG,N1 hx]
    have hGx:=aw g0
    rw[<- hG]
    have mem : ∀ r,r∈T1' \/ r=z \/ r∈T2 \/ r=y \/ r∈R' -> r∈X:=by
     intro r hr'
     refine wZ hfl ?_
     grind
    have fzX:=fun r hr'=>hr r (fd _ (TB _ hr'))
    have fz:=fzX z (mem z (by grind))
    have fy:=fzX y (mem y (by grind))
    obtain⟨cc,hc,hcq⟩:=hg fy fz
    have w3:IntKind.i64.wrap (t+1-1)=t:=by rw[wr (by omega) (by omega)];omega
    have c0:(a:Int)<t+1:=by omega
    have c1:(0:Int) <= t+1:=by omega
    have c2:(t:Int)+1<n:=by omega
    have c3:(0:Int) <= t:=by omega
    have c4:(t:Int)<n:=by omega
    have n1:((t:Int)+1).toNat=t+1:=by omega
    have lz:=fz.len
    have ly:=fy.len
    have dz:List.drop 11 z=[]:=dm (by omega)
    have dy:List.drop 11 y=[]:=dm (by omega)
    have fz':=fz.fz
    have fy':=fy.fz
    have rz1:(L.set (t+1) z)[t]?=some z:=by rw[Hy (by omega),rz]
    have e3:G.set x (.ar 11 ((L.set (t+1) z).set t y) cap p false)=H.set x (.ar 11 (P++T1'++y::z::(T2++(R'++S))) cap p false):=by rw[hG,s0,e2]
    by_cases hlt2:cc<0
    ·simp(disch:=omega) only[go_sem,Lv,c0,c1,c2,c3,c4,w3,g0,hLn,rz,ry,lz,ly,dz,dy,E4,hcq,hlt2,fz',fy',hGx,rz1,N1,s0,e3]
     refine⟨T1'.length,by rw[hq];simp,T1',rfl,z::T2,rfl,fun r hr' => ?_,by omega,by simp⟩
     rcases dA.mp hr' with rfl|h1
     ·exact hc.mp hlt2
     ·exact hT2 r h1
    ·simp (disch:=omega) only[go_sem,Lv,c0,c1,c2,c3,c4,w3,g0,hLn,rz,ry,lz,ly,E4,hcq,hlt2,hGx,w2]
     have hzy:ky z <= ky y:=by
      omega
     obtain ⟨f1,f2,f3,f4⟩:=fin rfl (by
      intro r hr'
      rcases bN.mp hr' with h1|h1
      ·have:=(gx.mp (gx.mp hsd).1).2.2 r h1 z (by simp)
       omega
      ·rw[kz.mp h1];exact hzy)
     refine⟨hlt,_,f1,R',f2,f3,f4, ?_⟩
     rw[hG,hL]
     simp
  ·have c : ¬ ((a+1+i:Nat):Int)<b:=by omega
   have hR:R=[]:=k6.mp (by omega)
   subst hR
   simp[qq]at hfl
   obtain⟨e,he⟩ : ∃ e,e=a+1+i:=⟨_,rfl⟩
   rw[<- he]at c
   rw[<- he]
   simp  [go_sem,BX,c]
   exact hK T ⟨hsd,hfl⟩ (by simpa using hTR)
end
section
open Go.Dm
set_option maxRecDepth 10000
variable{x y:List (List D)}
def Up{B:List (List D)}{y:List D}{q:Nat}(h:x.length=q):(x++y::B)[q]?=some y:=by grind
def anX{A B:List (List D)}{y z:List D}{q:Nat}(h:A.length=q):(A++z::y::B)[q]?=some z/\(A++z::y::B)[q+1]?=some y/\((A++z::y::B).set q y).set (q+1) z=A++y::z::B:=by simp_all
variable{z:List D->Int}
def pG{R:List (List D)}(a:R.Pairwise (λr s=>z r<=z s)){q:Nat}{y:List D}(b:R[q]?=some y):(∀r∈R.take (q+1),z r<=z y)/\(∀r∈R.drop q,z y<=z r):=by
 have c:=vx.mp a;obtain⟨d,rfl⟩:=AAF.mp b;constructor;·intro r hr;obtain⟨i,hi,rfl⟩:=kh.mp hr;grind
 intro r hr;obtain⟨i,hi,rfl⟩:=kh.mp hr;rw[l3]at hi;rw[ABx];by_cases h:i=0;·grind
 exact c q _ d (by omega) (by omega)
def anY{a:List D}(b:(x++y).Pairwise (λr s=>z r<=z s))(d:∀r∈x,z r<z a)(c:∀r∈y,z a<=z r):(x++a::y).Pairwise (λr s=>z r<=z s)/\∀k,(x++a::y).filter (λr=>decide (z r=k))=(a::(x++y)).filter (λr=>decide (z r=k)):=by
 refine⟨?_,λk=>?_⟩;·rw[gx]at b⊢;refine⟨b.1,ey.mpr ⟨c,b.2.1⟩,λr hr s hs=>?_⟩;grind
 by_cases e:z a=k
 ·have:x.filter (λr=>decide (z r=k))=[]:=by rw[rr];grind
  grind
 grind
def anZ{d:List D->Int}{g:Nat}(hg:rN d g)(hy:g<4294967295){H:ab}{x n a m b:Nat}{P R S:List (List D)}{z:List D}{cap:Option Nat}{p:Bool}(h:H[x]?=some (.ar 11 (P++(z::(R++S))) cap p false))(Q:(P++(z::(R++S))).length=n)(hr:∀r∈P++(z::(R++S)),gF 11 r)(ha:P.length=a)(hm:a+1=m)(hb:m+R.length=b)(U:R.Pairwise (λr s=>d r<=d s))(hs:n<4611686018427387904){K:CR->Prop}(hK:∀T,T.Pairwise (λr s=>d r<=d s)->(∀k,T.filter (λr=>decide (d r=k))=(z::R).filter (λr=>decide (d r=k)))->T.length=R.length+1->K (.ret (.tu []) (H.set x (.ar 11 (P++(T++S)) cap p false)))):ac VS 313 [.mu x n 0 n,.i .i64 (a:Int),.i .i64 (m:Int),.i .i64 (b:Int),.fn (.func g) [] []] H K:=by
 have V:=aw h;have a9:=Q;simp[Rp,fD]at a9;have w1:IntKind.i64.wrap (m-a)=1:=by grind[wr]
 refine .body Ez rfl rfl ?_;simp[go_sem,xw,w1];refine ak.loop (λq s=>∃i j:Nat,∃a6 W X,q=j-i/\i<=j/\m<=i/\j<=b/\(∀r∈R.take (i-m),d r<d z)/\(∀r∈R.drop (j-m),d z<=d r)/\s=⟨[.mu x n 0 n,.i .i64 _,.i .i64 _,.i .i64 b,.fn (.func g) [] [],.b true,a6,W,.u,.u,.u,.u,.u,.u,.u,.u,.u,.u,.u,.i .i64 i,.i .i64 j,X,.u,.u,.u,.u,.u,.u,.u,.u,.u,.u,.u,.u],H⟩) _ ⟨m,b,.u,.u,.u,rfl,by omega,by omega,by omega,by simp,by rw[dm (by omega)];simp,rfl⟩ ?_;rintro q s⟨i,j,a6,W,X,hq,b3,b4,b5,Y,Z,rfl⟩;by_cases b6:i<j
 ·have c:(i:Int)<j:=by omega
  obtain⟨l,b7⟩:∃l,l=i+j:=⟨_,rfl⟩;have w2:IntKind.i64.wrap (i+j)=l:=by rw[wr (by omega) (by omega)];omega
  have w3:IntKind.wrap .u64 _=l:=bG (by omega);have e1:bin .shr _ (.i .u64 1)=some (.i .u64 ((l/2:Nat))):=eE (by decide);obtain⟨e,he⟩:∃e,e=l/2:=⟨_,rfl⟩;rw[<-he]at e1;have w4:IntKind.i64.wrap _=e:=wr (by omega) (by omega);obtain⟨y,ap,ae⟩:∃y,R[e-m]?=some y/\(P++(z::(R++S)))[e]?=some y:=by
   have hl:e-m<R.length:=by omega
   refine⟨R[e-m],E2 hl,?_⟩;rw[dg (by omega)];obtain⟨f,hf⟩:∃f,e-P.length=f+1:=⟨e-P.length-1,by omega⟩;rw[hf,ABA,X0 (by omega),E2 (by omega)];congr 2;omega
  have af:(P++(z::(R++S)))[a]?=some z:=Up ha;have o:=hr y (lB ae);have w:=hr z (lB af);obtain⟨cc,hc,aq⟩:=hg o w;have C:(0:Int)<=e:=by omega
  have E:(e:Int)<n:=by omega
  have c3:(0:Int)<=a:=by omega
  have F:(a:Int)<n:=by omega
  have I:=w.len;have J:=o.len;by_cases au:cc<0
  ·have w5:IntKind.i64.wrap (e+1)=((e+1:Nat)):=by rw[wr (by omega) (by omega)];omega
   simp(disch:=omega)only[go_sem,Lx,c,w2,w3,w4,e1,C,E,c3,F,h,Q,ae,af,I,J,E4,aq,au,w5,V];refine⟨j-(e+1),by omega,e+1,j,rfl,by omega,by omega,by omega,λr M=>?_,Z,by omega,rfl⟩;rw[show e+1-m=e-m+1 from by omega]at M;have:=(pG U ap).1 r M;omega
  simp(disch:=omega)only[go_sem,Lx,c,w2,w3,w4,e1,C,E,c3,F,h,Q,ae,af,I,J,E4,aq,au,V];refine⟨e-i,by omega,i,e,rfl,by omega,by omega,by omega,Y,λr M=>?_,rfl,rfl⟩;have:=(pG U ap).2 r M;omega
 have c:¬(i:Int)<j:=by omega
 simp[go_sem,Lx,c];have bf:i=j:=by omega
 subst bf;obtain⟨u,hu⟩:∃u,u=i-m:=⟨_,rfl⟩;rw[<-hu]at Y Z;have av:R=R.take u++R.drop u:=(pu _ _).symm;obtain⟨i1,i2⟩:=anY (by rw[<-av];exact U) Y Z;rw[<-av]at i2;have N:IntKind.i64.wrap (i-1)=((a+u:Nat)):=by rw[wr (by omega) (by omega)];omega
 refine ak.up (λt s=>∃a8,s=⟨[.mu x n 0 n,.i .i64 a,.i .i64 m,.i .i64 _,.fn (.func g) [] [],.b true,.b false,W,a8,.u,.u,.u,.u,.u,.u,.u,.u,.u,.u,.i .i64 i,.i .i64 i,X,.i .i64 ((a+t:Nat)),.u,.u,.u,.u,.u,.u,.u,.u,.u,.u,.u],H.set x (.ar 11 (P++(R.take t++z::R.drop t++S)) cap p false)⟩) u ⟨.u,by
 have:P++(R.take 0++z::R.drop 0++S)=P++(z::(R++S)):=by simp
 rw[this,lU h];rfl⟩ ?_;rintro t s ht⟨a8,rfl⟩;obtain⟨v,hv⟩:∃v,v=a+t:=⟨_,rfl⟩;rw[<-hv];by_cases bj:t<u
 ·have az:t<R.length:=by omega
  obtain⟨y,ag⟩:∃y,y=R[t]:=⟨_,rfl⟩;have bk:R.drop t=y::R.drop (t+1):=by rw[ag];exact mm az
  have bl:R.take (t+1)=R.take t++[y]:=by rw[ag,za az]
  obtain⟨L,hL⟩:∃L,L=P++(R.take t++z::R.drop t++S):=⟨_,rfl⟩;have bm:L=(P++R.take t)++z::y::(R.drop (t+1)++S):=by rw[hL,bk];simp
  obtain⟨rz,ry,e2⟩:=anX (A:=P++R.take t) (B:=R.drop (t+1)++S) (y:=y) (z:=z) (q:=v) (by simp;omega);rw[<-bm]at rz ry e2;have bo:L.length=n:=by rw[hL];simp;omega
  rw[<-hL];obtain⟨G,hG⟩:∃G,G=H.set x (.ar 11 L cap p false):=⟨_,rfl⟩;have g0:G[x]?=some (.ar 11 L cap p false):=by rw[hG,N1 V]
  have bp:=aw g0;rw[<-hG];have w:=hr z (by simp);have o:=hr y (by rw[ag];simp);have w7:IntKind.i64.wrap _=v+1:=wr (by omega) (by omega);have c0:v<((a+u:Nat):Int):=by omega
  obtain⟨v2,aj⟩:∃v,v=a+u:=⟨_,rfl⟩;rw[<-aj]at c0 N;have C:(0:Int)<=v+1:=by omega
  have E:(v:Int)+1<n:=by omega
  have c3:(0:Int)<=v:=by omega
  have F:(v:Int)<n:=by omega
  have I:=w.len;have J:=o.len;have dz:List.drop 11 z=[]:=dm (by omega);have dy:List.drop 11 y=[]:=dm (by omega);have bu:=w.fz;have bv:=o.fz;have bw:(L.set v y)[v+1]?=some y:=by rw[Hy (by omega),ry]
  have e3:G.set x (.ar 11 ((L.set v y).set (v+1) z) cap p false)=H.set x (.ar 11 (P++(R.take (t+1)++z::R.drop (t+1)++S)) cap p false):=by rw[hG,s0,e2,bl];simp
  simp only[go_sem,XC,c0,C,E,c3,F,N,w7,g0,bo,rz,ry,I,J,dz,dy,E4,bu,bv,bp,bw,N1,s0,e3];exact⟨bj,by omega⟩
 have he:t=u:=by omega
 have c5:¬v<((a+u:Nat):Int):=by omega
 obtain⟨v2,aj⟩:∃v,v=a+u:=⟨_,rfl⟩;rw[<-aj]at c5 N;simp[go_sem,XC,N,c5];rw[he];have:=hK _ i1 i2 (by simp;omega);simpa only[dn,T1]using this
end
section
open Go.Dm
set_option maxRecDepth 10000
variable{x:List D->Int}{y z:List (List D)}
def an0{a:List D}(b:(y++z).Pairwise (λr s=>x r<=x s))(d:∀r∈y,x r<=x a)(c:∀r∈z,x a<x r):(y++a::z).Pairwise (λr s=>x r<=x s)/\∀k,(y++a::z).filter (λr=>decide (x r=k))=(y++z++[a]).filter (λr=>decide (x r=k)):=by
 refine⟨?_,λk=>?_⟩;·rw[gx]at b⊢;refine⟨b.1,ey.mpr ⟨λr hr=>ABY (c r hr),b.2.1⟩,λr hr s hs=>?_⟩;grind
 simp only[k7,od,dn];congr 1;by_cases e:x a=k
 ·have:z.filter (λr=>decide (x r=k))=[]:=by rw[rr];grind
  grind
 grind
def an1{d:List D->Int}{g:Nat}(hg:rN d g)(hy:g<4294967295){H:ab}{x n a m b:Nat}{P R S:List (List D)}{z:List D}{cap:Option Nat}{p:Bool}(h:H[x]?=some (.ar 11 (P++(R++z::S)) cap p false))(V:(P++(R++z::S)).length=n)(hr:∀r∈P++(R++z::S),gF 11 r)(ha:P.length=a)(hm:a+R.length=m)(b1:R.length≠1)(hb:m+1=b)(W:R.Pairwise (λr s=>d r<=d s))(hs:n<4611686018427387904){K:CR->Prop}(hK:∀T,T.Pairwise (λr s=>d r<=d s)->(∀k,T.filter (λr=>decide (d r=k))=(R++[z]).filter (λr=>decide (d r=k)))->T.length=R.length+1->K (.ret (.tu []) (H.set x (.ar 11 (P++(T++S)) cap p false)))):ac VS 313 [.mu x n 0 n,.i .i64 (a:Int),.i .i64 (m:Int),.i .i64 (b:Int),.fn (.func g) [] []] H K:=by
 have X:=aw h;have a9:=V;simp[Rp,fD]at a9;obtain⟨l,hl⟩:∃l,l=R.length:=⟨_,rfl⟩;have w0:IntKind.i64.wrap (m-a)=l:=by grind[wr]
 have F:¬(l:Int)=1:=by omega
 have w1:IntKind.i64.wrap (b-m)=1:=by grind[wr]
 refine .body Ez rfl rfl ?_;simp[go_sem,xw,w0,F,w1];refine ak.loop (λq s=>∃i j:Nat,∃ap Y Z,q=j-i/\i<=j/\a<=i/\j<=m/\(∀r∈R.take (i-a),d r<=d z)/\(∀r∈R.drop (j-a),d z<d r)/\s=⟨[.mu x n 0 n,.i .i64 _,.i .i64 _,.i .i64 b,.fn (.func g) [] [],.b false,.u,.u,.u,.b true,ap,Y,.u,.u,.u,.u,.u,.u,.u,.u,.u,.u,.u,.i .i64 i,.i .i64 j,Z,.u,.u,.u,.u,.u,.u,.u,.u],H⟩) _ ⟨a,m,.u,.u,.u,rfl,by omega,by omega,by omega,by simp,by rw[dm (by omega)];simp,rfl⟩ ?_;rintro q s⟨i,j,ap,Y,Z,hq,b3,b4,b5,h1,h2,rfl⟩;by_cases b6:i<j
 ·have c:(i:Int)<j:=by omega
  obtain⟨f,b7⟩:∃f,f=i+j:=⟨_,rfl⟩;have w2:IntKind.i64.wrap (i+j)=f:=by rw[wr (by omega) (by omega)];omega
  have w3:IntKind.wrap .u64 _=f:=bG (by omega);have e1:bin .shr _ (.i .u64 1)=some (.i .u64 ((f/2:Nat))):=eE (by decide);obtain⟨e,he⟩:∃e,e=f/2:=⟨_,rfl⟩;rw[<-he]at e1;have w4:IntKind.i64.wrap _=e:=wr (by omega) (by omega);obtain⟨y,ax,ag⟩:∃y,R[e-a]?=some y/\(P++(R++z::S))[e]?=some y:=by
   have hl:e-a<R.length:=by omega
   refine⟨R[e-a],E2 hl,?_⟩;rw[dg (by omega),X0 (by omega),E2 (by omega)];congr 2;omega
  have ah:(P++(R++z::S))[m]?=some z:=by rw[<-List.append_assoc];exact Up (by simp;omega)
  have C:=hr y (lB ag);have E:=hr z (lB ah);obtain⟨cc,hc,ay⟩:=hg E C;have I:(0:Int)<=e:=by omega
  have J:(e:Int)<n:=by omega
  have c3:(0:Int)<=m:=by omega
  have M:(m:Int)<n:=by omega
  have N:=E.len;have Q:=C.len;by_cases az:cc<0;·simp(disch:=omega)only[go_sem,Ly,c,w2,w3,w4,e1,I,J,c3,M,h,V,ag,ah,N,Q,E4,ay,az,X];refine⟨e-i,by omega,i,e,rfl,by omega,by omega,by omega,h1,λr U=>?_,rfl,rfl⟩;have:=(pG W ax).2 r U;omega
  have w5:IntKind.i64.wrap (e+1)=((e+1:Nat)):=by rw[wr (by omega) (by omega)];omega
  simp(disch:=omega)only[go_sem,Ly,c,w2,w3,w4,e1,I,J,c3,M,h,V,ag,ah,N,Q,E4,ay,az,X,w5];refine⟨j-(e+1),by omega,e+1,j,rfl,by omega,by omega,by omega,λr U=>?_,h2,by omega,rfl⟩;rw[show e+1-a=e-a+1 from by omega]at U;have:=(pG W ax).1 r U;omega
 have c:¬(i:Int)<j:=by omega
 simp[go_sem,Ly,c];have bf:i=j:=by omega
 subst bf;obtain⟨u,hu⟩:∃u,u=i-a:=⟨_,rfl⟩;rw[<-hu]at h1 h2;have a0:R=R.take u++R.drop u:=(pu _ _).symm;obtain⟨i1,i2⟩:=an0 (by rw[<-a0];exact W) h1 h2;rw[<-a0]at i2;refine ak.loop (λq s=>∃t a2,q=t-u/\u<=t/\t<=R.length/\s=⟨[.mu x n 0 n,.i .i64 a,.i .i64 m,.i .i64 _,.fn (.func g) [] [],.b false,.u,.u,.u,.b true,.b false,Y,a2,.u,.u,.u,.u,.u,.u,.u,.u,.u,.u,.i .i64 i,.i .i64 i,Z,.i .i64 ((a+t:Nat)),.u,.u,.u,.u,.u,.u,.u],H.set x (.ar 11 (P++(R.take t++z::R.drop t++S)) cap p false)⟩) _ ⟨R.length,.u,rfl,by omega,Hk _,by
 have:P++(R.take R.length++z::R.drop R.length++S)=P++(R++z::S):=by simp
 rw[this,lU h,hm]⟩ ?_;rintro q s⟨t,a2,hq,b9,ca,rfl⟩;obtain⟨v,hv⟩:∃v,v=a+t:=⟨_,rfl⟩;rw[<-hv];by_cases cb:u<t
 ·obtain⟨o,ho⟩:∃o,t=o+1:=⟨t-1,by omega⟩;subst ho;have a3:o<R.length:=by omega
  obtain⟨y,ai⟩:∃y,y=R[o]:=⟨_,rfl⟩;have bk:R.drop o=y::R.drop (o+1):=by rw[ai];exact mm a3
  have bl:R.take (o+1)=R.take o++[y]:=by rw[ai,za a3]
  obtain⟨L,hL⟩:∃L,L=P++(R.take (o+1)++z::R.drop (o+1)++S):=⟨_,rfl⟩;have bm:L=(P++R.take o)++y::z::(R.drop (o+1)++S):=by rw[hL,bl];simp
  obtain⟨w,hw⟩:∃w,w=a+o:=⟨_,rfl⟩;obtain⟨ry,rz,e2⟩:=Uo (A:=P++R.take o) (B:=R.drop (o+1)++S) (y:=z) (z:=y) (q:=w) (by simp;omega);rw[<-bm]at rz ry e2;have bo:L.length=n:=by rw[hL];simp;omega
  rw[<-hL];obtain⟨G,hG⟩:∃G,G=H.set x (.ar 11 L cap p false):=⟨_,rfl⟩;have g0:G[x]?=some (.ar 11 L cap p false):=by rw[hG,N1 X]
  have bp:=aw g0;rw[<-hG];have bq:v=w+1:=by omega
  subst bq;have E:=hr z (by simp);have C:=hr y (by rw[ai];simp);have w7:IntKind.i64.wrap (((w+1:Nat))-1)=w:=by rw[wr (by omega) (by omega)];omega
  have F:i<((w+1:Nat):Int):=by omega
  obtain⟨w',a5⟩:∃w',w'=w+1:=⟨_,rfl⟩;rw[<-a5]at w7 F rz e2;rw[<-a5];have I:(0:Int)<=w':=by omega
  have J:(w':Int)<n:=by omega
  have c3:(0:Int)<=w:=by omega
  have M:(w:Int)<n:=by omega
  have N:=E.len;have Q:=C.len;have dz:List.drop 11 z=[]:=dm (by omega);have dy:List.drop 11 y=[]:=dm (by omega);have bt:=E.fz;have bu:=C.fz;have bv:(L.set w' y)[w]?=some y:=by rw[Hy (by omega),ry]
  have e3:G.set x (.ar 11 ((L.set w' y).set w z) cap p false)=H.set x (.ar 11 (P++(R.take o++z::R.drop o++S)) cap p false):=by rw[hG,s0,e2,bk];simp
  simp only[go_sem,XF,F,I,J,c3,M,w7,g0,bo,rz,ry,N,Q,dz,dy,E4,bt,bu,bp,bv,N1,s0,e3];exact⟨o-u,by omega,o,rfl,by omega,by omega,by omega,rfl⟩
 have he:t=u:=by omega
 have c5:¬(i:Int)<v:=by omega
 simp[go_sem,XF,c5];rw[he];have:=hK _ i1 i2 (by simp;omega);simpa only[dn,T1]using this
end
section
open Go.Dm
set_option maxRecDepth 10000
set_option maxRecDepth 100000
structure lV (ky:List D -> Int) (L R T:List (List D)):Prop where
 ord:T.Pairwise (fun r s=>ky r <= ky s)
 fil : ∀ k,T.filter (fun r=>decide (ky r=k))=(L++R).filter (fun r=>decide (ky r=k))
 len:T.length=L.length+R.length
def GC (ky:List D -> Int) (rows:List (List D)) (pp c:Nat):Prop := ∃ y z,rows[pp-c]?=some y /\ rows[c]?=some z /\ ky z <= ky y
def GD (ky:List D -> Int) (rows:List (List D)) (pp c:Nat):Prop := ∃ y z,rows[pp-c]?=some y /\ rows[c]?=some z /\ ky y<ky z
theorem Uq {ky:List D -> Int} {g:Nat} (hg:rN ky g) (hy:g<4294967295) {H:ab} {x n lo hi pp:Nat} {rows:List (List D)} {cap:Option Nat} {p:Bool} (h:H[x]?=some (.ar 11 rows cap p false)) (hn:rows.length=n) (hr : ∀ r∈rows,gF 11 r) (hs:n<4611686018427387904) (hlo:lo <= hi) (hhi:hi <= n) (hpp:hi <= pp+1) (hpn:lo<hi -> pp-lo<n) {d1 d2 d3 s13 d27 d30:D} {Q:Dm.Ex -> St -> Prop} (hQ : ∀ s a14 a15 a32,lo <= s -> s <= hi -> (lo<s -> GC ky rows pp (s-1)) -> (s<hi -> GD ky rows pp s) -> Q (.ex 8) ⟨[.mu x n 0 n,d1,d2,d3,.fn (.func g) [] [],.b false,.u,.u,.u,.b false,.u,.u,.u,s13,a14,a15,.u,.u,.u,.u,.u,.u,.u,.u,.u,.u,.u,d27,.i .i64 (s:Int),.i .i64 (s:Int),d30,.i .i64 (pp:Int),a32,.u],H⟩) (hps:pp<9223372036854775807):ak VS (.loop Lz) ⟨[.mu x n 0 n,d1,d2,d3,.fn (.func g) [] [],.b false,.u,.u,.u,.b false,.u,.u,.u,s13,.u,.u,.u,.u,.u,.u,.u,.u,.u,.u,.u,.u,.u,d27,.i .i64 (lo:Int),.i .i64 (hi:Int),d30,.i .i64 (pp:Int),.u,.u],H⟩ Q:=by
 have hx:=aw h
 refine ak.loop (fun q s => ∃ i j:Nat, ∃ a14 a15 a32,q=j-i /\ lo <= i /\ i <= j /\ j <= hi /\ (lo<i -> GC ky rows pp (i-1)) /\ (j<hi -> GD ky rows pp j) /\ s=⟨[.mu x n 0 n,d1,d2,d3,.fn (.func g) [] [],.b false,.u,.u,.u,.b false,.u,.u,.u,s13,a14,a15,.u,.u,.u,.u,.u,.u,.u,.u,.u,.u,.u,d27,.i .i64 i,.i .i64 j,d30,.i .i64 _,a32,.u],H⟩) _ ⟨lo,hi,.u,.u,.u,rfl,by omega,hlo,by omega,by omega,by omega,rfl⟩ ?_
 rintro q s ⟨i,j,a14,a15,a32,hq,hli,hij,hjh,h1,h2,rfl⟩
 by_cases hlt:i<j
 ·have c:(i:Int)<j:=by omega
  obtain⟨S',hS'⟩ : ∃ S',S'=i+j:=⟨_,rfl⟩
  have w2:IntKind.i64.wrap (i+j)=S':=by grind[wr]
  have w3:IntKind.wrap .u64 _=S':=bG (by omega)
  have e1:bin .shr _ (.i .u64 1)=some (.i .u64 ((S'/2:Nat))):=eE (by decide)
  obtain⟨e,he⟩ : ∃ e,e=S'/2:=⟨_,rfl⟩
  rw[<- he]at e1
  have w4:IntKind.i64.wrap _=e:=wr (by omega) (by omega)
  have he1:e<rows.length:=by omega
  obtain⟨f,hf⟩ : ∃ f,f=pp-e:=⟨_,rfl⟩
  have w6:IntKind.i64.wrap (pp-e)=f:=by grind[wr]
  obtain⟨z,hz⟩ : ∃ z,rows[e]?=some z:=⟨_,E2 he1⟩
  obtain⟨y,hy2⟩ : ∃ y,rows[f]?=some y:=⟨_,E2 (by omega)⟩
  have fy:=hr y (lB hy2)
  have fz:=hr z (lB hz)
  obtain⟨cc,hc,hcq⟩:=hg fy fz
  have c1:(0:Int) <= e:=by omega
  have c2:(e:Int)<n:=by omega
  have c3:(0:Int) <= f:=by omega
  have c4:(f:Int)<n:=by omega
  have lz:=fz.len
  have ly:=fy.len
  by_cases hlt2:cc<0
  ·simp(disch:=omega) only[go_sem,LA,c,w2,w3,w4,w6,e1,c1,c2,c3,c4,h,hn,hy2,hz,lz,ly,E4,hcq,hlt2,hx]
   exact⟨e-i,by omega,i,e,rfl,hli,by omega,by omega,h1,fun _=>⟨y,z,by grind,hz,hc.mp hlt2⟩,rfl,rfl⟩
  ·have w5:IntKind.i64.wrap (e+1)=((e+1:Nat)):=by grind[wr]
   simp(disch:=omega) only[go_sem,LA,c,w2,w3,w4,w6,e1,c1,c2,c3,c4,h,hn,hy2,hz,lz,ly,E4,hcq,hlt2,hx,w5]
   exact⟨j-(e+1),by omega,e+1,j,rfl,by omega,by omega,by omega,fun _=>⟨y,z,by grind,by grind,by omega⟩,h2,by omega,rfl⟩
 ·have hij':i=j:=by omega
  simp  [go_sem,LA]
  grind
theorem Ur {ky:List D -> Int} {rows P L R S:List (List D)} {a m b d o pp lo hi s:Nat} (hrows:rows=P++(L++(R++S))) (ha:P.length=a) (hm:a+L.length=m) (hb:m+R.length=b) (hLp:0<L.length) (hRp:0<R.length) (hd:d=(a+b)/2) (ho:o=d+m) (hp:pp=o-1) (hlo:lo=if d<m then o-b else a) (hhi:hi=if d<m then d else m) (hLs:L.Pairwise (fun r s=>ky r <= ky s)) (hRs:R.Pairwise (fun r s=>ky r <= ky s)) (h1:lo <= s) (h2:s <= hi) (h3:lo<s -> GC ky rows pp (s-1)) (h4:s<hi -> GD ky rows pp s) : ∃ L1 L2 R1 R2,L=L1++L2 /\ R=R1++R2 /\ a+L1.length=s /\ m+R1.length=o-s /\ (∀ x∈L1, ∀ y∈R2,ky x <= ky y) /\ (∀ x∈L2, ∀ y∈R1,ky y<ky x):=by
 have hloa:a <= lo:=by grind
 have hhim:hi <= m:=by grind
 have hob:o-s <= b:=by grind
 have hom:m <= o-s:=by grind
 have atL : ∀ {c},a <= c -> c<m -> rows[c]?=L[c-a]?:=by
  grind
 have atR : ∀ {c},m <= c -> c<b -> rows[c]?=R[c-m]?:=by
  grind
 refine⟨L.take _,L.drop (s-a),R.take _,R.drop (o-s-m),(pu _ _).symm,(pu _ _).symm,by grind,by rw[fL];omega, ?_, ?_⟩
 ·intro x hx y hy
  by_cases hs1:lo<s
  ·obtain⟨y0,z0,q1,q2,q3⟩:=h3 hs1
   have hob2:o-s<b:=by rw[hlo]at hs1;split at hs1<;>omega
   rw[show pp-(s-1)=o-s from by omega,atR (by omega) hob2]at q1
   rw[atL (by omega) (by omega)]at q2
   have r1:=(pG hLs q2).1 x (by rw[show s-1-a+1=s-a from by omega];exact hx)
   have r2:=(pG hRs q1).2 y hy
   omega
  ·exfalso
   have hsl:s=lo:=by omega
   rw[hlo]at hsl
   split at hsl
   ·rw[dm (by omega)]at hy;exact absurd hy AAO
   ·rw[show s-a=0 from by omega]at hx;exact absurd hx (by simp)
 ·intro x hx y hy
  by_cases hs1:s<hi
  ·obtain⟨y0,z0,q1,q2,q3⟩:=h4 hs1
   have hom2:m<o-s:=by rw[hhi]at hs1;split at hs1<;>omega
   rw[atR (by omega) (by omega)]at q1
   rw[atL (by omega) (by omega)]at q2
   have r1:=(pG hRs q1).1 y (by rw[show pp-s-m+1=o-s-m from by omega];exact hy)
   have r2:=(pG hLs q2).2 x hx
   omega
  ·exfalso
   have hsl:s=hi:=by omega
   rw[hhi]at hsl
   split at hsl
   ·rw[show o-s-m=0 from by omega]at hy;exact absurd hy (by simp)
   ·rw[dm (by omega)]at hx;exact absurd hx AAO
theorem lV.triv {ky:List D -> Int} {L R:List (List D)} (h:L=[] \/ R=[]) (hL:L.Pairwise (fun r s=>ky r <= ky s)) (hR:R.Pairwise (fun r s=>ky r <= ky s)):lV ky L R (L++R):=by
 refine⟨?_,fun _=>rfl,Rp⟩
 grind
theorem lV.mem {ky:List D -> Int} {L R T:List (List D)} (h:lV ky L R T) {r:List D} (hr:r∈T):r∈L \/ r∈R:=bN.mp (wZ h.fil hr)
theorem lV.join {ky:List D -> Int} {L1 L2 R1 R2 T1 T2:List (List D)} (h1:lV ky L1 R1 T1) (h2:lV ky L2 R2 T2) (hL:(L1++L2).Pairwise (fun r s=>ky r <= ky s)) (hR:(R1++R2).Pairwise (fun r s=>ky r <= ky s)) (k1 : ∀ x∈L1, ∀ y∈R2,ky x <= ky y) (k2 : ∀ x∈L2, ∀ y∈R1,ky y<ky x):lV ky (L1++L2) (R1++R2) (T1++T2):=by
 have hL':=gx.mp hL
 have hR':=gx.mp hR
 refine⟨gx.mpr ⟨h1.ord,h2.ord,fun r hr s hs => ?_⟩,fun k => ?_, ?_⟩
 ·rcases h1.mem hr with a|a<;>rcases h2.mem hs with b|b
  ·exact hL'.2.2 r a s b
  ·exact k1 r a s b
  ·exact ABY (k2 s b r a)
  ·exact hR'.2.2 r a s b
 ·rw [k7,h1.fil k,h2.fil k]
  congr 1
  by_cases hr:R1.filter (fun r=>decide (ky r=k))=[]
  ·grind
  ·have:L2.filter (fun r=>decide (ky r=k))=[]:=by
    obtain⟨y,hy⟩:=List.exists_mem_of_ne_nil _ hr
    rw[rr]
    grind
   grind
 ·simp[Rp,h1.len,h2.len];omega
def A5:aQ:=match xv.body with | .seq _ (.seq _ (.seq _ (.seq _ (.seq _ (.seq _ (.seq _ (.seq _ t)))))))=>t|_ => .skip
def A6:aQ:=match A5 with | .seq _ (.seq _ t)=>t|_ => .skip
def GE:aQ:=match A6 with | .seq _ t=>t|_ => .skip
set_option maxHeartbeats 1000000 in
theorem an2 {ky:List D -> Int} {g:Nat} (hg:rN ky g) (hy:g<4294967295) (N:Nat) : ∀ {H:ab} {x n a m b:Nat} {P L R S:List (List D)} {cap:Option Nat} {p:Bool},L.length+R.length <= N -> H[x]?=some (.ar 11 (P++(L++(R++S))) cap p false) -> (P++(L++(R++S))).length=n -> (∀ r∈P++(L++(R++S)),gF 11 r) -> P.length=a -> a+L.length=m -> m+R.length=b -> L≠[] -> R≠[] -> L.Pairwise (fun r s=>ky r <= ky s) -> R.Pairwise (fun r s=>ky r <= ky s) -> n<4611686018427387904 -> ∀ {K:CR -> Prop},(∀ T,lV ky L R T -> K (.ret (.tu []) (H.set x (.ar 11 (P++(T++S)) cap p false)))) -> ac VS 313 [.mu x n 0 n,.i .i64 (a:Int),.i .i64 (m:Int),.i .i64 (b:Int),.fn (.func g) [] []] H K:=by
 induction N using Nat.strongRecOn with
 | ind N ih =>
 intro H x n a m b P L R S cap p hN h hn hr ha hm hb hL hR hLs hRs hs K hK
 have hx:x<H.length:=aw h
 have hLp:=V2.mpr hL
 have hRp:=V2.mpr hR
 have hn':=hn
 simp only[Rp]at hn'
 by_cases h1:L.length=1
 ·obtain⟨z,rfl⟩:=AAr.mp h1
  exact anZ hg hy (R:=R) (S:=S) (z:=z) (by simpa using h) (by simpa using hn) (by simpa using hr) ha (by simpa using hm) hb hRs hs (fun T t1 t2 t3=>hK T ⟨t1,by simpa using t2,by simp;omega⟩)
 by_cases h2:R.length=1
 ·obtain⟨z,rfl⟩:=AAr.mp h2
  exact an1 hg hy (R:=L) (S:=S) (z:=z) (by simpa using h) (by simpa using hn) (by simpa using hr) ha hm h1 (by simpa using hb) hLs hs (fun T t1 t2 t3=>hK T ⟨t1,t2,by simp;omega⟩)
 obtain⟨l,hl⟩ : ∃ l,l=L.length:=⟨_,rfl⟩
 obtain⟨r,hrl⟩ : ∃ r,r=R.length:=⟨_,rfl⟩
 have w0:IntKind.i64.wrap ((m:Int)-(a:Int))=(l:Int):=by rw[wr (by omega) (by omega)];omega
 have c0 : ¬ (l:Int)=1:=by omega
 have w1:IntKind.i64.wrap ((b:Int)-(m:Int))=(r:Int):=by rw[wr (by omega) (by omega)];omega
 have c1 : ¬ (r:Int)=1:=by omega
 obtain⟨S',hS'⟩ : ∃ S',S'=a+b:=⟨_,rfl⟩
 have w2:IntKind.i64.wrap ((a:Int)+(b:Int))=(S':Int):=by rw[wr (by omega) (by omega)];omega
 have w3:IntKind.wrap .u64 (S':Int)=(S':Int):=bG (by omega)
 have e1:bin .shr (.i .u64 (S':Int)) (.i .u64 1)=some (.i .u64 ((S'/2:Nat):Int)):=eE (s:=1) (by decide)
 obtain⟨d,hd⟩ : ∃ d,d=S'/2:=⟨_,rfl⟩
 rw[<- hd]at e1
 have w4:IntKind.i64.wrap (d:Int)=(d:Int):=wr (by omega) (by omega)
 obtain⟨o,ho⟩ : ∃ o,o=d+m:=⟨_,rfl⟩
 have w5:IntKind.i64.wrap ((d:Int)+(m:Int))=(o:Int):=by rw[wr (by omega) (by omega)];omega
 obtain⟨lo,hlo⟩ : ∃ lo,lo=if d<m then o-b else a:=⟨_,rfl⟩
 obtain⟨hi,hhi⟩ : ∃ hi,hi=if d<m then d else m:=⟨_,rfl⟩
 have w6:IntKind.i64.wrap ((o:Int)-1)=((o-1:Nat):Int):=by rw[wr (by omega) (by omega)];omega
 obtain⟨pp,hp⟩ : ∃ pp,pp=o-1:=⟨_,rfl⟩
 rw[<- hp]at w6
 refine .body (vf:=xv) Ez rfl rfl ?_
 rw[xw]
 show ak VS (.seq _ (.seq _ (.seq _ (.seq _ (.seq _ (.seq _ (.seq _ (.seq _ A5)))))))) _ _
 obtain⟨rows,hrows⟩ : ∃ rows,rows=P++(L++(R++S)):=⟨_,rfl⟩
 rw[<- hrows]at h hn hr
 have hda:a<d:=by omega
 have hdb:d<b:=by omega
 have rest2 : ∀ {s a13 a14 a15 a16 a32 L1 L2 R1 R2 H1},L=L1++L2 -> R=R1++R2 -> a+L1.length=s -> m+R1.length=o-s -> (∀ x∈L1, ∀ y∈R2,ky x <= ky y) -> (∀ x∈L2, ∀ y∈R1,ky y<ky x) -> H1=H.set x (.ar 11 (P++(L1++(R1++(L2++(R2++S))))) cap p false) -> ak VS A6 ⟨[.mu x n 0 n,.i .i64 (a:Int),.i .i64 (m:Int),.i .i64 (b:Int),.fn (.func g) [] [],.b false,.u,.u,.u,.b false,.u,.u,.u,a13,a14,a15,a16,.u,.u,.u,.u,.u,.u,.u,.u,.u,.u,.i .i64 (d:Int),.i .i64 (s:Int),.i .i64 (s:Int),.i .i64 (o:Int),.i .i64 (pp:Int),a32,.i .i64 ((o-s:Nat):Int)],H1⟩ (dh [] K):=by
  intro s a13 a14 a15 a16 a32 L1 L2 R1 R2 H1 f1 f2 f3 f4 k1 k2 hH1
  have l1:=gb List.length f1
  have l2:=gb List.length f2
  rw[Rp]at l1 l2
  have hLa:=gx.mp (f1▸hLs)
  have hRa:=gx.mp (f2▸hRs)
  obtain⟨q,hq⟩ : ∃ q,q=o-s:=⟨_,rfl⟩
  rw[<- hq]at f4
  rw[<- hq]
  have mem0 : ∀ {r},r∈P++(L1++(R1++(L2++(R2++S)))) -> gF 11 r:=by
   intro r hr'
   refine hr r ?_
   rw[hrows,f1,f2]
   simp only[bN]at hr' ⊢
   grind
  have rest3 : ∀ {a17 T1 H2},lV ky L1 R1 T1 -> H2=H.set x (.ar 11 (P++(T1++(L2++(R2++S)))) cap p false) -> ak VS GE ⟨[.mu x n 0 n,.i .i64 (a:Int),.i .i64 (m:Int),.i .i64 (b:Int),.fn (.func g) [] [],.b false,.u,.u,.u,.b false,.u,.u,.u,a13,a14,a15,a16,a17,.u,.u,.u,.u,.u,.u,.u,.u,.u,.i .i64 (d:Int),.i .i64 (s:Int),.i .i64 (s:Int),.i .i64 (o:Int),.i .i64 (pp:Int),a32,.i .i64 (q:Int)],H2⟩ (dh [] K):=by
   intro a17 T1 H2 t1 hH2
   have g2:H2[x]?=some (.ar 11 (P++(T1++(L2++(R2++S)))) cap p false):=by rw[hH2,N1 hx]
   have tl:=t1.len
   have fin : ∀ {T2},lV ky L2 R2 T2 -> K (.ret (.tu []) (H.set x (.ar 11 (P++(T1++(T2++S))) cap p false))):=by
    intro T2 t2
    have:=hK (T1++T2) (by rw[f1,f2];exact t1.join t2 (f1▸hLs) (f2▸hRs) k1 k2)
    simpa using this
   rw[rd GE]
   show ak VS (.seq _ _) _ _
   by_cases c1:d<q
   ·by_cases c2:q<b
    ·have c3:(d:Int)<(q:Int):=by omega
     have c4:(q:Int)<(b:Int):=by omega
     simp(disch:=omega) only[go_sem,simprocAttr,c3,c4]
     refine ih (L2.length+R2.length) (by omega) (P:=P++T1) (L:=L2) (R:=R2) (S:=S) (cap:=cap) (p:=p) (Hk _) (by rw[g2];simp) (by rw[<- hn,hrows,f1,f2];simp;omega) (fun r hr'=>mem0 ?_) (by simp;omega) (by omega) (by omega) (V2.mp (by omega)) (V2.mp (by omega)) hLa.2.1 hRa.2.1 hs (fun T2 t2 => ?_)
     ·have : ∀ {r},r∈T1 -> r∈L1 \/ r∈R1:=fun h=>t1.mem h
      simp only[bN]at hr' ⊢
      grind
     ·simp(disch:=omega) only[go_sem,simprocAttr]
      have:=fin t2
      rw[hH2,s0]
      simpa using this
    ·have c3:(d:Int)<(q:Int):=by omega
     have c4 : ¬ (q:Int)<(b:Int):=by omega
     simp(disch:=omega) only[go_sem,simprocAttr,c3,c4]
     rw[hH2]
     simpa using fin (.triv (.inr (k6.mp (by omega))) hLa.2.1 hRa.2.1)
   ·have c3 : ¬ (d:Int)<(q:Int):=by omega
    simp(disch:=omega) only[go_sem,simprocAttr,c3]
    rw[hH2]
    simpa using fin (.triv (.inl (k6.mp (by omega))) hLa.2.1 hRa.2.1)
  have g1:H1[x]?=some (.ar 11 (P++(L1++(R1++(L2++(R2++S))))) cap p false):=by rw[hH1,N1 hx]
  rw[rd A6]
  show ak VS (.seq _ GE) _ _
  by_cases c1:a<s
  ·by_cases c2:s<d
   ·have c3:(a:Int)<(s:Int):=by omega
    have c4:(s:Int)<(d:Int):=by omega
    simp(disch:=omega) only[go_sem,simprocAttr,c3,c4]
    refine ih (L1.length+R1.length) (by omega) (P:=P) (L:=L1) (R:=R1) (S:=L2++(R2++S)) (Hk _) g1 (by rw[<- hn,hrows,f1,f2];simp;omega) (fun r=>mem0) ha (by omega) (by omega) (V2.mp (by omega)) (V2.mp (by omega)) hLa.1 hRa.1 hs (fun T1 t1 => ?_)
    simp(disch:=omega) only[go_sem,simprocAttr]
    exact rest3 t1 (by rw[hH1,s0])
   ·have c3:(a:Int)<(s:Int):=by omega
    have c4 : ¬ (s:Int)<(d:Int):=by omega
    simp(disch:=omega) only[go_sem,simprocAttr,c3,c4]
    exact rest3 (.triv (.inr (k6.mp (by omega))) hLa.1 hRa.1) (by rw[hH1];simp)
  ·have c3 : ¬ (a:Int)<(s:Int):=by omega
   simp(disch:=omega) only[go_sem,simprocAttr,c3]
   exact rest3 (.triv (.inl (k6.mp (by omega))) hLa.1 hRa.1) (by rw[hH1];simp)
 have rest : ∀ {s a13 a14 a15 a32 L1 L2 R1 R2},L=L1++L2 -> R=R1++R2 -> a+L1.length=s -> m+R1.length=o-s -> (∀ x∈L1, ∀ y∈R2,ky x <= ky y) -> (∀ x∈L2, ∀ y∈R1,ky y<ky x) -> ak VS A5 ⟨[.mu x n 0 n,.i .i64 (a:Int),.i .i64 (m:Int),.i .i64 (b:Int),.fn (.func g) [] [],.b false,.u,.u,.u,.b false,.u,.u,.u,a13,a14,a15,.u,.u,.u,.u,.u,.u,.u,.u,.u,.u,.u,.i .i64 (d:Int),.i .i64 (s:Int),.i .i64 (s:Int),.i .i64 (o:Int),.i .i64 (pp:Int),a32,.u],H⟩ (dh [] K):=by
  intro s a13 a14 a15 a32 L1 L2 R1 R2 f1 f2 f3 f4 k1 k2
  have l1:=gb List.length f1
  have l2:=gb List.length f2
  rw[Rp]at l1 l2
  have w8:IntKind.i64.wrap ((o:Int)-(s:Int))=((o-s:Nat):Int):=by rw[wr (by omega) (by omega)];omega
  have r2:=fun{a16}=>rest2 (a13:=a13) (a14:=a14) (a15:=a15) (a16:=a16) (a32:=a32) f1 f2 f3 f4 k1 k2 rfl
  obtain⟨q,hq⟩ : ∃ q,q=o-s:=⟨_,rfl⟩
  rw[<- hq]at w8 f4 r2
  rw[rd A5]
  show ak VS (.seq _ (.seq _ A6)) _ _
  by_cases c1:s<m
  ·by_cases c2:m<q
   ·have c3:(s:Int)<(m:Int):=by omega
    have c4:(m:Int)<(q:Int):=by omega
    simp(disch:=omega) only[go_sem,simprocAttr,w8,c3,c4]
    refine anW (P:=P++L1) (U:=L2) (W:=R1) (S:=R2++S) (cap:=cap) (p:=p) (by rw[h,hrows,f1,f2];simp) (by rw[<- hn,hrows,f1,f2];simp) (fun r hr'=>hr r (by rw[hrows,f1,f2];simpa using hr')) (by simp;omega) (by omega) (by omega) (V2.mp (by omega)) (V2.mp (by omega)) hs ?_
    simp(disch:=omega) only[go_sem,simprocAttr]
    simpa using r2
   ·have c3:(s:Int)<(m:Int):=by omega
    have c4 : ¬ (m:Int)<(q:Int):=by omega
    have hR1:R1=[]:=k6.mp (by omega)
    have e0:H.set x (.ar 11 (P++(L1++(R1++(L2++(R2++S))))) cap p false)=H:=by
     refine lU ?_
     rw[h,hrows,f1,f2,hR1];simp
    rw[e0]at r2
    simp(disch:=omega) only[go_sem,simprocAttr,w8,c3,c4]
    exact r2
  ·have c3 : ¬ (s:Int)<(m:Int):=by omega
   have hL2:L2=[]:=k6.mp (by omega)
   have e0:H.set x (.ar 11 (P++(L1++(R1++(L2++(R2++S))))) cap p false)=H:=by
    refine lU ?_
    rw[h,hrows,f1,f2,hL2];simp
   rw[e0]at r2
   simp(disch:=omega) only[go_sem,simprocAttr,w8,c3]
   exact r2
 by_cases hdm:d<m
 ·have c2:(d:Int)<(m:Int):=by omega
  have hlo':=hlo
  have hhi':=hhi
  rw[G1 hdm]at hlo' hhi'
  have w7:IntKind.i64.wrap ((o:Int)-(b:Int))=(lo:Int):=by rw[wr (by omega) (by omega)];omega
  simp(disch:=omega) only[go_sem,simprocAttr,xw,w0,c0,w1,c1,w2,w3,e1,w4,w5,c2,w6,w7]
  rw[<- hhi']
  refine Uq hg hy h hn hr hs (by omega) (by omega) (by omega) (by omega) (fun s a14 a15 a32 h1 h2 h3 h4 => ?_) (by omega)
  obtain⟨L1,L2,R1,R2,e1,e2,e3,e4,k1,k2⟩:=Ur hrows ha hm hb hLp hRp (by omega) ho hp (by rw[hlo]) (by rw[hhi]) hLs hRs h1 h2 h3 h4
  simp only[go_sem]
  rw[hhi']
  exact rest e1 e2 e3 e4 k1 k2
 ·have c2 : ¬ (d:Int)<(m:Int):=by omega
  have hlo':=hlo
  have hhi':=hhi
  rw[E1 hdm]at hlo' hhi'
  simp(disch:=omega) only[go_sem,simprocAttr,xw,w0,c0,w1,c1,w2,w3,e1,w4,w5,c2,w6]
  rw[<- hhi', <- hlo']
  refine Uq hg hy h hn hr hs (by omega) (by omega) (by omega) (by omega) (fun s a14 a15 a32 h1 h2 h3 h4 => ?_) (by omega)
  obtain⟨L1,L2,R1,R2,e1,e2,e3,e4,k1,k2⟩:=Ur hrows ha hm hb hLp hRp (by omega) ho hp (by rw[hlo]) (by rw[hhi]) hLs hRs h1 h2 h3 h4
  simp only[go_sem]
  rw[hhi',hlo']
  exact rest e1 e2 e3 e4 k1 k2
end
section
open Go.Dm
set_option maxRecDepth 10000
def an3{v:List D->Int}{g:Nat}(c:rN v g)(d:g<4294967295){H:ab}{x n:Nat}{X:List (List D)}{cap:Option Nat}{p:Bool}(h:H[x]?=some (.ar 11 X cap p false))(G:X.length=n)(hr:∀r∈X,gF 11 r)(hs:n<40){K:CR->Prop}(w:∀T,Gz v X T->T.length=X.length->K (.ret (.tu []) (H.set x (.ar 11 T cap p false)))):ac VS 309 [.mu x n 0 n,.i .i64 (n:Int),.fn (.func g) [] []] H K:=by
 refine .body Q0 rfl rfl ?_;simp[go_sem,Xw];by_cases I:20<=n
 ·have f:(20:Int)<=n:=by omega
  have e:¬(40:Int)<=n:=by omega
  have j:IntKind.i64.wrap 40=40:=by decide
  have y:IntKind.i64.wrap 20=20:=by decide
  obtain⟨A,J⟩:∃A,A=X.take 20:=⟨_,rfl⟩;obtain⟨B,L⟩:∃B,B=X.drop 20:=⟨_,rfl⟩;have l:X=A++B:=by simp_all
  have M:A.length=20:=by grind
  have N:B.length=n-20:=by grind
  rw[bv];simp[go_sem,Lr,f];refine GB c d (P:=[]) (a:=0) (b:=20) (by rw[h,l];rfl) (by grind) (by grind) rfl (by omega) (by omega) (λo t1 z=>?_);simp[go_sem,simprocAttr,j];rw[bv];simp[go_sem,e];have C:∀r∈o++B,gF 11 r:=by
   intro r s;refine hr r ?_;rw[l];rcases bN.mp s with q|q;·exact TB _ (wZ t1.fil q)
   grind
  refine GB c d (P:=o) (S:=[]) (X:=B) (a:=20) (cap:=cap) (p:=p) (by grind) (by grind) (by grind) (by omega) (by omega) (by omega) (λE t Q=>?_);rw[s0,qq];simp[go_sem];rw[bv];by_cases U:n=20
  ·have c3:¬(20:Int)<(n:Int):=by omega
   simp[go_sem,BV,c3];grind
  have c3:(20:Int)<n:=by omega
  simp[go_sem,simprocAttr,BV,c3,j];rw[bv];simp[go_sem,aqt,e,y,c3];have fT:∀r∈o++E,gF 11 r:=by
   intro r s;refine C r ?_;rcases bN.mp s with q|q;·grind
   exact fd _ (wZ t.fil q)
  refine an2 c d n (P:=[]) (S:=[]) (a:=0) (m:=20) (cap:=cap) (p:=p) (by omega) (by grind) (by grind) (by grind) rfl (by omega) (by omega) (V2.mp (by omega)) (V2.mp (by omega)) t1.ord t.ord (by omega) (λT u=>?_);rw[s0,qq,W0];simp[go_sem,simprocAttr,j];rw[bv];have F:¬(40:Int)<n:=by omega
  simp[go_sem,F];have V:=u.len;refine w T ⟨u.ord,λk=>?_⟩ (by omega);rw[u.fil k,l,k7,k7,t1.fil k,t.fil k]
 have f:¬(20:Int)<=n:=by omega
 have e:¬(20:Int)<(n:Int):=by omega
 rw[bv];simp[go_sem,Lr,f];refine GB c d (P:=[]) (S:=[]) (by simpa using h) (by grind) (by grind) rfl (by grind) (by omega) (λT t1 z=>?_);simp[go_sem];rw[bv];simp[go_sem,BV,e];grind
end
section
open Go.Dm
set_option maxRecDepth 10000
structure FV where
 key:Nm
 frm:Int
 to:Int
 known:Int
 gone:Bool
 a:AV
 fl:a.c.all D.flat=true
 ok:gone=false->a.ok
 sp:frm<to
def FV.c(f:FV):List D:=[.s f.key,.i .i64 f.frm,.i .i64 f.to,.i .i64 f.known,.b f.gone,.i .u8 f.a.v.k,f.a.s,f.a.x,f.a.t,f.a.y,.i .i64 f.a.v.i]
def FV.n(f:FV):FN:=⟨f.key,f.frm,f.to,f.known,f.gone,if f.gone=true then default else f.a.v⟩
noncomputable instance:Inhabited FV:=⟨⟨[],0,1,0,false,Classical.choose (wm true),(fx (wm true)).2.al,λ_=>(fx (wm true)).2,by decide⟩⟩
def FV.flat4(f:FV):f.a.s.flat=true/\f.a.x.flat=true/\f.a.t.flat=true/\f.a.y.flat=true:=by have:=f.fl;grind[AV.c]
def FV.al(f:FV):f.c.all D.flat=true:=by obtain⟨a,b,c,d⟩:=f.flat4;simp_all[FV.c,nh,jR,cZ]
def FV.fzr(f:FV):gF 11 f.c:=⟨rfl,f.al,⟨f.known,rfl⟩⟩
def EW:List D->Int|_::_::_::.i _ n::_=>n|_=>0
variable{x y:List (List D)}
def Rv{w:Nat}{a:List (List D)}{x:D}(h:Sl w y x)(b:Sl w a x):y=a:=by cases h<;>cases b<;>first|grind
theorem EX:∀{l m:List Nat},l.map aJ=m.map aJ->l=m|[],[],_=>rfl|[],_::_,h=>by cases h|_::_,[],h=>by cases h|a::l,b::m,h=>by obtain⟨c,d⟩:=ABp h;simp[aJ,qo,D.i.injEq,and_true,true_and]at c;rw[EX d,show a=b by omega]
def VD.inj{v w:NV}{d:D}(h:VD v d)(c:VD w d):v=w:=by
 obtain⟨x,y,rfl,a,b⟩:=h.h;obtain⟨o,p,e,f,g⟩:=c.h;simp only[D.ag.injEq,qo,D.i.injEq,D.b.injEq,true_and,and_true]at e;obtain⟨q,r,rfl,rfl,s⟩:=e;have j:ds 65536 v.n.natAbs=ds 65536 w.n.natAbs:=by have:=Rv a.sl f.sl;grind[EX]
 have l:=EX (Rv b.sl g.sl);have t:=uN.1 j;have u:=uN.1 l;obtain⟨k,n,m,i⟩:=v;obtain⟨z,A,B,C⟩:=w;grind
def FV.n_of{f g:FV}(h:f.c=g.c):f.n=g.n:=by simp[FV.c,qo,D.s.injEq,D.i.injEq,D.b.injEq,true_and,and_true]at h;obtain⟨a,b,c,d,e,l,m,n,o,p,q⟩:=h;unfold FV.n;rw[a,b,c,d,e];cases i:g.gone with|true=>rfl|false=>
 have j:=f.ok (by grind);have k:=g.ok i;have d1:=j.d;have:AV.c f.a=AV.c g.a:=by grind[AV.c]
 rw[this]at d1;rw[VD.inj d1 k.d]
def Rx:∀{A B:List FN},A.Pairwise (λf g=>f.known<=g.known)->B.Pairwise (λf g=>f.known<=g.known)->(∀k,A.filter (λf=>decide (f.known=k))=B.filter (λf=>decide (f.known=k)))->A=B
 |[],[],_,_,_=>rfl|[],b::B,_,_,h=>by have:=h b.known;grind|a::A,[],_,_,h=>by have:=h a.known;grind|a::A,b::B,i,j,h=>by
  obtain⟨l,m⟩:=ey.1 i;obtain⟨n,o⟩:=ey.1 j;have p:a∈(b::B):=by have:a∈(a::A).filter (λf=>decide (f.known=a.known)):=n0.2 ⟨N2,by simp⟩;simp_all
  have q:b∈(a::A):=by have:b∈(b::B).filter (λf=>decide (f.known=b.known)):=n0.2 ⟨N2,by simp⟩;rw[<-h]at this;exact(n0.1 this).1
  have t:b.known<=a.known:=by
   rcases dA.1 p with e|e;·rw[e];exact sd _
   exact n a e
  have u:a.known<=b.known:=by
   rcases dA.1 q with e|e;·rw[e];exact sd _
   exact l b e
  have r:a.known=b.known:=by omega
  have d:=h a.known;rw[AAj (by simp),AAj (by simp[r])]at d;obtain⟨rfl,s⟩:=ABp d;rw[Rx m o λk=>?_];by_cases c:a.known=k;·subst c;exact s
  have:=h k;rwa[AAk (by simpa using c),AAk (by simpa using c)]at this
def gv(f:FN):List FN->List FN|[]=>[f]|g::l=>if f.known<=g.known then f::g::l else g::gv f l
def kH:List FN->List FN|[]=>[]|f::l=>gv f (kH l)
theorem EY{f g:FN}:∀{l:List FN},g∈gv f l->g=f\/g∈l
 |[],h=>.inl (kz.1 h)|u::l,h=>by
  unfold gv at h;split at h;·grind
  rcases dA.1 h with h|h;·grind
  rcases EY h with h|h;·exact .inl h
  exact .inr (K2 _ h)
def Ry{f:FN}:∀{l:List FN},l.Pairwise (λf g=>f.known<=g.known)->(gv f l).Pairwise (λf g=>f.known<=g.known)
 |[],_=>ABB _ _|u::l,h=>by
  obtain⟨d,a⟩:=ey.1 h;unfold gv;split;·rename_i b;exact ey.2 ⟨λg c=>by grind,h⟩
  rename_i b;exact ey.2 ⟨λg c=>by grind[EY],Ry a⟩
def Rz{f:FN}{k:Int}:∀{l:List FN},(gv f l).filter (λg=>decide (g.known=k))=(f::l).filter (λg=>decide (g.known=k))
 |[]=>rfl|u::l=>by
  unfold gv;split;·rfl
  rename_i a;rw[od,Rz,od,od,od];grind
def EZ:∀l:List FN,(kH l).Pairwise (λf g=>f.known<=g.known)|[]=>.nil|_::l=>Ry (EZ l)
def RA{k:Int}:∀l:List FN,(kH l).filter (λg=>decide (g.known=k))=l.filter (λg=>decide (g.known=k))|[]=>rfl|f::l=>by show(gv f _).filter _=_;rw[Rz,od,od,RA l]
def cL(F:List FN)(key:Nm)(a:Int):List FN:=kH (F.filter λf=>decide (f.key=key/\f.known<=a))
def RB{X:List FV}:∀{T:List (List D)},(∀r∈T,r∈X.map FV.c)->∃Y:List FV,Y.map FV.c=T|[],_=>⟨[],rfl⟩|r::T,h=>by obtain⟨f,_,a⟩:=f0.1 (h r N2);obtain⟨Y,b⟩:=RB λs hs=>h s (K2 _ hs);exact⟨f::Y,by grind⟩
def RC{Y:List FV}{k:Int}:(Y.map FV.c).filter (λr=>decide (EW r=k))=(Y.filter λf=>decide (f.known=k)).map FV.c:=by rw[AAK];rfl
theorem RD:∀{A B:List FV},A.map FV.c=B.map FV.c->A.map FV.n=B.map FV.n|[],[],_=>rfl|[],_::_,h=>by cases h|_::_,[],h=>by cases h|a::A,b::B,h=>by obtain⟨c,d⟩:=ABp h;rw[fA,fA,FV.n_of c,RD d]
def RE{Y:List FV}{k:Int}:(Y.map FV.n).filter (λf=>decide (f.known=k))=(Y.filter λf=>decide (f.known=k)).map FV.n:=by rw[AAK];rfl
def ah6{X:List FV}{T:List (List D)}(h:Gz EW (X.map FV.c) T):∃Y:List FV,Y.map FV.c=T/\Y.map FV.n=kH (X.map FV.n):=by
 obtain⟨Y,rfl⟩:=RB λr hr=>wZ h.fil hr;refine⟨Y,rfl,Rx ?_ (EZ _) λk=>?_⟩;·have:=h.ord;rw[ABF]at this⊢;exact this
 rw[RA,RE,RE];have:=h.fil k;rw[RC,RC]at this;grind[RD]
end
section
open Go.Dm
set_option maxRecDepth 10000
variable{x:List D}
def RG(h:gF 11 x):∃a b c n d e f g j c9 k,x=[a,b,c,.i .i64 n,d,e,f,g,j,c9,k]:=by obtain⟨n,l⟩:=h.i3;match x,h.len with|[a,b,c,c3,d,e,f,g,j,c9,k],_=>grind
def ah7:rN EW 304:=by
 intro r s hr hs;have a:=hr.fz;have fs:=hs.fz;obtain⟨d,e,f,n,g,h,i,j,k,c9,l,rfl⟩:=RG hr;obtain⟨o,p,q,m,t,u,v,w,x,y,z,rfl⟩:=RG hs;have b:=λ{H K}=>(Rm n m).c (H:=H) (K:=K) Ea rfl rfl (.inl rfl);refine⟨iO n m,?_,λ{H K}=>?_⟩
 ·show iO n m<0↔n<m;unfold iO;split;·omega
  split<;>omega
 refine ai.c (.body QZ rfl ?_) QZ rfl (by simp[AAn,AA9,AAo,cE,D0];exact⟨by simpa using a,by simpa using fs⟩) (.inl rfl);simp[go_sem,simprocAttr,aqp,b]
def ah8{x:D}{key:Nm}{known:Int}(a:x.cellsN 1=some [x]){K:CR->Prop}:ac VS 275 [x,.s key,.i .i64 known] [] K↔K (.ret (.fn (.func 302) [] [.hp 0 0,.hp 1 0,.hp 2 0]) [.hb 27 [x],.hb 9 [.s key],.hb 3 [.i .i64 known]]):=by refine cC (bI.iff_q.2 (.body aha rfl rfl ?_));simp[go_sem,ap6,a]
def lJ(key:Nm)(a:Int)(f:FV):Bool:=decide (f.key=key/\f.known<=a)
def my(key:Nm)(a:Int)(l:List FV)(i:Nat):List FV:=(l.take i).filter (lJ key a)
variable{y:Nat}
def ah9{key:Nm}{known:Int}{l:List FV}(h:y<l.length):my key known l (y+1)=my key known l y++(if lJ key known l[y]! =true then[l[y]!]else[]):=by unfold my;rw[pv,E2 h,K0 l y h,k7];grind
def aia{key:Nm}{known:Int}{l:List FV}{i:Nat}:(my key known l i).length<=i:=by grind[my]
variable{z:Int}
def aib{key:Nm}{l:List FV}:((l.filter (lJ key z)).map FV.n)=(l.map FV.n).filter λf=>decide (f.key=key/\f.known<=z):=by rw[AAK];rfl
structure TdI(y b:Nat)(H:ab)(T:List FV)(K:CR->Prop)(I:Nat->ab->Prop):Prop where z:I 0 (bH H 11 (T.map FV.c))a:∀i G,I i G->T≠[]->G[H.length]?=some (.ar 11 (T.map FV.c) none true false)r:∀i G,i<T.length->I i G->ac VS yF [.yl y,.ag T[i]!.c] G (λr=>∃G',r=.ret (.b true) G'/\I (i+1) G')k:∀d G,I T.length G->K (.ret d G)
def aid{H:ab}{K:CR->Prop}(h:K (.ret (.tu []) H)):ac VS 309 [.nil,.i .i64 0,.fn (.func 304) [] []] H K:=by
 refine .body Q0 rfl rfl ?_;simp[go_sem,Xw];rw[bv];simp[go_sem,Lr];have:ac VS 312 [.nil,.i .i64 0,.i .i64 0,.fn (.func 304) [] []] H (λr=>r=.ret (.tu []) H):=by
  refine .body Q1 rfl rfl ?_;simp[go_sem,Xz];rw[bv];have a:IntKind.i64.wrap 1=1:=by decide
  simp[go_sem,simprocAttr,BX,a]
 refine this.mono λr hr=>?_;subst hr;simp[go_sem];rw[bv];simp[go_sem,simprocAttr,BV];exact h
theorem tV{H:ab}{w:Nat}{rows:List (List D)}{j:Nat}(h:j<H.length):(bH H w rows)[j]?=H[j]?:=by cases rows with|nil=>rfl|cons r a=>exact X0 h
def aie{H:ab}{X:List FV}(hs:X.length<40){K:CR->Prop}(c:∀T:List FV,T.map FV.n=kH (X.map FV.n)->T.length=X.length->K (.ret (.tu []) (bH H 11 (T.map FV.c)))):ac VS 303 [bD H .nil (X.map FV.c),.fn (.func 304) [] []] (bH H 11 (X.map FV.c)) K:=by
 by_cases a:X=[];·subst a;have b:ac VS 309 [.nil,.i .i64 0,.fn _ [] []] H (λr=>r=.ret _ H):=aid rfl;have d:=c [] rfl rfl;refine .body QY rfl rfl ?_;show ak VS _ ⟨[.nil,.fn _ [] []],H⟩ _;simp[go_sem,Xs];refine b.mono λr hr=>?_;subst hr;simp[go_sem];exact d
 obtain⟨g1,g⟩:=lG (H0:=H) (w:=11) (enc:=FV.c) a;rw[g1,g];have b:=an3 ah7 (by decide) (H:=H++[.ar 11 (X.map FV.c) none true false]) (x:=H.length) (X:=X.map FV.c) (cap:=none) (p:=true) (by simp) (by simp) (λr hr=>by obtain⟨f,_,rfl⟩:=f0.1 hr;exact f.fzr) hs (K:=λr=>∃T:List FV,T.map FV.n=kH (X.map FV.n)/\T.length=X.length/\r=.ret (.tu []) (bH H 11 (T.map FV.c))) (λT h j=>by obtain⟨Y,rfl,k⟩:=ah6 h;have l:Y≠[]:=λe=>a (k6.1 (by grind));grind[lG]);refine .body QY rfl rfl ?_;simp[go_sem,simprocAttr,Xs];refine b.mono λr hr=>?_;obtain⟨T,t1,t2,rfl⟩:=hr;simp[go_sem];grind
def aif{l:List FV}{x:D}(L:Sl 11 (l.map FV.c) x)(hl:l.length<40){y b:Nat}{key:Nm}{H:ab}(b0:H[b]?=some (.hb 27 [x]))(M:H[b+1]?=some (.hb 9 [.s key]))(N:H[b+2]?=some (.hb 3 [.i .i64 z])){K:CR->Prop}(hK:∀T:List FV,T.map FV.n=cL (l.map FV.n) key z->T.length<=l.length->∃I,TdI y b H T K I):ac VS 302 [.yl y,.hp b 0,.hp (b+1) 0,.hp (b+2) 0] H K:=by
 have hn:=λ{H:ab}=>L.n (H:=H);have E:=λ{V dr os keep ai sl Q al H H' k x'}=>L.q (V:=V) (dr:=dr) (os:=os) (keep:=keep) (loc:=ai) (sl:=sl) (Q:=Q) (sl':=al) (H:=H) (H':=H') (k:=k) (x:=x');refine .body (vf:=BU) ahj rfl rfl ?_;simp(disch:=omega)only[go_sem,simprocAttr,aqo,b0,hn];refine ak.up (λi s=>∃(d g h m n P S U o:D),s=⟨[.yl y,.hp b 0,.hp (b+1) 0,.hp (b+2) 0,d,g,h,m,bD H .nil ((my key z l i).map FV.c),.i .i64 i,.i .i64 l.length,x,n,P,S,U,o],bH H 11 ((my key z l i).map FV.c)⟩) l.length ⟨_,_,_,_,_,_,_,_,_,rfl⟩ ?_;rintro i s hi⟨d,g,h,m,n,P,S,U,o,rfl⟩;by_cases v:i<l.length
 ·have a:(i:Int)<(l.length:Int):=by omega
  have c3:(0:Int)<=(i:Int):=by omega
  have p:IntKind.i64.wrap ((i:Int)+1)=((i+1:Nat):Int):=by rw[wr (by omega) (by omega)];omega
  have c:=ah9 (key:=key) (known:=z) v;have W:=aia (key:=key) (known:=z) (l:=l) (i:=i);obtain⟨f,A⟩:∃f,f=l[i]!:=⟨_,rfl⟩;rw[<-A]at c;obtain⟨acc,ao⟩:∃acc,acc=my key z l i:=⟨_,rfl⟩;rw[<-ao]at c W⊢;have g1:(bH H 11 (acc.map FV.c))[b+1]?=some (.hb 9 [.s key]):=by rw[tV (aw M)];exact M
  have X:(bH H 11 (acc.map FV.c))[b+2]?=some (.hb 3 [.i .i64 z]):=by rw[tV (aw N)];exact N
  obtain⟨f1,f2,f3,f4⟩:=f.flat4;have Y:=nz (H0:=H) (w:=11) (bytes:=128) (r:=f.c) (enc:=FV.c) (l:=acc) (by omega) (by omega);simp only[FV.c]at Y;by_cases q:f.key=key
  ·by_cases B:f.known<=z;·have t:lJ key z f=true:=R2 ⟨q,B⟩;rw[G1 t]at c;have F:(f.key=key)↔True:=iff_of_true q trivial;simp(disch:=omega)only[go_sem,simprocAttr,BT,E,a,c3,da,<-A,FV.c,g1,X,F,B,Y,f1,f2,f3,f4,p];rw[c,hI];exact⟨v,rfl,rfl⟩
   have t:¬lJ key z f=true:=by unfold lJ;simp[B]
   rw[E1 t,qq]at c;have F:(f.key=key)↔True:=iff_of_true q trivial;simp(disch:=omega)only[go_sem,simprocAttr,BT,E,a,c3,da,<-A,FV.c,g1,X,F,B,p];rw[c];exact⟨v,rfl,rfl⟩
  have t:¬lJ key z f=true:=by unfold lJ;simp[q]
  rw[E1 t,qq]at c;simp(disch:=omega)only[go_sem,simprocAttr,BT,E,a,c3,da,<-A,FV.c,g1,q,p];rw[c];exact⟨v,rfl,rfl⟩
 have a:¬(i:Int)<(l.length:Int):=by omega
 have av:i=l.length:=by omega
 have ax:my key z l i=l.filter (lJ key z):=by unfold my;rw[av,ph]
 rw[ax];have W:(l.filter (lJ key z)).length<=l.length:=ABR _ _;simp(disch:=omega)only[go_sem,simprocAttr,BT,a];refine aie (by omega) λT t1 t2=>?_;obtain⟨I,C⟩:=hK T (by rw[t1,aib];rfl) (by omega);have hz:=C.z;have a0:bD H .nil ((l.filter (lJ key z)).map FV.c)=bD H .nil (T.map FV.c):=tK (by simp[t2]);rw[a0];simp(disch:=omega)only[go_sem,simprocAttr];refine ak.up (λi s=>∃(d g h m Z aa ad n o:D)(G:ab),I i G/\s=⟨[.yl y,.hp b 0,.hp (b+1) 0,.hp (b+2) 0,d,g,h,m,bD H .nil (T.map FV.c),Z,aa,ad,n,.i .i64 i,.i .i64 T.length,bD H .nil (T.map FV.c),o],G⟩) T.length ⟨_,_,_,_,_,_,_,_,_,_,hz,rfl⟩ ?_;rintro j s hj⟨d,g,h,m,Z,aa,ad,n,o,G,J,rfl⟩;by_cases u:j<T.length
 ·have a:(j:Int)<(T.length:Int):=by omega
  have c3:(0:Int)<=(j:Int):=by omega
  have p:IntKind.i64.wrap ((j:Int)+1)=((j+1:Nat):Int):=by rw[wr (by omega) (by omega)];omega
  have ae:T≠[]:=λe=>by rw[e]at u;simp at u
  have a1:=C.a j G J ae;have hr:=C.r j G u J;rw[(lG (H0:=H) (w:=11) (enc:=FV.c) ae).2];simp only[FV.c]at hr;simp(disch:=omega)only[go_sem,simprocAttr,Xr,a,c3,a1,da,FV.c];refine⟨u,hr.mono λr hr=>?_⟩;obtain⟨G',rfl,a3⟩:=hr;simp(disch:=omega)only[go_sem,simprocAttr,p];exact⟨u,_,_,_,_,_,_,_,_,_,G',a3,⟨rfl,rfl,rfl,rfl,rfl,rfl,rfl,rfl,rfl⟩,rfl⟩
 have a:¬(j:Int)<(T.length:Int):=by omega
 have a4:j=T.length:=by omega
 subst a4;simp(disch:=omega)only[go_sem,simprocAttr,Xr,a];exact C.k _ _ J
def wq{G:ab}{b:an}:(G++[b])[G.length]?=some b:=by simp
def tW{G:ab}{b:an}{c:an}(h:G[y]?=some c):(G++[b])[y]?=some c:=by grind
def E0{X:ab}{a k w bytes:Nat}{rows:List (List D)}(h:X[a]?=some (.ar w rows none true false))(b:rows.length=k)(f:x.all D.flat=true)(hr:(k+1)*bytes<=140737488355328)(g:k<140737488355328):bu X (.mu a k 0 k) (.sv w [x]) w bytes true=some (.mu a (k+1) 0 (k+1),X.set a (.ar w (rows++[x]) none true false)):=by
 have c:ja X [x]=some _:=nj _ (by grind);have d:aK X a k=some (w,rows,none,true,false):=by simp[Dm.aK,h,b]
 have e:eI (k+1) bytes=true:=by grind[eI]
 simp only[bu,eZ,if_true,c,fe,kq,d,i4,Hk,and_self,n3,e,iB];grind
def tc{X:ab}{w bytes:Nat}(a:x.all D.flat=true)(hr:bytes<=140737488355328):bu X .nil (.sv w [x]) w bytes true=some (.mu X.length 1 0 1,X++[.ar w [x] none true false]):=by have b:ja X [x]=some _:=nj _ (by grind);grind[eI,bu,eZ,fe,iA]
structure E5(T:List FV)(k:Nat)(G:ab):Prop where y:∃x,G[5]?=some (.yh r4.f r4.path 4 r4.nt r4.tm x .rd)/\x.length=7/\x[5]?=some (.hp 3 0)l:T≠[]->G[6]?=some (.ar 11 (T.map FV.c) none true false)c:(k=0/\G[3]?=some (.hb 27 [.nil]))\/(0<k/\∃a,6<a/\G[3]?=some (.hb 27 [.mu a k 0 k])/\G[a]?=some (.ar 11 ((T.take k).map FV.c) none true false))n:6<=G.length/\(T≠[]->7<=G.length)
def aig{T:List FV}(Z:T.length<40){k:Nat}{G:ab}(m:k<T.length)(h:E5 T k G):ac VS yF [.yl 5,.ag T[k]!.c] G (λr=>∃y,r=.ret (.b true) y/\E5 T (k+1) y):=by obtain⟨⟨x,z,J,p⟩,K,L,hn⟩:=h;obtain⟨f,A⟩:∃f,f=T[k]!:=⟨_,rfl⟩;rw[<-A];match x,J,p with
 |[M,N,P,Q,S,x5,U],_,p=>
 have:=kb p;subst this;refine ac.round tR z Q5 ⟨rfl,rfl,rfl,rfl,rfl⟩ ?_;have B:=f.al;simp only[go_sem,aqm,gl,FV.c,wq];obtain⟨n,g⟩:∃n,n=G++[an.hb 36 f.c]:=⟨_,rfl⟩;have z1:=tW (b:=.hb 36 f.c) z;have z2:n[G.length]?=some (.hb 36 f.c):=by rw[g];exact wq
 rw[<-g]at z1;simp[FV.c]at g z2;rw[<-g];have z5:=aw z1;refine⟨_,_,_,_,_,_,z1,?_⟩;obtain⟨Y,q⟩:∃Y,Y=an.yh r4.f r4.path 4 r4.nt r4.tm [M,N,P,Q,S,D.hp 3 0,U] RS.bz:=⟨_,rfl⟩;rw[<-q];obtain⟨d,j⟩:∃d,d=n.set 5 Y:=⟨_,rfl⟩;have ae:d.length=G.length+1:=by rw[j,eh,g];simp
 have C:d[5]?=some Y:=by rw[j,N1 z5]
 have E:d[G.length]?=some (.hb 36 [.s f.key,.i .i64 f.frm,.i .i64 f.to,.i .i64 f.known,.b f.gone,.i .u8 f.a.v.k,f.a.s,f.a.x,f.a.t,f.a.y,.i .i64 f.a.v.i]):=by rw[j,Hy (by omega)];exact z2
 have o:∀{i:Nat}{c:an},i≠5->G[i]?=some c->d[i]?=some c:=λ{i c}hi h=>by rw[j,Hy (AAN hi),g];exact tW h
 have F:=λh=>o (by omega) (K h);have H:T.take (k+1)=T.take k++[f]:=by rw[pv,E2 m,A,K0 T k m];rfl
 rw[<-j];rcases L with⟨t,u⟩|⟨t,a,V,u,W⟩
 ·have v:=o (by omega) u;have l:=tc (X:=d) (w:=11) (bytes:=128) B (by decide);simp[FV.c]at l;simp only[go_sem,simprocAttr,v,E,l,tW];have af:T≠[]:=λe=>by rw[e]at m;simp at m
  refine⟨_,_,_,_,_,_,by rw[Hy (by omega),tW C,q],?_,λh=>?_,.inr ⟨by omega,d.length,by omega,?_,?_⟩,?_⟩;·exact⟨_,N1 (by simp;omega),rfl,rfl⟩
  ·rw[Hy (by omega),Hy (by omega)];exact tW (F h)
  ·rw[Hy (by omega),N1 (by simp;omega),t]
  ·rw[Hy (by omega),Hy (by omega),wq,H,t];rfl
  simp;omega
 have v:=o (by omega) u;have I:=o (by omega) W;have l:=E0 (bytes:=128) (k:=k) I (by simp;omega) B (by omega) (by omega);simp only[FV.c]at l;have la:=aw I;simp(disch:=omega)only[go_sem,simprocAttr,v,E,l,Hy];refine⟨_,_,_,_,_,_,C.trans (by rw[q]),?_,λh=>?_,.inr ⟨by omega,a,V,?_,?_⟩,?_⟩;·exact⟨_,N1 (by simp;omega),rfl,rfl⟩
 ·rw[Hy (by omega),Hy (by omega),Hy (by omega)];exact F h
 ·rw[Hy (by omega),N1 (by simp;omega)]
 ·rw[Hy (by omega),Hy (by omega),N1 (by omega),H,hI];rfl
 simp;omega
def aih{base:Nat}{H:ab}{w:Nat}{rows:List (List D)}{cap:Option Nat}{p lk:Bool}(h:H[y]?=some (.ar w rows cap p lk)):(dJ base H)[y]?=some (.ar w rows cap p lk):=by grind[dJ,aw]
def RH(l:List FV)(key:Nm)(b:Int)(r:CR):Prop:=∃(T:List FV)(G:ab)(d:D),r=.ret d G/\T.map FV.n=cL (l.map FV.n) key b/\T.length<=l.length/\((T=[]/\d=.nil)\/∃a,d=.mu a T.length 0 T.length/\G[a]?=some (.ar 11 (T.map FV.c) none true false))
def aii{l:List FV}{x:D}(g:Sl 11 (l.map FV.c) x)(j:l.length<40){key:Nm}:ac VS 274 [.fn (.func 302) [] [.hp 0 0,.hp 1 0,.hp 2 0]] [.hb 27 [x],.hb 9 [.s key],.hb 3 [.i .i64 z]] (RH l key z):=by
 refine .body ag9 rfl rfl ?_;simp[go_sem,ap5];have k:ac VS 301 [.nil,.fn (.func 302) [] [.hp 0 0,.hp 1 0,.hp 2 0]] [.hb 27 [x],.hb 9 [.s key],.hb 3 [.i .i64 z]] (RH l key z):=by
  refine .bodyR ahi rfl rfl rfl ?_;simp[go_sem,simprocAttr,aqn];rw[vW Q5 rfl (by decide)];refine aif g j rfl rfl rfl λT t1 e=>⟨E5 T,⟨?_,λi G h b=>h.l b,λi G hi h=>aig (by omega) hi h,λd G h=>?_⟩⟩
  ·have m:∀rows,(bH ([an.hb 27 [x],an.hb 9 [D.s key],an.hb 3 [D.i IntKind.i64 z],an.hb 27 [D.nil]]++[an.df,an.yh r4.f r4.path 4 r4.nt r4.tm [D.nil,D.fn (Fn.func 302) [] [D.hp 0 0,D.hp 1 0,D.hp 2 0],D.nil,D.fn (Fn.func 302) [] [D.hp 0 0,D.hp 1 0,D.hp 2 0],D.u,D.hp 3 0,D.u] RS.rd]) 11 rows)[5]?=some (an.yh r4.f r4.path 4 r4.nt r4.tm [D.nil,D.fn (Fn.func 302) [] [D.hp 0 0,D.hp 1 0,D.hp 2 0],D.nil,D.fn (Fn.func 302) [] [D.hp 0 0,D.hp 1 0,D.hp 2 0],D.u,D.hp 3 0,D.u] RS.rd):=λrows=>by grind[tV]
   refine⟨⟨_,m _,rfl,rfl⟩,λb=>?_,.inl ⟨rfl,?_⟩,?_,λb=>?_⟩;·rw[(lG b).1];rfl
   ·rw[tV (by simp)];rfl
   ·cases T.map FV.c<;>simp[bH]
   rw[(lG b).1];simp
  obtain⟨⟨t,n,u,v⟩,g1,o,w⟩:=h;show nA _ 5 _ _;rw[tL n];rcases o with⟨f,p⟩|⟨f,a,y,p,A⟩
  ·have c:(G.set 5 an.no)[3]?=some (.hb 27 [.nil]):=by grind
   have b:=k6.1 f;simp[go_sem,c];exact⟨T,_,_,rfl,t1,e,.inl ⟨b,rfl⟩⟩
  have c:(G.set 5 an.no)[3]?=some (.hb 27 [.mu a T.length 0 T.length]):=by grind
  have q:(G.set 5 an.no)[a]?=some (.ar 11 (T.map FV.c) none true false):=by grind
  simp[go_sem,c];exact⟨T,_,_,rfl,t1,e,.inr ⟨a,rfl,aih q⟩⟩
 refine k.mono λr hr=>?_;obtain⟨T,G,d,rfl,h1,h2,h3⟩:=hr;simp[go_sem];exact⟨T,G,d,rfl,h1,h2,h3⟩
end
section
open Go.Dm
set_option maxRecDepth 10000
theorem Gi(x:Int):∀l:List Int,(kQ x l).Perm (x::l)
 |[]=>.refl _|y::l=>by
  unfold kQ;split;·grind
  exact((Gi x l).cons y).trans (List.Perm.swap x y l)
def rH:∀l:List Int,(cG l).Perm l|[]=>.refl _|x::l=>(Gi x (cG l)).trans ((rH l).cons x)
def TY(x:Int):∀{l:List Int},l.Pairwise (·<=·)->(kQ x l).Pairwise (·<=·)
 |[],_=>by simp[kQ]|y::l,h=>by
  unfold kQ;have a:=ey.1 h;split;·rename_i b;refine ey.2 ⟨λz c=>?_,h⟩;grind
  rename_i b;refine ey.2 ⟨λz c=>?_,TY x a.2⟩;grind[Gi]
def wU:∀l:List Int,(cG l).Pairwise (·<=·)|[]=>.nil|x::l=>TY x (wU l)
def amS(l:List Int):(l.mergeSort λx y=>decide (x<=y))=cG l:=by refine ACB (le:=λx y=>x<=y) (λa b _ _ d e=>Int.le_antisymm d e) ?_ (wU l) ((List.mergeSort_perm l _).trans (rH l).symm);have:=List.pairwise_mergeSort (le:=λx y=>decide (x<=y)) (λa b c d e=>by grind) (λa b=>by grind) l;grind
theorem nT(l:List Int):(cG l).length=l.length:=(rH l).length_eq
def amT{l m:List Int}(h:l.Perm m):cG l=cG m:=ACB (λa b _ _ c d=>Int.le_antisymm c d) (wU l) (wU m) ((rH l).trans (h.trans (rH m).symm))
def amU(x:Int)(l:List Int):bZ (x::l)≠[]:=by grind[bZ]
def TZ:∀(l:List Int)(z:Int),bZ (l++[z])=bZ l++(if l.getLast?=some z then[]else[z])|[],z=>by simp[bZ]|[x],z=>by grind[bZ]|x::y::t,z=>by have b:=TZ (y::t) z;have c:bZ (x::y::t++[z])=match bZ (y::t++[z])with|[]=>[x]|a::r=>if x=a then a::r else x::a::r:=rfl;have d:bZ (x::y::t)=match bZ _ with|[]=>[x]|a::r=>if x=a then a::r else x::a::r:=rfl;rw[c,d,b,show(x::y::t).getLast?=(y::t).getLast? from by simp];cases e:bZ _ with|nil=>exact absurd e (amU y t)|cons a r=>simp[T1];split<;>simp
theorem wV:∀l:List Int,(bZ l).length<=l.length|[]=>Hk _|x::l=>by have:=wV l;grind[bZ]
def Gj{x:Int}:∀{l:List Int},x∈bZ l↔x∈l|[]=>dG|y::l=>by have a:=Gj (x:=x) (l:=l);grind[bZ]
def T0:∀{l:List Int},l.Pairwise (·<=·)->(bZ l).Pairwise (·<·)|[],_=>.nil|y::l,h=>by obtain⟨d,f⟩:=ey.1 h;have b:=T0 f;have e:bZ (y::l)=match bZ l with|[]=>[y]|a::r=>if y=a then a::r else y::a::r:=rfl;rw[e];cases g:bZ l with|nil=>grind|cons a r=>
 rw[g]at b;simp;split;·exact b
 rename_i j;refine ey.2 ⟨λz c=>?_,b⟩;have i:a∈l:=Gj.1 (by grind);have k:=d a i;rcases dA.1 c with rfl|c;·omega
 have:=(ey.1 b).1 z c;omega
def AU(l:List Int):(bZ (cG l)).Pairwise (·<·):=T0 (wU l)
def Gk{x:Int}{l:List Int}:x∈bZ (cG l)↔x∈l:=Gj.trans (rH l).mem_iff
end
section
open Go.Dm
set_option maxRecDepth 10000
def zU(y:Nat):Bool:=decide (y%4=0)&&(!decide (y%100=0)||decide (y%400=0))
def EB{a b:Nat}:((a:Int).tmod (b:Int))=((a%b:Nat):Int):=by grind
def EC{a b:Nat}:((a:Int).tdiv (b:Int))=((a/b:Nat):Int):=by grind
def ahs{y:Nat}:ai VS 246 [.i .i64 (y:Int)] (.b (zU y)):=by
 have t1:((y:Int).tmod 4)=((y%4:Nat)):=EB;have c:((y:Int).tmod 100)=((y%100:Nat)):=EB;have e:((y:Int).tmod 400)=((y%400:Nat)):=EB;unfold zU;refine .body Qz rfl ?_;by_cases a:y%4=0
 ·by_cases d:y%100=0
  ·by_cases f:y%400=0;·simp only[go_sem,simprocAttr,BK,t1,c,e,a,d,f];try rfl
   have c3:¬((y%400:Nat):Int)=0:=by omega
   simp only[go_sem,simprocAttr,BK,t1,c,e,a,d,f,c3];try rfl
  have g:¬((y%100:Nat):Int)=0:=by omega
  simp only[go_sem,simprocAttr,BK,t1,c,a,d,g];try rfl
 have h:¬((y%4:Nat):Int)=0:=by omega
 simp only[go_sem,simprocAttr,BK,t1,a,h];try rfl
def nF(y m:Nat):Nat:=if m=2&&zU y then 29 else[31,28,31,30,31,30,31,31,30,31,30,31][m-1]!
theorem Q6{y m:Nat}:nF y m<=31:=by
 unfold nF;split;·omega
 by_cases h:m-1<12
 ·have:m-1=0\/m-1=1\/m-1=2\/m-1=3\/m-1=4\/m-1=5\/m-1=6\/m-1=7\/m-1=8\/m-1=9\/m-1=10\/m-1=11:=by omega
  rcases this with h|h|h|h|h|h|h|h|h|h|h|h<;>(simp_all)
 simp_all
def aht{m:Nat}(h:m<12):mX (VS.glob 1) (.i .i64 (m:Int)) 12 1=some (.ip [.i .i64 (([31,28,31,30,31,30,31,31,30,31,30,31][m]!:Nat):Int)]):=by
 have:m=0\/m=1\/m=2\/m=3\/m=4\/m=5\/m=6\/m=7\/m=8\/m=9\/m=10\/m=11:=by omega
 rcases this with rfl|rfl|rfl|rfl|rfl|rfl|rfl|rfl|rfl|rfl|rfl|rfl<;>rfl
def Q7{y m:Nat}(l:1<=m/\m<=12):ai VS 200 [.i .i64 (y:Int),.i .i64 (m:Int)] (.i .i64 (nF y m:Int)):=by
 have a:=λ{H K}=>(ahs (y:=y)).c (H:=H) (K:=K) Qz rfl rfl (.inl rfl);have e:¬(m:Int)<1:=by omega
 have f:¬12<(m:Int):=by omega
 have h:IntKind.i64.wrap (m-1)=((m-1:Nat)):=by rw[wr (by omega) (by omega)];omega
 have g:=aht (m:=m-1) (by omega);refine .body Em rfl ?_;unfold nF;by_cases b:m=2
 ·subst b;cases d:zU y
  ·have j:IntKind.i64.wrap 1=1:=by decide
   have k:mX (VS.glob 1) (.i .i64 1) 12 1=some (.ip [.i .i64 28]):=rfl;simp only[go_sem,simprocAttr,JJ,a,d,j,k];rfl
  simp[go_sem,simprocAttr,JJ,a,d];try rfl
 have c3:¬(m:Int)=2:=by omega
 simp only[go_sem,JJ,e,f,c3,h,g];simp[b]
def jS(y:Nat):Int:=(y/4:Nat)-(y/100:Nat)+(y/400:Nat)
def Q8{y:Nat}(l:y<100000):ai VS 199 [.i .i64 (y:Int)] (.i .i64 (jS y)):=by have t1:((y:Int).tdiv 4)=((y/4:Nat)):=EC;have c:((y:Int).tdiv 100)=((y/100:Nat)):=EC;have d:((y:Int).tdiv 400)=((y/400:Nat)):=EC;have b:∀{a:Nat},a<100000->IntKind.i64.wrap _=a:=λh=>wr (by omega) (by omega);have e:IntKind.i64.wrap _=((y/4:Nat))-((y/100:Nat)):=wr (by omega) (by omega);have f:IntKind.i64.wrap _=((y/4:Nat))-((y/100:Nat))+((y/400:Nat)):=wr (by omega) (by omega);have g:=b (a:=y/4) (by omega);have j:=b (a:=y/100) (by omega);have k:=b (a:=y/400) (by omega);refine .body El rfl ?_;simp only[go_sem,simprocAttr,apw,t1,c,d,e,f,g,j,k];rfl
def nH(y k:Nat):Nat:=match k with|0=>0|k+1=>nH y k+nF y (k+1)
theorem ED{y:Nat}:∀{k:Nat},nH y k<=31*k|0=>Hk _|k+1=>by have:=ED (y:=y) (k:=k);grind[Q6,nH]
def bM(m:Nat):Int:=365*((m/12:Nat):Int)+jS (1899+m/12)-jS 1899+nH (1900+m/12) (m%12)
def zV{m:Nat}(a:m<10000):-100000<bM m/\bM m<1000000:=by grind[ED,bM,jS]
def rh{m:Nat}(N:m<10000):ai VS 165 [.i .i64 (m:Int)] (.i .i64 (bM m)):=by
 obtain⟨q,g⟩:∃q,q=m/12:=⟨_,rfl⟩;obtain⟨Y,j⟩:∃Y,Y=1900+q:=⟨_,rfl⟩;obtain⟨X,o⟩:∃X,X=1899+q:=⟨_,rfl⟩;obtain⟨r,hr⟩:∃r,r=m%12:=⟨_,rfl⟩;have t1:((m:Int).tdiv 12)=q:=by grind
 have a:((m:Int).tmod 12)=r:=by grind
 have p:=λ{H K}=>(Q8 (y:=X) (by omega)).c (H:=H) (K:=K) El rfl rfl (.inl rfl);have t:∀{H K},ac VS 199 [.i .i64 1899] H K↔K _:=λ{H K}=>(Q8 (y:=1899) (by omega)).c El rfl rfl (.inl rfl);have v:IntKind.i64.wrap _=q:=wr (by omega) (by omega);have w:IntKind.i64.wrap (1900+q)=Y:=by grind[wr]
 have x:IntKind.i64.wrap (Y-1)=X:=by grind[wr]
 have A:IntKind.i64.wrap (Y-1900)=q:=by grind
 have B:IntKind.i64.wrap _=365*q:=wr (by omega) (by omega);have C:IntKind.i64.wrap (365*q+jS X)=365*q+jS X:=by grind[jS,wr]
 obtain⟨b,E⟩:∃b,b=365*q+jS X-jS 1899:=⟨_,rfl⟩;have F:IntKind.i64.wrap (365*q+jS X-jS 1899)=b:=by grind[jS,wr]
 have P:-100000<b/\b<900000:=by grind[jS]
 have Q:bM m=b+nH Y r:=by rw[E,j,hr,o,g];rfl
 refine .body o6 rfl ?_;simp[go_sem,simprocAttr,ape,t1,v,w,x,A,B,C,F,p,t];refine ak.up (λi s=>∃d e n z,n=b+nH Y i/\z=(i:Int)+1/\s=⟨[.i .i64 _,d,e,.i .i64 Y,.i .i64 n,.i .i64 z],[]⟩) r ⟨.i .i64 0,.u,b,1,by simp[nH],by simp,rfl⟩ ?_;rintro i s hi⟨d,e,n,z,S,U,rfl⟩;have V:=ED (y:=Y) (k:=i);have G:=Q6 (y:=Y) (m:=i+1);have I:nH Y (i+1)=nH Y i+nF Y _:=rfl;have f:∀{H K},i+1<=12->(ac VS 200 [.i .i64 Y,.i .i64 z] H K↔K (.ret (.i .i64 (nF Y (i+1))) H)):=λ{H K}h=>by have:=(Q7 (y:=Y) ⟨by omega,h⟩).c (H:=H) (K:=K) Em rfl rfl (.inl rfl);grind
 obtain⟨l,J⟩:∃l,l=nF Y (i+1):=⟨_,rfl⟩;rw[<-J]at f G I;have g1:IntKind.i64.wrap _=n+l:=wr (by omega) (by omega);have L:IntKind.i64.wrap _=z+1:=wr (by omega) (by omega);by_cases W:i<r
 ·have c:z<=(r:Int):=by omega
  have M:=λ{H K}=>f (H:=H) (K:=K) (by omega);simp only[go_sem,simprocAttr,V9,a,c,M,g1,L];omega
 have c:¬z<=(r:Int):=by omega
 simp[go_sem,simprocAttr,V9,a,c];grind
def o9{n g:Nat}{cp:List D}{p:Nat->Bool}{H:ab}(M:n<4611686018427387904)(w:g<4294967295)(z:∀i,i<n->∀{K:CR->Prop},ac VS g (.i .i64 (i:Int)::cp) H K↔K (.ret (.b (p i)) H)):ac VS 76 [.i .i64 (n:Int),.fn (.func g) [] cp] H (λr=>∃k:Nat,r=.ret (.i .i64 (k:Int)) H/\k<=n/\(k<n->p k=true)/\(0<k->p (k-1)=false)):=by
 refine .body PO rfl rfl ?_;simp[go_sem,Vu];refine ak.loop (λm s=>∃i j:Nat,∃d e f x y,m=j-i/\x=(i:Int)/\y=(j:Int)/\i<=j/\j<=n/\(j<n->p j=true)/\(0<i->p (i-1)=false)/\s=⟨[.i .i64 _,.fn _ [] cp,.i .i64 0,d,e,.i .i64 x,.i .i64 y,f],H⟩) n ⟨0,n,.u,.u,.u,0,n,rfl,rfl,rfl,AAs _,Hk _,λh=>absurd h (AAp _),λh=>absurd h (AAp _),rfl⟩ ?_;rintro m s⟨i,j,d,e,f,x,y,N,A,B,P,C,E,hi,rfl⟩;by_cases Q:i<j
 ·have c:x<y:=by omega
  obtain⟨h,l⟩:∃h,h=(i+j)/2:=⟨_,rfl⟩;have o:IntKind.i64.wrap (x+y)=((i+j:Nat)):=by grind[wr]
  have q:IntKind.wrap .u64 _=((i+j:Nat)):=bG (by omega);obtain⟨S,F⟩:∃S,S=i+j:=⟨_,rfl⟩;rw[<-F]at o q l;have t:bin .shr _ (.i .u64 1)=some (.i .u64 ((S/2:Nat))):=eE (by decide);rw[<-l]at t;have G:IntKind.i64.wrap _=h:=wr (by omega) (by omega);have I:IntKind.i64.wrap _=h+1:=wr (by omega) (by omega);have J:=λ{K:CR->Prop}=>z h (by omega) (K:=K);have L:=λ{args H K}=>gP (V:=VS) (H:=H) (args:=args) (K:=K) (a:=[]) (b:=cp) w;simp[go_sem,Bh,c,o,q,G,t,L,J];cases v:p h with|true=>simp[go_sem];exact⟨h-i,by omega,i,h,rfl,by omega,by omega,λ_=>v,hi,A,rfl⟩|false=>simp[go_sem,I];exact⟨j-(h+1),by omega,h+1,j,rfl,by omega,C,E,λ_=>v,by omega,B⟩
 have c:¬x<y:=by omega
 have:i=j:=by omega
 simp[go_sem,Bh,c];grind
def pc{d:Int}:ai VS 163 [.i .i64 d] (.b (decide (0<=d/\d<65536))):=by
 refine .body nD rfl ?_;by_cases a:0<=d
 ·by_cases c:d<65536;·simp[go_sem,Jg,a];try simp[a,c]
  simp[go_sem,Jg,a];try simp[a,c]
 simp only[go_sem,Jg,a];grind
def zW(d:Int):∃k:Nat,ai VS 164 [.i .i64 d] (.i .i64 (k:Int))/\k<=2154:=by
 have h:aE VS 164 [.i .i64 d] (λr=>∃e,r=.ret e/\∃k:Nat,e=.i .i64 (k:Int)/\k<=2154):=by
  refine .body (vf:=Bp) wh rfl ?_;simp(disch:=omega)only[go_sem,simprocAttr,apd];have hs:=o9 (n:=2154) (g:=198) (cp:=[.hp 0 0]) (p:=λi=>decide (d<bM (i+1))) (H:=[.hb 3 [.i .i64 d]]) (by omega) (by omega) (λi hi K=>?_);·refine hs.mono λr hr=>?_;obtain⟨k,rfl,a,_⟩:=hr;simp(disch:=omega)only[go_sem,simprocAttr];exact⟨k,rfl,a⟩
  have b:∀{H K},ac VS 165 [.i .i64 ((i:Int)+1)] H K↔K (.ret (.i .i64 (bM (i+1))) H):=λ{H K}=>by have:=(rh (m:=i+1) (by omega)).c (H:=H) (K:=K) o6 rfl rfl (.inl rfl);rwa[show((i+1:Nat):Int)=(i:Int)+1 by omega]at this
  have f:IntKind.i64.wrap ((i:Int)+1)=(i:Int)+1:=wr (by omega) (by omega);refine cC (bI.iff_q.2 (.body (vf:=BD) agY rfl rfl ?_));simp(disch:=omega)only[go_sem,simprocAttr,apv,f,b]
 obtain⟨e,j,k,rfl,l⟩:=h.ex;grind
structure tS(lo hi:Int)(r:D):Prop where h:∃n e:Int,r=.tu [.i .i64 n,.i .i64 e]/\lo<=n/\n<=hi
def EE(d:Int):∃r,ai VS 138 [.i .i64 d] r/\tS 0 2154 r:=by
 have a:=λ{H K}=>(pc (d:=d)).c (H:=H) (K:=K) nD rfl rfl (.inl rfl);obtain⟨k,e,g⟩:=zW d;have f:=λ{H K}=>e.c (H:=H) (K:=K) wh rfl rfl (.inl rfl);refine aE.ex (.body P6 rfl ?_);by_cases b:0<=d/\d<65536;·simp[go_sem,VZ,a,f,R2 b];exact⟨k,0,rfl,by omega,by omega⟩
 simp[go_sem,VZ,a,R1 b];exact⟨0,2,rfl,by omega,by omega⟩
def EF(m:Int):∃r,ai VS 139 [.i .i64 m] r/\tS (-1000000) 1000000 r:=by
 refine aE.ex (.body zJ rfl ?_);by_cases a:m<0;·simp[go_sem,xj,a];exact⟨0,2,rfl,by omega,by omega⟩
 by_cases b:2154<=m;·simp[go_sem,xj,a,b];exact⟨0,2,rfl,by omega,by omega⟩
 obtain⟨k,d⟩:=xt (show 0<=m by omega);subst d;have hr:=zV (m:=k) (by omega);have e:=λ{H K}=>(rh (m:=k) (by omega)).c (H:=H) (K:=K) o6 rfl rfl (.inl rfl);simp[go_sem,xj,a,b,e];exact⟨_,0,rfl,by omega,by omega⟩
def zX{d m:Int}:∃r,ai VS 211 [.i .i64 d,.i .i64 m] r/\tS 0 65535 r:=by
 have a:=λ{H K}=>(pc (d:=d)).c (H:=H) (K:=K) nD rfl rfl (.inl rfl);obtain⟨k,p,w⟩:=zW d;have e:=λ{H K}=>p.c (H:=H) (K:=K) wh rfl rfl (.inl rfl);refine aE.ex (.body Er rfl ?_);by_cases b:0<=d/\d<65536
 ·have f:IntKind.i64.wrap (0-k)=-k:=by grind[wr]
  have h:IntKind.i64.wrap _=2154-k:=wr (by omega) (by omega);by_cases g:m< -k;·simp only[go_sem,BG,a,e,R2 b,f,g];exact⟨0,30,rfl,by omega,by omega⟩
  by_cases l:2154-k<=m;·simp only[go_sem,BG,a,e,R2 b,f,h,g,l];exact⟨0,30,rfl,by omega,by omega⟩
  obtain⟨j,y⟩:=xt (show 0<=(k:Int)+m by omega);have q:=λ{H K}=>(rh (m:=k) (by omega)).c (H:=H) (K:=K) o6 rfl rfl (.inl rfl);have s:=λ{H K}=>(rh (m:=j) (by omega)).c (H:=H) (K:=K) o6 rfl rfl (.inl rfl);have t:∀{H K},ac VS 165 [.i .i64 ((j:Int)+1)] H K↔K (.ret (.i .i64 (bM (j+1))) H):=λ{H K}=>by have:=(rh (m:=j+1) (by omega)).c (H:=H) (K:=K) o6 rfl rfl (.inl rfl);grind
  have u:IntKind.i64.wrap ((k:Int)+m)=(j:Int):=by grind[wr]
  have v:IntKind.i64.wrap _=j+1:=wr (by omega) (by omega);simp only[go_sem,BG,a,e,R2 b,f,h,u,v,g,l,q,s,t];generalize IntKind.i64.wrap _=x;have n:=λ{H K}=>(pc (d:=x)).c (H:=H) (K:=K) nD rfl rfl (.inl rfl);by_cases o:0<=x/\x<65536;·simp[go_sem,n,R2 o];exact⟨x,0,rfl,by omega,by omega⟩
  simp[go_sem,n,R1 o];exact⟨0,30,rfl,by omega,by omega⟩
 simp[go_sem,BG,a,R1 b];exact⟨0,2,rfl,by omega,by omega⟩
theorem Q9{a b:Int}(y:a<=b):∃r,ai VS 172 [.i .i64 a,.i .i64 b] r/\tS (-3000) 3000 r:=by
 have f:=λ{H K}=>(pc (d:=a)).c (H:=H) (K:=K) nD rfl rfl (.inl rfl);have h:=λ{H K}=>(pc (d:=b)).c (H:=H) (K:=K) nD rfl rfl (.inl rfl);obtain⟨k,w,z⟩:=zW a;obtain⟨l,x,A⟩:=zW b;have o:=λ{H K}=>w.c (H:=H) (K:=K) wh rfl rfl (.inl rfl);have p:=λ{H K}=>x.c (H:=H) (K:=K) wh rfl rfl (.inl rfl);refine aE.ex (.body zN rfl ?_);by_cases g:0<=a/\a<65536
 ·by_cases j:0<=b/\b<65536
  ·have q:¬b<a:=by omega
   have s:IntKind.i64.wrap _=l-k:=wr (by omega) (by omega);have u:IntKind.i64.wrap _=l-k-1:=wr (by omega) (by omega);obtain⟨r,r1,n,e,rfl,r2,r3⟩:=zX (d:=a) (m:=l-k);have t:=λ{H K}=>r1.c (H:=H) (K:=K) Er rfl rfl (.inl rfl);by_cases v:e=0
   ·subst v;by_cases c3:b<n;·simp[go_sem,pP,f,h,R2 g,R2 j,q,o,p,s,u,t,c3];exact⟨_,0,rfl,by omega,by omega⟩
    simp[go_sem,pP,f,h,R2 g,R2 j,q,o,p,s,t,c3];exact⟨_,0,rfl,by omega,by omega⟩
   simp[go_sem,pP,f,h,R2 g,R2 j,q,o,p,s,u,t,v];exact⟨_,0,rfl,by omega,by omega⟩
  simp[go_sem,pP,f,h,R2 g,R1 j];exact⟨0,2,rfl,by omega,by omega⟩
 simp[go_sem,pP,f,R1 g];exact⟨0,2,rfl,by omega,by omega⟩
def EG(a b:Int):∃r,ai VS 172 [.i .i64 a,.i .i64 b] r/\tS (-3000) 3000 r:=by
 by_cases o:a<=b;·grind[Q9]
 have f:=λ{H K}=>(pc (d:=a)).c (H:=H) (K:=K) nD rfl rfl (.inl rfl);have h:=λ{H K}=>(pc (d:=b)).c (H:=H) (K:=K) nD rfl rfl (.inl rfl);obtain⟨r,r1,n,e,rfl,r2,r3⟩:=Q9 (a:=b) (b:=a) (by omega);have k:=λ{H K}=>r1.c (H:=H) (K:=K) zN rfl rfl (.inl rfl);have l:IntKind.i64.wrap (0-n)=-n:=by grind[wr]
 have m:b<a:=by omega
 refine aE.ex (.body zN rfl ?_);by_cases g:0<=a/\a<65536
 ·by_cases j:0<=b/\b<65536;·simp only[go_sem,pP,f,h,R2 g,R2 j,m,k,l];exact⟨_,0,rfl,by omega,by omega⟩
  simp[go_sem,pP,f,h,R2 g,R1 j];exact⟨0,2,rfl,by omega,by omega⟩
 simp[go_sem,pP,f,R1 g];exact⟨0,2,rfl,by omega,by omega⟩
end
section
open Go.Dm
set_option maxRecDepth 10000
def zY(n:Int)(h:n.natAbs<18446744073709551616)(f:-9223372036854775808<=n/\n<9223372036854775808):∃a b c d,ai VS 137 [.i .i64 n] (.ag [a,b,c,d])/\Fr n 1 (.ag [a,b,c,d])/\dP n 1:=by obtain⟨e,j,g⟩:=Mc f;obtain⟨x,y,rfl,k,l⟩:=g.h;grind[xT]
end
section
open Go.Dm
set_option maxRecDepth 10000
def aij{rows:List (List D)}{r1 r2:List D}{w bytes:Nat}(b:r1.all D.flat=true)(c:r2.all D.flat=true)(hr:(rows.length+2)*bytes<=140737488355328)(d:rows.length+2<=140737488355328):bu (bH [] w rows) (bD [] .nil rows) (.sv w [r1,r2]) w bytes true=some (bD [] .nil (rows++[r1,r2]),bH [] w (rows++[r1,r2])):=by
 have e:∀X,ja X [r1,r2]=some _:=λX=>nj _ (by grind);have f:eI (rows.length+2) bytes=true:=by grind[eI]
 cases rows with|nil=>grind[eI,bH,bD,bu,eZ,fe,iA]|cons r a=>
 obtain⟨L,hL⟩:∃L,L=r::a:=⟨_,rfl⟩;have g:bH [] w (r::a)=[.ar w L none true false]:=by rw[hL];rfl
 have h:bD [] .nil (r::a)=.mu 0 L.length 0 L.length:=by rw[hL];rfl
 have i:bH [] w (r::a++[r1,r2])=[.ar w (L++[r1,r2]) none true false]:=by rw[hL];rfl
 have j:bD [] .nil (r::a++[r1,r2])=.mu 0 (L.length+2) 0 (L.length+2):=by grind[bD]
 simp_all[aK,an.ar,bu,eZ,fe,kq,iB]
def jo(T:List FV):List Int:=T.flatMap λf=>[f.frm,f.to]
theorem RJ{T:List FV}:(T.map FV.n).flatMap (λf=>[f.frm,f.to])=jo T:=by rw[List.flatMap_map];rfl
def aik{T:List FV}{i:Nat}(h:i<T.length):jo (T.take (i+1))=jo (T.take i)++[T[i]!.frm,T[i]!.to]:=by unfold jo;rw[pv,E2 h,K0 T i h,List.flatMap_append];simp
theorem E6(T:List FV):(jo T).length=2*T.length:=by unfold jo;induction T<;>grind
def RL(l:List Int):nX (l.map aW)=some l:=by induction l<;>grind[nX,aW]
def ail{l:List Int}(a:l≠[])(b:l.length<1099511627776){K:CR->Prop}:ac VS 149 [.mu 0 l.length 0 l.length] [.ar 1 (l.map aW) none true false] K↔K (.ret (.tu []) [.ar 1 ((cG l).map aW) none true false]):=by refine ac.beside (by kernel_rfl) (by decide) ?_;show rX 0 _ 0 _ _=_;simp_all[aK,an.ar,aW,rX,RL]
def aim{l:List Int}(a:l≠[])(b:l.length<1099511627776){K:CR->Prop}:ac VS 305 [.mu 0 l.length 0 l.length] [.ar 1 (l.map aW) none true false] K↔K (.ret (.mu 0 l.length 0 (bZ l).length) [.ar 1 ((bZ l++List.replicate (l.length-(bZ l).length) 0).map aW) none true false]):=by refine ac.beside (by kernel_rfl) (by decide) ?_;show xz 0 _ 0 _ _=_;simp_all[aK,an.ar,aW,xz,RL]
def ain{K:CR->Prop}:ac VS 149 [.nil] [] K↔K (.ret (.tu []) []):=ac.beside (by kernel_rfl) (by decide) rfl
def aio{K:CR->Prop}:ac VS 305 [.nil] [] K↔K (.ret .nil []):=ac.beside (by kernel_rfl) (by decide) rfl
def aip{T:List FV}{x:D}(j:Sl 11 (T.map FV.c) x)(I:T.length<1000000):∃y,ai VS 276 [x] y/\Sl 1 ((fZ (T.map FV.n)).map aW) y:=by
 have q:=λ{H:ab}=>j.n (H:=H);have r:=λ{V dr os keep t u Q v H z k A}=>j.q (V:=V) (dr:=dr) (os:=os) (keep:=keep) (loc:=t) (sl:=u) (Q:=Q) (sl':=v) (H:=H) (H':=z) (k:=k) (x:=A);refine aE.ex (.body QM rfl ?_);simp[go_sem,ap7,q];refine ak.up (λi s=>∃(d g:D),s=⟨[x,.nil,d,bD [] .nil ((jo (T.take i)).map aW),.i .i64 i,.i .i64 _,x,g],bH [] 1 ((jo (T.take i)).map aW)⟩) T.length ⟨_,_,rfl⟩ ?_;rintro i s hi⟨d,g,rfl⟩;by_cases l:i<T.length
 ·have a:(i:Int)<T.length:=by omega
  have c3:(0:Int)<=i:=by omega
  have B:IntKind.i64.wrap (i+1)=((i+1:Nat)):=by grind[wr]
  have m:=aik l;obtain⟨f,n⟩:∃f,f=T[i]!:=⟨_,rfl⟩;rw[<-n]at m;have o:((jo (T.take i)).map aW).length=2*i:=by grind[E6]
  have p:=aij (rows:=(jo (T.take i)).map aW) (r1:=aW f.frm) (r2:=aW f.to) (w:=1) (bytes:=8) rfl rfl (by omega) (by omega);simp[aW]at p;simp[go_sem,simprocAttr,KR,r,a,<-n,FV.c,p,B];rw[m,hI];exact⟨l,rfl,rfl⟩
 have a:¬(i:Int)<T.length:=by omega
 have C:fZ (T.map FV.n)=bZ (cG (jo T)):=by grind[fZ,RJ]
 rw[show jo _=jo T by grind,C];have o:=E6 T;generalize jo T=L at o⊢;by_cases b:L=[];·subst b;have h:=λ{K}=>ain (K:=K);have c:=λ{K}=>aio (K:=K);show ak VS _ ⟨[x,.nil,d,.nil,.i .i64 i,.i .i64 _,x,g],[]⟩ _;simp[go_sem,KR,a,h,c];exact .nil rfl
 obtain⟨g1,E⟩:=lG (H0:=[]) (w:=1) (enc:=aW) b;rw[g1,E];have h:=λ{K}=>ail b (by omega) (K:=K);have F:cG L≠[]:=λe=>b (by have:=nT L;rw[e]at this;exact k6.1 this.symm);have c:=λ{K}=>aim F (by rw[nT];omega) (K:=K);rw[nT]at c;simp only[go_sem,KR,a,h,c];have J:=by have:=wV (cG L);rw[nT]at this;exact this
 have G:((bZ (cG L)++List.replicate (L.length-(bZ (cG L)).length) 0).map aW).take (bZ (cG L)).length=(bZ (cG L)).map aW:=by rw[hI,List.take_append_of_le_length (by simp),E4 (by simp)]
 rw[G1 (by omega)];refine⟨.im 1 _,?_,.im⟩;simp only[go_sem];rw[G1 (by simp),G];rfl
def RM{a:List Int}{x:D}{v:Int}(c:Sl 1 (a.map aW) x)(w:a.length<1000000000):∃k:Nat,ai VS 306 [x,.i .i64 v] (.i .i64 (k:Int))/\k<=a.length/\(k<a.length->v<=a[k]!)/\(0<k->a[k-1]!<v):=by
 have d:=λ{H:ab}=>c.n (H:=H);have h:aE VS 306 [x,.i .i64 v] (λr=>∃e,r=.ret e/\∃k:Nat,e=.i .i64 k/\k<=a.length/\(k<a.length->v<=a[k]!)/\(0<k->a[k-1]!<v)):=by
  refine .body Ey rfl ?_;simp only[go_sem,aqq,c.c1,d];have hs:=o9 (n:=a.length) (g:=310) (cp:=[.hp 0 0,.hp 1 0]) (p:=λi=>decide (v<=a[i]!)) (H:=[.hb 177 [x],.hb 3 [.i .i64 v]]) (by omega) (by omega) (λi hi K=>?_);·refine hs.mono λr hr=>?_;obtain⟨k,rfl,y,z,f⟩:=hr;simp only[go_sem];grind
  have j:(i:Int)<a.length:=by omega
  have c3:(0:Int)<=i:=by omega
  have l:=λ{V dr os keep m o Q q H s k t}=>c.q (V:=V) (dr:=dr) (os:=os) (keep:=keep) (loc:=m) (sl:=o) (Q:=Q) (sl':=q) (H:=H) (H':=s) (k:=k) (x:=t);have u:=λb=>c.under b;refine cC (bI.iff_q.2 (.body ahm rfl rfl ?_));simp[go_sem,simprocAttr,aqu,l,u,j,aW]
 obtain⟨e,f,k,rfl,A⟩:=h.ex;grind
end
section
open Go.Dm
set_option maxRecDepth 10000
def aiq{a:AV}(c:a.ok):∃b:AV,b.v=a.v/\b.ok/\ai VS 278 [.ag a.c] (.ag b.c):=by obtain⟨x,y,e,g,h⟩:=c.d.h;obtain⟨i,j⟩:=EL c.o;obtain⟨k,l,d⟩:=p6 g.sl i;obtain⟨n,o,f⟩:=p6 h.sl j;have p:=λ{H K}=>l.c (H:=H) (K:=K) nB rfl (by simp[g.sl.pl]) (.inl rfl);have q:=λ{H K}=>o.c (H:=H) (K:=K) nB rfl (by simp[h.sl.pl]) (.inl rfl);have r:=λm H=>ah d.flat m H;have s:=λm H=>ah f.flat m H;have t:VD a.v _:=⟨k,n,rfl,⟨d⟩,⟨f⟩⟩;obtain⟨b,u,v,w⟩:=t.av c.o;refine⟨b,u,w,?_⟩;rw[e,<-v];refine .body QO rfl ?_;simp[go_sem,simprocAttr,ap9,p,q,r,s,d.c1,f.c1]
def air{a:AV}(c:a.ok):∃b:AV,b.v=a.v/\b.ok/\∀{H K},ac VS 278 [.ag [.i .u8 a.v.k,a.s,a.x,a.t,a.y,.i .i64 a.v.i]] H K↔K (.ret (.ag [.i .u8 b.v.k,b.s,b.x,b.t,b.y,.i .i64 b.v.i]) H):=by obtain⟨b,d,e,f⟩:=aiq c;exact⟨b,d,e,λ{H K}=>f.c QO rfl (by simp[AAn,AA9,AAo];exact c.pl) (.inl rfl)⟩
structure RN(days:List Int)(f:FV)(a b:Nat):Prop where
 a1:a<=days.length
 b1:b<=days.length
 h:days.Pairwise (·<·)->∀q,q<days.length->((a<=q/\q<b)↔(f.frm<=days[q]!/\days[q]!<f.to))
def Ad{a:List Int}(h:a.Pairwise (·<·)){i j:Nat}(c:i<j)(b:j<a.length):a[i]!<a[j]!:=by rw[K0 a i (by omega),K0 a j b];exact vx.1 h i j (by omega) b c
def ais{d:List Int}{x:D}(e:Sl 1 (d.map aW) x)(g:d.length<1000000000)(f:FV):∃a b:Nat,ai VS 277 [x,.ag f.c] (.tu [.i .i64 (a:Int),.i .i64 (b:Int)])/\RN d f a b:=by
 obtain⟨a,j,l,s,t⟩:=RM (v:=f.frm) e g;obtain⟨b,m,n,u,w⟩:=RM (v:=f.to) e g;have o:=λ{H K}=>j.c (H:=H) (K:=K) Ey rfl (by simp[e.pl,aV]) (.inl rfl);have p:=λ{H K}=>m.c (H:=H) (K:=K) Ey rfl (by simp[e.pl,aV]) (.inl rfl);refine⟨a,b,.body QN rfl ?_,⟨l,n,λhs q r=>?_⟩⟩;·simp only[FV.c];simp[go_sem,simprocAttr,ap8,o,p]
 have y:∀{k:Nat}{v:Int},k<=d.length->(k<d.length->v<=d[k]!)->(0<k->d[k-1]!<v)->(k<=q↔v<=d[q]!):=λ{k v}z A B=>by
  constructor
  ·intro h;by_cases c:k=q;·grind
   have:=Ad hs (show k<q by omega) r;omega
  intro h;by_cases c:k<=q;·exact c
  by_cases C:q=k-1;·grind
  have:=Ad hs (show q<k-1 by omega) (by omega);omega
 grind
noncomputable def iP(T:List FV)(d:Int):Nat->Option Nat|0=>none|i+1=>if T[i]!.frm<=d/\d<T[i]!.to then some i else iP T d i
def RO{T:List FV}{d:Int}:∀{i:Nat},i<=T.length->(((T.take i).map FV.n).filter λf=>decide (f.frm<=d/\d<f.to)).getLast?=(iP T d i).map (λj=>T[j]!.n)/\∀j,iP T d i=some j->j<i
 |0,_=>⟨rfl,λj h=>by cases h⟩|i+1,h=>by
  obtain⟨b,e⟩:=RO (T:=T) (d:=d) (i:=i) (by omega);have g:T.take (i+1)=T.take i++[T[i]!]:=by rw[pv,E2 (by omega),K0 T i (by omega)];rfl
  rw[g,hI,k7];unfold iP;by_cases c:T[i]!.frm<=d/\d<T[i]!.to
  ·rw[G1 c];have:(([T[i]!].map FV.n).filter λf=>decide (f.frm<=d/\d<f.to))=[T[i]!.n]:=by simp only[fA,y4];rw[AAj (by exact R2 c)];rfl
   rw[this];exact⟨by simp,λj a=>by cases a;omega⟩
  rw[E1 c];have:(([T[i]!].map FV.n).filter λf=>decide (f.frm<=d/\d<f.to))=[]:=by simp only[fA,y4];rw[AAk (by rw[R1 (show¬(T[i]!.n.frm<=d/\d<T[i]!.n.to)from c)];decide)];rfl
  rw[this,qq];exact⟨b,λj a=>by have:=e j a;omega⟩
def RP{T:List FV}{d:Int}:eo (T.map FV.n) d=(iP T d T.length).map (λj=>T[j]!.n)/\∀j,iP T d T.length=some j->j<T.length:=by have:=RO (d:=d) (Hk T.length);rw[ph]at this;exact this
def RQ{T:List FV}{d:Int}:∀{i j:Nat},iP T d i=some j->T[j]!.frm<=d/\d<T[j]!.to
 |0,_,h=>by cases h|i+1,j,h=>by
  unfold iP at h;split at h;·grind
  exact RQ h
def pg(A n:Nat):Option Nat->List D|none=>[.np]|some j=>[.ap A n j 0]
def ait{T:List FV}{j:Nat}(h:j<T.length):T[j]!.frm∈fZ (T.map FV.n)/\T[j]!.to∈fZ (T.map FV.n):=by
 have a:T[j]!.n∈T.map FV.n:=by grind
 exact⟨Gk.2 (pb.2 ⟨_,a,N2⟩),Gk.2 (pb.2 ⟨_,a,K2 _ N2⟩)⟩
def aiu(T:List FV):(fZ (T.map FV.n)).length<=2*T.length:=by grind[fZ,wV,cG,FV.n,nT,RJ,E6]
end
section
open Go.Dm
set_option maxRecDepth 10000
noncomputable def gR(A n:Nat)(T:List FV)(b:List Int)(i:Nat)(a p:Nat):List (List D):=(List.range b.length).map λq=>if a<=q/\q<p then pg A n (some i)else pg A n (iP T b[q]! i)
noncomputable def dX(A n:Nat)(T:List FV)(a:List Int)(i:Nat):List (List D):=(List.range a.length).map λq=>pg A n (iP T a[q]! i)
variable{d e:Nat}{f:List Int}
theorem Ae{n:Nat}{T:List FV}{a:Nat}:gR d n T f e a a=dX d n T f e:=by grind[gR,dX]
def aiv{n:Nat}{T:List FV}{a p:Nat}(g:a<=p)(h:p<f.length):(gR d n T f e a p).set p [.ap d n e 0]=gR d n T f e a (p+1):=by
 refine m0 λq=>?_;rw[ABs];unfold gR;rw[eH,eH];by_cases c:q<f.length
 ·rw[uy c];simp only[S2,ABt,ef];by_cases b:p=q;·subst b;rw[G1 rfl,G1 c,G1 (by omega)];rfl
  grind
 grind
def aiw{A n:Nat}{T:List FV}{a b:Nat}(hs:f.Pairwise (·<·))(h:RN f T[d]! a b):gR A n T f d a b=dX A n T f (d+1)/\(b<=a->dX A n T f d=dX A n T f (d+1)):=by
 have e:gR A n T f d a b=dX A n T f (d+1):=by refine AAg λq c=>?_;have:=h.h hs q (fa.1 c);grind[pg,iP]
 grind[gR,dX]
def aix{A n:Nat}{T:List FV}{days:List Int}:dX A n T days 0=List.replicate days.length [.np]:=by
 unfold dX;refine m0 λq=>?_;rw[eH,AAi];by_cases c:q<days.length;·rw[uy c,G1 c];rfl
 grind
def aiy{A n:Nat}{T:List FV}{days:List Int}{i a p:Nat}:(gR A n T days i a p).length=days.length:=by grind[gR]
def aiz{A n:Nat}{T:List FV}{days:List Int}{i:Nat}:(dX A n T days i).length=days.length:=by grind[dX]
def aiA{A n:Nat}{T:List FV}{i:Nat}(a:d<f.length):(dX A n T f i)[d]?=some (pg A n (iP T f[d]! i)):=by grind[dX]
variable{x y z a b c:D}
def aiB{H:ab}{C m p:Nat}{rows:List (List D)}{cap:Option Nat}{d:D}(h:H[C]?=some (.ar 1 rows cap false false))(a:rows.length=m)(hr:rows[p]?=some [x]):zC H C m p 0 [d] (some (.ar 1 rows cap false false))=some (H.set C (.ar 1 (rows.set p [d]) cap false false)):=by
 have b:aK H C m=some (1,rows,cap,false,false):=by simp[Dm.aK,h,a]
 have:fR H (.ap C m p 0) [d]=some (H.set C (.ar 1 (rows.set p [d]) cap false false)):=by simp[fR,b,lf,hr];rfl
 grind[afU]
def aiC(A n:Nat)(o:Option Nat):∃e,pg A n o=[e]:=by cases o<;>exact⟨_,rfl⟩
def aiD{A n:Nat}{T:List FV}{days:List Int}{i a p q:Nat}(b:q<days.length):∃e,(gR A n T days i a p)[q]?=some [e]:=by
 unfold gR;rw[eH,uy b];simp only[ef];split;·exact⟨_,rfl⟩
 obtain⟨e,c⟩:=aiC A n (iP T days[q]! i);exact⟨e,by rw[c]⟩
variable{g:Dm.Ex->St->Prop}
def aiE{T:List FV}{A C n a b:Nat}(hb:b<=f.length)(hl:f.length<1000000){G:ab}(K:G[C]?=some (.ar 1 (dX A n T f e) (some f.length) false false))(hi:e<n)(Q:∃rows,G[A]?=some (.ar 11 rows none true true)/\rows.length=n)(af:A≠C){c3 l o r t u v w B E F H I J:D}{d5:D}(L:∀j k,(b<=a->gR A n T f e a k=dX A n T f e)->(a<=b->k=b)->g (.ex 2) ⟨[F,H,I,c3,x,j,y,z,c,.mu A n 0 n,J,l,o,.i .i64 e,.i .i64 a,.i .i64 (max a k:Nat),.i .i64 b,.mu C f.length 0 f.length,r,t,u,v,w,B,E],G.set C (.ar 1 (gR A n T f e a k) (some f.length) false false)⟩):ak VS (.loop J6) ⟨[F,H,I,c3,x,d5,y,z,c,.mu A n 0 n,J,l,o,.i .i64 e,.i .i64 a,.i .i64 a,.i .i64 b,.mu C f.length 0 f.length,r,t,u,v,w,B,E],G⟩ g:=by
 have S:=aw K;by_cases M:a<=b
 ·refine ak.loop (λm s=>∃(p:Nat)(j:D),m=b-p/\a<=p/\p<=b/\s=⟨[F,H,I,c3,x,j,y,z,c,.mu A n 0 n,J,l,o,.i .i64 e,.i .i64 a,.i .i64 p,.i .i64 b,.mu C _ 0 _,r,t,u,v,w,B,E],G.set C (.ar 1 (gR A n T f e a p) _ false false)⟩) _ ⟨a,d5,rfl,Hk _,M,by rw[Ae,lU K]⟩ ?_;rintro m s⟨p,j,hm,U,ah,rfl⟩;obtain⟨rows,ai,V⟩:=Q;have g1:(G.set C (an.ar 1 (gR A n T f e a p) (some f.length) false false))[A]?=some (.ar 11 rows none true true):=by grind
  have N:(G.set C _)[C]?=some (.ar 1 (gR A n T f e a p) (some f.length) false false):=N1 S;by_cases aj:p<b
  ·have i:(p:Int)<(b:Int):=by omega
   have c1:(0:Int)<=(p:Int):=by omega
   have W:(p:Int)<(f.length:Int):=by omega
   have am:(0:Int)<=(e:Int):=by omega
   have X:(e:Int)<(n:Int):=by omega
   have Y:IntKind.i64.wrap (p+1)=((p+1:Nat)):=by grind[wr]
   have ln:=aiy (A:=A) (n:=n) (T:=T) (days:=f) (i:=e) (a:=a) (p:=p);obtain⟨ao,Z⟩:=aiD (A:=A) (n:=n) (T:=T) (days:=f) (i:=e) (a:=a) (p:=p) (q:=p) (by omega);have P:=aiB (d:=.ap A n e 0) N ln Z;rw[aiv U (by omega),s0]at P;have aa:(D.ap A n e 0).cellsN 1=some [D.ap A n e 0]:=rfl;simp[go_sem,aa,J7,i,g1,N,W,X,V,ln,P,Y];grind
  have i:¬(p:Int)<b:=by omega
  have hp:p=b:=by omega
  simp[go_sem,J7,i];have:=L (.b false) p (λh=>by grind[Ae]) (λ_=>hp);grind
 have i:¬(a:Int)<b:=by omega
 rw[bv];simp[go_sem,J7,i];have:=L (.b false) a (λ_=>Ae) (λh=>absurd h M);grind[Ae,lU]
def aiF{T:List FV}{y:D}{C:Nat}(J:Sl 1 (f.map aW) y)(P:f.length<1000000)(ah:T.length<1000000)(hs:f.Pairwise (·<·)){G:ab}(L:G[C]?=some (.ar 1 (dX d T.length T f 0) (some f.length) false false))(hA:T≠[]->G[d]?=some (.ar 11 (T.map FV.c) none true true))(Q:d≠C){fs c3 q r t u v w A B E F:D}(S:T≠[]->fs=.mu d T.length 0 T.length){d4 d5 U V W X:D}(Y:∀j h l m o p,g (.ex 0) ⟨[B,E,F,c3,j,h,x,z,c,fs,y,.i .i64 T.length,.i .i64 T.length,l,m,o,p,.mu C f.length 0 f.length,q,r,t,u,v,w,A],G.set C (.ar 1 (dX d T.length T f T.length) (some f.length) false false)⟩):ak VS (.loop J8) ⟨[B,E,F,c3,d4,d5,x,z,c,fs,y,.i .i64 0,.i .i64 T.length,U,V,W,X,.mu C f.length 0 f.length,q,r,t,u,v,w,A],G⟩ g:=by
 have Z:=aw L;refine ak.up (λi s=>∃j h l m o p:D,s=⟨[B,E,F,c3,j,h,x,z,c,fs,y,.i .i64 i,.i .i64 _,l,m,o,p,.mu C _ 0 _,q,r,t,u,v,w,A],G.set C (.ar 1 (dX d _ T f i) _ false false)⟩) T.length ⟨_,_,_,_,_,_,by rw[lU L];rfl⟩ ?_;rintro i s hi⟨j,h,l,m,o,p,rfl⟩;by_cases I:i<T.length
 · have aa:T≠[]:=λe=>by grind
   rw[S aa]at Y⊢;have c0:(i:Int)<T.length:=by omega
   have c1:(0:Int)<=i:=by omega
   have w1:IntKind.i64.wrap (i+1)=((i+1:Nat)):=by grind[wr]
   obtain⟨a,b,p1,M⟩:=ais J (by omega) T[i]!;have N:=λ{H K}=>p1.c (H:=H) (K:=K) QN rfl (by simp only[AAn,AA9,AAo,D0];exact⟨J.pl,by exact T[i]!.al⟩) (.inl rfl);have g1:(G.set C (an.ar 1 (dX d T.length T f i) (some f.length) false false))[d]?=some (.ar 11 (T.map FV.c) none true true):=by grind
   have g2:(G.set C _)[C]?=some (.ar 1 (dX d T.length T f i) (some f.length) false false):=N1 Z;have e1:=aiw (A:=d) (n:=T.length) hs M;simp only[FV.c]at N;simp only[go_sem,WH,c0,g1,c1,FV.c,N];refine⟨I,aiE M.b1 P g2 I ⟨_,g1,by simp⟩ Q λh k k1 k2=>?_⟩;simp only[go_sem,w1];refine⟨I,?_⟩;rw[s0];grind
 have ap:i=T.length:=by omega
 simp[go_sem,WH];grind
end
section
open Go.Dm
set_option maxRecDepth 10000
variable{d:List Int}
def RR{T:List FN}{p:Nat}{acc:List aB}(h:p+1<d.length):ir T (d.drop p) acc=ir T (d.drop (p+1)) (match eo T d[p]! with|some f=>if f.gone then acc else cg acc ⟨d[p]!,d[p+1]!,f.v⟩|none=>acc):=by rw[mm (by omega),mm h,K0 d p (by omega),K0 d _ h];rfl
def aiG{T:List FN}{p:Nat}{acc:List aB}(h:p+1=d.length):ir T (d.drop p) acc=acc:=by rw[mm (by omega),dm (by omega)];rfl
def aiH{T:List FV}{p j:Nat}(b:p<(fZ (T.map FV.n)).length)(h:iP T (fZ (T.map FV.n))[p]! T.length=some j):p+1<(fZ (T.map FV.n)).length/\j<T.length:=by
 have a:=RP.2 j h;obtain⟨k,d⟩:=RQ h;have e:=(ait a).2;have hs:(fZ (T.map FV.n)).Pairwise _:=AU _;obtain⟨q,f,g⟩:=List.getElem_of_mem e;refine⟨?_,a⟩;by_cases c:p+1<(fZ (T.map FV.n)).length;·exact c
 rw[<-g,<-getElem!_pos _ q f]at d;by_cases i:q<p;·have:=Ad hs i b;omega
 grind
def FV.same_c(t:SV)(f:FV)(a:f.gone=false){H:ab}{K:CR->Prop}:ac VS 60 [.ag [.i .u8 t.a.v.k,t.a.s,t.a.x,t.a.t,t.a.y,.i .i64 t.a.v.i],.ag [.i .u8 f.a.v.k,f.a.s,f.a.x,f.a.t,f.a.y,.i .i64 f.a.v.i]] H K↔K (.ret (.b (decide (t.a.v=f.a.v))) H):=t.a.same_c f.a t.ok (f.ok a)
def FV.n_v(f:FV)(a:f.gone=false):f.n.v=f.a.v/\f.n.gone=false:=by grind[FV.n]
variable{x y z a b c:D}
def aiI{T:List FV}{m:List Int}{y:D}{A C:Nat}(W:m=fZ (T.map FV.n))(hy:Sl 1 (m.map aW) y)(hl:m.length<1000000)(cf:T.length<1000000){q:ab}(hC:q[C]?=some (.ar 1 (dX A T.length T m T.length) (some m.length) false false))(hA:T≠[]->q[A]?=some (.ar 11 (T.map FV.c) none true true)){c3 c9 a0 a1 a2 a3 a4 x0 x1 x2:D}{d6 d7 d8 bx bz b0:D}{Q:Dm.Ex->St->Prop}(b1:∀(acc:List SV)(c6 c7 c8 b3 aj al am:D),acc.map SV.n=gV (T.map FV.n)->Q (.ex 4) ⟨[x0,x1,x2,c3,z,a,c6,c7,c8,c9,y,c,a0,a1,a2,a3,a4,.mu C m.length 0 m.length,bD q .nil (acc.map SV.c),b3,.i .i64 m.length,.mu C m.length 0 m.length,aj,al,am],bH q 8 (acc.map SV.c)⟩):ak VS (.loop J9) ⟨[x0,x1,x2,c3,z,a,d6,d7,d8,c9,y,c,a0,a1,a2,a3,a4,.mu C m.length 0 m.length,.nil,.i .i64 0,.i .i64 m.length,.mu C m.length 0 m.length,bx,bz,b0],q⟩ Q:=by
 have hq:=λ{V dr os keep b4 sl Q b6 H H' k x'}=>hy.q (V:=V) (dr:=dr) (os:=os) (keep:=keep) (loc:=b4) (sl:=sl) (Q:=Q) (sl':=b6) (H:=H) (H':=H') (k:=k) (x:=x');refine ak.up (λp s=>∃(acc:List SV)(c6 c7 c8 aj al am:D),acc.length<=p/\ir _ (m.drop p) (acc.map SV.n)=gV _/\s=⟨[x0,x1,x2,c3,z,a,c6,c7,c8,c9,y,c,a0,a1,a2,a3,a4,.mu C _ 0 _,bD q .nil (acc.map SV.c),.i .i64 p,.i .i64 _,.mu C _ 0 _,aj,al,am],bH q 8 (acc.map SV.c)⟩) m.length ⟨[],_,_,_,_,_,_,Hk _,by rw[W];rfl,rfl⟩ ?_;rintro p s hp⟨acc,c6,c7,c8,aj,al,am,cj,I,rfl⟩;by_cases J:p<m.length
 ·have F:(p:Int)<m.length:=by omega
  have X:(0:Int)<=p:=by omega
  have M:IntKind.i64.wrap (p+1)=((p+1:Nat)):=by grind[wr]
  have N:(bH q 8 (acc.map SV.c))[C]?=some (.ar 1 (dX A T.length T m T.length) (some m.length) false false):=by grind[tV,aw]
  have v:=aiA (A:=A) (n:=T.length) (T:=T) (i:=T.length) J;have ln:=aiz (A:=A) (n:=T.length) (T:=T) (days:=m) (i:=T.length)
  have ao:=(RP (T:=T) (d:=m[p]!)).1;cases hj:iP T m[p]! _ with|none=>
  rw[hj]at v ao;have ck:ir (T.map FV.n) (m.drop (p+1)) (acc.map SV.n)=gV (T.map FV.n):=by
   by_cases Y:p+1<m.length;·rw[<-I,RR Y,ao];rfl
   rw[dm (by omega),<-I,aiG (by omega)];rfl
  simp[pg]at v;have L:eF false .pt .np .np=some (.b true):=rfl;simp[go_sem,rS,F,N,ln,v,L,M];grind|some j=>
  obtain⟨Y,u⟩:=aiH (by rw[<-W];exact J) (by rw[<-W];exact hj);rw[<-W]at Y;rw[hj]at v ao;have bp:T≠[]:=λe=>by rw[e]at u;simp at u
  have P:(bH q 8 (acc.map SV.c))[A]?=some (.ar 11 (T.map FV.c) none true true):=by rw[tV (aw (hA bp))];exact hA bp
  have L:eF false .pt (.ap A T.length j 0) .np=some (.b false):=rfl;obtain⟨f,S⟩:∃f,f=T[j]!:=⟨_,rfl⟩;have b9:eo (T.map FV.n) m[p]! =some f.n:=by rw[ao,S];rfl
  have G:=RR (T:=T.map FV.n) (acc:=acc.map SV.n) Y;rw[b9]at G;simp only at G;simp[pg]at v;cases B:f.gone with|true=>have a9:f.n.gone=true:=B;rw[a9,G1 rfl]at G;simp only[go_sem,simprocAttr,rS,F,X,N,P,ln,v,L,<-S,FV.c,B,M];exact⟨u,J,acc,by omega,by rw[<-G];exact I,rfl,rfl⟩|false=>
  have a9:=(f.n_v B).2;have ca:=(f.n_v B).1;rw[a9,E1 (by decide),ca]at G;obtain⟨b,cb,b2,eb⟩:=air (f.ok B);obtain⟨f1,f2,f3,f4⟩:=b2.fl;have cl:m[p]!<m[p+1]!:=Ad (by rw[W];exact AU _) (by omega) Y;obtain⟨o,br⟩:∃s:SV,s=⟨m[p]!,m[p+1]!,b,b2⟩:=⟨_,rfl⟩;have bs:o.c=[.i .i64 m[p]!,.i .i64 m[p+1]!,.i .u8 b.v.k,b.s,b.x,b.t,b.y,.i .i64 b.v.i]:=by rw[br];rfl
  have bt:o.n=⟨m[p]!,m[p+1]!,f.a.v⟩:=by rw[br];unfold SV.n;simp[cb]
  rw[<-bt]at G;have ea:=nz (H0:=q) (w:=8) (bytes:=96) (r:=o.c) (enc:=SV.c) (l:=acc) (by omega) (by omega);rw[bs]at ea;have au:cg (acc.map SV.n) o.n=match(acc.map SV.n).getLast? with|some t=>if t.to=m[p]!/\t.v=f.a.v then(acc.map SV.n).dropLast++[⟨t.frm,m[p+1]!,t.v⟩]else acc.map SV.n++[o.n]|none=>[o.n]:=by unfold cg;rw[bt,E1 (by simp only;omega)]<;>rfl
  have bf:cg _ o.n=acc.map SV.n++[o.n]->ir _ _ ((acc++[o]).map SV.n)=gV _:=λh=>by rw[hI,<-I,G,h];rfl
  have U:bD q D.nil (acc.map SV.c++[[.i .i64 m[p]!,.i .i64 m[p+1]!,.i .u8 b.v.k,b.s,b.x,b.t,b.y,.i .i64 b.v.i]])=bD q D.nil ((acc++[o]).map SV.c)/\bH q 8 (acc.map SV.c++[[.i .i64 m[p]!,.i .i64 m[p+1]!,.i .u8 b.v.k,b.s,b.x,b.t,b.y,.i .i64 b.v.i]])=bH q 8 ((acc++[o]).map SV.c):=by rw[hI,<-bs];exact⟨rfl,rfl⟩
  have bg:(acc++[o]).length<=p+1:=by simp;omega
  have E:=hy.under;have Z:=aw P;by_cases h0:acc=[]
  ·have ac:(acc.length:Int)=0:=by rw[h0];rfl
   have ad:cg (acc.map SV.n) o.n=acc.map SV.n++[o.n]:=by rw[au,h0];rfl
   simp only[go_sem,simprocAttr,rS,F,X,N,P,ln,v,L,<-S,FV.c,B,M,ac,hq,aW,eb,ea,f1,f2,f3,f4];exact⟨u,E _,E _,⟨by omega,by omega⟩,Z,u,J,acc++[o],bg,bf ad,U.1,U.2⟩
  have ae:=V2.2 h0;have ac:(0:Int)<acc.length:=by omega
  have w2:IntKind.i64.wrap (acc.length-1)=((acc.length-1:Nat)):=by rw[wr (by omega) (by omega)];omega
  have k3:0<=((acc.length-1:Nat):Int):=by omega
  have k4:((acc.length-1:Nat):Int)<acc.length:=by omega
  have k5:acc.length-1<acc.length:=by omega
  obtain⟨t,ht⟩:∃t,t=acc[acc.length-1]!:=⟨_,rfl⟩;have ax:=Rc h0;rw[<-ht]at ax;have es:=λ{H K}=>FV.same_c t f B (H:=H) (K:=K);by_cases q3:t.to=m[p]!
  ·have bv:=iff_of_true q3 trivial;by_cases q4:t.a.v=f.a.v
   ·have bl:=λ{H K}=>(es (H:=H) (K:=K)).trans (by rw[R2 q4]);simp only[go_sem,simprocAttr,rS,F,X,N,P,ln,v,L,<-S,FV.c,B,M,w2,ac,k3,k4,k5,hq,aW,SV.c,<-ht,bv,bl];obtain⟨t',bw⟩:∃t':SV,t'=⟨t.frm,m[p+1]!,t.a,t.ok⟩:=⟨_,rfl⟩;have cc:cg (acc.map SV.n) o.n=(acc.set (acc.length-1) t').map SV.n:=by rw[au,ax];simp only;rw[G1 (⟨q3,q4⟩),AAH,Rd (by simpa using h0),bw];rfl
    refine⟨u,ae,E _,ae,Z,u,⟨by omega,by omega⟩,J,acc.set (acc.length-1) t',by rw[eh];omega,?_,?_,?_⟩;·rw[<-I,G,cc]
    ·exact tK (by simp)
    rw[AAH,show t'.c=[.i .i64 t.frm,.i .i64 m[p+1]!,.i .u8 _,t.a.s,t.a.x,t.a.t,t.a.y,.i .i64 _]by rw[bw];rfl]
   have bl:=λ{H K}=>(es (H:=H) (K:=K)).trans (by rw[R1 q4]);have ad:cg (acc.map SV.n) o.n=acc.map SV.n++[o.n]:=by rw[au,ax];simp only;rw[E1 (λg=>q4 g.2)]
   simp only[go_sem,simprocAttr,rS,F,X,N,P,ln,v,L,<-S,FV.c,B,M,w2,ac,k3,k4,k5,hq,aW,SV.c,<-ht,bv,bl,eb,ea,f1,f2,f3,f4];exact⟨u,ae,E _,ae,Z,u,E _,E _,⟨by omega,by omega⟩,Z,u,J,acc++[o],bg,bf ad,U.1,U.2⟩
  have ad:cg (acc.map SV.n) o.n=acc.map SV.n++[o.n]:=by rw[au,ax];simp only;rw[E1 (λg=>q3 g.1)]
  simp only[go_sem,simprocAttr,rS,F,X,N,P,ln,v,L,<-S,FV.c,B,M,w2,ac,k3,k4,k5,hq,aW,SV.c,<-ht,q3,eb,ea,f1,f2,f3,f4];exact⟨u,ae,E _,E _,E _,⟨by omega,by omega⟩,Z,u,J,acc++[o],bg,bf ad,U.1,U.2⟩
 have F:¬(p:Int)<m.length:=by omega
 have cd:p=m.length:=by omega
 rw[cd,dm (Hk _)]at I;simp[go_sem,rS,F];exact b1 _ _ _ _ _ _ _ _ I
end
section
open Go.Dm
set_option maxRecDepth 10000
def aiJ{l:List FV}{x:D}(q:Sl 11 (l.map FV.c) x)(F:l.length<40){key:Nm}{known:Int}:∃(y:D)(m:List SV),ai VS 230 [x,.s key,.i .i64 known] y/\Sl 8 (m.map SV.c) y/\m.map SV.n=gV (cL (l.map FV.n) key known):=by
 have I:=λ{K}=>ah8 (key:=key) (known:=known) q.c1 (K:=K);have h:aE VS 230 [x,.s key,.i .i64 known] (λr=>∃d,r=.ret d/\∃m:List SV,Sl 8 (m.map SV.c) d/\m.map SV.n=gV (cL (l.map FV.n) key known)):=by
  refine .body (vf:=BI) Qq rfl ?_;simp(disch:=omega)only[go_sem,simprocAttr,apJ,I];refine(aii q F).mono λr hr=>?_;obtain⟨T,G,d,rfl,t1,t2,t⟩:=hr;rw[<-t1];have ad:T.length<40:=by omega
  obtain⟨b,J⟩:∃b:ab,b.length=G.length/\(∃ds,aX bE G [d]=some ([ds],b)/\Sl 11 (T.map FV.c) ds)/\(T≠[]->∃A,d=.mu A T.length 0 T.length/\b[A]?=some (.ar 11 (T.map FV.c) none true true)):=by
   rcases t with⟨rfl,rfl⟩|⟨a,rfl,k⟩;·exact⟨G,rfl,⟨.nil,rfl,.nil rfl⟩,λh=>absurd rfl h⟩
   have L:aK G a T.length=some (11,T.map FV.c,none,true,false):=by simp[Dm.aK,k]
   refine⟨G.set a (.ar 11 (T.map FV.c) none true true),by simp,⟨.im 11 (T.map FV.c),?_,.im⟩,λh=>⟨a,rfl,N1 (aw k)⟩⟩;simp only[go_sem,simprocAttr,L];rw[E4 (by simp)]
  obtain⟨g1,⟨ds,g2,g3⟩,g4⟩:=J;obtain⟨y,M,e⟩:=aip g3 (by omega);have u:=λ{K}=>fX (V:=VS) (K:=K) QM rfl M g2;rw[show BO.own=false from rfl]at u;have N:∀{H:ab},dj H 1 d=some (.i .i64 T.length):=λ{H}=>by rcases t with⟨rfl,rfl⟩|⟨a,rfl,k⟩<;>rfl
  obtain⟨c,f⟩:∃c,c=fZ (T.map FV.n):=⟨_,rfl⟩;have v:c.length<1000000:=by have:=aiu T;rw[f];omega
  rw[<-f]at e;have P:=λ{H:ab}=>e.n (H:=H);have Q:∃A,A≠b.length/\(T≠[]->d=.mu A T.length 0 T.length/\b[A]?=some (.ar 11 (T.map FV.c) none true true)):=by
   by_cases w:T=[];·exact⟨b.length+1,by omega,λh=>absurd w h⟩
   obtain⟨A,S,z⟩:=g4 w;exact⟨A,by have:=aw z;omega,λ_=>⟨S,z⟩⟩
  obtain⟨A,o,B⟩:=Q;have U:=aix (A:=A) (n:=T.length) (T:=T) (days:=c);simp(disch:=omega)only[go_sem,simprocAttr,u,zu,P];refine⟨⟨⟨by omega,by omega⟩,⟨by omega,by omega⟩,by omega⟩,?_⟩;rw[<-U];obtain⟨g,j⟩:∃g,g=b++[an.ar 1 (dX A T.length T c 0) (some c.length) false false]:=⟨_,rfl⟩;have p:g[b.length]?=some (.ar 1 (dX A T.length T c 0) (some c.length) false false):=by rw[j];exact wq
  have E:T≠[]->g[A]?=some (.ar 11 (T.map FV.c) none true true):=λh=>by rw[j];exact tW (B h).2
  rw[<-j];obtain⟨C,W⟩:∃C,C=b.length:=⟨_,rfl⟩;rw[<-W]at p o⊢;clear j;simp(disch:=omega)only[go_sem,simprocAttr,N];refine aiF e v (by omega) (by rw[f];exact AU _) p E o (λh=>(B h).1) λc4 c5 ag ah aj ak=>?_;have X:∀{H:ab}{n:Nat},dj H 1 (.mu C n 0 n)=some (.i .i64 n):=λ{H n}=>rfl;simp(disch:=omega)only[go_sem,simprocAttr,X];refine aiI (A:=A) f e v (by omega) (N1 (aw p)) (λh=>by rw[Hy (AAN o)];exact E h) λacc c6 c7 c8 ap aq au av Y=>?_;simp(disch:=omega)only[go_sem,simprocAttr];exact⟨acc,qV rfl 8 _,Y⟩
 obtain⟨d,Z,m,h2,h3⟩:=h.ex;exact⟨d,m,Z,h2,h3⟩
end
section
open Go.Dm
set_option maxRecDepth 10000
structure Fc where
 key:Nm
 frm:Int
 to:Int
 known:Int
 gone:Bool
 v:Vl
 hk:key.length<1000000000000000
instance:Inhabited Fc:=⟨⟨[],0,0,0,false,default,by simp⟩⟩
def Fc.c(f:Fc):List D:=[.s f.key,.i .i64 f.frm,.i .i64 f.to,.i .i64 f.known,.b f.gone,.i .u8 f.v.k,.b f.v.f.s,f.v.f.x,.b f.v.f.t,f.v.f.y,.i .i64 f.v.i]
theorem Fc.len(f:Fc):f.c.length=11:=rfl
def Fc.fl(f:Fc):f.c.all D.flat=true:=by simp[Fc.c,nh,jR,cZ,f.v.f.hx.flat,f.v.f.hy.flat]
def Fc.pl(f:Fc):(D.ag f.c).plain=true:=by exact f.fl
def aiK(a b:Vl){H:ab}{K:CR->Prop}:ac VS 60 [a.d,b.d] H K↔K (.ret (.b (a.eq b)) H):=by
 have c:=λ{H K}=>RF.same_c a.f b.f (H:=H) (K:=K);refine ai.c (.body wb rfl ?_) wb rfl (by simp[a.pl,b.pl]) (.inl rfl);unfold Vl.eq;simp only[RF.d,RF.cells,Vl.d,Vl.cells]at c⊢;by_cases d:a.k=b.k
 ·have d1:(a.k=(b.k:Int))↔True:=iff_of_true (by omega) trivial;by_cases e:a.i=b.i;·simp[go_sem,simprocAttr,ur,c,d,e,y5]
  simp[go_sem,simprocAttr,ur,e,decide_false]
 have d1:¬(a.k:Int)=b.k:=by omega
 simp[go_sem,simprocAttr,ur,d1,d,decide_false]
def aiL{n:Int}{H:ab}{K:CR->Prop}:ac VS 59 [.i .i64 n] H K↔K (.ret (.b (decide (0<=n/\n<65536))) H):=by
 refine ai.c (.body PI rfl ?_) PI rfl rfl (.inl rfl);by_cases a:0<=n
 ·by_cases c:n<65536;·simp[go_sem,HA,a];try simp[a,c]
  simp[go_sem,HA,a];try simp[a,c]
 simp only[go_sem,HA,a];grind
def Fc.rng(f:Fc):Prop:=1<=f.key.length/\f.key.length<=24/\0<=f.frm/\f.frm<f.to/\f.to<=65536/\0<=f.known/\f.known<65536
instance(f:Fc):Decidable f.rng:=inferInstanceAs(Decidable (_/\_))
def Fc.right(f:Fc):Bool:=decide f.rng&&(if f.gone=true then f.v.eq default else f.v.valid)
def aiM(f:Fc):ai VS 24 [.ag f.c] (.b f.right):=by
 have e:=λ{H K}=>aiL (n:=f.known) (H:=H) (K:=K);have o:=λ{H K}=>aiK f.v default (H:=H) (K:=K);have p:=λ{H K}=>(Me f.v).c (H:=H) (K:=K) zG rfl (by simp[f.v.pl]) (.inl rfl);rw[show(default:Vl).d=.ag [.i .u8 0,.b false,.nil,.b false,.nil,.i .i64 0]from rfl]at o;simp[Vl.d,Vl.cells]at o p;refine .body Pu rfl ?_;unfold Fc.right;simp only[Fc.c];by_cases k:(f.key.length:Int)<1;·rw[R1 (λg=>by have:=g.1;omega)];simp[go_sem,simprocAttr,pH,k]
 by_cases l:24<(f.key.length:Int);·rw[R1 (λg=>by have:=g.2.1;omega)];simp[go_sem,simprocAttr,pH,l]
 by_cases a:f.frm<0;·rw[R1 (λg=>by have:=g.2.2.1;omega)];simp[go_sem,simprocAttr,pH,a]
 by_cases h:f.to<=f.frm;·rw[R1 (λg=>by have:=g.2.2.2.1;omega)];simp[go_sem,simprocAttr,pH,a,h]
 by_cases m:65536<f.to;·rw[R1 (λg=>by have:=g.2.2.2.2.1;omega)];simp[go_sem,simprocAttr,pH,a,h,m]
 by_cases j:0<=f.known/\f.known<65536;·rw[R2 j]at e;rw[R2 ⟨by omega,by omega,by omega,by omega,by omega,j.1,j.2⟩];cases q:f.gone with|true=>simp[go_sem,simprocAttr,pH,k,l,a,h,m,e,o]|false=>simp[go_sem,simprocAttr,pH,k,l,a,h,m,e,p,y5]
 rw[R1 j]at e;rw[R1 (λg=>j g.2.2.2.2.2)];simp only[go_sem,simprocAttr,pH,k,l,a,h,m,e]
def aiN(f:Fc){H:ab}{K:CR->Prop}:ac VS 23 (.ag f.c::[]) H K↔K (.ret (.b (!f.right)) H):=by have a:=λ{H K}=>(aiM f).c (H:=H) (K:=K) Pu rfl (by simp[f.pl]) (.inl rfl);refine ai.c (.body Pt rfl ?_) Pt rfl (by simp[f.pl]) (.inl rfl);simp only[Fc.c]at a⊢;simp[go_sem,aok,a]
def ig(m:List (Nm×Nat))(key:Nm):Nat:=(@List.lookup Nm Nat instBEqOfDecidableEq key m).getD 0
def rj(m:List (Nm×Nat))(f:Fc):Bool:=decide (ig m f.key≠0)&&!f.gone&&decide (ig m f.key≠f.v.k)
def pi(m:List (Nm×Nat))(f:Fc):List (Nm×Nat):=aZ f.key (max (ig m f.key) f.v.k) m
def iQ:List Fc->List (Nm×Nat)->Bool|[],_=>true|f::l,m=>if rj m f=true then false else iQ l (pi m f)
def kE(m:List (Nm×Nat)):List (D×D):=de (λs:Nm=>D.s s) (λn:Nat=>D.i .u8 n) m
def aiO{m:List (Nm×Nat)}{key:Nm}:eP (.c 2) (.s key) false (.i .u8 0) (some (.mp (kE m)))=some (.i .u8 (ig m key)):=by
 unfold kE ig;rw[sY (ek:=λs:Nm=>D.s s) yM key m false _];have:∀o:Option Nat,(Option.map (λn:Nat=>D.i .u8 (n:Int)) o).getD (.i .u8 0)=.i .u8 ((o.getD 0:Nat):Int):=λo=>by cases o<;>rfl
 grind
def aiP{m:List (Nm×Nat)}{key:Nm}{n:Nat}{H:ab}{i:Nat}:jN H (.c 2) i (.s key) (.i .u8 n) (some (.mp (kE m)))=some (H.set i (.mp (kE (aZ key n m)))):=oJ (ev:=λn:Nat=>D.i .u8 n) yM i key n m
def aiQ{l:List Fc}{i:Nat}{m:List (Nm×Nat)}(h:i<l.length):iQ (l.drop i) m=if rj m l[i]! =true then false else iQ (l.drop (i+1)) (pi m l[i]!):=by rw[mm h,K0 l i h];rfl
def aiR{l:List Fc}{x:D}(w:Sl 11 (l.map Fc.c) x)(S:l.length<1000000):ac VS 25 [x] [] (λr=>∃d H,r=.ret (.tu [d,.b (iQ l [])]) H):=by
 have C:=λ{H:ab}=>w.n (H:=H);have h:=λ{V dr os keep E F Q G H I k J}=>w.q (V:=V) (dr:=dr) (os:=os) (keep:=keep) (loc:=E) (sl:=F) (Q:=Q) (sl':=G) (H:=H) (H':=I) (k:=k) (x:=J);refine .body agf rfl rfl ?_;simp[go_sem,aol,C];refine ak.up (λi s=>∃(m:List _)(y z A B:D),iQ (l.drop i) m=iQ l []/\s=⟨[x,.mnil,.b false,y,z,.i .i64 i,.i .i64 _,x,.mp 0,A,B],[.mp (kE m)]⟩) l.length ⟨[],_,_,_,_,rfl,rfl⟩ ?_;rintro i s hi⟨m,y,z,A,B,q,rfl⟩;by_cases K:i<l.length
 ·have a:(i:Int)<(l.length:Int):=by omega
  have j:(0:Int)<=(i:Int):=by omega
  have t:IntKind.i64.wrap (i+1)=((i+1:Nat)):=by grind[wr]
  have hs:=aiQ (m:=m) K;obtain⟨f,c⟩:∃f,f=l[i]!:=⟨_,rfl⟩;rw[<-c,q]at hs;have e:=aiO (m:=m) (key:=f.key);have u:=λ{n:Nat}{H:ab}{i:Nat}=>aiP (m:=m) (key:=f.key) (n:=n) (H:=H) (i:=i);have o:(max (ig m f.key:Int) f.v.k)=((max (ig m f.key) f.v.k:Nat)):=by omega
  unfold rj at hs;obtain⟨k,L⟩:∃k,k=ig m f.key:=⟨_,rfl⟩;rw[<-L]at e hs o;by_cases M:k=0;·have g:((k:Int)=0)↔True:=iff_of_true (by omega) trivial;simp only[go_sem,simprocAttr,xd,h,a,j,<-c,Fc.c,e,g,o,u,t];grind[pi]
  have g:¬(k:Int)=0:=by omega
  rw[R2 M,y5]at hs;cases p:f.gone with|true=>simp only[go_sem,simprocAttr,xd,h,a,j,<-c,Fc.c,p,e,g,o,u,t];grind[pi]|false=>
  rw[p,Bool.not_false,y5]at hs;by_cases N:k=f.v.k;·have v:((k:Int)=(f.v.k:Int))↔True:=iff_of_true (by omega) trivial;simp only[go_sem,simprocAttr,xd,h,a,j,<-c,Fc.c,p,e,g,v,o,u,t];grind[pi]
  have v:¬(k:Int)=(f.v.k:Int):=by omega
  rw[R2 N,G1 rfl]at hs;simp only[go_sem,simprocAttr,xd,h,a,j,<-c,Fc.c,p,e,g,v,hs];grind
 have a:¬(i:Int)<(l.length:Int):=by omega
 have P:i=l.length:=by omega
 rw[P,dm (Hk _)]at q;have:iQ l []=true:=q.symm;simp only[go_sem,xd,a,this];grind
def eJ(l:List Fc):Bool:=decide (l.length<=2000)&&l.all Fc.right&&iQ l []
def Af{l:List Fc}{x:D}(e:Sl 11 (l.map Fc.c) x)(j:l.length<1000000000):ai VS 9 [x] (.b (eJ l)):=by
 have f:=λ{H:ab}=>e.n (H:=H);have c:=λ{H K}=>mj (agg:=true) (H:=H) (K:=K) (Pr.trans (by kernel_rfl)) (PH.trans (by kernel_rfl)) e (by omega) Fc.len (λ_=>rfl) (by decide) (λa K=>aiN a);have i:(l.any λs=>!s.right)=!(l.all Fc.right):=by grind
 rw[i]at c;refine .body vZ rfl ?_;unfold eJ;by_cases g:2000<(l.length:Int);·rw[R1 (by omega)];simp[go_sem,GG,f,g]
 rw[R2 (by omega)];cases hr:l.all _ with|false=>rw[hr]at c;simp[go_sem,GG,f,c,ACJ]|true=>rw[hr]at c;simp[go_sem,GG,f,g,c,y5];refine(aiR e (by omega)).mono λr h=>?_;obtain⟨d,H,rfl⟩:=h;simp[go_sem]
def Fc.n(f:Fc):FN:=⟨f.key,f.frm,f.to,f.known,f.gone,if f.gone=true then default else f.v.nv⟩
def Fc.fv{f:Fc}(h:f.right=true):∃g:FV,g.c=f.c/\g.n=f.n:=by
 unfold Fc.right at h;simp only[D0,Hq]at h;obtain⟨hr,c⟩:=h;have j:=hr.2.2.2.1
 cases d:f.gone with|true=>
 rw[d,G1 rfl]at c;unfold Vl.eq at c;simp[D0,Hq]at c;obtain⟨⟨m,z⟩,n⟩:=c;have w:f.v.k=0:=m;have x:f.v.i=0:=n;refine⟨⟨f.key,f.frm,f.to,f.known,true,⟨⟨f.v.k,0,0,f.v.i⟩,.b f.v.f.s,f.v.f.x,.b f.v.f.t,f.v.f.y⟩,by simp[AV.c,jR,cZ,f.v.f.hx.flat,f.v.f.hy.flat],(λh=>by cases h),j⟩,?_,?_⟩;·simp only[FV.c,Fc.c,d]
 unfold FV.n Fc.n;rw[d];rfl|false=>
 rw[d,E1 (by decide)]at c;obtain⟨d1,d2⟩:=Vl.nv_ok c;obtain⟨a,o,p,k⟩:=d1.av d2;have e:a.c=f.v.cells:=by have:D.ag _=D.ag a.c:=p;grind
 have l:[D.i .u8 a.v.k,a.s,a.x,a.t,a.y,D.i .i64 a.v.i]=[.i .u8 f.v.k,.b _,f.v.f.x,.b _,f.v.f.y,.i .i64 f.v.i]:=e;refine⟨⟨f.key,f.frm,f.to,f.known,false,a,k.al,λ_=>k,j⟩,?_,?_⟩;·simp only[qo,and_true]at l;obtain⟨q,r,s,t,u,v⟩:=l;simp only[FV.c,Fc.c,d,q,r,s,t,u,v]
 unfold FV.n Fc.n;simp only[d,zv,if_false,o]
def RT:∀{l:List Fc},(∀f∈l,f.right=true)->∃m:List FV,m.map FV.c=l.map Fc.c/\m.map FV.n=l.map Fc.n|[],_=>⟨[],rfl,rfl⟩|r::l,h=>by obtain⟨v,a,b⟩:=Fc.fv (h r N2);obtain⟨m,c,d⟩:=RT λs hs=>h s (K2 _ hs);exact⟨v::m,by grind,by grind⟩
def Ag{l:List Fc}(h:eJ l=true):∀f∈l,f.right=true:=by grind[eJ]
def aiS{l:List Fc}{x:D}(a:Sl 11 (l.map Fc.c) x)(j:l.length<40)(hr:eJ l=true){key:Nm}{known:Int}:∃(y:D)(m:List SV),ai VS 180 [x,.s key,.i .i64 known] (.tu [y,.i .i64 0])/\Sl 8 (m.map SV.c) y/\m.map SV.n=gV (cL (l.map Fc.n) key known):=by
 obtain⟨fs,b,k⟩:=RT (Ag hr);have n:fs.length=l.length:=by have:=gb List.length b;grind
 obtain⟨y,m,f,d,o⟩:=aiJ (by rw[b];exact a) (by omega) (key:=key) (known:=known);have e:=λ{H K}=>(Af a (by omega)).c (H:=H) (K:=K) vZ rfl (by simp[a.pl]) (.inl rfl);rw[hr]at e;have g:=λ{H K}=>f.c (H:=H) (K:=K) Qq rfl (by simp[a.pl,aV,nq]) (.inl rfl);have h:=λm H=>ah d.flat m H;refine⟨y,m,.body Qe rfl ?_,d,by grind⟩;simp[go_sem,apl,e,g,h]
end
section
open Go.Dm
set_option maxRecDepth 10000
def Ah(l:List bU):Prop:=l.Pairwise λr s=>r.a<=s.a
def E7{α:Type}{p:α->α->Bool}{R:α->α->Prop}(f:∀r s,p r s=true->R r s)(g:∀r s u,R r s->R s u->R r u):∀{l:List α},nI p l=true->l.Pairwise R
 |[],_=>List.Pairwise.nil|[a],_=>ABB ..|a::b::l,h=>by
  have d:(p a b&&nI p _)=true:=h;rw[D0]at d;have i:=E7 f g d.2;refine List.Pairwise.cons ?_ i;intro c e;rcases dA.1 e with rfl|e;·grind
  exact g _ _ _ (f _ _ d.1) ((ey.1 i).1 c e)
def aiT{r s:Rw}(h:(!decide (pd s r<0))=true):r.a<=s.a:=by grind[pd,iO]
def aiU{l:List Rw}(h:pf l=true):l.Pairwise λr s=>r.a<=s.a:=E7 (λ_ _ h=>aiT h) (λ_ _ _ a b=>by omega) h
def aiV(a:Int)(acc:List Rw)(r:Rw):List.Sublist (cf a acc r) (acc++[r]):=by
 unfold cf;split;·exact List.sublist_append_left ..
 split
 ·split;·exact(List.dropLast_sublist acc).append (ABG _)
  exact ABG _
 exact ABG _
def Ai{known:Int}:∀{l acc:List Rw},List.Sublist (l.foldl (cf known) acc) (acc++l)|[],acc=>by simp|r::l,acc=>by have:=(Ai (known:=known)).trans ((aiV known acc r).append (ABG l));grind
def E8{t:Tb}(h:t.v=true)(a:Int):Ah (bK a (t.rows.map Rw.n) []):=by
 have hs:pf t.rows=true:=by grind[Tb.v]
 have b:=(aiU hs).sublist (by simpa using Ai (known:=a) (acc:=[]));have:=wo (known:=a) (l:=t.rows) (acc:=[]);rw[y4]at this;rw[this];unfold Ah;rw[ABF];exact b
def aiW{l:List bU}{a:Int}(h:Ah l){k:Nat}(j:k<=l.length)(f:k<l.length->a<l[k]!.a)(g:0<k->l[k-1]!.a<=a):l.filter (λr=>decide (r.a<=a))=l.take k:=by
 have d:=vx.1 h;have e:=(pu k l).symm;have m:(l.take k).filter (λr=>decide (r.a<=a))=l.take k:=by
  rw[sn];intro r hr;obtain⟨i,hi,rfl⟩:=kh.1 hr;rw[fL]at hi;have b:=g (by omega);rw[K0 l _ (by omega)]at b;rw[ABw];by_cases c:i=k-1;·subst c;simpa using b
  have:=d i (k-1) (by omega) (by omega) (by omega);simp only[Hq];omega
 have n:(l.drop k).filter (λr=>decide (r.a<=a))=[]:=by
  rw[rr];intro r hr;obtain⟨i,hi,rfl⟩:=kh.1 hr;rw[l3]at hi;have b:=f (by omega);rw[K0 l k (by omega)]at b;rw[ABx];by_cases c:i=0;·subst c;simpa using b
  have:=d k (k+i) (by omega) (by omega) (by omega);simp only[Hq];omega
 grind
def E9{l:List bU}{a:Int}(h:Ah l){k:Nat}(b:k<=l.length)(c:k<l.length->a<l[k]!.a)(d:0<k->l[k-1]!.a<=a):nV l a=if k=0 then none else some l[k-1]!:=by unfold nV;rw[aiW h b c d];grind
def aiX(t:Tb)(a:Int){H:ab}{K:CR->Prop}:ac VS 231 [.ag [.s t.name,.b t.two,t.x],.i .i64 a] H K↔K (.ret (bD H .nil ((t.rows.foldl (cf a) []).map Rw.c)) (bH H 7 ((t.rows.foldl (cf a) []).map Rw.c))):=by
 have f:=Rs t a;have g:aX bE H [.ag t.c,.i .i64 a]=some _:=nw (by
 intro d e;simp[dA,AAO,or_false]at e;rcases e with rfl|rfl;·exact t.pl
 rfl);have c:=fX (K:=K) Et rfl f g;rw[show xr.own=true from rfl]at c;have h:dV true (Ac ((t.rows.foldl (cf a) []).map Rw.c)) H=(bD H .nil ((t.rows.foldl (cf a) []).map Rw.c),bH H 7 ((t.rows.foldl (cf a) []).map Rw.c)):=by generalize(t.rows.foldl _ []).map Rw.c=rows;cases rows with|nil=>rfl|cons r j=>rfl
 rw[h]at c;exact c
def aiY{a:Int}{K:CR->Prop}(c:∀H1,K (.ret .nil (.hb 3 [.i .i64 a]::H1))):ac VS 46 [.nil,.fn (.func 244) [] [.hp 0 0]] [.hb 3 [.i .i64 a]] K:=by
 have b:∀{H:ab},dc H 7 .nil none (some (.i .i64 0)) none=some .nil:=λ{H}=>rfl;refine .body PB rfl rfl ?_;simp[go_sem,simprocAttr,Ve];have hs:=o9 (g:=77) (cp:=[.hp 2 0,.hp 1 0]) (p:=λ_=>true) (H:=[.hb 3 [.i .i64 a],.hb 62 [.nil],.hb 111 [.fn (.func 244) [] [.hp 0 0]]]) (by omega) (by omega) (λi hi=>absurd hi (Nat.not_lt_zero i));refine hs.mono λr hr=>?_;obtain⟨k,rfl,d,_⟩:=hr;obtain rfl:k=0:=by omega
 simp[go_sem,b];grind
def aiZ(r:RV){a:Int}{H:ab}{K:CR->Prop}:ac VS 244 [.ag r.c,.hp 0 0] (.hb 3 [.i .i64 a]::H) K↔K (.ret (.b (decide (a<r.a))) (.hb 3 [.i .i64 a]::H)):=by refine cC (bI.iff_q.2 (.body ag4 rfl rfl ?_));simp only[RV.c];simp[go_sem,simprocAttr,apQ]
def ai0{a:Int}{l:List RV}(h:l≠[])(j:l.length<1000000000){K:CR->Prop}(m:∀H1(k:Nat),k<=l.length->(k<l.length->a<l[k]!.a)->(0<k->l[k-1]!.a<=a)->K (.ret (.mu 1 l.length 0 k) (.hb 3 [.i .i64 a]::.ar 7 (l.map RV.c) none true false::H1))):ac VS 46 [.mu 1 l.length 0 l.length,.fn (.func 244) [] [.hp 0 0]] [.hb 3 [.i .i64 a],.ar 7 (l.map RV.c) none true false] K:=by
 have o:∀{H:ab},aK (.hb 3 [.i .i64 a]::.ar 7 (l.map RV.c) none true false::H) 1 l.length=some (7,l.map RV.c,none,true,false):=λ{H}=>by simp[Dm.aK]
 refine .body PB rfl rfl ?_;simp[go_sem,simprocAttr,Ve];have hs:=o9 (n:=l.length) (g:=77) (cp:=[.hp 3 0,.hp 2 0]) (p:=λi=>decide (a<l[i]!.a)) (H:=[.hb 3 [.i .i64 a],.ar 7 (l.map RV.c) none true false,.hb 62 [.mu 1 l.length 0 l.length],.hb 111 [.fn (.func 244) [] [.hp 0 0]]]) (by omega) (by omega) (λi hi K=>?_)
 ·refine hs.mono λr hr=>?_;obtain⟨k,rfl,q,s,t⟩:=hr;have d:∀{H:ab},dc (.hb 3 [.i .i64 a]::.ar 7 (l.map RV.c) none true false::H) 7 (.mu 1 l.length 0 l.length) none (some (.i .i64 (k:Int))) none=some (.mu 1 l.length 0 k):=λ{H}=>by simp_all[db,gM,fw,dc]
  simp[go_sem,simprocAttr,d];grind
 have c:=λ{H K}=>aiZ l[i]! (a:=a) (H:=H) (K:=K);have e:∀{H:ab},cJ (.hb 3 [.i .i64 a]::.ar 7 (l.map RV.c) none true false::H) (.mu 1 l.length 0 l.length) (.i .i64 i) 7=some (.ap 1 l.length i 0):=λ{H}=>by grind[cJ,eG]
 refine cC (bI.iff_q.2 (.body agE rfl rfl ?_));have u:=λ{args H K}=>gP (V:=VS) (H:=H) (args:=args) (K:=K) (f:=244) (a:=[]) (b:=[.hp 0 0]) (by decide);obtain⟨r,hr⟩:∃r,r=l[i]!:=⟨_,rfl⟩;rw[<-hr]at c⊢;simp[RV.c]at c;simp only[go_sem,simprocAttr,aoM,e,hi,<-hr,RV.c,c,W0]
def ai1(t:Tb)(h:t.v=true)(v:t.two=false)(d a:Int):aE VS 192 [.ag t.c,.i .i64 a,.i .i64 d] (λr=>match nV (bK d (t.rows.map Rw.n) []) a with|none=>r=.ret (.tu [.ag [.b false,.nil,.b false,.nil],.i .i64 6])|some u=>∃p:QV,p.q=(u.n,u.m)/\r=.ret (.tu [.ag [p.s,p.x,p.t,p.y],.i .i64 0])):=by
 have g:=λ{H K}=>(Ab t).c (H:=H) (K:=K) v6 rfl (by simp[t.pl]) (.inl rfl);rw[h]at g;have j:=λ{H K}=>aiX t d (H:=H) (K:=K);have x:=E8 h d;obtain⟨m,y,C⟩:=ET (l:=t.rows.foldl (cf d) []) (EU (P:=λr=>r.f.v=true) (λs hs=>by cases hs) λr hr=>Ru (t.v_rows h r hr));have ad:m.length<=400:=by
  have:=gb List.length y;simp only[S2]at this;have:=(Ai (known:=d) (l:=t.rows) (acc:=[])).length_le;have hl:t.rows.length<=400:=by unfold Tb.v at h;simp only[D0,Hq]at h;exact h.1.1.2.2
  simp only[W0]at this;omega
 have E:m.map RV.n=bK d (t.rows.map Rw.n) []:=by rw[C];exact(wo (l:=t.rows) (acc:=[])).symm
 rw[<-y]at j;rw[<-E]at x⊢;simp only[Tb.c]at g;refine .body (vf:=BA) Ql rfl ?_;simp only[Tb.c,v];simp only[v]at g j;simp(disch:=omega)only[go_sem,simprocAttr,aps,g,j];by_cases n:m=[];·subst n;refine aiY λH1=>?_;have F:∀{H:ab},dj H 1 .nil=some (.i .i64 0):=λ{H}=>rfl;simp(disch:=omega)only[go_sem,simprocAttr,F];trivial
 obtain⟨G,I⟩:=lG (H0:=[.hb 3 [.i .i64 a]]) (w:=7) (enc:=RV.c) n;rw[G,I];refine ai0 n (by omega) λH1 k J L M=>?_;have e:=E9 (a:=a) x (k:=k) (by simpa using J) (λf=>by rw[S2]at f;have:=L f;rw[K0 m k f]at this;rw[K0 (m.map RV.n) k (by simpa using f),wv];exact this) (λf=>by
 have:=M f;have z:k-1<m.length:=by omega
 rw[K0 m (k-1) z]at this;rw[K0 (m.map RV.n) (k-1) (by simpa using z),wv];exact this);have A:∀{H:ab},dj H 1 (.mu 1 m.length 0 k)=some (.i .i64 k):=λ{H}=>rfl;by_cases B:k=0;·rw[G1 B]at e;have o:((k:Int)=0)↔True:=iff_of_true (by omega) trivial;simp(disch:=omega)only[go_sem,simprocAttr,A,o,e]
 rw[E1 B]at e;have o:((k:Int)=0)↔False:=iff_of_false (by omega) id;have N:IntKind.i64.wrap ((k:Int)-1)=((k-1:Nat):Int):=by rw[wr (by omega) (by omega)];omega
 have c3:(0:Int)<=((k-1:Nat):Int):=by omega
 have Q:((k-1:Nat):Int)<(k:Int):=by omega
 have q:k-1<m.length:=by omega
 rw[K0 (m.map RV.n) (k-1) (by simpa using q),wv,<-getElem!_pos m (k-1) q]at e;obtain⟨r,hr⟩:∃r,r=m[k-1]!:=⟨_,rfl⟩;obtain⟨p,S,U⟩:=Rt r.q;rw[<-hr]at e;obtain⟨g1,V,W,X⟩:=p.fl;have Y:=λm H=>ah g1 m H;have Z:=λm H=>ah V m H;have f3:=λm H=>ah W m H;have f4:=λm H=>ah X m H;simp(disch:=omega)only[go_sem,simprocAttr,A,o,N,e,c3,Q,q,<-hr,RV.c,U,Y,Z,f3,f4];exact⟨p,S,rfl⟩
end
section
open Go.Dm
set_option maxRecDepth 10000
def eR(y:Nat):Int×Int:=if 2079<y then(0,2)else if 0<=bM (12*(y-1900))/\bM (12*(y-1900))<65536 then(bM (12*(y-1900)),0)else(0,2)
def ai2{y:Nat}(u:1900<=y)(v:y<100000):ai VS 243 [.i .i64 (y:Int),.i .i64 1,.i .i64 1] (.tu [.i .i64 (eR y).1,.i .i64 (eR y).2]):=by
 have w:nF y 1=31:=rfl;have f:∀{H K},ac VS 200 [.i .i64 y,.i .i64 1] H K↔K (.ret (.i .i64 31) H):=λ{H K}=>by have:=(Q7 (y:=y) (m:=1) (by omega)).c (H:=H) (K:=K) Em rfl rfl (.inl rfl);grind
 have g:¬(y:Int)<1900:=by omega
 refine .body Qy rfl ?_;unfold eR;by_cases h:2079<y
 ·rw[G1 h];have a:(2079:Int)<y:=by omega
  simp[go_sem,Km,a]
 rw[E1 h];have a:¬(2079:Int)<y:=by omega
 obtain⟨k,t⟩:∃k,k=12*(y-1900):=⟨_,rfl⟩;rw[<-t];have j:IntKind.i64.wrap (y-1900)=((y-1900:Nat)):=by grind[wr]
 have l:IntKind.i64.wrap (12*((y-1900:Nat)))=k:=by grind[wr]
 have n:IntKind.i64.wrap _=k+1:=wr (by omega) (by omega);have o:IntKind.i64.wrap (k+1-1)=k:=by grind
 have hr:=zV (m:=k) (by omega);have e:=λ{H K}=>(rh (m:=k) (by omega)).c (H:=H) (K:=K) o6 rfl rfl (.inl rfl);obtain⟨s,hs⟩:∃s,s=bM k:=⟨_,rfl⟩;rw[<-hs]at e hr⊢;have p:IntKind.i64.wrap _=s+1:=wr (by omega) (by omega);have q:IntKind.i64.wrap (s+1-1)=s:=by grind[wr]
 have r:=λ{H K}=>(pc (d:=s)).c (H:=H) (K:=K) nD rfl rfl (.inl rfl);by_cases b:0<=s/\s<65536;·rw[G1 b];simp only[go_sem,simprocAttr,Km,g,a,f,j,l,n,o,e,p,q,r,R2 b]
 rw[E1 b];simp only[go_sem,simprocAttr,Km,g,a,f,j,l,n,o,e,p,q,r,R1 b]
structure YrI(I:Nat->ab->Prop)(a b c:D)(m:Nat)(s:St):Prop where h:∃(y:Nat)(a3 a4 a6 a7:D)(H:ab),m+y=2081/\1900<=y/\s=⟨[a,b,c,a3,a4,.i .i64 (y:Int),a6,a7],H⟩/\I y H
variable{x y z:Nat}
def ai4{lo hi:Int}{l:Nat}{I:Nat->ab->Prop}{E:ab->Prop}(q:∀i H,I i H->H[z]?=some (.hb 3 [.i .i64 hi]))(t:∀i H,I i H->H[l]?=some (.hb 3 [.i .i64 lo]))(v:∀i H,I i H->(eR i).2=0->(eR i).1<hi->(eR i).1<lo->I (i+1) H)(n:∀i H,I i H->((eR i).2≠0\/hi<=(eR i).1)->E H)(hs:∀i H,I i H->i<=2079->(eR i).2=0->(eR i).1<hi->lo<=(eR i).1->ac VS yF [.yl x,.i .i64 (i:Int)] H (λr=>∃e,(r=.ret (.b true) e/\I (i+1) e)\/(r=.ret (.b false) e/\E e))){H:ab}(w:I 1900 H):ac VS 242 [.yl x,.hp z 0,.hp l 0] H (λr=>∃d e,r=.ret d e/\E e):=by
 refine .body ag3 rfl rfl ?_;simp[go_sem,apP];refine ak.loop (YrI I _ _ _) 181 ⟨1900,.u,.u,.u,.u,H,rfl,Hk _,rfl,w⟩ ?_;rintro m s⟨y,J,L,M,N,e,P,A,rfl,f⟩;have g:=λ{H K}=>(ai2 A (by omega)).c (H:=H) (K:=K) Qy rfl rfl (.inl rfl);have o:IntKind.i64.wrap ((y:Int)+1)=((y+1:Nat):Int):=by rw[wr (by omega) (by omega)];omega
 have j:=q _ _ f;have p:=t _ _ f;by_cases a:(eR y).2=0
 ·have B:y<=2079:=by refine ga λQ=>?_;unfold eR at a;rw[G1 (by omega)]at a;exact absurd a (by decide)
  by_cases h:hi<=(eR y).1;·simp[go_sem,BJ,g,a,h,j];exact⟨_,_,⟨rfl,rfl⟩,n _ _ f (.inr h)⟩
  by_cases k:lo<=(eR y).1
  ·simp[go_sem,BJ,g,a,h,k,j,p];refine(hs _ _ f B a (by omega) k).mono ?_;rintro r⟨C,⟨rfl,F⟩|⟨rfl,G⟩⟩;·simp[go_sem];exact⟨m-1,by omega,y+1,_,_,_,_,C,by omega,by omega,by rw[o],F⟩
   simp[go_sem];exact⟨_,_,⟨rfl,rfl⟩,G⟩
  simp[go_sem,BJ,g,a,h,k,j,p];exact⟨m-1,by omega,y+1,_,_,_,_,e,by omega,by omega,by rw[o],v _ _ f a (by omega) (by omega)⟩
 simp[go_sem,BJ,g,a];exact⟨_,_,⟨rfl,rfl⟩,n _ _ f (.inl a)⟩
end
section
open Go.Dm
set_option maxRecDepth 10000
def rn(rows:List bU)(a y:Int):EQ:=match nV (bK a rows []) y with|none=>.error 6|some r=>.ok (r.n,r.m)
def Aj(rows:List bU)(c:Int)(acc:Fq)(y:Int):EQ:=match rn rows c y with|.error e=>.error e|.ok a=>match pr (1,1) a with|.error e=>.error e|.ok b=>nU acc b
def kI(rows:List bU)(b lo hi:Int):Nat->Nat->Fq->EQ|0,_,acc=>.ok acc|n+1,y,acc=>if(eR y).2≠0\/hi<=(eR y).1 then .ok acc else if(eR y).1<lo then kI rows b lo hi n (y+1) acc else match Aj rows b acc y with|.error e=>.error e|.ok a=>kI rows b lo hi n (y+1) a
def ai5(t:Tb)(h:t.v=true)(c:t.two=false)(b a:Int):∃r,ai VS 192 [.ag t.c,.i .i64 a,.i .i64 b] r/\ba (rn (t.rows.map Rw.n) b a) r:=by refine aE.ex ((ai1 t h c b a).mono λr hr=>?_);grind[rn,nV,bK,Rw.n,ba.er,ba.ok]
def ai6(t:Tb)(h:t.v=true)(g:t.two=false)(d y:Int):∃r,ba (rn (t.rows.map Rw.n) d y) r/\∀{q:QV}{a b c:Nat}{H:ab}{K:CR->Prop},H[a]?=some (.hb 64 [.s t.name,.b false,t.x])->H[b]?=some (.hb 3 [.i .i64 y])->H[c]?=some (.hb 3 [.i .i64 d])->(ac VS 191 [.ag [q.s,q.x,q.t,q.y],.hp a 0,.hp b 0,.hp c 0] H K↔K (.ret r H)):=by
 obtain⟨r,r1,r2⟩:=ai5 t h g d y;have f:=λ{H K}=>r1.c (H:=H) (K:=K) Ql rfl (by simp[t.pl,aV]) (.inl rfl);simp[Tb.c,g]at f;refine⟨r,r2,λ{q a b c H K}j k l=>cC (bI.iff_q.2 (.body agU rfl rfl ?_))⟩;rcases r2.h with⟨p,m,rfl⟩|⟨e,m,n,rfl⟩;·simp[go_sem,Wp,j,k,l,f]
 simp[go_sem,Wp,j,k,l,f]
def ai7(o q:QV):∃r,ba (pr o.q q.q) r/\∀{a:Nat}{H:ab}{K:CR->Prop},H[a]?=some (.hb 32 [o.s,o.x,o.t,o.y])->(ac VS 193 [.ag [q.s,q.x,q.t,q.y],.hp a 0] H K↔K (.ret r H)):=by
 obtain⟨r,r2,r1⟩:=o.add q;refine⟨r,r2,λ{a H K}b=>cC (bI.iff_q.2 (.body agV rfl rfl ?_))⟩;rcases r2.h with⟨p,c,rfl⟩|⟨e,c,d,rfl⟩;·simp[go_sem,Wq,b,r1]
 simp[go_sem,Wq,b,r1]
def ai8(o q:QV):∃r,ba (nU o.q q.q) r/\∀{a:Nat}{H:ab}{K:CR->Prop},H[a]?=some (.hb 32 [o.s,o.x,o.t,o.y])->(ac VS 195 [.ag [q.s,q.x,q.t,q.y],.hp a 0] H K↔K (.ret r H)):=by
 obtain⟨r,r2,r1⟩:=o.mul q;refine⟨r,r2,λ{a H K}b=>cC (bI.iff_q.2 (.body agW rfl rfl ?_))⟩;rcases r2.h with⟨p,c,rfl⟩|⟨e,c,d,rfl⟩;·simp[go_sem,Ws,b,r1]
 simp[go_sem,Ws,b,r1]
def ai9(t:Tb)(h:t.v=true)(L:t.two=false)(v y:Int)(one acc:QV)(M:one.q=(1,1)):∃r,ba (Aj (t.rows.map Rw.n) v acc.q y) r/\∀{a b c d e:Nat}{H:ab}{K:CR->Prop},H[a]?=some (.hb 64 [.s t.name,.b false,t.x])->H[b]?=some (.hb 3 [.i .i64 y])->H[c]?=some (.hb 3 [.i .i64 v])->H[d]?=some (.hb 32 [one.s,one.x,one.t,one.y])->H[e]?=some (.hb 32 [acc.s,acc.x,acc.t,acc.y])->(ac VS 196 [.ag [one.s,one.x,one.t,one.y],.sv 1 [[.fn (.func 191) [] [.hp a 0,.hp b 0,.hp c 0]],[.fn (.func 193) [] [.hp d 0]],[.fn (.func 195) [] [.hp e 0]]]] H K↔K (.ret r H)):=by
 obtain⟨r1,N,p⟩:=ai6 t h L v y;have w:IntKind.i64.wrap 1=1:=by decide
 have B:IntKind.i64.wrap 2=2:=by decide
 have P:IntKind.i64.wrap 3=3:=by decide
 have c1:=λ{b args H K}=>gP (V:=VS) (H:=H) (args:=args) (K:=K) (f:=191) (a:=[]) (b:=b) (by decide);have c2:=λ{b args H K}=>gP (V:=VS) (H:=H) (args:=args) (K:=K) (f:=193) (a:=[]) (b:=b) (by decide);have c3:=λ{b args H K}=>gP (V:=VS) (H:=H) (args:=args) (K:=K) (f:=195) (a:=[]) (b:=b) (by decide);have u:∀{a b c d e:Nat}{H:ab},cJ H (.sv 1 [[.fn (.func 191) [] [.hp a 0,.hp b 0,.hp c 0]],[.fn (.func 193) [] [.hp d 0]],[.fn (.func 195) [] [.hp e 0]]]) (.i .i64 0) 1=some _:=λ{_ _ _ _ _ _}=>rfl;have x:∀{a b c d e:Nat}{H:ab},cJ H (.sv 1 [[.fn (.func 191) [] [.hp a 0,.hp b 0,.hp c 0]],[.fn (.func 193) [] [.hp d 0]],[.fn (.func 195) [] [.hp e 0]]]) (.i .i64 1) 1=some _:=λ{_ _ _ _ _ _}=>rfl;have C:∀{a b c d e:Nat}{H:ab},cJ H (.sv 1 [[.fn (.func 191) [] [.hp a 0,.hp b 0,.hp c 0]],[.fn (.func 193) [] [.hp d 0]],[.fn (.func 195) [] [.hp e 0]]]) (.i .i64 2) 1=some _:=λ{_ _ _ _ _ _}=>rfl;unfold Aj;rcases N.h with⟨Q,z1,rfl⟩|⟨S,z1,E,rfl⟩
 ·rw[z1];simp only;obtain⟨r2,F,z⟩:=ai7 one Q;rw[M]at F;rcases F.h with⟨U,z2,rfl⟩|⟨W,z2,G,rfl⟩
  ·rw[z2];obtain⟨r3,u3,I⟩:=ai8 acc U;rcases u3.h with⟨p3,z3,rfl⟩|⟨X,z3,J,rfl⟩;·refine⟨_,ba.ok z3,λ{a b c d e H K}g j k m n=>cC (bI.iff_q.2 (.body zO rfl rfl ?_))⟩;have l:=λ{q K}=>p (q:=q) (K:=K) g j k;have o:=λ{K}=>z (K:=K) m;have A:=λ{K}=>I (K:=K) n;simp[go_sem,BC];rw[bv];simp[go_sem,simprocAttr,BB,u,l,w];rw[bv];simp[go_sem,simprocAttr,x,o,B];rw[bv];simp[go_sem,simprocAttr,C,A,P];rw[bv];simp[go_sem,simprocAttr]
   have Y:¬X=0:=J;refine⟨_,ba.er z3 J,λ{a b c d e H K}g j k m n=>cC (bI.iff_q.2 (.body zO rfl rfl ?_))⟩;have l:=λ{q K}=>p (q:=q) (K:=K) g j k;have o:=λ{K}=>z (K:=K) m;have A:=λ{K}=>I (K:=K) n;simp[go_sem,BC];rw[bv];simp[go_sem,simprocAttr,BB,u,l,w];rw[bv];simp[go_sem,simprocAttr,x,o,B];rw[bv];simp[go_sem,simprocAttr,C,A,Y]
  have Z:¬W=0:=G;rw[z2];refine⟨_,ba.er rfl G,λ{a b c d e H K}g j k m n=>cC (bI.iff_q.2 (.body zO rfl rfl ?_))⟩;have l:=λ{q K}=>p (q:=q) (K:=K) g j k;have o:=λ{K}=>z (K:=K) m;simp[go_sem,BC];rw[bv];simp[go_sem,simprocAttr,BB,u,l,w];rw[bv];simp[go_sem,simprocAttr,x,o,Z]
 have aa:¬S=0:=E;rw[z1];refine⟨_,ba.er rfl E,λ{a b c d e H K}g j k m n=>cC (bI.iff_q.2 (.body zO rfl rfl ?_))⟩;have l:=λ{q K}=>p (q:=q) (K:=K) g j k;simp[go_sem,BC];rw[bv];simp[go_sem,simprocAttr,BB,u,l,aa]
end
end Go.Proofs.YtekgndcflpklkaaGreatDoor.Dv
