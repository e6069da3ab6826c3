/-
  Part of the proof.
-/
import Derived.Test.YtekgndcflpklkaaGreatDoorG
set_option linter.all false
namespace Go.Proofs.YtekgndcflpklkaaGreatDoor.Dv
section
open Go.Dm
set_option maxRecDepth 10000
def AF (f:FuncId) (ds:List D):Prop := ∃ n:Int,ai VS f ds (.i .i64 n)
def rB (f:FuncId) (ds:List D):Prop := ∃ b:Bool,ai VS f ds (.b b)
theorem rB.of {f:FuncId} {ds:List D} (h:aE VS f ds fun r => ∃ b,r = .ret (.b b)):rB f ds:=by
 obtain⟨n,h1,b,h2⟩:=h
 exact⟨b,n,h2⟩
theorem AF.of {f:FuncId} {ds:List D} (h:aE VS f ds fun r => ∃ b,r = .ret (.i .i64 b)):AF f ds:=by
 obtain⟨n,h1,b,h2⟩:=h
 exact⟨b,n,h2⟩
theorem wO {α:Type} [Inhabited α] {l:List α} {i:Nat} (h:i<l.length):l[i]! ∈ l:=by
 grind
theorem Ex.rpl (e:Ex):(D.ag [.i .u8 e.op,.s e.name,.i .u8 e.v.k,.b e.v.f.s,e.v.f.x,.b e.v.f.t,e.v.f.y,.i .i64 e.v.i,e.sl]).plain=true:=by
 have:=e.pl
 grind[Ex.d,Ex.row_eq]
theorem alg {e:Ex} (h:LX e) : ∀ most bE:Int,AF 84 [e.d,.i .i64 most,.i .i64 bE]:=by
 induction h with | @mk e _ hl _ ih =>
 intro most bE
 refine .of (.body Eb rfl ?_)
 simp only[Ex.d,Ex.row_eq]at ih ⊢
 by_cases c0:bE=0
 ·simp  [go_sem,VB,c0]
  try exact⟨_,rfl⟩
 ·simp  [go_sem,VB,c0,e.hsl.n]
  refine ak.up (fun i s => ∃ (n:Int) (a5 a6 a12:D),s=⟨[.ag [.i .u8 e.op,.s _,.i .u8 e.v.k,.b _,e.v.f.x,.b _,e.v.f.y,.i .i64 e.v.i,e.sl],.i .i64 most,.i .i64 bE,.i .i64 0,.b false,a5,a6,.i .i64 n,.bx [.i .u8 e.op,.s _,.i .u8 e.v.k,.b _,e.v.f.x,.b _,e.v.f.y,.i .i64 e.v.i,e.sl],.i .i64 i,.i .i64 _,e.sl,a12],[]⟩) e.args.length ⟨1,_,_,_,rfl⟩ ?_
  rintro i s hi ⟨n,a5,a6,a12,rfl⟩
  by_cases hlt:i<e.args.length
  ·have c1:(i:Int)<e.args.length:=by omega
   have c2:(0:Int) <= (i:Int):=by omega
   obtain⟨a,ha⟩ : ∃ a,a=e.args[i]! := ⟨_,rfl⟩
   obtain⟨k,hk⟩:=ih a (ha▸wO hlt) (IntKind.i64.wrap (most-n)) (IntKind.i64.wrap (bE-1))
   have e1:=fun{H K}=>hk.c (H:=H) (K:=K) Eb rfl (by simp[a.rpl,aV]) (.inl rfl)
   by_cases c3:n <= most
   ·simp(disch:=omega) only[go_sem,H6,c1,c2,c3,e.hsl.q, <- ha,Ex.row_eq,e1,wr]
    omega
   ·simp(disch:=omega) only[go_sem,H6,c1,c2,c3,e.hsl.q,Ex.row_eq,wr]
    omega
  ·have c1 : ¬ (i:Int)<e.args.length:=by omega
   simp  [go_sem,H6,c1]
theorem alh (v:Vl):rB 99 [v.d]:=by
 refine .of (.body PY rfl ?_)
 have h1:=fun{H:ab}=>v.f.hx.n (H:=H)
 have h2:=fun{H:ab}=>v.f.hy.n (H:=H)
 simp only[Vl.d,Vl.cells]
 by_cases c:(v.f.l.length:Int) <= 8
 ·simp  only[go_sem,simprocAttr,VJ,h1,h2,c]
  try exact⟨_,rfl⟩
 ·simp  [go_sem,simprocAttr,VJ,h1,c]
  try exact⟨_,rfl⟩
theorem ali {e:Ex} (h:LX e):rB 85 [e.d]:=by
 induction h with | @mk e _ hl _ ih =>
 refine .of (.body Ec rfl ?_)
 simp only[Ex.d,Ex.row_eq]at ih ⊢
 obtain⟨b,hb⟩:=alh e.v
 have e0:=fun{H K}=>hb.c (H:=H) (K:=K) PY rfl (by simp[e.v.pl]) (.inl rfl)
 simp[Vl.d,Vl.cells]at e0
 cases b with
 | false =>
  simp  [go_sem,simprocAttr,VE,e0]
  try exact⟨_,rfl⟩
 | true =>
  simp  only[go_sem,simprocAttr,VE,e0,e.hsl.n]
  refine ak.up (fun i s => ∃ (a2 a3 a4 a9:D),s=⟨[.ag [.i .u8 e.op,.s _,.i .u8 e.v.k,.b _,e.v.f.x,.b _,e.v.f.y,.i .i64 e.v.i,e.sl],.b false,a2,a3,a4,.bx [.i .u8 e.op,.s _,.i .u8 e.v.k,.b _,e.v.f.x,.b _,e.v.f.y,.i .i64 e.v.i,e.sl],.i .i64 i,.i .i64 _,e.sl,a9],[]⟩) e.args.length ⟨_,_,_,_,rfl⟩ ?_
  rintro i s hi ⟨a2,a3,a4,a9,rfl⟩
  by_cases hlt:i<e.args.length
  ·have c1:(i:Int)<e.args.length:=by omega
   have c2:(0:Int) <= i:=by omega
   obtain⟨a,ha⟩ : ∃ a,a=e.args[i]! := ⟨_,rfl⟩
   obtain⟨k,hk⟩:=ih a (ha▸wO hlt)
   have e1:=fun{H K}=>hk.c (H:=H) (K:=K) Ec rfl (by simp[a.rpl]) (.inl rfl)
   cases k with
   | true =>
    simp(disch:=omega) only[go_sem,H9,c1,c2,e.hsl.q, <- ha,Ex.row_eq,e1,wr]
    omega
   | false =>
    simp  [go_sem,H9,e.hsl.q, <- ha,Ex.row_eq,e1]
    try exact⟨_,rfl⟩
  ·have c1 : ¬ (i:Int)<e.args.length:=by omega
   simp  [go_sem,H9,c1]
   try exact⟨_,rfl⟩
theorem S7 {e:Ex} (h:LX e):rB 55 [e.d]:=by
 induction h with | @mk e _ hl _ ih =>
 refine .of (.body zF rfl ?_)
 simp only[Ex.d,Ex.row_eq]at ih ⊢
 have main : ∀ a2,ak VS (.loop Hr) ⟨[.ag [.i .u8 e.op,.s e.name,.i .u8 e.v.k,.b e.v.f.s,e.v.f.x,.b e.v.f.t,e.v.f.y,.i .i64 e.v.i,e.sl],.b false,a2,.u,.u,.bx [.i .u8 e.op,.s e.name,.i .u8 e.v.k,.b e.v.f.s,e.v.f.x,.b e.v.f.t,e.v.f.y,.i .i64 e.v.i,e.sl],.i .i64 0,.i .i64 e.args.length,e.sl,.u],[]⟩ (mt 0 (kD VS (.seq (.reg [⟨.mov (.c (.b true)),some 1,none⟩] none) .ret) (dh [.s 1] (fG false fun r => ∃ b,r = .ret (.b b))))):=by
  intro a2
  refine ak.up (fun i s => ∃ (a2 a3 a4 a9:D),s=⟨[.ag [.i .u8 e.op,.s _,.i .u8 e.v.k,.b _,e.v.f.x,.b _,e.v.f.y,.i .i64 e.v.i,e.sl],.b false,a2,a3,a4,.bx [.i .u8 e.op,.s _,.i .u8 e.v.k,.b _,e.v.f.x,.b _,e.v.f.y,.i .i64 e.v.i,e.sl],.i .i64 i,.i .i64 _,e.sl,a9],[]⟩) e.args.length ⟨_,_,_,_,rfl⟩ ?_
  rintro i s hi ⟨a2,a3,a4,a9,rfl⟩
  by_cases hlt:i<e.args.length
  ·have c1:(i:Int)<e.args.length:=by omega
   have c2:(0:Int) <= i:=by omega
   obtain⟨a,ha⟩ : ∃ a,a=e.args[i]! := ⟨_,rfl⟩
   obtain⟨k,hk⟩:=ih a (ha▸wO hlt)
   have e1:=fun{H K}=>hk.c (H:=H) (K:=K) zF rfl (by simp[a.rpl]) (.inl rfl)
   cases k with
   | true =>
    simp(disch:=omega) only[go_sem,Ht,c1,c2,e.hsl.q, <- ha,Ex.row_eq,e1,wr]
    omega
   | false =>
    simp  [go_sem,Ht,e.hsl.q, <- ha,Ex.row_eq,e1]
    try exact⟨_,rfl⟩
  ·have c1 : ¬ (i:Int)<e.args.length:=by omega
   simp  [go_sem,Ht,c1]
   try exact⟨_,rfl⟩
 by_cases c5:(e.op:Int)=5
 ·have d5:=iff_of_true c5 trivial
  by_cases c1:(e.args.length:Int)=1
  ·have d1:=iff_of_true c1 trivial
   have c2:(0:Int)<e.args.length:=by omega
   obtain⟨a,ha⟩ : ∃ a,a=e.args[0]! := ⟨_,rfl⟩
   by_cases c3:(a.op:Int)=2
   ·simp  only[go_sem,simprocAttr,Bf,d5,d1,c2,e.hsl.n,e.hsl.q, <- ha,Ex.row_eq,c3]
    grind
   ·simp  only[go_sem,simprocAttr,Bf,d5,d1,c2,e.hsl.n,e.hsl.q, <- ha,Ex.row_eq,c3]
    try exact⟨_,rfl⟩
  ·simp  [go_sem,simprocAttr,Bf,d5,c1,e.hsl.n]
   try exact⟨_,rfl⟩
 ·simp  only[go_sem,simprocAttr,Bf,c5,e.hsl.n]
  grind
theorem FR {e:Ex} (h:LX e) (m:Int):AF 53 [e.d,.i .i64 m]:=by
 obtain⟨k,hk⟩:=alg h m 24
 have e1:=fun{H K}=>hk.c (H:=H) (K:=K) Eb rfl (by simp[e.pl,aV]) (.inl rfl)
 refine .of (.body zE rfl ?_)
 simp only[Ex.d,Ex.row_eq]at e1 ⊢
 simp  [go_sem,aov,e1]
 try exact⟨_,rfl⟩
theorem S8 {e:Ex} (h:LX e) (m:Int):rB 54 [e.d,.i .i64 m]:=by
 obtain⟨k,hk⟩:=FR h m
 obtain⟨b,hb⟩:=ali h
 have e1:=fun{H K}=>hk.c (H:=H) (K:=K) zE rfl (by simp[e.pl,aV]) (.inl rfl)
 have e2:=fun{H K}=>hb.c (H:=H) (K:=K) Ec rfl (by simp[e.pl]) (.inl rfl)
 refine .of (.body D9 rfl ?_)
 simp only[Ex.d,Ex.row_eq]at e1 e2 ⊢
 by_cases c:k <= m
 ·simp  [go_sem,Vf,e1,e2]
  try exact⟨_,rfl⟩
 ·simp  [go_sem,Vf,e1,c]
  try exact⟨_,rfl⟩
end
section
open Go.Dm
set_option maxRecDepth 10000
def wr1:IntKind.i64.wrap 1=1:=by decide
def wr2:IntKind.i64.wrap 2=2:=by decide
section
variable{a0 a1 a3 a4 a5 a6 a7 a8 a9 a10 a11 a12 a13 a15 a16 a17 a18 a22 a23 a24 a25 a26 a27 a28 a29 a30 a31 a32 a33 a34 a35 v:D}{Q:Dm.Ex->St->Prop}
def alm{c:Cl}(u:LX c.w)(w:LX c.t)(x:v=.sv 9 [c.w.row,c.t.row]){L:Int}(F:∀M h j k l o p,Q (.ex 2) ⟨[a0,a1,.b false,a3,a4,h,j,a7,a8,a9,a10,a11,a12,a13,.i .i64 M,a15,a16,a17,a18,k,.i .i64 2,l,o,p,a24,a25,a26,a27,a28,a29,a30,a31,a32,a33,a34,a35],[]⟩)(G:∀h j y k l o p,Q .rt ⟨[a0,a1,.b false,a3,a4,h,j,a7,a8,a9,a10,a11,a12,a13,y,a15,a16,a17,a18,k,.i .i64 2,l,o,p,a24,a25,a26,a27,a28,a29,a30,a31,a32,a33,a34,a35],[]⟩):ak VS (.loop GN) ⟨[a0,a1,.b false,a3,a4,a5,a6,a7,a8,a9,a10,a11,a12,a13,.i .i64 L,a15,a16,a17,a18,.i .i64 0,.i .i64 2,v,a22,a23,a24,a25,a26,a27,a28,a29,a30,a31,a32,a33,a34,a35],[]⟩ Q:=by
 subst x;have a:∀{H:ab},cJ H (.sv 9 [c.w.row,c.t.row]) (.i .i64 0) 9=some _:=λ{_}=>rfl;have e:∀{H:ab},cJ H (.sv 9 [c.w.row,c.t.row]) (.i .i64 1) 9=some _:=λ{_}=>rfl;obtain⟨n,z⟩:=FR u L;obtain⟨b,A⟩:=S8 u L;have f:=λ{H K}=>z.c (H:=H) (K:=K) zE rfl (by simp[c.w.pl,aV]) (.inl rfl);have q:=λ{H K}=>A.c (H:=H) (K:=K) D9 rfl (by simp[c.w.pl,aV]) (.inl rfl);obtain⟨M,B⟩:∃M,M=IntKind.i64.wrap (L-n):=⟨_,rfl⟩;obtain⟨m,C⟩:=FR w M;obtain⟨d,E⟩:=S8 w M;have g:=λ{H K}=>C.c (H:=H) (K:=K) zE rfl (by simp[c.t.pl,aV]) (.inl rfl);have r:=λ{H K}=>E.c (H:=H) (K:=K) D9 rfl (by simp[c.t.pl,aV]) (.inl rfl);simp[Ex.d,Ex.row_eq]at f q g r a e⊢;rw[bv];by_cases s:L<n;·simp[go_sem,simprocAttr,GO,a,f,s];grind
 cases b with|false=>simp[go_sem,simprocAttr,GO,a,f,q,s];grind|true=>
 simp[go_sem,simprocAttr,GO,a,f,q,s,<-B,wr1];rw[bv];by_cases t:M<m;·simp[go_sem,simprocAttr,e,g,t];grind
 cases d with|false=>simp[go_sem,simprocAttr,e,g,r,t];grind|true=>simp[go_sem,simprocAttr,e,g,r,t,wr2];rw[bv];simp[go_sem,simprocAttr];grind
end
structure ug(p:Pl)(l:List Fc):Prop where
 d:p.defs.length<=66
 c:p.cls.length<=16
 t:p.tabs.length<=18
 f:l.length<=30
def AG(p:Pl)(l:List Fc)(r:PR):Prop:=∃b,r=.ret (.b b)/\(b=true->ug p l)
section
variable{p:Pl}{l:List Fc}{x:D}
theorem aln(d:Sl 11 (l.map Fc.c) x)(j:ug p l){a3 a4 a5 a6 a7 a8 a9 a10 a11 a12 a14 a15 a16 a17 a18 a19 a20 a21 a22 a23 a24 a25 a26 a27 a28 a29 a30 a31 a35:D}:ak VS (.block 8 (.loop xc)) ⟨[.ag [.s p.name,p.dD,p.tD,p.cD],x,.b false,a3,a4,a5,a6,a7,a8,a9,a10,a11,a12,.bx [.s p.name,p.dD,p.tD,p.cD],a14,a15,a16,a17,a18,a19,a20,a21,a22,a23,a24,a25,a26,a27,a28,a29,a30,a31,.i .i64 0,.i .i64 l.length,x,a35],[]⟩ (kD VS (.seq (.reg [⟨.mov (.c (.b true)),some 2,none⟩] none) .ret) (dh [.s 2] (fG false (AG p l)))):=by
 have t:=j.f;rw[tH];refine ak.up (λi s=>∃k m n:D,s=⟨[.ag [.s _,p.dD,p.tD,p.cD],x,.b false,a3,a4,a5,a6,a7,a8,a9,a10,k,m,.bx [.s p.name,p.dD,p.tD,p.cD],a14,a15,a16,a17,a18,a19,a20,a21,a22,a23,a24,a25,a26,a27,a28,a29,a30,a31,.i .i64 i,.i .i64 _,x,n],[]⟩) l.length ⟨_,_,_,rfl⟩ ?_;rintro i s hi⟨k,m,n,rfl⟩;by_cases u:i<l.length
 ·have a:(i:Int)<l.length:=by omega
  have r:(0:Int)<=i:=by omega
  obtain⟨f,e⟩:∃f,f=l[i]!:=⟨_,rfl⟩;have g:=λ{H}=>f.v.f.hx.n (H:=H);have o:=λ{H}=>f.v.f.hy.n (H:=H);by_cases c3:(4:Int)<f.v.f.l.length;·simp[go_sem,simprocAttr,A9,a,c3,d.q,<-e,Fc.c,g];exact⟨false,rfl,λh=>by cases h⟩
  by_cases q:(4:Int)<f.v.f.m.length;·simp[go_sem,simprocAttr,A9,a,c3,q,d.q,<-e,Fc.c,g,o];exact⟨false,rfl,λh=>by cases h⟩
  simp(disch:=omega)only[go_sem,simprocAttr,A9,a,r,c3,q,d.q,<-e,Fc.c,g,o,wr];omega
 have a:¬(i:Int)<l.length:=by omega
 simp[go_sem,A9,a];exact⟨true,rfl,λ_=>j⟩
end
section
variable{a0 a1 a3 a4 a5 a6 a7 a8 a9 a10 a11 a12 a13 a14 a15 a16 a17 a18 a19 a20 a21 a22 a23 a24 a25 a26 a27 a31 a32 a33 a34 a35:D}{Q:Dm.Ex->St->Prop}
def alo{u:Tb}(n:u.rows.length<=20)(o:∀a c g d,Q (.ex 6) ⟨[a0,a1,.b false,a3,a4,a5,a6,a7,a8,a,c,a11,a12,a13,a14,a15,a16,a17,a18,a19,a20,a21,a22,a23,a24,a25,a26,a27,g,.i .i64 u.rows.length,u.x,d,a32,a33,a34,a35],[]⟩)(p:∀a c g d,Q .rt ⟨[a0,a1,.b false,a3,a4,a5,a6,a7,a8,a,c,a11,a12,a13,a14,a15,a16,a17,a18,a19,a20,a21,a22,a23,a24,a25,a26,a27,g,.i .i64 u.rows.length,u.x,d,a32,a33,a34,a35],[]⟩):ak VS (.loop GQ) ⟨[a0,a1,.b false,a3,a4,a5,a6,a7,a8,a9,a10,a11,a12,a13,a14,a15,a16,a17,a18,a19,a20,a21,a22,a23,a24,a25,a26,a27,.i .i64 0,.i .i64 u.rows.length,u.x,a31,a32,a33,a34,a35],[]⟩ Q:=by
 refine ak.up (λi s=>∃a c d:D,s=⟨[a0,a1,.b false,a3,a4,a5,a6,a7,a8,a,c,a11,a12,a13,a14,a15,a16,a17,a18,a19,a20,a21,a22,a23,a24,a25,a26,a27,.i .i64 i,.i .i64 _,u.x,d,a32,a33,a34,a35],[]⟩) u.rows.length ⟨_,_,_,rfl⟩ ?_;rintro i s hi⟨a,c,d,rfl⟩;by_cases q:i<u.rows.length
 ·have e:(i:Int)<u.rows.length:=by omega
  have m:(0:Int)<=(i:Int):=by omega
  obtain⟨f,h⟩:∃f,f=u.rows[i]!:=⟨_,rfl⟩;have j:=λ{H}=>f.f.hx.n (H:=H);have k:=λ{H}=>f.f.hy.n (H:=H);by_cases c3:(4:Int)<f.f.l.length;·simp[go_sem,simprocAttr,A7,e,c3,u.hx.q,<-h,Rw.c,j];grind
  by_cases l:(4:Int)<f.f.m.length;·simp[go_sem,simprocAttr,A7,e,c3,l,u.hx.q,<-h,Rw.c,j,k];grind
  simp(disch:=omega)only[go_sem,simprocAttr,A7,e,m,c3,l,u.hx.q,<-h,Rw.c,j,k,wr];omega
 have e:¬(i:Int)<u.rows.length:=by omega
 simp[go_sem,A7,e];grind
end
section
variable{p:Pl}{l:List Fc}{x:D}
theorem alp(t:Sl 11 (l.map Fc.c) x)(v:ug p l){a3 a4 a5 a6 a7 a8 a9 a10 a11 a12 a14 a15 a16 a17 a18 a19 a20 a21 a22 a23 a27 a28 a29 a30 a31 a32 a33 a34 a35:D}:ak VS (.block 4 (.loop A8)) ⟨[.ag [.s p.name,p.dD,p.tD,p.cD],x,.b false,a3,a4,a5,a6,a7,a8,a9,a10,a11,a12,.bx [.s p.name,p.dD,p.tD,p.cD],a14,a15,a16,a17,a18,a19,a20,a21,a22,a23,.i .i64 0,.i .i64 p.tabs.length,p.tD,a27,a28,a29,a30,a31,a32,a33,a34,a35],[]⟩ (kD VS (.seq (.seq (.reg [⟨.mov (.s 1),some 34,none⟩,⟨.len 1 (.s 34),some 33,none⟩,⟨.mov (.c (.i .i64 0)),some 32,none⟩] none) (.block 8 (.loop xc))) (.seq (.reg [⟨.mov (.c (.b true)),some 2,none⟩] none) .ret)) (dh [.s 2] (fG false (AG p l)))):=by
 have y:=v.t;have w:=λ{H:ab}=>t.n (H:=H);rw[tH];refine ak.up (λi s=>∃d e f g j k m n o:D,s=⟨[.ag [.s _,p.dD,p.tD,p.cD],x,.b false,a3,a4,a5,a6,d,e,f,g,a11,a12,.bx [.s p.name,p.dD,p.tD,p.cD],a14,a15,a16,a17,a18,a19,a20,a21,a22,a23,.i .i64 i,.i .i64 _,p.tD,j,k,m,n,o,a32,a33,a34,a35],[]⟩) p.tabs.length ⟨_,_,_,_,_,_,_,_,_,rfl⟩ ?_;rintro i s hi⟨d,e,f,g,j,k,m,n,o,rfl⟩;by_cases z:i<p.tabs.length
 ·have a:(i:Int)<p.tabs.length:=by omega
  have A:(0:Int)<=i:=by omega
  obtain⟨u,q⟩:∃u,u=p.tabs[i]!:=⟨_,rfl⟩;have r:=λ{H}=>u.hx.n (H:=H);by_cases c3:(20:Int)<u.rows.length;·simp[go_sem,GR,a,c3,p.ht.q,<-q,Tb.c,r];exact⟨false,rfl,λh=>by cases h⟩
  simp[go_sem,GR,a,c3,p.ht.q,<-q,Tb.c,r];refine alo (by omega) (λ_ _ _ _=>?_) λ_ _ _ _=>?_;·simp(disch:=omega)[go_sem,wr];omega
  simp[go_sem];exact⟨false,rfl,λh=>by cases h⟩
 have a:¬(i:Int)<p.tabs.length:=by omega
 simp[go_sem,GR,a,w];grind[tH,aln]
def alq(z:Sl 11 (l.map Fc.c) x)(r:ug p l)(t:∀c∈p.cls,LX c.w/\LX c.t){a3 a4 a5 a6 a7 a8 a9 a10 a11 a12 a18 a19 a20 a21 a22 a23 a24 a25 a26 a27 a28 a29 a30 a31 a32 a33 a34 a35:D}:ak VS (.block 0 (.loop GP)) ⟨[.ag [.s p.name,p.dD,p.tD,p.cD],x,.b false,a3,a4,a5,a6,a7,a8,a9,a10,a11,a12,.bx [.s p.name,p.dD,p.tD,p.cD],.i .i64 220,.i .i64 0,.i .i64 p.cls.length,p.cD,a18,a19,a20,a21,a22,a23,a24,a25,a26,a27,a28,a29,a30,a31,a32,a33,a34,a35],[]⟩ (kD VS (.seq (.seq (.reg [⟨.lfa (.sl 13) 2,none,none⟩,⟨.lld (.lo 0) 1 false,some 26,none⟩,⟨.len 1 (.s 26),some 25,none⟩,⟨.mov (.c (.i .i64 0)),some 24,none⟩] none) (.block 4 (.loop A8))) (.seq (.seq (.reg [⟨.mov (.s 1),some 34,none⟩,⟨.len 1 (.s 34),some 33,none⟩,⟨.mov (.c (.i .i64 0)),some 32,none⟩] none) (.block 8 (.loop xc))) (.seq (.reg [⟨.mov (.c (.b true)),some 2,none⟩] none) .ret))) (dh [.s 2] (fG false (AG p l)))):=by
 have A:=r.c;have u:=λ{H:ab}=>p.ht.n (H:=H);rw[tH];refine ak.up (λi s=>∃(L:Int)(d e f g j k m n o:D),s=⟨[.ag [.s _,p.dD,p.tD,p.cD],x,.b false,a3,d,e,f,a7,a8,a9,a10,a11,a12,.bx [.s p.name,p.dD,p.tD,p.cD],.i .i64 L,.i .i64 i,.i .i64 p.cls.length,p.cD,g,j,k,m,n,o,a24,a25,a26,a27,a28,a29,a30,a31,a32,a33,a34,a35],[]⟩) p.cls.length ⟨220,_,_,_,_,_,_,_,_,_,rfl⟩ ?_;rintro i s hi⟨L,d,e,f,g,j,k,m,n,o,rfl⟩;by_cases v:i<p.cls.length
 ·have a:(i:Int)<p.cls.length:=by omega
  have B:(0:Int)<=i:=by omega
  obtain⟨c,q⟩:∃c,c=p.cls[i]!:=⟨_,rfl⟩;obtain⟨w,y⟩:=t c (q▸wO v);simp[go_sem,simprocAttr,UQ,a,p.hc.q,<-q,Cl.row,Ex.row_eq,W0];refine alm w y (by grind[Ex.row_eq]) (λ_ _ _ _ _ _ _=>?_) λ_ _ _ _ _ _ _=>?_;·simp(disch:=omega)[go_sem,wr];omega
  simp[go_sem];exact⟨false,rfl,λh=>by cases h⟩
 have a:¬(i:Int)<p.cls.length:=by omega
 simp[go_sem,simprocAttr,UQ,a,u];rw[<-tH];grind[alp]
def alr(a:Sl 11 (l.map Fc.c) x)(i:p.defs.length<1000000000000000)(b:∀c∈p.cls,LX c.w/\LX c.t):aE VS 17 [p.d,x] (AG p l):=by
 have d:=λ{H:ab}=>a.n (H:=H);have e:=λ{H:ab}=>p.hd.n (H:=H);have f:=λ{H:ab}=>p.ht.n (H:=H);have g:=λ{H:ab}=>p.hc.n (H:=H);refine .body Pp rfl ?_;unfold Pl.d;simp only[go_sem,simprocAttr,aoe,d,e,f,g];repeat' first|(refine And.intro ?_ ?_)|intro _
 all_goals first|exact⟨false,rfl,λh=>by cases h⟩|(rw[<-tH];exact alq a ⟨by omega,by omega,by omega,by omega⟩ b)
def als(t:p.cls.length<=16)(j:∀c∈p.cls,LX c.w/\LX c.t):rB 18 [p.d]:=by
 have k:=λ{H:ab}=>p.hc.n (H:=H);refine .of (.body Pq rfl ?_);unfold Pl.d;simp only[go_sem,aof,k];refine ak.up (λi s=>∃h a3 a8:D,s=⟨[.ag [.s _,p.dD,p.tD,p.cD],.b false,h,a3,.bx [.s _,p.dD,p.tD,p.cD],.i .i64 i,.i .i64 _,p.cD,a8],[]⟩) p.cls.length ⟨_,_,_,rfl⟩ ?_;rintro i s hi⟨h,a3,a8,rfl⟩;by_cases l:i<p.cls.length
 ·have f:(i:Int)<p.cls.length:=by omega
  have m:(0:Int)<=i:=by omega
  obtain⟨c,d⟩:∃c,c=p.cls[i]!:=⟨_,rfl⟩;obtain⟨n,o⟩:=j c (d▸wO l);obtain⟨a,q⟩:=S7 n;obtain⟨b,r⟩:=S7 o;have e:=λ{H K}=>q.c (H:=H) (K:=K) zF rfl (by simp[c.w.pl]) (.inl rfl);have g:=λ{H K}=>r.c (H:=H) (K:=K) zF rfl (by simp[c.t.pl]) (.inl rfl);simp[Ex.d,Ex.row_eq]at e g;cases a with|false=>simp[go_sem,simprocAttr,Ba,p.hc.q,<-d,Cl.row,Ex.row_eq,e];try exact⟨_,rfl⟩|true=>cases b with|false=>simp[go_sem,simprocAttr,Ba,p.hc.q,<-d,Cl.row,Ex.row_eq,e,g];try exact⟨_,rfl⟩|true=>simp(disch:=omega)only[go_sem,simprocAttr,Ba,f,m,p.hc.q,<-d,Cl.row,Ex.row_eq,e,g,wr];omega
 have f:¬(i:Int)<p.cls.length:=by omega
 simp[go_sem,Ba,f];try exact⟨_,rfl⟩
structure AH(p:Pl)(l:List Fc)(d:Int):Prop where
 f:ug p l
 b:iV p l d=true
def AI(k:Sl 11 (l.map Fc.c) x)(u:p.defs.length<1000000000000000)(m:∀c∈p.cls,LX c.w/\LX c.t){d:Int}:∃b,ai VS 7 [p.d,x,.i .i64 d] (.b b)/\(b=true->AH p l d):=by
 obtain⟨r,v,b,w,y⟩:∃r,aE VS 17 [p.d,x] (·=r)/\∃b,r=.ret (.b b)/\(b=true->ug p l):=by obtain⟨n,g1,z⟩:=alr k u m;exact⟨_,⟨n,g1,rfl⟩,z⟩
 subst w;have a:=λ{H K}=>(ai.iff_q.2 v).c (H:=H) (K:=K) Pp rfl (by simp[p.pl,k.pl]) (.inl rfl);suffices h:∃r,ai VS 7 [p.d,x,.i .i64 d] r/\∃b,r=.b b/\(b=true->AH p l d)by grind
 refine aE.ex (.body vY rfl ?_);unfold Pl.d at a⊢;cases b with|false=>simp[go_sem,rO,a]|true=>have j:=y rfl;have C:=j.d;have A:=j.c;have E:=j.t;have F:=j.f;obtain⟨t,B⟩:=als A m;have f:=λ{H K}=>B.c (H:=H) (K:=K) Pq rfl (by simp[p.pl]) (.inl rfl);have e:=λ{H K}=>(SE p (by omega) (by omega) (by omega)).c (H:=H) (K:=K) D8 rfl (by simp[p.pl]) (.inl rfl);have g:=λ{H K}=>(Af k (by omega)).c (H:=H) (K:=K) vZ rfl (by simp[k.pl]) (.inl rfl);unfold Pl.d at f e;cases t with|false=>simp[go_sem,rO,a,f]|true=>cases o:p.bounded with|false=>rw[o]at e;simp[go_sem,rO,a,f,e]|true=>rw[o]at e;cases hr:eJ l with|false=>rw[hr]at g;simp[go_sem,rO,a,f,e,g]|true=>
 rw[hr]at g;by_cases q:0<=d
 · by_cases s:d<65536;·simp[go_sem,rO,a,f,e,g,q,s];exact⟨j,by grind[iV]⟩
   simp[go_sem,rO,a,f,e,g,s]
 simp[go_sem,rO,a,f,e,g,q]
end
end
section
open Go.Dm
set_option maxRecDepth 10000
structure PA (M:aj):Prop where
 p:M.pairs.length <= M.begun.length
 b:M.begun.length <= 4096
structure wP (M:aj):Prop where
 p:M.pairs.length <= M.begun.length+1
 b:M.begun.length <= 4096
theorem PA.pb1 {M:aj} (h:PA M):wP M:=⟨Nat.le_succ_of_le h.p,h.b⟩
inductive Gt (W:Wd):Tr -> Prop where
 | ret (v:NV):Gt W (.ret v)
 | err (e:Int):Gt W (.err e)
 | st {u:aj -> aj} {k:aj -> Tr}:(∀ M,PA M -> PA (u M)) -> (∀ M,Gt W (k M)) -> Gt W (.st u k)
 | call {j:bk} {k:NV -> Tr}:(∀ v,Gt W (k v)) -> Gt W (.call j k)
 | op {p:Nm×Int} {k:Tr}:Gt W k -> Gt W (j0 W p k)
theorem Gt.run {W:Wd} {f:bk -> aj -> Option (NR×aj)} (hf : ∀ j M r M',f j M=some (r,M') -> PA M -> wP M' /\ ∀ v,r = .ok v -> PA M') {t:Tr} (h:Gt W t) : ∀ {M:aj} {r:NR} {M':aj},fY f t M=some (r,M') -> PA M -> wP M' /\ ∀ v,r = .ok v -> PA M':=by
 induction h with
 | ret v=>intro M r M' e hM;cases e;exact⟨hM.pb1,fun _ _=>hM⟩
 | err e=>intro M r M' e hM;cases e;exact⟨hM.pb1,fun _ h=>by cases h⟩
 | st hu _ ih=>intro M r M' e hM;exact ih M e (hu M hM)
 | @call j k _ ih =>
  grind[fY]
 | @op p k _ ih =>
  intro M r M' e hM
  unfold j0 at e<;>grind[j0,fY,wP,mJ,PA,pz]
theorem S9 {W:Wd} {body:bk -> Tr} (hb : ∀ j,Gt W (body j)) : ∀ (n:Nat) (j:bk) (M:aj) (r:NR) (M':aj),kM body n j M=some (r,M') -> PA M -> wP M' /\ ∀ v,r = .ok v -> PA M'
 | 0,_,_,_,_,h,_=>by cases h
 | n+1,j,M,r,M',h,hM=>(hb j).run (fun j M r M'=>S9 hb n j M r M') h hM
section
variable {W:Wd} {O:bV}
theorem NR.gt (r:NR):Gt W r.tr:=by cases r<;>first|exact .ret _|exact .err _
theorem EQ.gt (k:Nat) (r:EQ):Gt W (r.tr k):=by cases r<;>first|exact .ret _|exact .err _
theorem alt {r:Nm×Int×Int} {M:aj} (h:PA M):PA (fJ r M):=⟨h.p,h.b⟩
theorem alu {r:Nm} {M:aj} (h:PA M):PA (gc r M):=⟨h.p,h.b⟩
theorem Ta {d:Int} {k:List NV -> Tr} (h : ∀ l,Gt W (k l)) : ∀ (l:List EN) (acc:List NV),Gt W (iX d k l acc)
 | [],acc=>h acc
 | _::l,_ => .call fun _=>Ta h l _
theorem Tc {e:EN} {d:Int} {k:Bool -> Tr} (h : ∀ b,Gt W (k b)):Gt W (gB e d k) := .call fun v=>by
 split
 ·grind
 ·exact .err _
theorem FT {d:Int} {k:Nat -> Tr} (h : ∀ c,Gt W (k c)) : ∀ (l:List (Nat×jt)) (c n:Nat),Gt W (fo d k l c n)
 | [],c,n=>by
  unfold fo
  repeat' first|exact .err _|exact h c|split
 | (i,x)::l,c,n=>Tc fun b=>by
  split
  ·exact FT h l _ _
  ·exact FT h l _ _
theorem alv (j:bk):Gt W (bQ O W j):=by
 cases j with
 | term e d =>
  show Gt W (eA O W e d)
  unfold eA
  repeat' first|exact .ret _|exact .err _|exact .call fun v => .ret v|(refine Tc fun b => ?_)|(refine Ta (fun vs => ?_) _ _)|split
  ·unfold lT
   split
   ·exact .call fun v => .ret v
   ·exact .err _
  ·unfold cS gD eU ge
   repeat' first|exact NR.gt _|exact EQ.gt _ _|exact .ret _|exact .err _|(refine .st (fun _=>alt) fun _ => ?_)|(refine .st (fun _=>alu) fun _ => ?_)|split
 | pair nm d =>
  refine .st (fun _ h=>h) fun M => ?_
  split
  ·exact .ret _
  ·refine .op (FT (fun c => .call fun v => ?_) _ _ _)
   split
   ·exact .st (fun _ h=>⟨h.p,h.b⟩) fun M => .ret _
   ·exact .err _
structure MB (M:aj):Prop where
 p:M.pairs.length<1000000000
 f:M.facts.length<1000000000
 t:M.tabs.length<1000000000
theorem Td {B:BW} {K:Int} {Al:Nat -> Prop} (hc:Cx O B K Al) {nm:Nm} {d:Int} {r:NR} {M:aj} (h:bO (bQ O B.wd) (.pair nm d) aj.nil r M):MB M:=by
 have h1:=h.cst hc.cst
 obtain⟨n,hn⟩:=h
 obtain⟨h2,_⟩:=S9 (alv (W:=B.wd)) n _ _ _ _ hn ⟨Hk _,by show 0 <= 4096;omega⟩
 have h3:=h1.p
 have h4:=h2.p
 have h5:=h2.b
 have h6:K*M.begun.length <= 100000*4096:=by
  rcases AB8 K 0 with hk|hk
  ·have:K*M.begun.length <= 0:=Int.mul_nonpos_of_nonpos_of_nonneg (by omega) (by omega)
   omega
  ·exact Int.mul_le_mul hc.k (by omega) (by omega) (by omega)
 have h7:jW K aj.nil=0:=by simp[jW,aj.nil]
 have h8:dM (.pair nm d)=0:=rfl
 rw[h7,h8]at h3
 unfold jW at h3
 constructor<;>grind
end
end
section
open Go.Dm
set_option maxRecDepth 10000
def Te{b:Bool}{n:Nat}{x y:D}(a:eL n x)(d:eL n y)(e:(ds 65536 n).length<70368744177665):ai VS 95 [.ag [.b b,x],.ag [.b b,y]] (.b true):=by have f:=λ{H K}=>(ase a.sl d.sl e e).c (H:=H) (K:=K) P1 rfl (by simp[a.sl.pl,d.sl.pl]) (.inl rfl);refine .body Ed rfl ?_;simp[go_sem,simprocAttr,aoV,f]
def alw{v:NV}{y j:D}(h:VD v y)(l:VD v j)(k:(ds 65536 v.n.natAbs).length<70368744177665/\(ds 65536 v.m).length<70368744177665):ai VS 33 [y,j] (.b true):=by
 obtain⟨a,b,rfl,e,f⟩:=h.h;obtain⟨c,d,rfl,g,i⟩:=l.h;have m:=λ{H K}=>(Te (b:=decide (v.n<0)) e g k.1).c (H:=H) (K:=K) Ed rfl (by simp[cE,cZ,e.sl.flat,g.sl.flat]) (.inl rfl);have n:=λ{H K}=>(Te (b:=false) f i k.2).c (H:=H) (K:=K) Ed rfl (by simp[cE,cZ,f.sl.flat,i.sl.flat]) (.inl rfl);have o:∀{H K},ac VS 68 [.ag [.b (decide (v.n<0)),a,.b false,b],.ag [.b (decide (v.n<0)),c,.b false,d]] H K↔K (.ret (.b true) H):=λ{H K}=>by refine ai.c (.body PL rfl ?_) PL rfl (by simp[cE,cZ,e.sl.flat,g.sl.flat,f.sl.flat,i.sl.flat]) (.inl rfl);simp[go_sem,simprocAttr,aoE,m,n]
 refine .body Pw rfl ?_;simp[go_sem,simprocAttr,aop,o]
def alx{M:aj}(h:MB M):ai VS 34 [cO M,cO M] (.b true):=by
 have k:Sl 2 (M.pairs.map ij) _:=nP;have l:Sl 3 (M.facts.map iT) _:=nP;have m:Sl 1 (M.tabs.map jp) _:=nP;have G:=h.p;have I:=h.f;have J:=h.t;unfold cO;generalize du 2 _=a at k⊢;generalize du 3 _=c at l⊢;generalize du 1 _=d at m⊢;have F:=λ{H:ab}=>k.n (H:=H);have x:=λ{H:ab}=>l.n (H:=H);have y:=λ{H:ab}=>m.n (H:=H);refine .body Px rfl ?_;simp[go_sem,simprocAttr,aoq,F,x,y];refine ak.up (λi s=>∃f g j,s=⟨[.ag [a,c,d],.ag [a,c,d],.b false,.b false,f,g,.u,.u,.u,.u,.bx [a,c,d],.bx [a,c,d],.i .i64 i,.i .i64 M.pairs.length,j,.u,.u,.u,.u,.u,.u],[]⟩) M.pairs.length ⟨_,_,_,rfl⟩ ?_;rintro i s hi⟨f,g,j,rfl⟩;by_cases n:i<M.pairs.length
 ·have e:(i:Int)<M.pairs.length:=by omega
  have o:(0:Int)<=i:=by omega
  obtain⟨z,w⟩:∃z,z=M.pairs[i]!:=⟨_,rfl⟩;have q:eF true (.st [2,1]) (.ag (ij z)) (.ag (ij z))=some (.b false):=by grind[eF,uT,cV,fQ,fP,ij]
  simp[ij]at q;simp(disch:=omega)only[go_sem,simprocAttr,U0,e,o,k.q,<-w,ij,q,wr];exact⟨k.under _,k.under _,n⟩
 have e:¬(i:Int)<M.pairs.length:=by omega
 simp[go_sem,simprocAttr,U0,e,x];refine ak.up (λi s=>∃f g p r t j v,s=⟨[.ag [a,c,d],.ag [a,c,d],.b false,.b false,f,g,p,r,.u,.u,.bx [a,c,d],.bx [a,c,d],t,.i .i64 _,j,.i .i64 i,.i .i64 M.facts.length,v,.u,.u,.u],[]⟩) M.facts.length ⟨_,_,_,_,_,_,_,rfl⟩ ?_;rintro i s hi⟨f,g,p,r,t,j,v,rfl⟩;by_cases n:i<M.facts.length
 ·have e:(i:Int)<M.facts.length:=by omega
  have o:(0:Int)<=i:=by omega
  obtain⟨z,w⟩:∃z,z=M.facts[i]!:=⟨_,rfl⟩;have q:eF true (.st [2,1,1]) (.ag (iT z)) (.ag (iT z))=some (.b false):=by grind[eF,uT,cV,fQ,fP,iT]
  simp[iT]at q;simp(disch:=omega)only[go_sem,simprocAttr,U2,e,o,l.q,<-w,iT,q,wr];exact⟨l.under _,l.under _,n⟩
 have e:¬(i:Int)<M.facts.length:=by omega
 simp[go_sem,U2,e,y];refine ak.up (λi s=>∃f g p r A B t j C v E,s=⟨[.ag [a,c,d],.ag [a,c,d],.b false,.b false,f,g,p,r,A,B,.bx [a,c,d],.bx [a,c,d],t,.i .i64 _,j,C,.i .i64 _,v,.i .i64 i,.i .i64 _,E],[]⟩) M.tabs.length ⟨_,_,_,_,_,_,_,_,_,_,_,rfl⟩ ?_;rintro i s hi⟨f,g,p,r,A,B,t,j,C,v,E,rfl⟩;by_cases n:i<M.tabs.length
 ·have e:(i:Int)<M.tabs.length:=by omega
  have o:(0:Int)<=i:=by omega
  simp(disch:=omega)only[go_sem,U5,e,o,m.q,jp,wr];exact⟨m.under _,m.under _,n⟩
 have e:¬(i:Int)<M.tabs.length:=by omega
 simp[go_sem,U5,e]
def FU{v:NV}{y j:D}{M:aj}(h:VD v y)(g:VD v j)(l:(ds 65536 v.n.natAbs).length<70368744177665/\(ds 65536 v.m).length<70368744177665)(m:MB M)(e:Int):ai VS 12 [y,j,cO M,cO M,.i .i64 e,.i .i64 e] (.b true):=by
 have f:(cO M).plain=true:=by simp[cO,cE,nP.flat]
 have n:=λ{H K}=>(alw h g l).c (H:=H) (K:=K) Pw rfl (by simp[h.pl,g.pl]) (.inl rfl);have k:=λ{H K}=>(alx m).c (H:=H) (K:=K) Px rfl (by simp[f]) (.inl rfl);obtain⟨a,b,rfl,o,p⟩:=h.h;obtain⟨c,d,rfl,q,r⟩:=g.h;refine .body zD rfl ?_;unfold cO at k⊢;simp[go_sem,aod,n,k]
end
section
open Go.Dm
set_option maxRecDepth 10000
section
variable {α:Type} [Inhabited α] {V:au} {f h g:FuncId} {w:Nat} {agg:Bool} {enc:α -> List D} {key:α -> D} {l:List α} {x:D} {H:ab} {cp:List D} {p:α -> Bool} {I:ab -> Prop}
theorem aly (hf:V.fn f=some (sX w agg)) (hx:Sl w (l.map enc) x) (hl:l.length<4611686018427387904) (hw : ∀ a,(enc a).length=w) (hv : ∀ a,val agg (enc a)=some (key a))
  (hy:g<4294967295) (hg : ∀ a G,I G -> ac V g (key a::cp) G (fun r => ∃ G',r = .ret (.b (p a)) G' /\ I G')) (he : ∀ {H},V.ext f [x,.fn (.func g) [] cp] H=none:=by first|exact rfl|assumption) (h0:I H) :
  ac V f [x,.fn (.func g) [] cp] H (fun r => ∃ (i:Int) (G:ab),r = .ret (.i .i64 i) G /\ decide (0 <= i)=l.any p):=by
 refine .body hf rfl rfl ?_ he
 simp[go_sem,sX,hx.n]
 refine ak.up (fun i s=>qL p l i /\ ∃ a3 a4 a7 G,I G /\ s=⟨[x,.fn _ [] cp,.i .i64 0,a3,a4,.i .i64 i,.i .i64 _,a7],G⟩) l.length ⟨CZ,.u,.u,.u,H,h0,rfl⟩ ?_
 rintro i s hi ⟨hv',a3,a4,a7,G,hG,rfl⟩
 have ht : ∀ a,(enc a).take w=enc a:=fun a=>E4 (by grind)
 have cq:=fun{args H K}=>gP (V:=V) (H:=H) (args:=args) (K:=K) (f:=g) (a:=[]) (b:=cp) hy
 by_cases hlt:i<l.length
 ·have c1:(i:Int)<l.length:=by omega
  simp  only[go_sem,yK,hx.q,hw,ht,hv,c1,cq,W0]
  refine⟨by omega,(hg l[i]! G hG).mono ?_⟩
  rintro r ⟨G',rfl,hG'⟩
  cases hp:p l[i]! with
  | true =>
   simp  only[go_sem]
   grind
  | false =>
   simp(disch:=omega) only[go_sem,wr]
   exact⟨hlt,C0.2 ⟨hv',hp⟩,_,_,_,G',hG',⟨rfl,rfl,rfl⟩,rfl⟩
 ·have c1 : ¬ (i:Int)<l.length:=by omega
  have hil:i=l.length:=by omega
  simp  only[go_sem,yK,c1]
  grind[C1]
theorem alz (hf:V.fn f=some (yL h)) (hh:V.fn h=some (sX w agg)) (hx:Sl w (l.map enc) x) (hl:l.length<4611686018427387904) (hw : ∀ a,(enc a).length=w) (hv : ∀ a,val agg (enc a)=some (key a))
  (hy:g<4294967295) (hg : ∀ a G,I G -> ac V g (key a::cp) G (fun r => ∃ G',r = .ret (.b (p a)) G' /\ I G')) (he : ∀ {H},V.ext f [x,.fn (.func g) [] cp] H=none:=by first|exact rfl|assumption) (he' : ∀ {H},V.ext h [x,.fn (.func g) [] cp] H=none:=by first|exact rfl|assumption) (h0:I H) :
  ac V f [x,.fn (.func g) [] cp] H (fun r => ∃ G,r = .ret (.b (l.any p)) G):=by
 refine .body hf rfl rfl ?_ he
 simp[go_sem,yL]
 refine(aly hh hx hl hw hv hy hg he' h0).mono ?_
 rintro r ⟨i,G,rfl,hi⟩
 simp[go_sem,hi]
 try exact⟨_,rfl,rfl⟩
end
def fT (M:aj) (f:Fc) (k:Int):Bool:=decide (f.known <= k)&&M.facts.any fun x=>decide (x.1=f.key /\ max x.2.1 f.frm<min x.2.2 f.to)
def cT (M:aj) (c:Cl) (k:Int):Bool:=decide (c.known <= k)&&M.pairs.any fun x=>decide (x.1=c.nm /\ c.frm <= x.2 /\ x.2<c.to)
def rT (M:aj) (nm:Nm) (r:Rw) (k:Int):Bool:=decide (r.known <= k)&&M.tabs.any fun x=>decide (nm=x)
def rC (p:Pl) (l:List Fc) (M:aj) (a b:Int):Bool:=l.any (fun f=>decide (a<f.known)&&fT M f b)||(p.cls.any (fun c=>decide (a<c.known)&&cT M c b)||p.tabs.any fun t=>t.rows.any fun r=>decide (a<r.known)&&rT M t.name r b)
theorem Tf {M:aj} (h:MB M) (f:Fc) (k:Int):ai VS 11 [cO M,.ag f.c,.i .i64 k] (.b (fT M f k)):=by
 have hc : ∀ (a:Nm×Int×Int) (K:CR -> Prop),ac VS 32 [.ag (iT a),.hp 0 0] [.hb 36 f.c] K↔K (.ret (.b (decide (a.1=f.key /\ max a.2.1 f.frm<min a.2.2 f.to))) [.hb 36 f.c]):=fun a K=>by
  refine cC (bI.iff_q.2 (.body agm rfl rfl ?_))
  simp only[iT,Fc.c]
  by_cases c1:a.1=f.key
  ·simp  [go_sem,simprocAttr,UY,c1]
  ·simp  only[go_sem,simprocAttr,UY,c1]
   simp
 have e1:=fun{K}=>mj (w:=3) (agg:=true) (enc:=iT) (l:=M.facts) (K:=K) (agl.trans (by kernel_rfl)) (agy.trans (by kernel_rfl)) nP (by have:=h.f;omega) (fun _=>rfl) (fun _=>rfl) (by decide) hc
 refine .body D5 rfl ?_
 unfold fT cO
 simp only[Fc.c]at e1 ⊢
 by_cases c1:f.known <= k
 ·simp  [go_sem,simprocAttr,UN,c1,e1]
 ·simp  [go_sem,simprocAttr,UN,c1]
theorem Tg {M:aj} (h:MB M) (f:Cl) (k:Int):ai VS 13 [cO M,.ag f.row,.i .i64 k] (.b (cT M f k)):=by
 have hc : ∀ (a:Nm×Int) (K:CR -> Prop),ac VS 36 [.ag (ij a),.hp 0 0] [.hb 55 f.row] K↔K (.ret (.b (decide (a.1=f.nm /\ f.frm <= a.2 /\ a.2<f.to))) [.hb 55 f.row]):=fun a K=>by
  refine cC (bI.iff_q.2 (.body ago rfl rfl ?_))
  simp only[ij,Cl.row,T1,W0]
  by_cases c1:a.1=f.nm
  ·by_cases c2:f.frm <= a.2
   ·simp  [go_sem,simprocAttr,Hb,c1,c2]
    try simp
   ·simp  only[go_sem,simprocAttr,Hb,c1,c2]
    try simp
  ·simp  only[go_sem,simprocAttr,Hb,c1]
   simp
 have e1:=fun{K}=>mj (w:=2) (agg:=true) (enc:=ij) (l:=M.pairs) (K:=K) (agn.trans (by kernel_rfl)) (agz.trans (by kernel_rfl)) nP (by have:=h.p;omega) (fun _=>rfl) (fun _=>rfl) (by decide) hc
 refine .body D6 rfl ?_
 unfold cT cO
 simp only[Cl.row,Ex.row_eq,T1,W0]at e1 ⊢
 by_cases c1:f.known <= k
 ·simp  [go_sem,simprocAttr,UO,c1,e1]
 ·simp  [go_sem,simprocAttr,UO,c1]
theorem alA {M:aj} (h:MB M) (nm:Nm) (f:Rw) (k:Int):ai VS 16 [cO M,.s nm,.ag f.c,.i .i64 k] (.b (rT M nm f k)):=by
 have hs:Sl 1 (M.tabs.map jp) _:=nP
 have hl:=h.t
 have e1 : ∃ i:Int,ai VS 83 [du 1 (M.tabs.map jp),.s nm] (.i .i64 i) /\ decide (0 <= i)=M.tabs.any fun x=>decide (nm=x):=by
  suffices h : ∃ d,ai VS 83 [du 1 (M.tabs.map jp),.s nm] d /\ ∃ i:Int,d = .i .i64 i /\ decide (0 <= i)=M.tabs.any fun x=>decide (nm=x)by
   grind
  refine aE.ex (.body PQ rfl ?_)
  simp  [go_sem,aoO,hs.n]
  refine ak.up (fun i s=>qL (fun x=>decide (nm=x)) M.tabs i /\ ∃ a3 a4 a7,s=⟨[du 1 _,.s nm,.i .i64 0,a3,a4,.i .i64 i,.i .i64 _,a7],[]⟩) M.tabs.length ⟨CZ,_,_,_,rfl⟩ ?_
  rintro i s hi ⟨hv',a3,a4,a7,rfl⟩
  by_cases hlt:i<M.tabs.length
  ·have c1:(i:Int)<M.tabs.length:=by omega
   have c2:(0:Int) <= i:=by omega
   by_cases hp:nm=M.tabs[i]!
   ·simp  only[go_sem,HY,c1,c2,hs.q,jp,hp]
    grind
   ·simp(disch:=omega) only[go_sem,HY,c1,c2,hs.q,jp,hp,wr]
    exact⟨hlt,C0.2 ⟨hv',R1 hp⟩⟩
  ·have c1 : ¬ (i:Int)<M.tabs.length:=by omega
   have hil:i=M.tabs.length:=by omega
   simp  only[go_sem,simprocAttr,HY,c1]
   grind[C1]
 obtain⟨i,h1,h2⟩:=e1
 have e2:=fun{H K}=>h1.c (H:=H) (K:=K) PQ rfl (by simp[hs.pl,nq]) (.inl rfl)
 have e3 : ∀ {H K},ac VS 52 [du 1 (M.tabs.map jp),.s nm] H K↔K (.ret _ H):=fun{H K}=>by
  refine ai.c (.body PE rfl ?_) PE rfl (by simp[hs.pl,nq]) (.inl rfl)
  simp  [go_sem,aou,e2]
  rw[h2]
 refine .body Po rfl ?_
 unfold rT cO
 simp only[Rw.c]
 by_cases c1:f.known <= k
 ·simp  [go_sem,simprocAttr,UP,c1,e3]
 ·simp  [go_sem,simprocAttr,UP,c1]
theorem Cl.len (c:Cl):c.row.length=24:=by rw[Cl.row,c.w.row_eq,c.t.row_eq];rfl
theorem Cl.pl (c:Cl):(D.ag c.row).plain=true:=by simp[Cl.row,Ex.row_eq,cE,nh,jR,cZ,c.w.hsl.flat,c.t.hsl.flat,c.w.v.f.hx.flat,c.w.v.f.hy.flat,c.t.v.f.hx.flat,c.t.v.f.hy.flat]
def io (M:aj) (a b:Int) (T:ab):ab := .hb 44 [du 2 (M.pairs.map ij),du 3 (M.facts.map iT),du 1 (M.tabs.map jp)] :: .hb 3 [.i .i64 a] :: .hb 3 [.i .i64 b]::T
theorem mF {M:aj}:(cO M).plain=true:=by simp[cO,cE,nP.flat]
theorem alB {M:aj} (h:MB M) (a b:Int) (x:Fc) {T:ab} {K:CR -> Prop}:ac VS 37 [.ag x.c,.hp 1 0,.hp 0 0,.hp 2 0] (io M a b T) K↔K (.ret (.b (decide (a<x.known)&&fT M x b)) (io M a b T)):=by
 have e1:=fun{H K}=>(Tf h x b).c (H:=H) (K:=K) D5 rfl (by simp[x.pl,mF,aV]) (.inl rfl)
 refine cC (bI.iff_q.2 (.body agp rfl rfl ?_))
 unfold io
 unfold cO at e1
 simp only[Fc.c]at e1 ⊢
 by_cases c1:a<x.known
 ·simp  [go_sem,simprocAttr,U7,c1,e1]
 ·simp  [go_sem,simprocAttr,U7,c1]
theorem alC {M:aj} (h:MB M) (a b:Int) (x:Cl) {T:ab} {K:CR -> Prop}:ac VS 39 [.ag x.row,.hp 1 0,.hp 0 0,.hp 2 0] (io M a b T) K↔K (.ret (.b (decide (a<x.known)&&cT M x b)) (io M a b T)):=by
 have e1:=fun{H K}=>(Tg h x b).c (H:=H) (K:=K) D6 rfl (by simp[x.pl,mF,aV]) (.inl rfl)
 refine cC (bI.iff_q.2 (.body agr rfl rfl ?_))
 unfold io
 unfold cO at e1
 simp[Cl.row,Ex.row_eq,T1,W0]at e1 ⊢
 by_cases c1:a<x.known
 ·simp  [go_sem,simprocAttr,U9,c1,e1]
 ·simp  [go_sem,simprocAttr,U9,c1]
theorem alD {M:aj} (h:MB M) (a b:Int) (t:Tb) (x:Rw) {T:ab} {K:CR -> Prop}:ac VS 43 [.ag x.c,.hp 1 0,.hp 0 0,.hp (T.length+3) 0,.hp 2 0] (io M a b (T++[.hb 64 t.c])) K↔K (.ret (.b (decide (a<x.known)&&rT M t.name x b)) (io M a b (T++[.hb 64 t.c]))):=by
 have e1:=fun{H K}=>(alA h t.name x b).c (H:=H) (K:=K) Po rfl (by simp[x.pl,mF,aV,nq]) (.inl rfl)
 refine cC (bI.iff_q.2 (.body agu rfl rfl ?_))
 unfold io
 unfold cO at e1
 simp only[Rw.c,Tb.c]at e1 ⊢
 by_cases c1:a<x.known
 ·simp  [go_sem,simprocAttr,Vc,c1,e1]
 ·simp  [go_sem,simprocAttr,Vc,c1]
theorem Th {M:aj} (h:MB M) (p:Pl) {l:List Fc} {x:D} (hx:Sl 11 (l.map Fc.c) x) (h1:l.length<4611686018427387904) (h2:p.tabs.length<4611686018427387904) (h3:p.cls.length<4611686018427387904) (a b:Int):ai VS 14 [p.d,x,cO M,.i .i64 a,.i .i64 b] (.b (rC p l M a b)):=by
 have e1:=fun{K}=>mj (agg:=true) (H:=io M a b []) (K:=K) (Pr.trans (by kernel_rfl)) (PH.trans (by kernel_rfl)) hx h1 (fun _=>rfl) (fun _=>rfl) (by decide) (fun x K=>alB h a b x)
 have e2:=fun{K}=>mj (H:=io M a b []) (K:=K) (agq.trans (by kernel_rfl)) (agA.trans (by kernel_rfl)) p.hc h3 Cl.len (fun c=>OS c.row) (by decide) (fun x K=>alC h a b x)
 have e3:ac VS 40 [p.tD,.fn (.func 41) [] [.hp 1 0,.hp 0 0,.hp 2 0]] (io M a b []) (fun r => ∃ G,r = .ret (.b (p.tabs.any fun t=>t.rows.any fun r=>decide (a<r.known)&&rT M t.name r b)) G):=by
  refine alz (agg:=true) (I:=fun G => ∃ T,G=io M a b T) (ags.trans (by kernel_rfl)) (agB.trans (by kernel_rfl)) p.ht h2 (fun _=>rfl) (fun _=>rfl) (by decide) ?_ (h0:=⟨[],rfl⟩)
  rintro t G ⟨T,rfl⟩
  have e4:=fun{K}=>mj (agg:=true) (H:=io M a b (T++[.hb 64 t.c])) (K:=K) (Py.trans (by kernel_rfl)) (PM.trans (by kernel_rfl)) t.hx (by have:=t.hl;omega) (fun _=>rfl) (fun _=>rfl) (by decide) (fun x K=>alD h a b t x)
  refine .body agt rfl rfl ?_
  unfold io at e4 ⊢
  simp only[Tb.c,T1]at e4 ⊢
  simp  [go_sem,aor,e4]
 refine .body D7 rfl ?_
 unfold io at e1 e2 e3
 unfold rC cO
 simp only[Pl.d]
 by_cases c1:(l.any fun x=>decide (a<x.known)&&fT M x b)=true
 ·simp  only[go_sem,GL,e1,c1]
  rfl
 ·by_cases c2:(p.cls.any fun x=>decide (a<x.known)&&cT M x b)=true
  ·simp  only[go_sem,GL,e1,c1,e2,c2]
   rfl
  ·simp  only[go_sem,simprocAttr,GL,e1,c1,e2,c2]
   refine e3.mono ?_
   rintro r ⟨G,rfl⟩
   simp  [go_sem,AAU]
end
section
open Go.Dm
set_option maxRecDepth 10000
theorem alE{f:FN}:∀{l:List FN},(∀g∈l,f.known<=g.known)->gv f l=f::l|[],_=>rfl|g::l,h=>G1 (h g N2)
def Ti{f:FN}{q:FN->Bool}:∀{l:List FN},l.Pairwise (λf g=>f.known<=g.known)->(gv f l).filter q=if q f=true then gv f (l.filter q)else l.filter q|[],_=>by grind[gv]|g::l,h=>by obtain⟨b,a⟩:=ey.1 h;have c:=Ti (f:=f) (q:=q) a;grind[gv,alE]
def wQ{q:FN->Bool}:∀l:List FN,(kH l).filter q=kH (l.filter q)|[]=>rfl|f::l=>by show(gv f _).filter q=_;rw[Ti (EZ l),wQ l,od];split<;>rfl
def alF{F:List FN}{key:Nm}{a b d:Int}(h:∀f∈F,f.key=key->f.frm<=d->d<f.to->(f.known<=a↔f.known<=b)):eT (cL F key a) d=eT (cL F key b) d:=by
 have:eo (cL F key a) d=eo (cL F key b) d:=by unfold eo cL;rw[wQ,wQ,s4,s4];congr 2;refine x3 λf c=>?_;grind
 grind[eT]
theorem Canon.val{l:List aB}(h:Canon l):∀s∈l,∀d,s.frm<=d->d<s.to->bF l d=some s.v:=by induction l with|nil=>grind|cons u l a=>
 intro s hs d b c;rw[dZ];rcases dA.1 hs with rfl|hs;·grind
 have:=h.le s hs;rw[E1 (by omega)];exact a h.tail s hs d b c
def Tj{k:Nat}:∀{l:List aB},Canon l->(∀s∈l,0<=s.frm/\s.to<=65536/\s.v.k=k)->ci l=true|[],_,_=>rfl|[s],h,hs=>by have:=hs s N2;exact R2 ⟨this.1,h.hd,this.2.1⟩|s::t::l,h,hs=>by have b:=Tj h.tail λx a=>hs x (K2 _ a);show(fk s&&fI s t&&ci _)=true;cases h<;>grind[fk,fI]
def Tk{T:List FN}{d:Int}{v:NV}(h:eT T d=some v):∃f∈T,f.gone=false/\f.v=v/\f.frm<=d/\d<f.to:=by grind[eT,eo,T]
def Tl{key:Nm}:∀{l:List Fc}{m:List (Nm×Nat)},iQ l m=true->(∀f∈l,f.gone=true->f.v.k=0)->(∀f∈l,f.gone=false->f.v.k≠0)->∃k,(ig m key≠0->k=ig m key)/\∀f∈l,f.key=key->f.gone=false->f.v.k=k
 |[],m,_,_,_=>⟨ig m key,λ_=>rfl,λ_ h=>by cases h⟩|f::l,m,h,e,i=>by
  unfold iQ at h;split at h;·cases h
  rename_i j;obtain⟨k,a,r⟩:=Tl (key:=key) h (λx b=>e x (K2 _ b)) (λx b=>i x (K2 _ b));unfold pi at a;rw[FD]at a;have g1:=e f N2;have p:=i f N2;by_cases c:key=f.key;·subst c;rw[G1 rfl]at a;unfold rj at j;cases d:f.gone with|true=>rw[g1 d,Nat.max_zero]at a;refine⟨k,a,λx b n o=>?_⟩;grind|false=>have g:=p d;simp[d]at j;refine⟨k,λq=>by omega,λx b n o=>?_⟩;grind
  rw[E1 c]at a;refine⟨k,a,λx b n o=>?_⟩;grind
def FX{l:List Fc}(hr:eJ l=true){key:Nm}{b:Int}{f:FN}(c:f∈cL (l.map Fc.n) key b):∃g∈l,g.n=f/\g.key=key/\g.rng:=by obtain⟨d,e,_⟩:=Se c;obtain⟨g,a,rfl⟩:=f0.1 d;have:=Ag hr g a;unfold Fc.right at this;simp only[D0,Hq]at this;exact⟨g,a,rfl,e,this.1⟩
def lN{l:List Fc}(hr:eJ l=true)(key:Nm)(a:Int):Canon (gV (cL (l.map Fc.n) key a))/\∀d,bF (gV (cL (l.map Fc.n) key a)) d=eT (cL (l.map Fc.n) key a) d:=Sc λf b=>by obtain⟨g,_,rfl,_,q⟩:=FX hr b;exact q.2.2.2.1
def AJ{l:List Fc}(hr:eJ l=true)(key:Nm)(c:Int):ci (gV (cL (l.map Fc.n) key c))=true:=by
 have i:=Ag hr;have j:iQ l []=true:=by grind[eJ]
 obtain⟨a,d⟩:=lN hr key c;obtain⟨k,_,m⟩:=Tl (key:=key) j (λf e h=>by have:=i f e;unfold Fc.right at this;simp only[h,D0,if_true]at this;have:=this.2;unfold Vl.eq at this;simp only[D0,Hq]at this;exact this.1.1) (λf e h=>by grind[Fc.right,Vl.valid]);refine Tj (k:=k) a λs hs=>?_;have n:=a.all_hd s hs;obtain⟨f,o,b,p,q,B⟩:=Tk (by rw[<-d,a.val s hs s.frm (sd _) n]);obtain⟨g,g1,C,E,F,r⟩:=Tk (by rw[<-d,a.val s hs (s.to-1) (by omega) (by omega)]);obtain⟨t,u,rfl,v,w⟩:=FX hr o;obtain⟨x,G,rfl,H,y⟩:=FX hr g1;have z:=w.2.2.1;have A:=y.2.2.2.2.1;refine⟨AB9 z q,AB9 (by have:s.to-1<x.to:=r;omega) A,?_⟩;have:=m t u v b;rw[<-p,<-this];unfold Fc.n at b⊢;simp at b⊢;rw[b];rfl
def Tm{a b:Int}:∀{l acc:List bU},(∀r∈l,(a<r.known↔b<r.known))->bK a l acc=bK b l acc|[],_,_=>rfl|r::l,acc,h=>by have d:=λacc=>Tm (acc:=acc) λx c=>h x (K2 _ c);grind[bK]
def Tn{rows:List (List D)}{c:Nm}{d a b:Int}:∀{n:Nat},n<=rows.length->(∀r∈rows,pT c d a r=pT c d b r)->cr rows c d a n=cr rows c d b n|0,_,_=>rfl|n+1,e,h=>by have f:=Tn (n:=n) (by omega) h;grind[cr,iy]
def ju.refl{α:Type}{R:α->α->Prop}(h:∀a,R a a):∀l:List α,ju R l l|[]=>.nil|a::l=>.cons (h a) (ju.refl h l)
def alG{p:Pl}{l:List Fc}{M:aj}{a b:Int}(hr:eJ l=true)(o:a<=b)(h:rC p l M a b=false):jv (p.bw l a).wd (p.bw l b).wd M:=by
 unfold rC fT cT rT at h;simp only[AAa,ABD,D0,Hq,not_and,List.any_eq_true,not_exists]at h;obtain⟨v,w,y⟩:=h;refine⟨λx j=>⟨rfl,?_⟩,λx j=>?_,λx j=>?_⟩
 ·have:(p.bw l a).wd.cl x.1 x.2=(p.bw l b).wd.cl x.1 x.2:=by show(((eV (p.cls.map Cl.row) x.1 x.2 a).map Int.toNat).map λi=>(i,p.cls[i]!.n))=((eV (p.cls.map Cl.row) x.1 x.2 b).map Int.toNat).map λi=>(i,p.cls[i]!.n);unfold eV;rw[Tn (a:=a) (b:=b) (Hk _) λr hr=>?_];obtain⟨c,k,rfl⟩:=f0.1 hr;have:=w c k;unfold pT;cases e:tI c.row==x.1&&decide (LN c.row<=x.2)&&decide (x.2<LO c.row)with|false=>rfl|true=>simp only[D0,Hq,U3]at e;exact decide_eq_decide.2 ⟨λq=>AB9 q o,λq=>ABa.1 λz=>this z q x j e.1.1.symm e.1.2 e.2⟩
  rw[this];exact .refl (λq=>⟨rfl,rfl⟩) _
 ·refine⟨_,_,rfl,rfl,?_,?_,?_,λd k u=>?_⟩;·rw[jq];exact(lN hr _ _).1
  ·rw[jq];exact(lN hr _ _).1
  ·rw[jq,jq];exact(AJ hr _ _).trans (AJ hr _ _).symm
  rw[jq,jq];rw[(lN hr _ _).2,(lN hr _ _).2];refine alF λf s A B C=>?_;obtain⟨g,E,rfl⟩:=f0.1 s;exact⟨λq=>AB9 q o,λq=>ABa.1 λz=>v g E z q x j A.symm (by have:g.frm<=d:=B;have:d<g.to:=C;omega)⟩
 show(aI x (mC p.tabs)).map _=(aI x (mC p.tabs)).map _;cases F:aI x (mC p.tabs)with|none=>rfl|some t=>
 obtain⟨k,u⟩:=(SI (l:=p.tabs) (m:=[]) (x,t) (iS F)).resolve_left λh=>by cases h
 show some (t.two,bK a (t.rows.map Rw.n) [])=some (t.two,bK b (t.rows.map Rw.n) []);rw[Tm (a:=a) (b:=b) λr hr=>?_];obtain⟨r,s,rfl⟩:=f0.1 hr;have:=y t k r s;exact⟨λz=>Int.not_le.1 λq=>this z q x j u,λz=>Int.lt_of_le_of_lt o z⟩
end
end Go.Proofs.YtekgndcflpklkaaGreatDoor.Dv
