/-
  Part of the proof.
-/
import Derived.Test.YtekgndcflpklkaaGreatDoorH
set_option linter.all false
namespace Go.Proofs.YtekgndcflpklkaaGreatDoor.Dv
section
open Go.Dm
set_option maxRecDepth 10000
noncomputable def To:bV:=⟨iR,rK,AC,λa rows lo hi=>lK a rows lo hi 9223372036854775807⟩
def Tp:Ar To:=⟨rfl,rfl,λa b=>ala a (by omega),λ_ _ _ _=>rfl⟩
def FY:ai VS 8 [] (.b true):=⟨400,by kernel_rfl⟩
def NR.v:NR->NV|.ok v=>v|.er _=>⟨0,0,0,0⟩
def NR.e:NR->Int|.ok _=>0|.er e=>e
structure TrA(p:Pl)(l:List Fc)(nm:Nm)(d known:Int)(r:NR)(y:D)(M:aj):Prop where
 j:bO (bQ To (p.bw l known).wd) (.pair nm d) aj.nil r M
 v:VD r.v y
 n:(ds 65536 r.v.n.natAbs).length<70368744177665/\(ds 65536 r.v.m).length<70368744177665
 m:MB M
def uh{p:Pl}{l:List Fc}{x:D}(u:Sl 11 (l.map Fc.c) x){nm:Nm}{d known:Int}(h:AH p l d)(g:∀c∈p.cls,LX c.w/\LX c.t)(j:known<=9223372036854775807):∃r y M,ai VS 10 [p.d,x,.s nm,.i .i64 d,.i .i64 known] (.tu [y,cO M,.i .i64 r.e])/\TrA p l nm d known r y M:=by
 have q:=h.f;have B:=q.d;have C:=q.c;have E:=q.t;have F:=q.f;have b:=h.b;unfold iV at b;simp[D0,Hq]at b;have k:∀c∈p.cls,dp _ c.w/\dp _ c.t:=λc h=>⟨(g c h).1.x,(g c h).2.x⟩;have m:=SK p Tp b.1.2 (show l.length<40 by omega) b.2 j k;obtain⟨n,_,w⟩:=akR p Tp u (nm:=nm) (d:=d) ⟨by omega,by omega,by omega,by omega,j,k⟩;rcases w.y h.b with⟨v,y,M,a,z,A,f⟩|⟨e,M,a,f⟩;·exact⟨.ok v,y,M,⟨n,f⟩,a,z,EL A,Td m a⟩
 have o:Sl 1 ((ds 65536 0).map aJ) .nil:=by rw[cz];exact .nil rfl
 have t:(ds 65536 0).length<70368744177665:=by grind[cz]
 exact⟨.er e,xV,M,⟨n,f⟩,a,⟨_,_,rfl,⟨o⟩,⟨o⟩⟩,⟨t,t⟩,Td m a⟩
def alI{p:Pl}{l:List Fc}{M:aj}{a b:Int}(h:b<=a):rC p l M a b=false:=by grind[rC,fT,cT,rT]
def alJ(p:Pl){l:List Fc}{x:D}(e:Sl 11 (l.map Fc.c) x)(E:p.defs.length<1000000000000000)(z:p.tabs.length<4611686018427387904)(A:p.cls.length<4611686018427387904)(m:∀c∈p.cls,LX c.w/\LX c.t){n:Nm}{d a b:Int}(J:a<=9223372036854775807)(L:b<=9223372036854775807):ai VS 5 [p.d,x,.s n,.i .i64 d,.i .i64 a,.i .i64 b] (.b true):=by obtain⟨u,F,G⟩:=AI e E m (d:=d);have h:=λ{H K}=>F.c (H:=H) (K:=K) vY rfl (by simp[p.pl,e.pl,aV]) (.inl rfl);have o:=λ{H K}=>FY.c (H:=H) (K:=K) D4 rfl rfl (.inl rfl);refine .body fn5 rfl ?_;unfold Pl.d at h⊢;cases u with|false=>simp[go_sem,GF,h,o]|true=>
 have U:=G rfl;obtain⟨r,y,M,t1,f⟩:=uh e (nm:=n) (known:=min a b) U m (by omega);obtain⟨N,P,Q,I,j⟩:=uh e (nm:=n) (known:=max a b) U m (by omega);obtain⟨S,V,rfl,_⟩:=f.v.h;obtain⟨c3,W,rfl,_⟩:=j.v.h;have q:=λ{H K}=>t1.c (H:=H) (K:=K) qW rfl (by simp[p.pl,e.pl,aV,nq]) (.inl rfl);have t:=λ{H K}=>I.c (H:=H) (K:=K) qW rfl (by simp[p.pl,e.pl,aV,nq]) (.inl rfl);have B:l.length<4611686018427387904:=by have:=U.f.f;omega
 have g:=λ{H K}=>(Th f.m p e B z A (min a b) (max a b)).c (H:=H) (K:=K) D7 rfl (by simp[p.pl,e.pl,aV,mF]) (.inl rfl);have k:=λ{H K}=>(Th f.m p e B z A (max a b) (min a b)).c (H:=H) (K:=K) D7 rfl (by simp[p.pl,e.pl,aV,mF]) (.inl rfl);rw[alI (by omega)]at k;unfold Pl.d cO at q t g k;cases v:rC p l M _ _ with|true=>rw[v]at g;simp[go_sem,GF,h,q,t,g,k,o]|false=>rw[v]at g;have w:=U.b;unfold iV at w;simp only[D0]at w;obtain⟨rfl,rfl⟩:=(Gw f.j (alG w.2 (by omega) v)).det j.j;have C:=λ{H K}=>(FU f.v j.v f.n f.m r.e).c (H:=H) (K:=K) zD rfl (by simp[f.v.pl,j.v.pl,aV,mF]) (.inl rfl);unfold cO at C;simp[go_sem,GF,h,q,t,g,C,k,o]
end
end Go.Proofs.YtekgndcflpklkaaGreatDoor.Dv
