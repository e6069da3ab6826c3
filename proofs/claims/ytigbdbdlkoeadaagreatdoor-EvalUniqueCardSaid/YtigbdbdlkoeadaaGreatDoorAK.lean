/-
  Part of the proof.
-/
import Derived.Test.YtigbdbdlkoeadaaGreatDoorAJ
set_option linter.all false
namespace Go.Proofs.YtigbdbdlkoeadaaGreatDoor.Dv
section
open Go.Dm
set_option maxRecDepth 10000
noncomputable def fG:bB:=⟨gq,oX,wh,λa rows lo hi=>kN a rows lo hi 9223372036854775807⟩
def CB:vZ fG:=⟨rfl,rfl,λa b=>apF a (by omega),λ_ _ _ _=>rfl⟩
def NR.v:NR->NV|.ok v=>v|.er _=>⟨0,0,0,0⟩
def NR.e:NR->Int|.ok _=>0|.er e=>e
structure TrA(p:Pl)(l:List Fc)(nm:Nm)(d known:Int)(r:NR)(y:D)(M:af):Prop where
 j:aN (bk fG (p.bw l known).wd) (.pair nm d) af.nil r M
 v:VD r.v y
 n:(ds 65536 r.v.n.natAbs).length<70368744177665/\(ds 65536 r.v.m).length<70368744177665
 m:MB M
def y7{p:Pl}{l:List Fc}{x:D}(u:Sl 11 (l.map Fc.c) x){nm:Nm}{d known:Int}(h:nI p l d)(g:∀c∈p.cls,LX c.w/\LX c.t)(j:known<=9223372036854775807):∃r y M,ai VS 9 [p.d,x,.s nm,.i .i64 d,.i .i64 known] (.tu [y,jp M,.i .i64 r.e])/\TrA p l nm d known r y M:=by
 have q:=h.f;have B:=q.d;have C:=q.c;have E:=q.t;have F:=q.f;have b:=h.b;unfold dW at b;simp[D0,Hq]at b;have k:∀c∈p.cls,bA _ c.w/\bA _ c.t:=λc h=>⟨(g c h).1.x,(g c h).2.x⟩;have m:=Cq p CB b.1.2 (show l.length<40 by omega) b.2 j k;obtain⟨n,_,w⟩:=apd p CB u (nm:=nm) (d:=d) ⟨by omega,by omega,by omega,by omega,j,k⟩;rcases w.y h.b with⟨v,y,M,a,z,A,f⟩|⟨e,M,a,f⟩;·exact⟨.ok v,y,M,⟨n,f⟩,a,z,B7 A,WE m a⟩
 have o:Sl 1 ((ds 65536 0).map u16) .nil:=by rw[bE];exact .nil rfl
 have t:(ds 65536 0).length<70368744177665:=by grind[bE]
 exact⟨.er e,ls,M,⟨n,f⟩,a,⟨_,_,rfl,⟨o⟩,⟨o⟩⟩,⟨t,t⟩,WE m a⟩
end
end Go.Proofs.YtigbdbdlkoeadaaGreatDoor.Dv
