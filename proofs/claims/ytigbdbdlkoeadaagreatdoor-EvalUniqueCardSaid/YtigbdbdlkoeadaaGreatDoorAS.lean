/-
  Part of the proof.
-/
import Derived.Test.YtigbdbdlkoeadaaGreatDoorAR
set_option linter.all false
namespace Go.Proofs.YtigbdbdlkoeadaaGreatDoor.Dv
section
open Go.Dm
def SH:List (List D×D):=[([nh [na,nc,qx,ne],.im 11 [qy 65,nj],nq,.i .i64 100,.i .i64 0],SC),([nh [na,nc,qx,ne],.im 11 [qy 50,nj],nq,.i .i64 100,.i .i64 0],SD),([nh [na,nc,qx,ne],.im 11 [nj],nq,.i .i64 100,.i .i64 0],SE),([nh [na,nc,qx,ne,SA],.im 11 [qy 65,nj],nq,.i .i64 100,.i .i64 0],SF),([nh [na,nc,SB,ne],.im 11 [qy 65,nj],nq,.i .i64 100,.i .i64 0],SG)]
def BB:List (List D×D)->List D->Option D|[],_=>none|(a,r)::l,ds=>if iN a ds then some r else BB l ds
def SI:∀{l:List (List D×D)}{ds:List D}{r:D},BB l ds=some r->(ds,r)∈l
 |[],_,_,h=>by cases h|(a,q)::l,ds,r,h=>by
  unfold BB at h;split at h;·rename_i e;rw[mW]at e;cases h;rw[e];exact N1
  exact M0 _ (SI h)
def yk(f:FuncId)(ds:List D):Option D:=if f=9 then BB SH ds else w9 f ds
def akC{f:FuncId}{ds:List D}{d:D}(h:w9 f ds=some d):dh VS 50 f ds=.ret d:=by
 have a:f=19:=by
  unfold w9 at h;split at h;·assumption
  cases h
 subst a;have b:VS.pext 19 ds=some d:=h;simp only[dh,BG,dU,b]
def akD(f:FuncId)(ds:List D)(d:D)(h:yk f ds=some d):dh VS 50 f ds=.ret d:=by
 unfold yk at h;split at h
 ·rename_i a;subst a;have:=SI h;simp only[SH,S2,wx,AAE,or_false]at this;rcases this with⟨rfl,rfl⟩|⟨rfl,rfl⟩|⟨rfl,rfl⟩|⟨rfl,rfl⟩|⟨rfl,rfl⟩;·exact akx
  ·exact aky
  ·exact akz
  ·exact akA
  exact akB
 exact akC h
def akE(f:FuncId)(ds:List D)(h:yk f ds=none):VS.pext f ds=none:=by
 unfold yk at h;split at h;·rename_i a;subst a;rfl
 exact h
set_option maxRecDepth 1000000
def akF:dh (VS.withP yk) 60 8 []=.ret (.b true):=by kernel_rfl
def akG:ai VS 8 [] (.b true):=ae0 akD akE akF
def BC{H:ab}{K:CR->Prop}:ac VS 8 [] H K↔K (.ret (.b true) H):=akG.c fn8 rfl rfl (.inl rfl)
end
end Go.Proofs.YtigbdbdlkoeadaaGreatDoor.Dv
