/-
  The chapter's examples,checked.
-/
import Derived.Test.YtgefdialaemelaaGreatDoorP
import Derived.Test.YtgefdialaemelaaGreatDoorDh
namespace Go.Proofs.YtgefdialaemelaaGreatDoor.Dv
open Go.Dm
set_option maxRecDepth 1000000 in
theorem rc_r8:pcall VS 50 88 [rcP,rcF0,rcN,.i .i64 243,.i .i64 0] = .ret rcR8:=pcall_k (by kernel_rfl)
set_option maxRecDepth 1000000 in
theorem rc_r9:pcall VS 50 88 [rcP,rcF0,rcN,.i .i64 273,.i .i64 0] = .ret rcR9:=pcall_k (by kernel_rfl)
set_option maxRecDepth 1000000 in
theorem rc_r10:pcall VS 50 88 [rcP,rcF0,rcN,.i .i64 304,.i .i64 0] = .ret rcR10:=pcall_k (by kernel_rfl)
open Go.Dm
set_option maxRecDepth 1000000 in
theorem rc_r11:pcall VS 50 88 [rcP,rcF0,rcN,.i .i64 334,.i .i64 0] = .ret rcR11:=pcall_k (by kernel_rfl)
set_option maxRecDepth 1000000 in
theorem rc_r12:pcall VS 50 88 [rcP,rcF0,rcN,.i .i64 365,.i .i64 0] = .ret rcR12:=pcall_k (by kernel_rfl)
set_option maxRecDepth 1000000 in
theorem rc_r13:pcall VS 50 88 [rcP,rcF1,rcN,.i .i64 31,.i .i64 9] = .ret rcR13:=pcall_k (by kernel_rfl)
open Go.Dm
def ansL:List (List D×D):=[([rcP,rcF0,rcN,.i .i64 0,.i .i64 0],rcR0),([rcP,rcF0,rcN,.i .i64 31,.i .i64 0],rcR1),([rcP,rcF0,rcN,.i .i64 59,.i .i64 0],rcR2),([rcP,rcF0,rcN,.i .i64 90,.i .i64 0],rcR3),([rcP,rcF0,rcN,.i .i64 120,.i .i64 0],rcR4),([rcP,rcF0,rcN,.i .i64 151,.i .i64 0],rcR5),([rcP,rcF0,rcN,.i .i64 181,.i .i64 0],rcR6),([rcP,rcF0,rcN,.i .i64 212,.i .i64 0],rcR7),([rcP,rcF0,rcN,.i .i64 243,.i .i64 0],rcR8),([rcP,rcF0,rcN,.i .i64 273,.i .i64 0],rcR9),([rcP,rcF0,rcN,.i .i64 304,.i .i64 0],rcR10),([rcP,rcF0,rcN,.i .i64 334,.i .i64 0],rcR11),([rcP,rcF0,rcN,.i .i64 365,.i .i64 0],rcR12),([rcP,rcF1,rcN,.i .i64 31,.i .i64 9],rcR13)]
def ansF:List (List D×D) -> List D -> Option D
 | [],_=>none
 | (a,r)::l,ds=>if eqL a ds then some r else ansF l ds
theorem ansF_mem : ∀ {l:List (List D×D)} {ds:List D} {r:D},ansF l ds=some r -> (ds,r)∈l
 | [],_,_,h=>by cases h
 | (a,q)::l,ds,r,h=>by
  unfold ansF at h
  split at h
  ·rename_i e
   rw[eqL_eq]at e
   cases h
   rw[e];exact List.mem_cons_self
  ·exact List.mem_cons_of_mem _ (ansF_mem h)
def ansP (f:FuncId) (ds:List D):Option D:=if f=88 then ansF ansL ds else pextE f ds
theorem pext_run {f : FuncId} {ds:List D} {d:D} (h:pextE f ds=some d):pcall VS 50 f ds = .ret d:=by
  have hf : f = 173 := by unfold pextE at h;split at h;· assumption
                          · cases h
  subst hf
  have hp:VS.pext 173 ds=some d:=h
  simp only[pcall,fn173,pureR,hp]
theorem ansP_ok (f:FuncId) (ds:List D) (d:D) (h:ansP f ds=some d):pcall VS 50 f ds = .ret d:=by
 unfold ansP at h
 split at h
 ·rename_i hf
  subst hf
  have:=ansF_mem h
  simp only[ansL,List.mem_cons,Prod.mk.injEq,List.not_mem_nil,or_false]at this
  rcases this with⟨rfl,rfl⟩|⟨rfl,rfl⟩|⟨rfl,rfl⟩|⟨rfl,rfl⟩|⟨rfl,rfl⟩|⟨rfl,rfl⟩|⟨rfl,rfl⟩|⟨rfl,rfl⟩|⟨rfl,rfl⟩|⟨rfl,rfl⟩|⟨rfl,rfl⟩|⟨rfl,rfl⟩|⟨rfl,rfl⟩|⟨rfl,rfl⟩
  ·exact rc_r0
  ·exact rc_r1
  ·exact rc_r2
  ·exact rc_r3
  ·exact rc_r4
  ·exact rc_r5
  ·exact rc_r6
  ·exact rc_r7
  ·exact rc_r8
  ·exact rc_r9
  ·exact rc_r10
  ·exact rc_r11
  ·exact rc_r12
  ·exact rc_r13
 ·exact pext_run h
theorem ansP_none (f:FuncId) (ds:List D) (h:ansP f ds=none):VS.pext f ds=none:=by
 unfold ansP at h
 split at h
 ·rename_i hf;subst hf;rfl
 ·exact h
set_option maxRecDepth 1000000 in
theorem awake_r:pcall (VS.withP ansP) 60 6 [] = .ret (.b true):=pcall_k (by kernel_rfl)
theorem awake6:PRet VS 6 [] (.b true):=pcall_P ansP_ok ansP_none awake_r
theorem awake_c {H:Heap} {K:CR -> Prop}:CallQ VS 6 [] H K↔K (.ret (.b true) H):=awake6.c fn6 rfl rfl (.inl rfl)
end Go.Proofs.YtgefdialaemelaaGreatDoor.Dv
