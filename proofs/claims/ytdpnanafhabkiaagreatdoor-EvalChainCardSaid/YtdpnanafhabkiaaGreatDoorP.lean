/-
  The chapter's examples, by runs.
-/
import Derived.Test.YtdpnanafhabkiaaGreatDoorA
import Derived.Test.YtdpnanafhabkiaaGreatDoorDh
namespace Go.Proofs.YtdpnanafhabkiaaGreatDoor.Dv
open Go.Dm
def exD : D := (.im 3 [[(.s [97, 103, 101]), (.i .u8 2), (.b false)], [(.s [114, 97, 116, 101]), (.i .u8 2), (.b false)], [(.s [112, 101, 110, 115, 105, 111, 110]), (.i .u8 3), (.b false)]])
def exC0 : List D := [(.s [97, 103, 101]), (.s [102, 97, 99, 116]), (.i .i64 0), (.i .i64 65536), (.i .i64 0), (.b false), (.i .u8 1), (.s []), (.i .u8 1), (.b false), .nil, (.b false), .nil, (.i .i64 1), .nil, (.i .u8 3), (.s [97, 103, 101]), (.i .u8 0), (.b false), .nil, (.b false), .nil, (.i .i64 0), (.im 9 [[(.i .u8 2), (.s []), (.i .u8 0), (.b false), .nil, (.b false), .nil, (.i .i64 0), .nil]])]
def exC1 : List D := [(.s [114, 97, 116, 101]), (.s [121, 111, 117, 110, 103]), (.i .i64 0), (.i .i64 65536), (.i .i64 0), (.b false), (.i .u8 13), (.s []), (.i .u8 0), (.b false), .nil, (.b false), .nil, (.i .i64 0), (.im 9 [[(.i .u8 5), (.s [97, 103, 101]), (.i .u8 0), (.b false), .nil, (.b false), .nil, (.i .i64 0), (.im 9 [[(.i .u8 2), (.s []), (.i .u8 0), (.b false), .nil, (.b false), .nil, (.i .i64 0), .nil]])], [(.i .u8 1), (.s []), (.i .u8 2), (.b false), (.im 1 [[(.i .u16 60)]]), (.b false), (.im 1 [[(.i .u16 1)]]), (.i .i64 0), .nil]]), (.i .u8 1), (.s []), (.i .u8 2), (.b false), .nil, (.b false), (.im 1 [[(.i .u16 1)]]), (.i .i64 0), .nil]
def exC2 : List D := [(.s [114, 97, 116, 101]), (.s [111, 108, 100]), (.i .i64 0), (.i .i64 65536), (.i .i64 0), (.b false), (.i .u8 17), (.s []), (.i .u8 0), (.b false), .nil, (.b false), .nil, (.i .i64 0), (.im 9 [[(.i .u8 13), (.s []), (.i .u8 0), (.b false), .nil, (.b false), .nil, (.i .i64 0), (.im 9 [[(.i .u8 5), (.s [97, 103, 101]), (.i .u8 0), (.b false), .nil, (.b false), .nil, (.i .i64 0), (.im 9 [[(.i .u8 2), (.s []), (.i .u8 0), (.b false), .nil, (.b false), .nil, (.i .i64 0), .nil]])], [(.i .u8 1), (.s []), (.i .u8 2), (.b false), (.im 1 [[(.i .u16 60)]]), (.b false), (.im 1 [[(.i .u16 1)]]), (.i .i64 0), .nil]])]]), (.i .u8 1), (.s []), (.i .u8 2), (.b false), (.im 1 [[(.i .u16 1)]]), (.b false), (.im 1 [[(.i .u16 80)]]), (.i .i64 0), .nil]
def exC3 : List D := [(.s [112, 101, 110, 115, 105, 111, 110]), (.s [97, 108, 108]), (.i .i64 0), (.i .i64 65536), (.i .i64 0), (.b false), (.i .u8 1), (.s []), (.i .u8 1), (.b false), .nil, (.b false), .nil, (.i .i64 1), .nil, (.i .u8 9), (.s []), (.i .u8 0), (.b false), .nil, (.b false), .nil, (.i .i64 0), (.im 9 [[(.i .u8 9), (.s []), (.i .u8 0), (.b false), .nil, (.b false), .nil, (.i .i64 0), (.im 9 [[(.i .u8 3), (.s [112, 97, 121]), (.i .u8 0), (.b false), .nil, (.b false), .nil, (.i .i64 0), (.im 9 [[(.i .u8 2), (.s []), (.i .u8 0), (.b false), .nil, (.b false), .nil, (.i .i64 0), .nil]])], [(.i .u8 5), (.s [114, 97, 116, 101]), (.i .u8 0), (.b false), .nil, (.b false), .nil, (.i .i64 0), (.im 9 [[(.i .u8 2), (.s []), (.i .u8 0), (.b false), .nil, (.b false), .nil, (.i .i64 0), .nil]])]])], [(.i .u8 1), (.s []), (.i .u8 2), (.b false), (.im 1 [[(.i .u16 40)]]), (.b false), (.im 1 [[(.i .u16 1)]]), (.i .i64 0), .nil]])]
def exC4 : List D := [(.s [114, 97, 116, 101]), (.s [97, 108, 108]), (.i .i64 0), (.i .i64 65536), (.i .i64 0), (.b false), (.i .u8 1), (.s []), (.i .u8 1), (.b false), .nil, (.b false), .nil, (.i .i64 1), .nil, (.i .u8 1), (.s []), (.i .u8 2), (.b false), .nil, (.b false), (.im 1 [[(.i .u16 1)]]), (.i .i64 0), .nil]
def exC5 : List D := [(.s [114, 97, 116, 101]), (.s [111, 108, 100]), (.i .i64 0), (.i .i64 65536), (.i .i64 0), (.b false), (.i .u8 17), (.s []), (.i .u8 0), (.b false), .nil, (.b false), .nil, (.i .i64 0), (.im 9 [[(.i .u8 13), (.s []), (.i .u8 0), (.b false), .nil, (.b false), .nil, (.i .i64 0), (.im 9 [[(.i .u8 5), (.s [97, 103, 101]), (.i .u8 0), (.b false), .nil, (.b false), .nil, (.i .i64 0), (.im 9 [[(.i .u8 2), (.s []), (.i .u8 0), (.b false), .nil, (.b false), .nil, (.i .i64 0), .nil]])], [(.i .u8 1), (.s []), (.i .u8 2), (.b false), (.im 1 [[(.i .u16 60)]]), (.b false), (.im 1 [[(.i .u16 1)]]), (.i .i64 0), .nil]])]]), (.i .u8 5), (.s [112, 101, 110, 115, 105, 111, 110]), (.i .u8 0), (.b false), .nil, (.b false), .nil, (.i .i64 0), (.im 9 [[(.i .u8 2), (.s []), (.i .u8 0), (.b false), .nil, (.b false), .nil, (.i .i64 0), .nil]])]
def exP (l : List (List D)) : D := .ag [.s [], exD, .nil, .im 24 l]
def exF (age : Int) : List D := [(.s [97, 103, 101]), (.i .i64 0), (.i .i64 65536), (.i .i64 0), (.b false), (.i .u8 2), (.b false), (.im 1 [[(.i .u16 age)]]), (.b false), (.im 1 [[(.i .u16 1)]]), (.i .i64 0)]
def exG : List D := [(.s [112, 97, 121]), (.i .i64 0), (.i .i64 65536), (.i .i64 0), (.b false), (.i .u8 3), (.b false), (.im 1 [[(.i .u16 1600)]]), (.b false), (.im 1 [[(.i .u16 1)]]), (.i .i64 0)]
def exN : D := .s [112, 101, 110, 115, 105, 111, 110]
def exR0 : D := (.tu [(.ag [(.i .u8 3), (.b false), (.im 1 [[(.i .u16 800)]]), (.b false), (.im 1 [[(.i .u16 1)]]), (.i .i64 0)]), (.ag [(.im 2 [[(.s [112, 101, 110, 115, 105, 111, 110]), (.i .i64 100)], [(.s [114, 97, 116, 101]), (.i .i64 100)], [(.s [97, 103, 101]), (.i .i64 100)]]), (.im 3 [[(.s [112, 97, 121]), (.i .i64 100), (.i .i64 101)], [(.s [97, 103, 101]), (.i .i64 100), (.i .i64 101)]]), .nil]), (.i .i64 0)])
def exR1 : D := (.tu [(.ag [(.i .u8 3), (.b false), .nil, (.b false), (.im 1 [[(.i .u16 1)]]), (.i .i64 0)]), (.ag [(.im 2 [[(.s [112, 101, 110, 115, 105, 111, 110]), (.i .i64 100)], [(.s [114, 97, 116, 101]), (.i .i64 100)], [(.s [97, 103, 101]), (.i .i64 100)]]), (.im 3 [[(.s [112, 97, 121]), (.i .i64 100), (.i .i64 101)], [(.s [97, 103, 101]), (.i .i64 100), (.i .i64 101)]]), .nil]), (.i .i64 0)])
def exR2 : D := (.tu [(.ag [(.i .u8 0), (.b false), .nil, (.b false), .nil, (.i .i64 0)]), (.ag [(.im 2 [[(.s [112, 101, 110, 115, 105, 111, 110]), (.i .i64 100)], [(.s [114, 97, 116, 101]), (.i .i64 100)], [(.s [97, 103, 101]), (.i .i64 100)]]), (.im 3 [[(.s [112, 97, 121]), (.i .i64 100), (.i .i64 101)], [(.s [97, 103, 101]), (.i .i64 100), (.i .i64 101)]]), .nil]), (.i .i64 182)])
def exR3 : D := (.tu [(.ag [(.i .u8 0), (.b false), .nil, (.b false), .nil, (.i .i64 0)]), (.ag [(.im 2 [[(.s [112, 101, 110, 115, 105, 111, 110]), (.i .i64 100)], [(.s [114, 97, 116, 101]), (.i .i64 100)], [(.s [97, 103, 101]), (.i .i64 100)]]), (.im 3 [[(.s [112, 97, 121]), (.i .i64 100), (.i .i64 101)], [(.s [97, 103, 101]), (.i .i64 100), (.i .i64 101)]]), .nil]), (.i .i64 184)])
def exR4 : D := (.tu [(.ag [(.i .u8 0), (.b false), .nil, (.b false), .nil, (.i .i64 0)]), (.ag [(.im 2 [[(.s [112, 101, 110, 115, 105, 111, 110]), (.i .i64 100)], [(.s [114, 97, 116, 101]), (.i .i64 100)], [(.s [97, 103, 101]), (.i .i64 100)]]), (.im 3 [[(.s [112, 97, 121]), (.i .i64 100), (.i .i64 101)], [(.s [97, 103, 101]), (.i .i64 100), (.i .i64 101)]]), .nil]), (.i .i64 186)])
open Go.Dm
set_option maxRecDepth 1000000 in
theorem ex_r0 : pcall VS 50 17 [exP [exC0, exC1, exC2, exC3], .im 11 [exF 65, exG], exN, .i .i64 100, .i .i64 0] = .ret exR0 := pcall_k (by kernel_rfl)
open Go.Dm
set_option maxRecDepth 1000000 in
theorem ex_r1 : pcall VS 50 17 [exP [exC0, exC1, exC2, exC3], .im 11 [exF 50, exG], exN, .i .i64 100, .i .i64 0] = .ret exR1 := pcall_k (by kernel_rfl)
open Go.Dm
set_option maxRecDepth 1000000 in
theorem ex_r2 : pcall VS 50 17 [exP [exC0, exC1, exC2, exC3], .im 11 [exG], exN, .i .i64 100, .i .i64 0] = .ret exR2 := pcall_k (by kernel_rfl)
open Go.Dm
set_option maxRecDepth 1000000 in
theorem ex_r3 : pcall VS 50 17 [exP [exC0, exC1, exC2, exC3, exC4], .im 11 [exF 65, exG], exN, .i .i64 100, .i .i64 0] = .ret exR3 := pcall_k (by kernel_rfl)
open Go.Dm
set_option maxRecDepth 1000000 in
theorem ex_r4 : pcall VS 50 17 [exP [exC0, exC1, exC5, exC3], .im 11 [exF 65, exG], exN, .i .i64 100, .i .i64 0] = .ret exR4 := pcall_k (by kernel_rfl)
open Go.Dm
def ansL : List (List D × D) := [([exP [exC0, exC1, exC2, exC3], .im 11 [exF 65, exG], exN, .i .i64 100, .i .i64 0], exR0),
 ([exP [exC0, exC1, exC2, exC3], .im 11 [exF 50, exG], exN, .i .i64 100, .i .i64 0], exR1),
 ([exP [exC0, exC1, exC2, exC3], .im 11 [exG], exN, .i .i64 100, .i .i64 0], exR2),
 ([exP [exC0, exC1, exC2, exC3, exC4], .im 11 [exF 65, exG], exN, .i .i64 100, .i .i64 0], exR3),
 ([exP [exC0, exC1, exC5, exC3], .im 11 [exF 65, exG], exN, .i .i64 100, .i .i64 0], exR4)]
def ansF : List (List D × D) -> List D -> Option D
 | [], _ => none
 | (a, r) :: l, ds => if eqL a ds then some r else ansF l ds
theorem ansF_mem : ∀ {l : List (List D × D)} {ds : List D} {r : D}, ansF l ds = some r -> (ds, r) ∈ l
 | [], _, _, h => by cases h
 | (a, q) :: l, ds, r, h => by
  unfold ansF at h
  split at h
  ·rename_i e
   rw [eqL_eq] at e
   cases h
   rw [e]; exact List.mem_cons_self
  ·exact List.mem_cons_of_mem _ (ansF_mem h)
def ansP (f : FuncId) (ds : List D) : Option D := if f = 17 then ansF ansL ds else pextE f ds
theorem pext_run {f : FuncId} {ds : List D} {d : D} (h : pextE f ds = some d) : pcall VS 50 f ds = .ret d := by
  have hf : f = 104 := by unfold pextE at h; split at h; · assumption
                          · cases h
  subst hf
  have hp : VS.pext 104 ds = some d := h
  simp only [pcall, fn104, pureR, hp]
theorem ansP_ok (f : FuncId) (ds : List D) (d : D) (h : ansP f ds = some d) : pcall VS 50 f ds = .ret d := by
 unfold ansP at h
 split at h
 ·rename_i hf
  subst hf
  have := ansF_mem h
  simp only [ansL, List.mem_cons, Prod.mk.injEq, List.not_mem_nil, or_false] at this
  rcases this with ⟨rfl, rfl⟩ | ⟨rfl, rfl⟩ | ⟨rfl, rfl⟩ | ⟨rfl, rfl⟩ | ⟨rfl, rfl⟩
  ·exact ex_r0
  ·exact ex_r1
  ·exact ex_r2
  ·exact ex_r3
  ·exact ex_r4
 ·exact pext_run h
theorem ansP_none (f : FuncId) (ds : List D) (h : ansP f ds = none) : VS.pext f ds = none := by
 unfold ansP at h
 split at h
 ·rename_i hf; subst hf; rfl
 ·exact h
set_option maxRecDepth 1000000 in
theorem awake_r : pcall (VS.withP ansP) 60 12 [] = .ret (.b true) := pcall_k (by kernel_rfl)
theorem awake12 : PRet VS 12 [] (.b true) := pcall_P ansP_ok ansP_none awake_r
theorem awake_c {H : Heap} {K : CR -> Prop} : CallQ VS 12 [] H K ↔ K (.ret (.b true) H) := awake12.c fn12 rfl rfl (.inl rfl)
end Go.Proofs.YtdpnanafhabkiaaGreatDoor.Dv
