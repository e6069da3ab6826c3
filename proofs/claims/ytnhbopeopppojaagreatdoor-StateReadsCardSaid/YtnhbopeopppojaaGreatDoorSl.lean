/-
  StateEdit over the machine.
-/
import Derived.Test.YtnhbopeopppojaaGreatDoorSh
import Derived.Test.YtnhbopeopppojaaGreatDoorSk
namespace Go.Proofs.YtnhbopeopppojaaGreatDoor.Dv
open Go.Dm Go.Proofs

structure Sc (t : List UInt8) (i b : Nat) (w : List UInt8) : Prop where
  le : b ≤ i
  lt : i ≤ t.length
  e : (t.take i).foldl sc1 ([], []) = (w, (t.take i).drop b)

@[go_sem] theorem q_step_cbs {V : VProg} {Q : Ex → St → Prop} {dr : Option (Bs × Bool)} {os : List VOper} {keep : Option Nat} {loc sl : List D} {H : Heap} {x : O} : OpQ V dr os keep loc ⟨sl, H⟩ Q (.cbs x) ↔ AfterQ V dr os keep loc sl Q (ofO ⟨sl, H⟩ (cbsD H (x.ev loc sl))) := by
  rw [OpQ_nc rfl]
  rfl
theorem bsl_u8 {x : Int} : bslD [] 1 1 [.i .u8 0] [(0, .i .u8 x)] true = some (.mu 0 1 0 1, [.ar 1 [[.i .u8 x]] (some 1) true false]) := rfl
theorem cbs_u8 {m : Nat} : cbsD [.ar 1 [[.i .u8 (m : Int)]] (some 1) true false] (.mu 0 1 0 1) = some (.s [UInt8.ofNat m]) := by
  simp [cbsD, rowsOf, arr, bytesOf]
theorem Sc.sep {t : List UInt8} {i b : Nat} {w : List UInt8} (h : Sc t i b w) (hi : i < t.length) (hs : nsep t[i]! = false) : Sc t (i + 1) (i + 1) (if wordy ((t.take i).drop b) = true then (t.take i).drop b else w) := by
  refine ⟨Nat.le_refl _, hi, ?_⟩
  rw [List.take_succ_eq_append_getElem hi, List.foldl_append, h.e]
  rw [getElem!_pos t i hi] at hs
  simp only [List.foldl_cons, List.foldl_nil, sc1, hs, Bool.false_eq_true, if_false, Prod.mk.injEq, true_and]
  exact (List.drop_eq_nil_of_le (by simp; omega)).symm
theorem Sc.on {t : List UInt8} {i b : Nat} {w : List UInt8} (h : Sc t i b w) (hi : i < t.length) (hs : nsep t[i]! = true) : Sc t (i + 1) b w := by
  refine ⟨by have := h.le; omega, hi, ?_⟩
  rw [List.take_succ_eq_append_getElem hi, List.foldl_append, h.e]
  rw [getElem!_pos t i hi] at hs
  simp only [List.foldl_cons, List.foldl_nil, sc1, hs, if_true, Prod.mk.injEq, true_and]
  rw [List.drop_append_of_le_length (by have := h.le; simp; omega)]
theorem wordy_at {t : List UInt8} {i b : Nat} (hb : b ≤ i) (hi : i < t.length) : wordy ((t.take i).drop b) = (decide (b < i) && decide ((97 : Int) ≤ t[b]!.toNat) && decide ((t[b]!.toNat : Int) ≤ 122)) := by
  by_cases h : b < i
  · have e : (t.take i).drop b = t[b]! :: (t.take i).drop (b + 1) := by
      rw [List.drop_eq_getElem_cons (by simp; omega), getElem!_pos t b (by omega), List.getElem_take]
    rw [e, wordy, decide_eq_true h, Bool.true_and]
    congr 1
    · apply decide_eq_decide.2
      rw [UInt8.le_iff_toNat_le]
      show 97 ≤ _ ↔ _
      omega
    · apply decide_eq_decide.2
      rw [UInt8.le_iff_toNat_le]
      show _ ≤ 122 ↔ _
      omega
  · have e : b = i := by omega
    subst e
    rw [List.drop_eq_nil_of_le (by simp; omega), decide_eq_false h]
    rfl
theorem nsep_at {c : UInt8} : nsep c = (!(decide ((c.toNat : Int) = 32) || decide ((c.toNat : Int) = 10))) := by
  have h : ∀ d : UInt8, (c == d) = decide ((c.toNat : Int) = d.toNat) := fun d => by
    rw [Bool.eq_iff_iff, beq_iff_eq, decide_eq_true_eq, ← UInt8.toNat_inj]
    omega
  rw [nsep, h, h]
  rfl
theorem textT_ne (s : Stm) : textT s ≠ [] := by rw [text_U]; simp [textU, kS]
end Go.Proofs.YtnhbopeopppojaaGreatDoor.Dv
