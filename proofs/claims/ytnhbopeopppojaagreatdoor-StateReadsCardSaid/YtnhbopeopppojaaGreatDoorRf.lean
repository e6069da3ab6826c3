/-
  StateReads over the machine.
-/
import Derived.Test.YtnhbopeopppojaaGreatDoorRe
namespace Go.Proofs.YtnhbopeopppojaaGreatDoor.Dv
open Go.Dm Go.Proofs

noncomputable def rdS (t : List UInt8) : Stm := match readS t with
  | some s => s
  | none => zS
noncomputable def rdE (t : List UInt8) : Int := match readS t with
  | some _ => 0
  | none => 390
theorem readD_eq (t : List UInt8) : readD t = .tu [stD (rdS t) (lsD (rdS t).ls), .i .i64 (rdE t)] := by
  unfold readD rdS rdE
  cases readS t <;> rfl
theorem rdS_len (t : List UInt8) : (rdS t).ls.length ≤ 12 := by
  unfold rdS
  cases h : readS t with
  | some s => exact (readS_spec h).1.len
  | none => simp [zS]
theorem c17h {H H1 : Heap} {s : Stm} {x d : D} (h : ∀ m, Dm.freeze (m + 1) H x = some (lsD s.ls, H1)) (hd : IsStm s d) (hl : s.ls.length ≤ 1000000) {K : CR → Prop} : CallQ VS 12 [d, stD s x] H K ↔ K (.ret (.b true) H1) := by
  have hs : IsStm s (stD s (lsD s.ls)) := isStm_of s
  have e := same17 hd hs hl
  rw [decide_eq_true rfl] at e
  refine CallQ_p (vf := v12) (H1 := H1) rfl rfl e ?_
  obtain ⟨⟨y, rfl, hy⟩⟩ := hd
  have fy : ∀ m H, Dm.freeze (m + 1) H y = some (y, H) := fun m H => flat_freeze hy.flat m H
  simp only [go_sem, Nat.reduceAdd, stD, h, fy]
theorem reads5 {t : List UInt8} (hl : t.length ≤ 3000) : PRet VS 5 [.s t] (.b true) := by
  have e10 := fun {H K} => c16 (t := t) (by omega) (H := H) (K := K)
  have e11 := fun {H K} => c11w hl (H := H) (K := K)
  rw [read_same] at e11
  rw [readD_eq] at e10 e11
  have hlen := rdS_len t
  have e18 := fun {H K} => c18 (isStm_of (rdS t)) (by omega) (H := H) (K := K)
  have e17 := fun {K} => c17h (s := rdS t) fz_b0 (isStm_of (rdS t)) (by omega) (K := K)
  have k0 := (lsD_sl (rdS t).ls).c1
  refine .body (vf := v5) rfl rfl ?_
  simp only [stD] at e10 e11 e18 e17
  simp (disch := omega) only [go_sem, Nat.reduceAdd, Nat.reduceSub, v5, e10, e11, e18, e17]
theorem c5w {t : List UInt8} (hl : t.length ≤ 3000) {H : Heap} {K : CR → Prop} : CallQ VS 5 [.s t] H K ↔ K (.ret (.b true) H) :=
  (reads5 hl).c (vf := v5) rfl rfl rfl (.inl rfl)
theorem lawReads {t : List UInt8} : PRet VS 3 [.s t] (.b true) := by
  refine .body (vf := v3) rfl rfl ?_
  by_cases hl : t.length ≤ 3000
  · have b1 : decide ((t.length : Int) > 3000) = false := decide_eq_false (by omega)
    have e5 := fun {H K} => c5w hl (H := H) (K := K)
    simp (disch := omega) only [go_sem, Nat.reduceSub, v3, b1, e5, c12]
  · have b1 : decide ((t.length : Int) > 3000) = true := decide_eq_true (by omega)
    simp (disch := omega) only [go_sem, Nat.reduceSub, v3, b1, c12]
end Go.Proofs.YtnhbopeopppojaaGreatDoor.Dv
