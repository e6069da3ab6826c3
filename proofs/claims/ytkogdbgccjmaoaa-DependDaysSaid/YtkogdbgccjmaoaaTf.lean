/-
  Layer 25 over the machine: keys.
-/
import Derived.Test.YtkogdbgccjmaoaaTe
import Derived.Test.YtkogdbgccjmaoaaDh
namespace Go.Proofs.Ytkogdbgccjmaoaa.Dv
open Go.Dm

theorem snoc_s {l : List (List UInt8)} {a : List UInt8} : l.map seS ++ [[.s a]] = (l ++ [a]).map seS := by simp [seS]
def hpK (us : List (List UInt8)) : Heap := bH [.mp (entsM (fun s => D.s s) D.b (seenM us))] 1 (us.map seS)
def dK (us : List (List UInt8)) : D := bD [.mp (entsM (fun s => D.s s) D.b (seenM us))] .nil (us.map seS)

theorem once_in {l : List (List UInt8)} {d : D} (h : Sl 1 (l.map seS) d) (us : List (List UInt8)) {n : Nat} (hn : us.length + l.length ≤ n) (hn' : n ≤ 4000000) {x y r9 r10 : D} {k : Int} {a3 a4 a5 a15 : D} {Q : Ex → St → Prop}
    (hQ : ∀ a4 a5 a15, Q (.ex 2) ⟨[x, y, .nil, a3, a4, a5, dK (l.foldl add1 us), .i .i64 k, .i .i64 2, r9, r10, .i .i64 l.length, .i .i64 l.length, d, .mp 0, a15], hpK (l.foldl add1 us)⟩) :
    Run V (.loop v37l0) ⟨[x, y, .nil, a3, a4, a5, dK us, .i .i64 k, .i .i64 2, r9, r10, .i .i64 0, .i .i64 l.length, d, .mp 0, a15], hpK us⟩ Q := by
  refine Run.up (fun i s => ∃ a4 a5 a15, s = ⟨[x, y, .nil, a3, a4, a5, dK ((l.take i).foldl add1 us), .i .i64 k, .i .i64 2, r9, r10, .i .i64 i, .i .i64 l.length, d, .mp 0, a15], hpK ((l.take i).foldl add1 us)⟩) l.length ⟨_, _, _, rfl⟩ ?_
  rintro i s hi ⟨a4, a5, a15, rfl⟩
  have hf := fold_len (l.take i) us
  have hm : (l.take i).length ≤ l.length := by simp; omega
  by_cases hlt : i < l.length
  · have hlt' : decide ((i : Int) < (l.length : Int)) = true := by simpa using hlt
    rw [fold_take hlt]
    generalize (l.take i).foldl add1 us = vs at hf
    have hk : ∀ s : List UInt8, lkM (.c 2) (.s s) false (.b false) (some (.mp (entsM (fun s => D.s s) D.b (seenM vs)))) = some (.b (decide (s ∈ vs))) := fun s => by
      have := lkM_a (ev := D.b) kok_s s (seenM vs) false (.b false)
      rw [this, lookup_seen]
      by_cases e : s ∈ vs <;> simp [e]
    by_cases hin : l[i]! ∈ vs
    · have e1 : add1 vs l[i]! = vs := if_pos hin
      have hin' : decide (l[i]! ∈ vs) = true := decide_eq_true hin
      rw [e1]
      simp (disch := omega) only [go_sem, v37l0, h.q, seS, hlt', wr, hpK, dK, hk, hin']
      repeat' first | (refine And.intro ?_ ?_) | intro _
      all_goals omega
    · have e1 : add1 vs l[i]! = vs ++ [l[i]!] := if_neg hin
      have hin' : decide (l[i]! ∈ vs) = false := decide_eq_false hin
      have hu : ∀ H : Heap, mupM H (.c 2) 0 (.s l[i]!) (.b true) (some (.mp (entsM (fun s => D.s s) D.b (seenM vs)))) = some (H.set 0 (.mp (entsM (fun s => D.s s) D.b (seenM (vs ++ [l[i]!]))))) := fun H => by
        have := mupM_a (H := H) (ev := D.b) kok_s 0 l[i]! true (seenM vs)
        rw [put_seen _ _ hin] at this
        exact this
      have hd : bD [.mp (entsM (fun s => D.s s) D.b (seenM vs))] .nil (vs.map seS) = bD [.mp (entsM (fun s => D.s s) D.b (seenM (vs ++ [l[i]!])))] .nil (vs.map seS) := bD_h0 rfl
      rw [e1]
      simp only [dK, hd]
      simp (disch := omega) only [go_sem, Nat.reduceLT, v37l0, h.q, seS, hlt', wr, hpK, hk, hu, hin', app_n, snoc_s]
      repeat' first | (refine And.intro ?_ ?_) | intro _
      all_goals omega
  · have hlt' : decide ((i : Int) < (l.length : Int)) = false := by simpa using hlt
    have hil : i = l.length := by omega
    subst hil
    rw [List.take_length]
    simp (disch := omega) only [go_sem, v37l0, hlt']
    exact hQ _ _ _

def keysL (r : Rd) : List (List UInt8) := (r.f.map fun x => x.1).foldl add1 []
theorem once37 {l : List (List UInt8)} {d : D} (h : Sl 1 (l.map seS) d) (hl : l.length ≤ 1000000) : PurQ V 37 [d, .nil] (fun r => ∃ q, Sl 1 ((l.foldl add1 []).map seS) q ∧ r = .ret q) := by
  have hc := h.c1
  refine .body (vf := v37) rfl rfl ?_
  simp only [go_sem, Nat.reduceAdd, Nat.reduceSub, Nat.reduceLT, v37, hc]
  have e0 : decide ((0 : Int) < ((2 : Nat) : Int)) = true := rfl
  have e1 : decide ((1 : Int) < ((2 : Nat) : Int)) = true := rfl
  have e2 : decide ((2 : Int) < ((2 : Nat) : Int)) = false := rfl
  have i0 : iadD [.mp []] (.sv 1 [[d], [.nil]]) (.i .i64 0) 1 = some (.ip [d]) := rfl
  have i1 : ∀ H, iadD H (.sv 1 [[d], [.nil]]) (.i .i64 1) 1 = some (.ip [.nil]) := fun _ => rfl
  rw [Run_loop]
  simp (disch := omega) only [go_sem, Int.reduceLT, v37l1, i0, h.n]
  refine once_in h [] (n := 1000000) (by simp; omega) (by omega) (fun a4 a5 a15 => ?_)
  simp (disch := omega) only [go_sem, Nat.reduceEqDiff, reduceCtorEq, wr]
  rw [Run_loop]
  simp (disch := omega) only [go_sem, Int.reduceLT, i1]
  refine once_in (l := []) (.nil rfl) (l.foldl add1 []) (n := 1000000) (by have := fold_len l []; simp at this ⊢; omega) (by omega) (fun a4 a5 a15 => ?_)
  simp (disch := omega) only [go_sem, Nat.reduceEqDiff, reduceCtorEq, Int.reduceAdd, wr]
  rw [Run_loop]
  simp (disch := omega) only [go_sem, Int.reduceLT]
  simp only [List.foldl_nil, dK, hpK, go_sem]
  exact imD_sl rfl _ _

theorem keys18 {r : Rd} {d : D} (h : IsRd r d) (hl : r.le 1000000) : PurQ V 18 [d] (fun s => ∃ q, Sl 1 ((keysL r).map seS) q ∧ s = .ret q) := by
  obtain ⟨x, y, q, rfl, h1, h2, h3⟩ := h
  obtain ⟨l1, l2, l3⟩ := hl
  refine .body (vf := v18) rfl rfl ?_
  simp only [go_sem, Nat.reduceAdd, Nat.reduceSub, Nat.reduceLeDiff, Int.reduceLE, v18, h2.n]
  refine ⟨by omega, ?_⟩
  refine Run.up (fun i s => ∃ a2 a8, s = ⟨[.ag [x, y, q], .nil, a2, .bx [x, y, q], .mu 0 r.f.length 0 i, .i .i64 i, .i .i64 r.f.length, y, a8], cH [] 1 [.s []] (((r.f.take i).map fun x => x.1).map seS) r.f.length⟩) r.f.length ⟨.u, .u, by simp [cH]⟩ ?_
  rintro i s hi ⟨a2, a8, rfl⟩
  have hm : ((r.f.take i).map fun x => x.1).length = i := by simp; omega
  by_cases hlt : i < r.f.length
  · have hlt' : decide ((i : Int) < (r.f.length : Int)) = true := by simpa using hlt
    have es : (r.f.take (i + 1)).map (fun x => x.1) = (r.f.take i).map (fun x => x.1) ++ [r.f[i]!.1] := by rw [List.take_succ_eq_append_getElem hlt, getElem!_pos r.f i hlt, List.map_append]; rfl
    rw [es]
    generalize (r.f.take i).map (fun x => x.1) = A at hm
    subst hm
    simp (disch := omega) only [go_sem, Nat.reduceAdd, Nat.reduceLeDiff, Nat.reduceLT, v18l0, h2.q, seR, hlt', wr, app_cap0, snoc_s]
    omega
  · have hlt' : decide ((i : Int) < (r.f.length : Int)) = false := by simpa using hlt
    have hil : i = r.f.length := by omega
    subst hil
    rw [List.take_length] at hm ⊢
    have ec : cH [] 1 [.s []] ((r.f.map fun x => x.1).map seS) r.f.length = [.ar 1 ((r.f.map fun x => x.1).map seS) (some r.f.length) true false] := by simp [cH]
    simp (disch := omega) only [go_sem, v18l0, hlt', ec]
    refine CallQ.fz (vf := v37) rfl rfl rfl (ds := [.im 1 ((r.f.map fun x => x.1).map seS), .nil]) ?_ ((once37 .im (by rw [hm]; exact l2)).mono ?_)
    · have ht : ((r.f.map fun x => x.1).map seS).take r.f.length = (r.f.map fun x => x.1).map seS := List.take_of_length_le (by simp)
      simp only [go_sem, Nat.reduceAdd, ht]
      exact ⟨_, rfl⟩
    · rintro s ⟨q', hq, rfl⟩ H
      have hfz := frzR_flat (H := H) hq.flat
      simp only [go_sem, hfz]
      exact hq
theorem keys19 {r : Rd} {d : D} (h : IsRd r d) (hl : r.le 1000000) : PurQ V 19 [d] (fun s => ∃ q, Sl 1 ((keysL r).map seS) q ∧ s = .ret q) := by
  obtain ⟨x, y, q, rfl, h1, h2, h3⟩ := h
  obtain ⟨l1, l2, l3⟩ := hl
  refine .body (vf := v19) rfl rfl ?_
  simp only [go_sem, Nat.reduceAdd, Nat.reduceSub, v19]
  refine Run.up (fun i s => ∃ a2 a3 a4 a8 a9, s = ⟨[.ag [x, y, q], .nil, a2, a3, a4, bD [] .nil ((((r.f.map fun x => x.1).take i).foldl add1 []).map seS), .i .i64 i, .bx [x, y, q], a8, a9], bH [] 1 ((((r.f.map fun x => x.1).take i).foldl add1 []).map seS)⟩) r.f.length ⟨.u, .u, .u, .u, .u, rfl⟩ ?_
  rintro i s hi ⟨a2, a3, a4, a8, a9, rfl⟩
  have hf := fold_len ((r.f.map fun x => x.1).take i) []
  have hm : ((r.f.map fun x => x.1).take i).length = i := by simp; omega
  by_cases hlt : i < r.f.length
  · have hlt' : decide ((i : Int) < (r.f.length : Int)) = true := by simpa using hlt
    have hg : (r.f.map fun x => x.1)[i]! = r.f[i]!.1 := by
      rw [getElem!_pos _ i (by simpa using hlt), getElem!_pos r.f i hlt]; simp
    rw [fold_take (by simpa using hlt), hg]
    rw [hm] at hf
    generalize ((r.f.map fun x => x.1).take i).foldl add1 [] = vs at hf
    simp only [List.length_nil, Nat.zero_add] at hf
    simp (disch := omega) only [go_sem, Nat.reduceAdd, Nat.reduceLeDiff, v19l1, h2.n, hlt']
    refine Run.up (fun k s => ∃ a3, s = ⟨[.ag [x, y, q], .nil, .b true, a3, a4, bD [] .nil (vs.map seS), .i .i64 i, .bx [x, y, q], .b (decide (r.f[i]!.1 ∈ vs.take k)), .i .i64 k], bH [] 1 (vs.map seS)⟩) vs.length ⟨a3, by simp⟩ ?_
    rintro k s hk ⟨a3, rfl⟩
    by_cases hkt : k < vs.length
    · have hkt' : decide ((k : Int) < (vs.length : Int)) = true := by simpa using hkt
      have ek : decide (r.f[i]!.1 ∈ vs.take (k + 1)) = (decide (r.f[i]!.1 ∈ vs.take k) || decide (vs[k]! = r.f[i]!.1)) := by
        rw [getElem!_pos vs k hkt, ← Bool.decide_or, decide_eq_decide, List.take_succ_eq_append_getElem hkt, List.mem_append, List.mem_singleton]
        exact or_congr Iff.rfl eq_comm
      have hun : decide (0 < vs.length) = true := by simp; omega
      rw [ek]
      cases hb : decide (r.f[i]!.1 ∈ vs.take k) with
      | true =>
        simp (disch := omega) only [go_sem, v19l0, hkt', wr, Bool.true_or]
        omega
      | false =>
        simp (disch := omega) only [go_sem, Nat.reduceAdd, Nat.reduceLeDiff, v19l0, hkt', wr, h2.q, h2.under, seS, seR, hun, Bool.false_or]
        repeat' first | (refine And.intro ?_ ?_) | intro _
        all_goals omega
    · have hkt' : decide ((k : Int) < (vs.length : Int)) = false := by simpa using hkt
      have hil : k = vs.length := by omega
      subst hil
      rw [List.take_length]
      by_cases hin : r.f[i]!.1 ∈ vs
      · have hin' : decide (r.f[i]!.1 ∈ vs) = true := decide_eq_true hin
        have e1 : add1 vs r.f[i]!.1 = vs := if_pos hin
        simp (disch := omega) only [go_sem, Nat.reduceEqDiff, reduceCtorEq, v19l0, hkt', wr, hin', e1]
        omega
      · have hin' : decide (r.f[i]!.1 ∈ vs) = false := decide_eq_false hin
        have e1 : add1 vs r.f[i]!.1 = vs ++ [r.f[i]!.1] := if_neg hin
        simp (disch := omega) only [go_sem, Nat.reduceAdd, Nat.reduceLeDiff, Nat.reduceEqDiff, Nat.reduceLT, reduceCtorEq, v19l0, hkt', wr, hin', e1, h2.q, seR, app_n, snoc_s]
        repeat' first | (refine And.intro ?_ ?_) | intro _
        all_goals omega
  · have hlt' : decide ((i : Int) < (r.f.length : Int)) = false := by simpa using hlt
    have hil : i = r.f.length := by omega
    subst hil
    have ht : (r.f.map fun x => x.1).take r.f.length = r.f.map fun x => x.1 := List.take_of_length_le (by simp)
    rw [ht]
    simp (disch := omega) only [go_sem, Nat.reduceAdd, Nat.reduceLeDiff, v19l1, h2.n, hlt']
    exact imD_sl rfl _ _
end Go.Proofs.Ytkogdbgccjmaoaa.Dv
