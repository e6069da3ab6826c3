/-
  Layer 4's reference over the machine: days marked, and the set of them.
-/
import Derived.Test.YtkogdbgccjmaoaaTc
namespace Go.Proofs.Ytkogdbgccjmaoaa.Dv
open Go.Dm

def seB (b : Bool) : List D := [.b b]
theorem rep_b {n : Nat} : List.replicate n [D.b false] = (List.replicate n false).map seB := by simp [seB]
theorem set_b {l : List Bool} {i : Nat} {b : Bool} : (l.map seB).set i [.b b] = (l.set i b).map seB := by rw [List.map_set]; rfl
theorem rep_get {n k : Nat} : (List.replicate n false)[k]! = false := by
  rw [List.getElem!_eq_getElem?_getD, List.getElem?_replicate]; split <;> rfl
/-- The day is one of the first i spans'. -/
def mkd (l : List (Int × Int)) (i k : Nat) : Bool := (l.take i).any fun s => decide (s.1 ≤ k ∧ (k : Int) < s.2)
theorem mkd_succ {l : List (Int × Int)} {i k : Nat} (hi : i < l.length) : mkd l (i + 1) k = (mkd l i k || decide (l[i]!.1 ≤ k ∧ (k : Int) < l[i]!.2)) := by
  unfold mkd
  rw [List.take_succ_eq_append_getElem hi, List.any_append, getElem!_pos l i hi]
  simp
structure Mk (l : List (Int × Int)) (ml : List Bool) (i : Nat) : Prop where
  n : ml.length = 65536
  m : ∀ k, k < 65536 → ml[k]! = mkd l i k
/-- .. and the first days of the next one. -/
structure Mi (l : List (Int × Int)) (ml : List Bool) (i : Nat) (d : Int) : Prop where
  n : ml.length = 65536
  a : l[i]!.1 ≤ d
  b : d ≤ l[i]!.2
  m : ∀ k, k < 65536 → ml[k]! = (mkd l i k || decide (l[i]!.1 ≤ k ∧ (k : Int) < d))
theorem set_get {l : List Bool} {i k : Nat} {b : Bool} (hi : i < l.length) : (l.set i b)[k]! = if k = i then b else l[k]! := by
  by_cases h : k = i
  · subst h; simp [hi]
  · simp only [h, if_false]
    rw [List.getElem!_eq_getElem?_getD, List.getElem!_eq_getElem?_getD, List.getElem?_set_ne (Ne.symm h)]

theorem marks66 {l : List (Int × Int)} {d : D} (h : Sl 2 (l.map spR) d) (hl : l.length ≤ 1000000) (hs : allSp l = true) : PurQ V 66 [d] (fun r => ∃ ml, Mk l ml l.length ∧ r = .ret (.im 1 (ml.map seB))) := by
  have hsp : ∀ i, i < l.length → 0 ≤ l[i]!.1 ∧ l[i]!.1 ≤ l[i]!.2 ∧ l[i]!.2 ≤ 65536 := fun i hi => by
    have := List.all_eq_true.1 hs l[i] (List.getElem_mem hi)
    rw [getElem!_pos l i hi]
    simpa [isSp] using this
  refine .body (vf := v66) rfl rfl ?_
  simp only [go_sem, Nat.reduceSub, Nat.reduceMul, Nat.reduceLeDiff, Int.reduceLE, Int.reduceToNat, v66, rep_b]
  refine Run.up (fun i s => ∃ ml a2 a3 a5, Mk l ml i ∧ s = ⟨[d, .nil, a2, a3, .i .i64 i, a5, .mu 0 65536 0 65536], [.ar 1 (ml.map seB) (some 65536) true false]⟩) l.length ⟨_, .u, .u, .u, ⟨List.length_replicate, fun k hk => by rw [rep_get]; rfl⟩, rfl⟩ ?_
  rintro i s hi ⟨ml, a2, a3, a5, hm, rfl⟩
  by_cases hlt : i < l.length
  · have hlt' : decide ((i : Int) < (l.length : Int)) = true := by simpa using hlt
    obtain ⟨s1, s2, s3⟩ := hsp i hlt
    simp (disch := omega) only [go_sem, Nat.reduceAdd, Nat.reduceLeDiff, v66l1, h.n, h.q, spR, hlt']
    refine ⟨by omega, Run.loop (fun j s => ∃ ml a2 a3 e, Mi l ml i e ∧ j = (l[i]!.2 - e).toNat ∧ s = ⟨[d, .nil, a2, a3, .i .i64 i, .i .i64 e, .mu 0 65536 0 65536], [.ar 1 (ml.map seB) (some 65536) true false]⟩) (l[i]!.2 - l[i]!.1).toNat ⟨ml, true |> .b, a3, _, ⟨hm.n, by omega, by omega, fun k hk => ?_⟩, rfl, rfl⟩ ?_⟩
    · rw [hm.m k hk]
      rw [decide_eq_false (by omega), Bool.or_false]
    rintro j s ⟨ml, a2, a3, e, hmi, rfl, rfl⟩
    have hml := hmi.n
    have ha := hmi.a
    have hb := hmi.b
    by_cases he : e < l[i]!.2
    · have he' : decide (e < l[i]!.2) = true := by simpa using he
      simp (disch := omega) only [go_sem, Nat.reduceAdd, Nat.reduceLeDiff, v66l0, h.q, spR, he', wr, seB, hml, set_b]
      have he0 : e.toNat < ml.length := by omega
      refine ⟨by omega, by omega, by omega, (l[i]!.2 - (e + 1)).toNat, ?_, ml.set e.toNat true, _, _, e + 1, ⟨by simp [hml], by omega, by omega, fun k hk => ?_⟩, rfl, ⟨rfl, rfl, rfl⟩, rfl⟩
      · omega
      · rw [set_get he0, hmi.m k hk]
        by_cases hke : k = e.toNat
        · rw [if_pos hke, decide_eq_true (by omega), Bool.or_true]
        · rw [if_neg hke]
          congr 1
          rw [decide_eq_decide]
          omega
    · have he' : decide (e < l[i]!.2) = false := by simpa using he
      simp (disch := omega) only [go_sem, Nat.reduceAdd, Nat.reduceLeDiff, Nat.reduceEqDiff, reduceCtorEq, v66l0, h.q, spR, he', wr, hml]
      refine ⟨by omega, by omega, ml, ⟨hml, fun k hk => ?_⟩, rfl⟩
      rw [hmi.m k hk, mkd_succ hlt]
      congr 1
      rw [decide_eq_decide]
      omega
  · have hlt' : decide ((i : Int) < (l.length : Int)) = false := by simpa using hlt
    have hml := hm.n
    simp (disch := omega) only [go_sem, v66l1, h.n, hlt', hml]
    have ht : (ml.map seB).take 65536 = ml.map seB := List.take_of_length_le (by rw [List.length_map, hml]; exact Nat.le_refl _)
    have hil : i = l.length := by omega
    subst hil
    rw [ht]
    exact ⟨ml, hm, rfl⟩

/-- Day d is looked at. -/
def sstep (ml : List Bool) (s : List (Int × Int)) (d : Nat) : List (Int × Int) :=
  if ml[d]! = true then (if 0 < d ∧ ml[d - 1]! = true then s.set (s.length - 1) (s[s.length - 1]!.1, (d : Int) + 1) else s ++ [((d : Int), (d : Int) + 1)]) else s
def sTo (ml : List Bool) : Nat → List (Int × Int)
  | 0 => []
  | d + 1 => sstep ml (sTo ml d) d
theorem sTo_len (ml : List Bool) : ∀ d, (sTo ml d).length ≤ d
  | 0 => Nat.le_refl _
  | d + 1 => by
    have := sTo_len ml d
    simp only [sTo, sstep]
    repeat' split
    all_goals simp
    all_goals omega
theorem sTo_pos (ml : List Bool) : ∀ d, ml[d]! = true → 0 < (sTo ml (d + 1)).length := by
  intro d
  induction d with
  | zero => intro h; simp [sTo, sstep, h]
  | succ d ih =>
    intro h
    rw [sTo, sstep, if_pos h]
    split
    · rename_i hc
      rw [List.length_set]
      exact ih hc.2
    · simp
theorem set65 {ml : List Bool} (hml : ml.length = 65536) : PurQ V 65 [.im 1 (ml.map seB)] (fun r => ∃ q, Sl 2 ((sTo ml 65536).map spR) q ∧ r = .ret q) := by
  have h : Sl 1 (ml.map seB) (.im 1 (ml.map seB)) := .im
  generalize D.im 1 (ml.map seB) = x at h
  refine .body (vf := v65) rfl rfl ?_
  simp only [go_sem, Nat.reduceSub, v65]
  refine Run.up (fun d s => ∃ a2 a3 a4, s = ⟨[x, .nil, a2, a3, a4, bD [] .nil ((sTo ml d).map spR), .i .i64 d], bH [] 2 ((sTo ml d).map spR)⟩) 65536 ⟨.u, .u, .u, rfl⟩ ?_
  rintro d s hi ⟨a2, a3, a4, rfl⟩
  have hn := sTo_len ml d
  by_cases hlt : d < 65536
  · have hlt' : decide ((d : Int) < 65536) = true := by simp; omega
    have es : sTo ml (d + 1) = sstep ml (sTo ml d) d := rfl
    unfold sstep at es
    cases hm : ml[d]! with
    | false =>
      rw [if_neg (by simp [hm])] at es
      simp (disch := omega) only [go_sem, reduceCtorEq, v65l0, h.q, seB, hlt', hm, wr, es, hml]
      omega
    | true =>
      rw [if_pos hm] at es
      by_cases h0 : 0 < d
      · have h0' : decide ((0 : Int) < (d : Int)) = true := by simpa using h0
        cases hp : ml[d - 1]! with
        | true =>
          rw [if_pos ⟨h0, hp⟩] at es
          have hpos : 0 < (sTo ml d).length := by
            have := sTo_pos ml (d - 1) hp
            rwa [Nat.sub_add_cancel h0] at this
          simp (disch := omega) only [go_sem, Nat.reduceAdd, v65l0, h.q, seB, spR, hlt', h0', hm, hp, wr, es, hml, set_sp]
          repeat' first | (refine And.intro ?_ ?_) | intro _
          all_goals first | omega | exact bD_cong (by simp)
        | false =>
          rw [if_neg (by simp [hp])] at es
          simp (disch := omega) only [go_sem, Nat.reduceAdd, Nat.reduceLeDiff, Nat.reduceLT, v65l0, h.q, seB, hlt', h0', hm, hp, wr, es, hml, app_n, snoc_sp]
          repeat' first | (refine And.intro ?_ ?_) | intro _
          all_goals omega
      · rw [if_neg (fun h => h0 h.1)] at es
        have h0' : decide ((0 : Int) < (d : Int)) = false := by simpa using h0
        simp (disch := omega) only [go_sem, Nat.reduceAdd, Nat.reduceLeDiff, Nat.reduceLT, v65l0, h.q, seB, hlt', h0', hm, wr, es, hml, app_n, snoc_sp]
        repeat' first | (refine And.intro ?_ ?_) | intro _
        all_goals omega
  · have hlt' : decide ((d : Int) < 65536) = false := by simp; omega
    have hd : d = 65536 := by omega
    simp (disch := omega) only [go_sem, v65l0, hlt']
    rw [hd]
    exact imD_sl rfl _ _
/-- What the reference makes. -/
def refQ (l : List (Int × Int)) (r : PR) : Prop := ∃ q, (allSp l = true ∧ (∃ ml, Mk l ml l.length ∧ Sl 2 ((sTo ml 65536).map spR) q) ∧ r = .ret (.tu [q, .i .i64 0])) ∨ (allSp l = false ∧ q = .nil ∧ r = .ret (.tu [q, .i .i64 2]))
theorem ref36 {l : List (Int × Int)} {d : D} (h : Sl 2 (l.map spR) d) (hl : l.length ≤ 1000000) : PurQ V 36 [d] (refQ l) := by
  refine .body (vf := v36) rfl rfl ?_
  simp only [go_sem, Nat.reduceSub, v36]
  refine Run.up (fun i s => noneTo notSp l i ∧ ∃ a3 a4, s = ⟨[d, .nil, .i .i64 0, a3, a4, .i .i64 i], []⟩) l.length ⟨nt_zero, .u, .u, rfl⟩ ?_
  rintro i s hi ⟨hv, a3, a4, rfl⟩
  by_cases hlt : i < l.length
  · have hlt' : decide ((i : Int) < (l.length : Int)) = true := by simpa using hlt
    have e2 : isSp l[i]!.1 l[i]!.2 = false → refQ l (.ret (.tu [.nil, .i .i64 2])) := fun e => ⟨.nil, .inr ⟨by
      have := nt_hit (p := notSp) hlt (by simpa [notSp] using e)
      rw [any_not] at this
      simpa using this, rfl, rfl⟩⟩
    have en : notSp l[i]! = !isSp l[i]!.1 l[i]!.2 := rfl
    simp (disch := omega) only [go_sem, Nat.reduceAdd, v36l0, h.q, h.n, spR, hlt', wr, nt_succ, hv, en]
    grind
  · have hlt' : decide ((i : Int) < (l.length : Int)) = false := by simpa using hlt
    have hil : i = l.length := by omega
    subst hil
    have ht := nt_end hv
    rw [any_not] at ht
    have hall : allSp l = true := by simpa using ht
    simp (disch := omega) only [go_sem, v36l0, h.n, hlt']
    refine CallQ.pl (vf := v66) rfl rfl rfl (by simp only [go_sem, h.pl]) ((marks66 h hl hall).mono ?_)
    rintro r ⟨ml, hm, rfl⟩
    simp only [go_sem]
    refine CallQ.pl (vf := v65) rfl rfl rfl rfl ((set65 hm.n).mono ?_)
    rintro r ⟨q, hq, rfl⟩
    have hfz := fz_flat (H := ([] : Heap)) (m := 10) hq.flat
    simp only [go_sem, Nat.reduceAdd, hfz]
    exact ⟨q, .inl ⟨hall, ⟨ml, hm, hq⟩, rfl⟩⟩
end Go.Proofs.Ytkogdbgccjmaoaa.Dv
