/-
  Layers 4 and 25 over the machine: sets of days made of spans.
-/
import Derived.Test.YtkogdbgccjmaoaaTb
namespace Go.Proofs.Ytkogdbgccjmaoaa.Dv
open Go.Dm

theorem peta {α β : Type} (p : α × β) : (p.1, p.2) = p := rfl
theorem snoc_sp {l : List (Int × Int)} {a b : Int} : l.map spR ++ [[.i .i64 a, .i .i64 b]] = (l ++ [(a, b)]).map spR := by simp [spR]
theorem set_sp {l : List (Int × Int)} {i : Nat} {a b : Int} : (l.map spR).set i [.i .i64 a, .i .i64 b] = (l.set i (a, b)).map spR := by rw [List.map_set]; rfl

/-- A span is added behind those before. -/
def mstep (s : List (Int × Int)) (x : Int × Int) : List (Int × Int) := if 0 < s.length ∧ x.1 ≤ s[s.length - 1]!.2 then s.set (s.length - 1) (s[s.length - 1]!.1, max s[s.length - 1]!.2 x.2) else s ++ [x]
def mTo (l : List (Int × Int)) (i : Nat) : List (Int × Int) := (l.take i).foldl mstep []
theorem mTo_succ {l : List (Int × Int)} {i : Nat} (hi : i < l.length) : mTo l (i + 1) = mstep (mTo l i) l[i]! := by
  unfold mTo
  rw [List.take_succ_eq_append_getElem hi, List.foldl_append, getElem!_pos l i hi]; rfl
theorem mstep_len (s : List (Int × Int)) (x : Int × Int) : (mstep s x).length ≤ s.length + 1 := by
  unfold mstep; split <;> simp
theorem mTo_len {l : List (Int × Int)} : ∀ {i : Nat}, i ≤ l.length → (mTo l i).length ≤ i
  | 0, _ => by simp [mTo]
  | i + 1, h => by
    rw [mTo_succ (by omega)]
    have := mTo_len (l := l) (i := i) (by omega)
    have := mstep_len (mTo l i) l[i]!
    omega
def full (x : Int × Int) : Bool := decide (x.1 < x.2)
def mkL (l : List (Int × Int)) : List (Int × Int) := mTo (sortSp (l.filter full)) (l.filter full).length
def allSp (l : List (Int × Int)) : Bool := l.all fun x => isSp x.1 x.2
def notSp (x : Int × Int) : Bool := !isSp x.1 x.2
theorem any_not {l : List (Int × Int)} : l.any notSp = !allSp l := by
  unfold allSp notSp
  induction l with
  | nil => rfl
  | cons a l ih => simp [ih]

theorem tf_id {l : List (Int × Int)} : tf full (fun x => x) l l.length = l.filter full := by rw [tf_end (Nat.le_refl _)]; simp

def makeQ (l : List (Int × Int)) (r : PR) : Prop := ∃ q, (allSp l = true ∧ Sl 2 ((mkL l).map spR) q ∧ r = .ret (.tu [q, .i .i64 0])) ∨ (allSp l = false ∧ q = .nil ∧ r = .ret (.tu [q, .i .i64 2]))
theorem makeQ_f {l : List (Int × Int)} (h : allSp l = false) : makeQ l (.ret (.tu [.nil, .i .i64 2])) := ⟨.nil, .inr ⟨h, rfl, rfl⟩⟩
theorem makeQ_t {l : List (Int × Int)} (h : allSp l = true) {q : D} (hq : Sl 2 ((mkL l).map spR) q) : makeQ l (.ret (.tu [q, .i .i64 0])) := ⟨q, .inl ⟨h, hq, rfl⟩⟩
theorem make35 {l : List (Int × Int)} {d : D} (h : Sl 2 (l.map spR) d) (hl : l.length ≤ 4398046511104) : PurQ V 35 [d] (makeQ l) := by
  refine .body (vf := v35) rfl rfl ?_
  simp only [go_sem, Nat.reduceSub, v35, h.n]
  refine Run.up (fun i s => noneTo notSp l i ∧ ∃ a3 a4 a5 a6 a7 a12 a13 a14 a15 a16 a17 a18, s = ⟨[d, .nil, .i .i64 0, a3, a4, a5, a6, a7, bD [] .nil ((tf full (fun x => x) l i).map spR), .i .i64 i, .i .i64 l.length, d, a12, a13, a14, a15, a16, a17, a18], bH [] 2 ((tf full (fun x => x) l i).map spR)⟩) l.length ⟨nt_zero, .u, .u, .u, .u, .u, .u, .u, .u, .u, .u, .u, .u, rfl⟩ ?_
  rintro i s hi ⟨hv, a3, a4, a5, a6, a7, a12, a13, a14, a15, a16, a17, a18, rfl⟩
  have hn := @tf_len _ _ full (fun x => x) l i
  by_cases hlt : i < l.length
  · have hlt' : decide ((i : Int) < (l.length : Int)) = true := by simpa using hlt
    have e2 : isSp l[i]!.1 l[i]!.2 = false → makeQ l (.ret (.tu [.nil, .i .i64 2])) := fun e => makeQ_f (by
      have := nt_hit (p := notSp) hlt (by simpa [notSp] using e)
      rw [any_not] at this
      simpa using this)
    have es := tf_succ (p := full) (g := fun x => x) hlt
    have en : notSp l[i]! = !isSp l[i]!.1 l[i]!.2 := rfl
    by_cases hf : full l[i]! = true
    · rw [if_pos hf] at es
      have hf' : (l[i]!.1 < l[i]!.2) = True := by simpa [full] using hf
      simp (disch := omega) only [go_sem, Nat.reduceAdd, Nat.reduceLeDiff, Nat.reduceLT, v35l0, h.q, spR, hlt', hf', wr, app_n, es, nt_succ, hv, snoc_sp, peta, en]
      grind
    · rw [if_neg hf] at es
      have hf' : (l[i]!.1 < l[i]!.2) = False := by simpa [full] using hf
      simp (disch := omega) only [go_sem, Nat.reduceAdd, Nat.reduceLeDiff, v35l0, h.q, spR, hlt', hf', wr, es, nt_succ, hv, en]
      grind
  · have hlt' : decide ((i : Int) < (l.length : Int)) = false := by simpa using hlt
    have hil : i = l.length := by omega
    subst hil
    have ht := nt_end hv
    rw [any_not] at ht
    have hall : allSp l = true := by simpa using ht
    have hlen : (sortSp (l.filter full)).length = (l.filter full).length := sortSp_len _
    have ec : bD [] .nil ((l.filter full).map spR) = bD [] .nil ((sortSp (l.filter full)).map spR) := bD_cong (by simp [hlen])
    have hk : mkL l = mTo (sortSp (l.filter full)) (sortSp (l.filter full)).length := by rw [hlen]; rfl
    rw [tf_id] at hn
    simp (disch := omega) only [go_sem, v35l0, hlt', tf_id, sort61]
    rw [ec, ← hlen]
    have hb : (sortSp (l.filter full)).length ≤ 4398046511104 := by omega
    generalize sortSp (l.filter full) = S at hk hb ⊢
    by_cases hS : S = []
    · subst hS
      have e0 : decide ((0 : Int) < ((([] : List (Int × Int)).length : Nat) : Int)) = false := rfl
      rw [Run_loop]
      simp (disch := omega) only [go_sem, Nat.reduceAdd, Int.reduceLT, v35l1, bD, bH]
      exact makeQ_t hall (by rw [hk]; exact .nil rfl)
    · obtain ⟨eH, eD⟩ := bH_ne (H0 := []) (w := 2) (enc := spR) hS
      rw [eH, eD]
      simp only [List.length_nil, List.nil_append]
      refine Run.up (fun i s => ∃ a3 a4 a5 a6 a7 a12 a17 a18, s = ⟨[d, .nil, .i .i64 0, a3, a4, a5, a6, a7, .mu 0 S.length 0 S.length, .i .i64 l.length, .i .i64 l.length, d, a12, bD [.ar 2 (S.map spR) none true false] .nil ((mTo S i).map spR), .i .i64 i, .i .i64 S.length, .mu 0 S.length 0 S.length, a17, a18], bH [.ar 2 (S.map spR) none true false] 2 ((mTo S i).map spR)⟩) S.length ⟨_, _, _, _, _, _, _, _, rfl⟩ ?_
      rintro i s hi ⟨a3, a4, a5, a6, a7, a12, a17, a18, rfl⟩
      have hm := mTo_len hi
      by_cases hlt : i < S.length
      · have hlt' : decide ((i : Int) < (S.length : Int)) = true := by simpa using hlt
        have es := mTo_succ hlt
        unfold mstep at es
        by_cases h0 : 0 < (mTo S i).length
        · have h0' : decide ((0 : Int) < ((mTo S i).length : Int)) = true := by simpa using h0
          by_cases hc : S[i]!.1 ≤ (mTo S i)[(mTo S i).length - 1]!.2
          · rw [if_pos ⟨h0, hc⟩] at es
            have hc' : decide (S[i]!.1 ≤ (mTo S i)[(mTo S i).length - 1]!.2) = true := by simpa using hc
            simp (disch := omega) only [go_sem, Nat.reduceAdd, Nat.reduceLeDiff, v35l1, spR, hlt', h0', hc', wr, es, h0]
            repeat' first | (refine And.intro ?_ ?_) | intro _
            all_goals first | omega | exact bD_cong (by simp) | rw [set_sp]
          · rw [if_neg (fun h => hc h.2)] at es
            have hc' : decide (S[i]!.1 ≤ (mTo S i)[(mTo S i).length - 1]!.2) = false := by simpa using hc
            simp (disch := omega) only [go_sem, Nat.reduceAdd, Nat.reduceLeDiff, Nat.reduceLT, v35l1, spR, hlt', h0', hc', wr, es, h0, app_n, snoc_sp, peta]
            repeat' first | (refine And.intro ?_ ?_) | intro _
            all_goals omega
        · rw [if_neg (fun h => h0 h.1)] at es
          have h0' : decide ((0 : Int) < ((mTo S i).length : Int)) = false := by simpa using h0
          simp (disch := omega) only [go_sem, Nat.reduceAdd, Nat.reduceLT, v35l1, spR, hlt', h0', wr, es, app_n, snoc_sp, peta]
          repeat' first | (refine And.intro ?_ ?_) | intro _
          all_goals omega
      · have hlt' : decide ((i : Int) < (S.length : Int)) = false := by simpa using hlt
        have hil : i = S.length := by omega
        subst hil
        simp (disch := omega) only [go_sem, Nat.reduceAdd, v35l1, hlt']
        exact makeQ_t hall (by rw [hk]; exact imD_sl rfl _ _)
end Go.Proofs.Ytkogdbgccjmaoaa.Dv
