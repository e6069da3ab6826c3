/-
  Sets of days in plain Lean: merging sorted spans gives the set of the days that are marked.
-/
import Derived.Test.YtkogdbgccjmaoaaTd
namespace Go.Proofs.Ytkogdbgccjmaoaa.Dv

/-- Spans behind each other, from lo on, with days between. -/
def VL : Int → List (Int × Int) → Prop
  | _, [] => True
  | lo, p :: s => lo < p.1 ∧ p.1 < p.2 ∧ VL p.2 s
def memL (s : List (Int × Int)) (k : Int) : Prop := ∃ p, p ∈ s ∧ p.1 ≤ k ∧ k < p.2
def lastE : Int → List (Int × Int) → Int
  | lo, [] => lo
  | _, p :: s => lastE p.2 s
theorem memL_nil (k : Int) : ¬ memL [] k := fun ⟨_, h, _⟩ => by cases h
theorem memL_cons {p : Int × Int} {s : List (Int × Int)} {k : Int} : memL (p :: s) k ↔ (p.1 ≤ k ∧ k < p.2) ∨ memL s k := by
  constructor
  · rintro ⟨q, h, h1⟩
    rcases List.mem_cons.1 h with rfl | h
    · exact .inl h1
    · exact .inr ⟨q, h, h1⟩
  · rintro (h | ⟨q, h, h1⟩)
    · exact ⟨p, List.mem_cons_self, h⟩
    · exact ⟨q, List.mem_cons_of_mem _ h, h1⟩
theorem memL_append {s t : List (Int × Int)} {k : Int} : memL (s ++ t) k ↔ memL s k ∨ memL t k := by
  constructor
  · rintro ⟨q, h, h1⟩
    rcases List.mem_append.1 h with h | h
    · exact .inl ⟨q, h, h1⟩
    · exact .inr ⟨q, h, h1⟩
  · rintro (⟨q, h, h1⟩ | ⟨q, h, h1⟩)
    · exact ⟨q, List.mem_append_left _ h, h1⟩
    · exact ⟨q, List.mem_append_right _ h, h1⟩
theorem memL_one {p : Int × Int} {k : Int} : memL [p] k ↔ p.1 ≤ k ∧ k < p.2 := by
  rw [memL_cons]
  exact ⟨fun h => h.elim id fun h => (memL_nil k h).elim, .inl⟩
theorem VL_lt : ∀ {s : List (Int × Int)} {lo k : Int}, VL lo s → memL s k → lo < k
  | [], _, _, _, h => (memL_nil _ h).elim
  | p :: s, lo, k, h, hm => by
    obtain ⟨h1, h2, h3⟩ := h
    rcases memL_cons.1 hm with h | h
    · omega
    · have := VL_lt h3 h; omega
theorem VL_eq : ∀ {s t : List (Int × Int)} {lo : Int}, VL lo s → VL lo t → (∀ k, memL s k ↔ memL t k) → s = t
  | [], [], _, _, _, _ => rfl
  | [], q :: t, _, _, h, hm => ((memL_nil q.1) ((hm q.1).2 (memL_cons.2 (.inl ⟨Int.le_refl _, h.2.1⟩)))).elim
  | p :: s, [], _, h, _, hm => ((memL_nil p.1) ((hm p.1).1 (memL_cons.2 (.inl ⟨Int.le_refl _, h.2.1⟩)))).elim
  | p :: s, q :: t, lo, hs, ht, hm => by
    obtain ⟨a1, a2, a3⟩ := hs
    obtain ⟨b1, b2, b3⟩ := ht
    have e1 : p.1 = q.1 := by
      have h1 := memL_cons.1 ((hm p.1).1 (memL_cons.2 (.inl ⟨Int.le_refl _, a2⟩)))
      have h2 := memL_cons.1 ((hm q.1).2 (memL_cons.2 (.inl ⟨Int.le_refl _, b2⟩)))
      rcases h1 with h1 | h1
      · rcases h2 with h2 | h2
        · omega
        · have := VL_lt a3 h2; omega
      · have := VL_lt b3 h1
        rcases h2 with h2 | h2
        · omega
        · have := VL_lt a3 h2; omega
    have e2 : p.2 = q.2 := by
      rcases Int.lt_trichotomy p.2 q.2 with h | h | h
      · have h1 := memL_cons.1 ((hm p.2).2 (memL_cons.2 (.inl ⟨by omega, h⟩)))
        rcases h1 with h1 | h1
        · omega
        · have := VL_lt a3 h1; omega
      · exact h
      · have h1 := memL_cons.1 ((hm q.2).1 (memL_cons.2 (.inl ⟨by omega, h⟩)))
        rcases h1 with h1 | h1
        · omega
        · have := VL_lt b3 h1; omega
    have e3 : s = t := VL_eq (lo := p.2) a3 (by rw [e2]; exact b3) fun k => by
      constructor
      · intro h
        have := VL_lt a3 h
        rcases memL_cons.1 ((hm k).1 (memL_cons.2 (.inr h))) with h | h
        · omega
        · exact h
      · intro h
        have := VL_lt b3 h
        rcases memL_cons.1 ((hm k).2 (memL_cons.2 (.inr h))) with h | h
        · omega
        · exact h
    rw [e3, show p = q from Prod.ext e1 e2]
theorem VL_snoc : ∀ {s : List (Int × Int)} {lo : Int} {p : Int × Int}, VL lo (s ++ [p]) ↔ VL lo s ∧ lastE lo s < p.1 ∧ p.1 < p.2
  | [], lo, p => by simp [VL, lastE]
  | q :: s, lo, p => by
    have := VL_snoc (s := s) (lo := q.2) (p := p)
    simp only [List.cons_append, VL, lastE, this, and_assoc]
theorem lastE_snoc : ∀ {s : List (Int × Int)} {lo : Int} {p : Int × Int}, lastE lo (s ++ [p]) = p.2
  | [], _, _ => rfl
  | q :: s, lo, p => lastE_snoc (s := s) (lo := q.2)
theorem snoc_cases (s : List (Int × Int)) : s = [] ∨ ∃ s0 p, s = s0 ++ [p] := by
  rcases List.eq_nil_or_concat s with h | ⟨s0, p, h⟩
  · exact .inl h
  · exact .inr ⟨s0, p, by rw [h, List.concat_eq_append]⟩
theorem last_snoc {s0 : List (Int × Int)} {p : Int × Int} : (s0 ++ [p])[(s0 ++ [p]).length - 1]! = p := by
  rw [List.length_append, List.length_singleton, Nat.add_sub_cancel, getElem!_pos _ _ (by simp)]
  simp
theorem set_snoc {s0 : List (Int × Int)} {p q : Int × Int} : (s0 ++ [p]).set ((s0 ++ [p]).length - 1) q = s0 ++ [q] := by
  rw [List.length_append, List.length_singleton, Nat.add_sub_cancel, List.set_append_right _ _ (Nat.le_refl _)]
  simp
theorem mstep_nil (x : Int × Int) : mstep [] x = [x] := rfl
theorem mstep_snoc (s0 : List (Int × Int)) (p x : Int × Int) : mstep (s0 ++ [p]) x = if x.1 ≤ p.2 then s0 ++ [(p.1, max p.2 x.2)] else s0 ++ [p] ++ [x] := by
  unfold mstep
  rw [last_snoc, set_snoc]
  have : 0 < (s0 ++ [p]).length := by simp
  simp only [this, true_and]

/-- The last one begins before. -/
def headed (s : List (Int × Int)) (x : Int × Int) : Prop := ∀ s0 p, s = s0 ++ [p] → p.1 ≤ x.1
theorem mstep_ok {s : List (Int × Int)} {x : Int × Int} {lo : Int} (hs : VL lo s) (hh : headed s x) (hx : x.1 < x.2) (hl : lo < x.1) :
    VL lo (mstep s x) ∧ (∀ k, memL (mstep s x) k ↔ memL s k ∨ (x.1 ≤ k ∧ k < x.2)) ∧ ∀ s0 p, mstep s x = s0 ++ [p] → p.1 ≤ x.1 := by
  rcases snoc_cases s with rfl | ⟨s0, p, rfl⟩
  · rw [mstep_nil]
    refine ⟨⟨hl, hx, trivial⟩, fun k => ?_, fun s0 p h => ?_⟩
    · rw [memL_one]
      exact ⟨.inr, fun h => h.elim (fun h => (memL_nil k h).elim) id⟩
    · cases s0 with
      | nil => cases h; exact Int.le_refl _
      | cons a s0 => simp at h
  · rw [mstep_snoc]
    have hp := hh s0 p rfl
    obtain ⟨h1, h2, h3⟩ := VL_snoc.1 hs
    split
    · rename_i hc
      refine ⟨VL_snoc.2 ⟨h1, h2, by simp only; omega⟩, fun k => ?_, fun s1 q h => ?_⟩
      · rw [memL_append, memL_append, memL_one, memL_one, or_assoc]
        refine or_congr Iff.rfl ?_
        simp only
        omega
      · obtain ⟨_, e⟩ := List.append_inj' h rfl
        cases e
        exact hp
    · rename_i hc
      refine ⟨VL_snoc.2 ⟨hs, by rw [lastE_snoc]; omega, hx⟩, fun k => ?_, fun s1 q h => ?_⟩
      · rw [memL_append, memL_one]
      · obtain ⟨_, e⟩ := List.append_inj' h rfl
        cases e
        exact Int.le_refl _
theorem fold_ok : ∀ (L s : List (Int × Int)) {lo : Int}, VL lo s → (∀ x ∈ L, lo < x.1 ∧ x.1 < x.2) → L.Pairwise (fun a b => a.1 ≤ b.1) → (∀ x ∈ L, headed s x) →
    VL lo (L.foldl mstep s) ∧ ∀ k, memL (L.foldl mstep s) k ↔ memL s k ∨ memL L k
  | [], s, lo, hs, _, _, _ => ⟨hs, fun k => ⟨.inl, fun h => h.elim id fun h => (memL_nil k h).elim⟩⟩
  | x :: L, s, lo, hs, hL, hp, hh => by
    obtain ⟨p1, p2⟩ := List.pairwise_cons.1 hp
    obtain ⟨x1, x2⟩ := hL x List.mem_cons_self
    obtain ⟨m1, m2, m3⟩ := mstep_ok hs (hh x List.mem_cons_self) x2 x1
    obtain ⟨f1, f2⟩ := fold_ok L (mstep s x) m1 (fun y hy => hL y (List.mem_cons_of_mem _ hy)) p2 (fun y hy s0 p h => Int.le_trans (m3 s0 p h) (p1 y hy))
    refine ⟨f1, fun k => ?_⟩
    rw [List.foldl_cons, f2, m2, memL_cons, or_assoc]

theorem sp_iff {x : Int × Int} : isSp x.1 x.2 = true ↔ 0 ≤ x.1 ∧ x.1 ≤ x.2 ∧ x.2 ≤ 65536 := by simp [isSp]
theorem mkL_ok {l : List (Int × Int)} (h : allSp l = true) : VL (-1) (mkL l) ∧ ∀ k, memL (mkL l) k ↔ memL l k := by
  have hsp : ∀ x ∈ l, 0 ≤ x.1 ∧ x.1 ≤ x.2 ∧ x.2 ≤ 65536 := fun x hx => sp_iff.1 (List.all_eq_true.1 h x hx)
  have hperm := sortSp_perm (l.filter full)
  have hin : ∀ x ∈ sortSp (l.filter full), (-1 : Int) < x.1 ∧ x.1 < x.2 := fun x hx => by
    have := List.mem_filter.1 (hperm.mem_iff.1 hx)
    have h1 := hsp x this.1
    have h2 : x.1 < x.2 := by simpa [full] using this.2
    omega
  have hpw : (sortSp (l.filter full)).Pairwise (fun a b => a.1 ≤ b.1) := by
    rw [List.pairwise_iff_getElem]
    intro i j hi hj hij
    have := sortSp_sorted (l.filter full) hij (by rw [← sortSp_len]; exact hj)
    rwa [getElem!_pos (sortSp (l.filter full)) i hi, getElem!_pos (sortSp (l.filter full)) j hj] at this
  have hf := fold_ok (sortSp (l.filter full)) [] (lo := -1) trivial hin hpw (fun x _ s0 p e => by simp at e)
  have e : mkL l = (sortSp (l.filter full)).foldl mstep [] := by
    unfold mkL mTo
    rw [List.take_of_length_le (by rw [sortSp_len]; exact Nat.le_refl _)]
  rw [e]
  refine ⟨hf.1, fun k => ?_⟩
  rw [hf.2]
  constructor
  · rintro (h | ⟨p, hp, h1⟩)
    · exact (memL_nil k h).elim
    · exact ⟨p, (List.mem_filter.1 (hperm.mem_iff.1 hp)).1, h1⟩
  · rintro ⟨p, hp, h1⟩
    exact .inr ⟨p, hperm.mem_iff.2 (List.mem_filter.2 ⟨hp, by simp [full]; omega⟩), h1⟩

/-- What the days looked at so far have made. -/
structure SOk (ml : List Bool) (d : Nat) (s : List (Int × Int)) : Prop where
  v : VL (-1) s
  m : ∀ k : Int, memL s k ↔ 0 ≤ k ∧ k < d ∧ ml[k.toNat]! = true
  e : if 0 < d ∧ ml[d - 1]! = true then ∃ s0 a, s = s0 ++ [(a, (d : Int))] else lastE (-1) s < d
theorem sTo_ok (ml : List Bool) : ∀ d, SOk ml d (sTo ml d)
  | 0 => ⟨trivial, fun k => ⟨fun h => (memL_nil k h).elim, fun h => by omega⟩, by simp [sTo, lastE]⟩
  | d + 1 => by
    obtain ⟨v, m, e⟩ := sTo_ok ml d
    simp only [sTo, sstep]
    have hk : ∀ k : Int, (0 ≤ k ∧ k < ((d + 1 : Nat) : Int) ∧ ml[k.toNat]! = true) ↔ (0 ≤ k ∧ k < d ∧ ml[k.toNat]! = true) ∨ (k = d ∧ ml[d]! = true) := fun k => by
      by_cases h : k = d
      · subst h
        rw [Int.toNat_natCast]
        exact ⟨fun ⟨_, _, c⟩ => .inr ⟨rfl, c⟩, fun h => h.elim (fun ⟨a, b, c⟩ => ⟨a, by omega, c⟩) fun ⟨_, c⟩ => ⟨by omega, by omega, c⟩⟩
      · constructor
        · rintro ⟨a, b, c⟩; exact .inl ⟨a, by omega, c⟩
        · rintro (⟨a, b, c⟩ | ⟨a, _⟩)
          · exact ⟨a, by omega, c⟩
          · exact (h a).elim
    cases hm : ml[d]! with
    | false =>
      rw [if_neg (by simp)]
      refine ⟨v, fun k => ?_, ?_⟩
      · rw [m, hk, hm]; simp
      · rw [if_neg (by simp [hm])]
        split at e
        · obtain ⟨s0, a, h⟩ := e
          rw [h, lastE_snoc]; simp only; omega
        · omega
    | true =>
      rw [if_pos rfl]
      split
      · rename_i hc
        rw [if_pos hc] at e
        obtain ⟨s0, a, h⟩ := e
        rw [h] at v m ⊢
        obtain ⟨h1, h2, h3⟩ := VL_snoc.1 v
        rw [last_snoc, set_snoc]
        refine ⟨VL_snoc.2 ⟨h1, h2, by simp only at h3 ⊢; omega⟩, fun k => ?_, ?_⟩
        · rw [hk, ← m, memL_append, memL_append, memL_one, memL_one, or_assoc, hm]
          refine or_congr Iff.rfl ?_
          simp only at h3 ⊢
          simp only [and_true]
          omega
        · rw [if_pos ⟨by omega, by simpa using hm⟩]
          exact ⟨s0, a, by simp⟩
      · rename_i hc
        rw [if_neg hc] at e
        refine ⟨VL_snoc.2 ⟨v, e, by simp only; omega⟩, fun k => ?_, ?_⟩
        · rw [hk, ← m, memL_append, memL_one, hm]
          refine or_congr Iff.rfl ?_
          simp only [and_true]
          omega
        · rw [if_pos ⟨by omega, by simpa using hm⟩]
          exact ⟨sTo ml d, d, by simp⟩
/-- The reference makes the same set. -/
theorem same_set {l : List (Int × Int)} {ml : List Bool} (h : allSp l = true) (hm : Mk l ml l.length) : mkL l = sTo ml 65536 := by
  obtain ⟨a1, a2⟩ := mkL_ok h
  obtain ⟨b1, b2, _⟩ := sTo_ok ml 65536
  refine VL_eq a1 b1 fun k => ?_
  rw [a2, b2]
  have hsp : ∀ x ∈ l, 0 ≤ x.1 ∧ x.1 ≤ x.2 ∧ x.2 ≤ 65536 := fun x hx => sp_iff.1 (List.all_eq_true.1 h x hx)
  have key : ∀ n : Nat, n < 65536 → (ml[n]! = true ↔ memL l n) := fun n hn => by
    rw [hm.m n hn, mkd, List.take_length, List.any_eq_true]
    exact ⟨fun ⟨x, h1, h2⟩ => ⟨x, h1, by simpa using h2⟩, fun ⟨x, h1, h2⟩ => ⟨x, h1, by simpa using h2⟩⟩
  constructor
  · rintro ⟨p, hp, h1⟩
    have := hsp p hp
    have hk : ((k.toNat : Nat) : Int) = k := by omega
    refine ⟨by omega, by omega, (key k.toNat (by omega)).2 ?_⟩
    rw [hk]; exact ⟨p, hp, h1⟩
  · rintro ⟨h1, h2, h3⟩
    have hk : ((k.toNat : Nat) : Int) = k := by omega
    have := (key k.toNat (by omega)).1 h3
    rwa [hk] at this
end Go.Proofs.Ytkogdbgccjmaoaa.Dv
