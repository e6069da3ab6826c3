/-
  A digit of an amount that is changed in the text of a right statement: no right statement has that text. No program in sight.
-/
import Derived.Test.YtnhbopeopppojaaGreatDoorSg
namespace Go.Proofs.YtnhbopeopppojaaGreatDoor.Dv
open Go.Dm Go.Proofs

/-- No space, no end of a line. -/
def nsep (c : UInt8) : Bool := !(c == 32 || c == 10)
/-- A word of small letters. -/
def wordy (l : List UInt8) : Bool := match l with
  | [] => false
  | c :: _ => decide (97 ≤ c) && decide (c ≤ 122)
/-- The last word, and what stands behind the last separator. -/
def sc1 (st : List UInt8 × List UInt8) (c : UInt8) : List UInt8 × List UInt8 := if nsep c = true then (st.1, st.2 ++ [c]) else (if wordy st.2 = true then st.2 else st.1, [])
theorem fold_ns {x : List UInt8} : ∀ {st : List UInt8 × List UInt8}, (∀ c ∈ x, nsep c = true) → x.foldl sc1 st = (st.1, st.2 ++ x) := by
  induction x with
  | nil => intro st _; simp
  | cons c x ih =>
    intro st h
    rw [List.foldl_cons, ih fun d hd => h d (List.mem_cons_of_mem _ hd), sc1, if_pos (h c List.mem_cons_self)]
    simp
def numB (l : List UInt8) : Prop := ∀ c ∈ l, isD c = true ∨ c = 45
theorem isD_ns {c : UInt8} (h : isD c = true) : nsep c = true := by
  simp only [isD, Bool.and_eq_true, decide_eq_true_eq] at h
  simp only [nsep, Bool.not_eq_true', Bool.or_eq_false_iff, beq_eq_false_iff_ne]
  refine ⟨fun e => ?_, fun e => ?_⟩ <;> subst e <;> revert h <;> decide
theorem numB.ns {l : List UInt8} (h : numB l) : ∀ c ∈ l, nsep c = true := fun c hc => by
  rcases h c hc with h | h
  · exact isD_ns h
  · subst h; decide
theorem numB_itoa (n : Int) : numB (Lib.itoa n) := fun c hc => by
  unfold Lib.itoa at hc
  split at hc
  · rcases List.mem_cons.1 hc with h | h
    · exact .inr h
    · exact .inl ((decD _).1 c h)
  · exact .inl ((decD _).1 c hc)
theorem numB_mon (m : Int) : numB (monT m) := fun c hc => by
  unfold monT pad2 at hc
  rcases List.mem_append.1 hc with h | h
  · rcases List.mem_append.1 h with h | h
    · exact numB_itoa _ c h
    · exact .inr (List.mem_singleton.1 h)
  · split at h
    · rcases List.mem_cons.1 h with h | h
      · subst h; exact .inl (by decide)
      · exact numB_itoa _ c h
    · exact numB_itoa _ c h
/-- It begins with a separator. -/
def sepH (l : List UInt8) : Prop := ∃ c r, l = c :: r ∧ nsep c = false
theorem twns {v R : List UInt8} (hv : ∀ c ∈ v, nsep c = true) (hR : sepH R) : (v ++ R).takeWhile nsep = v := by
  obtain ⟨c, r, rfl, hc⟩ := hR
  induction v with
  | nil => rw [List.nil_append, List.takeWhile_cons_of_neg (by rw [hc]; nofun)]
  | cons d v ih => rw [List.cons_append, List.takeWhile_cons_of_pos (hv d List.mem_cons_self), ih fun e he => hv e (List.mem_cons_of_mem _ he)]
theorem tw_set {c : UInt8} (hc : nsep c = true) : ∀ {l : List UInt8} {p : Nat} {d : UInt8}, l[p]? = some d → nsep d = true → ((l.set p c).takeWhile nsep).length = (l.takeWhile nsep).length
  | [], p, d, h, _ => by cases h
  | x :: l, 0, d, h, hd => by
    cases h
    rw [List.set_cons_zero, List.takeWhile_cons_of_pos hc, List.takeWhile_cons_of_pos hd]
    rfl
  | x :: l, p + 1, d, h, hd => by
    have ih := tw_set hc (l := l) (p := p) (d := d) (by simpa using h) hd
    rw [List.set_cons_succ]
    by_cases hx : nsep x = true
    · rw [List.takeWhile_cons_of_pos hx, List.takeWhile_cons_of_pos hx, List.length_cons, List.length_cons, ih]
    · rw [List.takeWhile_cons_of_neg hx, List.takeWhile_cons_of_neg hx]

section
variable (ok : List UInt8 → Prop)
/-- The second is the first but for one digit, which stands behind a word that is ok. -/
structure Diff (st : List UInt8 × List UInt8) (T T' : List UInt8) : Prop where
  h : ∃ p c d, T[p]? = some d ∧ T' = T.set p c ∧ d ≠ c ∧ nsep d = true ∧ nsep c = true ∧ ok ((T.take p).foldl sc1 st).1
def N (n : Nat) (T T' : List UInt8) : Prop := n = 0 ∧ T = T' ∨ n = 1 ∧ ∃ st, Diff ok st T T'
end
variable {ok : List UInt8 → Prop}
theorem stepD {st : List UInt8 × List UInt8} {k w v v' R R' : List UInt8} (hk : k.foldl sc1 st = (w, [])) (hv : numB v) (hv' : numB v') (hR : sepH R) (hR' : sepH R') (h : Diff ok st (k ++ (v ++ R)) (k ++ (v' ++ R'))) :
    v = v' ∧ N ok 1 R R' ∨ ok w ∧ v ≠ v' ∧ R = R' := by
  obtain ⟨p, c, d, h1, h2, h3, h4, h5, h6⟩ := h
  by_cases hp : p < k.length
  · rw [List.set_append_left _ _ hp] at h2
    have := (List.append_inj h2 (by simp)).1
    rw [List.getElem?_append_left hp] at h1
    rw [this, List.getElem?_set_self hp] at h1
    exact absurd (Option.some.inj h1).symm h3
  · obtain ⟨p1, rfl⟩ : ∃ p1, p = k.length + p1 := ⟨p - k.length, by omega⟩
    rw [List.set_append_right _ _ (by omega), Nat.add_sub_cancel_left] at h2
    have h2 := List.append_cancel_left h2
    rw [List.getElem?_append_right (by omega), Nat.add_sub_cancel_left] at h1
    have hl : v.length = v'.length := by
      have e := tw_set h5 h1 h4
      rw [← h2, twns hv.ns hR, twns hv'.ns hR'] at e
      exact e.symm
    by_cases hp1 : p1 < v.length
    · rw [List.set_append_left _ _ hp1] at h2
      obtain ⟨e1, e2⟩ := List.append_inj h2 (by simp [hl])
      rw [List.getElem?_append_left hp1] at h1
      refine .inr ⟨?_, fun e => ?_, e2.symm⟩
      rotate_left
      ·
        rw [e, e1, List.getElem?_set_self hp1] at h1
        exact h3 (Option.some.inj h1).symm
      have e : (k ++ (v ++ R)).take (k.length + p1) = k ++ v.take p1 := by
        rw [List.take_length_add_append, List.take_append_of_le_length (by omega)]
      rw [e, List.foldl_append, hk, fold_ns fun c hc => hv.ns c (List.mem_of_mem_take hc)] at h6
      exact h6
    · obtain ⟨p2, rfl⟩ : ∃ p2, p1 = v.length + p2 := ⟨p1 - v.length, by omega⟩
      rw [List.set_append_right _ _ (by omega), Nat.add_sub_cancel_left] at h2
      obtain ⟨e1, e2⟩ := List.append_inj h2 hl.symm
      rw [List.getElem?_append_right (by omega), Nat.add_sub_cancel_left] at h1
      refine .inl ⟨e1.symm, .inr ⟨rfl, (k ++ v).foldl sc1 st, ⟨p2, c, d, h1, e2, h3, h4, h5, ?_⟩⟩⟩
      · have e : (k ++ (v ++ R)).take (k.length + (v.length + p2)) = k ++ v ++ R.take p2 := by
          rw [List.take_length_add_append, List.take_length_add_append, List.append_assoc]
        rw [e, List.foldl_append] at h6
        exact h6
theorem step0 {k v v' R R' : List UInt8} (hv : numB v) (hv' : numB v') (hR : sepH R) (hR' : sepH R') (h : k ++ (v ++ R) = k ++ (v' ++ R')) : v = v' ∧ R = R' := by
  have h := List.append_cancel_left h
  have e : v = v' := by rw [← twns hv.ns hR, ← twns hv'.ns hR', h]
  subst e
  exact ⟨rfl, List.append_cancel_left h⟩
theorem step {n : Nat} {k w v v' R R' : List UInt8} (hk : ∀ st, k.foldl sc1 st = (w, [])) (hv : numB v) (hv' : numB v') (hR : sepH R) (hR' : sepH R') (h : N ok n (k ++ (v ++ R)) (k ++ (v' ++ R'))) :
    v = v' ∧ N ok n R R' ∨ (n = 1 ∧ ok w) ∧ v ≠ v' ∧ R = R' := by
  rcases h with ⟨rfl, h⟩ | ⟨rfl, st, h⟩
  · obtain ⟨e1, e2⟩ := step0 hv hv' hR hR' h
    exact .inl ⟨e1, .inl ⟨rfl, e2⟩⟩
  · rcases stepD (hk st) hv hv' hR hR' h with h | ⟨h1, h2⟩
    · exact .inl h
    · exact .inr ⟨⟨rfl, h1⟩, h2⟩
theorem scK (k : List UInt8) (w : List UInt8) (h : k = 10 :: (w ++ [32]) ∨ k = 32 :: (w ++ [32])) (hw : wordy w = true) (hn : ∀ c ∈ w, nsep c = true) : ∀ st, k.foldl sc1 st = (w, []) := fun st => by
  have e : ∀ c, nsep c = false → (c :: (w ++ [32])).foldl sc1 st = (w, []) := fun c hc => by
    rw [List.foldl_cons, List.foldl_append, sc1, if_neg (by rw [hc]; nofun), fold_ns hn]
    simp [sc1, hw, show nsep 32 = false by decide]
  rcases h with rfl | rfl
  · exact e 10 (by decide)
  · exact e 32 (by decide)
theorem kB_w : ∀ st, kB.foldl sc1 st = (kBefore, []) := scK _ _ (.inl rfl) (by decide) (by decide)
theorem kM_w : ∀ st, kM.foldl sc1 st = (kMonth, []) := scK _ _ (.inl rfl) (by decide) (by decide)
theorem kD_w : ∀ st, kD.foldl sc1 st = (kDue, []) := scK _ _ (.inr rfl) (by decide) (by decide)
theorem kP_w : ∀ st, kP.foldl sc1 st = (kPosted, []) := scK _ _ (.inr rfl) (by decide) (by decide)
theorem kO_w : ∀ st, kO.foldl sc1 st = (kOpen, []) := scK _ _ (.inr rfl) (by decide) (by decide)
theorem kG_w : ∀ st, kG.foldl sc1 st = (kGross, []) := scK _ _ (.inl rfl) (by decide) (by decide)
theorem kT_w : ∀ st, kT.foldl sc1 st = (kTax, []) := scK _ _ (.inr rfl) (by decide) (by decide)
theorem kN_w : ∀ st, kN.foldl sc1 st = (kNet, []) := scK _ _ (.inr rfl) (by decide) (by decide)
theorem kI_w : ∀ st, kI.foldl sc1 st = (kInterest, []) := scK _ _ (.inr rfl) (by decide) (by decide)
theorem kA_w : ∀ st, kA.foldl sc1 st = (kAfter, []) := scK _ _ (.inl rfl) (by decide) (by decide)
theorem kS_w : kS.foldl sc1 ([], []) = (kStatement, []) := by decide

theorem itoa_inj {a b : Int} (ha : nr a = true) (hb : nr b = true) (h : Lib.itoa a = Lib.itoa b) : a = b := by
  have h1 := numF_itoa0 (rest := [10]) ha (noD_cons (by decide))
  rw [h, numF_itoa0 (rest := [10]) hb (noD_cons (by decide))] at h1
  simpa using h1.symm
theorem mon_inj {a b : Int} (ha : 0 ≤ a) (hb : 0 ≤ b) (ya : isY (yOf a) = true) (yb : isY (yOf b) = true) (h : monT a = monT b) : a = b := by
  have h1 := monF_mon (rest := [10]) ha ya (noD_cons (by decide))
  rw [h, monF_mon (rest := [10]) hb yb (noD_cons (by decide))] at h1
  simpa using h1.symm
theorem sepK {k w l : List UInt8} (h : k = 10 :: w ∨ k = 32 :: w) : sepH (k ++ l) := by
  rcases h with rfl | rfl
  · exact ⟨10, w ++ l, rfl, by decide⟩
  · exact ⟨32, w ++ l, rfl, by decide⟩
theorem sep_tail (s : Stm) : sepH (tailU s) := sepK (k := kG) (.inl rfl)
theorem sep_lns {l : List Ln} {t : List UInt8} (ht : sepH t) : sepH (lnsU l ++ t) := by
  cases l with
  | nil => exact ht
  | cons x l =>
    have e : lnsU (x :: l) ++ t = kM ++ ((monT x.m ++ (kD ++ (Lib.itoa x.d ++ (kP ++ (Lib.itoa x.p ++ (kO ++ Lib.itoa x.o)))))) ++ (lnsU l ++ t)) := by simp only [lnsU, lnU, List.map_cons, List.flatten_cons, List.append_assoc]
    rw [e]
    exact sepK (.inl rfl)
/-- One line: a change of one amount can't be. -/
theorem line1 {n : Nat} {x x' : Ln} {R R' : List UInt8} (f : LnFine x) (f' : LnFine x') (hx : x.o = x.d - x.p) (hx' : x'.o = x'.d - x'.p) (hm : ¬ ok kMonth) (hR : sepH R) (hR' : sepH R') (h : N ok n (lnU x ++ R) (lnU x' ++ R')) : x = x' ∧ N ok n R R' := by
  simp only [lnU, List.append_assoc] at h
  rcases step kM_w (numB_mon _) (numB_mon _) (sepK (.inr rfl)) (sepK (.inr rfl)) h with ⟨e1, h⟩ | ⟨h1, h2⟩
  rotate_left
  · exact absurd h1.2 hm
  have em := mon_inj f.m f'.m f.y f'.y e1
  rcases step kD_w (numB_itoa _) (numB_itoa _) (sepK (.inr rfl)) (sepK (.inr rfl)) h with ⟨e2, h⟩ | ⟨-, ne, h2⟩
  rotate_left
  ·
    obtain ⟨e3, h3⟩ := step0 (k := kP) (numB_itoa _) (numB_itoa _) (sepK (.inr rfl)) (sepK (.inr rfl)) h2
    obtain ⟨e4, h4⟩ := step0 (k := kO) (numB_itoa _) (numB_itoa _) hR hR' h3
    have ep := itoa_inj f.p f'.p e3
    have eo := itoa_inj f.o f'.o e4
    exact absurd (congrArg Lib.itoa (show x.d = x'.d by omega)) ne
  have ed := itoa_inj f.d f'.d e2
  rcases step kP_w (numB_itoa _) (numB_itoa _) (sepK (.inr rfl)) (sepK (.inr rfl)) h with ⟨e3, h⟩ | ⟨-, ne, h2⟩
  rotate_left
  ·
    obtain ⟨e4, h4⟩ := step0 (k := kO) (numB_itoa _) (numB_itoa _) hR hR' h2
    have eo := itoa_inj f.o f'.o e4
    exact absurd (congrArg Lib.itoa (show x.p = x'.p by omega)) ne
  have ep := itoa_inj f.p f'.p e3
  rcases step kO_w (numB_itoa _) (numB_itoa _) hR hR' h with ⟨e4, h⟩ | ⟨-, ne, h2⟩
  rotate_left
  · exact absurd (congrArg Lib.itoa (show x.o = x'.o by omega)) ne
  have eo := itoa_inj f.o f'.o e4
  refine ⟨?_, h⟩
  cases x; cases x'
  simp_all
theorem lines1 {n : Nat} (hm : ¬ ok kMonth) {R R' : List UInt8} (hR : sepH R) (hR' : sepH R') : ∀ {l l' : List Ln}, l.length = l'.length → (∀ x ∈ l, LnFine x ∧ x.o = x.d - x.p) → (∀ x ∈ l', LnFine x ∧ x.o = x.d - x.p) → N ok n (lnsU l ++ R) (lnsU l' ++ R') → l = l' ∧ N ok n R R'
  | [], [], _, _, _, h => ⟨rfl, h⟩
  | [], x :: l, e, _, _, _ => by cases e
  | x :: l, [], e, _, _, _ => by cases e
  | x :: l, x' :: l', e, g, g', h => by
    have e1 : ∀ (x : Ln) (l : List Ln) (t : List UInt8), lnsU (x :: l) ++ t = lnU x ++ (lnsU l ++ t) := fun x l t => by simp only [lnsU, List.map_cons, List.flatten_cons, List.append_assoc]
    rw [e1, e1] at h
    obtain ⟨h1, h2⟩ := line1 (g x List.mem_cons_self).1 (g' x' List.mem_cons_self).1 (g x List.mem_cons_self).2 (g' x' List.mem_cons_self).2 hm (sep_lns hR) (sep_lns hR') h
    obtain ⟨h3, h4⟩ := lines1 hm hR hR' (by simpa using e) (fun y hy => g y (List.mem_cons_of_mem _ hy)) (fun y hy => g' y (List.mem_cons_of_mem _ hy)) h2
    exact ⟨by rw [h1, h3], h4⟩
/-- Letters are counted alike. -/
theorem cnt_set {c m : UInt8} (hc : c ≠ m) : ∀ {l : List UInt8} {p : Nat} {d : UInt8}, l[p]? = some d → d ≠ m → (l.set p c).count m = l.count m
  | [], p, d, h, _ => by cases h
  | x :: l, 0, d, h, hd => by
    cases h
    rw [List.set_cons_zero, List.count_cons_of_ne hc, List.count_cons_of_ne hd]
  | x :: l, p + 1, d, h, hd => by
    rw [List.set_cons_succ, List.count_cons, List.count_cons, cnt_set hc (by simpa using h) hd]
theorem numB.cnt {l : List UInt8} (h : numB l) : l.count 109 = 0 := List.count_eq_zero.2 fun hm => by
  rcases h _ hm with h | h <;> revert h <;> decide
theorem cnt_lns : ∀ l : List Ln, (lnsU l).count 109 = l.length
  | [] => rfl
  | x :: l => by
    have ih := cnt_lns l
    have e : lnsU (x :: l) = lnU x ++ lnsU l := by simp [lnsU]
    rw [e, List.count_append, ih, lnU]
    simp only [List.count_append, (numB_itoa _).cnt, (numB_mon _).cnt, show kM.count 109 = 1 by decide, show kD.count 109 = 0 by decide, show kP.count 109 = 0 by decide, show kO.count 109 = 0 by decide, List.length_cons]
    omega
theorem cnt_text (s : Stm) : (textU s).count 109 = s.ls.length + 1 := by
  simp only [textU, tailU, List.count_append, (numB_itoa _).cnt, cnt_lns, show kS.count 109 = 1 by decide, show kB.count 109 = 0 by decide, show kG.count 109 = 0 by decide, show kT.count 109 = 0 by decide, show kN.count 109 = 0 by decide, show kI.count 109 = 0 by decide, show kA.count 109 = 0 by decide, show ([10] : List UInt8).count 109 = 0 by decide]
  omega
theorem RightS.lnok {s : Stm} (r : RightS s) : ∀ x ∈ s.ls, LnFine x ∧ x.o = x.d - x.p := fun x hx => ⟨r.fine.ls x hx, by
  obtain ⟨k, hk, rfl⟩ := List.mem_iff_getElem.1 hx
  have h := (r.lns.h k hk).e
  rwa [getElem!_pos s.ls k hk] at h⟩
/-- No two right statements whose texts differ in one digit of an amount. -/
theorem no_diff {s s' : Stm} (r : RightS s) (r' : RightS s') (hS : ¬ ok kStatement) (hM : ¬ ok kMonth) (hI : ¬ ok kInterest) (hl : s.ls.length = s'.ls.length) : ¬ Diff ok ([], []) (textU s) (textU s') := fun h => by
  unfold textU at h
  have f := r.fine
  have f' := r'.fine
  rcases stepD kS_w (numB_itoa _) (numB_itoa _) (sepK (.inl rfl)) (sepK (.inl rfl)) h with ⟨e1, h⟩ | ⟨h1, -⟩
  rotate_left
  · exact hS h1
  have tails : ∀ {n}, N ok n (tailU s) (tailU s') → s.g = s'.g ∧ s.t = s'.t ∧ s.n = s'.n ∧ s.i = s'.i ∧ (s.a = s'.a ∧ n = 0 ∨ n = 1 ∧ s.a ≠ s'.a) := fun {n} h => by
    unfold tailU at h
    rcases step kG_w (numB_itoa _) (numB_itoa _) (sepK (.inr rfl)) (sepK (.inr rfl)) h with ⟨e2, h⟩ | ⟨-, ne, h2⟩
    rotate_left
    ·
      obtain ⟨e3, h3⟩ := step0 (k := kT) (numB_itoa _) (numB_itoa _) (sepK (.inr rfl)) (sepK (.inr rfl)) h2
      obtain ⟨e4, h4⟩ := step0 (k := kN) (numB_itoa _) (numB_itoa _) (sepK (.inr rfl)) (sepK (.inr rfl)) h3
      have ep := itoa_inj f.t f'.t e3
      have eo := itoa_inj f.n f'.n e4
      have h5 := r.net
      have h6 := r'.net
      exact absurd (congrArg Lib.itoa (show s.g = s'.g by omega)) ne
    have eg := itoa_inj f.g f'.g e2
    rcases step kT_w (numB_itoa _) (numB_itoa _) (sepK (.inr rfl)) (sepK (.inr rfl)) h with ⟨e3, h⟩ | ⟨-, ne, h2⟩
    rotate_left
    ·
      obtain ⟨e4, h4⟩ := step0 (k := kN) (numB_itoa _) (numB_itoa _) (sepK (.inr rfl)) (sepK (.inr rfl)) h2
      have eo := itoa_inj f.n f'.n e4
      have h5 := r.net
      have h6 := r'.net
      exact absurd (congrArg Lib.itoa (show s.t = s'.t by omega)) ne
    have et := itoa_inj f.t f'.t e3
    rcases step kN_w (numB_itoa _) (numB_itoa _) (sepK (.inr rfl)) (sepK (.inr rfl)) h with ⟨e4, h⟩ | ⟨-, ne, h2⟩
    rotate_left
    ·
      have h5 := r.net
      have h6 := r'.net
      exact absurd (congrArg Lib.itoa (show s.n = s'.n by omega)) ne
    have en := itoa_inj f.n f'.n e4
    rcases step kI_w (numB_itoa _) (numB_itoa _) (sepK (.inl rfl)) (sepK (.inl rfl)) h with ⟨e5, h⟩ | ⟨h1, -⟩
    rotate_left
    · exact absurd h1.2 hI
    have ei := itoa_inj f.i f'.i e5
    have s10 : sepH [10] := ⟨10, [], rfl, by decide⟩
    refine ⟨eg, et, en, ei, ?_⟩
    rcases step kA_w (numB_itoa _) (numB_itoa _) s10 s10 h with ⟨e6, h⟩ | ⟨h1, ne, h2⟩
    · refine .inl ⟨itoa_inj f.a f'.a e6, ?_⟩
      rcases h with ⟨h, -⟩ | ⟨-, st, p, c, d, h1, h2, h3, -⟩
      · exact h
      · exfalso
        cases p with
        | zero =>
          simp only [List.getElem?_cons_zero, List.set_cons_zero, Option.some.injEq, List.cons.injEq, and_true] at h1 h2
          exact h3 (h1.symm.trans h2)
        | succ p => simp at h1
    · exact .inr ⟨h1.1, fun e => ne (congrArg Lib.itoa e)⟩
  have sl := fun (s : Stm) => sep_lns (l := s.ls) (sep_tail s)
  have hso : s.ls = s'.ls → so s.ls s.ls.length = so s'.ls s'.ls.length := fun e => by rw [e]
  have ha := r.aft
  have ha' := r'.aft
  rcases step kB_w (numB_itoa _) (numB_itoa _) (sl s) (sl s') h with ⟨e2, h⟩ | ⟨-, ne, h2⟩
  · have eb := itoa_inj f.b f'.b e2
    obtain ⟨el, h⟩ := lines1 hM (sep_tail s) (sep_tail s') hl r.lnok r'.lnok h
    have := hso el
    rcases (tails h).2.2.2.2 with h | h
    · omega
    · omega
  · obtain ⟨el, h⟩ := lines1 (n := 0) hM (sep_tail s) (sep_tail s') hl r.lnok r'.lnok (.inl ⟨rfl, h2⟩)
    have := hso el
    rcases (tails h).2.2.2.2 with h | h
    · exact ne (congrArg Lib.itoa (by omega))
    · exact absurd h.1 (by omega)
/-- The word before a place. -/
def wordAt (t : List UInt8) (p : Nat) : List UInt8 := ((t.take p).foldl sc1 ([], [])).1
theorem edit_none {s : Stm} (r : RightS s) {p : Nat} {c d : UInt8} (hd : (textT s)[p]? = some d) (hdd : isD d = true) (hc : isD c = true) (hne : d ≠ c) (h1 : wordAt (textT s) p ≠ kInterest) (h2 : wordAt (textT s) p ≠ kMonth) (h3 : wordAt (textT s) p ≠ kStatement) : readS ((textT s).set p c) = none := by
  cases e : readS ((textT s).set p c) with
  | none => rfl
  | some s' =>
    exfalso
    obtain ⟨r', e'⟩ := readS_spec e
    have n109 : ∀ {x : UInt8}, isD x = true → x ≠ 109 := fun hx e => by subst e; revert hx; decide
    have hl := cnt_set (m := 109) (n109 hc) hd (n109 hdd)
    rw [← e', text_U, text_U, cnt_text, cnt_text] at hl
    refine no_diff (ok := fun w => w = wordAt (textT s) p) r r' (fun e => h3 e.symm) (fun e => h2 e.symm) (fun e => h1 e.symm) (by omega) ⟨p, c, d, ?_, ?_, hne, isD_ns hdd, isD_ns hc, ?_⟩
    · rw [← text_U]; exact hd
    · rw [← text_U, ← text_U]; exact e'
    · rw [← text_U]; rfl
end Go.Proofs.YtnhbopeopppojaaGreatDoor.Dv
