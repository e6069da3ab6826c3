/-
  The reference reads the text of a right statement as that statement.
-/
import Derived.Test.YtnhbopeopppojaaGreatDoorRd
namespace Go.Proofs.YtnhbopeopppojaaGreatDoor.Dv
open Go.Dm Go.Proofs

/-! ### Words of a text -/
def noSep (w : List UInt8) : Prop := ∀ c ∈ w, isSep c = false
theorem wsp_app : ∀ (w : List UInt8) (rest cur : List UInt8), noSep w → wsp (w ++ rest) cur = wsp rest (cur ++ w)
  | [], rest, cur, _ => by simp
  | c :: w, rest, cur, h => by
    rw [List.cons_append, wsp, if_neg (by rw [h c List.mem_cons_self]; nofun), wsp_app w rest _ (fun d hd => h d (List.mem_cons_of_mem _ hd))]
    simp
/-- A separator, a word. -/
theorem wsp_kw {c : UInt8} {k rest cur : List UInt8} (hc : isSep c = true) (hk : noSep k) (d : UInt8) (hd : isSep d = true) : wsp (c :: (k ++ (d :: rest))) cur = cur :: k :: wsp rest [] := by
  rw [wsp, if_pos hc, wsp_app k _ _ hk, wsp, if_pos hd]; simp
theorem wsp_num1 {w rest : List UInt8} (h : noSep w) : wsp (w ++ rest) [] = wsp rest w := by rw [wsp_app w rest [] h]; rfl
theorem noSep_dec (u : Nat) : noSep (Lib.decDigits u) := fun c hc => by
  have := (decD u).1 c hc
  simp only [isD, Bool.and_eq_true, decide_eq_true_eq] at this
  simp only [isSep, Bool.or_eq_false_iff, decide_eq_false_iff_not]; omega
theorem noSep_itoa (n : Int) : noSep (Lib.itoa n) := fun c hc => by
  unfold Lib.itoa at hc
  split at hc
  · rcases List.mem_cons.1 hc with rfl | hc
    · decide
    · exact noSep_dec _ c hc
  · exact noSep_dec _ c hc
theorem noSep_mon (m : Int) : noSep (monT m) := fun c hc => by
  unfold monT at hc
  rcases List.mem_append.1 hc with hc | hc
  · rcases List.mem_append.1 hc with hc | hc
    · exact noSep_itoa _ c hc
    · rw [List.mem_singleton.1 hc]; decide
  · unfold pad2 at hc
    split at hc
    · rcases List.mem_cons.1 hc with rfl | hc
      · decide
      · exact noSep_itoa _ c hc
    · exact noSep_itoa _ c hc
theorem noSep_k {k : List UInt8} (h : k.all (fun c => !isSep c) = true) : noSep k := fun c hc => by
  have := List.all_eq_true.1 h c hc
  simpa using this
def lw : List Ln → List (List UInt8)
  | [] => []
  | x :: l => [kMonth, monT x.m, kDue, Lib.itoa x.d, kPosted, Lib.itoa x.p, kOpen, Lib.itoa x.o] ++ lw l
theorem lw_len : ∀ l, (lw l).length = 8 * l.length
  | [] => rfl
  | x :: l => by rw [lw, List.length_append, lw_len l]; simp only [List.length_cons, List.length_nil]; omega
theorem lw_app : ∀ a b, lw (a ++ b) = lw a ++ lw b
  | [], b => rfl
  | x :: a, b => by rw [List.cons_append, lw, lw, lw_app a b, List.append_assoc]
theorem wsp_lns : ∀ (l : List Ln) (c : UInt8) (rest cur : List UInt8), isSep c = true → wsp (lnsU l ++ (c :: rest)) cur = cur :: (lw l ++ wsp rest [])
  | [], c, rest, cur, hc => by
    show wsp (c :: rest) cur = _
    rw [wsp, if_pos hc]; rfl
  | x :: l, c, rest, cur, hc => by
    have e : lnsU (x :: l) ++ (c :: rest) = 10 :: (kMonth ++ (32 :: (monT x.m ++ (32 :: (kDue ++ (32 :: (Lib.itoa x.d ++ (32 :: (kPosted ++ (32 :: (Lib.itoa x.p ++ (32 :: (kOpen ++ (32 :: (Lib.itoa x.o ++ (lnsU l ++ (c :: rest))))))))))))))))) := by
      simp [lnsU, lnU, kM, kD, kP, kO, kMonth, kDue, kPosted, kOpen]
    rw [e, wsp_kw (by decide) (noSep_k rfl) 32 (by decide), wsp_num1 (noSep_mon _), wsp_kw (by decide) (noSep_k rfl) 32 (by decide), wsp_num1 (noSep_itoa _), wsp_kw (by decide) (noSep_k rfl) 32 (by decide), wsp_num1 (noSep_itoa _), wsp_kw (by decide) (noSep_k rfl) 32 (by decide), wsp_num1 (noSep_itoa _), wsp_lns l c rest _ hc]
    rfl
def tailW (s : Stm) : List (List UInt8) := [kGross, Lib.itoa s.g, kTax, Lib.itoa s.t, kNet, Lib.itoa s.n, kInterest, Lib.itoa s.i, kAfter, Lib.itoa s.a, []]
theorem words_text (s : Stm) : wordsT (textT s) = [kStatement, Lib.itoa s.y, kBefore, Lib.itoa s.b] ++ (lw s.ls ++ tailW s) := by
  have e : textT s = (kStatement ++ (32 :: (Lib.itoa s.y ++ (10 :: (kBefore ++ (32 :: (Lib.itoa s.b ++ (lnsU s.ls ++ (10 :: (kGross ++ (32 :: (Lib.itoa s.g ++ (32 :: (kTax ++ (32 :: (Lib.itoa s.t ++ (32 :: (kNet ++ (32 :: (Lib.itoa s.n ++ (32 :: (kInterest ++ (32 :: (Lib.itoa s.i ++ (10 :: (kAfter ++ (32 :: (Lib.itoa s.a ++ [10])))))))))))))))))))))))))))) := by
    rw [text_U]
    simp [textU, tailU, kS, kB, kG, kT, kN, kI, kA, kStatement, kBefore, kGross, kTax, kNet, kInterest, kAfter]
  unfold wordsT
  rw [e, wsp_num1 (noSep_k rfl), wsp, if_pos (by decide), wsp_num1 (noSep_itoa _), wsp_kw (by decide) (noSep_k rfl) 32 (by decide), wsp_num1 (noSep_itoa _), wsp_lns _ 10 _ _ (by decide), wsp_num1 (noSep_k rfl), wsp, if_pos (by decide), wsp_num1 (noSep_itoa _), wsp_kw (by decide) (noSep_k rfl) 32 (by decide), wsp_num1 (noSep_itoa _), wsp_kw (by decide) (noSep_k rfl) 32 (by decide), wsp_num1 (noSep_itoa _), wsp_kw (by decide) (noSep_k rfl) 32 (by decide), wsp_num1 (noSep_itoa _), wsp_kw (by decide) (noSep_k rfl) 32 (by decide), wsp_num1 (noSep_itoa _)]
  rw [wsp, if_pos (by decide)]
  rfl

/-! ### The number with a decimal text -/
theorem dec_head : ∀ u : Nat, 1 ≤ u → (Lib.decDigits u)[0]!.toNat ≠ 48 := by
  intro u
  induction u using Nat.strongRecOn with
  | ind u ih =>
    intro hu
    rw [Lib.decDigits]
    by_cases h : u < 10
    · rw [dif_pos h]
      show (UInt8.ofNat (48 + u)).toNat ≠ 48
      simp only [UInt8.toNat_ofNat']; omega
    · rw [dif_neg h]
      have := ih (u / 10) (by omega) (by omega)
      have hne := (decD (u / 10)).2.1
      cases hd : Lib.decDigits (u / 10) with
      | nil => exact absurd hd hne
      | cons x l => rw [hd] at this; exact this
theorem dec_one {u : Nat} (h : 1 < (Lib.decDigits u).length) : 1 ≤ u := by
  rcases Nat.eq_zero_or_pos u with rfl | h0
  · rw [Lib.decDigits, dif_pos (by omega)] at h; simp at h
  · exact h0
theorem dv_pos {w : List UInt8} (h : ∀ c ∈ w, isD c = true) : ∀ i, i ≤ w.length → dv w i = dval (w.take i)
  | 0, _ => rfl
  | i + 1, hi => by
    have hm := h w[i]! (by rw [getElem!_pos w i (by omega)]; exact List.getElem_mem _)
    simp only [isD, Bool.and_eq_true, decide_eq_true_eq] at hm
    rw [dv, if_neg (by omega), dv_pos h i (by omega), dval_take (by omega)]
    omega
theorem dv_neg {w : List UInt8} (h : ∀ c ∈ w, isD c = true) : ∀ i, i ≤ w.length → dv (45 :: w) (i + 1) = dval (w.take i)
  | 0, _ => rfl
  | i + 1, hi => by
    have hm := h w[i]! (by rw [getElem!_pos w i (by omega)]; exact List.getElem_mem _)
    simp only [isD, Bool.and_eq_true, decide_eq_true_eq] at hm
    have e : (45 :: w)[i + 1]! = w[i]! := by simp
    rw [dv, e, if_neg (by omega), dv_neg h i (by omega), dval_take (by omega)]
    omega
theorem valW_itoa {n : Int} (hn : nr n = true) : valW (Lib.itoa n) = n := by
  rw [nr_i] at hn
  by_cases h0 : n < 0
  · obtain ⟨d1, d2, d3⟩ := decD n.natAbs
    have hh := dec_head n.natAbs (by omega)
    have e : Lib.itoa n = 45 :: Lib.decDigits n.natAbs := by unfold Lib.itoa; rw [if_pos h0]
    rw [e]
    generalize Lib.decDigits n.natAbs = ds at *
    have hpos : 0 < ds.length := List.length_pos_iff.2 d2
    have hng : negW (45 :: ds) = true := by simp [negW, hpos]
    have hf : fromW (45 :: ds) = 1 := by unfold fromW; rw [if_pos hng]
    have e1 : (45 :: ds)[1]! = ds[0]! := by simp
    have hd : DecW (45 :: ds) := ⟨by simp, fun _ => by rw [e1]; exact hh, fun _ => by rw [hf, e1]; exact hh, fun k h1 h2 => by
      rw [hf] at h1
      obtain ⟨j, rfl⟩ : ∃ j, k = j + 1 := ⟨k - 1, by omega⟩
      have : (45 :: ds)[j + 1]! = ds[j]! := by simp
      rw [this]
      simp only [List.length_cons] at h2
      exact d1 _ (by rw [getElem!_pos ds j (by omega)]; exact List.getElem_mem _)⟩
    have hv : dv (45 :: ds) (45 :: ds).length = n.natAbs := by
      rw [List.length_cons, dv_neg d1 _ (Nat.le_refl _), List.take_length, d3]
    have hs : sgnW (45 :: ds) = true := rfl
    have hl : 0 < (limbs n.natAbs).length := List.length_pos_iff.2 (fun h => by have := limbs_nil.1 h; omega)
    have hi : intV true n.natAbs = (-(n.natAbs : Int), 0) := by
      unfold intV
      rw [if_pos (by omega), if_pos rfl, if_pos (by omega)]
    rw [valW, if_pos hd, hv, hs, decide_eq_true hl, Bool.and_self, hi, if_pos rfl]
    omega
  · obtain ⟨d1, d2, d3⟩ := decD n.toNat
    have hh := dec_head n.toNat
    have h1 := @dec_one n.toNat
    have e : Lib.itoa n = Lib.decDigits n.toNat := by unfold Lib.itoa; rw [if_neg h0]
    rw [e]
    generalize Lib.decDigits n.toNat = ds at *
    have hpos : 0 < ds.length := List.length_pos_iff.2 d2
    have h00 : isD ds[0]! = true := d1 _ (by rw [getElem!_pos ds 0 hpos]; exact List.getElem_mem _)
    have h45 : ds[0]!.toNat ≠ 45 := by
      simp only [isD, Bool.and_eq_true, decide_eq_true_eq] at h00; omega
    have hng : negW ds = false := by
      unfold negW; rw [decide_eq_false h45, Bool.and_false]
    have hf : fromW ds = 0 := by unfold fromW; rw [if_neg (by rw [hng]; nofun)]
    have hd : DecW ds := ⟨hpos, fun h => absurd h (by rw [hng]; nofun), fun h => by rw [hf]; exact hh (h1 h), fun k _ h2 => d1 _ (by rw [getElem!_pos ds k h2]; exact List.getElem_mem _)⟩
    have hv : dv ds ds.length = n.toNat := by
      rw [dv_pos d1 _ (Nat.le_refl _), List.take_length, d3]
    have hs : sgnW ds = false := decide_eq_false h45
    have hi : intV false n.toNat = ((n.toNat : Int), 0) := by
      unfold intV
      rw [if_pos (by omega), if_neg (by nofun), if_pos (by omega)]
    rw [valW, if_pos hd, hv, hs, Bool.false_and, hi, if_pos rfl]
    omega

/-! ### The month with its text -/
theorem mon_inj2 {m m' : Int} (h : 0 ≤ m) (hy : isY (yOf m) = true) (h' : 0 ≤ m') (hy' : isY (yOf m') = true) (e : monT m = monT m') : m = m' := by
  have e1 := monF_mon h hy (rest := []) (fun c hc => by cases hc)
  have e2 := monF_mon h' hy' (rest := []) (fun c hc => by cases hc)
  rw [e, e2] at e1
  simpa using e1.symm
theorem moF_hit {y m : Int} (hy : isY y = true) (h0 : 0 ≤ m) (hm : yOf m = y) : moF y (monT m) 12 = m := by
  have hyb := hy
  simp only [isY, Bool.and_eq_true, decide_eq_true_eq] at hyb
  have e : yOf m = 1900 + m / 12 := by rw [yOf, Int.tdiv_eq_ediv_of_nonneg h0]
  have step : ∀ k : Nat, k ≤ 12 → m < 12 * (y - 1900) + k → moF y (monT m) k = m := fun k => by
    induction k with
    | zero => intro _ h; omega
    | succ k ih =>
      intro hk hlt
      rw [moF]
      by_cases hc : m = 12 * (y - 1900) + k
      · rw [if_pos ⟨hyb.1, hyb.2, by rw [hc]⟩, hc]
      · rw [if_neg, ih (by omega) (by omega)]
        rintro ⟨_, _, h3⟩
        have hq : yOf (12 * (y - 1900) + k) = y := by rw [yOf, Int.tdiv_eq_ediv_of_nonneg (by omega)]; omega
        have := mon_inj2 (m := 12 * (y - 1900) + k) (by omega) (by rw [hq]; exact hy) h0 (by rw [hm]; exact hy) h3
        omega
  exact step 12 (Nat.le_refl _) (by omega)

/-! ### The statement of the words -/
theorem get_app {α : Type} [Inhabited α] {A B : List α} {n j : Nat} (h : A.length = n) : (A ++ B)[n + j]! = B[j]! := by
  subst h
  by_cases hj : j < B.length
  · rw [getElem!_pos _ _ (by simp; omega), getElem!_pos B j hj, List.getElem_append_right (by omega)]
    congr 1; omega
  · rw [getElem!_neg _ _ (by simp; omega), getElem!_neg B j hj]
theorem nr_of {s : Stm} (r : RightS s) : nr s.b = true ∧ nr s.a = true ∧ nr s.g = true ∧ nr s.t = true ∧ nr s.n = true ∧ nr s.i = true := by
  have := r.sums
  simp only [Bool.and_eq_true] at this
  exact ⟨this.1.1.1.1.1, this.1.1.1.1.2, this.1.1.1.2, this.1.1.2, this.1.2, this.2⟩
theorem stm_back {s : Stm} (r : RightS s) : stmW (wordsT (textT s)) = s := by
  obtain ⟨n1, n2, n3, n4, n5, n6⟩ := nr_of r
  have hw := words_text s
  obtain ⟨ws, hws⟩ : ∃ ws, ws = wordsT (textT s) := ⟨_, rfl⟩
  rw [← hws] at hw ⊢
  have hlen : ws.length = 15 + 8 * s.ls.length := by
    rw [hw]
    simp only [List.length_append, lw_len, List.length_cons, List.length_nil, tailW]; omega
  have hpre : ([kStatement, Lib.itoa s.y, kBefore, Lib.itoa s.b] ++ lw s.ls).length = 4 + 8 * s.ls.length := by
    simp only [List.length_append, lw_len, List.length_cons, List.length_nil]
  have gt : ∀ j, ws[4 + 8 * s.ls.length + j]! = (tailW s)[j]! := fun j => by
    rw [hw, ← List.append_assoc]; exact get_app hpre
  have gl : ∀ k, k < s.ls.length → ∀ j, j < 8 → ws[4 + 8 * k + j]! = ([kMonth, monT s.ls[k]!.m, kDue, Lib.itoa s.ls[k]!.d, kPosted, Lib.itoa s.ls[k]!.p, kOpen, Lib.itoa s.ls[k]!.o])[j]! := fun k hk j hj => by
    have e : s.ls = s.ls.take k ++ (s.ls[k]! :: s.ls.drop (k + 1)) := by
      rw [getElem!_pos s.ls k hk, ← List.drop_eq_getElem_cons hk, List.take_append_drop]
    have e2 : lw s.ls = lw (s.ls.take k) ++ ([kMonth, monT s.ls[k]!.m, kDue, Lib.itoa s.ls[k]!.d, kPosted, Lib.itoa s.ls[k]!.p, kOpen, Lib.itoa s.ls[k]!.o] ++ lw (s.ls.drop (k + 1))) := by
      conv => lhs; rw [e]
      rw [lw_app, lw]
    have e3 : ws = ([kStatement, Lib.itoa s.y, kBefore, Lib.itoa s.b] ++ lw (s.ls.take k)) ++ ([kMonth, monT s.ls[k]!.m, kDue, Lib.itoa s.ls[k]!.d, kPosted, Lib.itoa s.ls[k]!.p, kOpen, Lib.itoa s.ls[k]!.o] ++ (lw (s.ls.drop (k + 1)) ++ tailW s)) := by
      rw [hw, e2]; simp only [List.append_assoc]
    have hl : ([kStatement, Lib.itoa s.y, kBefore, Lib.itoa s.b] ++ lw (s.ls.take k)).length = 4 + 8 * k := by
      simp only [List.length_append, lw_len, List.length_cons, List.length_nil, List.length_take]; omega
    conv => lhs; rw [e3]
    rw [get_app hl]
    rcases (by omega : j = 0 ∨ j = 1 ∨ j = 2 ∨ j = 3 ∨ j = 4 ∨ j = 5 ∨ j = 6 ∨ j = 7) with rfl | rfl | rfl | rfl | rfl | rfl | rfl | rfl <;> rfl
  have hN : nW ws = s.ls.length := nW_eq (fun i hi => ⟨by omega, gl i hi 0 (by omega)⟩) (fun h => by
    have h1 := h.m
    have h2 : ws[4 + 8 * s.ls.length + 0]! = kGross := gt 0
    rw [Nat.add_zero, h1] at h2
    cases h2)
  have vt : ∀ {j : Nat} {n : Int}, j < 11 → nr n = true → (tailW s)[j]! = Lib.itoa n → valL ws (4 + 8 * s.ls.length + j) = n := fun {j n} hj hn he => by
    rw [valL, if_pos (by omega), gt, he, valW_itoa hn]
  have v1 : valL ws 1 = s.y := by
    have e : ws[1]! = Lib.itoa s.y := by rw [hw]; rfl
    have hy := r.y
    simp only [isY, Bool.and_eq_true, decide_eq_true_eq] at hy
    rw [valL, if_pos (by omega), e, valW_itoa (by rw [nr_i]; omega)]
  have v3 : valL ws 3 = s.b := by
    have e : ws[3]! = Lib.itoa s.b := by rw [hw]; rfl
    rw [valL, if_pos (by omega), e, valW_itoa n1]
  have hls : lnsW ws s.y s.ls.length = s.ls := by
    have : ∀ i, i ≤ s.ls.length → lnsW ws s.y i = s.ls.take i := fun i => by
      induction i with
      | zero => intro _; rfl
      | succ i ih =>
        intro hi
        have hk := r.lns.h i (by omega)
        have hd : nr s.ls[i]!.d = true := by have := hk.d; rw [nr_i]; omega
        have hln : lnW ws s.y i = s.ls[i]! := by
          unfold lnW
          have vl : ∀ {j : Nat} {n : Int}, j < 8 → nr n = true → ws[4 + 8 * i + j]! = Lib.itoa n → valL ws (4 + 8 * i + j) = n := fun {j n} hj hn he => by
            rw [valL, if_pos (by omega), he, valW_itoa hn]
          rw [gl i (by omega) 1 (by omega), vl (by omega) hd (gl i (by omega) 3 (by omega)), vl (by omega) hk.p (gl i (by omega) 5 (by omega)), vl (by omega) hk.o (gl i (by omega) 7 (by omega))]
          show (⟨moF s.y (monT s.ls[i]!.m) 12, _, _, _⟩ : Ln) = _
          rw [moF_hit r.y hk.m0 hk.m1]
        rw [lnsW, ih (by omega), hln, List.take_succ_eq_append_getElem (by omega), getElem!_pos s.ls i (by omega)]
    rw [this _ (Nat.le_refl _), List.take_length]
  unfold stmW
  rw [hN, v1, v3, hls, vt (j := 9) (by omega) n2 rfl, vt (j := 1) (by omega) n3 rfl, vt (j := 3) (by omega) n4 rfl, vt (j := 5) (by omega) n5 rfl, vt (j := 7) (by omega) n6 rfl]
/-- Program and reference read the same. -/
theorem read_same (t : List UInt8) : refD t = readD t := by
  unfold refD readD
  cases hr : readS t with
  | some s =>
    obtain ⟨r, e⟩ := readS_spec hr
    have hb := stm_back r
    rw [e] at hb
    rw [hb, if_pos ⟨r, e⟩]
  | none =>
    rw [if_neg fun h => readS_none hr ⟨_, h.1, h.2⟩]
end Go.Proofs.YtnhbopeopppojaaGreatDoor.Dv
