/-
  The text of a right statement is read as that statement: no program in sight.
-/
import Derived.Test.YtnhbopeopppojaaGreatDoorSf
namespace Go.Proofs.YtnhbopeopppojaaGreatDoor.Dv
open Go.Dm Go.Proofs

/-- A list whose first byte is no digit. -/
def noD (l : List UInt8) : Prop := ∀ c, l.head? = some c → isD c = false
theorem noD_cons {c : UInt8} {l : List UInt8} (h : isD c = false) : noD (c :: l) := fun d hd => by cases hd; exact h
theorem noD_app (k : List UInt8) {l : List UInt8} (h : k.head?.map isD = some false) : noD (k ++ l) := by
  cases k with
  | nil => cases h
  | cons c k => exact noD_cons (by simpa using h)
theorem isP_app (p x : List UInt8) : isP p (p ++ x) = true := by simp [isP]
theorem tw_app {ds rest : List UInt8} (h : ∀ c ∈ ds, isD c = true) (hr : noD rest) : (ds ++ rest).takeWhile isD = ds := by
  induction ds with
  | nil =>
    cases rest with
    | nil => rfl
    | cons c r => rw [List.nil_append, List.takeWhile_cons_of_neg (by rw [hr c rfl]; nofun)]
  | cons c ds ih =>
    rw [List.cons_append, List.takeWhile_cons_of_pos (h c List.mem_cons_self), ih fun d hd => h d (List.mem_cons_of_mem _ hd)]
theorem cut45 {c : UInt8} {l : List UInt8} (h : isD c = true) : cutS [45] (c :: l) = c :: l ∧ isP [45] (c :: l) = false := by
  have hne : c ≠ 45 := fun e => by subst e; revert h; decide
  have : isP [45] (c :: l) = false := by simp [isP, hne]
  exact ⟨by simp [cutS, this], this⟩
theorem numF_pos {p ds rest : List UInt8} (hne : ds ≠ []) (h : ∀ c ∈ ds, isD c = true) (hr : noD rest) (hv : dval ds ≤ 9007199254740992) : numF p (p ++ (ds ++ rest)) = (some (dval ds : Int), rest) := by
  unfold numF
  rw [if_pos (isP_app _ _), List.drop_left]
  cases ds with
  | nil => exact absurd rfl hne
  | cons c ds =>
    obtain ⟨e1, e2⟩ := cut45 (l := ds ++ rest) (h c List.mem_cons_self)
    rw [List.cons_append, e1, e2]
    simp only []
    rw [← List.cons_append, tw_app h hr, if_neg (by simp; omega), List.drop_left]
    rfl
theorem numF_neg {p ds rest : List UInt8} (hne : ds ≠ []) (h : ∀ c ∈ ds, isD c = true) (hr : noD rest) (hv : dval ds ≤ 9007199254740992) : numF p (p ++ (45 :: ds ++ rest)) = (some (-(dval ds : Int)), rest) := by
  unfold numF
  rw [if_pos (isP_app _ _), List.drop_left]
  have e1 : isP [45] (45 :: ds ++ rest) = true := by simp [isP]
  have e2 : cutS [45] (45 :: ds ++ rest) = ds ++ rest := by rw [cutS, if_pos e1]; rfl
  rw [e1, e2]
  simp only []
  have hl : ds.length ≠ 0 := fun e => hne (List.length_eq_zero_iff.1 e)
  rw [tw_app h hr, if_neg (by omega), List.drop_left]
  rfl
theorem decD (u : Nat) : (∀ c ∈ Lib.decDigits u, isD c = true) ∧ Lib.decDigits u ≠ [] ∧ dval (Lib.decDigits u) = u := by
  induction u using Nat.strongRecOn with
  | ind u ih =>
    rw [Lib.decDigits]
    have hc : ∀ d : Nat, d < 10 → (UInt8.ofNat (48 + d)).toNat = 48 + d := fun d hd => by
      simp only [UInt8.toNat_ofNat']; omega
    by_cases h : u < 10
    · rw [dif_pos h]
      have e := hc u h
      refine ⟨fun c hm => ?_, by simp, ?_⟩
      · rw [List.mem_singleton.1 hm]
        simp only [isD, e, Bool.and_eq_true, decide_eq_true_eq]; omega
      · simp only [dval, List.foldl_cons, List.foldl_nil, e]; omega
    · rw [dif_neg h]
      obtain ⟨h1, h2, h3⟩ := ih (u / 10) (by omega)
      have e := hc (u % 10) (by omega)
      refine ⟨fun c hm => ?_, by simp, ?_⟩
      · rcases List.mem_append.1 hm with hm | hm
        · exact h1 c hm
        · rw [List.mem_singleton.1 hm]
          simp only [isD, e, Bool.and_eq_true, decide_eq_true_eq]; omega
      · rw [dval_snoc, h3, e]; omega
theorem numF_itoa {p rest : List UInt8} {n : Int} (hn : nr n = true) (hr : noD rest) : numF p (p ++ (Lib.itoa n ++ rest)) = (some n, rest) := by
  rw [nr_i] at hn
  unfold Lib.itoa
  split
  · obtain ⟨h1, h2, h3⟩ := decD n.natAbs
    rw [numF_neg h2 h1 hr (by omega), h3]
    congr 2
    omega
  · obtain ⟨h1, h2, h3⟩ := decD n.toNat
    rw [numF_pos h2 h1 hr (by omega), h3]
    congr 2
    omega
theorem numF_itoa0 {rest : List UInt8} {n : Int} (hn : nr n = true) (hr : noD rest) : numF [] (Lib.itoa n ++ rest) = (some n, rest) := numF_itoa (p := []) hn hr
theorem monF_mon {m : Int} {rest : List UInt8} (h0 : 0 ≤ m) (hy : isY (yOf m) = true) (hr : noD rest) : monF (monT m ++ rest) = (some m, rest) := by
  have hyb := hy
  have ey : yOf m = 1900 + m / 12 := by rw [yOf, Int.tdiv_eq_ediv_of_nonneg h0]
  simp only [isY, Bool.and_eq_true, decide_eq_true_eq] at hyb
  unfold monF monT
  rw [List.append_assoc, List.append_assoc, numF_itoa0 (by rw [nr_i]; omega) (noD_app [45] (by decide)), thn_s]
  have hk : numF [45] ([45] ++ (pad2 (Lib.itoa (m % 12 + 1)) ++ rest)) = (some (m % 12 + 1), rest) := by
    have e : Lib.itoa (m % 12 + 1) = Lib.decDigits (m % 12 + 1).toNat := by rw [Lib.itoa, if_neg (by omega)]
    obtain ⟨h1, h2, h3⟩ := decD (m % 12 + 1).toNat
    rw [e]
    generalize Lib.decDigits (m % 12 + 1).toNat = ds at h1 h2 h3
    unfold pad2
    split
    · have hd : dval (48 :: ds) = dval ds := by simp [dval]
      rw [numF_pos (by simp) (fun c hc => by
        rcases List.mem_cons.1 hc with rfl | hc
        · decide
        · exact h1 c hc) hr (by omega), hd, h3]
      congr 2
      omega
    · rw [numF_pos h2 h1 hr (by omega), h3]
      congr 2
      omega
  rw [hk, thn_s, if_pos ⟨hy, by omega, by omega⟩, ey]
  congr 2
  omega

/-! ### The text, number behind number -/
def lnU (x : Ln) : List UInt8 := kM ++ (monT x.m ++ (kD ++ (Lib.itoa x.d ++ (kP ++ (Lib.itoa x.p ++ (kO ++ Lib.itoa x.o))))))
def lnsU (l : List Ln) : List UInt8 := (l.map lnU).flatten
def tailU (s : Stm) : List UInt8 := kG ++ (Lib.itoa s.g ++ (kT ++ (Lib.itoa s.t ++ (kN ++ (Lib.itoa s.n ++ (kI ++ (Lib.itoa s.i ++ (kA ++ (Lib.itoa s.a ++ [10])))))))))
def textU (s : Stm) : List UInt8 := kS ++ (Lib.itoa s.y ++ (kB ++ (Lib.itoa s.b ++ (lnsU s.ls ++ tailU s))))
theorem join2 (a b : List UInt8) : Lib.join [a, b] [32] = a ++ ([32] ++ b) := by
  simp [Lib.join_cons, Lib.joinTail]
theorem join8 (a b c d e f g h : List UInt8) : Lib.join [a, b, c, d, e, f, g, h] [32] = a ++ ([32] ++ (b ++ ([32] ++ (c ++ ([32] ++ (d ++ ([32] ++ (e ++ ([32] ++ (f ++ ([32] ++ (g ++ ([32] ++ h))))))))))))) := by
  simp [Lib.join_cons, Lib.joinTail]
theorem lnT_U (x : Ln) : [10] ++ lnT x = lnU x ++ [10] := by
  simp [lnT, lineT, wdT, join8, lnU, kM, kD, kP, kO, kMonth, kDue, kPosted, kOpen]
theorem lns_U : ∀ l : List Ln, [10] ++ (l.map lnT).flatten = lnsU l ++ [10]
  | [] => rfl
  | x :: l => by
    rw [List.map_cons, List.flatten_cons, ← List.append_assoc, lnT_U, List.append_assoc, lns_U l, lnsU, lnsU, List.map_cons, List.flatten_cons, List.append_assoc]
theorem text_U (s : Stm) : textT s = textU s := by
  have e : lnsT s.ls s.ls.length = (s.ls.map lnT).flatten := by rw [lnsT, List.take_length]
  have h := lns_U s.ls
  have h1 : headT s = kS ++ (Lib.itoa s.y ++ (kB ++ Lib.itoa s.b)) ++ [10] := by simp [headT, lineT, wdT, join2, kS, kB, kStatement, kBefore]
  have h2 : [10] ++ (lineT [.s kGross, .i s.g, .s kTax, .i s.t, .s kNet, .i s.n, .s kInterest, .i s.i] ++ lineT [.s kAfter, .i s.a]) = tailU s := by
    simp [lineT, wdT, join2, join8, tailU, kG, kT, kN, kI, kA, kGross, kTax, kNet, kInterest, kAfter]
  rw [textT, e, h1, List.append_assoc, List.append_assoc, List.append_assoc]
  have h3 : [10] ++ ((s.ls.map lnT).flatten ++ (lineT [.s kGross, .i s.g, .s kTax, .i s.t, .s kNet, .i s.n, .s kInterest, .i s.i] ++ lineT [.s kAfter, .i s.a])) = lnsU s.ls ++ tailU s := by
    rw [← List.append_assoc, h, List.append_assoc, h2]
  rw [h3, textU]
  simp only [List.append_assoc]

/-! ### .. is read -/
theorem lnF_U {x : Ln} {rest : List UInt8} (h0 : 0 ≤ x.m) (hy : isY (yOf x.m) = true) (hd : nr x.d = true) (hp : nr x.p = true) (ho : nr x.o = true) (hr : noD rest) : isP kM (lnU x ++ rest) = true ∧ lnF (cutS kM (lnU x ++ rest)) = (some x, rest) := by
  have e : lnU x ++ rest = kM ++ (monT x.m ++ (kD ++ (Lib.itoa x.d ++ (kP ++ (Lib.itoa x.p ++ (kO ++ (Lib.itoa x.o ++ rest))))))) := by simp only [lnU, List.append_assoc]
  rw [e]
  refine ⟨isP_app _ _, ?_⟩
  rw [cutS, if_pos (isP_app _ _), List.drop_left]
  unfold lnF
  rw [monF_mon h0 hy (noD_app kD (by decide)), thn_s]
  rw [numF_itoa hd (noD_app kP (by decide)), thn_s]
  rw [numF_itoa hp (noD_app kO (by decide)), thn_s]
  rw [numF_itoa ho hr, thn_s]
theorem isP_head {p l : List UInt8} {c d : UInt8} (hp : p.head? = some c) (hl : l.head? = some d) (hne : c ≠ d) : isP p l = false := by
  cases p with
  | nil => cases hp
  | cons a p =>
    cases l with
    | nil => cases hl
    | cons b l =>
      cases hp; cases hl
      simp only [isP, List.length_cons, List.take_succ_cons, List.cons.injEq, Bool.and_eq_false_iff, decide_eq_false_iff_not]
      exact .inr fun h => hne h.1.symm
structure LnFine (x : Ln) : Prop where
  m : 0 ≤ x.m
  y : isY (yOf x.m) = true
  d : nr x.d = true
  p : nr x.p = true
  o : nr x.o = true
theorem noD_tail (s : Stm) : noD (tailU s) := noD_cons (by decide)
theorem noD_lns {l : List Ln} {t : List UInt8} (ht : noD t) : noD (lnsU l ++ t) := by
  cases l with
  | nil => exact ht
  | cons x l => exact noD_cons (by decide)
theorem isP_tail (s : Stm) : isP kM (tailU s) = false := by
  have : tailU s = 10 :: 103 :: (tailU s).drop 2 := rfl
  rw [this]
  simp [isP, kM]
theorem msF_U {s : Stm} : ∀ (n : Nat) (acc l : List Ln), (∀ x ∈ l, LnFine x) → l.length ≤ n → msF n acc (lnsU l ++ tailU s) = (some (acc ++ l), tailU s)
  | 0, acc, l, _, hl => by
    have : l = [] := List.length_eq_zero_iff.1 (by omega)
    subst this
    simp only [lnsU, List.map_nil, List.flatten_nil, List.nil_append, msF, isP_tail, List.append_nil]
    rfl
  | n + 1, acc, [], _, _ => by
    simp only [lnsU, List.map_nil, List.flatten_nil, List.nil_append, msF, isP_tail, List.append_nil]
    rfl
  | n + 1, acc, x :: l, h, hl => by
    have hx := h x List.mem_cons_self
    have e : lnsU (x :: l) ++ tailU s = lnU x ++ (lnsU l ++ tailU s) := by simp only [lnsU, List.map_cons, List.flatten_cons, List.append_assoc]
    obtain ⟨h1, h2⟩ := lnF_U (rest := lnsU l ++ tailU s) hx.m hx.y hx.d hx.p hx.o (noD_lns (noD_tail s))
    rw [e]
    unfold msF
    rw [if_pos h1, h2]
    simp only
    rw [msF_U n (acc ++ [x]) l (fun y hy => h y (List.mem_cons_of_mem _ hy)) (by simpa using hl)]
    simp
structure StFine (s : Stm) : Prop where
  y : nr s.y = true
  b : nr s.b = true
  a : nr s.a = true
  g : nr s.g = true
  t : nr s.t = true
  n : nr s.n = true
  i : nr s.i = true
  ls : ∀ x ∈ s.ls, LnFine x
  len : s.ls.length ≤ 12
theorem stF_U {s : Stm} (h : StFine s) : stF (textU s) = (some s, []) := by
  unfold stF textU
  rw [numF_itoa h.y (noD_app kB (by decide)), thn_s]
  rw [numF_itoa h.b (noD_lns (noD_tail s)), thn_s]
  rw [msF_U 12 [] s.ls h.ls h.len]
  simp only [tailU, List.nil_append]
  rw [numF_itoa h.g (noD_app kT (by decide)), thn_s]
  rw [numF_itoa h.t (noD_app kN (by decide)), thn_s]
  rw [numF_itoa h.n (noD_app kI (by decide)), thn_s]
  rw [numF_itoa h.i (noD_app kA (by decide)), thn_s]
  rw [numF_itoa h.a (noD_cons (by decide)), thn_s]
  rfl
theorem RightS.fine {s : Stm} (r : RightS s) : StFine s := by
  have hs := r.sums
  simp only [Bool.and_eq_true] at hs
  have hy := r.y
  have hy2 := hy
  simp only [isY, Bool.and_eq_true, decide_eq_true_eq] at hy
  refine ⟨by rw [nr_i]; omega, hs.1.1.1.1.1, hs.1.1.1.1.2, hs.1.1.1.2, hs.1.1.2, hs.1.2, hs.2, fun x hx => ?_, r.len⟩
  obtain ⟨k, hk, rfl⟩ := List.mem_iff_getElem.1 hx
  have h := r.lns.h k hk
  have e : s.ls[k]! = s.ls[k] := getElem!_pos s.ls k hk
  rw [← e]
  exact ⟨h.m0, by rw [h.m1]; exact hy2, by rw [nr_i]; have := h.d; omega, h.p, h.o⟩
theorem read_text {s : Stm} (r : RightS s) : readS (textT s) = some s := by
  have h := stF_U r.fine
  rw [← text_U] at h
  unfold readS
  rw [h]
  simp only [readP]
  rw [if_pos ⟨by simp, r, by first | rfl | trivial⟩]
theorem readS_spec {t : List UInt8} {s : Stm} (h : readS t = some s) : RightS s ∧ textT s = t := by
  unfold readS at h
  split at h
  · rename_i hc
    cases h
    exact hc.2
  · cases h
theorem readS_none {t : List UInt8} (h : readS t = none) : ¬ ∃ s, RightS s ∧ textT s = t := fun ⟨s, r, e⟩ => by
  rw [← e, read_text r] at h
  cases h
end Go.Proofs.YtnhbopeopppojaaGreatDoor.Dv
