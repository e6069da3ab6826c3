/-
  The reference's decimal texts over the machine: decimal, Parse, Int, value.
-/
import Derived.Test.YtnhbopeopppojaaGreatDoorRa
namespace Go.Proofs.YtnhbopeopppojaaGreatDoor.Dv
open Go.Dm Go.Proofs

/-- A minus sign ahead of something. -/
def negW (w : List UInt8) : Bool := decide (1 < w.length) && decide (w[0]!.toNat = 45)
def fromW (w : List UInt8) : Nat := if negW w = true then 1 else 0
structure DecW (w : List UInt8) : Prop where
  ne : 0 < w.length
  z : negW w = true → w[1]!.toNat ≠ 48
  z2 : 1 < w.length → w[fromW w]!.toNat ≠ 48
  ds : ∀ k, fromW w ≤ k → k < w.length → isD w[k]! = true
noncomputable instance (w : List UInt8) : Decidable (DecW w) := Classical.propDecidable _
structure dgTo (w : List UInt8) (i : Nat) : Prop where
  h : ∀ k, fromW w ≤ k → k < i → isD w[k]! = true
theorem u8i {a b : UInt8} : (a.toNat : Int) = b.toNat ↔ a.toNat = b.toNat := by omega
theorem dec_loop {w : List UInt8} (hl : w.length ≤ 1000000) (h0 : 0 < w.length) (hz : negW w = true → w[1]!.toNat ≠ 48) (hz2 : 1 < w.length → w[fromW w]!.toNat ≠ 48) {a2 a3 a4 a5 a6 : D} {Q : Ex → St → Prop}
    (hq : ∀ b2 b3 b4 b5 b6 b8 r, r = decide (DecW w) → Q .rt ⟨[.s w, .b r, b2, b3, b4, b5, b6, .i .i64 (fromW w : Nat), b8], []⟩) (hq2 : DecW w → ∀ b2 b3 b4 b5 b6 b8, Q (.ex 0) ⟨[.s w, .b false, b2, b3, b4, b5, b6, .i .i64 (fromW w : Nat), b8], []⟩) :
    Run VS (.loop v83l0) ⟨[.s w, .b false, a2, a3, a4, a5, a6, .i .i64 (fromW w : Nat), .i .i64 (fromW w : Nat)], []⟩ Q := by
  have hf : fromW w ≤ w.length := by unfold fromW; split <;> omega
  refine Run.up (fun i st => ∃ i' a5 a6, i' = fromW w + i ∧ dgTo w i' ∧ st = ⟨[.s w, .b false, a2, a3, a4, a5, a6, .i .i64 (fromW w : Nat), .i .i64 (i' : Nat)], []⟩) (w.length - fromW w) ⟨fromW w, _, _, rfl, ⟨fun k h1 h2 => absurd h1 (by omega)⟩, rfl⟩ ?_
  rintro j st hj ⟨i, a5, a6, hij, hd, rfl⟩
  by_cases hlt : i < w.length
  · have hlt' : decide ((i : Int) < (w.length : Int)) = true := by simpa using hlt
    have hno : isD w[i]! = false → false = decide (DecW w) := fun hn => (decide_eq_false fun d => by rw [d.ds i (by omega) hlt] at hn; cases hn).symm
    have hyes : isD w[i]! = true → dgTo w (i + 1) := fun hy => ⟨fun k h1 h2 => by
      by_cases e : k = i
      · subst e; exact hy
      · exact hd.h k h1 (by omega)⟩
    simp only [isD, Bool.and_eq_true, Bool.and_eq_false_iff, decide_eq_true_eq, decide_eq_false_iff_not] at hno hyes
    simp (disch := omega) only [go_sem, v83l0, hlt', wr]
    refine ⟨by omega, fun hc => hq _ _ _ _ _ _ _ (hno (by omega)), fun hc => ⟨by omega, fun hc2 => hq _ _ _ _ _ _ _ (hno (by omega)), fun hc2 => ⟨by omega, ?_, by omega⟩⟩⟩
    rw [show fromW w + (j + 1) = i + 1 by omega]
    exact hyes (by omega)
  · have hil : i = w.length := by omega
    subst hil
    have hlt' : decide ((w.length : Int) < (w.length : Int)) = false := by simp
    simp (disch := omega) only [go_sem, v83l0, hlt']
    exact hq2 ⟨h0, hz, hz2, hd.h⟩ _ _ _ _ _ _
theorem decimal83 {w : List UInt8} (hl : w.length ≤ 1000000) : PRet VS 83 [.s w] (.b (decide (DecW w))) := by
  refine .body (vf := v83) rfl rfl ?_
  by_cases h0 : 0 < w.length
  case neg =>
    have hw : w = [] := List.length_eq_zero_iff.1 (by omega)
    subst hw
    have : decide (DecW []) = false := decide_eq_false fun d => by have := d.ne; simp at this
    rw [this]
    simp (disch := omega) only [go_sem, Nat.reduceSub, Int.reduceLT, v83]
  · have hz0 : decide ((w.length : Int) = 0) = false := decide_eq_false (by omega)
    have i0 : ((0 : Int) ≤ 0 ∧ (0 : Int) < w.length) := by omega
    cases hn : negW w with
    | true =>
      have hf : fromW w = 1 := by unfold fromW; rw [if_pos hn]
      have hn2 := hn
      simp only [negW, Bool.and_eq_true, decide_eq_true_eq] at hn2
      obtain ⟨hn3, hn4⟩ := hn2
      have b1 : decide ((w.length : Int) > 1) = true := decide_eq_true (by omega)
      have b2 : decide ((w[0]!.toNat : Int) = 45) = true := decide_eq_true (by omega)
      by_cases h1 : w[1]!.toNat = 48
      · have b3 : decide ((w[1]!.toNat : Int) = 48) = true := decide_eq_true (by omega)
        have hd : decide (DecW w) = false := decide_eq_false fun d => d.z hn h1
        rw [hd]
        simp (disch := omega) only [go_sem, Nat.reduceSub, Int.reduceLE, v83, b1, b2, b3]
        omega
      · have b3 : decide ((w[1]!.toNat : Int) = 48) = false := decide_eq_false (by omega)
        simp (disch := omega) only [go_sem, Nat.reduceSub, Int.reduceLE, v83, b1, b2, b3, hz0]
        refine ⟨by omega, by omega, by omega, ?_⟩
        have hlp := fun {a2 a3 a4 a5 a6 Q} => dec_loop hl h0 (fun _ => h1) (by rw [hf]; exact fun _ => h1) (a2 := a2) (a3 := a3) (a4 := a4) (a5 := a5) (a6 := a6) (Q := Q)
        simp only [hf] at hlp
        refine hlp (fun b2 b3 b4 b5 b6 b8 r hr => ?_) (fun d b2 b3 b4 b5 b6 b8 => ?_)
        · simp (disch := omega) only [go_sem, hr]
        · simp (disch := omega) only [go_sem, decide_eq_true d]
    | false =>
      have hf : fromW w = 0 := by unfold fromW; rw [if_neg (by rw [hn]; nofun)]
      have hn2 := hn
      simp only [negW, Bool.and_eq_false_iff, decide_eq_false_iff_not] at hn2
      have hz : negW w = true → w[1]!.toNat ≠ 48 := fun h => by rw [hn] at h; cases h
      have hlp := fun {a2 a3 a4 a5 a6 Q} (hz2 : 1 < w.length → w[0]!.toNat ≠ 48) => dec_loop hl h0 hz (by rw [hf]; exact hz2) (a2 := a2) (a3 := a3) (a4 := a4) (a5 := a5) (a6 := a6) (Q := Q)
      simp only [hf] at hlp
      by_cases hl1 : 1 < w.length
      · have b1 : decide ((w.length : Int) > 1) = true := decide_eq_true (by omega)
        have b2 : decide ((w[0]!.toNat : Int) = 45) = false := decide_eq_false (by omega)
        by_cases h1 : w[0]!.toNat = 48
        · have b3 : decide ((w[0]!.toNat : Int) = 48) = true := decide_eq_true (by omega)
          have hd : decide (DecW w) = false := decide_eq_false fun d => by have := d.z2 hl1; rw [hf] at this; exact this h1
          rw [hd]
          simp (disch := omega) only [go_sem, Nat.reduceSub, Int.reduceLE, v83, b1, b2, b3, hz0]
          omega
        · have b3 : decide ((w[0]!.toNat : Int) = 48) = false := decide_eq_false (by omega)
          simp (disch := omega) only [go_sem, Nat.reduceSub, Int.reduceLE, v83, b1, b2, b3, hz0]
          refine ⟨by omega, by omega, ?_⟩
          refine hlp (fun _ => h1) (fun b2 b3 b4 b5 b6 b8 r hr => ?_) (fun d b2 b3 b4 b5 b6 b8 => ?_)
          · simp (disch := omega) only [go_sem, hr]
          · simp (disch := omega) only [go_sem, decide_eq_true d]
      · have b1 : decide ((w.length : Int) > 1) = false := decide_eq_false (by omega)
        simp (disch := omega) only [go_sem, Nat.reduceSub, Int.reduceLE, v83, b1, hz0]
        have fin : ∀ {a2 a3 a4 a5 a6}, Run VS (.loop v83l0) ⟨[.s w, .b false, a2, a3, a4, a5, a6, .i .i64 ((0 : Nat) : Int), .i .i64 ((0 : Nat) : Int)], []⟩ (BlockQ 0 (SeqQ VS ((VCode.reg [⟨.mov (.c (.b true)), some 1, none⟩] none).seq .ret) (ResQ [.s 1] (PurK false fun x => x = PR.ret (.b (decide (DecW w))))))) := fun {a2 a3 a4 a5 a6} => by
          refine hlp (fun h => absurd h hl1) (fun b2 b3 b4 b5 b6 b8 r hr => ?_) (fun d b2 b3 b4 b5 b6 b8 => ?_)
          · simp (disch := omega) only [go_sem, hr]
          · simp (disch := omega) only [go_sem, decide_eq_true d]
        exact ⟨by omega, fun _ => fin, fun _ => fin⟩
theorem c83w {w : List UInt8} (hl : w.length ≤ 1000000) {H : Heap} {K : CR → Prop} : CallQ VS 83 [.s w] H K ↔ K (.ret (.b (decide (DecW w))) H) :=
  (decimal83 hl).c (vf := v83) rfl rfl rfl (.inl rfl)

/-! ### Parse -/
def dv (w : List UInt8) : Nat → Nat
  | 0 => 0
  | i + 1 => if w[i]!.toNat = 45 then dv w i else dv w i * 10 + (w[i]!.toNat - 48)
theorem DecW.dig {w : List UInt8} (h : DecW w) {i : Nat} (hi : i < w.length) (hn : w[i]!.toNat ≠ 45) : 48 ≤ w[i]!.toNat ∧ w[i]!.toNat ≤ 57 := by
  have hd : fromW w ≤ i := by
    unfold fromW
    split
    · rename_i hng
      simp only [negW, Bool.and_eq_true, decide_eq_true_eq] at hng
      rcases Nat.eq_zero_or_pos i with rfl | hp
      · exact absurd hng.2 hn
      · omega
    · omega
  have := h.ds i hd hi
  simpa only [isD, Bool.and_eq_true, decide_eq_true_eq] using this
theorem dv_lt {w : List UInt8} (h : DecW w) : ∀ i : Nat, i ≤ w.length → dv w i < 16 ^ i
  | 0, _ => by simp [dv]
  | i + 1, hi => by
    have ih := dv_lt h i (by omega)
    have hp : 0 < 16 ^ i := Nat.pow_pos (by omega)
    rw [dv, Nat.pow_succ]
    split
    · omega
    · rename_i hn
      have := h.dig (i := i) (by omega) hn
      omega
theorem dv_lenk {w : List UInt8} (h : DecW w) {k : Nat} (hl : w.length ≤ 4 * k) {i : Nat} (hi : i ≤ w.length) : (limbs (dv w i)).length ≤ k := by
  refine limbs_len k _ (Nat.lt_of_lt_of_le (dv_lt h i hi) ?_)
  have : (65536 : Nat) ^ k = 16 ^ (4 * k) := by
    rw [show (65536 : Nat) = 16 ^ 4 from rfl, ← Nat.pow_mul]
  rw [this]
  exact Nat.pow_le_pow_right (by omega) (by omega)
theorem dv_len {w : List UInt8} (h : DecW w) (hl : w.length ≤ 3000) {i : Nat} (hi : i ≤ w.length) : (limbs (dv w i)).length ≤ 750 := dv_lenk h (by omega) hi
def sgnW (w : List UInt8) : Bool := decide (w[0]!.toNat = 45)
theorem trim_d {d : Nat} (h : d < 65536) : trim [d] = limbs d := by
  rw [trim_limbs (fun x hx => by rw [List.mem_singleton.1 hx]; exact h)]
  simp [lval]
theorem c86d {d : Nat} (h : d < 65536) {H : Heap} {K : CR → Prop} : CallQ VS 86 [.sv 1 [[.i .u16 (d : Nat)]]] H K ↔ K (.ret (imU (limbs d)) H) := by
  rw [← trim_d h]
  exact CallQ_p (V := VS) (f := 86) (vf := v86) (ds := [imU [d]]) (H1 := H) rfl rfl (trimU (by simp)) (by simp only [go_sem, Nat.reduceAdd, imU, List.map_cons, List.map_nil, u16R])
theorem c88m {ng : Bool} {x : D} {rows : List (List D)} (h : Sl 1 rows x) {H : Heap} {K : CR → Prop} : CallQ VS 88 [.b ng, x] H K ↔ K (.ret (whD (ng && decide (0 < rows.length)) x) H) :=
  c105 h
theorem c87w {ng : Bool} {x : D} {rows : List (List D)} (h : Sl 1 rows x) (hl : rows.length ≤ 1024) {H : Heap} {K : CR → Prop} : CallQ VS 87 [whD ng x] H K ↔ K (.ret (.tu [whD ng x, .i .i64 0]) H) := by
  have hp : PRet VS 87 [whD ng x] (.tu [whD ng x, .i .i64 0]) := by
    refine .body (vf := v87) rfl rfl ?_
    have b1 : decide ((rows.length : Int) > 1024) = false := decide_eq_false (by omega)
    have fx := fun m H => flat_freeze h.flat m H
    simp (disch := omega) only [go_sem, Nat.reduceAdd, Nat.reduceSub, v87, whD, h.len, b1, fx]
  rw [CallQ_p (V := VS) (f := 87) (vf := v87) (H1 := H) rfl rfl hp (plain_freezeL (by simpa using wh_plain h))]
  exact Iff.rfl
theorem parse49 {w : List UInt8} (hl : w.length ≤ 3000) (hd : DecW w) : PurQ VS 49 [.s w] fun r => ∃ zz, r = .ret (.tu [whD (sgnW w && decide (0 < (limbs (dv w w.length)).length)) zz, .i .i64 0]) ∧ Sl 1 ((limbs (dv w w.length)).map u16R) zz := by
  have e83 := fun {H K} => c83w (w := w) (by omega) (H := H) (K := K)
  rw [decide_eq_true hd] at e83
  refine PurQ.body (vf := v49) rfl rfl ?_
  simp (disch := omega) only [go_sem, Nat.reduceSub, v49, e83]
  refine Run.up (fun i st => ∃ zz a4 a5 Z, Sl 1 ((limbs (dv w i)).map u16R) zz ∧ Z = .bx [.b false, .nil] ∧ st = ⟨[.s w, Z, .i .i64 0, .b false, a4, a5, zz, .i .i64 i], []⟩) w.length ⟨.nil, .u, .u, _, ?_, rfl, rfl⟩ ?_
  · rw [dv, limbs_nil.2 rfl]; exact .nil rfl
  rintro i st hi ⟨zz, a4, a5, Z, hz, hZ, rfl⟩
  have hll := dv_len hd hl hi
  have hb : decide (((limbs (dv w i)).length : Int) ≤ 1024) = true := decide_eq_true (by omega)
  by_cases hlt : i < w.length
  · have hlt' : decide ((i : Int) < (w.length : Int)) = true := by simpa using hlt
    by_cases hm : w[i]!.toNat = 45
    · have hm' : decide ((w[i]!.toNat : Int) = 45) = true := decide_eq_true (by omega)
      have hdv : dv w (i + 1) = dv w i := by rw [dv, if_pos hm]
      simp (disch := omega) only [go_sem, v49l0, hlt', hz.n, hb, hm', wr, hdv]
      exact ⟨by omega, hlt, zz, hz, hZ, rfl⟩
    · have hm' : decide ((w[i]!.toNat : Int) = 45) = false := decide_eq_false (by omega)
      have hdg := hd.dig hlt hm
      have hdv : dv w (i + 1) = dv w i * 10 + (w[i]!.toNat - 48) := by rw [dv, if_neg hm]
      have hll2 := dv_len hd hl (i := i + 1) (by omega)
      rw [hdv] at hll2
      obtain ⟨c, hc⟩ : ∃ c, c = w[i]!.toNat - 48 := ⟨_, rfl⟩
      rw [← hc] at hdv hll2
      have ec : (w[i]!.toNat : Int) - 48 = (c : Nat) := by omega
      have w16 : IntKind.u16.wrap ((c : Nat) : Int) = (c : Nat) := wr16 (by omega) (by omega)
      have e85 := fun {H K} => c85w hz (by omega) (limbs_lim _) (H := H) (K := K)
      rw [limbs_val] at e85
      have hl10 : (limbs (dv w i * 10)).length ≤ 2000 := by
        refine Nat.le_trans (limbs_len ((limbs (dv w i)).length + 1) _ ?_) (by omega)
        have := lval_lt (limbs_lim (dv w i))
        rw [limbs_val] at this
        rw [Nat.pow_succ]
        omega
      have hlc : (limbs c).length ≤ 2000 := Nat.le_trans (limbs_len 1 c (by omega)) (by omega)
      have e86 := fun {H K} => c86d (d := c) (by omega) (H := H) (K := K)
      have e84 := fun {H K} => c84w (a := dv w i * 10) (b := c) (imU_sl _) (imU_sl _) hl10 hlc (H := H) (K := K)
      simp (disch := omega) only [go_sem, Nat.reduceLT, v49l0, hlt', hz.n, hb, hm', wr, wr8, ec, w16, e85, e86, e84, hdv]
      exact ⟨by omega, by omega, hlt, _, uD_sl _, hZ, rfl⟩
  · have hil : i = w.length := by omega
    subst hil
    have hlt' : decide ((w.length : Int) < (w.length : Int)) = false := by simp
    have h0 := hd.ne
    have e88 := fun {H K} => c88m (ng := sgnW w) hz (H := H) (K := K)
    have e87 := fun {ng H K} => c87w (ng := ng) hz (by rw [List.length_map]; omega) (H := H) (K := K)
    have hsg : decide ((w[0]!.toNat : Int) = 45) = sgnW w := by
      unfold sgnW
      by_cases h : w[0]!.toNat = 45
      · rw [decide_eq_true h, decide_eq_true (by omega)]
      · rw [decide_eq_false h, decide_eq_false (by omega)]
    simp only [whD] at e87 e88
    subst hZ
    have fx := fun m H => flat_freeze hz.flat m H
    simp (disch := omega) only [go_sem, Nat.reduceAdd, Int.reduceLE, v49l0, hlt', hsg, e88, e87, fx]
    exact ⟨by omega, _, rfl, hz⟩
theorem parse_no {w : List UInt8} (hl : w.length ≤ 3000) (hd : ¬ DecW w) : PurQ VS 49 [.s w] fun r => r = .ret (.tu [whD false .nil, .i .i64 10]) := by
  have e83 := fun {H K} => c83w (w := w) (by omega) (H := H) (K := K)
  rw [decide_eq_false hd] at e83
  refine PurQ.body (vf := v49) rfl rfl ?_
  simp (disch := omega) only [go_sem, Nat.reduceAdd, Nat.reduceSub, v49, e83, whD]

/-! ### Int -/
def intV (ng : Bool) (V : Nat) : Int × Int :=
  if V < 18446744073709551616 then
    if ng = true then (if V ≤ 9223372036854775808 then (-(V : Int), 0) else (0, 3)) else (if V < 9223372036854775808 then ((V : Int), 0) else (0, 3))
  else (0, 3)
theorem c89v {V : Nat} {x : D} {ng : Bool} (h : Sl 1 ((limbs V).map u16R) x) (hl : (limbs V).length ≤ 1000) (hn : V = 0 → ng = false) {H : Heap} {K : CR → Prop} : CallQ VS 89 [whD ng x] H K ↔ K (.ret (.b true) H) :=
  c103 h hl (limbs_top V) (fun e => hn (limbs_nil.1 e))
theorem lval_drop {l : List Nat} {i : Nat} (hi : i < l.length) : lval (l.drop i) = l[i]! + 65536 * lval (l.drop (i + 1)) := by
  rw [List.drop_eq_getElem_cons hi, lval, getElem!_pos l i hi]
theorem lim_drop {l : List Nat} (h : lim l) (i : Nat) : lim (l.drop i) := fun x hx => h x (List.mem_of_mem_drop hx)
theorem pow_le4 {n : Nat} (h : n ≤ 4) : 65536 ^ n ≤ 18446744073709551616 := by
  have : 65536 ^ n ≤ 65536 ^ 4 := Nat.pow_le_pow_right (by omega) h
  simpa using this
theorem negU {u : Nat} (h : u ≤ 9223372036854775808) : IntKind.i64.wrap (IntKind.u64.wrap (0 - (u : Int))) = -(u : Int) := by
  have e : IntKind.u64.signed = false := rfl
  have e2 : IntKind.u64.bits = 64 := rfl
  have e3 : IntKind.i64.signed = true := rfl
  have e4 : IntKind.i64.bits = 64 := rfl
  simp only [IntKind.wrap, e, e2, e3, e4]
  simp []
  omega
set_option maxRecDepth 100000 in
theorem int50 {V : Nat} {x : D} {ng : Bool} (h : Sl 1 ((limbs V).map u16R) x) (hl : (limbs V).length ≤ 1000) (hn : V = 0 → ng = false) : PRet VS 50 [whD ng x] (.tu [.i .i64 (intV ng V).1, .i .i64 (intV ng V).2]) := by
  have e89 := fun {H K} => c89v h hl hn (H := H) (K := K)
  have hm := limbs_lim V
  simp only [whD] at e89
  refine .body (vf := v50) rfl rfl ?_
  have hV := lval_lt hm
  rw [limbs_val] at hV
  by_cases h4 : (limbs V).length ≤ 4
  · have b1 : decide (((limbs V).length : Int) > 4) = false := decide_eq_false (by omega)
    have hp := pow_le4 h4
    have hV4 : V < 18446744073709551616 := by omega
    simp (disch := omega) only [go_sem, Nat.reduceAdd, Nat.reduceSub, v50, whD, e89, h.n, b1, wr]
    refine Run.up (fun j st => ∃ n a5, n = (limbs V).length - j ∧ st = ⟨[.ag [.b ng, x], .i .i64 0, .i .i64 0, .b false, .b false, a5, .u, .u, .bx [.b ng, x], .i .u64 (lval ((limbs V).drop n) : Nat), .i .i64 ((n : Int) - 1)], []⟩) (limbs V).length ⟨(limbs V).length, .u, rfl, ?_⟩ ?_
    · rw [List.drop_length]; rfl
    rintro j st hj ⟨n, a5, hnj, rfl⟩
    cases n with
    | zero =>
      have hf : decide ((((0 : Nat) : Int) - 1) ≥ 0) = false := rfl
      have e0 : lval ((limbs V).drop 0) = V := limbs_val V
      rw [e0]
      have hVi : V = V := rfl
      cases ng with
      | true =>
        by_cases hc : V ≤ 9223372036854775808
        · have b2 : decide ((V : Int) ≤ 9223372036854775808) = true := decide_eq_true (by omega)
          have hi : intV true V = (-(V : Int), 0) := by unfold intV; rw [if_pos hV4, if_pos rfl, if_pos hc]
          rw [hi]
          have hng := negU hc
          simp (disch := omega) only [go_sem, Nat.reduceAdd, Nat.reduceLeDiff, Int.reduceLE, Int.reduceNeg, Int.reduceSub, v50l0, b2, hng]
        · have b2 : decide ((V : Int) ≤ 9223372036854775808) = false := decide_eq_false (by omega)
          have hi : intV true V = (0, 3) := by unfold intV; rw [if_pos hV4, if_pos rfl, if_neg hc]
          rw [hi]
          simp (disch := omega) only [go_sem, Nat.reduceAdd, Nat.reduceLeDiff, Int.reduceLE, Int.reduceNeg, Int.reduceSub, v50l0, b2]
      | false =>
        by_cases hc : V < 9223372036854775808
        · have b2 : decide ((V : Int) < 9223372036854775808) = true := decide_eq_true (by omega)
          have hi : intV false V = ((V : Int), 0) := by unfold intV; rw [if_pos hV4, if_neg (by nofun), if_pos hc]
          rw [hi]
          simp (disch := omega) only [go_sem, Nat.reduceAdd, Nat.reduceLeDiff, Int.reduceLE, Int.reduceNeg, Int.reduceSub, v50l0, b2, wr]
        · have b2 : decide ((V : Int) < 9223372036854775808) = false := decide_eq_false (by omega)
          have hi : intV false V = (0, 3) := by unfold intV; rw [if_pos hV4, if_neg (by nofun), if_neg hc]
          rw [hi]
          simp (disch := omega) only [go_sem, Nat.reduceAdd, Nat.reduceLeDiff, Int.reduceLE, Int.reduceNeg, Int.reduceSub, v50l0, b2]
    | succ i =>
      have ei : ((i + 1 : Nat) : Int) - 1 = (i : Nat) := by omega
      have hi : i < (limbs V).length := by omega
      have hd := lval_drop hi
      have hdl := lval_lt (lim_drop hm i)
      have hp2 := pow_le4 (n := ((limbs V).drop i).length) (by rw [List.length_drop]; omega)
      have hli : (limbs V)[i]! < 65536 := hm _ (by rw [getElem!_pos _ i hi]; exact List.getElem_mem _)
      have hf : decide (((i : Nat) : Int) ≥ 0) = true := decide_eq_true (by omega)
      obtain ⟨u, hu⟩ : ∃ u, u = lval ((limbs V).drop (i + 1)) := ⟨_, rfl⟩
      rw [← hu] at hd ⊢
      have eu : (u : Int) * 65536 + ((limbs V)[i]! : Nat) = (lval ((limbs V).drop i) : Nat) := by omega
      have hnn : (limbs V).length - (j + 1) = i := by omega
      rw [ei, hnn]
      simp (disch := omega) only [go_sem, Nat.reduceAdd, v50l0, hf, h.q, u16R, wr, wr64, eu]
      omega
  · have b1 : decide (((limbs V).length : Int) > 4) = true := decide_eq_true (by omega)
    have hbig : ¬ V < 18446744073709551616 := fun hc => h4 (limbs_len 4 V hc)
    have hi : intV ng V = (0, 3) := by unfold intV; rw [if_neg hbig]
    rw [hi]
    simp (disch := omega) only [go_sem, Nat.reduceAdd, Nat.reduceSub, v50, whD, e89, h.n, b1]
theorem c50w {V : Nat} {x : D} {ng : Bool} (h : Sl 1 ((limbs V).map u16R) x) (hl : (limbs V).length ≤ 1000) (hn : V = 0 → ng = false) {H : Heap} {K : CR → Prop} : CallQ VS 50 [whD ng x] H K ↔ K (.ret (.tu [.i .i64 (intV ng V).1, .i .i64 (intV ng V).2]) H) :=
  (int50 h hl hn).c (vf := v50) rfl rfl (wh_plain h) (.inl rfl)

/-! ### value -/
noncomputable def valW (w : List UInt8) : Int := if DecW w then (if (intV (sgnW w && decide (0 < (limbs (dv w w.length)).length)) (dv w w.length)).2 = 0 then (intV (sgnW w && decide (0 < (limbs (dv w w.length)).length)) (dv w w.length)).1 else 0) else 0
noncomputable def valL (ws : List (List UInt8)) (i : Nat) : Int := if i < ws.length then valW ws[i]! else 0
theorem value21 {ws : List (List UInt8)} {x : D} (h : Sl 1 (ws.map strRow) x) (hl : ws.length ≤ 1000000) (hw : ∀ w ∈ ws, w.length ≤ 3000) {i : Nat} (hi : i ≤ 1000000) : PRet VS 21 [x, .i .i64 (i : Nat)] (.i .i64 (valL ws i)) := by
  refine .body (vf := v21) rfl rfl ?_
  by_cases hlt : i < ws.length
  case neg =>
    have b1 : decide ((i : Int) ≥ (ws.length : Int)) = true := decide_eq_true (by omega)
    have : valL ws i = 0 := if_neg hlt
    rw [this]
    simp (disch := omega) only [go_sem, Nat.reduceSub, v21, h.n, b1]
  · have b1 : decide ((i : Int) ≥ (ws.length : Int)) = false := decide_eq_false (by omega)
    have hv : valL ws i = valW ws[i]! := if_pos hlt
    have hww : ws[i]!.length ≤ 3000 := hw _ (by rw [getElem!_pos ws i hlt]; exact List.getElem_mem _)
    rw [hv]
    simp (disch := omega) only [go_sem, Nat.reduceSub, v21, h.n, h.q, strRow, b1]
    generalize ws[i]! = w at hww hv
    refine ⟨by omega, ?_⟩
    by_cases hd : DecW w
    · refine CallQ.pl (vf := v49) rfl rfl rfl rfl ((parse49 hww hd).mono ?_)
      rintro r ⟨zz, rfl, hzz⟩
      have hll := dv_len hd hww (i := w.length) (Nat.le_refl _)
      have hn : dv w w.length = 0 → (sgnW w && decide (0 < (limbs (dv w w.length)).length)) = false := fun h0 => by
        rw [h0, limbs_nil.2 rfl]; simp
      have e50 := fun {H K} => c50w hzz (by omega) hn (H := H) (K := K)
      have hval : valW w = if (intV (sgnW w && decide (0 < (limbs (dv w w.length)).length)) (dv w w.length)).2 = 0 then (intV (sgnW w && decide (0 < (limbs (dv w w.length)).length)) (dv w w.length)).1 else 0 := if_pos hd
      rw [hval]
      simp only [whD] at e50
      generalize intV (sgnW w && decide (0 < (limbs (dv w w.length)).length)) (dv w w.length) = q at e50 hval
      generalize (sgnW w && decide (0 < (limbs (dv w w.length)).length)) = ng at e50 hn
      have hc1 := hzz.c1
      by_cases hq : q.2 = 0
      · have b2 : decide (q.2 = 0) = true := decide_eq_true hq
        simp (disch := omega) only [go_sem, Nat.reduceAdd, whD, e50, hq]
      · have b2 : decide (q.2 = 0) = false := decide_eq_false hq
        simp (disch := omega) only [go_sem, Nat.reduceAdd, whD, e50, hq]
    · refine CallQ.pl (vf := v49) rfl rfl rfl rfl ((parse_no hww hd).mono ?_)
      rintro r rfl
      have hval : valW w = 0 := if_neg hd
      have hz0 : Sl 1 ((limbs 0).map u16R) .nil := by rw [limbs_nil.2 rfl]; exact .nil rfl
      have e50 := fun {H K} => c50w hz0 (by rw [limbs_nil.2 rfl]; simp) (fun _ => rfl) (H := H) (K := K)
      rw [hval]
      simp only [whD] at e50
      simp (disch := omega) only [go_sem, Nat.reduceAdd, Int.reduceEq, whD, e50]
theorem c21w {ws : List (List UInt8)} {x : D} (h : Sl 1 (ws.map strRow) x) (hl : ws.length ≤ 1000000) (hw : ∀ w ∈ ws, w.length ≤ 3000) {i : Nat} (hi : i ≤ 1000000) {H : Heap} {K : CR → Prop} : CallQ VS 21 [x, .i .i64 (i : Nat)] H K ↔ K (.ret (.i .i64 (valL ws i)) H) :=
  (value21 h hl hw hi).c (vf := v21) rfl rfl (by simp [h.pl]; rfl) (.inl rfl)
theorem intV_b {ng : Bool} {V : Nat} : -9223372036854775808 ≤ (intV ng V).1 ∧ (intV ng V).1 ≤ 9223372036854775807 := by
  unfold intV
  split
  · split
    · split
      · simp only; omega
      · simp only; omega
    · split
      · simp only; omega
      · simp only; omega
  · simp only; omega
theorem valW_b (w : List UInt8) : -9223372036854775808 ≤ valW w ∧ valW w ≤ 9223372036854775807 := by
  unfold valW
  split
  · split
    · exact intV_b
    · omega
  · omega
theorem valL_b (ws : List (List UInt8)) (i : Nat) : -9223372036854775808 ≤ valL ws i ∧ valL ws i ≤ 9223372036854775807 := by
  unfold valL
  split
  · exact valW_b _
  · omega
end Go.Proofs.YtnhbopeopppojaaGreatDoor.Dv
