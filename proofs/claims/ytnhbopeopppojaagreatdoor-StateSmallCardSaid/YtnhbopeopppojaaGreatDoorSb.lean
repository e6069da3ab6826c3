/-
  The reader of texts.
-/
import Derived.Test.YtnhbopeopppojaaGreatDoorSa
namespace Go.Proofs.YtnhbopeopppojaaGreatDoor.Dv
open Go.Dm Go.Proofs
def isP (p l : List UInt8) : Bool := decide (p.length ≤ l.length) && decide (l.take p.length = p)
def cutS (p l : List UInt8) : List UInt8 := if isP p l then l.drop p.length else l
theorem hasPrefix124 (l p : List UInt8) : PRet VS 121 [.s l, .s p] (.b (isP p l)) := by
  refine .body (vf := v121) rfl rfl ?_
  simp only [go_sem, Nat.reduceSub, v121, isP]
  grind
@[go_sem] theorem c124 {l p : List UInt8} {H : Heap} {K : CR → Prop} : CallQ VS 121 [.s l, .s p] H K ↔ K (.ret (.b (isP p l)) H) :=
  (hasPrefix124 l p).c (vf := v121) rfl rfl rfl (.inl rfl)
theorem cutPrefix114 (l p : List UInt8) : PRet VS 113 [.s l, .s p] (.tu [.s (cutS p l), .b (isP p l)]) := by
  refine .body (vf := v113) rfl rfl ?_
  simp only [go_sem, Nat.reduceAdd, Nat.reduceSub, v113, cutS]
  refine ⟨fun h => by simp [h], fun h => ?_⟩
  have : p.length ≤ l.length := by simp only [isP, Bool.and_eq_true, decide_eq_true_eq] at h; exact h.1
  simp [h]
  omega
@[go_sem] theorem c114 {l p : List UInt8} {H : Heap} {K : CR → Prop} : CallQ VS 113 [.s l, .s p] H K ↔ K (.ret (.tu [.s (cutS p l), .b (isP p l)]) H) :=
  CallQ_p (vf := v113) rfl rfl (cutPrefix114 l p) (by simp only [go_sem, Nat.reduceAdd])
theorem cutPrefix101 (l p : List UInt8) : PRet VS 103 [.s l, .s p] (.tu [.s (cutS p l), .b (isP p l)]) := by
  refine .body (vf := v103) rfl rfl ?_
  simp only [go_sem, Nat.reduceAdd, Nat.reduceSub, v103]
@[go_sem] theorem c101 {l p : List UInt8} {H : Heap} {K : CR → Prop} : CallQ VS 103 [.s l, .s p] H K ↔ K (.ret (.tu [.s (cutS p l), .b (isP p l)]) H) :=
  CallQ_p (vf := v103) rfl rfl (cutPrefix101 l p) (by simp only [go_sem, Nat.reduceAdd])
@[go_sem] theorem bH_g2 {a b c : Blk} {H0 : Heap} {w : Nat} {rows : List (List D)} : (bH (a :: b :: c :: H0) w rows)[2]? = some c := by cases rows <;> rfl
@[go_sem] theorem bH_set2 {a b c x : Blk} {H0 : Heap} {w : Nat} {rows : List (List D)} : (bH (a :: b :: c :: H0) w rows).set 2 x = bH (a :: b :: x :: H0) w rows := by cases rows <;> rfl
variable {A B : Blk} {w : Nat} {rows : List (List D)}
abbrev Hr (A B : Blk) (w : Nat) (rows : List (List D)) (r : List UInt8) : Heap := bH [A, B, .hb 101 [.s r]] w rows
@[go_sem] theorem c89 {p r : List UInt8} {K : CR → Prop} : CallQ VS 80 [.hp 2 0, .s p] (Hr A B w rows r) K ↔ K (.ret (.b (isP p r)) (Hr A B w rows (cutS p r))) := by
  refine CallQ_ret (Ret.iff_q.2 (.body (vf := v80) rfl rfl rfl ?_))
  simp only [go_sem, Nat.reduceSub, v80]
def errF : D := .ifc 131 (.ag [])
def RdR (A B : Blk) (w : Nat) (rows : List (List D)) (f : Int → D) (q : Option Int × List UInt8) : CR := match q.1 with
  | some n => .ret (f n) (Hr A B w rows q.2)
  | none => .pan errF (Hr A B w rows q.2)
@[go_sem] theorem RdR_s {f : Int → D} {n : Int} {r : List UInt8} : RdR A B w rows f (some n, r) = .ret (f n) (Hr A B w rows r) := rfl
@[go_sem] theorem RdR_n {f : Int → D} {r : List UInt8} : RdR A B w rows f (none, r) = .pan errF (Hr A B w rows r) := rfl
def wantF (p r : List UInt8) : Option Int × List UInt8 := if isP p r then (some 0, r.drop p.length) else (none, r)
theorem CallQ_det {V : VProg} {f : FuncId} {args : List D} {H : Heap} {r : CR} (h : CallQ V f args H (· = r)) {K : CR → Prop} : CallQ V f args H K ↔ K r := by
  obtain ⟨n, h1, h2⟩ := h
  constructor
  · rintro ⟨m, h3, h4⟩
    have e1 := call_up (Nat.le_max_left n m) h1
    have e2 := call_up (Nat.le_max_right n m) h3
    rw [e1] at e2
    rw [← h2, e2]; exact h4
  · intro hk
    exact ⟨n, h1, by rw [h2]; exact hk⟩
theorem c91 {p r : List UInt8} {K : CR → Prop} : CallQ VS 82 [.hp 2 0, .s p] (Hr A B w rows r) K ↔ K (RdR A B w rows (fun _ => .tu []) (wantF p r)) := by
  refine CallQ_det (.body (vf := v82) rfl rfl rfl ?_)
  simp only [go_sem, Nat.reduceSub, v82, wantF]
  refine ⟨fun h => ?_, fun h => ?_⟩
  · simp [h, cutS, errF, RdR]
  · simp [h, cutS, oneOr, RdR]
def isD (c : UInt8) : Bool := decide (48 ≤ c.toNat) && decide (c.toNat ≤ 57)
def dval (l : List UInt8) : Nat := l.foldl (fun n c => 10 * n + (c.toNat - 48)) 0
theorem dval_snoc (l : List UInt8) (c : UInt8) : dval (l ++ [c]) = 10 * dval l + (c.toNat - 48) := by simp [dval]
theorem dval_take {l : List UInt8} {i : Nat} (hi : i < l.length) : dval (l.take (i + 1)) = 10 * dval (l.take i) + (l[i]!.toNat - 48) := by
  rw [List.take_succ_eq_append_getElem hi, dval_snoc, getElem!_pos l i hi]
theorem dval_mono (l : List UInt8) (i : Nat) : ∀ (k : Nat), i + k ≤ l.length → dval (l.take i) ≤ dval (l.take (i + k))
  | 0, _ => Nat.le_refl _
  | k + 1, h => by
    have := dval_mono l i k (by omega)
    rw [← Nat.add_assoc, dval_take (l := l) (i := i + k) (by omega)]
    omega
theorem dval_le {l : List UInt8} {i : Nat} (h : i ≤ l.length) : dval (l.take i) ≤ dval l := by
  have := dval_mono l i (l.length - i) (by omega)
  rwa [show i + (l.length - i) = l.length by omega, List.take_length] at this
theorem tw_lt {p : UInt8 → Bool} : ∀ {l : List UInt8} {i : Nat}, i ≤ (l.takeWhile p).length → (i < (l.takeWhile p).length ↔ i < l.length ∧ p l[i]! = true)
  | [], i, h => by simp
  | c :: l, i, h => by
    by_cases hc : p c = true
    · rw [List.takeWhile_cons_of_pos hc] at h ⊢
      cases i with
      | zero => simp [hc]
      | succ i =>
        have := tw_lt (p := p) (l := l) (i := i) (by simpa using h)
        simpa using this
    · rw [List.takeWhile_cons_of_neg hc] at h ⊢
      have : i = 0 := by simpa using h
      subst this
      simp [hc]
theorem tw_take {p : UInt8 → Bool} {l : List UInt8} : l.takeWhile p = l.take (l.takeWhile p).length := by
  induction l with
  | nil => rfl
  | cons c l ih =>
    by_cases hc : p c = true
    · rw [List.takeWhile_cons_of_pos hc, List.length_cons, List.take_succ_cons, ← ih]
    · rw [List.takeWhile_cons_of_neg hc]; rfl
def numF (p r : List UInt8) : Option Int × List UInt8 :=
  if isP p r then
    let r2 := cutS [45] (r.drop p.length)
    let ds := r2.takeWhile isD
    if ds.length = 0 ∨ 9007199254740992 < dval ds then (none, r2) else (some (if isP [45] (r.drop p.length) then -(dval ds : Int) else dval ds), r2.drop ds.length)
  else (none, r)
theorem wr8 {x : Int} (h1 : 0 ≤ x) (h2 : x < 256) : IntKind.u8.wrap x = x := by
  have e : IntKind.u8.signed = false := rfl
  have e2 : IntKind.u8.bits = 8 := rfl
  simp only [IntKind.wrap, e, e2, Bool.false_and, Bool.false_eq_true, if_false]
  omega
theorem c88 {p r : List UInt8} (hl : r.length ≤ 1000000) {K : CR → Prop} : CallQ VS 79 [.hp 2 0, .s p] (Hr A B w rows r) K ↔ K (RdR A B w rows (.i .i64) (numF p r)) := by
  refine CallQ_det (.body (vf := v79) rfl rfl rfl ?_)
  simp only [go_sem, Nat.reduceSub, Int.reduceNeg, v79, c91]
  by_cases hp : isP p r = true
  case neg =>
    have e1 : wantF p r = (none, r) := by simp [wantF, hp]
    have e2 : numF p r = (none, r) := by simp [numF, hp]
    simp only [go_sem, Int.reduceNeg, e1, e2, errF]
  have e1 : wantF p r = (some 0, r.drop p.length) := by simp [wantF, hp]
  simp only [go_sem, Int.reduceNeg, e1]
  have e2 : numF p r = (let r2 := cutS [45] (r.drop p.length); let ds := r2.takeWhile isD; if ds.length = 0 ∨ 9007199254740992 < dval ds then (none, r2) else (some (if isP [45] (r.drop p.length) then -(dval ds : Int) else dval ds), r2.drop ds.length)) := by simp [numF, hp]
  rw [e2]
  have hl2 : (cutS [45] (r.drop p.length)).length ≤ 1000000 := by
    unfold cutS; split <;> simp <;> omega
  generalize cutS [45] (r.drop p.length) = r2 at hl2
  generalize isP [45] (r.drop p.length) = ng
  simp only []
  have htw := @tw_take isD r2
  have hlt := fun i h => @tw_lt isD r2 i h
  have hle : (r2.takeWhile isD).length ≤ r2.length := (List.takeWhile_prefix _).length_le
  generalize hds : r2.takeWhile isD = ds at htw hlt hle
  obtain ⟨R, hR⟩ : ∃ R, R = RdR A B w rows (.i .i64) (if ds.length = 0 ∨ 9007199254740992 < dval ds then (none, r2) else (some (if ng = true then -(dval ds : Int) else dval ds), r2.drop ds.length)) := ⟨_, rfl⟩
  have hR1 : ds.length = 0 ∨ 9007199254740992 < dval ds → R = .pan (.ifc 131 (.ag [])) (Hr A B w rows r2) := fun h => by rw [hR, if_pos h]; rfl
  have hR2 : ¬ (ds.length = 0 ∨ 9007199254740992 < dval ds) → R = .ret (.i .i64 (if ng = true then -(dval ds : Int) else dval ds)) (Hr A B w rows (r2.drop ds.length)) := fun h => by rw [hR, if_neg h]; rfl
  rw [← hR]
  clear hR
  refine ⟨fun hng => ?_, fun hng => ?_⟩
  · subst hng
    generalize hsg : (-1 : Int) = sg
    generalize D.b true = zb
    refine Run.up (fun i st => (i ≤ ds.length ∧ dval (ds.take i) ≤ 9007199254740992) ∧ ∃ a4 a5 a6, st = ⟨[.hp 2 0, .s p, .i .i64 0, zb, a4, a5, a6, .i .i64 sg, .i .i64 (dval (ds.take i)), .i .i64 i], Hr A B w rows r2⟩) ds.length ⟨⟨by omega, by simp [dval]⟩, .u, .u, .u, by simp [dval]⟩ ?_
    rintro i st hi ⟨⟨hi1, hi2⟩, a4, a5, a6, rfl⟩
    by_cases hd : i < ds.length
    · obtain ⟨d1, d2⟩ := (hlt i hi1).1 hd
      simp only [isD, Bool.and_eq_true, decide_eq_true_eq] at d2
      have e1 : decide ((i : Int) < (r2.length : Int)) = true := decide_eq_true (by omega)
      have e2 : decide ((48 : Int) ≤ (r2[i]!.toNat : Int)) = true := decide_eq_true (by omega)
      have e3 : decide ((r2[i]!.toNat : Int) ≤ 57) = true := decide_eq_true (by omega)
      have e4 : ds[i]! = r2[i]! := by
        rw [getElem!_pos ds i hd, getElem!_pos r2 i d1]
        exact (List.getElem_of_eq htw hd).trans List.getElem_take
      have e5 := dval_take hd
      have e6 := dval_le (l := ds) (i := i + 1) (by omega)
      rw [e4] at e5
      simp (disch := omega) only [go_sem, v79l0, e1, e2, e3, wr, wr8]
      refine ⟨⟨by omega, by omega⟩, ⟨by omega, by omega⟩, ⟨by omega, by omega⟩, fun ho => ?_, fun ho => ⟨hd, ⟨by omega, by omega⟩, by omega⟩⟩
      exact (hR1 (.inr (by omega))).symm
    · have hil : i = ds.length := by omega
      subst hil
      rw [List.take_length] at hi2 ⊢
      have e1 : (ds.length < r2.length → isD r2[ds.length]! = false) := fun h => by
        have := hlt ds.length (Nat.le_refl _)
        cases hc : isD r2[ds.length]! with
        | false => rfl
        | true => exact absurd (this.2 ⟨h, hc⟩) (by omega)
      simp only [isD] at e1
      simp (disch := omega) only [go_sem, v79l0, wr]
      have f1 : (ds.length : Int) = 0 → CR.pan (.ifc 131 (.ag [])) (Hr A B w rows r2) = R := fun h => (hR1 (.inl (by omega))).symm
      have f2 : ¬ (ds.length : Int) = 0 → (0 ≤ (ds.length : Int) ∧ (ds.length : Int) ≤ r2.length) ∧ CR.ret (.i .i64 (IntKind.i64.wrap (sg * (dval ds : Int)))) (bH [A, B, .hb 101 [.s (r2.drop ds.length)]] w rows) = R := fun h => ⟨⟨by omega, by omega⟩, by
        rw [hR2 (by omega), ← hsg, wr (by omega) (by omega)]
        simp⟩
      refine ⟨fun h1 => ⟨⟨by omega, by omega⟩, fun h2 => ⟨⟨by omega, by omega⟩, fun h3 => ?_, fun h3 => ⟨f1, f2⟩⟩, fun h2 => ⟨f1, f2⟩⟩, fun h1 => ⟨f1, f2⟩⟩
      exfalso
      have := e1 (by omega)
      rw [decide_eq_true (by omega), decide_eq_true (by omega)] at this
      cases this
  · subst hng
    generalize hsg : (1 : Int) = sg
    generalize D.b false = zb
    refine Run.up (fun i st => (i ≤ ds.length ∧ dval (ds.take i) ≤ 9007199254740992) ∧ ∃ a4 a5 a6, st = ⟨[.hp 2 0, .s p, .i .i64 0, zb, a4, a5, a6, .i .i64 sg, .i .i64 (dval (ds.take i)), .i .i64 i], Hr A B w rows r2⟩) ds.length ⟨⟨by omega, by simp [dval]⟩, .u, .u, .u, by simp [dval]⟩ ?_
    rintro i st hi ⟨⟨hi1, hi2⟩, a4, a5, a6, rfl⟩
    by_cases hd : i < ds.length
    · obtain ⟨d1, d2⟩ := (hlt i hi1).1 hd
      simp only [isD, Bool.and_eq_true, decide_eq_true_eq] at d2
      have e1 : decide ((i : Int) < (r2.length : Int)) = true := decide_eq_true (by omega)
      have e2 : decide ((48 : Int) ≤ (r2[i]!.toNat : Int)) = true := decide_eq_true (by omega)
      have e3 : decide ((r2[i]!.toNat : Int) ≤ 57) = true := decide_eq_true (by omega)
      have e4 : ds[i]! = r2[i]! := by
        rw [getElem!_pos ds i hd, getElem!_pos r2 i d1]
        exact (List.getElem_of_eq htw hd).trans List.getElem_take
      have e5 := dval_take hd
      have e6 := dval_le (l := ds) (i := i + 1) (by omega)
      rw [e4] at e5
      simp (disch := omega) only [go_sem, v79l0, e1, e2, e3, wr, wr8]
      refine ⟨⟨by omega, by omega⟩, ⟨by omega, by omega⟩, ⟨by omega, by omega⟩, fun ho => ?_, fun ho => ⟨hd, ⟨by omega, by omega⟩, by omega⟩⟩
      exact (hR1 (.inr (by omega))).symm
    · have hil : i = ds.length := by omega
      subst hil
      rw [List.take_length] at hi2 ⊢
      have e1 : (ds.length < r2.length → isD r2[ds.length]! = false) := fun h => by
        have := hlt ds.length (Nat.le_refl _)
        cases hc : isD r2[ds.length]! with
        | false => rfl
        | true => exact absurd (this.2 ⟨h, hc⟩) (by omega)
      simp only [isD] at e1
      simp (disch := omega) only [go_sem, v79l0, wr]
      have f1 : (ds.length : Int) = 0 → CR.pan (.ifc 131 (.ag [])) (Hr A B w rows r2) = R := fun h => (hR1 (.inl (by omega))).symm
      have f2 : ¬ (ds.length : Int) = 0 → (0 ≤ (ds.length : Int) ∧ (ds.length : Int) ≤ r2.length) ∧ CR.ret (.i .i64 (IntKind.i64.wrap (sg * (dval ds : Int)))) (bH [A, B, .hb 101 [.s (r2.drop ds.length)]] w rows) = R := fun h => ⟨⟨by omega, by omega⟩, by
        rw [hR2 (by omega), ← hsg, wr (by omega) (by omega)]
        simp⟩
      refine ⟨fun h1 => ⟨⟨by omega, by omega⟩, fun h2 => ⟨⟨by omega, by omega⟩, fun h3 => ?_, fun h3 => ⟨f1, f2⟩⟩, fun h2 => ⟨f1, f2⟩⟩, fun h1 => ⟨f1, f2⟩⟩
      exfalso
      have := e1 (by omega)
      rw [decide_eq_true (by omega), decide_eq_true (by omega)] at this
      cases this
open Go.Dm Go.Proofs
theorem cutS_len {p r : List UInt8} : (cutS p r).length ≤ r.length := by unfold cutS; split <;> simp
theorem numF_len {p r : List UInt8} : (numF p r).2.length ≤ r.length := by
  unfold numF
  split
  · have := @cutS_len [45] (r.drop p.length)
    simp only [List.length_drop] at this
    simp only []
    split
    · simp only; omega
    · simp only [List.length_drop]; omega
  · exact Nat.le_refl _
theorem numF_b {p r r' : List UInt8} {n : Int} (h : numF p r = (some n, r')) : -9007199254740992 ≤ n ∧ n ≤ 9007199254740992 := by
  unfold numF at h
  split at h
  · simp only [] at h
    split at h
    · cases h
    · rename_i hc
      simp only [Prod.mk.injEq, Option.some.injEq] at h
      obtain ⟨h, _⟩ := h
      split at h <;> omega
  · cases h
def thn {α : Type} (q : Option Int × List UInt8) (f : Int → List UInt8 → Option α × List UInt8) : Option α × List UInt8 := match q with
  | (some n, r) => f n r
  | (none, r) => (none, r)
theorem thn_s {α : Type} {n : Int} {r : List UInt8} {f : Int → List UInt8 → Option α × List UInt8} : thn (some n, r) f = f n r := rfl
theorem thn_n {α : Type} {r : List UInt8} {f : Int → List UInt8 → Option α × List UInt8} : thn (none, r) f = (none, r) := rfl
def monF (r : List UInt8) : Option Int × List UInt8 := thn (numF [] r) fun y r1 => thn (numF [45] r1) fun m r2 => if isY y = true ∧ 1 ≤ m ∧ m ≤ 12 then (some (12 * (y - 1900) + m - 1), r2) else (none, r2)
variable {A B : Blk} {w : Nat} {rows : List (List D)}
theorem c90 {r : List UInt8} (hl : r.length ≤ 1000000) {K : CR → Prop} : CallQ VS 81 [.hp 2 0] (Hr A B w rows r) K ↔ K (RdR A B w rows (.i .i64) (monF r)) := by
  refine CallQ_det (.body (vf := v81) rfl rfl rfl ?_)
  have c1 : ∀ {K : CR → Prop}, _ := fun {K} => c88 (A := A) (B := B) (w := w) (rows := rows) (p := []) (r := r) hl (K := K)
  simp only [go_sem, Nat.reduceSub, v81, c1, monF]
  rcases h1 : numF [] r with ⟨_ | y, r1⟩
  · simp only [go_sem, thn_n, errF]
  have hl1 : r1.length ≤ 1000000 := by have := @numF_len [] r; rw [h1] at this; simp only at this; omega
  have c2 : ∀ {K : CR → Prop}, _ := fun {K} => c88 (A := A) (B := B) (w := w) (rows := rows) (p := [45]) (r := r1) hl1 (K := K)
  simp only [go_sem, thn_s, c2]
  rcases h2 : numF [45] r1 with ⟨_ | m, r2⟩
  · simp only [go_sem, thn_n, errF]
  have b1 := numF_b h1
  have b2 := numF_b h2
  simp (disch := omega) only [go_sem, thn_s]
  cases hy : isY y with
  | false =>
    rw [if_neg (by simp)]
    simp only [go_sem, reduceCtorEq, errF]
  | true =>
    have hyb := hy
    simp only [isY, Bool.and_eq_true, decide_eq_true_eq] at hyb
    simp (disch := omega) only [go_sem, wr]
    refine ⟨fun hm => ?_, fun hm => ⟨fun hm2 => ?_, fun hm2 => ?_⟩⟩
    · rw [if_neg (by omega)]; rfl
    · rw [if_neg (by omega)]; rfl
    · rw [if_pos (by omega)]; rfl
def kS : List UInt8 := [115, 116, 97, 116, 101, 109, 101, 110, 116, 32]
def kB : List UInt8 := [10, 98, 101, 102, 111, 114, 101, 32]
def kM : List UInt8 := [10, 109, 111, 110, 116, 104, 32]
def kD : List UInt8 := [32, 100, 117, 101, 32]
def kP : List UInt8 := [32, 112, 111, 115, 116, 101, 100, 32]
def kO : List UInt8 := [32, 111, 112, 101, 110, 32]
def kG : List UInt8 := [10, 103, 114, 111, 115, 115, 32]
def kT : List UInt8 := [32, 116, 97, 120, 32]
def kN : List UInt8 := [32, 110, 101, 116, 32]
def kI : List UInt8 := [32, 105, 110, 116, 101, 114, 101, 115, 116, 32]
def kA : List UInt8 := [10, 97, 102, 116, 101, 114, 32]
def lnF (r : List UInt8) : Option Ln × List UInt8 := thn (monF r) fun m r => thn (numF kD r) fun d r => thn (numF kP r) fun p r => thn (numF kO r) fun o r => (some ⟨m, d, p, o⟩, r)
def msF : Nat → List Ln → List UInt8 → Option (List Ln) × List UInt8
  | 0, acc, r => if isP kM r then (none, cutS kM r) else (some acc, r)
  | n + 1, acc, r => if isP kM r then (match lnF (cutS kM r) with
    | (some x, r') => msF n (acc ++ [x]) r'
    | (none, r') => (none, r')) else (some acc, r)
def stF (r : List UInt8) : Option Stm × List UInt8 := thn (numF kS r) fun y r => thn (numF kB r) fun b r => match msF 12 [] r with
  | (some ls, r) => thn (numF kG r) fun g r => thn (numF kT r) fun t r => thn (numF kN r) fun n r => thn (numF kI r) fun i r => thn (numF kA r) fun a r => thn (wantF [10] r) fun _ r => (some ⟨y, b, a, ls, g, t, n, i⟩, r)
  | (none, r) => (none, r)
def lD (l : List Ln) : D := bD [.no, .no, .no] .nil (l.map lnR)
@[go_sem] theorem lD_nil : lD [] = .nil := rfl
theorem lD_cells {l : List Ln} : (lD l).cellsN 1 = some [lD l] := bD_c1 rfl
theorem lD_len {l : List Ln} {H : Heap} : lenD H 1 (lD l) = some (.i .i64 l.length) := bD_ln
theorem lD_app {C : Blk} {l : List Ln} {x : Ln} (h : l.length ≤ 1000) : appD (bH [A, B, C] 4 (l.map lnR)) (lD l) (.sv 4 [[.i .i64 x.m, .i .i64 x.d, .i .i64 x.p, .i .i64 x.o]]) 4 32 true = some (lD (l ++ [x]), bH [A, B, C] 4 ((l ++ [x]).map lnR)) := by
  have e : ∀ l : List Ln, lD l = bD [A, B, C] .nil (l.map lnR) := fun l => by cases l <;> rfl
  rw [e, e, app_n (by omega) (by omega), List.map_append]
  rfl
def StQ (A B : Blk) (q : Option Stm × List UInt8) (c : CR) : Prop := match q with
  | (some s, r) => c = .ret (stD s (lD s.ls)) (Hr A B 4 (s.ls.map lnR) r)
  | (none, _) => ∃ rows r, c = .pan errF (Hr A B 4 rows r)
theorem thn_len {α : Type} (q : Option Int × List UInt8) (f : Int → List UInt8 → Option α × List UInt8) (n : Nat) (h1 : q.2.length ≤ n) (h2 : ∀ i r, r.length ≤ n → (f i r).2.length ≤ n) : (thn q f).2.length ≤ n := by
  rcases q with ⟨_ | i, r⟩
  · exact h1
  · exact h2 i r h1
theorem monF_len {r : List UInt8} : (monF r).2.length ≤ r.length :=
  thn_len _ _ _ numF_len fun i r h => thn_len _ _ _ (Nat.le_trans numF_len h) fun i r h => by split <;> exact h
theorem st77 {r0 : List UInt8} (hl : r0.length ≤ 1000000) : CallQ VS 48 [.hp 2 0] (Hr A B 4 [] r0) (StQ A B (stF r0)) := by
  refine .body (vf := v48) rfl rfl rfl ?_
  have cN : ∀ (p r : List UInt8) (rows : List (List D)) {K : CR → Prop}, r.length ≤ 1000000 → (CallQ VS 79 [.hp 2 0, .s p] (Hr A B 4 rows r) K ↔ K (RdR A B 4 rows (.i .i64) (numF p r))) := fun p r rows {K} h => c88 h
  have nl : ∀ p r {q r'}, numF p r = (q, r') → r.length ≤ 1000000 → r'.length ≤ 1000000 := fun p r {q r'} h h' => by
    have := @numF_len p r
    rw [h] at this
    simp only at this
    omega
  have monL : ∀ {r q r'}, monF r = (q, r') → r.length ≤ 1000000 → r'.length ≤ 1000000 := fun {r q r'} h h' => by
    have := @monF_len r
    rw [h] at this
    simp only at this
    omega
  have pan : ∀ {rows r r'}, stF r0 = (none, r') → StQ A B (stF r0) (.pan (.ifc 131 (.ag [])) (Hr A B 4 rows r)) := fun {rows r r'} h => by rw [h]; exact ⟨rows, r, rfl⟩
  have est : stF r0 = stF r0 := rfl
  conv at est => rhs; unfold stF
  simp only [kS, kB, kG, kT, kN, kI, kA] at est
  generalize stF r0 = Z at est pan
  simp (disch := omega) only [go_sem, Nat.reduceSub, v48, cN]
  rcases h1 : numF [115, 116, 97, 116, 101, 109, 101, 110, 116, 32] r0 with ⟨_ | y, r1⟩
  · simp only [h1, thn_n] at est
    simp only [go_sem, errF]
    exact pan est
  have l1 := nl _ _ h1 hl
  simp only [h1, thn_s] at est
  simp (disch := omega) only [go_sem, Nat.reduceAdd, Nat.reduceLeDiff, cN]
  rcases h2 : numF [10, 98, 101, 102, 111, 114, 101, 32] r1 with ⟨_ | b, r2⟩
  · simp only [h2, thn_n] at est
    simp only [go_sem, errF]
    exact pan est
  have l2 := nl _ _ h2 l1
  simp only [h2, thn_s] at est
  simp (disch := omega) only [go_sem, Nat.reduceAdd, Nat.reduceLeDiff]
  generalize hZ0 : D.bx [D.i .i64 0, D.i .i64 0, D.i .i64 0, D.nil, D.i .i64 0, D.i .i64 0, D.i .i64 0, D.i .i64 0] = Z0
  refine Run.loop (fun k st => ∃ acc r a2 a3 a5, k = 12 - acc.length ∧ acc.length ≤ 12 ∧ r.length ≤ 1000000 ∧ msF k acc r = msF 12 [] r2 ∧ st = ⟨[.hp 2 0, Z0, a2, a3, .bx [.i .i64 y, .i .i64 b, .i .i64 0, lD acc, .i .i64 0, .i .i64 0, .i .i64 0, .i .i64 0], a5], Hr A B 4 (acc.map lnR) r⟩) 12 ⟨[], r2, .u, .u, .u, rfl, by simp, l2, rfl, rfl⟩ ?_
  rintro k st ⟨acc, r, a2, a3, a5, rfl, hacc, hr, hms, rfl⟩
  cases hm : isP [10, 109, 111, 110, 116, 104, 32] r with
  | true =>
    by_cases h12 : acc.length = 12
    · have hms2 : msF 12 [] r2 = (none, cutS kM r) := by rw [← hms, h12]; simp [msF, kM, hm]
      have e12 : decide ((acc.length : Int) = 12) = true := decide_eq_true (by omega)
      rw [hms2] at est
      simp only [go_sem, Nat.reduceAdd, Nat.reduceLeDiff, v48l0, hm, lD_len, e12]
      exact pan est
    · have e12 : decide ((acc.length : Int) = 12) = false := decide_eq_false (by omega)
      have lc := @cutS_len [10, 109, 111, 110, 116, 104, 32] r
      have c9 : ∀ {K : CR → Prop}, _ := fun {K} => c90 (A := A) (B := B) (w := 4) (rows := acc.map lnR) (r := cutS [10, 109, 111, 110, 116, 104, 32] r) (by omega) (K := K)
      obtain ⟨k, hk⟩ : ∃ k, 12 - acc.length = k + 1 := ⟨11 - acc.length, by omega⟩
      have hms2 : msF (12 - acc.length) acc r = (match lnF (cutS kM r) with
        | (some x, r') => msF k (acc ++ [x]) r'
        | (none, r') => (none, r')) := by rw [hk]; simp only [msF, kM, hm, if_true]
      simp (disch := omega) only [go_sem, Nat.reduceAdd, Nat.reduceLeDiff, v48l0, hm, lD_len, e12, c9]
      simp only [lnF, kM, kD, kP, kO] at hms2
      rcases hq0 : monF (cutS [10, 109, 111, 110, 116, 104, 32] r) with ⟨_ | m, q0⟩
      · simp only [hq0, thn_n] at hms2
        rw [← hms, hms2] at est
        simp only [go_sem, errF]
        exact pan est
      have lq0 := monL hq0 (by omega)
      simp only [hq0, thn_s] at hms2
      simp (disch := omega) only [go_sem, Nat.reduceAdd, Nat.reduceLeDiff, cN]
      rcases hq1 : numF [32, 100, 117, 101, 32] q0 with ⟨_ | d, q1⟩
      · simp only [hq1, thn_n] at hms2
        rw [← hms, hms2] at est
        simp only [go_sem, errF]
        exact pan est
      have lq1 := nl _ _ hq1 lq0
      simp only [hq1, thn_s] at hms2
      simp (disch := omega) only [go_sem, Nat.reduceAdd, Nat.reduceLeDiff, cN]
      rcases hq2 : numF [32, 112, 111, 115, 116, 101, 100, 32] q1 with ⟨_ | p, q2⟩
      · simp only [hq2, thn_n] at hms2
        rw [← hms, hms2] at est
        simp only [go_sem, errF]
        exact pan est
      have lq2 := nl _ _ hq2 lq1
      simp only [hq2, thn_s] at hms2
      simp (disch := omega) only [go_sem, Nat.reduceAdd, Nat.reduceLeDiff, cN]
      rcases hq3 : numF [32, 111, 112, 101, 110, 32] q2 with ⟨_ | o, q3⟩
      · simp only [hq3, thn_n] at hms2
        rw [← hms, hms2] at est
        simp only [go_sem, errF]
        exact pan est
      have lq3 := nl _ _ hq3 lq2
      simp only [hq3, thn_s] at hms2
      simp (disch := omega) only [go_sem, Nat.reduceAdd, Nat.reduceLeDiff, Nat.reduceLT, lD_cells, lD_app (x := ⟨m, d, p, o⟩)]
      exact ⟨k, by omega, acc ++ [⟨m, d, p, o⟩], by simp; omega, by simp; omega, q3, lq3, by rw [← hms2, hms], rfl, rfl⟩
  | false =>
    have hms2 : msF 12 [] r2 = (some acc, r) := by rw [← hms]; cases 12 - acc.length <;> simp [msF, kM, hm]
    have hcut : cutS [10, 109, 111, 110, 116, 104, 32] r = r := by simp [cutS, hm]
    rw [hms2] at est
    simp only [] at est
    simp (disch := omega) only [go_sem, v48l0, hm, hcut, cN]
    rcases ht1 : numF [10, 103, 114, 111, 115, 115, 32] r with ⟨_ | g, t1⟩
    · simp only [ht1, thn_n] at est
      simp only [go_sem, errF]
      exact pan est
    have lt1 := nl _ _ ht1 hr
    simp only [ht1, thn_s] at est
    simp (disch := omega) only [go_sem, Nat.reduceAdd, Nat.reduceLeDiff, cN]
    rcases ht2 : numF [32, 116, 97, 120, 32] t1 with ⟨_ | t, t2⟩
    · simp only [ht2, thn_n] at est
      simp only [go_sem, errF]
      exact pan est
    have lt2 := nl _ _ ht2 lt1
    simp only [ht2, thn_s] at est
    simp (disch := omega) only [go_sem, Nat.reduceAdd, Nat.reduceLeDiff, cN]
    rcases ht3 : numF [32, 110, 101, 116, 32] t2 with ⟨_ | n, t3⟩
    · simp only [ht3, thn_n] at est
      simp only [go_sem, errF]
      exact pan est
    have lt3 := nl _ _ ht3 lt2
    simp only [ht3, thn_s] at est
    simp (disch := omega) only [go_sem, Nat.reduceAdd, Nat.reduceLeDiff, cN]
    rcases ht4 : numF [32, 105, 110, 116, 101, 114, 101, 115, 116, 32] t3 with ⟨_ | i, t4⟩
    · simp only [ht4, thn_n] at est
      simp only [go_sem, errF]
      exact pan est
    have lt4 := nl _ _ ht4 lt3
    simp only [ht4, thn_s] at est
    simp (disch := omega) only [go_sem, Nat.reduceAdd, cN]
    rcases ht5 : numF [10, 97, 102, 116, 101, 114, 32] t4 with ⟨_ | a, t5⟩
    · simp only [ht5, thn_n] at est
      simp only [go_sem, errF]
      exact pan est
    have lt5 := nl _ _ ht5 lt4
    simp only [ht5, thn_s] at est
    simp (disch := omega) only [go_sem, Nat.reduceAdd, Nat.reduceLeDiff, c91]
    rcases hw : wantF [10] t5 with ⟨_ | z, t6⟩
    · simp only [hw, thn_n] at est
      simp only [go_sem, errF]
      exact pan est
    simp only [hw, thn_s] at est
    simp (disch := omega) only [go_sem, Nat.reduceAdd]
    subst hZ0
    simp (disch := omega) only [go_sem, Nat.reduceAdd]
    rw [est]
    rfl
end Go.Proofs.YtnhbopeopppojaaGreatDoor.Dv
