/-
  Layer 39 over the machine: what a reader takes from a text.
-/
import Derived.Test.YtnhbopeopppojaaGreatDoorSc
namespace Go.Proofs.YtnhbopeopppojaaGreatDoor.Dv
open Go.Dm Go.Proofs

/-- The text begins so. -/
def isP (p l : List UInt8) : Bool := decide (p.length ≤ l.length) && decide (l.take p.length = p)
def cutS (p l : List UInt8) : List UInt8 := if isP p l then l.drop p.length else l
theorem hasPrefix124 (l p : List UInt8) : PRet VS 121 [.s l, .s p] (.b (isP p l)) := by
  refine .body (vf := v121) rfl rfl ?_
  simp only [go_sem, Nat.reduceSub, v121, isP]
  grind
@[go_sem] theorem c124 {l p : List UInt8} {H : Heap} {K : CR → Prop} : CallQ VS 121 [.s l, .s p] H K ↔ K (.ret (.b (isP p l)) H) :=
  (hasPrefix124 l p).c (vf := v121) rfl rfl rfl (.inl rfl)
theorem cutPrefix114 (l p : List UInt8) : PRet VS 113 [.s l, .s p] (.tu [.s (cutS p l), .b (isP p l)]) := by
  refine .body (vf := v113) rfl rfl ?_
  simp only [go_sem, Nat.reduceAdd, Nat.reduceSub, v113, cutS]
  refine ⟨fun h => by simp [h], fun h => ?_⟩
  have : p.length ≤ l.length := by simp only [isP, Bool.and_eq_true, decide_eq_true_eq] at h; exact h.1
  simp [h]
  omega
@[go_sem] theorem c114 {l p : List UInt8} {H : Heap} {K : CR → Prop} : CallQ VS 113 [.s l, .s p] H K ↔ K (.ret (.tu [.s (cutS p l), .b (isP p l)]) H) :=
  CallQ_p (vf := v113) rfl rfl (cutPrefix114 l p) (by simp only [go_sem, Nat.reduceAdd])
theorem cutPrefix101 (l p : List UInt8) : PRet VS 103 [.s l, .s p] (.tu [.s (cutS p l), .b (isP p l)]) := by
  refine .body (vf := v103) rfl rfl ?_
  simp only [go_sem, Nat.reduceAdd, Nat.reduceSub, v103]
@[go_sem] theorem c101 {l p : List UInt8} {H : Heap} {K : CR → Prop} : CallQ VS 103 [.s l, .s p] H K ↔ K (.ret (.tu [.s (cutS p l), .b (isP p l)]) H) :=
  CallQ_p (vf := v103) rfl rfl (cutPrefix101 l p) (by simp only [go_sem, Nat.reduceAdd])

/-! ### The reader -/
@[go_sem] theorem bH_g2 {a b c : Blk} {H0 : Heap} {w : Nat} {rows : List (List D)} : (bH (a :: b :: c :: H0) w rows)[2]? = some c := by cases rows <;> rfl
@[go_sem] theorem bH_set2 {a b c x : Blk} {H0 : Heap} {w : Nat} {rows : List (List D)} : (bH (a :: b :: c :: H0) w rows).set 2 x = bH (a :: b :: x :: H0) w rows := by cases rows <;> rfl
variable {A B : Blk} {w : Nat} {rows : List (List D)}
abbrev Hr (A B : Blk) (w : Nat) (rows : List (List D)) (r : List UInt8) : Heap := bH [A, B, .hb 101 [.s r]] w rows
@[go_sem] theorem c89 {p r : List UInt8} {K : CR → Prop} : CallQ VS 80 [.hp 2 0, .s p] (Hr A B w rows r) K ↔ K (.ret (.b (isP p r)) (Hr A B w rows (cutS p r))) := by
  refine CallQ_ret (Ret.iff_q.2 (.body (vf := v80) rfl rfl rfl ?_))
  simp only [go_sem, Nat.reduceSub, v80]
def errF : D := .ifc 131 (.ag [])
/-- The answer of a reader's method: what it took, or a panic; what is left. -/
def RdR (A B : Blk) (w : Nat) (rows : List (List D)) (f : Int → D) (q : Option Int × List UInt8) : CR := match q.1 with
  | some n => .ret (f n) (Hr A B w rows q.2)
  | none => .pan errF (Hr A B w rows q.2)
@[go_sem] theorem RdR_s {f : Int → D} {n : Int} {r : List UInt8} : RdR A B w rows f (some n, r) = .ret (f n) (Hr A B w rows r) := rfl
@[go_sem] theorem RdR_n {f : Int → D} {r : List UInt8} : RdR A B w rows f (none, r) = .pan errF (Hr A B w rows r) := rfl
def wantF (p r : List UInt8) : Option Int × List UInt8 := if isP p r then (some 0, r.drop p.length) else (none, r)
/-- A call's answer is told. -/
theorem CallQ_det {V : VProg} {f : FuncId} {args : List D} {H : Heap} {r : CR} (h : CallQ V f args H (· = r)) {K : CR → Prop} : CallQ V f args H K ↔ K r := by
  obtain ⟨n, h1, h2⟩ := h
  constructor
  · rintro ⟨m, h3, h4⟩
    have e1 := call_up (Nat.le_max_left n m) h1
    have e2 := call_up (Nat.le_max_right n m) h3
    rw [e1] at e2
    rw [← h2, e2]; exact h4
  · intro hk
    exact ⟨n, h1, by rw [h2]; exact hk⟩
theorem c91 {p r : List UInt8} {K : CR → Prop} : CallQ VS 82 [.hp 2 0, .s p] (Hr A B w rows r) K ↔ K (RdR A B w rows (fun _ => .tu []) (wantF p r)) := by
  refine CallQ_det (.body (vf := v82) rfl rfl rfl ?_)
  simp only [go_sem, Nat.reduceSub, v82, wantF]
  refine ⟨fun h => ?_, fun h => ?_⟩
  · simp [h, cutS, errF, RdR]
  · simp [h, cutS, oneOr, RdR]

/-! ### Numbers -/
def isD (c : UInt8) : Bool := decide (48 ≤ c.toNat) && decide (c.toNat ≤ 57)
def dval (l : List UInt8) : Nat := l.foldl (fun n c => 10 * n + (c.toNat - 48)) 0
theorem dval_snoc (l : List UInt8) (c : UInt8) : dval (l ++ [c]) = 10 * dval l + (c.toNat - 48) := by simp [dval]
theorem dval_take {l : List UInt8} {i : Nat} (hi : i < l.length) : dval (l.take (i + 1)) = 10 * dval (l.take i) + (l[i]!.toNat - 48) := by
  rw [List.take_succ_eq_append_getElem hi, dval_snoc, getElem!_pos l i hi]
theorem dval_mono (l : List UInt8) (i : Nat) : ∀ (k : Nat), i + k ≤ l.length → dval (l.take i) ≤ dval (l.take (i + k))
  | 0, _ => Nat.le_refl _
  | k + 1, h => by
    have := dval_mono l i k (by omega)
    rw [← Nat.add_assoc, dval_take (l := l) (i := i + k) (by omega)]
    omega
theorem dval_le {l : List UInt8} {i : Nat} (h : i ≤ l.length) : dval (l.take i) ≤ dval l := by
  have := dval_mono l i (l.length - i) (by omega)
  rwa [show i + (l.length - i) = l.length by omega, List.take_length] at this
theorem tw_lt {p : UInt8 → Bool} : ∀ {l : List UInt8} {i : Nat}, i ≤ (l.takeWhile p).length → (i < (l.takeWhile p).length ↔ i < l.length ∧ p l[i]! = true)
  | [], i, h => by simp
  | c :: l, i, h => by
    by_cases hc : p c = true
    · rw [List.takeWhile_cons_of_pos hc] at h ⊢
      cases i with
      | zero => simp [hc]
      | succ i =>
        have := tw_lt (p := p) (l := l) (i := i) (by simpa using h)
        simpa using this
    · rw [List.takeWhile_cons_of_neg hc] at h ⊢
      have : i = 0 := by simpa using h
      subst this
      simp [hc]
theorem tw_take {p : UInt8 → Bool} {l : List UInt8} : l.takeWhile p = l.take (l.takeWhile p).length := by
  induction l with
  | nil => rfl
  | cons c l ih =>
    by_cases hc : p c = true
    · rw [List.takeWhile_cons_of_pos hc, List.length_cons, List.take_succ_cons, ← ih]
    · rw [List.takeWhile_cons_of_neg hc]; rfl
def numF (p r : List UInt8) : Option Int × List UInt8 :=
  if isP p r then
    let r2 := cutS [45] (r.drop p.length)
    let ds := r2.takeWhile isD
    if ds.length = 0 ∨ 9007199254740992 < dval ds then (none, r2) else (some (if isP [45] (r.drop p.length) then -(dval ds : Int) else dval ds), r2.drop ds.length)
  else (none, r)
theorem wr8 {x : Int} (h1 : 0 ≤ x) (h2 : x < 256) : IntKind.u8.wrap x = x := by
  have e : IntKind.u8.signed = false := rfl
  have e2 : IntKind.u8.bits = 8 := rfl
  simp only [IntKind.wrap, e, e2, Bool.false_and, Bool.false_eq_true, if_false]
  omega
theorem c88 {p r : List UInt8} (hl : r.length ≤ 1000000) {K : CR → Prop} : CallQ VS 79 [.hp 2 0, .s p] (Hr A B w rows r) K ↔ K (RdR A B w rows (.i .i64) (numF p r)) := by
  refine CallQ_det (.body (vf := v79) rfl rfl rfl ?_)
  simp only [go_sem, Nat.reduceSub, Int.reduceNeg, v79, c91]
  by_cases hp : isP p r = true
  case neg =>
    have e1 : wantF p r = (none, r) := by simp [wantF, hp]
    have e2 : numF p r = (none, r) := by simp [numF, hp]
    simp only [go_sem, Int.reduceNeg, e1, e2, errF]
  have e1 : wantF p r = (some 0, r.drop p.length) := by simp [wantF, hp]
  simp only [go_sem, Int.reduceNeg, e1]
  have e2 : numF p r = (let r2 := cutS [45] (r.drop p.length); let ds := r2.takeWhile isD; if ds.length = 0 ∨ 9007199254740992 < dval ds then (none, r2) else (some (if isP [45] (r.drop p.length) then -(dval ds : Int) else dval ds), r2.drop ds.length)) := by simp [numF, hp]
  rw [e2]
  have hl2 : (cutS [45] (r.drop p.length)).length ≤ 1000000 := by
    unfold cutS; split <;> simp <;> omega
  generalize cutS [45] (r.drop p.length) = r2 at hl2
  generalize isP [45] (r.drop p.length) = ng
  simp only []
  have htw := @tw_take isD r2
  have hlt := fun i h => @tw_lt isD r2 i h
  have hle : (r2.takeWhile isD).length ≤ r2.length := (List.takeWhile_prefix _).length_le
  generalize hds : r2.takeWhile isD = ds at htw hlt hle
  obtain ⟨R, hR⟩ : ∃ R, R = RdR A B w rows (.i .i64) (if ds.length = 0 ∨ 9007199254740992 < dval ds then (none, r2) else (some (if ng = true then -(dval ds : Int) else dval ds), r2.drop ds.length)) := ⟨_, rfl⟩
  have hR1 : ds.length = 0 ∨ 9007199254740992 < dval ds → R = .pan (.ifc 131 (.ag [])) (Hr A B w rows r2) := fun h => by rw [hR, if_pos h]; rfl
  have hR2 : ¬ (ds.length = 0 ∨ 9007199254740992 < dval ds) → R = .ret (.i .i64 (if ng = true then -(dval ds : Int) else dval ds)) (Hr A B w rows (r2.drop ds.length)) := fun h => by rw [hR, if_neg h]; rfl
  rw [← hR]
  clear hR
  refine ⟨fun hng => ?_, fun hng => ?_⟩
  · subst hng
    generalize hsg : (-1 : Int) = sg
    generalize D.b true = zb
    refine Run.up (fun i st => (i ≤ ds.length ∧ dval (ds.take i) ≤ 9007199254740992) ∧ ∃ a4 a5 a6, st = ⟨[.hp 2 0, .s p, .i .i64 0, zb, a4, a5, a6, .i .i64 sg, .i .i64 (dval (ds.take i)), .i .i64 i], Hr A B w rows r2⟩) ds.length ⟨⟨by omega, by simp [dval]⟩, .u, .u, .u, by simp [dval]⟩ ?_
    rintro i st hi ⟨⟨hi1, hi2⟩, a4, a5, a6, rfl⟩
    by_cases hd : i < ds.length
    · obtain ⟨d1, d2⟩ := (hlt i hi1).1 hd
      simp only [isD, Bool.and_eq_true, decide_eq_true_eq] at d2
      have e1 : decide ((i : Int) < (r2.length : Int)) = true := decide_eq_true (by omega)
      have e2 : decide ((48 : Int) ≤ (r2[i]!.toNat : Int)) = true := decide_eq_true (by omega)
      have e3 : decide ((r2[i]!.toNat : Int) ≤ 57) = true := decide_eq_true (by omega)
      have e4 : ds[i]! = r2[i]! := by
        rw [getElem!_pos ds i hd, getElem!_pos r2 i d1]
        exact (List.getElem_of_eq htw hd).trans List.getElem_take
      have e5 := dval_take hd
      have e6 := dval_le (l := ds) (i := i + 1) (by omega)
      rw [e4] at e5
      simp (disch := omega) only [go_sem, v79l0, e1, e2, e3, wr, wr8]
      refine ⟨⟨by omega, by omega⟩, ⟨by omega, by omega⟩, ⟨by omega, by omega⟩, fun ho => ?_, fun ho => ⟨hd, ⟨by omega, by omega⟩, by omega⟩⟩
      exact (hR1 (.inr (by omega))).symm
    · have hil : i = ds.length := by omega
      subst hil
      rw [List.take_length] at hi2 ⊢
      have e1 : (ds.length < r2.length → isD r2[ds.length]! = false) := fun h => by
        have := hlt ds.length (Nat.le_refl _)
        cases hc : isD r2[ds.length]! with
        | false => rfl
        | true => exact absurd (this.2 ⟨h, hc⟩) (by omega)
      simp only [isD] at e1
      simp (disch := omega) only [go_sem, v79l0, wr]
      have f1 : (ds.length : Int) = 0 → CR.pan (.ifc 131 (.ag [])) (Hr A B w rows r2) = R := fun h => (hR1 (.inl (by omega))).symm
      have f2 : ¬ (ds.length : Int) = 0 → (0 ≤ (ds.length : Int) ∧ (ds.length : Int) ≤ r2.length) ∧ CR.ret (.i .i64 (IntKind.i64.wrap (sg * (dval ds : Int)))) (bH [A, B, .hb 101 [.s (r2.drop ds.length)]] w rows) = R := fun h => ⟨⟨by omega, by omega⟩, by
        rw [hR2 (by omega), ← hsg, wr (by omega) (by omega)]
        simp⟩
      refine ⟨fun h1 => ⟨⟨by omega, by omega⟩, fun h2 => ⟨⟨by omega, by omega⟩, fun h3 => ?_, fun h3 => ⟨f1, f2⟩⟩, fun h2 => ⟨f1, f2⟩⟩, fun h1 => ⟨f1, f2⟩⟩
      exfalso
      have := e1 (by omega)
      rw [decide_eq_true (by omega), decide_eq_true (by omega)] at this
      cases this
  · subst hng
    generalize hsg : (1 : Int) = sg
    generalize D.b false = zb
    refine Run.up (fun i st => (i ≤ ds.length ∧ dval (ds.take i) ≤ 9007199254740992) ∧ ∃ a4 a5 a6, st = ⟨[.hp 2 0, .s p, .i .i64 0, zb, a4, a5, a6, .i .i64 sg, .i .i64 (dval (ds.take i)), .i .i64 i], Hr A B w rows r2⟩) ds.length ⟨⟨by omega, by simp [dval]⟩, .u, .u, .u, by simp [dval]⟩ ?_
    rintro i st hi ⟨⟨hi1, hi2⟩, a4, a5, a6, rfl⟩
    by_cases hd : i < ds.length
    · obtain ⟨d1, d2⟩ := (hlt i hi1).1 hd
      simp only [isD, Bool.and_eq_true, decide_eq_true_eq] at d2
      have e1 : decide ((i : Int) < (r2.length : Int)) = true := decide_eq_true (by omega)
      have e2 : decide ((48 : Int) ≤ (r2[i]!.toNat : Int)) = true := decide_eq_true (by omega)
      have e3 : decide ((r2[i]!.toNat : Int) ≤ 57) = true := decide_eq_true (by omega)
      have e4 : ds[i]! = r2[i]! := by
        rw [getElem!_pos ds i hd, getElem!_pos r2 i d1]
        exact (List.getElem_of_eq htw hd).trans List.getElem_take
      have e5 := dval_take hd
      have e6 := dval_le (l := ds) (i := i + 1) (by omega)
      rw [e4] at e5
      simp (disch := omega) only [go_sem, v79l0, e1, e2, e3, wr, wr8]
      refine ⟨⟨by omega, by omega⟩, ⟨by omega, by omega⟩, ⟨by omega, by omega⟩, fun ho => ?_, fun ho => ⟨hd, ⟨by omega, by omega⟩, by omega⟩⟩
      exact (hR1 (.inr (by omega))).symm
    · have hil : i = ds.length := by omega
      subst hil
      rw [List.take_length] at hi2 ⊢
      have e1 : (ds.length < r2.length → isD r2[ds.length]! = false) := fun h => by
        have := hlt ds.length (Nat.le_refl _)
        cases hc : isD r2[ds.length]! with
        | false => rfl
        | true => exact absurd (this.2 ⟨h, hc⟩) (by omega)
      simp only [isD] at e1
      simp (disch := omega) only [go_sem, v79l0, wr]
      have f1 : (ds.length : Int) = 0 → CR.pan (.ifc 131 (.ag [])) (Hr A B w rows r2) = R := fun h => (hR1 (.inl (by omega))).symm
      have f2 : ¬ (ds.length : Int) = 0 → (0 ≤ (ds.length : Int) ∧ (ds.length : Int) ≤ r2.length) ∧ CR.ret (.i .i64 (IntKind.i64.wrap (sg * (dval ds : Int)))) (bH [A, B, .hb 101 [.s (r2.drop ds.length)]] w rows) = R := fun h => ⟨⟨by omega, by omega⟩, by
        rw [hR2 (by omega), ← hsg, wr (by omega) (by omega)]
        simp⟩
      refine ⟨fun h1 => ⟨⟨by omega, by omega⟩, fun h2 => ⟨⟨by omega, by omega⟩, fun h3 => ?_, fun h3 => ⟨f1, f2⟩⟩, fun h2 => ⟨f1, f2⟩⟩, fun h1 => ⟨f1, f2⟩⟩
      exfalso
      have := e1 (by omega)
      rw [decide_eq_true (by omega), decide_eq_true (by omega)] at this
      cases this
end Go.Proofs.YtnhbopeopppojaaGreatDoor.Dv
