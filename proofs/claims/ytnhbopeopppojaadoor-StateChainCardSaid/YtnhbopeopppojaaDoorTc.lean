/-
  Layer 27 over the machine: sums of postings.
-/
import Derived.Test.YtnhbopeopppojaaDoorTb
namespace Go.Proofs.YtnhbopeopppojaaDoor.Dv
open Go.Dm Go.Proofs

/-- The sum of what is said of the first i. -/
def sw {α : Type} [Inhabited α] (w : α → Int) (l : List α) : Nat → Int
  | 0 => 0
  | i + 1 => sw w l i + w l[i]!
theorem sw_b {α : Type} [Inhabited α] {w : α → Int} {l : List α} {B : Int} (hB : ∀ x ∈ l, -B ≤ w x ∧ w x ≤ B) : ∀ i : Nat, i ≤ l.length → -(B * i) ≤ sw w l i ∧ sw w l i ≤ B * i
  | 0, _ => by simp [sw]
  | i + 1, h => by
    have ih := sw_b hB i (by omega)
    have hx := hB l[i]! (by rw [getElem!_pos l i (by omega)]; exact List.getElem_mem _)
    have e : B * ((i + 1 : Nat) : Int) = B * (i : Int) + B := by rw [Int.natCast_succ, Int.mul_add, Int.mul_one]
    rw [sw, e]
    omega
theorem sum60 {ps : List Po} {y : D} (hy : Sl 4 (ps.map poR) y) (hn : ps.length ≤ 4000) {w : Po → Int} (hw : ∀ p ∈ ps, -1099511627776 ≤ w p ∧ w p ≤ 1099511627776) {g : FuncId} {cp : List D} {H : Heap}
    (hg : ∀ p K, CallQ VS g (.ag (poR p) :: cp) H K ↔ K (.ret (.i .i64 (w p)) H)) {K : CR → Prop} : CallQ VS 60 [y, .fn (.func g) [] cp] H K ↔ K (.ret (.i .i64 (sw w ps ps.length)) H) := by
  refine CallQ_ret (Ret.iff_q.2 (.body (vf := v60) rfl rfl rfl ?_))
  simp only [go_sem, Nat.reduceSub, v60, hy.n]
  refine Run.up (fun i s => ∃ a3 a8, s = ⟨[y, .fn (.func g) [] cp, .i .i64 0, a3, .i .i64 (sw w ps i), .i .i64 i, .i .i64 ps.length, y, a8], H⟩) ps.length ⟨.u, .u, rfl⟩ ?_
  rintro i s hi ⟨a3, a8, rfl⟩
  have hb := fun j hj => sw_b hw j hj
  by_cases hlt : i < ps.length
  · have hlt' : decide ((i : Int) < (ps.length : Int)) = true := by simpa using hlt
    have h1 := hb (i + 1) (by omega)
    have hgi := hg ps[i]!
    simp only [sw] at h1
    simp only [poR] at hgi
    simp (disch := omega) only [go_sem, Nat.reduceAdd, v60l0, hy.q, poR, wr, hlt', sw, hgi]
    omega
  · have hlt' : decide ((i : Int) < (ps.length : Int)) = false := by simpa using hlt
    have : i = ps.length := by omega
    subst this
    simp (disch := omega) only [go_sem, v60l0, hlt']
/-- What is principal of a posting. -/
def prin (p : Po) : Int := if p.k = 3 then 0 else p.a
theorem prin62 {p : Po} : PRet VS 62 [.ag (poR p)] (.i .i64 (prin p)) := by
  refine .body (vf := v62) rfl rfl ?_
  simp only [go_sem, Nat.reduceAdd, Nat.reduceSub, Nat.reduceLeDiff, v62, poR, prin]
  grind
theorem c62 {p : Po} {H : Heap} {K : CR → Prop} : CallQ VS 62 [.ag (poR p)] H K ↔ K (.ret (.i .i64 (prin p)) H) :=
  prin62.c (vf := v62) rfl rfl rfl (.inl rfl)
/-- What a posting posts for a month. -/
def postM (m : Int) (p : Po) : Int := if p.m = m then prin p else 0
theorem post81 {p : Po} {m : Int} {K : CR → Prop} : CallQ VS 81 [.ag (poR p), .hp 0 0] [.hb 3 [.i .i64 m]] K ↔ K (.ret (.i .i64 (postM m p)) [.hb 3 [.i .i64 m]]) := by
  have e62 := fun {H K} => c62 (p := p) (H := H) (K := K)
  simp only [poR] at e62
  refine CallQ_ret (Ret.iff_q.2 (.body (vf := v81) rfl rfl rfl ?_))
  simp only [go_sem, Nat.reduceAdd, Nat.reduceSub, Nat.reduceLeDiff, v81, poR, e62, postM]
  exact ⟨fun h => by rw [if_neg h], fun h => by rw [if_pos h]⟩
def postedL (l : Led) (m : Int) : Int := sw (postM m) l.po l.po.length
theorem prin_b {p : Po} (h : -1099511627776 ≤ p.a ∧ p.a ≤ 1099511627776) (m : Int) : -1099511627776 ≤ postM m p ∧ postM m p ≤ 1099511627776 := by
  unfold postM prin
  split <;> (try split) <;> omega
theorem posted55 {l : Led} {d : D} (h : IsLed l d) (hn : l.po.length ≤ 4000) (hw : ∀ p ∈ l.po, -1099511627776 ≤ p.a ∧ p.a ≤ 1099511627776) {m : Int} : PRet VS 55 [d, .i .i64 m] (.i .i64 (postedL l m)) := by
  obtain ⟨⟨x, y, rfl, hx, hy⟩⟩ := h
  refine .body (vf := v55) rfl rfl ?_
  have e60 := fun {K} => sum60 hy hn (w := postM m) (fun p hp => prin_b (hw p hp) m) (g := 81) (cp := [.hp 0 0]) (H := [.hb 3 [.i .i64 m]]) (fun p K => post81) (K := K)
  simp only [go_sem, Nat.reduceAdd, Nat.reduceSub, v55, ledD, e60, postedL]
theorem c55 {l : Led} {d : D} (h : IsLed l d) (hn : l.po.length ≤ 4000) (hw : ∀ p ∈ l.po, -1099511627776 ≤ p.a ∧ p.a ≤ 1099511627776) {m : Int} {H : Heap} {K : CR → Prop} : CallQ VS 55 [d, .i .i64 m] H K ↔ K (.ret (.i .i64 (postedL l m)) H) :=
  (posted55 h hn hw).c (vf := v55) rfl rfl (by simp [h.plain]; rfl) (.inl rfl)
/-- The amounts of postings that fit are in range. -/
theorem follow_b {l : Led} : ∀ {ps : List Po} {day : Int}, followP l ps day = true → ∀ p ∈ ps, fitsP l p = true
  | [], _, _, p, hp => by cases hp
  | q :: ps, day, h, p, hp => by
    simp only [followP, Bool.and_eq_true] at h
    rcases List.mem_cons.1 hp with rfl | hp
    · exact h.1.1
    · exact follow_b h.2 p hp
theorem fitsP_a {l : Led} {p : Po} (h : fitsP l p = true) : -1099511627776 ≤ p.a ∧ p.a ≤ 1099511627776 := by
  simp only [fitsP, Bool.and_eq_true, Bool.or_eq_true, decide_eq_true_eq] at h
  omega
/-- What a valid ledger is. -/
structure ValL (l : Led) : Prop where
  r : LedR l
  n : l.st + l.due.length ≤ 2400
  p : l.po.length ≤ 4000
  due : ∀ x ∈ l.due, 0 ≤ x ∧ x ≤ 1099511627776
  po : ∀ p ∈ l.po, fitsP l p = true
theorem validL_v {l : Led} (h : validL l = true) : ValL l := by
  simp only [validL, Bool.and_eq_true, decide_eq_true_eq, Bool.not_eq_true'] at h
  obtain ⟨⟨⟨⟨⟨⟨h1, h2⟩, h3⟩, h4⟩, h5⟩, h6⟩, h7⟩ := h
  refine ⟨⟨⟨h1, h2⟩, h3⟩, h4, h6, fun x hx => ?_, follow_b h7⟩
  have := List.any_eq_false.1 h5 x hx
  simp only [Bool.or_eq_true, decide_eq_true_eq] at this
  omega
theorem ValL.a {l : Led} (h : ValL l) : ∀ p ∈ l.po, -1099511627776 ≤ p.a ∧ p.a ≤ 1099511627776 := fun p hp => fitsP_a (h.po p hp)
theorem posted47 {l : Led} {d : D} (h : IsLed l d) (h1 : l.due.length < 1099511627776) (hv : validL l = true) {m : Int} (hm : hasL l m = true) : PRet VS 47 [d, .i .i64 m] (.tu [.i .i64 (postedL l m), .i .i64 0]) := by
  have v := validL_v hv
  have e44 := fun {H K} => c44 h h1 (H := H) (K := K)
  have e54 := fun {H K} => c54 h v.r (m := m) (H := H) (K := K)
  have e55 := fun {H K} => c55 h v.p v.a (m := m) (H := H) (K := K)
  obtain ⟨⟨x, y, rfl, hx, hy⟩⟩ := h
  refine .body (vf := v47) rfl rfl ?_
  simp only [ledD] at e44 e54 e55
  simp only [go_sem, Nat.reduceAdd, Nat.reduceSub, v47, ledD, e44, e54, e55, hv, hm]
theorem posted_b {l : Led} (v : ValL l) (m : Int) : -4398046511104000 ≤ postedL l m ∧ postedL l m ≤ 4398046511104000 := by
  have h := sw_b (w := postM m) (l := l.po) (B := 1099511627776) (fun p hp => prin_b (v.a p hp) m) l.po.length (Nat.le_refl _)
  have := v.p
  unfold postedL
  omega
theorem open24 {l : Led} {d : D} (h : IsLed l d) (h1 : l.due.length < 1099511627776) (hv : validL l = true) {m : Int} (hm : hasL l m = true) : PRet VS 24 [d, .i .i64 m] (.tu [.i .i64 (l.due[(m - l.st).toNat]! - postedL l m), .i .i64 0]) := by
  have v := validL_v hv
  have e44 := fun {H K} => c44 h h1 (H := H) (K := K)
  have e54 := fun {H K} => c54 h v.r (m := m) (H := H) (K := K)
  have e55 := fun {H K} => c55 h v.p v.a (m := m) (H := H) (K := K)
  obtain ⟨⟨x, y, rfl, hx, hy⟩⟩ := h
  refine .body (vf := v24) rfl rfl ?_
  have hr := v.r.st
  have hn := v.n
  have hm2 := hm
  simp only [hasL, Bool.and_eq_true, decide_eq_true_eq] at hm2
  have hb := posted_b v m
  have hlt : (m - l.st).toNat < l.due.length := by omega
  have hd := v.due l.due[(m - l.st).toNat]! (by rw [getElem!_pos l.due _ hlt]; exact List.getElem_mem _)
  simp only [ledD] at e44 e54 e55
  simp (disch := omega) only [go_sem, Nat.reduceAdd, Nat.reduceSub, Nat.reduceLeDiff, v24, ledD, e44, e54, e55, hv, hm, wr, hx.q, hx.under, iR]
  omega
end Go.Proofs.YtnhbopeopppojaaDoor.Dv
