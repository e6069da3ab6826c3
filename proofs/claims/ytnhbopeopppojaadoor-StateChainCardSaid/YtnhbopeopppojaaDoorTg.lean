/-
  Slips over the machine: sums over slips, the interest of a slip.
-/
import Derived.Test.YtnhbopeopppojaaDoorTf
namespace Go.Proofs.YtnhbopeopppojaaDoor.Dv
open Go.Dm Go.Proofs

theorem c47 {l : Led} {d : D} (h : IsLed l d) (h1 : l.due.length < 1099511627776) (hv : validL l = true) {m : Int} (hm : hasL l m = true) {H : Heap} {K : CR → Prop} : CallQ VS 47 [d, .i .i64 m] H K ↔ K (.ret (.tu [.i .i64 (postedL l m), .i .i64 0]) H) :=
  (posted47 h h1 hv hm).c (vf := v47) rfl rfl (by simp [h.plain]; rfl) (.inl rfl)
theorem c24 {l : Led} {d : D} (h : IsLed l d) (h1 : l.due.length < 1099511627776) (hv : validL l = true) {m : Int} (hm : hasL l m = true) {H : Heap} {K : CR → Prop} : CallQ VS 24 [d, .i .i64 m] H K ↔ K (.ret (.tu [.i .i64 (l.due[(m - l.st).toNat]! - postedL l m), .i .i64 0]) H) :=
  (open24 h h1 hv hm).c (vf := v24) rfl rfl (by simp [h.plain]; rfl) (.inl rfl)
/-- A slip of a valid state. -/
structure SlOk (n : Nat) (x : Sp) : Prop where
  m : 0 ≤ x.m
  f : 0 ≤ x.f
  t : x.f ≤ x.t
  n : x.t ≤ n
  g : 0 ≤ x.g ∧ x.g ≤ 1099511627776
  x : -1099511627776 ≤ x.x ∧ x.x ≤ 1099511627776
theorem slips_v {n : Nat} : ∀ {ss : List Sp} {m k t : Int}, slipsF n ss m k t = true → -1 ≤ m → 0 ≤ t → ∀ x ∈ ss, SlOk n x
  | [], _, _, _, _, _, _, x, hx => by cases hx
  | y :: ys, m, k, t, h, hm, ht, x, hx => by
    simp only [slipsF, slipF, amt, taxy, Bool.and_eq_true, decide_eq_true_eq] at h
    obtain ⟨⟨⟨⟨⟨⟨⟨a1, a2⟩, a3⟩, a4⟩, a5⟩, a6⟩, a7⟩, hr⟩ := h
    rcases List.mem_cons.1 hx with rfl | hx
    · exact ⟨by omega, by omega, a4, a5, a6, a7⟩
    · exact slips_v hr (by omega) (by omega) x hx
structure ValR (s : RSt) : Prop where
  l : validL s.l = true
  v : ValL s.l
  n : s.sl.length ≤ 1200
  s : ∀ x ∈ s.sl, SlOk s.l.po.length x
theorem validR_v {s : RSt} (h : validR s = true) : ValR s := by
  simp only [validR, headR, Bool.and_eq_true, decide_eq_true_eq] at h
  exact ⟨h.1.1.1.1.1.1, validL_v h.1.1.1.1.1.1, h.1.1.1.1.1.2, slips_v h.2 (by omega) (by omega)⟩

/-! ### Sums over slips that lie in the heap -/
theorem sum48 {l : List Sp} {H0 : Heap} (hn : l.length ≤ 1200) {w : Sp → Int} (hw : ∀ p ∈ l, -4398046511104000 ≤ w p ∧ w p ≤ 4398046511104000) {g : FuncId} {cp : List D}
    (hg : ∀ p ∈ l, ∀ K, CallQ VS g (.ag (spR p) :: cp) (bH H0 10 (l.map spR)) K ↔ K (.ret (.i .i64 (w p)) (bH H0 10 (l.map spR)))) {K : CR → Prop} :
    CallQ VS 48 [bD H0 .nil (l.map spR), .fn (.func g) [] cp] (bH H0 10 (l.map spR)) K ↔ K (.ret (.i .i64 (sw w l l.length)) (bH H0 10 (l.map spR))) := by
  refine CallQ_ret (Ret.iff_q.2 (.body (vf := v48) rfl rfl rfl ?_))
  simp only [go_sem, Nat.reduceSub, v48]
  refine Run.up (fun i s => ∃ a3 a8, s = ⟨[bD H0 .nil (l.map spR), .fn (.func g) [] cp, .i .i64 0, a3, .i .i64 (sw w l i), .i .i64 i, .i .i64 l.length, bD H0 .nil (l.map spR), a8], bH H0 10 (l.map spR)⟩) l.length ⟨.u, .u, rfl⟩ ?_
  rintro i s hi ⟨a3, a8, rfl⟩
  have hb := fun j hj => sw_b (B := 4398046511104000) hw j hj
  by_cases hlt : i < l.length
  · have hlt' : decide ((i : Int) < (l.length : Int)) = true := by simpa using hlt
    have h1 := hb (i + 1) (by omega)
    have hgi := hg l[i]! (by rw [getElem!_pos l i hlt]; exact List.getElem_mem _)
    simp only [sw] at h1
    simp only [spR] at hgi
    simp (disch := omega) only [go_sem, v48l0, hlt', sw]
    simp only [spR] at hgi ⊢
    simp (disch := omega) only [go_sem, Nat.reduceAdd, hgi, wr]
    omega
  · have hlt' : decide ((i : Int) < (l.length : Int)) = false := by simpa using hlt
    have : i = l.length := by omega
    subst this
    simp (disch := omega) only [go_sem, v48l0, hlt']
theorem c49 {x : Sp} {H : Heap} {K : CR → Prop} : CallQ VS 49 [.ag (spR x)] H K ↔ K (.ret (.i .i64 x.g) H) := by
  have h : PRet VS 49 [.ag (spR x)] (.i .i64 x.g) := by
    refine .body (vf := v49) rfl rfl ?_
    simp only [go_sem, Nat.reduceAdd, Nat.reduceSub, Nat.reduceLeDiff, v49, spR]
  exact h.c (vf := v49) rfl rfl rfl (.inl rfl)
theorem c50 {x : Sp} {H : Heap} {K : CR → Prop} : CallQ VS 50 [.ag (spR x)] H K ↔ K (.ret (.i .i64 x.x) H) := by
  have h : PRet VS 50 [.ag (spR x)] (.i .i64 x.x) := by
    refine .body (vf := v50) rfl rfl ?_
    simp only [go_sem, Nat.reduceAdd, Nat.reduceSub, Nat.reduceLeDiff, v50, spR]
  exact h.c (vf := v50) rfl rfl rfl (.inl rfl)

/-! ### Interest -/
def intr (p : Po) : Int := if p.k = 3 then p.a else 0
theorem c53 {p : Po} {H : Heap} {K : CR → Prop} : CallQ VS 53 [.ag (poR p)] H K ↔ K (.ret (.i .i64 (intr p)) H) := by
  have h : PRet VS 53 [.ag (poR p)] (.i .i64 (intr p)) := by
    refine .body (vf := v53) rfl rfl ?_
    simp only [go_sem, Nat.reduceAdd, Nat.reduceSub, Nat.reduceLeDiff, v53, poR, intr]
    grind
  exact h.c (vf := v53) rfl rfl rfl (.inl rfl)
theorem intr_b {p : Po} (h : -1099511627776 ≤ p.a ∧ p.a ≤ 1099511627776) : -1099511627776 ≤ intr p ∧ intr p ≤ 1099511627776 := by
  unfold intr
  split <;> omega
theorem sum52 {ps : List Po} {y : D} (hy : Sl 4 (ps.map poR) y) (hn : ps.length ≤ 4000) (hw : ∀ p ∈ ps, -1099511627776 ≤ intr p ∧ intr p ≤ 1099511627776) {H : Heap} {K : CR → Prop} : CallQ VS 52 [y, .fn (.func 53) [] []] H K ↔ K (.ret (.i .i64 (sw intr ps ps.length)) H) := by
  refine CallQ_ret (Ret.iff_q.2 (.body (vf := v52) rfl rfl rfl ?_))
  simp only [go_sem, Nat.reduceSub, v52, hy.n]
  refine Run.up (fun i s => ∃ a3 a8, s = ⟨[y, .fn (.func 53) [] [], .i .i64 0, a3, .i .i64 (sw intr ps i), .i .i64 i, .i .i64 ps.length, y, a8], H⟩) ps.length ⟨.u, .u, rfl⟩ ?_
  rintro i s hi ⟨a3, a8, rfl⟩
  have hb := fun j hj => sw_b hw j hj
  by_cases hlt : i < ps.length
  · have hlt' : decide ((i : Int) < (ps.length : Int)) = true := by simpa using hlt
    have h1 := hb (i + 1) (by omega)
    have hgi := fun {H K} => c53 (p := ps[i]!) (H := H) (K := K)
    simp only [sw] at h1
    simp only [poR] at hgi
    simp (disch := omega) only [go_sem, Nat.reduceAdd, v52l0, hy.q, poR, wr, hlt', sw, hgi]
    omega
  · have hlt' : decide ((i : Int) < (ps.length : Int)) = false := by simpa using hlt
    have : i = ps.length := by omega
    subst this
    simp (disch := omega) only [go_sem, v52l0, hlt']
/-- The interest of a slip. -/
def itr (l : Led) (x : Sp) : Int := sw intr l.po x.t.toNat - sw intr l.po x.f.toNat
theorem itr_eq {l : Led} {x : Sp} (h : SlOk l.po.length x) : sw intr ((l.po.drop x.f.toNat).take (x.t.toNat - x.f.toNat)) ((l.po.drop x.f.toNat).take (x.t.toNat - x.f.toNat)).length = itr l x := by
  obtain ⟨a1, a2, a3, a4, a5, a6⟩ := h
  have hl : ((l.po.drop x.f.toNat).take (x.t.toNat - x.f.toNat)).length = x.t.toNat - x.f.toNat := by
    rw [List.length_take, List.length_drop]; omega
  rw [hl, sw_part _ _ _ (by omega) (Nat.le_refl _), itr]
  congr 2; omega
theorem itr_b {l : Led} (v : ValL l) {x : Sp} (h : SlOk l.po.length x) : -4398046511104000 ≤ itr l x ∧ itr l x ≤ 4398046511104000 := by
  have e := itr_eq h
  have hb := sw_b (w := intr) (l := (l.po.drop x.f.toNat).take (x.t.toNat - x.f.toNat)) (B := 1099511627776) (fun p hp => intr_b (v.a p (List.mem_of_mem_drop (List.mem_of_mem_take hp)))) _ (Nat.le_refl _)
  rw [e] at hb
  have hl : ((l.po.drop x.f.toNat).take (x.t.toNat - x.f.toNat)).length ≤ l.po.length := by
    rw [List.length_take, List.length_drop]; omega
  have := v.p
  omega
theorem c51 {s : RSt} {x y zz : D} {t : Nat} {H : Heap} (hy : Sl 4 (s.l.po.map poR) y) (v : ValL s.l) {p : Sp} (h : SlOk s.l.po.length p) (hH : H[0]? = some (.hb t [.i .i64 s.l.st, x, y, .i .i64 s.sm, .i .i64 s.sg, .i .i64 s.sx, zz])) {K : CR → Prop} :
    CallQ VS 51 [.ag (spR p), .hp 0 0] H K ↔ K (.ret (.i .i64 (itr s.l p)) H) := by
  have hsl := prtD_sl hy p.f.toNat p.t.toNat
  have hle : ((s.l.po.drop p.f.toNat).take (p.t.toNat - p.f.toNat)).length ≤ 4000 := by
    have := v.p
    rw [List.length_take, List.length_drop]; omega
  have e52 := fun {H K} => sum52 hsl hle (fun q hq => intr_b (v.a q (List.mem_of_mem_drop (List.mem_of_mem_take hq)))) (H := H) (K := K)
  rw [itr_eq h] at e52
  obtain ⟨a1, a2, a3, a4, a5, a6⟩ := h
  have hc := hy.c1
  refine CallQ_ret (Ret.iff_q.2 (.body (vf := v51) rfl rfl rfl ?_))
  simp (disch := omega) only [go_sem, Nat.reduceAdd, Nat.reduceSub, Nat.reduceLeDiff, v51, spR, hH, sl_part hy, e52]
end Go.Proofs.YtnhbopeopppojaaDoor.Dv
