/-
  Balances over the machine: the program's, the reference's, and that they are the same.
-/
import Derived.Test.YtnhbopeopppojaaDoorTe
namespace Go.Proofs.YtnhbopeopppojaaDoor.Dv
open Go.Dm Go.Proofs

/-! ### A part of contents -/
def prtD (k h : Nat) : D → D
  | .im w rows => .im w ((rows.drop k).take (h - k))
  | d => d
theorem prtD_sl {α : Type} {enc : α → List D} {l : List α} {w : Nat} {d : D} (hd : Sl w (l.map enc) d) (k h : Nat) : Sl w (((l.drop k).take (h - k)).map enc) (prtD k h d) := by
  rw [List.map_take, List.map_drop]
  cases hd with
  | nil e => rw [e]; simp only [List.drop_nil, List.take_nil]; exact .nil rfl
  | z e => rw [e]; simp only [List.drop_nil, List.take_nil]; exact .z rfl
  | im => exact .im
theorem sl_to {α : Type} {enc : α → List D} {l : List α} {w : Nat} {d : D} (hd : Sl w (l.map enc) d) {H : Heap} {k : IntKind} {b : Int} (h1 : 0 ≤ b) (h2 : b ≤ l.length) : sliceD H w d none (some (.i k b)) none = some (prtD 0 b.toNat d) := by
  cases hd with
  | nil e =>
    have : l = [] := by simpa using e
    subst this
    have : b = 0 := by simp only [List.length_nil] at h2; omega
    subst this; rfl
  | z e =>
    have : l = [] := by simpa using e
    subst this
    have : b = 0 := by simp only [List.length_nil] at h2; omega
    subst this; rfl
  | im =>
    have e : 0 ≤ b ∧ b ≤ ((l.map enc).length : Int) := by rw [List.length_map]; exact ⟨h1, h2⟩
    simp only [sliceD, bounds, bound, bdOf, e, and_self, if_true, decide_true, prtD]
theorem sl_part {α : Type} {enc : α → List D} {l : List α} {w : Nat} {d : D} (hd : Sl w (l.map enc) d) {H : Heap} {k k' : IntKind} {a b : Int} (h0 : 0 ≤ a) (h1 : a ≤ b) (h2 : b ≤ l.length) : sliceD H w d (some (.i k a)) (some (.i k' b)) none = some (prtD a.toNat b.toNat d) := by
  cases hd with
  | nil e =>
    have : l = [] := by simpa using e
    subst this
    have hb : b = 0 := by simp only [List.length_nil] at h2; omega
    have ha : a = 0 := by omega
    subst hb; subst ha; rfl
  | z e =>
    have : l = [] := by simpa using e
    subst this
    have hb : b = 0 := by simp only [List.length_nil] at h2; omega
    have ha : a = 0 := by omega
    subst hb; subst ha; rfl
  | im =>
    have e : 0 ≤ b ∧ b ≤ ((l.map enc).length : Int) := by rw [List.length_map]; omega
    have e2 : 0 ≤ a ∧ a ≤ ((b.toNat : Nat) : Int) := by omega
    simp only [sliceD, bounds, bound, bdOf, e, e2, and_self, if_true, decide_true, prtD]

/-! ### Sums -/
section
variable {α : Type} [Inhabited α]
theorem sw_congr {f g : α → Int} {l : List α} (h : ∀ x ∈ l, f x = g x) : ∀ i : Nat, i ≤ l.length → sw f l i = sw g l i
  | 0, _ => rfl
  | i + 1, hi => by
    rw [sw, sw, sw_congr h i (by omega), h _ (by rw [getElem!_pos l i (by omega)]; exact List.getElem_mem _)]
theorem sw_add {f g : α → Int} {l : List α} : ∀ i : Nat, sw f l i + sw g l i = sw (fun x => f x + g x) l i
  | 0 => rfl
  | i + 1 => by
    have := sw_add (f := f) (g := g) (l := l) i
    simp only [sw]; omega
theorem sw_zero {f : α → Int} {l : List α} (h : ∀ x ∈ l, f x = 0) : ∀ i : Nat, i ≤ l.length → sw f l i = 0
  | 0, _ => rfl
  | i + 1, hi => by
    rw [sw, sw_zero h i (by omega), h _ (by rw [getElem!_pos l i (by omega)]; exact List.getElem_mem _)]; rfl
theorem sw_part {f : α → Int} {l : List α} (k n : Nat) : ∀ i : Nat, k + i ≤ l.length → i ≤ n → sw f ((l.drop k).take n) i = sw f l (k + i) - sw f l k
  | 0, _, _ => by simp [sw]
  | i + 1, hi, hn => by
    have e : ((l.drop k).take n)[i]! = l[k + i]! := by
      rw [getElem!_pos _ i (by rw [List.length_take, List.length_drop]; omega), getElem!_pos l (k + i) (by omega), List.getElem_take, List.getElem_drop]
    have := sw_part (f := f) (l := l) k n i (by omega) (by omega)
    rw [sw, this, e, ← Nat.add_assoc, sw]
    omega
end
theorem c59 {n : Int} {H : Heap} {K : CR → Prop} : CallQ VS 59 [.i .i64 n] H K ↔ K (.ret (.i .i64 n) H) := by
  have h : PRet VS 59 [.i .i64 n] (.i .i64 n) := by
    refine .body (vf := v59) rfl rfl ?_
    simp only [go_sem, Nat.reduceSub, v59]
  exact h.c (vf := v59) rfl rfl rfl (.inl rfl)
def idw (n : Int) : Int := n
theorem sum58 {l : List Int} {x : D} (hx : Sl 1 (l.map iR) x) (hn : l.length ≤ 4000) (hw : ∀ n ∈ l, -1099511627776 ≤ n ∧ n ≤ 1099511627776) {H : Heap} {K : CR → Prop} : CallQ VS 58 [x, .fn (.func 59) [] []] H K ↔ K (.ret (.i .i64 (sw idw l l.length)) H) := by
  refine CallQ_ret (Ret.iff_q.2 (.body (vf := v58) rfl rfl rfl ?_))
  simp only [go_sem, Nat.reduceSub, v58, hx.n]
  refine Run.up (fun i s => ∃ a3 a8, s = ⟨[x, .fn (.func 59) [] [], .i .i64 0, a3, .i .i64 (sw idw l i), .i .i64 i, .i .i64 l.length, x, a8], H⟩) l.length ⟨.u, .u, rfl⟩ ?_
  rintro i s hi ⟨a3, a8, rfl⟩
  have hb := fun j hj => sw_b (w := idw) hw j hj
  by_cases hlt : i < l.length
  · have hlt' : decide ((i : Int) < (l.length : Int)) = true := by simpa using hlt
    have h1 := hb (i + 1) (by omega)
    simp only [sw, idw] at h1
    simp (disch := omega) only [go_sem, v58l0, hx.q, iR, wr, hlt', sw, c59, idw]
    omega
  · have hlt' : decide ((i : Int) < (l.length : Int)) = false := by simpa using hlt
    have : i = l.length := by omega
    subst this
    simp (disch := omega) only [go_sem, v58l0, hlt']

/-! ### The program's balance -/
def postB (b : Int) (p : Po) : Int := if b ≤ p.m then 0 else prin p
theorem post61 {p : Po} {b : Int} {K : CR → Prop} : CallQ VS 61 [.ag (poR p), .hp 0 0] [.hb 3 [.i .i64 b]] K ↔ K (.ret (.i .i64 (postB b p)) [.hb 3 [.i .i64 b]]) := by
  have e62 := fun {H K} => c62 (p := p) (H := H) (K := K)
  simp only [poR] at e62
  refine CallQ_ret (Ret.iff_q.2 (.body (vf := v61) rfl rfl rfl ?_))
  simp only [go_sem, Nat.reduceAdd, Nat.reduceSub, Nat.reduceLeDiff, v61, poR, e62, postB]
  exact ⟨fun h => by rw [if_pos (by omega)], fun h => by rw [if_neg (by omega)]⟩
def cutN (l : Led) (b : Int) : Nat := (min (max b l.st) (l.st + l.due.length) - l.st).toNat
def balL (l : Led) (b : Int) : Int := sw idw l.due (cutN l b) - sw (postB b) l.po l.po.length
theorem postB_b {p : Po} (h : -1099511627776 ≤ p.a ∧ p.a ≤ 1099511627776) (b : Int) : -1099511627776 ≤ postB b p ∧ postB b p ≤ 1099511627776 := by
  unfold postB prin
  split <;> (try split) <;> omega
theorem ValL.d {l : Led} (h : ValL l) : ∀ n ∈ l.due, -1099511627776 ≤ n ∧ n ≤ 1099511627776 := fun n hn => by have := h.due n hn; omega
theorem balL_b {l : Led} (v : ValL l) (b : Int) : -5717460464435200 ≤ balL l b ∧ balL l b ≤ 5717460464435200 := by
  have h := sw_b (w := postB b) (l := l.po) (B := 1099511627776) (fun p hp => postB_b (v.a p hp) b) l.po.length (Nat.le_refl _)
  have hc : cutN l b ≤ l.due.length := by unfold cutN; omega
  have h2 := sw_b (w := idw) (l := l.due) (B := 1099511627776) v.d (cutN l b) hc
  have := v.p
  have := v.r.n
  unfold balL
  omega
theorem bal26 {l : Led} {d : D} (h : IsLed l d) (h1 : l.due.length < 1099511627776) (hv : validL l = true) {b : Int} : PRet VS 26 [d, .i .i64 b] (.tu [.i .i64 (balL l b), .i .i64 0]) := by
  have v := validL_v hv
  have e44 := fun {H K} => c44 h h1 (H := H) (K := K)
  obtain ⟨⟨x, y, rfl, hx, hy⟩⟩ := h
  have hr := v.r.st
  have hn := v.n
  have e60 := fun {K} => sum60 hy v.p (w := postB b) (fun p hp => postB_b (v.a p hp) b) (g := 61) (cp := [.hp 0 0]) (H := [.hb 3 [.i .i64 b]]) (fun p K => post61) (K := K)
  have hmx : (if l.st > b then l.st else b) = max b l.st := by simp only [Int.max_def]; split <;> split <;> omega
  have hmn : (if l.st + (l.due.length : Int) < max b l.st then l.st + (l.due.length : Int) else max b l.st) = min (max b l.st) (l.st + l.due.length) := by simp only [Int.min_def]; split <;> split <;> omega
  have hcut : min (max b l.st) (l.st + (l.due.length : Int)) - l.st = ((cutN l b : Nat) : Int) := by unfold cutN; omega
  have hc : cutN l b ≤ l.due.length := by unfold cutN; omega
  have hsl := prtD_sl hx 0 (cutN l b)
  have hlen : ((l.due.drop 0).take (cutN l b - 0)).length = cutN l b := by simp; omega
  have e58 := fun {H K} => sum58 hsl (by rw [hlen]; have := v.r.n; omega) (fun n hn => v.d n (List.mem_of_mem_drop (List.mem_of_mem_take hn))) (H := H) (K := K)
  rw [hlen, sw_part (f := idw) (l := l.due) 0 (cutN l b - 0) (cutN l b) (by omega) (by omega)] at e58
  have e0 : sw idw l.due (0 + cutN l b) - sw idw l.due 0 = sw idw l.due (cutN l b) := by rw [Nat.zero_add]; simp [sw]
  rw [e0] at e58
  have hb := balL_b v b
  unfold balL at hb
  refine .body (vf := v26) rfl rfl ?_
  simp only [ledD] at e44
  simp (disch := omega) only [go_sem, Nat.reduceAdd, Nat.reduceSub, Nat.reduceLeDiff, v26, ledD, e44, hv, hx.n, wr, hcut, sl_to hx, e58, e60, balL]
theorem c26 {l : Led} {d : D} (h : IsLed l d) (h1 : l.due.length < 1099511627776) (hv : validL l = true) {b : Int} {H : Heap} {K : CR → Prop} : CallQ VS 26 [d, .i .i64 b] H K ↔ K (.ret (.tu [.i .i64 (balL l b), .i .i64 0]) H) :=
  (bal26 h h1 hv).c (vf := v26) rfl rfl (by simp [h.plain]; rfl) (.inl rfl)

/-! ### The reference's -/
theorem posted68 {l : Led} {d : D} (h : IsLed l d) (v : ValL l) {m : Int} : PRet VS 68 [d, .i .i64 m] (.i .i64 (postedL l m)) := by
  obtain ⟨⟨x, y, rfl, hx, hy⟩⟩ := h
  refine .body (vf := v68) rfl rfl ?_
  simp (disch := omega) only [go_sem, Nat.reduceAdd, Nat.reduceSub, v68, ledD]
  refine Run.up (fun i st => ∃ a3 a4, st = ⟨[.ag [.i .i64 l.st, x, y], .i .i64 m, .i .i64 0, a3, a4, .i .i64 (sw (postM m) l.po i), .i .i64 i, .bx [.i .i64 l.st, x, y]], []⟩) l.po.length ⟨.u, .u, rfl⟩ ?_
  rintro i st hi ⟨a3, a4, rfl⟩
  have hp := v.p
  have hb := fun j hj => sw_b (w := postM m) (l := l.po) (B := 1099511627776) (fun p hp => prin_b (v.a p hp) m) j hj
  by_cases hlt : i < l.po.length
  · have hlt' : decide ((i : Int) < (l.po.length : Int)) = true := by simpa using hlt
    have h1 := hb (i + 1) (by omega)
    have h0 := hb i (by omega)
    have ha := v.a l.po[i]! (by rw [getElem!_pos l.po i hlt]; exact List.getElem_mem _)
    simp only [sw, postM, prin] at h1
    by_cases c1 : l.po[i]!.m = m
    · by_cases c2 : l.po[i]!.k = 3
      · simp (disch := omega) only [go_sem, Nat.reduceAdd, Nat.reduceLeDiff, v68l0, hy.q, hy.n, poR, wr, hlt', sw, postM, prin, c1, c2, if_pos]
        omega
      · have c2' : decide (l.po[i]!.k = 3) = false := decide_eq_false c2
        simp (disch := omega) only [go_sem, Nat.reduceAdd, Nat.reduceLeDiff, v68l0, hy.q, hy.n, poR, wr, hlt', sw, postM, prin, c1, c2]
        omega
    · have c1' : decide (l.po[i]!.m = m) = false := decide_eq_false c1
      simp (disch := omega) only [go_sem, Nat.reduceAdd, Nat.reduceLeDiff, v68l0, hy.q, hy.n, poR, wr, hlt', sw, postM, prin, c1]
      omega
  · have : i = l.po.length := by omega
    subst this
    have hlt' : decide ((l.po.length : Int) < (l.po.length : Int)) = false := by simp
    simp (disch := omega) only [go_sem, Nat.reduceAdd, v68l0, hy.n, hlt', postedL]
theorem c68 {l : Led} {d : D} (h : IsLed l d) (v : ValL l) {m : Int} {H : Heap} {K : CR → Prop} : CallQ VS 68 [d, .i .i64 m] H K ↔ K (.ret (.i .i64 (postedL l m)) H) :=
  (posted68 h v).c (vf := v68) rfl rfl (by simp [h.plain]; rfl) (.inl rfl)
def rb (l : Led) (b : Int) : Nat → Int
  | 0 => 0
  | i + 1 => if l.st + i < b then rb l b i + l.due[i]! - postedL l (l.st + i) else rb l b i
theorem rb_b {l : Led} (v : ValL l) (b : Int) : ∀ i : Nat, i ≤ l.due.length → -(4399146022731776 * (i : Int)) ≤ rb l b i ∧ rb l b i ≤ 4399146022731776 * (i : Int)
  | 0, _ => by simp [rb]
  | i + 1, h => by
    have ih := rb_b v b i (by omega)
    have hp := posted_b v (l.st + i)
    have hd := v.due l.due[i]! (by rw [getElem!_pos l.due i (by omega)]; exact List.getElem_mem _)
    rw [rb]
    split <;> omega
set_option maxRecDepth 100000 in
theorem bal66 {l : Led} {d : D} (h : IsLed l d) (v : ValL l) {b : Int} : PRet VS 66 [d, .i .i64 b] (.i .i64 (rb l b l.due.length)) := by
  have e68 := fun {m H K} => c68 h v (m := m) (H := H) (K := K)
  obtain ⟨⟨x, y, rfl, hx, hy⟩⟩ := h
  simp only [ledD] at e68
  refine .body (vf := v66) rfl rfl ?_
  simp (disch := omega) only [go_sem, Nat.reduceAdd, Nat.reduceSub, v66, ledD]
  refine Run.up (fun i st => ∃ a3 a4, st = ⟨[.ag [.i .i64 l.st, x, y], .i .i64 b, .i .i64 0, a3, a4, .i .i64 (rb l b i), .i .i64 i, .bx [.i .i64 l.st, x, y]], []⟩) l.due.length ⟨.u, .u, rfl⟩ ?_
  rintro i st hi ⟨a3, a4, rfl⟩
  have hr := v.r.st
  have hn := v.r.n
  by_cases hlt : i < l.due.length
  · have hlt' : decide ((i : Int) < (l.due.length : Int)) = true := by simpa using hlt
    have h0 := rb_b v b i (by omega)
    have hp := posted_b v (l.st + i)
    have hd := v.due l.due[i]! (by rw [getElem!_pos l.due i (by omega)]; exact List.getElem_mem _)
    by_cases c1 : l.st + (i : Int) < b
    · have c1' : decide (l.st + (i : Int) < b) = true := decide_eq_true c1
      simp (disch := omega) only [go_sem, Nat.reduceAdd, Nat.reduceLeDiff, v66l0, hx.q, hx.n, hx.under, iR, wr, hlt', c1', e68, rb, if_pos c1]
      omega
    · have c1' : decide (l.st + (i : Int) < b) = false := decide_eq_false c1
      simp (disch := omega) only [go_sem, Nat.reduceAdd, Nat.reduceLeDiff, v66l0, hx.n, wr, hlt', c1', rb, if_neg c1]
      omega
  · have : i = l.due.length := by omega
    subst this
    have hlt' : decide ((l.due.length : Int) < (l.due.length : Int)) = false := by simp
    simp (disch := omega) only [go_sem, Nat.reduceAdd, Nat.reduceLeDiff, v66l0, hx.n, hlt']
/-- What a posting says of the months below both. -/
def postC (b c : Int) (p : Po) : Int := if p.m < b ∧ p.m < c then prin p else 0
theorem rb_eq {l : Led} (v : ValL l) (b : Int) : ∀ i : Nat, i ≤ l.due.length → rb l b i = sw idw l.due (min i (cutN l b)) - sw (postC b (l.st + i)) l.po l.po.length
  | 0, _ => by
    have : sw (postC b (l.st + (0 : Nat))) l.po l.po.length = 0 := sw_zero (fun p hp => by
      have := v.po p hp
      simp only [fitsP, hasL, Bool.and_eq_true, decide_eq_true_eq] at this
      unfold postC; rw [if_neg (by omega)]) _ (Nat.le_refl _)
    rw [this, rb, Nat.zero_min]; rfl
  | i + 1, h => by
    have ih := rb_eq v b i (by omega)
    rw [rb]
    by_cases c : l.st + (i : Int) < b
    · rw [if_pos c, ih, postedL]
      have hc : i < cutN l b := by unfold cutN; omega
      have e1 : min (i + 1) (cutN l b) = i + 1 := by omega
      have e2 : min i (cutN l b) = i := by omega
      have e3 : sw (postC b (l.st + ((i + 1 : Nat) : Int))) l.po l.po.length = sw (postC b (l.st + i)) l.po l.po.length + sw (postM (l.st + i)) l.po l.po.length := by
        rw [sw_add]
        refine sw_congr (fun p _ => ?_) _ (Nat.le_refl _)
        unfold postC postM
        by_cases q : p.m = l.st + i
        · rw [if_pos (by omega), if_neg (by omega), if_pos q]; omega
        · rw [if_neg q]
          by_cases r : p.m < b ∧ p.m < l.st + i
          · rw [if_pos (by omega), if_pos r]; omega
          · rw [if_neg (by omega), if_neg r]; omega
      rw [e1, e2, e3, sw, idw]; omega
    · rw [if_neg c, ih]
      have hc : cutN l b ≤ i := by unfold cutN; omega
      have e1 : min (i + 1) (cutN l b) = min i (cutN l b) := by omega
      rw [e1, sw_congr (f := postC b (l.st + ((i + 1 : Nat) : Int))) (g := postC b (l.st + i)) (fun p _ => by
        unfold postC
        by_cases r : p.m < b ∧ p.m < l.st + i
        · rw [if_pos (by omega), if_pos r]
        · rw [if_neg (by omega), if_neg r]) _ (Nat.le_refl _)]
theorem rb_bal {l : Led} (v : ValL l) (b : Int) : rb l b l.due.length = balL l b := by
  have hc : cutN l b ≤ l.due.length := by unfold cutN; omega
  rw [rb_eq v b _ (Nat.le_refl _), Nat.min_eq_right hc, balL]
  rw [sw_congr (f := postC b (l.st + (l.due.length : Int))) (g := postB b) (fun p hp => by
    have := v.po p hp
    simp only [fitsP, hasL, Bool.and_eq_true, decide_eq_true_eq] at this
    unfold postC postB
    by_cases r : b ≤ p.m
    · rw [if_neg (by omega), if_pos r]
    · rw [if_pos (by omega), if_neg r]) _ (Nat.le_refl _)]
theorem c66 {l : Led} {d : D} (h : IsLed l d) (v : ValL l) {b : Int} {H : Heap} {K : CR → Prop} : CallQ VS 66 [d, .i .i64 b] H K ↔ K (.ret (.i .i64 (balL l b)) H) := by
  rw [← rb_bal v b]
  exact (bal66 h v).c (vf := v66) rfl rfl (by simp [h.plain]; rfl) (.inl rfl)
end Go.Proofs.YtnhbopeopppojaaDoor.Dv
