/-
  The reference's sums and products of limbs, as far as a decimal text asks for them.
-/
import Derived.Test.YtnhbopeopppojaaGreatDoorSo
namespace Go.Proofs.YtnhbopeopppojaaGreatDoor.Dv
open Go.Dm Go.Proofs

/-! ### Limbs without zeros at the top -/
theorem trim_limbs : ∀ {l : List Nat}, lim l → trim l = limbs (lval l)
  | [], _ => by rw [lval, limbs, dif_pos rfl]; rfl
  | x :: l, h => by
    have hx := h x List.mem_cons_self
    have ih := trim_limbs (l := l) fun y hy => h y (List.mem_cons_of_mem _ hy)
    have hn := trim_nil l
    rw [trim, lval]
    by_cases c : trim l = [] ∧ x = 0
    · rw [if_pos c, limbs, dif_pos]
      have := hn.1 c.1
      rw [this, c.2]
    · rw [if_neg c]
      have hne : x + 65536 * lval l ≠ 0 := fun e => c ⟨hn.2 (by omega), by omega⟩
      rw [limbs_step hne, show (x + 65536 * lval l) % 65536 = x by omega, show (x + 65536 * lval l) / 65536 = lval l by omega, ih]
theorem lval_lt : ∀ {l : List Nat}, lim l → lval l < 65536 ^ l.length
  | [], _ => by simp [lval]
  | x :: l, h => by
    have hx := h x List.mem_cons_self
    have ih := lval_lt (l := l) fun y hy => h y (List.mem_cons_of_mem _ hy)
    rw [lval, List.length_cons, Nat.pow_succ]
    omega

/-! ### Times ten -/
def ml : List Nat → Nat → List Nat
  | [], k => [k]
  | x :: l, k => (x * 10 + k) % 65536 :: ml l ((x * 10 + k) / 65536)
theorem ml_val : ∀ (l : List Nat) (k : Nat), lval (ml l k) = lval l * 10 + k
  | [], k => by simp [ml, lval]
  | x :: l, k => by
    have := ml_val l ((x * 10 + k) / 65536)
    rw [ml, lval, this, lval]
    omega
theorem ml_lim : ∀ (l : List Nat) (k : Nat), lim l → k < 65536 → lim (ml l k)
  | [], k, _, hk => fun x hx => by rw [ml] at hx; rw [List.mem_singleton.1 hx]; exact hk
  | x :: l, k, h, hk => fun y hy => by
    have hx := h x List.mem_cons_self
    rw [ml] at hy
    rcases List.mem_cons.1 hy with rfl | hy
    · omega
    · exact ml_lim l _ (fun z hz => h z (List.mem_cons_of_mem _ hz)) (by omega) y hy
structure MuTo (l P : List Nat) (k i : Nat) : Prop where
  e : ml l 0 = P ++ ml (l.drop i) k
  n : P.length = i
  k : k < 10
theorem app_get {P R : List Nat} {k : Nat} : (P ++ k :: R)[P.length]! = k := by
  rw [getElem!_pos _ _ (by simp)]; simp
theorem app_set {P R : List Nat} {k d : Nat} : (P ++ k :: R).set P.length d = P ++ d :: R := by
  simp
theorem app_set1 {P R : List Nat} {k r d : Nat} : (P ++ k :: r :: R).set (P.length + 1) d = P ++ k :: d :: R := by
  simp
theorem imU_sl (l : List Nat) : Sl 1 (l.map u16R) (imU l) := .im
set_option maxRecDepth 100000 in
theorem times85 {l : List Nat} {x : D} (h : Sl 1 (l.map u16R) x) (hl : l.length ≤ 1000) (hm : lim l) : PRet VS 85 [x, imU [10]] (imU (limbs (lval l * 10))) := by
  have ht := trim_limbs (ml_lim l 0 hm (by omega))
  rw [ml_val, Nat.add_zero] at ht
  rw [← ht]
  have hb := imU_sl [10]
  have hmll : (ml l 0).length = l.length + 1 := by
    have : ∀ (l : List Nat) (k : Nat), (ml l k).length = l.length + 1 := fun l => by
      induction l with
      | nil => intro k; rfl
      | cons x l ih => intro k; rw [ml, List.length_cons, ih]; rfl
    exact this l 0
  refine .body (vf := v85) rfl rfl ?_
  simp (disch := omega) only [go_sem, Nat.reduceSub, v85, h.n, hb.n, rep_u, wr]
  refine ⟨⟨by omega, by omega, by omega⟩, Run.up (fun i st => ∃ P k a3 a4 a6 a7, MuTo l P k i ∧ st = ⟨[x, imU [10], .nil, a3, a4, .i .i64 i, a6, a7, .mu 0 (l.length + 1) 0 (l.length + 1)], [.ar 1 ((P ++ k :: List.replicate (l.length - i) 0).map u16R) (some (l.length + 1)) true false]⟩) l.length ⟨[], 0, .u, .u, .u, .u, ⟨rfl, rfl, by omega⟩, ?_⟩ ?_⟩
  · simp only [Nat.sub_zero, List.nil_append, List.replicate_succ]; rfl
  rintro i st hi ⟨P, k, a3, a4, a6, a7, ⟨he, hP, hk⟩, rfl⟩
  by_cases hlt : i < l.length
  · have hlt' : decide ((i : Int) < (l.length : Int)) = true := by simpa using hlt
    have hli : l[i]! < 65536 := hm _ (by rw [getElem!_pos l i hlt]; exact List.getElem_mem _)
    have hd : l.drop i = l[i]! :: l.drop (i + 1) := by rw [List.drop_eq_getElem_cons hlt, getElem!_pos l i hlt]
    rw [hd, ml] at he
    obtain ⟨v, hv⟩ : ∃ v, v = l[i]! * 10 + k := ⟨_, rfl⟩
    rw [← hv] at he
    have hvb : v < 655370 := by omega
    obtain ⟨R, hR⟩ : ∃ R, R = List.replicate (l.length - (i + 1)) 0 := ⟨_, rfl⟩
    have hrep : List.replicate (l.length - i) 0 = 0 :: R := by
      rw [hR, ← List.replicate_succ, show l.length - (i + 1) + 1 = l.length - i by omega]
    have hRl : R.length = l.length - (i + 1) := by rw [hR]; simp
    rw [hrep, ← hR]
    subst hP
    have g1 : (P ++ k :: 0 :: R)[P.length]! = k := app_get
    have ev : (0 : Int) + (l[P.length]! : Nat) * 10 + (k : Nat) = (v : Nat) := by omega
    have ev2 : ((l[P.length]! : Nat) : Int) * 10 + (k : Nat) = (v : Nat) := by omega
    have ed : ((v : Nat) : Int).tdiv 65536 = ((v / 65536 : Nat) : Int) := rfl
    have em : ((v : Nat) : Int).tmod 65536 = ((v % 65536 : Nat) : Int) := rfl
    have s1 : (P ++ k :: 0 :: R).set P.length (v % 65536) = P ++ (v % 65536) :: 0 :: R := app_set
    have s2 : (P ++ (v % 65536) :: 0 :: R).set (P.length + 1) (v / 65536) = P ++ (v % 65536) :: (v / 65536) :: R := app_set1
    have w1 : IntKind.u16.wrap ((v % 65536 : Nat) : Int) = ((v % 65536 : Nat) : Int) := wr16 (by omega) (by omega)
    have w2 : IntKind.u16.wrap ((v / 65536 : Nat) : Int) = ((v / 65536 : Nat) : Int) := wr16 (by omega) (by omega)
    have hnl : (P ++ k :: 0 :: R).length = l.length + 1 := by simp [hRl]; omega
    have hnl2 : (P ++ (v % 65536) :: 0 :: R).length = l.length + 1 := by simp [hRl]; omega
    have t10 : ([10] : List Nat)[0]! = 10 := rfl
    simp (disch := omega) only [go_sem, v85l1, h.n, hlt']
    rw [Run_loop]
    simp (disch := omega) only [go_sem, Nat.reduceLT, Int.reduceLE, Int.reduceLT, Int.reduceEq, v85l0, h.q, hb.n, hb.q, hb.under, h.under, u16R, wr, t10, hnl, g1, ev2, ed, em, w1, set_u, s1]
    refine ⟨by omega, by omega, by omega, ?_⟩
    rw [Run_loop]
    simp (disch := omega) only [go_sem, Nat.reduceEqDiff, Int.reduceLT, reduceCtorEq, hb.n, wr, hnl2, w2, set_u, s2, u16R]
    refine ⟨by omega, by omega, hlt, P ++ [v % 65536], v / 65536, ⟨by rw [he]; simp, by simp, by omega⟩, ?_⟩
    simp only [List.append_assoc, List.cons_append, List.nil_append]
  · have hil : i = l.length := by omega
    subst hil
    have hlt' : decide ((l.length : Int) < (l.length : Int)) = false := by simp
    rw [List.drop_length, ml] at he
    have hz : P ++ k :: List.replicate (l.length - l.length) 0 = ml l 0 := by rw [he, Nat.sub_self]; rfl
    rw [hz]
    have htk : ((ml l 0).map u16R).take (l.length + 1) = (ml l 0).map u16R := List.take_of_length_le (by rw [List.length_map, hmll]; exact Nat.le_refl _)
    have e86 := fun {K} => CallQ_p (V := VS) (f := 86) (vf := v86) (ds := [imU (ml l 0)]) (args := [.mu 0 (l.length + 1) 0 (l.length + 1)]) (H := [.ar 1 ((ml l 0).map u16R) (some (l.length + 1)) true false]) (H1 := [.ar 1 ((ml l 0).map u16R) (some (l.length + 1)) true true]) (K := K) rfl rfl (trimU (by rw [hmll]; omega)) (by simp only [go_sem, Nat.reduceAdd, hmll, htk, imU])
    simp (disch := omega) only [go_sem, v85l1, h.n, hlt', e86, v86, imU]
theorem c85w {l : List Nat} {x : D} (h : Sl 1 (l.map u16R) x) (hl : l.length ≤ 1000) (hm : lim l) {H : Heap} {K : CR → Prop} : CallQ VS 85 [x, .sv 1 [[.i .u16 10]]] H K ↔ K (.ret (imU (limbs (lval l * 10))) H) := by
  rw [CallQ_p (vf := v85) (H1 := H) rfl rfl (times85 h hl hm) (by
    have := fun m H => flat_freeze h.flat m H
    simp only [go_sem, Nat.reduceAdd, this, imU, u16R])]
  exact Iff.rfl

/-! ### Plus -/
def pls : List Nat → List Nat → Nat → List Nat
  | [], [], c => if c = 0 then [] else [c]
  | x :: l, [], c => (x + c) % 65536 :: pls l [] ((x + c) / 65536)
  | [], y :: m, c => (y + c) % 65536 :: pls [] m ((y + c) / 65536)
  | x :: l, y :: m, c => (x + y + c) % 65536 :: pls l m ((x + y + c) / 65536)
theorem pls_val : ∀ (l m : List Nat) (c : Nat), lval (pls l m c) = lval l + lval m + c
  | [], [], c => by
    rw [pls]; split <;> simp [lval] <;> omega
  | x :: l, [], c => by
    have := pls_val l [] ((x + c) / 65536)
    rw [pls]; simp only [lval] at this ⊢; omega
  | [], y :: m, c => by
    have := pls_val [] m ((y + c) / 65536)
    rw [pls]; simp only [lval] at this ⊢; omega
  | x :: l, y :: m, c => by
    have := pls_val l m ((x + y + c) / 65536)
    rw [pls]; simp only [lval] at this ⊢; omega
theorem pls_lim : ∀ (l m : List Nat) (c : Nat), c ≤ 1 → lim l → lim m → lim (pls l m c)
  | [], [], c, hc, _, _ => fun x hx => by
    rw [pls] at hx
    split at hx
    · cases hx
    · rw [List.mem_singleton.1 hx]; omega
  | x :: l, [], c, hc, hl, hm => fun z hz => by
    have hx := hl x List.mem_cons_self
    rw [pls] at hz
    rcases List.mem_cons.1 hz with rfl | hz
    · omega
    · exact pls_lim l [] _ (by omega) (fun w hw => hl w (List.mem_cons_of_mem _ hw)) hm z hz
  | [], y :: m, c, hc, hl, hm => fun z hz => by
    have hy := hm y List.mem_cons_self
    rw [pls] at hz
    rcases List.mem_cons.1 hz with rfl | hz
    · omega
    · exact pls_lim [] m _ (by omega) hl (fun w hw => hm w (List.mem_cons_of_mem _ hw)) z hz
  | x :: l, y :: m, c, hc, hl, hm => fun z hz => by
    have hx := hl x List.mem_cons_self
    have hy := hm y List.mem_cons_self
    rw [pls] at hz
    rcases List.mem_cons.1 hz with rfl | hz
    · omega
    · exact pls_lim l m _ (by omega) (fun w hw => hl w (List.mem_cons_of_mem _ hw)) (fun w hw => hm w (List.mem_cons_of_mem _ hw)) z hz
/-- No zero at the top. -/
def tk : List Nat → Prop
  | [] => True
  | x :: l => (l = [] → x ≠ 0) ∧ tk l
theorem tk_pos : ∀ {l : List Nat}, tk l → l ≠ [] → lval l ≠ 0
  | [], _, h => absurd rfl h
  | x :: l, h, _ => by
    rw [lval]
    by_cases e : l = []
    · have := h.1 e; omega
    · have := tk_pos h.2 e; omega
theorem tk_limbs : ∀ {l : List Nat}, lim l → tk l → l = limbs (lval l)
  | [], _, _ => by rw [lval, limbs, dif_pos rfl]
  | x :: l, h, ht => by
    have hx := h x List.mem_cons_self
    have hp := tk_pos ht (by simp)
    have ih := tk_limbs (l := l) (fun w hw => h w (List.mem_cons_of_mem _ hw)) ht.2
    rw [limbs_step hp, lval, show (x + 65536 * lval l) % 65536 = x by omega, show (x + 65536 * lval l) / 65536 = lval l by omega, ← ih]
theorem limbs_tk (u : Nat) : tk (limbs u) := by
  induction u using Nat.strongRecOn with
  | ind u ih =>
    rw [limbs]
    split
    · trivial
    · refine ⟨fun e => ?_, ih (u / 65536) (by omega)⟩
      have := limbs_nil.1 e
      omega
theorem pls_nil {l m : List Nat} {c : Nat} (h : pls l m c = []) : l = [] ∧ m = [] ∧ c = 0 := by
  cases l <;> cases m <;> rw [pls] at h <;> first | (split at h <;> simp_all) | cases h
theorem pls_tk : ∀ (l m : List Nat) (c : Nat), c ≤ 1 → lim l → lim m → tk l → tk m → tk (pls l m c)
  | [], [], c, hc, _, _, _, _ => by
    rw [pls]; split
    · trivial
    · exact ⟨fun _ => by omega, trivial⟩
  | x :: l, [], c, hc, hl, hm, t1, t2 => by
    have hx := hl x List.mem_cons_self
    rw [pls]
    refine ⟨fun e => ?_, pls_tk l [] _ (by omega) (fun w hw => hl w (List.mem_cons_of_mem _ hw)) hm t1.2 t2⟩
    obtain ⟨e1, _, e3⟩ := pls_nil e
    have := t1.1 e1
    omega
  | [], y :: m, c, hc, hl, hm, t1, t2 => by
    have hy := hm y List.mem_cons_self
    rw [pls]
    refine ⟨fun e => ?_, pls_tk [] m _ (by omega) hl (fun w hw => hm w (List.mem_cons_of_mem _ hw)) t1 t2.2⟩
    obtain ⟨_, e2, e3⟩ := pls_nil e
    have := t2.1 e2
    omega
  | x :: l, y :: m, c, hc, hl, hm, t1, t2 => by
    have hx := hl x List.mem_cons_self
    have hy := hm y List.mem_cons_self
    rw [pls]
    refine ⟨fun e => ?_, pls_tk l m _ (by omega) (fun w hw => hl w (List.mem_cons_of_mem _ hw)) (fun w hw => hm w (List.mem_cons_of_mem _ hw)) t1.2 t2.2⟩
    obtain ⟨e1, _, e3⟩ := pls_nil e
    have := t1.1 e1
    omega
theorem pls_limbs (a b : Nat) : pls (limbs a) (limbs b) 0 = limbs (a + b) := by
  have h := tk_limbs (pls_lim _ _ 0 (by omega) (limbs_lim a) (limbs_lim b)) (pls_tk _ _ 0 (by omega) (limbs_lim a) (limbs_lim b) (limbs_tk a) (limbs_tk b))
  rw [pls_val, limbs_val, limbs_val, Nat.add_zero] at h
  exact h
structure PlTo (l m P : List Nat) (c i : Nat) : Prop where
  e : pls l m 0 = P ++ pls (l.drop i) (m.drop i) c
  n : P.length = i
  cc : c ≤ 1
  z : l.length < i → m.length < i → c = 0
def gd (l : List Nat) (i : Nat) : Nat := if i < l.length then l[i]! else 0
theorem pls_step {l m : List Nat} {i c : Nat} (h : i < l.length ∨ i < m.length ∨ c ≠ 0) (hc : c ≤ 1) : pls (l.drop i) (m.drop i) c = (c + gd l i + gd m i) % 65536 :: pls (l.drop (i + 1)) (m.drop (i + 1)) ((c + gd l i + gd m i) / 65536) := by
  have d0 : ∀ {l : List Nat}, ¬ i < l.length → l.drop i = [] ∧ l.drop (i + 1) = [] ∧ gd l i = 0 := fun {l} h => ⟨List.drop_eq_nil_of_le (by omega), List.drop_eq_nil_of_le (by omega), if_neg h⟩
  have d1 : ∀ {l : List Nat}, i < l.length → l.drop i = gd l i :: l.drop (i + 1) := fun {l} h => by
    rw [List.drop_eq_getElem_cons h, gd, if_pos h, getElem!_pos l i h]
  by_cases h1 : i < l.length
  · by_cases h2 : i < m.length
    · rw [d1 h1, d1 h2, pls, show gd l i + gd m i + c = c + gd l i + gd m i by omega]
    · obtain ⟨e1, e2, e3⟩ := d0 h2
      rw [d1 h1, e1, e2, e3, pls, show gd l i + c = c + gd l i + 0 by omega]
  · obtain ⟨e1, e2, e3⟩ := d0 h1
    by_cases h2 : i < m.length
    · rw [d1 h2, e1, e2, e3, pls, show gd m i + c = c + 0 + gd m i by omega]
    · obtain ⟨e4, e5, e6⟩ := d0 h2
      rw [e1, e2, e3, e4, e5, e6, pls, if_neg (by omega), pls, if_pos (by omega)]
      simp; omega
theorem plus84 {l m : List Nat} {x y : D} (h : Sl 1 (l.map u16R) x) (h' : Sl 1 (m.map u16R) y) (hl : l.length ≤ 2000) (hl' : m.length ≤ 2000) (hm : lim l) (hm' : lim m) : PRet VS 84 [x, y] (uD (pls l m 0)) := by
  refine .body (vf := v84) rfl rfl ?_
  simp (disch := omega) only [go_sem, Nat.reduceSub, v84]
  refine Run.loop (fun j st => ∃ i P c a3 a4 a5, j = 4002 - i ∧ i ≤ 2001 ∧ PlTo l m P c i ∧ st = ⟨[x, y, .nil, a3, a4, a5, bD [] .nil (P.map u16R), .i .i64 c, .i .i64 i], bH [] 1 (P.map u16R)⟩) 4002 ⟨0, [], 0, .u, .u, .u, rfl, by omega, ⟨rfl, rfl, by omega, fun _ _ => rfl⟩, rfl⟩ ?_
  rintro j st ⟨i, P, c, a3, a4, a5, hj, hi, ⟨he, hP, hc, hz⟩, rfl⟩
  by_cases hgo : i < l.length ∨ i < m.length ∨ c ≠ 0
  · have hst := pls_step hgo hc
    rw [hst] at he
    obtain ⟨v, hv⟩ : ∃ v, v = c + gd l i + gd m i := ⟨_, rfl⟩
    rw [← hv] at he
    have hg1 : gd l i < 65536 := by
      unfold gd; split
      · rename_i h1; exact hm _ (by rw [getElem!_pos l i h1]; exact List.getElem_mem _)
      · omega
    have hg2 : gd m i < 65536 := by
      unfold gd; split
      · rename_i h1; exact hm' _ (by rw [getElem!_pos m i h1]; exact List.getElem_mem _)
      · omega
    have hi1 : i ≤ 2000 := by
      rcases hgo with h1 | h1 | h1
      · omega
      · omega
      · by_cases h2 : i ≤ 2000
        · exact h2
        · exact absurd (hz (by omega) (by omega)) h1
    have ed : ((v : Nat) : Int).tdiv 65536 = ((v / 65536 : Nat) : Int) := rfl
    have em : ((v : Nat) : Int).tmod 65536 = ((v % 65536 : Nat) : Int) := rfl
    have w1 : IntKind.u16.wrap ((v % 65536 : Nat) : Int) = ((v % 65536 : Nat) : Int) := wr16 (by omega) (by omega)
    have hsn : P.map u16R ++ [[.i .u16 ((v % 65536 : Nat) : Int)]] = (P ++ [v % 65536]).map u16R := snoc_u
    have hnew : PlTo l m (P ++ [v % 65536]) (v / 65536) (i + 1) := ⟨by rw [he]; simp, by simp [hP], by omega, fun h1 h2 => by
      have e1 : gd l i = 0 ∨ i < l.length := by unfold gd; split <;> omega
      have e2 : gd m i = 0 ∨ i < m.length := by unfold gd; split <;> omega
      omega⟩
    have hb3 : decide ((c : Int) > 0) = decide (c ≠ 0) := by
      by_cases h0 : c = 0
      · subst h0; rfl
      · rw [decide_eq_true (by omega), decide_eq_true h0]
    by_cases h1 : i < l.length
    · have b1 : decide ((i : Int) < (l.length : Int)) = true := by simpa using h1
      by_cases h2 : i < m.length
      · have b2 : decide ((i : Int) < (m.length : Int)) = true := by simpa using h2
        have ev : (c : Int) + (l[i]! : Nat) + (m[i]! : Nat) = (v : Nat) := by
          rw [hv]; simp only [gd, if_pos h1, if_pos h2]; omega
        simp only [gd, if_pos h1, if_pos h2] at hg1 hg2
        simp (disch := omega) only [go_sem, Nat.reduceLT, Int.reduceEq, v84l0, h.n, h'.n, h.q, h'.q, u16R, wr, b1, b2, ev, ed, em, w1, app_n, hsn]
        exact ⟨by omega, by omega, _, by omega, i + 1, rfl, by omega, _, _, hnew, ⟨rfl, rfl, by omega⟩, rfl⟩
      · have b2 : decide ((i : Int) < (m.length : Int)) = false := by simpa using h2
        have ev : (c : Int) + (l[i]! : Nat) = (v : Nat) := by
          rw [hv]; simp only [gd, if_pos h1, if_neg h2]; omega
        simp only [gd, if_pos h1] at hg1
        simp (disch := omega) only [go_sem, Nat.reduceLT, Int.reduceEq, v84l0, h.n, h'.n, h.q, u16R, wr, b1, b2, ev, ed, em, w1, app_n, hsn]
        exact ⟨by omega, _, by omega, i + 1, rfl, by omega, _, _, hnew, ⟨rfl, rfl, by omega⟩, rfl⟩
    · have b1 : decide ((i : Int) < (l.length : Int)) = false := by simpa using h1
      by_cases h2 : i < m.length
      · have b2 : decide ((i : Int) < (m.length : Int)) = true := by simpa using h2
        have ev : (c : Int) + (m[i]! : Nat) = (v : Nat) := by
          rw [hv]; simp only [gd, if_neg h1, if_pos h2]; omega
        simp only [gd, if_pos h2] at hg2
        simp (disch := omega) only [go_sem, Nat.reduceLT, Int.reduceEq, v84l0, h.n, h'.n, h'.q, u16R, wr, b1, b2, ev, ed, em, w1, app_n, hsn]
        exact ⟨by omega, _, by omega, i + 1, rfl, by omega, _, _, hnew, ⟨rfl, rfl, by omega⟩, rfl⟩
      · have b2 : decide ((i : Int) < (m.length : Int)) = false := by simpa using h2
        have h3 : c ≠ 0 := by omega
        have b3 : decide ((c : Int) > 0) = true := by rw [hb3]; exact decide_eq_true h3
        have ev : c = v := by
          rw [hv]; simp only [gd, if_neg h1, if_neg h2]; omega
        subst ev
        simp (disch := omega) only [go_sem, Nat.reduceLT, Int.reduceEq, v84l0, h.n, h'.n, wr, b1, b2, b3, ed, em, w1, app_n, hsn]
        exact ⟨_, by omega, i + 1, rfl, by omega, _, _, hnew, ⟨rfl, rfl, by omega⟩, rfl⟩
  · have h1 : ¬ i < l.length := by omega
    have h2 : ¬ i < m.length := by omega
    have h3 : c = 0 := by omega
    subst h3
    have b1 : decide ((i : Int) < (l.length : Int)) = false := by simpa using h1
    have b2 : decide ((i : Int) < (m.length : Int)) = false := by simpa using h2
    rw [List.drop_eq_nil_of_le (by omega), List.drop_eq_nil_of_le (by omega), pls, if_pos rfl, List.append_nil] at he
    have fx : ∀ m, Dm.freeze (m + 1) (bH [] 1 (P.map u16R)) (bD [] .nil (P.map u16R)) = some (uD P, bHl [] 1 (P.map u16R)) := fz_u
    rw [he]
    simp (disch := omega) only [go_sem, Int.reduceLT, v84l0, h.n, h'.n, b1, b2]
    rfl
theorem c84w {a b : Nat} {x y : D} (h : Sl 1 ((limbs a).map u16R) x) (h' : Sl 1 ((limbs b).map u16R) y) (hl : (limbs a).length ≤ 2000) (hl' : (limbs b).length ≤ 2000) {H : Heap} {K : CR → Prop} : CallQ VS 84 [x, y] H K ↔ K (.ret (uD (limbs (a + b))) H) := by
  rw [← pls_limbs]
  exact (plus84 h h' hl hl' (limbs_lim a) (limbs_lim b)).c (vf := v84) rfl rfl (by simp [h.pl, h'.pl]) (.inl rfl)
end Go.Proofs.YtnhbopeopppojaaGreatDoor.Dv
