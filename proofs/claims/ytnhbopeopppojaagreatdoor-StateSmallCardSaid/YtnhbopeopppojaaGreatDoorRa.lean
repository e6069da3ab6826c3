/-
  The reference's decimals and words.
-/
import Derived.Test.YtnhbopeopppojaaGreatDoorSe
namespace Go.Proofs.YtnhbopeopppojaaGreatDoor.Dv
open Go.Dm Go.Proofs
theorem trim_limbs : ∀ {l : List Nat}, lim l → trim l = limbs (lval l)
  | [], _ => by rw [lval, limbs, dif_pos rfl]; rfl
  | x :: l, h => by
    have hx := h x List.mem_cons_self
    have ih := trim_limbs (l := l) fun y hy => h y (List.mem_cons_of_mem _ hy)
    have hn := trim_nil l
    rw [trim, lval]
    by_cases c : trim l = [] ∧ x = 0
    · rw [if_pos c, limbs, dif_pos]
      have := hn.1 c.1
      rw [this, c.2]
    · rw [if_neg c]
      have hne : x + 65536 * lval l ≠ 0 := fun e => c ⟨hn.2 (by omega), by omega⟩
      rw [limbs_step hne, show (x + 65536 * lval l) % 65536 = x by omega, show (x + 65536 * lval l) / 65536 = lval l by omega, ih]
theorem lval_lt : ∀ {l : List Nat}, lim l → lval l < 65536 ^ l.length
  | [], _ => by simp [lval]
  | x :: l, h => by
    have hx := h x List.mem_cons_self
    have ih := lval_lt (l := l) fun y hy => h y (List.mem_cons_of_mem _ hy)
    rw [lval, List.length_cons, Nat.pow_succ]
    omega
def ml : List Nat → Nat → List Nat
  | [], k => [k]
  | x :: l, k => (x * 10 + k) % 65536 :: ml l ((x * 10 + k) / 65536)
theorem ml_val : ∀ (l : List Nat) (k : Nat), lval (ml l k) = lval l * 10 + k
  | [], k => by simp [ml, lval]
  | x :: l, k => by
    have := ml_val l ((x * 10 + k) / 65536)
    rw [ml, lval, this, lval]
    omega
theorem ml_lim : ∀ (l : List Nat) (k : Nat), lim l → k < 65536 → lim (ml l k)
  | [], k, _, hk => fun x hx => by rw [ml] at hx; rw [List.mem_singleton.1 hx]; exact hk
  | x :: l, k, h, hk => fun y hy => by
    have hx := h x List.mem_cons_self
    rw [ml] at hy
    rcases List.mem_cons.1 hy with rfl | hy
    · omega
    · exact ml_lim l _ (fun z hz => h z (List.mem_cons_of_mem _ hz)) (by omega) y hy
structure MuTo (l P : List Nat) (k i : Nat) : Prop where
  e : ml l 0 = P ++ ml (l.drop i) k
  n : P.length = i
  k : k < 10
theorem app_get {P R : List Nat} {k : Nat} : (P ++ k :: R)[P.length]! = k := by
  rw [getElem!_pos _ _ (by simp)]; simp
theorem app_set {P R : List Nat} {k d : Nat} : (P ++ k :: R).set P.length d = P ++ d :: R := by
  simp
theorem app_set1 {P R : List Nat} {k r d : Nat} : (P ++ k :: r :: R).set (P.length + 1) d = P ++ k :: d :: R := by
  simp
theorem imU_sl (l : List Nat) : Sl 1 (l.map u16R) (imU l) := .im
set_option maxRecDepth 100000 in
theorem times85 {l : List Nat} {x : D} (h : Sl 1 (l.map u16R) x) (hl : l.length ≤ 1000) (hm : lim l) : PRet VS 85 [x, imU [10]] (imU (limbs (lval l * 10))) := by
  have ht := trim_limbs (ml_lim l 0 hm (by omega))
  rw [ml_val, Nat.add_zero] at ht
  rw [← ht]
  have hb := imU_sl [10]
  have hmll : (ml l 0).length = l.length + 1 := by
    have : ∀ (l : List Nat) (k : Nat), (ml l k).length = l.length + 1 := fun l => by
      induction l with
      | nil => intro k; rfl
      | cons x l ih => intro k; rw [ml, List.length_cons, ih]; rfl
    exact this l 0
  refine .body (vf := v85) rfl rfl ?_
  simp (disch := omega) only [go_sem, Nat.reduceSub, v85, h.n, hb.n, rep_u, wr]
  refine ⟨⟨by omega, by omega, by omega⟩, Run.up (fun i st => ∃ P k a3 a4 a6 a7, MuTo l P k i ∧ st = ⟨[x, imU [10], .nil, a3, a4, .i .i64 i, a6, a7, .mu 0 (l.length + 1) 0 (l.length + 1)], [.ar 1 ((P ++ k :: List.replicate (l.length - i) 0).map u16R) (some (l.length + 1)) true false]⟩) l.length ⟨[], 0, .u, .u, .u, .u, ⟨rfl, rfl, by omega⟩, ?_⟩ ?_⟩
  · simp only [Nat.sub_zero, List.nil_append, List.replicate_succ]; rfl
  rintro i st hi ⟨P, k, a3, a4, a6, a7, ⟨he, hP, hk⟩, rfl⟩
  by_cases hlt : i < l.length
  · have hlt' : decide ((i : Int) < (l.length : Int)) = true := by simpa using hlt
    have hli : l[i]! < 65536 := hm _ (by rw [getElem!_pos l i hlt]; exact List.getElem_mem _)
    have hd : l.drop i = l[i]! :: l.drop (i + 1) := by rw [List.drop_eq_getElem_cons hlt, getElem!_pos l i hlt]
    rw [hd, ml] at he
    obtain ⟨v, hv⟩ : ∃ v, v = l[i]! * 10 + k := ⟨_, rfl⟩
    rw [← hv] at he
    have hvb : v < 655370 := by omega
    obtain ⟨R, hR⟩ : ∃ R, R = List.replicate (l.length - (i + 1)) 0 := ⟨_, rfl⟩
    have hrep : List.replicate (l.length - i) 0 = 0 :: R := by
      rw [hR, ← List.replicate_succ, show l.length - (i + 1) + 1 = l.length - i by omega]
    have hRl : R.length = l.length - (i + 1) := by rw [hR]; simp
    rw [hrep, ← hR]
    subst hP
    have g1 : (P ++ k :: 0 :: R)[P.length]! = k := app_get
    have ev : (0 : Int) + (l[P.length]! : Nat) * 10 + (k : Nat) = (v : Nat) := by omega
    have ev2 : ((l[P.length]! : Nat) : Int) * 10 + (k : Nat) = (v : Nat) := by omega
    have ed : ((v : Nat) : Int).tdiv 65536 = ((v / 65536 : Nat) : Int) := rfl
    have em : ((v : Nat) : Int).tmod 65536 = ((v % 65536 : Nat) : Int) := rfl
    have s1 : (P ++ k :: 0 :: R).set P.length (v % 65536) = P ++ (v % 65536) :: 0 :: R := app_set
    have s2 : (P ++ (v % 65536) :: 0 :: R).set (P.length + 1) (v / 65536) = P ++ (v % 65536) :: (v / 65536) :: R := app_set1
    have w1 : IntKind.u16.wrap ((v % 65536 : Nat) : Int) = ((v % 65536 : Nat) : Int) := wr16 (by omega) (by omega)
    have w2 : IntKind.u16.wrap ((v / 65536 : Nat) : Int) = ((v / 65536 : Nat) : Int) := wr16 (by omega) (by omega)
    have hnl : (P ++ k :: 0 :: R).length = l.length + 1 := by simp [hRl]; omega
    have hnl2 : (P ++ (v % 65536) :: 0 :: R).length = l.length + 1 := by simp [hRl]; omega
    have t10 : ([10] : List Nat)[0]! = 10 := rfl
    simp (disch := omega) only [go_sem, v85l1, h.n, hlt']
    rw [Run_loop]
    simp (disch := omega) only [go_sem, Nat.reduceLT, Int.reduceLE, Int.reduceLT, Int.reduceEq, v85l0, h.q, hb.n, hb.q, hb.under, h.under, u16R, wr, t10, hnl, g1, ev2, ed, em, w1, set_u, s1]
    refine ⟨by omega, by omega, by omega, ?_⟩
    rw [Run_loop]
    simp (disch := omega) only [go_sem, Nat.reduceEqDiff, Int.reduceLT, reduceCtorEq, hb.n, wr, hnl2, w2, set_u, s2, u16R]
    refine ⟨by omega, by omega, hlt, P ++ [v % 65536], v / 65536, ⟨by rw [he]; simp, by simp, by omega⟩, ?_⟩
    simp only [List.append_assoc, List.cons_append, List.nil_append]
  · have hil : i = l.length := by omega
    subst hil
    have hlt' : decide ((l.length : Int) < (l.length : Int)) = false := by simp
    rw [List.drop_length, ml] at he
    have hz : P ++ k :: List.replicate (l.length - l.length) 0 = ml l 0 := by rw [he, Nat.sub_self]; rfl
    rw [hz]
    have htk : ((ml l 0).map u16R).take (l.length + 1) = (ml l 0).map u16R := List.take_of_length_le (by rw [List.length_map, hmll]; exact Nat.le_refl _)
    have e86 := fun {K} => CallQ_p (V := VS) (f := 86) (vf := v86) (ds := [imU (ml l 0)]) (args := [.mu 0 (l.length + 1) 0 (l.length + 1)]) (H := [.ar 1 ((ml l 0).map u16R) (some (l.length + 1)) true false]) (H1 := [.ar 1 ((ml l 0).map u16R) (some (l.length + 1)) true true]) (K := K) rfl rfl (trimU (by rw [hmll]; omega)) (by simp only [go_sem, Nat.reduceAdd, hmll, htk, imU])
    simp (disch := omega) only [go_sem, v85l1, h.n, hlt', e86, v86, imU]
theorem c85w {l : List Nat} {x : D} (h : Sl 1 (l.map u16R) x) (hl : l.length ≤ 1000) (hm : lim l) {H : Heap} {K : CR → Prop} : CallQ VS 85 [x, .sv 1 [[.i .u16 10]]] H K ↔ K (.ret (imU (limbs (lval l * 10))) H) := by
  rw [CallQ_p (vf := v85) (H1 := H) rfl rfl (times85 h hl hm) (by
    have := fun m H => flat_freeze h.flat m H
    simp only [go_sem, Nat.reduceAdd, this, imU, u16R])]
  exact Iff.rfl
def pls : List Nat → List Nat → Nat → List Nat
  | [], [], c => if c = 0 then [] else [c]
  | x :: l, [], c => (x + c) % 65536 :: pls l [] ((x + c) / 65536)
  | [], y :: m, c => (y + c) % 65536 :: pls [] m ((y + c) / 65536)
  | x :: l, y :: m, c => (x + y + c) % 65536 :: pls l m ((x + y + c) / 65536)
theorem pls_val : ∀ (l m : List Nat) (c : Nat), lval (pls l m c) = lval l + lval m + c
  | [], [], c => by
    rw [pls]; split <;> simp [lval] <;> omega
  | x :: l, [], c => by
    have := pls_val l [] ((x + c) / 65536)
    rw [pls]; simp only [lval] at this ⊢; omega
  | [], y :: m, c => by
    have := pls_val [] m ((y + c) / 65536)
    rw [pls]; simp only [lval] at this ⊢; omega
  | x :: l, y :: m, c => by
    have := pls_val l m ((x + y + c) / 65536)
    rw [pls]; simp only [lval] at this ⊢; omega
theorem pls_lim : ∀ (l m : List Nat) (c : Nat), c ≤ 1 → lim l → lim m → lim (pls l m c)
  | [], [], c, hc, _, _ => fun x hx => by
    rw [pls] at hx
    split at hx
    · cases hx
    · rw [List.mem_singleton.1 hx]; omega
  | x :: l, [], c, hc, hl, hm => fun z hz => by
    have hx := hl x List.mem_cons_self
    rw [pls] at hz
    rcases List.mem_cons.1 hz with rfl | hz
    · omega
    · exact pls_lim l [] _ (by omega) (fun w hw => hl w (List.mem_cons_of_mem _ hw)) hm z hz
  | [], y :: m, c, hc, hl, hm => fun z hz => by
    have hy := hm y List.mem_cons_self
    rw [pls] at hz
    rcases List.mem_cons.1 hz with rfl | hz
    · omega
    · exact pls_lim [] m _ (by omega) hl (fun w hw => hm w (List.mem_cons_of_mem _ hw)) z hz
  | x :: l, y :: m, c, hc, hl, hm => fun z hz => by
    have hx := hl x List.mem_cons_self
    have hy := hm y List.mem_cons_self
    rw [pls] at hz
    rcases List.mem_cons.1 hz with rfl | hz
    · omega
    · exact pls_lim l m _ (by omega) (fun w hw => hl w (List.mem_cons_of_mem _ hw)) (fun w hw => hm w (List.mem_cons_of_mem _ hw)) z hz
def tk : List Nat → Prop
  | [] => True
  | x :: l => (l = [] → x ≠ 0) ∧ tk l
theorem tk_pos : ∀ {l : List Nat}, tk l → l ≠ [] → lval l ≠ 0
  | [], _, h => absurd rfl h
  | x :: l, h, _ => by
    rw [lval]
    by_cases e : l = []
    · have := h.1 e; omega
    · have := tk_pos h.2 e; omega
theorem tk_limbs : ∀ {l : List Nat}, lim l → tk l → l = limbs (lval l)
  | [], _, _ => by rw [lval, limbs, dif_pos rfl]
  | x :: l, h, ht => by
    have hx := h x List.mem_cons_self
    have hp := tk_pos ht (by simp)
    have ih := tk_limbs (l := l) (fun w hw => h w (List.mem_cons_of_mem _ hw)) ht.2
    rw [limbs_step hp, lval, show (x + 65536 * lval l) % 65536 = x by omega, show (x + 65536 * lval l) / 65536 = lval l by omega, ← ih]
theorem limbs_tk (u : Nat) : tk (limbs u) := by
  induction u using Nat.strongRecOn with
  | ind u ih =>
    rw [limbs]
    split
    · trivial
    · refine ⟨fun e => ?_, ih (u / 65536) (by omega)⟩
      have := limbs_nil.1 e
      omega
theorem pls_nil {l m : List Nat} {c : Nat} (h : pls l m c = []) : l = [] ∧ m = [] ∧ c = 0 := by
  cases l <;> cases m <;> rw [pls] at h <;> first | (split at h <;> simp_all) | cases h
theorem pls_tk : ∀ (l m : List Nat) (c : Nat), c ≤ 1 → lim l → lim m → tk l → tk m → tk (pls l m c)
  | [], [], c, hc, _, _, _, _ => by
    rw [pls]; split
    · trivial
    · exact ⟨fun _ => by omega, trivial⟩
  | x :: l, [], c, hc, hl, hm, t1, t2 => by
    have hx := hl x List.mem_cons_self
    rw [pls]
    refine ⟨fun e => ?_, pls_tk l [] _ (by omega) (fun w hw => hl w (List.mem_cons_of_mem _ hw)) hm t1.2 t2⟩
    obtain ⟨e1, _, e3⟩ := pls_nil e
    have := t1.1 e1
    omega
  | [], y :: m, c, hc, hl, hm, t1, t2 => by
    have hy := hm y List.mem_cons_self
    rw [pls]
    refine ⟨fun e => ?_, pls_tk [] m _ (by omega) hl (fun w hw => hm w (List.mem_cons_of_mem _ hw)) t1 t2.2⟩
    obtain ⟨_, e2, e3⟩ := pls_nil e
    have := t2.1 e2
    omega
  | x :: l, y :: m, c, hc, hl, hm, t1, t2 => by
    have hx := hl x List.mem_cons_self
    have hy := hm y List.mem_cons_self
    rw [pls]
    refine ⟨fun e => ?_, pls_tk l m _ (by omega) (fun w hw => hl w (List.mem_cons_of_mem _ hw)) (fun w hw => hm w (List.mem_cons_of_mem _ hw)) t1.2 t2.2⟩
    obtain ⟨e1, _, e3⟩ := pls_nil e
    have := t1.1 e1
    omega
theorem pls_limbs (a b : Nat) : pls (limbs a) (limbs b) 0 = limbs (a + b) := by
  have h := tk_limbs (pls_lim _ _ 0 (by omega) (limbs_lim a) (limbs_lim b)) (pls_tk _ _ 0 (by omega) (limbs_lim a) (limbs_lim b) (limbs_tk a) (limbs_tk b))
  rw [pls_val, limbs_val, limbs_val, Nat.add_zero] at h
  exact h
structure PlTo (l m P : List Nat) (c i : Nat) : Prop where
  e : pls l m 0 = P ++ pls (l.drop i) (m.drop i) c
  n : P.length = i
  cc : c ≤ 1
  z : l.length < i → m.length < i → c = 0
def gd (l : List Nat) (i : Nat) : Nat := if i < l.length then l[i]! else 0
theorem pls_step {l m : List Nat} {i c : Nat} (h : i < l.length ∨ i < m.length ∨ c ≠ 0) (hc : c ≤ 1) : pls (l.drop i) (m.drop i) c = (c + gd l i + gd m i) % 65536 :: pls (l.drop (i + 1)) (m.drop (i + 1)) ((c + gd l i + gd m i) / 65536) := by
  have d0 : ∀ {l : List Nat}, ¬ i < l.length → l.drop i = [] ∧ l.drop (i + 1) = [] ∧ gd l i = 0 := fun {l} h => ⟨List.drop_eq_nil_of_le (by omega), List.drop_eq_nil_of_le (by omega), if_neg h⟩
  have d1 : ∀ {l : List Nat}, i < l.length → l.drop i = gd l i :: l.drop (i + 1) := fun {l} h => by
    rw [List.drop_eq_getElem_cons h, gd, if_pos h, getElem!_pos l i h]
  by_cases h1 : i < l.length
  · by_cases h2 : i < m.length
    · rw [d1 h1, d1 h2, pls, show gd l i + gd m i + c = c + gd l i + gd m i by omega]
    · obtain ⟨e1, e2, e3⟩ := d0 h2
      rw [d1 h1, e1, e2, e3, pls, show gd l i + c = c + gd l i + 0 by omega]
  · obtain ⟨e1, e2, e3⟩ := d0 h1
    by_cases h2 : i < m.length
    · rw [d1 h2, e1, e2, e3, pls, show gd m i + c = c + 0 + gd m i by omega]
    · obtain ⟨e4, e5, e6⟩ := d0 h2
      rw [e1, e2, e3, e4, e5, e6, pls, if_neg (by omega), pls, if_pos (by omega)]
      simp; omega
theorem plus84 {l m : List Nat} {x y : D} (h : Sl 1 (l.map u16R) x) (h' : Sl 1 (m.map u16R) y) (hl : l.length ≤ 2000) (hl' : m.length ≤ 2000) (hm : lim l) (hm' : lim m) : PRet VS 84 [x, y] (uD (pls l m 0)) := by
  refine .body (vf := v84) rfl rfl ?_
  simp (disch := omega) only [go_sem, Nat.reduceSub, v84]
  refine Run.loop (fun j st => ∃ i P c a3 a4 a5, j = 4002 - i ∧ i ≤ 2001 ∧ PlTo l m P c i ∧ st = ⟨[x, y, .nil, a3, a4, a5, bD [] .nil (P.map u16R), .i .i64 c, .i .i64 i], bH [] 1 (P.map u16R)⟩) 4002 ⟨0, [], 0, .u, .u, .u, rfl, by omega, ⟨rfl, rfl, by omega, fun _ _ => rfl⟩, rfl⟩ ?_
  rintro j st ⟨i, P, c, a3, a4, a5, hj, hi, ⟨he, hP, hc, hz⟩, rfl⟩
  by_cases hgo : i < l.length ∨ i < m.length ∨ c ≠ 0
  · have hst := pls_step hgo hc
    rw [hst] at he
    obtain ⟨v, hv⟩ : ∃ v, v = c + gd l i + gd m i := ⟨_, rfl⟩
    rw [← hv] at he
    have hg1 : gd l i < 65536 := by
      unfold gd; split
      · rename_i h1; exact hm _ (by rw [getElem!_pos l i h1]; exact List.getElem_mem _)
      · omega
    have hg2 : gd m i < 65536 := by
      unfold gd; split
      · rename_i h1; exact hm' _ (by rw [getElem!_pos m i h1]; exact List.getElem_mem _)
      · omega
    have hi1 : i ≤ 2000 := by
      rcases hgo with h1 | h1 | h1
      · omega
      · omega
      · by_cases h2 : i ≤ 2000
        · exact h2
        · exact absurd (hz (by omega) (by omega)) h1
    have ed : ((v : Nat) : Int).tdiv 65536 = ((v / 65536 : Nat) : Int) := rfl
    have em : ((v : Nat) : Int).tmod 65536 = ((v % 65536 : Nat) : Int) := rfl
    have w1 : IntKind.u16.wrap ((v % 65536 : Nat) : Int) = ((v % 65536 : Nat) : Int) := wr16 (by omega) (by omega)
    have hsn : P.map u16R ++ [[.i .u16 ((v % 65536 : Nat) : Int)]] = (P ++ [v % 65536]).map u16R := snoc_u
    have hnew : PlTo l m (P ++ [v % 65536]) (v / 65536) (i + 1) := ⟨by rw [he]; simp, by simp [hP], by omega, fun h1 h2 => by
      have e1 : gd l i = 0 ∨ i < l.length := by unfold gd; split <;> omega
      have e2 : gd m i = 0 ∨ i < m.length := by unfold gd; split <;> omega
      omega⟩
    have hb3 : decide ((c : Int) > 0) = decide (c ≠ 0) := by
      by_cases h0 : c = 0
      · subst h0; rfl
      · rw [decide_eq_true (by omega), decide_eq_true h0]
    by_cases h1 : i < l.length
    · have b1 : decide ((i : Int) < (l.length : Int)) = true := by simpa using h1
      by_cases h2 : i < m.length
      · have b2 : decide ((i : Int) < (m.length : Int)) = true := by simpa using h2
        have ev : (c : Int) + (l[i]! : Nat) + (m[i]! : Nat) = (v : Nat) := by
          rw [hv]; simp only [gd, if_pos h1, if_pos h2]; omega
        simp only [gd, if_pos h1, if_pos h2] at hg1 hg2
        simp (disch := omega) only [go_sem, Nat.reduceLT, Int.reduceEq, v84l0, h.n, h'.n, h.q, h'.q, u16R, wr, b1, b2, ev, ed, em, w1, app_n, hsn]
        exact ⟨by omega, by omega, _, by omega, i + 1, rfl, by omega, _, _, hnew, ⟨rfl, rfl, by omega⟩, rfl⟩
      · have b2 : decide ((i : Int) < (m.length : Int)) = false := by simpa using h2
        have ev : (c : Int) + (l[i]! : Nat) = (v : Nat) := by
          rw [hv]; simp only [gd, if_pos h1, if_neg h2]; omega
        simp only [gd, if_pos h1] at hg1
        simp (disch := omega) only [go_sem, Nat.reduceLT, Int.reduceEq, v84l0, h.n, h'.n, h.q, u16R, wr, b1, b2, ev, ed, em, w1, app_n, hsn]
        exact ⟨by omega, _, by omega, i + 1, rfl, by omega, _, _, hnew, ⟨rfl, rfl, by omega⟩, rfl⟩
    · have b1 : decide ((i : Int) < (l.length : Int)) = false := by simpa using h1
      by_cases h2 : i < m.length
      · have b2 : decide ((i : Int) < (m.length : Int)) = true := by simpa using h2
        have ev : (c : Int) + (m[i]! : Nat) = (v : Nat) := by
          rw [hv]; simp only [gd, if_neg h1, if_pos h2]; omega
        simp only [gd, if_pos h2] at hg2
        simp (disch := omega) only [go_sem, Nat.reduceLT, Int.reduceEq, v84l0, h.n, h'.n, h'.q, u16R, wr, b1, b2, ev, ed, em, w1, app_n, hsn]
        exact ⟨by omega, _, by omega, i + 1, rfl, by omega, _, _, hnew, ⟨rfl, rfl, by omega⟩, rfl⟩
      · have b2 : decide ((i : Int) < (m.length : Int)) = false := by simpa using h2
        have h3 : c ≠ 0 := by omega
        have b3 : decide ((c : Int) > 0) = true := by rw [hb3]; exact decide_eq_true h3
        have ev : c = v := by
          rw [hv]; simp only [gd, if_neg h1, if_neg h2]; omega
        subst ev
        simp (disch := omega) only [go_sem, Nat.reduceLT, Int.reduceEq, v84l0, h.n, h'.n, wr, b1, b2, b3, ed, em, w1, app_n, hsn]
        exact ⟨_, by omega, i + 1, rfl, by omega, _, _, hnew, ⟨rfl, rfl, by omega⟩, rfl⟩
  · have h1 : ¬ i < l.length := by omega
    have h2 : ¬ i < m.length := by omega
    have h3 : c = 0 := by omega
    subst h3
    have b1 : decide ((i : Int) < (l.length : Int)) = false := by simpa using h1
    have b2 : decide ((i : Int) < (m.length : Int)) = false := by simpa using h2
    rw [List.drop_eq_nil_of_le (by omega), List.drop_eq_nil_of_le (by omega), pls, if_pos rfl, List.append_nil] at he
    have fx : ∀ m, Dm.freeze (m + 1) (bH [] 1 (P.map u16R)) (bD [] .nil (P.map u16R)) = some (uD P, bHl [] 1 (P.map u16R)) := fz_u
    rw [he]
    simp (disch := omega) only [go_sem, Int.reduceLT, v84l0, h.n, h'.n, b1, b2]
    rfl
theorem c84w {a b : Nat} {x y : D} (h : Sl 1 ((limbs a).map u16R) x) (h' : Sl 1 ((limbs b).map u16R) y) (hl : (limbs a).length ≤ 2000) (hl' : (limbs b).length ≤ 2000) {H : Heap} {K : CR → Prop} : CallQ VS 84 [x, y] H K ↔ K (.ret (uD (limbs (a + b))) H) := by
  rw [← pls_limbs]
  exact (plus84 h h' hl hl' (limbs_lim a) (limbs_lim b)).c (vf := v84) rfl rfl (by simp [h.pl, h'.pl]) (.inl rfl)
open Go.Dm Go.Proofs
def negW (w : List UInt8) : Bool := decide (1 < w.length) && decide (w[0]!.toNat = 45)
def fromW (w : List UInt8) : Nat := if negW w = true then 1 else 0
structure DecW (w : List UInt8) : Prop where
  ne : 0 < w.length
  z : negW w = true → w[1]!.toNat ≠ 48
  z2 : 1 < w.length → w[fromW w]!.toNat ≠ 48
  ds : ∀ k, fromW w ≤ k → k < w.length → isD w[k]! = true
noncomputable instance (w : List UInt8) : Decidable (DecW w) := Classical.propDecidable _
structure dgTo (w : List UInt8) (i : Nat) : Prop where
  h : ∀ k, fromW w ≤ k → k < i → isD w[k]! = true
theorem dec_loop {w : List UInt8} (hl : w.length ≤ 1000000) (h0 : 0 < w.length) (hz : negW w = true → w[1]!.toNat ≠ 48) (hz2 : 1 < w.length → w[fromW w]!.toNat ≠ 48) {a2 a3 a4 a5 a6 : D} {Q : Ex → St → Prop}
    (hq : ∀ b2 b3 b4 b5 b6 b8 r, r = decide (DecW w) → Q .rt ⟨[.s w, .b r, b2, b3, b4, b5, b6, .i .i64 (fromW w : Nat), b8], []⟩) (hq2 : DecW w → ∀ b2 b3 b4 b5 b6 b8, Q (.ex 0) ⟨[.s w, .b false, b2, b3, b4, b5, b6, .i .i64 (fromW w : Nat), b8], []⟩) :
    Run VS (.loop v83l0) ⟨[.s w, .b false, a2, a3, a4, a5, a6, .i .i64 (fromW w : Nat), .i .i64 (fromW w : Nat)], []⟩ Q := by
  have hf : fromW w ≤ w.length := by unfold fromW; split <;> omega
  refine Run.up (fun i st => ∃ i' a5 a6, i' = fromW w + i ∧ dgTo w i' ∧ st = ⟨[.s w, .b false, a2, a3, a4, a5, a6, .i .i64 (fromW w : Nat), .i .i64 (i' : Nat)], []⟩) (w.length - fromW w) ⟨fromW w, _, _, rfl, ⟨fun k h1 h2 => absurd h1 (by omega)⟩, rfl⟩ ?_
  rintro j st hj ⟨i, a5, a6, hij, hd, rfl⟩
  by_cases hlt : i < w.length
  · have hlt' : decide ((i : Int) < (w.length : Int)) = true := by simpa using hlt
    have hno : isD w[i]! = false → false = decide (DecW w) := fun hn => (decide_eq_false fun d => by rw [d.ds i (by omega) hlt] at hn; cases hn).symm
    have hyes : isD w[i]! = true → dgTo w (i + 1) := fun hy => ⟨fun k h1 h2 => by
      by_cases e : k = i
      · subst e; exact hy
      · exact hd.h k h1 (by omega)⟩
    simp only [isD, Bool.and_eq_true, Bool.and_eq_false_iff, decide_eq_true_eq, decide_eq_false_iff_not] at hno hyes
    simp (disch := omega) only [go_sem, v83l0, hlt', wr]
    refine ⟨by omega, fun hc => hq _ _ _ _ _ _ _ (hno (by omega)), fun hc => ⟨by omega, fun hc2 => hq _ _ _ _ _ _ _ (hno (by omega)), fun hc2 => ⟨by omega, ?_, by omega⟩⟩⟩
    rw [show fromW w + (j + 1) = i + 1 by omega]
    exact hyes (by omega)
  · have hil : i = w.length := by omega
    subst hil
    have hlt' : decide ((w.length : Int) < (w.length : Int)) = false := by simp
    simp (disch := omega) only [go_sem, v83l0, hlt']
    exact hq2 ⟨h0, hz, hz2, hd.h⟩ _ _ _ _ _ _
theorem decimal83 {w : List UInt8} (hl : w.length ≤ 1000000) : PRet VS 83 [.s w] (.b (decide (DecW w))) := by
  refine .body (vf := v83) rfl rfl ?_
  by_cases h0 : 0 < w.length
  case neg =>
    have hw : w = [] := List.length_eq_zero_iff.1 (by omega)
    subst hw
    have : decide (DecW []) = false := decide_eq_false fun d => by have := d.ne; simp at this
    rw [this]
    simp (disch := omega) only [go_sem, Nat.reduceSub, Int.reduceLT, v83]
  · have hz0 : decide ((w.length : Int) = 0) = false := decide_eq_false (by omega)
    have i0 : ((0 : Int) ≤ 0 ∧ (0 : Int) < w.length) := by omega
    cases hn : negW w with
    | true =>
      have hf : fromW w = 1 := by unfold fromW; rw [if_pos hn]
      have hn2 := hn
      simp only [negW, Bool.and_eq_true, decide_eq_true_eq] at hn2
      obtain ⟨hn3, hn4⟩ := hn2
      have b1 : decide ((w.length : Int) > 1) = true := decide_eq_true (by omega)
      have b2 : decide ((w[0]!.toNat : Int) = 45) = true := decide_eq_true (by omega)
      by_cases h1 : w[1]!.toNat = 48
      · have b3 : decide ((w[1]!.toNat : Int) = 48) = true := decide_eq_true (by omega)
        have hd : decide (DecW w) = false := decide_eq_false fun d => d.z hn h1
        rw [hd]
        simp (disch := omega) only [go_sem, Nat.reduceSub, Int.reduceLE, v83, b1, b2, b3]
        omega
      · have b3 : decide ((w[1]!.toNat : Int) = 48) = false := decide_eq_false (by omega)
        simp (disch := omega) only [go_sem, Nat.reduceSub, Int.reduceLE, v83, b1, b2, b3, hz0]
        refine ⟨by omega, by omega, by omega, ?_⟩
        have hlp := fun {a2 a3 a4 a5 a6 Q} => dec_loop hl h0 (fun _ => h1) (by rw [hf]; exact fun _ => h1) (a2 := a2) (a3 := a3) (a4 := a4) (a5 := a5) (a6 := a6) (Q := Q)
        simp only [hf] at hlp
        refine hlp (fun b2 b3 b4 b5 b6 b8 r hr => ?_) (fun d b2 b3 b4 b5 b6 b8 => ?_)
        · simp (disch := omega) only [go_sem, hr]
        · simp (disch := omega) only [go_sem, decide_eq_true d]
    | false =>
      have hf : fromW w = 0 := by unfold fromW; rw [if_neg (by rw [hn]; nofun)]
      have hn2 := hn
      simp only [negW, Bool.and_eq_false_iff, decide_eq_false_iff_not] at hn2
      have hz : negW w = true → w[1]!.toNat ≠ 48 := fun h => by rw [hn] at h; cases h
      have hlp := fun {a2 a3 a4 a5 a6 Q} (hz2 : 1 < w.length → w[0]!.toNat ≠ 48) => dec_loop hl h0 hz (by rw [hf]; exact hz2) (a2 := a2) (a3 := a3) (a4 := a4) (a5 := a5) (a6 := a6) (Q := Q)
      simp only [hf] at hlp
      by_cases hl1 : 1 < w.length
      · have b1 : decide ((w.length : Int) > 1) = true := decide_eq_true (by omega)
        have b2 : decide ((w[0]!.toNat : Int) = 45) = false := decide_eq_false (by omega)
        by_cases h1 : w[0]!.toNat = 48
        · have b3 : decide ((w[0]!.toNat : Int) = 48) = true := decide_eq_true (by omega)
          have hd : decide (DecW w) = false := decide_eq_false fun d => by have := d.z2 hl1; rw [hf] at this; exact this h1
          rw [hd]
          simp (disch := omega) only [go_sem, Nat.reduceSub, Int.reduceLE, v83, b1, b2, b3, hz0]
          omega
        · have b3 : decide ((w[0]!.toNat : Int) = 48) = false := decide_eq_false (by omega)
          simp (disch := omega) only [go_sem, Nat.reduceSub, Int.reduceLE, v83, b1, b2, b3, hz0]
          refine ⟨by omega, by omega, ?_⟩
          refine hlp (fun _ => h1) (fun b2 b3 b4 b5 b6 b8 r hr => ?_) (fun d b2 b3 b4 b5 b6 b8 => ?_)
          · simp (disch := omega) only [go_sem, hr]
          · simp (disch := omega) only [go_sem, decide_eq_true d]
      · have b1 : decide ((w.length : Int) > 1) = false := decide_eq_false (by omega)
        simp (disch := omega) only [go_sem, Nat.reduceSub, Int.reduceLE, v83, b1, hz0]
        have fin : ∀ {a2 a3 a4 a5 a6}, Run VS (.loop v83l0) ⟨[.s w, .b false, a2, a3, a4, a5, a6, .i .i64 ((0 : Nat) : Int), .i .i64 ((0 : Nat) : Int)], []⟩ (BlockQ 0 (SeqQ VS ((VCode.reg [⟨.mov (.c (.b true)), some 1, none⟩] none).seq .ret) (ResQ [.s 1] (PurK false fun x => x = PR.ret (.b (decide (DecW w))))))) := fun {a2 a3 a4 a5 a6} => by
          refine hlp (fun h => absurd h hl1) (fun b2 b3 b4 b5 b6 b8 r hr => ?_) (fun d b2 b3 b4 b5 b6 b8 => ?_)
          · simp (disch := omega) only [go_sem, hr]
          · simp (disch := omega) only [go_sem, decide_eq_true d]
        exact ⟨by omega, fun _ => fin, fun _ => fin⟩
theorem c83w {w : List UInt8} (hl : w.length ≤ 1000000) {H : Heap} {K : CR → Prop} : CallQ VS 83 [.s w] H K ↔ K (.ret (.b (decide (DecW w))) H) :=
  (decimal83 hl).c (vf := v83) rfl rfl rfl (.inl rfl)
def dv (w : List UInt8) : Nat → Nat
  | 0 => 0
  | i + 1 => if w[i]!.toNat = 45 then dv w i else dv w i * 10 + (w[i]!.toNat - 48)
theorem DecW.dig {w : List UInt8} (h : DecW w) {i : Nat} (hi : i < w.length) (hn : w[i]!.toNat ≠ 45) : 48 ≤ w[i]!.toNat ∧ w[i]!.toNat ≤ 57 := by
  have hd : fromW w ≤ i := by
    unfold fromW
    split
    · rename_i hng
      simp only [negW, Bool.and_eq_true, decide_eq_true_eq] at hng
      rcases Nat.eq_zero_or_pos i with rfl | hp
      · exact absurd hng.2 hn
      · omega
    · omega
  have := h.ds i hd hi
  simpa only [isD, Bool.and_eq_true, decide_eq_true_eq] using this
theorem dv_lt {w : List UInt8} (h : DecW w) : ∀ i : Nat, i ≤ w.length → dv w i < 16 ^ i
  | 0, _ => by simp [dv]
  | i + 1, hi => by
    have ih := dv_lt h i (by omega)
    have hp : 0 < 16 ^ i := Nat.pow_pos (by omega)
    rw [dv, Nat.pow_succ]
    split
    · omega
    · rename_i hn
      have := h.dig (i := i) (by omega) hn
      omega
theorem dv_lenk {w : List UInt8} (h : DecW w) {k : Nat} (hl : w.length ≤ 4 * k) {i : Nat} (hi : i ≤ w.length) : (limbs (dv w i)).length ≤ k := by
  refine limbs_len k _ (Nat.lt_of_lt_of_le (dv_lt h i hi) ?_)
  have : (65536 : Nat) ^ k = 16 ^ (4 * k) := by
    rw [show (65536 : Nat) = 16 ^ 4 from rfl, ← Nat.pow_mul]
  rw [this]
  exact Nat.pow_le_pow_right (by omega) (by omega)
theorem dv_len {w : List UInt8} (h : DecW w) (hl : w.length ≤ 3000) {i : Nat} (hi : i ≤ w.length) : (limbs (dv w i)).length ≤ 750 := dv_lenk h (by omega) hi
def sgnW (w : List UInt8) : Bool := decide (w[0]!.toNat = 45)
theorem trim_d {d : Nat} (h : d < 65536) : trim [d] = limbs d := by
  rw [trim_limbs (fun x hx => by rw [List.mem_singleton.1 hx]; exact h)]
  simp [lval]
theorem c86d {d : Nat} (h : d < 65536) {H : Heap} {K : CR → Prop} : CallQ VS 86 [.sv 1 [[.i .u16 (d : Nat)]]] H K ↔ K (.ret (imU (limbs d)) H) := by
  rw [← trim_d h]
  exact CallQ_p (V := VS) (f := 86) (vf := v86) (ds := [imU [d]]) (H1 := H) rfl rfl (trimU (by simp)) (by simp only [go_sem, Nat.reduceAdd, imU, List.map_cons, List.map_nil, u16R])
theorem c88m {ng : Bool} {x : D} {rows : List (List D)} (h : Sl 1 rows x) {H : Heap} {K : CR → Prop} : CallQ VS 88 [.b ng, x] H K ↔ K (.ret (whD (ng && decide (0 < rows.length)) x) H) :=
  c105 h
theorem c87w {ng : Bool} {x : D} {rows : List (List D)} (h : Sl 1 rows x) (hl : rows.length ≤ 1024) {H : Heap} {K : CR → Prop} : CallQ VS 87 [whD ng x] H K ↔ K (.ret (.tu [whD ng x, .i .i64 0]) H) := by
  have hp : PRet VS 87 [whD ng x] (.tu [whD ng x, .i .i64 0]) := by
    refine .body (vf := v87) rfl rfl ?_
    have b1 : decide ((rows.length : Int) > 1024) = false := decide_eq_false (by omega)
    have fx := fun m H => flat_freeze h.flat m H
    simp (disch := omega) only [go_sem, Nat.reduceAdd, Nat.reduceSub, v87, whD, h.len, b1, fx]
  rw [CallQ_p (V := VS) (f := 87) (vf := v87) (H1 := H) rfl rfl hp (plain_freezeL (by simpa using wh_plain h))]
  exact Iff.rfl
theorem parse49 {w : List UInt8} (hl : w.length ≤ 3000) (hd : DecW w) : PurQ VS 49 [.s w] fun r => ∃ zz, r = .ret (.tu [whD (sgnW w && decide (0 < (limbs (dv w w.length)).length)) zz, .i .i64 0]) ∧ Sl 1 ((limbs (dv w w.length)).map u16R) zz := by
  have e83 := fun {H K} => c83w (w := w) (by omega) (H := H) (K := K)
  rw [decide_eq_true hd] at e83
  refine PurQ.body (vf := v49) rfl rfl ?_
  simp (disch := omega) only [go_sem, Nat.reduceSub, v49, e83]
  refine Run.up (fun i st => ∃ zz a4 a5 Z, Sl 1 ((limbs (dv w i)).map u16R) zz ∧ Z = .bx [.b false, .nil] ∧ st = ⟨[.s w, Z, .i .i64 0, .b false, a4, a5, zz, .i .i64 i], []⟩) w.length ⟨.nil, .u, .u, _, ?_, rfl, rfl⟩ ?_
  · rw [dv, limbs_nil.2 rfl]; exact .nil rfl
  rintro i st hi ⟨zz, a4, a5, Z, hz, hZ, rfl⟩
  have hll := dv_len hd hl hi
  have hb : decide (((limbs (dv w i)).length : Int) ≤ 1024) = true := decide_eq_true (by omega)
  by_cases hlt : i < w.length
  · have hlt' : decide ((i : Int) < (w.length : Int)) = true := by simpa using hlt
    by_cases hm : w[i]!.toNat = 45
    · have hm' : decide ((w[i]!.toNat : Int) = 45) = true := decide_eq_true (by omega)
      have hdv : dv w (i + 1) = dv w i := by rw [dv, if_pos hm]
      simp (disch := omega) only [go_sem, v49l0, hlt', hz.n, hb, hm', wr, hdv]
      exact ⟨by omega, hlt, zz, hz, hZ, rfl⟩
    · have hm' : decide ((w[i]!.toNat : Int) = 45) = false := decide_eq_false (by omega)
      have hdg := hd.dig hlt hm
      have hdv : dv w (i + 1) = dv w i * 10 + (w[i]!.toNat - 48) := by rw [dv, if_neg hm]
      have hll2 := dv_len hd hl (i := i + 1) (by omega)
      rw [hdv] at hll2
      obtain ⟨c, hc⟩ : ∃ c, c = w[i]!.toNat - 48 := ⟨_, rfl⟩
      rw [← hc] at hdv hll2
      have ec : (w[i]!.toNat : Int) - 48 = (c : Nat) := by omega
      have w16 : IntKind.u16.wrap ((c : Nat) : Int) = (c : Nat) := wr16 (by omega) (by omega)
      have e85 := fun {H K} => c85w hz (by omega) (limbs_lim _) (H := H) (K := K)
      rw [limbs_val] at e85
      have hl10 : (limbs (dv w i * 10)).length ≤ 2000 := by
        refine Nat.le_trans (limbs_len ((limbs (dv w i)).length + 1) _ ?_) (by omega)
        have := lval_lt (limbs_lim (dv w i))
        rw [limbs_val] at this
        rw [Nat.pow_succ]
        omega
      have hlc : (limbs c).length ≤ 2000 := Nat.le_trans (limbs_len 1 c (by omega)) (by omega)
      have e86 := fun {H K} => c86d (d := c) (by omega) (H := H) (K := K)
      have e84 := fun {H K} => c84w (a := dv w i * 10) (b := c) (imU_sl _) (imU_sl _) hl10 hlc (H := H) (K := K)
      simp (disch := omega) only [go_sem, Nat.reduceLT, v49l0, hlt', hz.n, hb, hm', wr, wr8, ec, w16, e85, e86, e84, hdv]
      exact ⟨by omega, by omega, hlt, _, uD_sl _, hZ, rfl⟩
  · have hil : i = w.length := by omega
    subst hil
    have hlt' : decide ((w.length : Int) < (w.length : Int)) = false := by simp
    have h0 := hd.ne
    have e88 := fun {H K} => c88m (ng := sgnW w) hz (H := H) (K := K)
    have e87 := fun {ng H K} => c87w (ng := ng) hz (by rw [List.length_map]; omega) (H := H) (K := K)
    have hsg : decide ((w[0]!.toNat : Int) = 45) = sgnW w := by
      unfold sgnW
      by_cases h : w[0]!.toNat = 45
      · rw [decide_eq_true h, decide_eq_true (by omega)]
      · rw [decide_eq_false h, decide_eq_false (by omega)]
    simp only [whD] at e87 e88
    subst hZ
    have fx := fun m H => flat_freeze hz.flat m H
    simp (disch := omega) only [go_sem, Nat.reduceAdd, Int.reduceLE, v49l0, hlt', hsg, e88, e87, fx]
    exact ⟨by omega, _, rfl, hz⟩
theorem parse_no {w : List UInt8} (hl : w.length ≤ 3000) (hd : ¬ DecW w) : PurQ VS 49 [.s w] fun r => r = .ret (.tu [whD false .nil, .i .i64 10]) := by
  have e83 := fun {H K} => c83w (w := w) (by omega) (H := H) (K := K)
  rw [decide_eq_false hd] at e83
  refine PurQ.body (vf := v49) rfl rfl ?_
  simp (disch := omega) only [go_sem, Nat.reduceAdd, Nat.reduceSub, v49, e83, whD]
def intV (ng : Bool) (V : Nat) : Int × Int :=
  if V < 18446744073709551616 then
    if ng = true then (if V ≤ 9223372036854775808 then (-(V : Int), 0) else (0, 3)) else (if V < 9223372036854775808 then ((V : Int), 0) else (0, 3))
  else (0, 3)
theorem c89v {V : Nat} {x : D} {ng : Bool} (h : Sl 1 ((limbs V).map u16R) x) (hl : (limbs V).length ≤ 1000) (hn : V = 0 → ng = false) {H : Heap} {K : CR → Prop} : CallQ VS 89 [whD ng x] H K ↔ K (.ret (.b true) H) :=
  c103 h hl (limbs_top V) (fun e => hn (limbs_nil.1 e))
theorem lval_drop {l : List Nat} {i : Nat} (hi : i < l.length) : lval (l.drop i) = l[i]! + 65536 * lval (l.drop (i + 1)) := by
  rw [List.drop_eq_getElem_cons hi, lval, getElem!_pos l i hi]
theorem lim_drop {l : List Nat} (h : lim l) (i : Nat) : lim (l.drop i) := fun x hx => h x (List.mem_of_mem_drop hx)
theorem pow_le4 {n : Nat} (h : n ≤ 4) : 65536 ^ n ≤ 18446744073709551616 := by
  have : 65536 ^ n ≤ 65536 ^ 4 := Nat.pow_le_pow_right (by omega) h
  simpa using this
theorem negU {u : Nat} (h : u ≤ 9223372036854775808) : IntKind.i64.wrap (IntKind.u64.wrap (0 - (u : Int))) = -(u : Int) := by
  have e : IntKind.u64.signed = false := rfl
  have e2 : IntKind.u64.bits = 64 := rfl
  have e3 : IntKind.i64.signed = true := rfl
  have e4 : IntKind.i64.bits = 64 := rfl
  simp only [IntKind.wrap, e, e2, e3, e4]
  simp []
  omega
set_option maxRecDepth 100000 in
theorem int50 {V : Nat} {x : D} {ng : Bool} (h : Sl 1 ((limbs V).map u16R) x) (hl : (limbs V).length ≤ 1000) (hn : V = 0 → ng = false) : PRet VS 50 [whD ng x] (.tu [.i .i64 (intV ng V).1, .i .i64 (intV ng V).2]) := by
  have e89 := fun {H K} => c89v h hl hn (H := H) (K := K)
  have hm := limbs_lim V
  simp only [whD] at e89
  refine .body (vf := v50) rfl rfl ?_
  have hV := lval_lt hm
  rw [limbs_val] at hV
  by_cases h4 : (limbs V).length ≤ 4
  · have b1 : decide (((limbs V).length : Int) > 4) = false := decide_eq_false (by omega)
    have hp := pow_le4 h4
    have hV4 : V < 18446744073709551616 := by omega
    simp (disch := omega) only [go_sem, Nat.reduceAdd, Nat.reduceSub, v50, whD, e89, h.n, b1, wr]
    refine Run.up (fun j st => ∃ n a5, n = (limbs V).length - j ∧ st = ⟨[.ag [.b ng, x], .i .i64 0, .i .i64 0, .b false, .b false, a5, .u, .u, .bx [.b ng, x], .i .u64 (lval ((limbs V).drop n) : Nat), .i .i64 ((n : Int) - 1)], []⟩) (limbs V).length ⟨(limbs V).length, .u, rfl, ?_⟩ ?_
    · rw [List.drop_length]; rfl
    rintro j st hj ⟨n, a5, hnj, rfl⟩
    cases n with
    | zero =>
      have hf : decide ((((0 : Nat) : Int) - 1) ≥ 0) = false := rfl
      have e0 : lval ((limbs V).drop 0) = V := limbs_val V
      rw [e0]
      have hVi : V = V := rfl
      cases ng with
      | true =>
        by_cases hc : V ≤ 9223372036854775808
        · have b2 : decide ((V : Int) ≤ 9223372036854775808) = true := decide_eq_true (by omega)
          have hi : intV true V = (-(V : Int), 0) := by unfold intV; rw [if_pos hV4, if_pos rfl, if_pos hc]
          rw [hi]
          have hng := negU hc
          simp (disch := omega) only [go_sem, Nat.reduceAdd, Nat.reduceLeDiff, Int.reduceLE, Int.reduceNeg, Int.reduceSub, v50l0, b2, hng]
        · have b2 : decide ((V : Int) ≤ 9223372036854775808) = false := decide_eq_false (by omega)
          have hi : intV true V = (0, 3) := by unfold intV; rw [if_pos hV4, if_pos rfl, if_neg hc]
          rw [hi]
          simp (disch := omega) only [go_sem, Nat.reduceAdd, Nat.reduceLeDiff, Int.reduceLE, Int.reduceNeg, Int.reduceSub, v50l0, b2]
      | false =>
        by_cases hc : V < 9223372036854775808
        · have b2 : decide ((V : Int) < 9223372036854775808) = true := decide_eq_true (by omega)
          have hi : intV false V = ((V : Int), 0) := by unfold intV; rw [if_pos hV4, if_neg (by nofun), if_pos hc]
          rw [hi]
          simp (disch := omega) only [go_sem, Nat.reduceAdd, Nat.reduceLeDiff, Int.reduceLE, Int.reduceNeg, Int.reduceSub, v50l0, b2, wr]
        · have b2 : decide ((V : Int) < 9223372036854775808) = false := decide_eq_false (by omega)
          have hi : intV false V = (0, 3) := by unfold intV; rw [if_pos hV4, if_neg (by nofun), if_neg hc]
          rw [hi]
          simp (disch := omega) only [go_sem, Nat.reduceAdd, Nat.reduceLeDiff, Int.reduceLE, Int.reduceNeg, Int.reduceSub, v50l0, b2]
    | succ i =>
      have ei : ((i + 1 : Nat) : Int) - 1 = (i : Nat) := by omega
      have hi : i < (limbs V).length := by omega
      have hd := lval_drop hi
      have hdl := lval_lt (lim_drop hm i)
      have hp2 := pow_le4 (n := ((limbs V).drop i).length) (by rw [List.length_drop]; omega)
      have hli : (limbs V)[i]! < 65536 := hm _ (by rw [getElem!_pos _ i hi]; exact List.getElem_mem _)
      have hf : decide (((i : Nat) : Int) ≥ 0) = true := decide_eq_true (by omega)
      obtain ⟨u, hu⟩ : ∃ u, u = lval ((limbs V).drop (i + 1)) := ⟨_, rfl⟩
      rw [← hu] at hd ⊢
      have eu : (u : Int) * 65536 + ((limbs V)[i]! : Nat) = (lval ((limbs V).drop i) : Nat) := by omega
      have hnn : (limbs V).length - (j + 1) = i := by omega
      rw [ei, hnn]
      simp (disch := omega) only [go_sem, Nat.reduceAdd, v50l0, hf, h.q, u16R, wr, wr64, eu]
      omega
  · have b1 : decide (((limbs V).length : Int) > 4) = true := decide_eq_true (by omega)
    have hbig : ¬ V < 18446744073709551616 := fun hc => h4 (limbs_len 4 V hc)
    have hi : intV ng V = (0, 3) := by unfold intV; rw [if_neg hbig]
    rw [hi]
    simp (disch := omega) only [go_sem, Nat.reduceAdd, Nat.reduceSub, v50, whD, e89, h.n, b1]
theorem c50w {V : Nat} {x : D} {ng : Bool} (h : Sl 1 ((limbs V).map u16R) x) (hl : (limbs V).length ≤ 1000) (hn : V = 0 → ng = false) {H : Heap} {K : CR → Prop} : CallQ VS 50 [whD ng x] H K ↔ K (.ret (.tu [.i .i64 (intV ng V).1, .i .i64 (intV ng V).2]) H) :=
  (int50 h hl hn).c (vf := v50) rfl rfl (wh_plain h) (.inl rfl)
noncomputable def valW (w : List UInt8) : Int := if DecW w then (if (intV (sgnW w && decide (0 < (limbs (dv w w.length)).length)) (dv w w.length)).2 = 0 then (intV (sgnW w && decide (0 < (limbs (dv w w.length)).length)) (dv w w.length)).1 else 0) else 0
noncomputable def valL (ws : List (List UInt8)) (i : Nat) : Int := if i < ws.length then valW ws[i]! else 0
theorem value21 {ws : List (List UInt8)} {x : D} (h : Sl 1 (ws.map strRow) x) (hl : ws.length ≤ 1000000) (hw : ∀ w ∈ ws, w.length ≤ 3000) {i : Nat} (hi : i ≤ 1000000) : PRet VS 21 [x, .i .i64 (i : Nat)] (.i .i64 (valL ws i)) := by
  refine .body (vf := v21) rfl rfl ?_
  by_cases hlt : i < ws.length
  case neg =>
    have b1 : decide ((i : Int) ≥ (ws.length : Int)) = true := decide_eq_true (by omega)
    have : valL ws i = 0 := if_neg hlt
    rw [this]
    simp (disch := omega) only [go_sem, Nat.reduceSub, v21, h.n, b1]
  · have b1 : decide ((i : Int) ≥ (ws.length : Int)) = false := decide_eq_false (by omega)
    have hv : valL ws i = valW ws[i]! := if_pos hlt
    have hww : ws[i]!.length ≤ 3000 := hw _ (by rw [getElem!_pos ws i hlt]; exact List.getElem_mem _)
    rw [hv]
    simp (disch := omega) only [go_sem, Nat.reduceSub, v21, h.n, h.q, strRow, b1]
    generalize ws[i]! = w at hww hv
    refine ⟨by omega, ?_⟩
    by_cases hd : DecW w
    · refine CallQ.pl (vf := v49) rfl rfl rfl rfl ((parse49 hww hd).mono ?_)
      rintro r ⟨zz, rfl, hzz⟩
      have hll := dv_len hd hww (i := w.length) (Nat.le_refl _)
      have hn : dv w w.length = 0 → (sgnW w && decide (0 < (limbs (dv w w.length)).length)) = false := fun h0 => by
        rw [h0, limbs_nil.2 rfl]; simp
      have e50 := fun {H K} => c50w hzz (by omega) hn (H := H) (K := K)
      have hval : valW w = if (intV (sgnW w && decide (0 < (limbs (dv w w.length)).length)) (dv w w.length)).2 = 0 then (intV (sgnW w && decide (0 < (limbs (dv w w.length)).length)) (dv w w.length)).1 else 0 := if_pos hd
      rw [hval]
      simp only [whD] at e50
      generalize intV (sgnW w && decide (0 < (limbs (dv w w.length)).length)) (dv w w.length) = q at e50 hval
      generalize (sgnW w && decide (0 < (limbs (dv w w.length)).length)) = ng at e50 hn
      have hc1 := hzz.c1
      by_cases hq : q.2 = 0
      · have b2 : decide (q.2 = 0) = true := decide_eq_true hq
        simp (disch := omega) only [go_sem, Nat.reduceAdd, whD, e50, hq]
      · have b2 : decide (q.2 = 0) = false := decide_eq_false hq
        simp (disch := omega) only [go_sem, Nat.reduceAdd, whD, e50, hq]
    · refine CallQ.pl (vf := v49) rfl rfl rfl rfl ((parse_no hww hd).mono ?_)
      rintro r rfl
      have hval : valW w = 0 := if_neg hd
      have hz0 : Sl 1 ((limbs 0).map u16R) .nil := by rw [limbs_nil.2 rfl]; exact .nil rfl
      have e50 := fun {H K} => c50w hz0 (by rw [limbs_nil.2 rfl]; simp) (fun _ => rfl) (H := H) (K := K)
      rw [hval]
      simp only [whD] at e50
      simp (disch := omega) only [go_sem, Nat.reduceAdd, Int.reduceEq, whD, e50]
theorem c21w {ws : List (List UInt8)} {x : D} (h : Sl 1 (ws.map strRow) x) (hl : ws.length ≤ 1000000) (hw : ∀ w ∈ ws, w.length ≤ 3000) {i : Nat} (hi : i ≤ 1000000) {H : Heap} {K : CR → Prop} : CallQ VS 21 [x, .i .i64 (i : Nat)] H K ↔ K (.ret (.i .i64 (valL ws i)) H) :=
  (value21 h hl hw hi).c (vf := v21) rfl rfl (by simp [h.pl]; rfl) (.inl rfl)
open Go.Dm Go.Proofs
def isSep (c : UInt8) : Bool := decide (c.toNat = 32) || decide (c.toNat = 10)
def wsp : List UInt8 → List UInt8 → List (List UInt8)
  | [], cur => [cur]
  | c :: s, cur => if isSep c = true then cur :: wsp s [] else wsp s (cur ++ [c])
def wordsT (s : List UInt8) : List (List UInt8) := wsp s []
structure WdTo (s : List UInt8) (P : List (List UInt8)) (cur : List UInt8) (i : Nat) : Prop where
  e : wordsT s = P ++ wsp (s.drop i) cur
  l : cur.length ≤ i
  n : P.length ≤ i
theorem WdTo.sep {s : List UInt8} {P : List (List UInt8)} {cur : List UInt8} {i : Nat} (h : WdTo s P cur i) (hi : i < s.length) (hs : isSep s[i]! = true) : WdTo s (P ++ [cur]) [] (i + 1) := by
  obtain ⟨e, l, n⟩ := h
  have hd : s.drop i = s[i]! :: s.drop (i + 1) := by rw [List.drop_eq_getElem_cons hi, getElem!_pos s i hi]
  rw [hd, wsp, if_pos hs] at e
  exact ⟨by rw [e]; simp, by simp, by simp; omega⟩
theorem WdTo.let {s : List UInt8} {P : List (List UInt8)} {cur : List UInt8} {i : Nat} (h : WdTo s P cur i) (hi : i < s.length) (hs : isSep s[i]! = false) : WdTo s P (cur ++ [s[i]!]) (i + 1) := by
  obtain ⟨e, l, n⟩ := h
  have hd : s.drop i = s[i]! :: s.drop (i + 1) := by rw [List.drop_eq_getElem_cons hi, getElem!_pos s i hi]
  rw [hd, wsp, if_neg (by rw [hs]; nofun)] at e
  exact ⟨e, by simp; omega, by omega⟩
theorem wsp_len : ∀ (s cur : List UInt8), ∀ w ∈ wsp s cur, w.length ≤ cur.length + s.length
  | [], cur, w, hw => by rw [wsp] at hw; rw [List.mem_singleton.1 hw]; simp
  | c :: s, cur, w, hw => by
    rw [wsp] at hw
    split at hw
    · rcases List.mem_cons.1 hw with rfl | hw
      · omega
      · have := wsp_len s [] w hw
        simp only [List.length_nil, List.length_cons] at *
        omega
    · have := wsp_len s _ w hw
      simp only [List.length_append, List.length_cons, List.length_nil] at *
      omega
theorem wsp_num : ∀ (s cur : List UInt8), 0 < (wsp s cur).length ∧ (wsp s cur).length ≤ s.length + 1
  | [], cur => by simp [wsp]
  | c :: s, cur => by
    rw [wsp]
    split
    · have := wsp_num s []
      simp only [List.length_cons]; omega
    · have := wsp_num s (cur ++ [c])
      simp only [List.length_cons]; omega
def w0H (cur : List UInt8) : Heap := [.ar 1 [[.s cur]] (some 1) true false]
theorem w0_app {cur : List UInt8} : appD (w0H cur) (.mu 0 1 0 1) (.sv 1 [[.s []]]) 1 16 true = some (bD (w0H cur) .nil ([cur, []].map strRow), bH (w0H cur) 1 ([cur, []].map strRow)) := by rfl
theorem bsl_s0 : bslD [] 1 1 [.s []] [(0, .s [])] true = some (.mu 0 1 0 1, w0H []) := rfl
theorem take_one {s : List UInt8} {i : Nat} (hi : i < s.length) : (s.take (i + 1)).drop i = [s[i]!] := by
  rw [List.drop_take, show i + 1 - i = 1 by omega, List.drop_eq_getElem_cons hi, getElem!_pos s i hi]; rfl
theorem snoc_get {P : List (List UInt8)} {c : List UInt8} : (P ++ [c])[P.length]! = c := by
  rw [getElem!_pos _ _ (by simp)]; simp
theorem snoc_set {P : List (List UInt8)} {c d : List UInt8} : ((P ++ [c]).map strRow).set P.length [.s d] = (P ++ [d]).map strRow := by
  simp [strRow]
theorem snoc_s {L : List (List UInt8)} {c : List UInt8} : L.map strRow ++ [[.s c]] = (L ++ [c]).map strRow := by simp [strRow]
structure WdSt (P : List (List UInt8)) (cur : List UInt8) (H : Heap) (X : D) : Prop where
  h : (P = [] ∧ H = w0H cur ∧ X = .mu 0 1 0 1) ∨ (∃ w0 : List UInt8, P ≠ [] ∧ H = bH (w0H w0) 1 ((P ++ [cur]).map strRow) ∧ X = bD (w0H w0) .nil ((P ++ [cur]).map strRow))
set_option maxRecDepth 100000 in
theorem words20 {s : List UInt8} (hl : s.length ≤ 1000000) : PRet VS 20 [.s s] (.im 1 ((wordsT s).map strRow)) := by
  refine .body (vf := v20) rfl rfl ?_
  simp (disch := omega) only [go_sem, Nat.reduceSub, v20, bsl_s0]
  refine Run.up (fun i st => ∃ P cur a2 a3 H X, WdTo s P cur i ∧ WdSt P cur H X ∧ st = ⟨[.s s, .nil, a2, a3, X, .i .i64 i], H⟩) s.length ⟨[], [], .u, .u, _, _, ⟨rfl, by simp, by simp⟩, ⟨.inl ⟨rfl, rfl, rfl⟩⟩, rfl⟩ ?_
  rintro i st hi ⟨P, cur, a2, a3, H, X, hw, ⟨hph⟩, rfl⟩
  by_cases hlt : i < s.length
  · have hlt' : decide ((i : Int) < (s.length : Int)) = true := by simpa using hlt
    have hto := take_one hlt
    have hcl := hw.l
    have hPn := hw.n
    have hLl : (P ++ [cur]).length = P.length + 1 := by simp
    cases hs : isSep s[i]! with
    | true =>
      have hnew := hw.sep hlt hs
      have hst : WdSt (P ++ [cur]) [] (bH (w0H (match P with | [] => cur | p :: _ => p)) 1 ((P ++ [cur] ++ [[]]).map strRow)) (bD (w0H (match P with | [] => cur | p :: _ => p)) .nil ((P ++ [cur] ++ [[]]).map strRow)) := ⟨.inr ⟨_, by simp, rfl, rfl⟩⟩
      have hst2 : ∀ w0, WdSt (P ++ [cur]) [] (bH (w0H w0) 1 ((P ++ [cur] ++ [[]]).map strRow)) (bD (w0H w0) .nil ((P ++ [cur] ++ [[]]).map strRow)) := fun w0 => ⟨.inr ⟨_, by simp, rfl, rfl⟩⟩
      simp only [isSep, Bool.or_eq_true, decide_eq_true_eq] at hs
      have hsn : (P ++ [cur]).map strRow ++ [[.s []]] = (P ++ [cur] ++ [[]]).map strRow := snoc_s
      by_cases h32 : s[i]!.toNat = 32
      · have b1 : decide ((s[i]!.toNat : Int) = 32) = true := decide_eq_true (by omega)
        rcases hph with ⟨rfl, rfl, rfl⟩ | ⟨w0, hP, rfl, rfl⟩
        · simp (disch := omega) only [go_sem, Nat.reduceLT, v20l0, hlt', b1, w0_app, wr]
          exact ⟨by omega, hlt, [] ++ [cur], [], hnew, _, _, _, _, hst2 cur, ⟨rfl, rfl, rfl⟩, rfl⟩
        · simp (disch := omega) only [go_sem, Nat.reduceLT, v20l0, hlt', b1, app_n, hsn, wr]
          exact ⟨by omega, hlt, _, [], hnew, _, _, _, _, hst2 w0, ⟨rfl, rfl, by simp⟩, by simp⟩
      · have b1 : decide ((s[i]!.toNat : Int) = 32) = false := decide_eq_false (by omega)
        have b2 : decide ((s[i]!.toNat : Int) = 10) = true := decide_eq_true (by omega)
        rcases hph with ⟨rfl, rfl, rfl⟩ | ⟨w0, hP, rfl, rfl⟩
        · simp (disch := omega) only [go_sem, Nat.reduceLT, v20l0, hlt', b1, b2, w0_app, wr]
          exact ⟨by omega, by omega, hlt, [] ++ [cur], [], hnew, _, _, _, _, hst2 cur, ⟨rfl, rfl, rfl⟩, rfl⟩
        · simp (disch := omega) only [go_sem, Nat.reduceLT, v20l0, hlt', b1, b2, app_n, hsn, wr]
          exact ⟨by omega, by omega, hlt, _, [], hnew, _, _, _, _, hst2 w0, ⟨rfl, rfl, by simp⟩, by simp⟩
    | false =>
      have hnew := hw.let hlt hs
      simp only [isSep, Bool.or_eq_false_iff, decide_eq_false_iff_not] at hs
      have b1 : decide ((s[i]!.toNat : Int) = 32) = false := decide_eq_false (by omega)
      have b2 : decide ((s[i]!.toNat : Int) = 10) = false := decide_eq_false (by omega)
      rcases hph with ⟨rfl, rfl, rfl⟩ | ⟨w0, hP, rfl, rfl⟩
      · simp (disch := omega) only [go_sem, Nat.reduceLeDiff, Nat.reduceLT, Int.reduceLE, Int.reduceLT, Int.reduceSub, v20l0, hlt', wr, b1, b2, w0H, hto]
        exact ⟨by omega, by omega, by omega, by omega, hlt, [], _, hnew, _, _, _, _, ⟨.inl ⟨rfl, rfl, rfl⟩⟩, ⟨rfl, rfl, rfl⟩, rfl⟩
      · have g1 : (P ++ [cur])[P.length]! = cur := snoc_get
        have ep : ((P.length : Int) + 1 - 1) = (P.length : Nat) := by omega
        have hst2 : WdSt P (cur ++ [s[i]!]) (bH (w0H w0) 1 ((P ++ [cur ++ [s[i]!]]).map strRow)) (bD (w0H w0) .nil ((P ++ [cur ++ [s[i]!]]).map strRow)) := ⟨.inr ⟨_, hP, rfl, rfl⟩⟩
        have hcong : bD (w0H w0) .nil ((P ++ [cur]).map strRow) = bD (w0H w0) .nil ((P ++ [cur ++ [s[i]!]]).map strRow) := bD_cong (by simp)
        have hss : ((P ++ [cur]).map strRow).set P.length [.s (cur ++ [s[i]!])] = (P ++ [cur ++ [s[i]!]]).map strRow := snoc_set
        obtain ⟨L, hL⟩ : ∃ L, L = P ++ [cur] := ⟨_, rfl⟩
        rw [← hL] at g1 hcong hss hLl ⊢
        have hLn : L.length - 1 = P.length := by omega
        have eL : (L.length : Int) - 1 = ((L.length - 1 : Nat) : Int) := by omega
        rw [← hLn] at g1 hss
        simp (disch := omega) only [go_sem, Nat.reduceLeDiff, v20l0, hlt', wr, b1, b2, hto, eL, g1, strRow, hss]
        exact ⟨by omega, by omega, by omega, by omega, by omega, by omega, by omega, by omega, by omega, hlt, P, _, hnew, _, _, _, _, hst2, ⟨rfl, rfl, hcong⟩, rfl⟩
  · have hil : i = s.length := by omega
    subst hil
    have hlt' : decide ((s.length : Int) < (s.length : Int)) = false := by simp
    have he := hw.e
    rw [List.drop_length, wsp] at he
    rw [he]
    rcases hph with ⟨rfl, rfl, rfl⟩ | ⟨w0, hP, rfl, rfl⟩
    · simp (disch := omega) only [go_sem, v20l0, hlt', w0H, strRow]
    · have him : imD .nil 1 ((P ++ [cur]).map strRow) = .im 1 ((P ++ [cur]).map strRow) := by
        cases P <;> rfl
      simp (disch := omega) only [go_sem, v20l0, hlt', him]
theorem c20w {s : List UInt8} (hl : s.length ≤ 1000000) {H : Heap} {K : CR → Prop} : CallQ VS 20 [.s s] H K ↔ K (.ret (.im 1 ((wordsT s).map strRow)) H) :=
  (words20 hl).c (vf := v20) rfl rfl rfl (.inl rfl)
end Go.Proofs.YtnhbopeopppojaaGreatDoor.Dv
