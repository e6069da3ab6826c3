/-
  The reference's numbers as text.
-/
import Derived.Test.YtnhbopeopppojaaGreatDoorSd
namespace Go.Proofs.YtnhbopeopppojaaGreatDoor.Dv
open Go.Dm Go.Proofs
def lval : List Nat → Nat
  | [] => 0
  | x :: l => x + 65536 * lval l
def lim (l : List Nat) : Prop := ∀ x ∈ l, x < 65536
def sh : List Nat → List Nat × Nat
  | [] => ([], 0)
  | x :: l => (((sh l).2 * 65536 + x) / 10 :: (sh l).1, ((sh l).2 * 65536 + x) % 10)
theorem sh_len : ∀ l, (sh l).1.length = l.length
  | [] => rfl
  | x :: l => by simp [sh, sh_len l]
theorem sh_c : ∀ l, (sh l).2 < 10
  | [] => by simp [sh]
  | x :: l => by simp only [sh]; omega
theorem sh_val : ∀ l, lval (sh l).1 * 10 + (sh l).2 = lval l
  | [] => rfl
  | x :: l => by
    have := sh_val l
    simp only [sh, lval]
    omega
theorem sh_lim : ∀ l, lim l → lim (sh l).1
  | [], _ => fun _ h => by cases h
  | x :: l, h => fun y hy => by
    have h0 := h x List.mem_cons_self
    have hc := sh_c l
    rcases List.mem_cons.1 hy with rfl | hy
    · omega
    · exact sh_lim l (fun z hz => h z (List.mem_cons_of_mem _ hz)) y hy
def trim : List Nat → List Nat
  | [] => []
  | x :: l => if trim l = [] ∧ x = 0 then [] else x :: trim l
theorem trim_val : ∀ l, lval (trim l) = lval l
  | [] => rfl
  | x :: l => by
    have := trim_val l
    unfold trim
    split
    · rename_i h
      rw [h.1] at this
      simp only [lval] at this ⊢
      omega
    · simp only [lval, this]
theorem trim_nil : ∀ l, trim l = [] ↔ lval l = 0
  | [] => by simp [trim, lval]
  | x :: l => by
    have := trim_nil l
    unfold trim
    split
    · rename_i h
      have := this.1 h.1
      simp only [lval, true_iff]; omega
    · rename_i h
      simp only [reduceCtorEq, lval, false_iff]
      intro hh
      exact h ⟨this.2 (by omega), by omega⟩
theorem trim_lim : ∀ l, lim l → lim (trim l)
  | [], h => h
  | x :: l, h => fun y hy => by
    unfold trim at hy
    split at hy
    · cases hy
    · rcases List.mem_cons.1 hy with rfl | hy
      · exact h _ List.mem_cons_self
      · exact trim_lim l (fun z hz => h z (List.mem_cons_of_mem _ hz)) y hy
theorem trim_take : ∀ (l : List Nat), ∃ n, n ≤ l.length ∧ trim l = l.take n ∧ (∀ k, n ≤ k → k < l.length → l[k]! = 0) ∧ (0 < n → l[n - 1]! ≠ 0)
  | [] => ⟨0, Nat.le_refl _, rfl, (fun k _ hk => absurd hk (Nat.not_lt_zero k)), fun h => absurd h (Nat.lt_irrefl 0)⟩
  | x :: l => by
    obtain ⟨n, h1, h2, h3, h4⟩ := trim_take l
    unfold trim
    split
    · rename_i h
      refine ⟨0, Nat.zero_le _, rfl, fun k _ hk => ?_, fun h => by cases h⟩
      have hn : n = 0 := by
        rw [h2] at h
        rcases List.take_eq_nil_iff.1 h.1 with h | h
        · exact h
        · subst h; simpa using h1
      cases k with
      | zero => simpa using h.2
      | succ k =>
        have := h3 k (by omega) (by simpa using hk)
        simpa using this
    · rename_i h
      refine ⟨n + 1, by simpa using h1, by rw [h2]; rfl, fun k hk hl => ?_, fun _ => ?_⟩
      · cases k with
        | zero => omega
        | succ k => simpa using h3 k (by omega) (by simpa using hl)
      · cases n with
        | zero =>
          have e : trim l = [] := by rw [h2]; rfl
          simpa using fun e2 => h ⟨e, e2⟩
        | succ n => simpa using h4 (by omega)
def limbs (u : Nat) : List Nat := if h : u = 0 then [] else u % 65536 :: limbs (u / 65536)
theorem limbs_val (u : Nat) : lval (limbs u) = u := by
  induction u using Nat.strongRecOn with
  | ind u ih =>
    rw [limbs]
    split
    · rename_i h; subst h; rfl
    · simp only [lval]
      rw [ih (u / 65536) (by omega)]
      omega
theorem limbs_lim (u : Nat) : lim (limbs u) := by
  induction u using Nat.strongRecOn with
  | ind u ih =>
    rw [limbs]
    split
    · intro x hx; cases hx
    · intro x hx
      rcases List.mem_cons.1 hx with rfl | hx
      · omega
      · exact ih (u / 65536) (by omega) x hx
theorem limbs_top (u : Nat) : 0 < (limbs u).length → (limbs u)[(limbs u).length - 1]! ≠ 0 := by
  induction u using Nat.strongRecOn with
  | ind u ih =>
    rw [limbs]
    split
    · intro h; cases h
    · rename_i hu
      intro _
      by_cases h : u / 65536 = 0
      · rw [h, limbs]; simp; omega
      · have := ih (u / 65536) (by omega)
        have hl : 0 < (limbs (u / 65536)).length := by rw [limbs, dif_neg h]; simp
        obtain ⟨k, hk⟩ : ∃ k, (limbs (u / 65536)).length = k + 1 := ⟨_, (Nat.succ_pred_eq_of_pos hl).symm⟩
        have := this hl
        rw [hk] at this
        simpa [hk] using this
open Go.Dm Go.Proofs
def u16R (n : Nat) : List D := [.i .u16 n]
def slD (x : D) (n : Nat) : D := match x with
  | .im w r => .im w (r.take n)
  | x => x
theorem sl_cut {l : List Nat} {x : D} (h : Sl 1 (l.map u16R) x) {n : Nat} (hn : n ≤ l.length) {H : Heap} {k : IntKind} : sliceD H 1 x none (some (.i k (n : Nat))) none = some (slD x n) := by
  cases h with
  | nil h =>
    have : n = 0 := by
      have := List.map_eq_nil_iff.1 h; subst this; simpa using hn
    subst this; rfl
  | z h =>
    have : n = 0 := by
      have := List.map_eq_nil_iff.1 h; subst this; simpa using hn
    subst this; rfl
  | im =>
    have hlm : (l.map u16R).length = l.length := List.length_map _
    have hb : bounds none (some (.i k (n : Nat))) (l.map u16R).length (l.map u16R).length = some (0, n) := by
      have h1 : (0 : Int) ≤ (n : Int) ∧ (n : Int) ≤ ((l.map u16R).length : Nat) := by omega
      simp [bounds, bound, bdOf, hn]
    simp only [sliceD, hb, slD, decide_true]
    simp
theorem trim125 {l : List Nat} {x : D} (h : Sl 1 (l.map u16R) x) (hl : l.length ≤ 100000) : PRet VS 86 [x] (slD x (trim l).length) := by
  refine .body (vf := v86) rfl rfl ?_
  obtain ⟨tn, h1, h2, h3, h4⟩ := trim_take l
  have e : (trim l).length = tn := by rw [h2, List.length_take]; omega
  rw [e]
  simp only [go_sem, Nat.reduceSub, v86, h.n]
  refine Run.up (fun i st => ∃ a2 n, n = l.length - i ∧ st = ⟨[x, .nil, a2, .i .i64 (n : Nat)], []⟩) (l.length - tn) ⟨_, _, rfl, rfl⟩ ?_
  rintro i st hi ⟨a2, n, rfl, rfl⟩
  have q1 := fun {H : Heap} => sl_cut h (n := l.length - i) (by omega) (H := H) (k := .i64)
  simp (disch := omega) only [go_sem, v86l0, h.q, u16R, wr, q1]
  have fz : ∀ n, frzR [] (slD x n) = some (slD x n) := fun n => by cases h <;> rfl
  refine ⟨fun h0 => ⟨⟨by omega, by omega⟩, fun hz => ⟨?_, by omega⟩, fun hz => ?_⟩, fun h0 => ?_⟩
  · by_cases hh : i < l.length - tn
    · exact hh
    · have := h4 (by omega)
      rw [show tn - 1 = l.length - i - 1 by omega] at this
      exact absurd (by omega) this
  · by_cases hh : i < l.length - tn
    · have := h3 (l.length - i - 1) (by omega) (by omega)
      exact absurd (by omega) hz
    · rw [fz, show l.length - i = tn by omega]
  · rw [fz, show l.length - i = tn by omega]
theorem trim_cut {l : List Nat} : l.take (trim l).length = trim l := by
  obtain ⟨n, h1, h2, _, _⟩ := trim_take l
  rw [h2, List.length_take, Nat.min_eq_left h1]
def imU (l : List Nat) : D := .im 1 (l.map u16R)
theorem slU (l : List Nat) (n : Nat) : slD (imU l) n = imU (l.take n) := by simp [slD, imU, List.map_take]
theorem trimU {l : List Nat} (hl : l.length ≤ 100000) : PRet VS 86 [imU l] (imU (trim l)) := by
  have h := trim125 (l := l) (x := imU l) .im hl
  rwa [slU, trim_cut] at h
theorem rep_u {n : Nat} : List.replicate n [D.i .u16 0] = (List.replicate n 0).map u16R := by simp [u16R]
theorem set_u {l : List Nat} {i n : Nat} : (l.map u16R).set i [.i .u16 (n : Nat)] = (l.set i n).map u16R := by rw [List.map_set]; rfl
theorem wr16 {x : Int} (h1 : 0 ≤ x) (h2 : x < 65536) : IntKind.u16.wrap x = x := by
  have e : IntKind.u16.signed = false := rfl
  have e2 : IntKind.u16.bits = 16 := rfl
  simp only [IntKind.wrap, e, e2]
  simp
  omega
structure ShTo (l q : List Nat) (i : Nat) : Prop where
  n : q.length = l.length
  d : q.drop i = (sh (l.drop i)).1
theorem ShTo.step {l q : List Nat} {i : Nat} (h : ShTo l q (i + 1)) (hi : i < l.length) : ShTo l (q.set i (((sh (l.drop (i + 1))).2 * 65536 + l[i]!) / 10)) i ∧ (sh (l.drop i)).2 = ((sh (l.drop (i + 1))).2 * 65536 + l[i]!) % 10 := by
  have e : l.drop i = l[i]! :: l.drop (i + 1) := by rw [List.drop_eq_getElem_cons hi, getElem!_pos l i hi]
  have hq : i < q.length := by rw [h.n]; exact hi
  refine ⟨⟨by rw [List.length_set]; exact h.n, ?_⟩, by rw [e]; rfl⟩
  rw [List.drop_eq_getElem_cons (by rw [List.length_set]; exact hq), List.getElem_set_self, List.drop_set_of_lt (by omega), h.d, e]
  rfl
theorem short115 {l : List Nat} {x : D} (h : Sl 1 (l.map u16R) x) (hl : l.length ≤ 1000) (hm : lim l) : PRet VS 114 [x, .i .i64 10] (.tu [imU (trim (sh l).1), imU (trim [(sh l).2])]) := by
  refine .body (vf := v114) rfl rfl ?_
  simp (disch := omega) only [go_sem, Nat.reduceSub, v114, h.n, rep_u, wr]
  refine ⟨⟨by omega, by omega, by omega⟩, Run.up (fun i st => ∃ q a4 n, n = l.length - i ∧ ShTo l q n ∧ st = ⟨[x, .i .i64 10, .nil, .nil, a4, .i .i64 ((sh (l.drop n)).2 : Nat), .i .i64 ((n : Int) - 1), .mu 0 l.length 0 l.length], [.ar 1 (q.map u16R) (some l.length) true false]⟩) l.length ⟨List.replicate l.length 0, .u, l.length, rfl, ⟨List.length_replicate, ?_⟩, ?_⟩ ?_⟩
  · rw [List.drop_eq_nil_of_le (by simp), List.drop_eq_nil_of_le (Nat.le_refl _)]; rfl
  · rw [List.drop_eq_nil_of_le (Nat.le_refl _)]; rfl
  rintro i st hi ⟨q, a4, n, hn, hv, rfl⟩
  have hqn := hv.n
  have hc := sh_c (l.drop n)
  cases n with
  | zero =>
    have e0 : l.drop 0 = l := rfl
    have hq : q = (sh l).1 := hv.d
    have hf : decide ((((0 : Nat) : Int) - 1) ≥ 0) = false := rfl
    simp (disch := omega) only [go_sem, Int.reduceLE, Int.reduceNeg, Int.reduceSub, v114l0]
    have hql : q.length ≤ 100000 := by omega
    have htk : (q.map u16R).take l.length = q.map u16R := List.take_of_length_le (by rw [List.length_map, hqn]; exact Nat.le_refl _)
    have hcc : ((sh l).2 : Int) ≤ 9 := by rw [e0] at hc; omega
    have er : [[D.i .u16 ((sh l).2 : Int)]] = [(sh l).2].map u16R := rfl
    rw [CallQ_p (vf := v86) (ds := [imU q]) (H1 := [.ar 1 (q.map u16R) (some l.length) true true]) rfl rfl (trimU hql) (by simp only [go_sem, Nat.reduceAdd, hqn, htk, imU])]
    simp (disch := omega) only [go_sem, Nat.reduceLT, Int.reduceNeg, v86, wr16]
    rw [CallQ_p (vf := v86) (ds := [imU [(sh l).2]]) (H1 := [.ar 1 (q.map u16R) (some l.length) true true]) rfl rfl (trimU (by simp)) (by simp only [go_sem, Nat.reduceAdd, imU, List.map_cons, List.map_nil, u16R])]
    simp (disch := omega) only [go_sem, Nat.reduceAdd, Int.reduceNeg, v86, hq, imU]
  | succ j =>
    obtain ⟨hs1, hs2⟩ := hv.step (show j < l.length by omega)
    generalize (sh (l.drop (j + 1))).2 = c at hc hs1 hs2
    have hlj : l[j]! < 65536 := hm _ (by rw [getElem!_pos l j (by omega)]; exact List.getElem_mem _)
    have ej : ((j + 1 : Nat) : Int) - 1 = (j : Nat) := by omega
    obtain ⟨v, hv'⟩ : ∃ v, v = c * 65536 + l[j]! := ⟨_, rfl⟩
    have ev : (c : Int) * 65536 + (l[j]! : Nat) = (v : Nat) := by omega
    have ed : ((v : Nat) : Int).tdiv 10 = ((v / 10 : Nat) : Int) := rfl
    have em : ((v : Nat) : Int).tmod 10 = ((v % 10 : Nat) : Int) := rfl
    rw [← hv'] at hs1 hs2
    have hnn : l.length - (i + 1) = j := by omega
    have hj0 : (0 : Int) ≤ (j : Nat) := by omega
    rw [ej, hnn]
    simp (disch := omega) only [go_sem, Int.reduceEq, v114l0, h.q, u16R, wr, wr16, hqn, ev, ed, em, set_u, hj0]
    exact ⟨by omega, by omega, by omega, by omega, _, hs1, by rw [hs2], rfl⟩
theorem trim1 {c : Nat} : trim [c] = if c = 0 then [] else [c] := by simp [trim]
theorem c115 {l : List Nat} {x : D} (h : Sl 1 (l.map u16R) x) (hl : l.length ≤ 1000) (hm : lim l) {H : Heap} {K : CR → Prop} : CallQ VS 114 [x, .i .i64 10] H K ↔ K (.ret (.tu [imU (trim (sh l).1), imU (trim [(sh l).2])]) H) :=
  (short115 h hl hm).c (vf := v114) rfl rfl (by simp [h.pl]; rfl) (.inl rfl)
theorem tenth104 {l : List Nat} {x : D} (h : Sl 1 (l.map u16R) x) (hl : l.length ≤ 1000) (hm : lim l) : PRet VS 106 [x] (.tu [imU (trim (sh l).1), .i .i64 ((sh l).2 : Nat)]) := by
  refine .body (vf := v106) rfl rfl ?_
  have e115 := fun {H : Heap} {K} => c115 h hl hm (H := H) (K := K)
  have hc := sh_c l
  rw [trim1] at e115
  by_cases h0 : (sh l).2 = 0
  · rw [if_pos h0] at e115
    rw [h0]
    simp (disch := omega) only [go_sem, Nat.reduceAdd, Nat.reduceSub, v106, e115, imU]
  · rw [if_neg h0] at e115
    have ei : ∀ {H : Heap} {c : Int}, iadD H (.im 1 [[.i .u16 c]]) (.i .i64 0) 1 = some (.ip [.i .u16 c]) := rfl
    simp (disch := omega) only [go_sem, Nat.reduceAdd, Nat.reduceSub, Int.reduceEq, v106, e115, imU, ei, u16R, wr]
theorem c104 {l : List Nat} {x : D} (h : Sl 1 (l.map u16R) x) (hl : l.length ≤ 1000) (hm : lim l) {H : Heap} {K : CR → Prop} : CallQ VS 106 [x] H K ↔ K (.ret (.tu [imU (trim (sh l).1), .i .i64 ((sh l).2 : Nat)]) H) :=
  (tenth104 h hl hm).c (vf := v106) rfl rfl (by simp [h.pl]) (.inl rfl)
theorem dec_step (l : List Nat) : Lib.decDigits (lval l) = (if lval (sh l).1 = 0 then [] else Lib.decDigits (lval (sh l).1)) ++ [UInt8.ofNat (48 + (sh l).2)] := by
  have h1 := sh_val l
  have h2 := sh_c l
  rw [Lib.decDigits]
  by_cases h : lval l < 10
  · rw [dif_pos h, if_pos (by omega)]
    have : lval l = (sh l).2 := by omega
    rw [this]; rfl
  · rw [dif_neg h, if_neg (by omega)]
    rw [show lval l / 10 = lval (sh l).1 by omega, show lval l % 10 = (sh l).2 by omega]
def whD (ng : Bool) (x : D) : D := .ag [.b ng, x]
theorem wh_plain {ng : Bool} {x : D} {rows : List (List D)} (h : Sl 1 rows x) : [whD ng x].all D.plain = true := by
  simp only [whD, plain_ag, List.all_cons, List.all_nil, flat_b, h.flat, Bool.and_self]
theorem valid103 {l : List Nat} {x : D} {ng : Bool} (h : Sl 1 (l.map u16R) x) (hl : l.length ≤ 1000) (ht : 0 < l.length → l[l.length - 1]! ≠ 0) (hn : l = [] → ng = false) : PRet VS 89 [whD ng x] (.b true) := by
  refine .body (vf := v89) rfl rfl ?_
  by_cases h0 : l.length = 0
  · have hng := hn (List.length_eq_zero_iff.1 h0)
    subst hng
    simp (disch := omega) only [go_sem, Nat.reduceAdd, Nat.reduceSub, Nat.reduceLeDiff, v89, whD, h.n, h0]
  · have hi : ¬ ((l.length : Int) = 0) := by omega
    have := ht (by omega)
    simp (disch := omega) only [go_sem, Nat.reduceAdd, Nat.reduceSub, v89, whD, h.n, hi, h.q, u16R, wr]
    exact ⟨fun _ => ⟨⟨by omega, by omega⟩, by omega⟩, fun hh => absurd (by omega) hh⟩
theorem c103 {l : List Nat} {x : D} {ng : Bool} (h : Sl 1 (l.map u16R) x) (hl : l.length ≤ 1000) (ht : 0 < l.length → l[l.length - 1]! ≠ 0) (hn : l = [] → ng = false) {H : Heap} {K : CR → Prop} : CallQ VS 89 [whD ng x] H K ↔ K (.ret (.b true) H) :=
  (valid103 h hl ht hn).c (vf := v89) rfl rfl (wh_plain h) (.inl rfl)
theorem bsl_u8g {H : Heap} {x : Int} : bslD H 1 1 [.i .u8 0] [(0, .i .u8 x)] true = some (.mu H.length 1 0 1, H ++ [.ar 1 [[.i .u8 x]] (some 1) true false]) := rfl
theorem cbs_u8g {H : Heap} {m : Nat} : cbsD (H ++ [.ar 1 [[.i .u8 (m : Int)]] (some 1) true false]) (.mu H.length 1 0 1) = some (.s [UInt8.ofNat m]) := by
  simp [cbsD, rowsOf, arr, bytesOf]
structure TxTo (N : Nat) (l : List Nat) (out : List UInt8) : Prop where
  lim : lim l
  n : l.length ≤ 1000
  z : l = [] ↔ lval l = 0
  e : Lib.decDigits N = (if lval l = 0 then [] else Lib.decDigits (lval l)) ++ out
theorem trim_len (l : List Nat) : (trim l).length ≤ l.length := by
  obtain ⟨n, h1, h2, _, _⟩ := trim_take l
  rw [h2, List.length_take]; omega
theorem TxTo.step {N : Nat} {l : List Nat} {out : List UInt8} (h : TxTo N l out) (hl : lval l ≠ 0) : TxTo N (trim (sh l).1) (UInt8.ofNat (48 + (sh l).2) :: out) := by
  refine ⟨trim_lim _ (sh_lim _ h.lim), Nat.le_trans (trim_len _) (by rw [sh_len]; exact h.n), by rw [trim_nil, trim_val], ?_⟩
  rw [h.e, if_neg hl, dec_step l, trim_val]
  simp
theorem TxTo.init {l : List Nat} (hm : Dv.lim l) (hl : l.length ≤ 1000) : TxTo (lval l) (trim (sh l).1) [UInt8.ofNat (48 + (sh l).2)] :=
  ⟨trim_lim _ (sh_lim _ hm), Nat.le_trans (trim_len _) (by rw [sh_len]; exact hl), by rw [trim_nil, trim_val], by rw [dec_step l, trim_val]⟩
theorem text95 {l : List Nat} {x : D} {ng : Bool} (h : Sl 1 (l.map u16R) x) (hl : l.length ≤ 1000) (hm : lim l) (ht : 0 < l.length → l[l.length - 1]! ≠ 0) (hn : l = [] → ng = false) (hd : (Lib.decDigits (lval l)).length ≤ 100000) : PRet VS 91 [whD ng x] (.tu [.s (if ng then 45 :: Lib.decDigits (lval l) else Lib.decDigits (lval l)), .i .i64 0]) := by
  refine .body (vf := v91) rfl rfl ?_
  have e103 := fun {H : Heap} {K} => c103 h hl ht hn (H := H) (K := K)
  have e104 := fun {H : Heap} {K} => c104 h hl hm (H := H) (K := K)
  have hc := sh_c l
  obtain ⟨cn, hcn⟩ : ∃ cn, cn = 48 + (sh l).2 := ⟨_, rfl⟩
  have ecn : 48 + (((sh l).2 : Nat) : Int) = (cn : Nat) := by omega
  simp only [whD] at e103
  simp (disch := omega) only [go_sem, Nat.reduceAdd, Nat.reduceSub, v91, whD, e103, e104, ecn, wr, wr8, bsl_u8, cbs_u8]
  have hinit := TxTo.init hm hl
  rw [← hcn] at hinit
  refine Run.loop (fun i st => ∃ l' out d a3 a4 a5 H, i = lval l' ∧ TxTo (lval l) l' out ∧ st = ⟨[.ag [.b ng, x], .s [], .i .i64 0, a3, a4, a5, .bx [.b ng, x], imU l', d, .s out], H⟩) _ ⟨_, _, _, _, _, _, _, rfl, hinit, rfl⟩ ?_
  rintro i st ⟨l', out, d, a3, a4, a5, H, rfl, ht', rfl⟩
  have hsl : Sl 1 (l'.map u16R) (imU l') := .im
  have e104' := fun {H : Heap} {K} => c104 hsl ht'.n ht'.lim (H := H) (K := K)
  have hout : out.length ≤ 100000 := by
    have := congrArg List.length ht'.e
    rw [List.length_append] at this
    omega
  have hc' := sh_c l'
  obtain ⟨dn, hdn⟩ : ∃ dn, dn = 48 + (sh l').2 := ⟨_, rfl⟩
  have edn : 48 + (((sh l').2 : Nat) : Int) = (dn : Nat) := by omega
  have hst := ht'.step
  rw [← hdn] at hst
  have hsv := sh_val l'
  simp (disch := omega) only [go_sem, Nat.reduceAdd, Nat.reduceLeDiff, v91l0, hsl.n, e104', edn, wr, wr8, bsl_u8g, cbs_u8g]
  have hz := ht'.z
  have hz' : l'.length = 0 ↔ l' = [] := List.length_eq_zero_iff
  refine ⟨fun h0 => ?_, fun h0 => ?_⟩
  · have hnz : lval l' ≠ 0 := fun e => by
      have := hz'.2 (hz.2 e)
      omega
    exact ⟨by omega, _, by rw [trim_val]; omega, _, rfl, _, hst hnz, rfl, rfl⟩
  · have hze : lval l' = 0 := hz.1 (hz'.1 (by omega))
    have he := ht'.e
    rw [if_pos hze, List.nil_append] at he
    refine ⟨fun hng => ⟨by omega, ?_⟩, fun hng => ?_⟩
    · rw [if_pos hng, he]
    · rw [if_neg (by rw [hng]; nofun), he]
theorem c95 {l : List Nat} {x : D} {ng : Bool} (h : Sl 1 (l.map u16R) x) (hl : l.length ≤ 1000) (hm : lim l) (ht : 0 < l.length → l[l.length - 1]! ≠ 0) (hn : l = [] → ng = false) (hd : (Lib.decDigits (lval l)).length ≤ 100000) {H : Heap} {K : CR → Prop} : CallQ VS 91 [whD ng x] H K ↔ K (.ret (.tu [.s (if ng then 45 :: Lib.decDigits (lval l) else Lib.decDigits (lval l)), .i .i64 0]) H) :=
  (text95 h hl hm ht hn hd).c (vf := v91) rfl rfl (wh_plain h) (.inl rfl)
theorem make105 {ng : Bool} {x : D} (rows : List (List D)) (h : Sl 1 rows x) : PRet VS 88 [.b ng, x] (whD (ng && decide (0 < rows.length)) x) := by
  refine .body (vf := v88) rfl rfl ?_
  have hp : (0 < (rows.length : Int)) ↔ 0 < rows.length := by omega
  simp (disch := omega) only [go_sem, Nat.reduceAdd, Nat.reduceSub, Nat.reduceLeDiff, v88, h.len, h.c1, hp]
  refine ⟨fun hng => ?_, fun hng => ?_⟩
  · have fx : Dm.freeze 10 [] x = some (x, []) := flat_freeze h.flat 9 []
    rw [hng, fx]; rfl
  · have fx : Dm.freeze 10 [] x = some (x, []) := flat_freeze h.flat 9 []
    rw [hng, fx]; rfl
theorem c105 {ng : Bool} {x : D} {rows : List (List D)} (h : Sl 1 rows x) {H : Heap} {K : CR → Prop} : CallQ VS 88 [.b ng, x] H K ↔ K (.ret (whD (ng && decide (0 < rows.length)) x) H) :=
  (make105 rows h).c (vf := v88) rfl rfl (by simp [h.pl]; rfl) (.inl rfl)
def uD (l : List Nat) : D := imD .nil 1 (l.map u16R)
theorem uD_sl (l : List Nat) : Sl 1 (l.map u16R) (uD l) := by
  cases l with
  | nil => exact .nil rfl
  | cons a l => exact .im
theorem fz_u {l : List Nat} : ∀ m, Dm.freeze (m + 1) (bH [] 1 (l.map u16R)) (bD [] .nil (l.map u16R)) = some (uD l, bHl [] 1 (l.map u16R)) := fun m => by
  cases l with
  | nil => rfl
  | cons x l => simp [bD, bH, uD, imD, bHl, fz_mu, arr, fzM, List.take_of_length_le]
theorem wr64 {x : Int} (h1 : 0 ≤ x) (h2 : x < 18446744073709551616) : IntKind.u64.wrap x = x := by
  have e : IntKind.u64.signed = false := rfl
  have e2 : IntKind.u64.bits = 64 := rfl
  simp only [IntKind.wrap, e, e2]
  simp
  omega
theorem wr64n {n : Int} (h1 : -9223372036854775808 ≤ n) (h2 : n < 0) : IntKind.u64.wrap (0 - IntKind.u64.wrap n) = (n.natAbs : Nat) := by
  have e : IntKind.u64.signed = false := rfl
  have e2 : IntKind.u64.bits = 64 := rfl
  simp only [IntKind.wrap, e, e2]
  simp
  omega
theorem limbs_step {u : Nat} (h : u ≠ 0) : limbs u = u % 65536 :: limbs (u / 65536) := by rw [limbs, dif_neg h]
theorem limbs_nil {u : Nat} : limbs u = [] ↔ u = 0 := by
  rw [limbs]; split <;> simp_all
theorem snoc_u {l : List Nat} {n : Nat} : l.map u16R ++ [[.i .u16 (n : Nat)]] = (l ++ [n]).map u16R := by simp [u16R]
structure FrTo (U u : Nat) (l : List Nat) : Prop where
  e : limbs U = l ++ limbs u
theorem from_loop {n : Int} {U : Nat} {a2 a3 : D} {Q : Ex → St → Prop} (hU : U ≤ 9223372036854775808) (hl : (limbs U).length ≤ 100)
    (hQ : ∀ a3, Q (.ex 0) ⟨[.i .i64 n, .bx [.b false, .nil], a2, a3, .i .u64 0, bD [] .nil ((limbs U).map u16R)], bH [] 1 ((limbs U).map u16R)⟩) :
    Run VS v92l0.loop ⟨[.i .i64 n, .bx [.b false, .nil], a2, a3, .i .u64 (U : Nat), .nil], []⟩ Q := by
  refine Run.loop (fun u st => u ≤ U ∧ ∃ l a3, FrTo U u l ∧ st = ⟨[.i .i64 n, .bx [.b false, .nil], a2, a3, .i .u64 (u : Nat), bD [] .nil (l.map u16R)], bH [] 1 (l.map u16R)⟩) U ⟨Nat.le_refl _, [], _, ⟨rfl⟩, rfl⟩ ?_
  rintro u st ⟨hu, l, a3, hv, rfl⟩
  have hll : l.length ≤ 100 := by
    have := congrArg List.length hv.e
    rw [List.length_append] at this; omega
  have ed : ((u : Nat) : Int).tdiv 65536 = ((u / 65536 : Nat) : Int) := rfl
  have em : ((u : Nat) : Int).tmod 65536 = ((u % 65536 : Nat) : Int) := rfl
  simp (disch := omega) only [go_sem, Nat.reduceLT, Int.reduceEq, v92l0, ed, em, wr16, wr64, app_n, snoc_u]
  refine ⟨fun h0 => ⟨u / 65536, by omega, by omega, l ++ [u % 65536], ⟨?_⟩, ⟨rfl, rfl⟩, rfl⟩, fun h0 => ?_⟩
  · rw [hv.e, limbs_step (by omega)]; simp
  · have : u = 0 := by omega
    subst this
    have e := hv.e
    rw [limbs_nil.2 rfl, List.append_nil] at e
    rw [← e]
    exact hQ _
theorem fromInt96 {n : Int} (hn : i64r n) (hl : (limbs n.natAbs).length ≤ 100) : PRet VS 92 [.i .i64 n] (whD (decide (n < 0)) (uD (limbs n.natAbs))) := by
  refine .body (vf := v92) rfl rfl ?_
  obtain ⟨h1, h2⟩ := hn
  have hpos : 0 < (limbs n.natAbs).length ↔ n ≠ 0 := by
    rw [Nat.pos_iff_ne_zero, Ne, List.length_eq_zero_iff, limbs_nil]; omega
  have hb : (decide (n < 0) && decide (0 < (limbs n.natAbs).length)) = decide (n < 0) := by
    by_cases h : n < 0
    · rw [decide_eq_true h, decide_eq_true (hpos.2 (by omega))]; rfl
    · rw [decide_eq_false h]; rfl
  have e105 : ∀ {K}, CallQ VS 88 [.b (decide (n < 0)), bD [] .nil ((limbs n.natAbs).map u16R)] (bH [] 1 ((limbs n.natAbs).map u16R)) K ↔ K (.ret (.ag [.b (decide (n < 0)), uD (limbs n.natAbs)]) (bHl [] 1 ((limbs n.natAbs).map u16R))) := fun {K} => by
    have h := CallQ_p (V := VS) (f := 88) (vf := v88) (ds := [.b (decide (n < 0)), uD (limbs n.natAbs)]) (args := [.b (decide (n < 0)), bD [] .nil ((limbs n.natAbs).map u16R)]) (H := bH [] 1 ((limbs n.natAbs).map u16R)) (H1 := bHl [] 1 ((limbs n.natAbs).map u16R)) (K := K) rfl rfl (make105 _ (uD_sl _)) (by simp only [go_sem, Nat.reduceAdd, fz_u])
    rw [List.length_map, hb] at h
    exact h
  have hc1 : (uD (limbs n.natAbs)).cellsN 1 = some [uD (limbs n.natAbs)] := (uD_sl _).c1
  have fx : ∀ m H, Dm.freeze (m + 1) H (uD (limbs n.natAbs)) = some (uD (limbs n.natAbs), H) := fun m H => flat_freeze (uD_sl _).flat m H
  have fin : ∀ a3, BlockQ 0 (SeqQ VS ((VCode.reg [⟨.mov (.s 0), none, none⟩, ⟨.bin .lss (.l 0) (.c (.i .i64 0)), none, none⟩, ⟨.mov (.s 5), none, none⟩, ⟨.call 88 [.l 1, .l 2], none, none⟩, ⟨.lst (.sl 1) (.l 3) 2, none, none⟩] none).seq .ret) (ResQ [RSpec.bx 1 2 true] (PurK false fun x => x = PR.ret (whD (decide (n < 0)) (uD (limbs n.natAbs)))))) (.ex 0)
      ⟨[.i .i64 n, .bx [.b false, .nil], .b (decide (n < 0)), a3, .i .u64 0, bD [] .nil ((limbs n.natAbs).map u16R)], bH [] 1 ((limbs n.natAbs).map u16R)⟩ := fun a3 => by
    simp (disch := omega) only [go_sem, Nat.reduceAdd, e105, fx, whD]
  by_cases hneg : n < 0
  · have ew := wr64n h1 hneg
    simp (disch := omega) only [go_sem, Nat.reduceSub, v92, ew]
    exact ⟨fun _ => from_loop (by omega) hl fin, fun h => absurd hneg h⟩
  · have ew : IntKind.u64.wrap n = (n.natAbs : Nat) := by rw [wr64 (by omega) (by omega)]; omega
    simp (disch := omega) only [go_sem, Nat.reduceSub, v92, ew]
    exact ⟨fun h => absurd h hneg, fun _ => from_loop (by omega) hl fin⟩
theorem c96 {n : Int} (hn : i64r n) (hl : (limbs n.natAbs).length ≤ 100) {H : Heap} {K : CR → Prop} : CallQ VS 92 [.i .i64 n] H K ↔ K (.ret (whD (decide (n < 0)) (uD (limbs n.natAbs))) H) :=
  (fromInt96 hn hl).c (vf := v92) rfl rfl rfl (.inl rfl)
theorem limbs_len : ∀ (k u : Nat), u < 65536 ^ k → (limbs u).length ≤ k
  | 0, u, h => by
    have : u = 0 := by simpa using h
    rw [limbs_nil.2 this]; exact Nat.le_refl _
  | k + 1, u, h => by
    rw [limbs]
    split
    · exact Nat.zero_le _
    · have := limbs_len k (u / 65536) (by rw [Nat.div_lt_iff_lt_mul (by omega)]; rw [Nat.pow_succ] at h; exact h)
      simpa using this
theorem num_dec (n : Int) : (if decide (n < 0) = true then 45 :: Lib.decDigits (lval (limbs n.natAbs)) else Lib.decDigits (lval (limbs n.natAbs))) = Lib.itoa n := by
  rw [limbs_val, Lib.itoa]
  by_cases h : n < 0
  · rw [if_pos (decide_eq_true h), if_pos h]
  · rw [if_neg (by rw [decide_eq_false h]; nofun), if_neg h]
    congr 1
    omega
theorem number83 {n : Int} (hn : i64r n) : PRet VS 52 [.i .i64 n] (.s (Lib.itoa n)) := by
  have hl : (limbs n.natAbs).length ≤ 100 := by
    have := limbs_len 4 n.natAbs (by have := hn.1; have := hn.2; simp only [Nat.reducePow]; omega)
    omega
  have hd : (Lib.decDigits (lval (limbs n.natAbs))).length ≤ 100000 := by
    have h := num_dec n
    have h2 := congrArg List.length h
    have h3 := Lib.itoa_length_le n hn.1 hn.2
    split at h2
    · simp only [List.length_cons] at h2; omega
    · omega
  refine .body (vf := v52) rfl rfl ?_
  have e95 := fun {H K} => c95 (uD_sl (limbs n.natAbs)) (by omega) (limbs_lim _) (limbs_top _) (ng := decide (n < 0)) (fun e => decide_eq_false (by have := limbs_nil.1 e; omega)) hd (H := H) (K := K)
  rw [num_dec] at e95
  simp (disch := omega) only [go_sem, Nat.reduceSub, v52, c96 hn hl, e95]
@[go_sem] theorem c83 {n : Int} (hn : i64r n) {H : Heap} {K : CR → Prop} : CallQ VS 52 [.i .i64 n] H K ↔ K (.ret (.s (Lib.itoa n)) H) :=
  (number83 hn).c (vf := v52) rfl rfl rfl (.inl rfl)
end Go.Proofs.YtnhbopeopppojaaGreatDoor.Dv
