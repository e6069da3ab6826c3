/-
  Statements copied; texts with an edit.
-/
import Derived.Test.YtnhbopeopppojaaGreatDoorSc
namespace Go.Proofs.YtnhbopeopppojaaGreatDoor.Dv
open Go.Dm Go.Proofs
def nsep (c : UInt8) : Bool := !(c == 32 || c == 10)
def wordy (l : List UInt8) : Bool := match l with
  | [] => false
  | c :: _ => decide (97 ≤ c) && decide (c ≤ 122)
def sc1 (st : List UInt8 × List UInt8) (c : UInt8) : List UInt8 × List UInt8 := if nsep c = true then (st.1, st.2 ++ [c]) else (if wordy st.2 = true then st.2 else st.1, [])
theorem fold_ns {x : List UInt8} : ∀ {st : List UInt8 × List UInt8}, (∀ c ∈ x, nsep c = true) → x.foldl sc1 st = (st.1, st.2 ++ x) := by
  induction x with
  | nil => intro st _; simp
  | cons c x ih =>
    intro st h
    rw [List.foldl_cons, ih fun d hd => h d (List.mem_cons_of_mem _ hd), sc1, if_pos (h c List.mem_cons_self)]
    simp
def numB (l : List UInt8) : Prop := ∀ c ∈ l, isD c = true ∨ c = 45
theorem isD_ns {c : UInt8} (h : isD c = true) : nsep c = true := by
  simp only [isD, Bool.and_eq_true, decide_eq_true_eq] at h
  simp only [nsep, Bool.not_eq_true', Bool.or_eq_false_iff, beq_eq_false_iff_ne]
  refine ⟨fun e => ?_, fun e => ?_⟩ <;> subst e <;> revert h <;> decide
theorem numB.ns {l : List UInt8} (h : numB l) : ∀ c ∈ l, nsep c = true := fun c hc => by
  rcases h c hc with h | h
  · exact isD_ns h
  · subst h; decide
def sepH (l : List UInt8) : Prop := ∃ c r, l = c :: r ∧ nsep c = false
theorem twns {v R : List UInt8} (hv : ∀ c ∈ v, nsep c = true) (hR : sepH R) : (v ++ R).takeWhile nsep = v := by
  obtain ⟨c, r, rfl, hc⟩ := hR
  induction v with
  | nil => rw [List.nil_append, List.takeWhile_cons_of_neg (by rw [hc]; nofun)]
  | cons d v ih => rw [List.cons_append, List.takeWhile_cons_of_pos (hv d List.mem_cons_self), ih fun e he => hv e (List.mem_cons_of_mem _ he)]
theorem tw_set {c : UInt8} (hc : nsep c = true) : ∀ {l : List UInt8} {p : Nat} {d : UInt8}, l[p]? = some d → nsep d = true → ((l.set p c).takeWhile nsep).length = (l.takeWhile nsep).length
  | [], p, d, h, _ => by cases h
  | x :: l, 0, d, h, hd => by
    cases h
    rw [List.set_cons_zero, List.takeWhile_cons_of_pos hc, List.takeWhile_cons_of_pos hd]
    rfl
  | x :: l, p + 1, d, h, hd => by
    have ih := tw_set hc (l := l) (p := p) (d := d) (by simpa using h) hd
    rw [List.set_cons_succ]
    by_cases hx : nsep x = true
    · rw [List.takeWhile_cons_of_pos hx, List.takeWhile_cons_of_pos hx, List.length_cons, List.length_cons, ih]
    · rw [List.takeWhile_cons_of_neg hx, List.takeWhile_cons_of_neg hx]
section
variable (ok : List UInt8 → Prop)
structure Diff (st : List UInt8 × List UInt8) (T T' : List UInt8) : Prop where
  h : ∃ p c d, T[p]? = some d ∧ T' = T.set p c ∧ d ≠ c ∧ nsep d = true ∧ nsep c = true ∧ ok ((T.take p).foldl sc1 st).1
def N (n : Nat) (T T' : List UInt8) : Prop := n = 0 ∧ T = T' ∨ n = 1 ∧ ∃ st, Diff ok st T T'
end
variable {ok : List UInt8 → Prop}
theorem stepD {st : List UInt8 × List UInt8} {k w v v' R R' : List UInt8} (hk : k.foldl sc1 st = (w, [])) (hv : numB v) (hv' : numB v') (hR : sepH R) (hR' : sepH R') (h : Diff ok st (k ++ (v ++ R)) (k ++ (v' ++ R'))) :
    v = v' ∧ N ok 1 R R' ∨ ok w ∧ v ≠ v' ∧ R = R' := by
  obtain ⟨p, c, d, h1, h2, h3, h4, h5, h6⟩ := h
  by_cases hp : p < k.length
  · rw [List.set_append_left _ _ hp] at h2
    have := (List.append_inj h2 (by simp)).1
    rw [List.getElem?_append_left hp] at h1
    rw [this, List.getElem?_set_self hp] at h1
    exact absurd (Option.some.inj h1).symm h3
  · obtain ⟨p1, rfl⟩ : ∃ p1, p = k.length + p1 := ⟨p - k.length, by omega⟩
    rw [List.set_append_right _ _ (by omega), Nat.add_sub_cancel_left] at h2
    have h2 := List.append_cancel_left h2
    rw [List.getElem?_append_right (by omega), Nat.add_sub_cancel_left] at h1
    have hl : v.length = v'.length := by
      have e := tw_set h5 h1 h4
      rw [← h2, twns hv.ns hR, twns hv'.ns hR'] at e
      exact e.symm
    by_cases hp1 : p1 < v.length
    · rw [List.set_append_left _ _ hp1] at h2
      obtain ⟨e1, e2⟩ := List.append_inj h2 (by simp [hl])
      rw [List.getElem?_append_left hp1] at h1
      refine .inr ⟨?_, fun e => ?_, e2.symm⟩
      rotate_left
      ·
        rw [e, e1, List.getElem?_set_self hp1] at h1
        exact h3 (Option.some.inj h1).symm
      have e : (k ++ (v ++ R)).take (k.length + p1) = k ++ v.take p1 := by
        rw [List.take_length_add_append, List.take_append_of_le_length (by omega)]
      rw [e, List.foldl_append, hk, fold_ns fun c hc => hv.ns c (List.mem_of_mem_take hc)] at h6
      exact h6
    · obtain ⟨p2, rfl⟩ : ∃ p2, p1 = v.length + p2 := ⟨p1 - v.length, by omega⟩
      rw [List.set_append_right _ _ (by omega), Nat.add_sub_cancel_left] at h2
      obtain ⟨e1, e2⟩ := List.append_inj h2 hl.symm
      rw [List.getElem?_append_right (by omega), Nat.add_sub_cancel_left] at h1
      refine .inl ⟨e1.symm, .inr ⟨rfl, (k ++ v).foldl sc1 st, ⟨p2, c, d, h1, e2, h3, h4, h5, ?_⟩⟩⟩
      · have e : (k ++ (v ++ R)).take (k.length + (v.length + p2)) = k ++ v ++ R.take p2 := by
          rw [List.take_length_add_append, List.take_length_add_append, List.append_assoc]
        rw [e, List.foldl_append] at h6
        exact h6
theorem step0 {k v v' R R' : List UInt8} (hv : numB v) (hv' : numB v') (hR : sepH R) (hR' : sepH R') (h : k ++ (v ++ R) = k ++ (v' ++ R')) : v = v' ∧ R = R' := by
  have h := List.append_cancel_left h
  have e : v = v' := by rw [← twns hv.ns hR, ← twns hv'.ns hR', h]
  subst e
  exact ⟨rfl, List.append_cancel_left h⟩
theorem step {n : Nat} {k w v v' R R' : List UInt8} (hk : ∀ st, k.foldl sc1 st = (w, [])) (hv : numB v) (hv' : numB v') (hR : sepH R) (hR' : sepH R') (h : N ok n (k ++ (v ++ R)) (k ++ (v' ++ R'))) :
    v = v' ∧ N ok n R R' ∨ (n = 1 ∧ ok w) ∧ v ≠ v' ∧ R = R' := by
  rcases h with ⟨rfl, h⟩ | ⟨rfl, st, h⟩
  · obtain ⟨e1, e2⟩ := step0 hv hv' hR hR' h
    exact .inl ⟨e1, .inl ⟨rfl, e2⟩⟩
  · rcases stepD (hk st) hv hv' hR hR' h with h | ⟨h1, h2⟩
    · exact .inl h
    · exact .inr ⟨⟨rfl, h1⟩, h2⟩
open Go.Dm Go.Proofs
@[go_sem] theorem q_step_cbs {V : VProg} {Q : Ex → St → Prop} {dr : Option (Bs × Bool)} {os : List VOper} {keep : Option Nat} {loc sl : List D} {H : Heap} {x : O} : OpQ V dr os keep loc ⟨sl, H⟩ Q (.cbs x) ↔ AfterQ V dr os keep loc sl Q (ofO ⟨sl, H⟩ (cbsD H (x.ev loc sl))) := by
  rw [OpQ_nc rfl]
  rfl
theorem bsl_u8 {x : Int} : bslD [] 1 1 [.i .u8 0] [(0, .i .u8 x)] true = some (.mu 0 1 0 1, [.ar 1 [[.i .u8 x]] (some 1) true false]) := rfl
theorem cbs_u8 {m : Nat} : cbsD [.ar 1 [[.i .u8 (m : Int)]] (some 1) true false] (.mu 0 1 0 1) = some (.s [UInt8.ofNat m]) := by
  simp [cbsD, rowsOf, arr, bytesOf]
open Go.Dm Go.Proofs
def lTo (l : List Ln) (i : Nat) : List Ln := l.take i
theorem lTo_succ {l : List Ln} {i : Nat} (h : i < l.length) : lTo l (i + 1) = lTo l i ++ [l[i]!] := by
  unfold lTo
  rw [List.take_succ_eq_append_getElem h, getElem!_pos l i h]
theorem lTo_len {l : List Ln} {i : Nat} (h : i ≤ l.length) : (lTo l i).length = i := by simp [lTo]; omega
theorem lTo_all {l : List Ln} : lTo l l.length = l := List.take_length
theorem snoc_ln {l : List Ln} {x : Ln} : l.map lnR ++ [[.i .i64 x.m, .i .i64 x.d, .i .i64 x.p, .i .i64 x.o]] = (l ++ [x]).map lnR := by simp [lnR]
theorem copy_q {s : Stm} {x : D} (h : Sl 4 (s.ls.map lnR) x) (hl : s.ls.length ≤ 1000) {K : CR → Prop} (hk : K (.ret (stD s (bD [] .nil (s.ls.map lnR))) (bH [] 4 (s.ls.map lnR)))) :
    Run VS v13.body ⟨[stD s x, .u, .u, .u, .u, .u], []⟩ (ResQ v13.res K) := by
  simp only [go_sem, Nat.reduceAdd, Nat.reduceLeDiff, v13, stD]
  refine Run.up (fun i st => ∃ a2 Z, st = ⟨[stD s x, Z, a2, .bx [.i .i64 s.y, .i .i64 s.b, .i .i64 s.a, x, .i .i64 s.g, .i .i64 s.t, .i .i64 s.n, .i .i64 s.i], .i .i64 i, .bx [.i .i64 s.y, .i .i64 s.b, .i .i64 s.a, bD [] .nil ((lTo s.ls i).map lnR), .i .i64 s.g, .i .i64 s.t, .i .i64 s.n, .i .i64 s.i]], bH [] 4 ((lTo s.ls i).map lnR)⟩ ∧ Z = .bx [.i .i64 0, .i .i64 0, .i .i64 0, .nil, .i .i64 0, .i .i64 0, .i .i64 0, .i .i64 0]) s.ls.length ⟨.u, _, rfl, rfl⟩ ?_
  rintro i st hi ⟨a2, Z, rfl, hZ⟩
  have hll := lTo_len hi
  by_cases hlt : i < s.ls.length
  · have hlt' : decide ((i : Int) < (s.ls.length : Int)) = true := by simpa using hlt
    simp (disch := omega) only [go_sem, Nat.reduceAdd, Nat.reduceLeDiff, Nat.reduceLT, v13l0, h.q, h.n, h.under, lnR, wr, hlt', app_n, snoc_ln, lTo_succ hlt]
    exact ⟨⟨by omega, by omega⟩, ⟨by omega, by omega⟩, ⟨by omega, by omega⟩, ⟨by omega, by omega⟩, hlt, hZ⟩
  · have hlt' : decide ((i : Int) < (s.ls.length : Int)) = false := by simpa using hlt
    have : i = s.ls.length := by omega
    subst this
    rw [lTo_all]
    subst hZ
    simp (disch := omega) only [go_sem, Nat.reduceAdd, Nat.reduceLeDiff, v13l0, h.n, hlt']
    exact hk
def owD (rows : List (List D)) : D := match rows with
  | [] => .nil
  | r :: rs => .ow 4 (r :: rs)
theorem settle_st {s : Stm} {rows : List (List D)} : settleO true (bH [] 4 rows) (stD s (bD [] .nil rows)) = some (stD s (owD rows)) := by
  cases rows with
  | nil => rfl
  | cons r rs => simp [settleO, stD, bD, bH, mus, mus1, muOf, apart, Dm.settle, settle1, mapO, settleC, arr, owD, List.take_of_length_le]
theorem place_st {s : Stm} {rows : List (List D)} {H : Heap} : placeO true (stD s (owD rows)) H = (stD s (bD H .nil rows), bH H 4 rows) := by
  cases rows with
  | nil => rfl
  | cons r rs => rfl
theorem c18 {s : Stm} {d : D} (h : IsStm s d) (hl : s.ls.length ≤ 1000) {H : Heap} {K : CR → Prop} : CallQ VS 13 [d] H K ↔ K (.ret (stD s (bD H .nil (s.ls.map lnR))) (bH H 4 (s.ls.map lnR))) := by
  have hpl := h.plain
  obtain ⟨⟨x, rfl, h⟩⟩ := h
  have hp : PRet VS 13 [stD s x] (stD s (owD (s.ls.map lnR))) := by
    refine .body (vf := v13) rfl rfl (copy_q h hl ?_)
    exact ⟨_, settle_st, rfl⟩
  have he := @place_st s (s.ls.map lnR) H
  rw [CallQ_p (vf := v13) (H1 := H) rfl rfl hp (plain_freezeL (fun d hd => by rw [List.mem_singleton.1 hd]; exact hpl))]
  have : v13.own = true := rfl
  rw [this, he]
theorem c19 {s : Stm} {d : D} (h : IsStm s d) (hl : s.ls.length ≤ 1000) {H : Heap} {K : CR → Prop} : CallQ VS 41 [d] H K ↔ K (.ret (stD s (lsD s.ls)) H) := by
  have hpl := h.plain
  obtain ⟨⟨x, rfl, h⟩⟩ := h
  have hp : PRet VS 41 [stD s x] (stD s (lsD s.ls)) := by
    refine .body (vf := v41) rfl rfl (copy_q h hl ?_)
    have hz : ∀ m, Dm.freeze (m + 1) (bH [] 4 (s.ls.map lnR)) (bD [] .nil (s.ls.map lnR)) = some (lsD s.ls, bHl [] 4 (s.ls.map lnR)) := fun m => by
      cases s.ls with
      | nil => rfl
      | cons x l => simp [bD, bH, lsD, imD, bHl, fz_mu, arr, fzM, List.take_of_length_le]
    refine ⟨_, ?_, rfl⟩
    simp only [go_sem, Nat.reduceAdd, v41, stD, hz]
  rw [CallQ_p (vf := v41) (H1 := H) rfl rfl hp (plain_freezeL (fun d hd => by rw [List.mem_singleton.1 hd]; exact hpl))]
  exact Iff.rfl
open Go.Dm Go.Proofs
theorem fz_st {H H1 : Heap} {s : Stm} {x : D} (h : ∀ m, Dm.freeze (m + 1) H x = some (lsD s.ls, H1)) : freezeL deep H [stD s x] = some ([stD s (lsD s.ls)], H1) := by
  simp only [go_sem, Nat.reduceAdd, stD, h]
theorem c14f {H H1 : Heap} {s : Stm} {x : D} (h : ∀ m, Dm.freeze (m + 1) H x = some (lsD s.ls, H1)) (hr : Rng s) {K : CR → Prop} : CallQ VS 16 [stD s x] H K ↔ K (.ret (.tu [.s (if RightS s then textT s else []), .i .i64 (if RightS s then 0 else 2)]) H1) :=
  CallQ_p (vf := v16) (H1 := H1) rfl rfl (text14 (isStm_of s) hr) (fz_st h)
theorem c15f {H H1 : Heap} {s : Stm} {x : D} (h : ∀ m, Dm.freeze (m + 1) H x = some (lsD s.ls, H1)) (hr : Rng s) {K : CR → Prop} : CallQ VS 36 [stD s x] H K ↔ K (.ret (.b (decide (RightS s))) H1) :=
  CallQ_p (vf := v36) (H1 := H1) rfl rfl (right15 (isStm_of s) hr) (fz_st h)
theorem fz_b0 {l : List Ln} : ∀ m, Dm.freeze (m + 1) (bH [] 4 (l.map lnR)) (bD [] .nil (l.map lnR)) = some (lsD l, bHl [] 4 (l.map lnR)) := fun m => by
  cases l with
  | nil => rfl
  | cons x l => simp [bD, bH, lsD, imD, bHl, fz_mu, arr, fzM, List.take_of_length_le]
theorem fz_b1 {l : List Ln} : ∀ m, Dm.freeze (m + 1) (bHl [] 4 (l.map lnR)) (bD [] .nil (l.map lnR)) = some (lsD l, bHl [] 4 (l.map lnR)) := fun m => by
  cases l with
  | nil => rfl
  | cons x l => simp [bD, lsD, imD, bHl, fz_mu, arr, fzM, List.take_of_length_le]
end Go.Proofs.YtnhbopeopppojaaGreatDoor.Dv
