/-
  Functions of layer 25 over the machine: what was examined; few, once, within, merge.
-/
import Derived.Test.YtkogdbgccjmaoaaV
import Derived.Test.YtkogdbgccjmaoaaDg
namespace Go.Proofs.Ytkogdbgccjmaoaa.Dv
open Go.Dm

/-- What was examined. -/
structure Rd where
  p : List (List UInt8 × Int)
  f : List (List UInt8 × Int × Int)
  t : List (List UInt8)

def IsRd (r : Rd) (d : D) : Prop := ∃ x y zc, d = .ag [x, y, zc] ∧ Sl 2 (r.p.map eP.enc) x ∧ Sl 3 (r.f.map eR.enc) y ∧ Sl 1 (r.t.map eS.enc) zc
/-- .. as three slices of the heap. -/
def MsRd (r : Rd) (H : Heap) (d : D) : Prop := ∃ x y zc, d = .ag [x, y, zc] ∧ Ms 2 (r.p.map eP.enc) H x ∧ Ms 3 (r.f.map eR.enc) H y ∧ Ms 1 (r.t.map eS.enc) H zc

theorem IsRd.fr {r : Rd} {d : D} (h : IsRd r d) (H : Heap) : FrA H d d := by
  obtain ⟨x, y, zc, rfl, h1, h2, h3⟩ := h
  exact .ag (.cons (.flat h1.flat H) (.cons (.flat h2.flat H) (.cons (.flat h3.flat H) (.nil H))))
theorem MsRd.fr {r : Rd} {d : D} {H : Heap} (h : MsRd r H d) : ∃ d', FrA H d d' ∧ IsRd r d' := by
  obtain ⟨x, y, zc, rfl, h1, h2, h3⟩ := h
  obtain ⟨x', a1, b1⟩ := h1.fr
  obtain ⟨y', a2, b2⟩ := h2.fr
  obtain ⟨zc', a3, b3⟩ := h3.fr
  exact ⟨.ag [x', y', zc'], .ag (.cons a1 (.cons a2 (.cons a3 (.nil H)))), x', y', zc', rfl, b1, b2, b3⟩
theorem MsRd.gr {r : Rd} {d : D} {H H' : Heap} (h : MsRd r H d) (g : Gr H H') : MsRd r H' d := by
  obtain ⟨x, y, zc, rfl, h1, h2, h3⟩ := h
  exact ⟨x, y, zc, rfl, h1.gr g, h2.gr g, h3.gr g⟩

def owRd (r : Rd) : D := .ag [owD 2 (r.p.map eP.enc), owD 3 (r.f.map eR.enc), owD 1 (r.t.map eS.enc)]

theorem sl_cells {w : Nat} {rows : List (List D)} {x : D} (h : Sl w rows x) : x.cellsN 1 = some [x] := by cases h <;> rfl

def fewB (r : Rd) : Bool := decide ((r.p.length : Int) ≤ 40) && (decide ((r.f.length : Int) ≤ 40) && decide ((r.t.length : Int) ≤ 40))

theorem few7 {r : Rd} {d : D} (h : IsRd r d) : PRet V 7 [d] (.b (fewB r)) := by
  obtain ⟨x, y, zc, rfl, h1, h2, h3⟩ := h
  have l1 := fun H => h1.len (H := H)
  have l2 := fun H => h2.len (H := H)
  have l3 := fun H => h3.len (H := H)
  simp only [List.length_map] at l1 l2 l3
  refine PRet.of (vf := v7) (d0 := .b (fewB r)) (H := []) rfl 0 (fun n _ => ?_) rfl rfl
  have hent := enter_eq (V := V) (cl := call V n) (n := n) v7 [.ag [x, y, zc]] [] rfl
  rw [hent]
  unfold fewB
  cases c1 : decide ((r.p.length : Int) ≤ 40) with
  | false =>
    simp only [v7, exec_seq, exec_ret, exec_reg, seqK_nm, ops_cons, ops_nil, opsW_t, opsW_f, opsF_t, opsK_v, wants_none, wants_some, wantK_tf, fits_none, ev_l, ev_s, ev_c, ab_sl, ab_lo, abS_bx, abL_lp, ofO_some, step_mov, step_pick, pick_f, step_lbx, step_lfa, lfaR_s, step_lld, lldR_s, lldB_bx, lldC_s, val_f, step_bin, bin_leq, step_len, cells_ag, setSl, cut, List.getD_cons_zero, List.getD_cons_succ, List.getElem?_cons_zero, List.getElem?_cons_succ, List.set_cons_zero, List.set_cons_succ, List.nil_append, List.cons_append, List.length_cons, List.length_nil, List.drop_zero, List.take_succ_cons, List.take_zero, List.replicate_succ, List.replicate_zero, Bool.false_and, Nat.reduceAdd, Nat.reduceSub, Nat.reduceLeDiff, Nat.zero_add, if_true, Nat.add_zero, Option.map_some, l1, c1]
    exact entK_rt (ds := [.b false]) rfl rfl
  | true =>
    cases c2 : decide ((r.f.length : Int) ≤ 40) with
    | false =>
      simp only [v7, exec_seq, exec_ret, exec_reg, seqK_nm, ops_cons, ops_nil, opsW_t, opsW_f, opsF_t, opsK_v, wants_none, wants_some, wantK_tt, wantK_tf, fits_none, ev_l, ev_s, ev_c, ab_sl, ab_lo, abS_bx, abL_lp, ofO_some, step_mov, step_pick, pick_t, pick_f, step_lbx, step_lfa, lfaR_s, step_lld, lldR_s, lldB_bx, lldC_s, val_f, step_bin, bin_leq, step_len, cells_ag, setSl, cut, List.getD_cons_zero, List.getD_cons_succ, List.getElem?_cons_zero, List.getElem?_cons_succ, List.set_cons_zero, List.set_cons_succ, List.nil_append, List.cons_append, List.length_cons, List.length_nil, List.drop_succ_cons, List.drop_zero, List.take_succ_cons, List.take_zero, List.replicate_succ, List.replicate_zero, Bool.and_false, Bool.false_and, Nat.reduceAdd, Nat.reduceSub, Nat.reduceLeDiff, Nat.zero_add, if_true, Nat.add_zero, Option.map_some, l1, l2, c1, c2]
      exact entK_rt (ds := [.b false]) rfl rfl
    | true =>
      simp only [v7, exec_seq, exec_ret, exec_reg, seqK_nm, ops_cons, ops_nil, opsW_t, opsF_t, opsK_v, wants_none, wants_some, wantK_tt, fits_none, ev_l, ev_s, ev_c, ab_sl, ab_lo, abS_bx, abL_lp, ofO_some, step_mov, step_pick, pick_t, step_lbx, step_lfa, lfaR_s, step_lld, lldR_s, lldB_bx, lldC_s, val_f, step_bin, bin_leq, step_len, cells_ag, setSl, cut, List.getD_cons_zero, List.getD_cons_succ, List.getElem?_cons_zero, List.getElem?_cons_succ, List.set_cons_zero, List.set_cons_succ, List.nil_append, List.cons_append, List.length_cons, List.length_nil, List.drop_succ_cons, List.drop_zero, List.take_succ_cons, List.take_zero, List.take_nil, List.replicate_succ, List.replicate_zero, Bool.true_and, Nat.reduceAdd, Nat.reduceSub, Nat.reduceLeDiff, Nat.le_refl, Nat.zero_add, if_true, Nat.add_zero, Option.map_some, l1, l2, l3, c1, c2]
      exact entK_rt (ds := [.b _]) rfl rfl

/-- At most so many elements of each kind. -/
def Rd.le (r : Rd) (n : Nat) : Prop := r.p.length ≤ n ∧ r.f.length ≤ n ∧ r.t.length ≤ n

theorem room_ok {n b : Nat} (h : n ≤ 100000) (hb : b ≤ 64) : room n b = true := by
  simp only [room, decide_eq_true_eq]
  have : n * b ≤ 100000 * 64 := Nat.mul_le_mul h hb
  omega

theorem once37 {x y : D} {as bs : List (List UInt8)} (hx : Sl 1 (as.map eS.enc) x) (hy : Sl 1 (bs.map eS.enc) y) (ha : as.length ≤ 40000) (hb : bs.length ≤ 40000) : PRet V 37 [x, y] (owD 1 ((once2 as bs).map eS.enc)) :=
  once_ret (E := eS) onceInS_ok onceInS_exit (f := 37) rfl hx hy (by omega) (room_ok (by omega) (by omega))
theorem once38 {x y : D} {as bs : List (List UInt8 × Int)} (hx : Sl 2 (as.map eP.enc) x) (hy : Sl 2 (bs.map eP.enc) y) (ha : as.length ≤ 40000) (hb : bs.length ≤ 40000) : PRet V 38 [x, y] (owD 2 ((once2 as bs).map eP.enc)) :=
  once_ret (E := eP) (onceInT_ok eP_ok (bytes := 24) (zs := [.s [], .i .i64 0]) rfl (fun _ => rfl) rfl) (onceInT_exit _ _ _ _) (f := 38) rfl hx hy (by omega) (room_ok (by omega) (by omega))
theorem once39 {x y : D} {as bs : List (List UInt8 × Int × Int)} (hx : Sl 3 (as.map eR.enc) x) (hy : Sl 3 (bs.map eR.enc) y) (ha : as.length ≤ 40000) (hb : bs.length ≤ 40000) : PRet V 39 [x, y] (owD 3 ((once2 as bs).map eR.enc)) :=
  once_ret (E := eR) (onceInT_ok eR_ok (bytes := 32) (zs := [.s [], .i .i64 0, .i .i64 0]) rfl (fun _ => rfl) rfl) (onceInT_exit _ _ _ _) (f := 39) rfl hx hy (by omega) (room_ok (by omega) (by omega))

def allIn {α : Type} [DecidableEq α] (as bs : List α) : Bool := as.all fun a => inB a bs

theorem within40 {x y : D} {as bs : List (List UInt8 × Int)} (hx : Sl 2 (as.map eP.enc) x) (hy : Sl 2 (bs.map eP.enc) y) (ha : as.length ≤ 40000) (hb : bs.length ≤ 40000) : PRet V 40 [x, y] (.b (allIn as bs)) :=
  within_ret (E := eP) eP_ok (withInT_ok eP_ok (zs := [.s [], .i .i64 0]) rfl (fun _ => rfl)) (withInT_out _ _ _) (f := 40) (g := 67) (h := 32) (h' := 58) rfl rfl rfl (fun us a => notInT_ret eP_ok (fun _ => rfl) rfl us a) hx hy (by omega) (by omega)
theorem within41 {x y : D} {as bs : List (List UInt8 × Int × Int)} (hx : Sl 3 (as.map eR.enc) x) (hy : Sl 3 (bs.map eR.enc) y) (ha : as.length ≤ 40000) (hb : bs.length ≤ 40000) : PRet V 41 [x, y] (.b (allIn as bs)) :=
  within_ret (E := eR) eR_ok (withInT_ok eR_ok (zs := [.s [], .i .i64 0, .i .i64 0]) rfl (fun _ => rfl)) (withInT_out _ _ _) (f := 41) (g := 68) (h := 30) (h' := 57) rfl rfl rfl (fun us a => notInT_ret eR_ok (fun _ => rfl) rfl us a) hx hy (by omega) (by omega)
theorem within42 {x y : D} {as bs : List (List UInt8)} (hx : Sl 1 (as.map eS.enc) x) (hy : Sl 1 (bs.map eS.enc) y) (ha : as.length ≤ 40000) (hb : bs.length ≤ 40000) : PRet V 42 [x, y] (.b (allIn as bs)) :=
  within_ret (E := eS) eS_ok withInS_ok withInS_out (f := 42) (g := 70) (h := 69) (h' := 80) rfl rfl rfl (fun us a => notInS_ret rfl us a) hx hy (by omega) (by omega)

def merge (a b : Rd) : Rd := ⟨once2 a.p b.p, once2 a.f b.f, once2 a.t b.t⟩

theorem sl_frA {w : Nat} {rows : List (List D)} {x : D} (h : Sl w rows x) (H : Heap) : FrA H x x := (FrC.flat h.flat H).a

theorem ms_settle {w : Nat} {rows : List (List D)} {H : Heap} {d : D} (h : ∃ a, d = owD w rows ∨ (d = .mu a rows.length 0 rows.length ∧ arr H a rows.length = some (w, rows, none, true, false))) : True := trivial

theorem place_app (w : Nat) (rows : List (List D)) (H : Heap) : ∃ t, (placeC (owD w rows) H).2 = H ++ t := by
  cases rows with
  | nil => exact ⟨[], by simp [placeC, owD]⟩
  | cons r rows => exact ⟨_, rfl⟩
theorem settle_place (w : Nat) (rows : List (List D)) (H t : Heap) : settleC ((placeC (owD w rows) H).2 ++ t) (placeC (owD w rows) H).1 = some (owD w rows) := by
  cases rows with
  | nil => rfl
  | cons r rows => simp [placeC, owD, settleC, Dm.arr, List.take_of_length_le]

theorem merge21 {a b : Rd} {d e : D} (ha : IsRd a d) (hb : IsRd b e) (la : a.le 40000) (lb : b.le 40000) : PRet V 21 [d, e] (owRd (merge a b)) := by
  obtain ⟨x, y, zc, rfl, h1, h2, h3⟩ := ha
  obtain ⟨x', y', zc', rfl, k1, k2, k3⟩ := hb
  obtain ⟨a1, a2, a3⟩ := la
  obtain ⟨b1, b2, b3⟩ := lb
  have fz : ∀ {p q : D}, p.flat = true → q.flat = true → ∀ H, freezeL deep H [p, q] = some ([p, q], H) := fun hp hq H => flat_freezeL 10 H (fun d hd => by
    simp only [List.mem_cons, List.not_mem_nil, or_false] at hd
    rcases hd with rfl | rfl <;> assumption)
  -- the three calls, one behind the other
  let q1 := placeC (owD 2 ((once2 a.p b.p).map eP.enc)) []
  let q2 := placeC (owD 3 ((once2 a.f b.f).map eR.enc)) q1.2
  let q3 := placeC (owD 1 ((once2 a.t b.t).map eS.enc)) q2.2
  have pl : ∀ w rows H, place (owD w rows) H = placeC (owD w rows) H := fun w rows H => by cases rows <;> rfl
  obtain ⟨N1, c1⟩ := Ret.pure (V := V) (f := 38) (vf := v38) rfl rfl (fz h1.flat k1.flat []) (once38 h1 k1 a1 b1)
  obtain ⟨N2, c2⟩ := Ret.pure (V := V) (f := 39) (vf := v39) rfl rfl (fz h2.flat k2.flat q1.2) (once39 h2 k2 a2 b2)
  obtain ⟨N3, c3⟩ := Ret.pure (V := V) (f := 37) (vf := v37) rfl rfl (fz h3.flat k3.flat q2.2) (once37 h3 k3 a3 b3)
  rw [pl] at c1 c2 c3
  have hc : ∀ w rows H, (placeC (owD w rows) H).1.cellsN 1 = some [(placeC (owD w rows) H).1] := fun w rows H => by cases rows <;> rfl
  have e1 := hc 2 ((once2 a.p b.p).map eP.enc) []
  have e2 := hc 3 ((once2 a.f b.f).map eR.enc) q1.2
  have e3 := hc 1 ((once2 a.t b.t).map eS.enc) q2.2
  refine PRet.of (vf := v21) (d0 := .ag [q1.1, q2.1, q3.1]) (H := q3.2) rfl (N1 + N2 + N3) (fun n hn => ?_) ?_ ?_
  · have hent := enter_eq (V := V) (cl := call V n) (n := n) v21 [.ag [x, y, zc], .ag [x', y', zc']] [] rfl
    rw [hent]
    have c1' := c1 n (by omega)
    have c2' := c2 n (by omega)
    have c3' := c3 n (by omega)
    simp only [v21, exec_seq, exec_reg, exec_drawn, seqK_nm, ops_cons, ops_nil, opsW_t, opsF_t, opsK_v, wants_none, fits_none, fits_f, rd_lfa, rd_lld, rd_call, step_call, toR_ret, ev_l, ev_s, ab_sl, ab_lo, abS_bx, abL_lp, ofO_some, step_lal, step_lbx, step_lfa, lfaR_s, step_lld, lldR_s, lldB_bx, lldC_s, val_f, cells_ag, setSl, cut, List.getD_cons_zero, List.getD_cons_succ, List.getElem?_cons_zero, List.getElem?_cons_succ, List.set_cons_zero, List.set_cons_succ, List.nil_append, List.cons_append, List.length_cons, List.length_nil, List.drop_succ_cons, List.drop_zero, List.take_succ_cons, List.take_zero, List.map_cons, List.map_nil, List.all_nil, List.replicate_succ, List.replicate_zero, Nat.reduceAdd, Nat.reduceSub, Nat.reduceLeDiff, Nat.zero_add, if_true, Nat.add_zero, Option.map_some, c1']
    simp only [ops_cons, opsW_t, opsF_t, opsK_v, wants_none, fits_f, rd_lfa, rd_lld, rd_call, step_call, toR_ret, ev_l, ab_sl, ab_lo, abS_bx, abL_lp, ofO_some, step_lfa, lfaR_s, step_lld, lldR_s, lldB_bx, lldC_s, val_f, setSl, cut, List.getD_cons_zero, List.getD_cons_succ, List.getElem?_cons_zero, List.getElem?_cons_succ, List.nil_append, List.cons_append, List.length_cons, List.length_nil, List.drop_succ_cons, List.drop_zero, List.take_succ_cons, List.take_nil, List.map_cons, List.map_nil, List.all_nil, Nat.reduceAdd, Nat.le_refl, Nat.zero_add, if_true, show (placeC (owD 2 ((once2 a.p b.p).map eP.enc)) []).2 = q1.2 from rfl, c2']
    simp only [ops_cons, opsW_t, opsF_t, opsK_v, wants_none, fits_f, rd_agc, toR_ret, ev_l, step_agc, fill_cons, setSl, List.getD_cons_zero, List.getD_cons_succ, List.nil_append, List.cons_append, List.map_cons, List.map_nil, List.all_nil, show (placeC (owD 3 ((once2 a.f b.f).map eR.enc)) q1.2).2 = q2.2 from rfl, c3']
    simp only [exec_ret, seqK_nm, ops_cons, ops_nil, opsW_t, opsF_t, opsK_v, wants_none, fits_f, rd_lst, ev_l, ab_sl, abS_bx, ofO_some, step_lst, lstR_s, lstB_bx, lstC_s, fill_nil, fill_cons, fillK_s, fillP_s, cells_ag, setSl, put, List.getD_cons_zero, List.getD_cons_succ, List.getElem?_cons_zero, List.getElem?_cons_succ, List.set_cons_zero, List.set_cons_succ, List.nil_append, List.cons_append, List.append_nil, List.length_cons, List.length_nil, List.drop_succ_cons, List.drop_zero, List.drop_nil, List.take_succ_cons, List.take_zero, List.all_nil, Nat.reduceAdd, Nat.reduceLeDiff, Nat.le_refl, Nat.zero_add, if_true, Option.map_some, e1, e2, e3]
    exact entK_rt (ds := [.ag [q1.1, q2.1, q3.1]]) rfl rfl
  · have hm : ∀ w (rows : List (List D)) H, muOf (placeC (owD w rows) H).1 = match rows with | [] => [] | _ :: _ => [H.length] := fun w rows H => by cases rows <;> rfl
    have hl : ∀ w (rows : List (List D)) H, (placeC (owD w rows) H).2.length = match rows with | [] => H.length | _ :: _ => H.length + 1 := fun w rows H => by cases rows <;> simp [placeC, owD]
    show apart ((.ag [q1.1, q2.1, q3.1] : D) |> mus) = true
    simp only [mus, mus1, List.flatMap_cons, List.flatMap_nil, List.append_nil]
    have m1 := hm 2 ((once2 a.p b.p).map eP.enc) []
    have m2 := hm 3 ((once2 a.f b.f).map eR.enc) q1.2
    have m3 := hm 1 ((once2 a.t b.t).map eS.enc) q2.2
    have l1 := hl 2 ((once2 a.p b.p).map eP.enc) []
    have l2 := hl 3 ((once2 a.f b.f).map eR.enc) q1.2
    show apart (muOf (placeC (owD 2 ((once2 a.p b.p).map eP.enc)) []).1 ++ (muOf (placeC (owD 3 ((once2 a.f b.f).map eR.enc)) q1.2).1 ++ muOf (placeC (owD 1 ((once2 a.t b.t).map eS.enc)) q2.2).1)) = true
    rw [m1, m2, m3]
    have l1' : q1.2.length = _ := l1
    have l2' : q2.2.length = _ := l2
    rw [l2', l1']
    generalize (once2 a.p b.p).map eP.enc = r1
    generalize (once2 a.f b.f).map eR.enc = r2
    generalize (once2 a.t b.t).map eS.enc = r3
    cases r1 <;> cases r2 <;> cases r3 <;> simp [apart]
  · obtain ⟨t2, e2'⟩ := place_app 3 ((once2 a.f b.f).map eR.enc) q1.2
    obtain ⟨t3, e3'⟩ := place_app 1 ((once2 a.t b.t).map eS.enc) q2.2
    have f2 : q2.2 = q1.2 ++ t2 := e2'
    have f3 : q3.2 = q2.2 ++ t3 := e3'
    have s1 : settleC q3.2 q1.1 = some (owD 2 ((once2 a.p b.p).map eP.enc)) := by rw [f3, f2, List.append_assoc]; exact settle_place _ _ _ _
    have s2 : settleC q3.2 q2.1 = some (owD 3 ((once2 a.f b.f).map eR.enc)) := by rw [f3]; exact settle_place _ _ _ _
    have s3 : settleC q3.2 q3.1 = some (owD 1 ((once2 a.t b.t).map eS.enc)) := by
      have := settle_place 1 ((once2 a.t b.t).map eS.enc) q2.2 []
      rwa [List.append_nil] at this
    show (mapO (settleC q3.2) [q1.1, q2.1, q3.1]).map D.ag = _
    simp only [mapO, s1, s2, s3, Option.map_some, owRd, merge]

theorem merge_le {a b : Rd} {n m : Nat} (ha : a.le n) (hb : b.le m) : (merge a b).le (n + m) := by
  have h : ∀ {α : Type} [DecidableEq α] (x y : List α), (once2 x y).length ≤ x.length + y.length := fun x y => by
    have := fold_len (x ++ y) []
    simp only [List.length_nil, List.length_append, Nat.zero_add] at this
    exact this
  obtain ⟨h1, h2, h3⟩ := ha
  obtain ⟨k1, k2, k3⟩ := hb
  have e1 := h a.p b.p
  have e2 := h a.f b.f
  have e3 := h a.t b.t
  exact ⟨by simp only [merge]; omega, by simp only [merge]; omega, by simp only [merge]; omega⟩

def withinB (a b : Rd) : Bool := allIn a.p b.p && (allIn a.f b.f && allIn a.t b.t)

theorem within22 {a b : Rd} {d e : D} (ha : IsRd a d) (hb : IsRd b e) (la : a.le 40000) (lb : b.le 40000) : PRet V 22 [d, e] (.b (withinB a b)) := by
  obtain ⟨x, y, zc, rfl, h1, h2, h3⟩ := ha
  obtain ⟨x', y', zc', rfl, k1, k2, k3⟩ := hb
  obtain ⟨a1, a2, a3⟩ := la
  obtain ⟨b1, b2, b3⟩ := lb
  have fz : ∀ {p q : D}, p.flat = true → q.flat = true → ∀ H, freezeL deep H [p, q] = some ([p, q], H) := fun hp hq H => flat_freezeL 10 H (fun d hd => by
    simp only [List.mem_cons, List.not_mem_nil, or_false] at hd
    rcases hd with rfl | rfl <;> assumption)
  obtain ⟨N1, c1⟩ := Ret.pure (V := V) (f := 40) (vf := v40) rfl rfl (fz h1.flat k1.flat []) (within40 h1 k1 a1 b1)
  obtain ⟨N2, c2⟩ := Ret.pure (V := V) (f := 41) (vf := v41) rfl rfl (fz h2.flat k2.flat []) (within41 h2 k2 a2 b2)
  obtain ⟨N3, c3⟩ := Ret.pure (V := V) (f := 42) (vf := v42) rfl rfl (fz h3.flat k3.flat []) (within42 h3 k3 a3 b3)
  have pl : ∀ x H, place (.b x) H = (.b x, H) := fun _ _ => rfl
  rw [pl] at c1 c2 c3
  refine PRet.of (vf := v22) (d0 := .b (withinB a b)) (H := []) rfl (N1 + N2 + N3) (fun n hn => ?_) rfl rfl
  have hent := enter_eq (V := V) (cl := call V n) (n := n) v22 [.ag [x, y, zc], .ag [x', y', zc']] [] rfl
  rw [hent]
  have c1' := c1 n (by omega)
  have c2' := c2 n (by omega)
  have c3' := c3 n (by omega)
  unfold withinB
  cases g1 : allIn a.p b.p with
  | false =>
    rw [g1] at c1'
    simp only [v22, exec_seq, exec_ret, exec_reg, seqK_nm, ops_cons, ops_nil, opsW_t, opsW_f, opsF_t, opsK_v, wants_none, wants_some, wantK_tf, fits_none, step_call, toR_ret, ev_l, ev_s, ev_c, ab_sl, ab_lo, abS_bx, abL_lp, ofO_some, step_mov, step_pick, pick_f, step_lbx, step_lfa, lfaR_s, step_lld, lldR_s, lldB_bx, lldC_s, val_f, cells_ag, setSl, cut, List.getD_cons_zero, List.getD_cons_succ, List.getElem?_cons_zero, List.getElem?_cons_succ, List.set_cons_zero, List.set_cons_succ, List.nil_append, List.cons_append, List.length_cons, List.length_nil, List.drop_zero, List.take_succ_cons, List.take_zero, List.map_cons, List.map_nil, List.replicate_succ, List.replicate_zero, Bool.false_and, Nat.reduceAdd, Nat.reduceSub, Nat.reduceLeDiff, Nat.zero_add, if_true, Nat.add_zero, Option.map_some, c1']
    exact entK_rt (ds := [.b false]) rfl rfl
  | true =>
    rw [g1] at c1'
    cases g2 : allIn a.f b.f with
    | false =>
      rw [g2] at c2'
      simp only [v22, exec_seq, exec_ret, exec_reg, seqK_nm, ops_cons, ops_nil, opsW_t, opsW_f, opsF_t, opsK_v, wants_none, wants_some, wantK_tt, wantK_tf, fits_none, step_call, toR_ret, ev_l, ev_s, ev_c, ab_sl, ab_lo, abS_bx, abL_lp, ofO_some, step_mov, step_pick, pick_t, pick_f, step_lbx, step_lfa, lfaR_s, step_lld, lldR_s, lldB_bx, lldC_s, val_f, cells_ag, setSl, cut, List.getD_cons_zero, List.getD_cons_succ, List.getElem?_cons_zero, List.getElem?_cons_succ, List.set_cons_zero, List.set_cons_succ, List.nil_append, List.cons_append, List.length_cons, List.length_nil, List.drop_succ_cons, List.drop_zero, List.take_succ_cons, List.take_zero, List.map_cons, List.map_nil, List.replicate_succ, List.replicate_zero, Bool.and_false, Bool.false_and, Nat.reduceAdd, Nat.reduceSub, Nat.reduceLeDiff, Nat.zero_add, if_true, Nat.add_zero, Option.map_some, c1', c2']
      exact entK_rt (ds := [.b false]) rfl rfl
    | true =>
      rw [g2] at c2'
      simp only [v22, exec_seq, exec_ret, exec_reg, seqK_nm, ops_cons, ops_nil, opsW_t, opsF_t, opsK_v, wants_none, wants_some, wantK_tt, fits_none, step_call, toR_ret, ev_l, ev_s, ev_c, ab_sl, ab_lo, abS_bx, abL_lp, ofO_some, step_mov, step_pick, pick_t, step_lbx, step_lfa, lfaR_s, step_lld, lldR_s, lldB_bx, lldC_s, val_f, cells_ag, setSl, cut, List.getD_cons_zero, List.getD_cons_succ, List.getElem?_cons_zero, List.getElem?_cons_succ, List.set_cons_zero, List.set_cons_succ, List.nil_append, List.cons_append, List.length_cons, List.length_nil, List.drop_succ_cons, List.drop_zero, List.take_succ_cons, List.take_zero, List.take_nil, List.map_cons, List.map_nil, List.replicate_succ, List.replicate_zero, Bool.true_and, Nat.reduceAdd, Nat.reduceSub, Nat.reduceLeDiff, Nat.le_refl, Nat.zero_add, if_true, Nat.add_zero, Option.map_some, c1', c2', c3']
      exact entK_rt (ds := [.b _]) rfl rfl
end Go.Proofs.Ytkogdbgccjmaoaa.Dv
