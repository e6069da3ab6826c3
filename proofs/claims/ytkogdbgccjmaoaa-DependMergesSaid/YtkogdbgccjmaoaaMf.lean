/-
  The reference of layer 25 over the machine: does something touch what was examined.
-/
import Derived.Test.YtkogdbgccjmaoaaUc
import Derived.Test.YtkogdbgccjmaoaaMe
namespace Go.Proofs.Ytkogdbgccjmaoaa.Dv
open Go.Dm

def pAt {α : Type} (l : List α) (p : α → Bool) (i : Nat) : Bool := match l[i]? with
  | some a => p a
  | none => false
theorem pAt_i {α : Type} {l : List α} (p : α → Bool) {i : Nat} (hi : i < l.length) : pAt l p i = p l[i] := by simp [pAt, List.getElem?_eq_getElem hi]
theorem pAt_any {α : Type} (l : List α) (p : α → Bool) : (List.range l.length).any (pAt l p) = l.any p := any_range l p _ (fun i hi => pAt_i p hi)

theorem touchF_eq (key : List UInt8) (fr to : Int) (q : List UInt8 × Int × Int) : touchF key fr to q = (decide (q.1 = key) && (decide ((if q.2.1 < fr then fr else q.2.1) < q.2.2) && decide ((if q.2.1 < fr then fr else q.2.1) < to))) := by
  unfold touchF
  congr 1
  rw [Bool.eq_iff_iff]
  simp only [decide_eq_true_eq, Bool.and_eq_true]
  split <;> omega

theorem refFact11 {key : List UInt8} {fr to kn known : Int} {c4 c5 c6_ c7 c8 c9 c10 : D} {r : Rd} {d : D} (h : IsRd r d) (hl : r.le 40000) : PN V 40003 11 [d, .ag (factD key fr to kn c4 c5 c6_ c7 c8 c9 c10), .i .i64 known] (.b (factB r key fr to kn known)) := by
  obtain ⟨x, y, zc, rfl, h1, h2, h3⟩ := h
  obtain ⟨l1, l2, l3⟩ := hl
  have hl := fun H => h2.len (H := H)
  simp only [List.length_map] at hl
  have u1 := h2.under
  have k4 : ∀ (i : Nat) (h : i < r.f.length) H, iadD H y (.i .i64 i) 3 = some (.ip [.s r.f[i].1, .i .i64 r.f[i].2.1, .i .i64 r.f[i].2.2]) := fun i h H => by
    have := h2.elem (H := H) (k := .i64) (i := i) (by simpa using h)
    rw [List.getElem_map] at this
    exact this
  let st : Int → D → D → D → D → D → St := fun i g5 g6 g7 g11 g12 => ⟨[.ag [x, y, zc], .ag [.s key, .i .i64 fr, .i .i64 to, .i .i64 kn, c4, c5, c6_, c7, c8, c9, c10], .i .i64 known, .b false, .b false, g5, g6, g7, .bx [.s key, .i .i64 fr, .i .i64 to, .i .i64 kn, c4, c5, c6_, c7, c8, c9, c10], .i .i64 i, .bx [x, y, zc], g11, g12], []⟩
  refine PN.of (vf := v11) (d0 := .b (factB r key fr to kn known)) (H := []) rfl 40002 (fun n hn => ?_) rfl rfl
  have hent : enter V (call V n) n v11 [.ag [x, y, zc], .ag (factD key fr to kn c4 c5 c6_ c7 c8 c9 c10), .i .i64 known] [] = _ := enter_eq (V := V) (cl := call V n) (n := n) v11 [.ag [x, y, zc], .ag (factD key fr to kn c4 c5 c6_ c7 c8 c9 c10), .i .i64 known] [] rfl
  rw [hent]
  unfold factB
  cases c0 : decide (known < kn) with
  | true =>
    have : decide (kn ≤ known) = false := by simp at c0 ⊢; omega
    rw [this]
    simp only [v11, factD, exec_seq, exec_cond, exec_ret, exec_reg, seqK_nm, seqK_rt, condK_t, ops_cons, ops_nil, opsW_t, opsF_t, opsK_v, wants_none, fits_none, ev_l, ev_s, ev_c, ab_sl, ab_lo, abS_bx, abL_lp, ofO_some, step_mov, step_lbx, step_lfa, lfaR_s, step_lld, lldR_s, lldB_bx, lldC_s, val_f, step_bin, bin_gtr, cells_ag, setSl, cut, List.getD_cons_zero, List.getD_cons_succ, List.getElem?_cons_zero, List.getElem?_cons_succ, List.set_cons_zero, List.set_cons_succ, List.nil_append, List.cons_append, List.length_cons, List.length_nil, List.drop_succ_cons, List.drop_zero, List.take_succ_cons, List.take_zero, List.replicate_succ, List.replicate_zero, Bool.false_and, Nat.reduceAdd, Nat.reduceSub, Nat.reduceLeDiff, Nat.zero_add, if_true, Option.map_some, c0]
    exact entK_rt (ds := [.b false]) rfl rfl
  | false =>
  have : decide (kn ≤ known) = true := by simp at c0 ⊢; omega
  rw [this]
  obtain ⟨ex, s', e1, e2⟩ := any_loop (body := exec V (call V n) n v11l0) (n := n) (st := st 0 .u .u .u .u .u) (pAt r.f (touchF key fr to)) (fun i s => ∃ g5 g6 g7 g11 g12, s = st i g5 g6 g7 g11 g12)
    (fun p ex s' => (p = true ∧ ex = .rt ∧ resAll s' [.s 3] = some [.b true] ∧ s'.hp = []) ∨ (p = false ∧ ex = .ex 0 ∧ ∃ g5 g6 g7 g11 g12, s' = st r.f.length g5 g6 g7 g11 g12)) r.f.length (by omega) ⟨_, _, _, _, _, rfl⟩
    (fun i s hi hp hs => by
      obtain ⟨g5, g6, g7, g11, g12, rfl⟩ := hs
      have hd : decide ((i : Int) < (r.f.length : Int)) = true := by simpa using hi
      have hw := wrap1 (i := i) (by omega)
      have k4i := k4 i hi
      rw [pAt_i _ hi, touchF_eq] at hp
      generalize r.f[i] = q at hp k4i
      obtain ⟨qk, qf, qt⟩ := q
      simp only at hp k4i
      by_cases hc : qf < fr
      · simp only [if_pos hc] at hp
        have c6 : decide (qf < fr) = true := by simpa using hc
        cases c1 : decide (qk = key) with
        | false =>
          refine ⟨st (i + 1 : Nat) (.b true) (.b true) (.b false) (.bx [.s qk, .i .i64 qf, .i .i64 qt]) (.i .i64 fr), ?_, _, _, _, _, _, rfl⟩
          simp only [v11l0, st, exec_seq, exec_cond, exec_block, exec_skip, exec_reg, seqK_nm, condK_t, condK_f, blockK_nm, ops_cons, ops_nil, opsW_t, opsW_f, opsF_t, opsK_v, wants_none, wants_some, wantK_tf, fits_none, ev_l, ev_s, ev_c, ab_sl, ab_lo, abS_bx, abL_lp, ofO_some, step_mov, step_pick, pick_f, step_lal, step_lfa, lfaR_s, step_lld, lldR_s, lldB_bx, lldC_s, step_lst, lstR_s, lstB_bx, lstC_s, step_iad, step_ld, ldR_s, ld_ip, val_t, val_f, step_bin, bin_add, bin_lss, bin_gtr, bins_eql, step_len, cells_ag, setSl, cut, put, List.getD_cons_zero, List.getD_cons_succ, List.getElem?_cons_zero, List.getElem?_cons_succ, List.set_cons_zero, List.set_cons_succ, List.nil_append, List.cons_append, List.append_nil, List.length_cons, List.length_nil, List.drop_succ_cons, List.drop_zero, List.drop_nil, List.take_succ_cons, List.take_zero, List.take_nil, Nat.reduceAdd, Nat.reduceLeDiff, Nat.le_refl, Nat.zero_add, if_true, Nat.add_zero, hl, hd, k4i, hw, c6, c1]
        | true =>
          cases c2 : decide (fr < qt) with
          | false =>
            refine ⟨st (i + 1 : Nat) (.b true) (.b true) (.b false) (.bx [.s qk, .i .i64 qf, .i .i64 qt]) (.i .i64 fr), ?_, _, _, _, _, _, rfl⟩
            simp only [v11l0, st, exec_seq, exec_cond, exec_block, exec_skip, exec_reg, seqK_nm, condK_t, condK_f, blockK_nm, ops_cons, ops_nil, opsW_t, opsW_f, opsF_t, opsK_v, wants_none, wants_some, wantK_tt, wantK_tf, fits_none, ev_l, ev_s, ev_c, ab_sl, ab_lo, abS_bx, abL_lp, ofO_some, step_mov, step_pick, pick_t, pick_f, step_lal, step_lfa, lfaR_s, step_lld, lldR_s, lldB_bx, lldC_s, step_lst, lstR_s, lstB_bx, lstC_s, step_iad, step_ld, ldR_s, ld_ip, val_t, val_f, step_bin, bin_add, bin_lss, bin_gtr, bins_eql, step_len, cells_ag, setSl, cut, put, List.getD_cons_zero, List.getD_cons_succ, List.getElem?_cons_zero, List.getElem?_cons_succ, List.set_cons_zero, List.set_cons_succ, List.nil_append, List.cons_append, List.append_nil, List.length_cons, List.length_nil, List.drop_succ_cons, List.drop_zero, List.drop_nil, List.take_succ_cons, List.take_zero, List.take_nil, Nat.reduceAdd, Nat.reduceLeDiff, Nat.le_refl, Nat.zero_add, if_true, Nat.add_zero, hl, hd, k4i, hw, c6, c1, c2]
          | true =>
            cases c3 : decide (fr < to) with
            | false =>
              refine ⟨st (i + 1 : Nat) (.b true) (.b true) (.b false) (.bx [.s qk, .i .i64 qf, .i .i64 qt]) (.i .i64 fr), ?_, _, _, _, _, _, rfl⟩
              simp only [v11l0, st, exec_seq, exec_cond, exec_block, exec_skip, exec_reg, seqK_nm, condK_t, condK_f, blockK_nm, ops_cons, ops_nil, opsW_t, opsF_t, opsK_v, wants_none, wants_some, wantK_tt, fits_none, ev_l, ev_s, ev_c, ab_sl, ab_lo, abS_bx, abL_lp, ofO_some, step_mov, step_pick, pick_t, step_lal, step_lfa, lfaR_s, step_lld, lldR_s, lldB_bx, lldC_s, step_lst, lstR_s, lstB_bx, lstC_s, step_iad, step_ld, ldR_s, ld_ip, val_t, val_f, step_bin, bin_add, bin_lss, bin_gtr, bins_eql, step_len, cells_ag, setSl, cut, put, List.getD_cons_zero, List.getD_cons_succ, List.getElem?_cons_zero, List.getElem?_cons_succ, List.set_cons_zero, List.set_cons_succ, List.nil_append, List.cons_append, List.append_nil, List.length_cons, List.length_nil, List.drop_succ_cons, List.drop_zero, List.drop_nil, List.take_succ_cons, List.take_zero, List.take_nil, Nat.reduceAdd, Nat.reduceLeDiff, Nat.le_refl, Nat.zero_add, if_true, Nat.add_zero, hl, hd, k4i, hw, c6, c1, c2, c3]
            | true => simp [c1, c2, c3] at hp
      · simp only [if_neg hc] at hp
        have c6 : decide (qf < fr) = false := by simpa using hc
        cases c1 : decide (qk = key) with
        | false =>
          refine ⟨st (i + 1 : Nat) (.b true) (.b false) (.b false) (.bx [.s qk, .i .i64 qf, .i .i64 qt]) (.i .i64 qf), ?_, _, _, _, _, _, rfl⟩
          simp only [v11l0, st, exec_seq, exec_cond, exec_block, exec_skip, exec_reg, seqK_nm, condK_t, condK_f, blockK_nm, ops_cons, ops_nil, opsW_t, opsW_f, opsF_t, opsK_v, wants_none, wants_some, wantK_tf, fits_none, ev_l, ev_s, ev_c, ab_sl, ab_lo, abS_bx, abL_lp, ofO_some, step_mov, step_pick, pick_f, step_lal, step_lfa, lfaR_s, step_lld, lldR_s, lldB_bx, lldC_s, step_lst, lstR_s, lstB_bx, lstC_s, step_iad, step_ld, ldR_s, ld_ip, val_t, val_f, step_bin, bin_add, bin_lss, bin_gtr, bins_eql, step_len, cells_ag, setSl, cut, put, List.getD_cons_zero, List.getD_cons_succ, List.getElem?_cons_zero, List.getElem?_cons_succ, List.set_cons_zero, List.set_cons_succ, List.nil_append, List.cons_append, List.append_nil, List.length_cons, List.length_nil, List.drop_succ_cons, List.drop_zero, List.drop_nil, List.take_succ_cons, List.take_zero, List.take_nil, Nat.reduceAdd, Nat.reduceLeDiff, Nat.le_refl, Nat.zero_add, if_true, Nat.add_zero, hl, hd, k4i, hw, c6, c1]
        | true =>
          cases c2 : decide (qf < qt) with
          | false =>
            refine ⟨st (i + 1 : Nat) (.b true) (.b false) (.b false) (.bx [.s qk, .i .i64 qf, .i .i64 qt]) (.i .i64 qf), ?_, _, _, _, _, _, rfl⟩
            simp only [v11l0, st, exec_seq, exec_cond, exec_block, exec_skip, exec_reg, seqK_nm, condK_t, condK_f, blockK_nm, ops_cons, ops_nil, opsW_t, opsW_f, opsF_t, opsK_v, wants_none, wants_some, wantK_tt, wantK_tf, fits_none, ev_l, ev_s, ev_c, ab_sl, ab_lo, abS_bx, abL_lp, ofO_some, step_mov, step_pick, pick_t, pick_f, step_lal, step_lfa, lfaR_s, step_lld, lldR_s, lldB_bx, lldC_s, step_lst, lstR_s, lstB_bx, lstC_s, step_iad, step_ld, ldR_s, ld_ip, val_t, val_f, step_bin, bin_add, bin_lss, bin_gtr, bins_eql, step_len, cells_ag, setSl, cut, put, List.getD_cons_zero, List.getD_cons_succ, List.getElem?_cons_zero, List.getElem?_cons_succ, List.set_cons_zero, List.set_cons_succ, List.nil_append, List.cons_append, List.append_nil, List.length_cons, List.length_nil, List.drop_succ_cons, List.drop_zero, List.drop_nil, List.take_succ_cons, List.take_zero, List.take_nil, Nat.reduceAdd, Nat.reduceLeDiff, Nat.le_refl, Nat.zero_add, if_true, Nat.add_zero, hl, hd, k4i, hw, c6, c1, c2]
          | true =>
            cases c3 : decide (qf < to) with
            | false =>
              refine ⟨st (i + 1 : Nat) (.b true) (.b false) (.b false) (.bx [.s qk, .i .i64 qf, .i .i64 qt]) (.i .i64 qf), ?_, _, _, _, _, _, rfl⟩
              simp only [v11l0, st, exec_seq, exec_cond, exec_block, exec_skip, exec_reg, seqK_nm, condK_t, condK_f, blockK_nm, ops_cons, ops_nil, opsW_t, opsF_t, opsK_v, wants_none, wants_some, wantK_tt, fits_none, ev_l, ev_s, ev_c, ab_sl, ab_lo, abS_bx, abL_lp, ofO_some, step_mov, step_pick, pick_t, step_lal, step_lfa, lfaR_s, step_lld, lldR_s, lldB_bx, lldC_s, step_lst, lstR_s, lstB_bx, lstC_s, step_iad, step_ld, ldR_s, ld_ip, val_t, val_f, step_bin, bin_add, bin_lss, bin_gtr, bins_eql, step_len, cells_ag, setSl, cut, put, List.getD_cons_zero, List.getD_cons_succ, List.getElem?_cons_zero, List.getElem?_cons_succ, List.set_cons_zero, List.set_cons_succ, List.nil_append, List.cons_append, List.append_nil, List.length_cons, List.length_nil, List.drop_succ_cons, List.drop_zero, List.drop_nil, List.take_succ_cons, List.take_zero, List.take_nil, Nat.reduceAdd, Nat.reduceLeDiff, Nat.le_refl, Nat.zero_add, if_true, Nat.add_zero, hl, hd, k4i, hw, c6, c1, c2, c3]
            | true => simp [c1, c2, c3] at hp)
    (fun i s hi hp hs => by
      obtain ⟨g5, g6, g7, g11, g12, rfl⟩ := hs
      have hd : decide ((i : Int) < (r.f.length : Int)) = true := by simpa using hi
      have k4i := k4 i hi
      rw [pAt_i _ hi, touchF_eq] at hp
      generalize r.f[i] = q at hp k4i
      obtain ⟨qk, qf, qt⟩ := q
      simp only at hp k4i
      by_cases hc : qf < fr
      · simp only [if_pos hc, Bool.and_eq_true] at hp
        obtain ⟨c1, c2, c3⟩ := hp
        have c6 : decide (qf < fr) = true := by simpa using hc
        refine ⟨.rt, ⟨[.ag [x, y, zc], .ag [.s key, .i .i64 fr, .i .i64 to, .i .i64 kn, c4, c5, c6_, c7, c8, c9, c10], .i .i64 known, .b true, .b false, .b true, .b true, .b true, .bx [.s key, .i .i64 fr, .i .i64 to, .i .i64 kn, c4, c5, c6_, c7, c8, c9, c10], .i .i64 i, .bx [x, y, zc], .bx [.s qk, .i .i64 qf, .i .i64 qt], .i .i64 fr], []⟩, ?_, by simp, .inl ⟨rfl, rfl, rfl, rfl⟩⟩
        simp only [v11l0, st, exec_seq, exec_cond, exec_block, exec_skip, exec_ret, exec_reg, seqK_nm, seqK_rt, condK_t, blockK_rt, ops_cons, ops_nil, opsW_t, opsF_t, opsK_v, wants_none, wants_some, wantK_tt, fits_none, ev_l, ev_s, ev_c, ab_sl, ab_lo, abS_bx, abL_lp, ofO_some, step_mov, step_pick, pick_t, step_lal, step_lfa, lfaR_s, step_lld, lldR_s, lldB_bx, lldC_s, step_lst, lstR_s, lstB_bx, lstC_s, step_iad, step_ld, ldR_s, ld_ip, val_t, val_f, step_bin, bin_lss, bin_gtr, bins_eql, step_len, cells_ag, setSl, cut, put, List.getD_cons_zero, List.getD_cons_succ, List.getElem?_cons_zero, List.getElem?_cons_succ, List.set_cons_zero, List.set_cons_succ, List.nil_append, List.cons_append, List.append_nil, List.length_cons, List.length_nil, List.drop_succ_cons, List.drop_zero, List.drop_nil, List.take_succ_cons, List.take_zero, List.take_nil, Nat.reduceAdd, Nat.reduceLeDiff, Nat.le_refl, Nat.zero_add, if_true, Nat.add_zero, hl, hd, k4i, c6, c1, c2, c3]
      · simp only [if_neg hc, Bool.and_eq_true] at hp
        obtain ⟨c1, c2, c3⟩ := hp
        have c6 : decide (qf < fr) = false := by simpa using hc
        refine ⟨.rt, ⟨[.ag [x, y, zc], .ag [.s key, .i .i64 fr, .i .i64 to, .i .i64 kn, c4, c5, c6_, c7, c8, c9, c10], .i .i64 known, .b true, .b false, .b true, .b false, .b true, .bx [.s key, .i .i64 fr, .i .i64 to, .i .i64 kn, c4, c5, c6_, c7, c8, c9, c10], .i .i64 i, .bx [x, y, zc], .bx [.s qk, .i .i64 qf, .i .i64 qt], .i .i64 qf], []⟩, ?_, by simp, .inl ⟨rfl, rfl, rfl, rfl⟩⟩
        simp only [v11l0, st, exec_seq, exec_cond, exec_block, exec_skip, exec_ret, exec_reg, seqK_nm, seqK_rt, condK_t, condK_f, blockK_rt, ops_cons, ops_nil, opsW_t, opsF_t, opsK_v, wants_none, wants_some, wantK_tt, fits_none, ev_l, ev_s, ev_c, ab_sl, ab_lo, abS_bx, abL_lp, ofO_some, step_mov, step_pick, pick_t, step_lal, step_lfa, lfaR_s, step_lld, lldR_s, lldB_bx, lldC_s, step_lst, lstR_s, lstB_bx, lstC_s, step_iad, step_ld, ldR_s, ld_ip, val_t, val_f, step_bin, bin_lss, bin_gtr, bins_eql, step_len, cells_ag, setSl, cut, put, List.getD_cons_zero, List.getD_cons_succ, List.getElem?_cons_zero, List.getElem?_cons_succ, List.set_cons_zero, List.set_cons_succ, List.nil_append, List.cons_append, List.append_nil, List.length_cons, List.length_nil, List.drop_succ_cons, List.drop_zero, List.drop_nil, List.take_succ_cons, List.take_zero, List.take_nil, Nat.reduceAdd, Nat.reduceLeDiff, Nat.le_refl, Nat.zero_add, if_true, Nat.add_zero, hl, hd, k4i, c6, c1, c2, c3])
    (fun s hs => by
      obtain ⟨g5, g6, g7, g11, g12, rfl⟩ := hs
      have hd : decide ((r.f.length : Int) < (r.f.length : Int)) = false := by simp
      refine ⟨.ex 0, st r.f.length (.b false) g6 g7 g11 g12, ?_, by simp, .inr ⟨rfl, rfl, _, _, _, _, _, rfl⟩⟩
      simp only [v11l0, st, exec_seq, exec_cond, exec_exit, exec_reg, seqK_nm, seqK_ex, condK_f, ops_cons, ops_nil, opsW_t, opsF_t, opsK_v, wants_none, fits_none, ev_l, ev_s, ab_sl, ab_lo, abS_bx, abL_lp, ofO_some, step_mov, step_lfa, lfaR_s, step_lld, lldR_s, lldB_bx, lldC_s, val_f, step_bin, bin_lss, step_len, setSl, cut, List.getD_cons_zero, List.getD_cons_succ, List.getElem?_cons_zero, List.getElem?_cons_succ, List.set_cons_zero, List.set_cons_succ, List.nil_append, List.cons_append, List.length_cons, List.length_nil, List.drop_succ_cons, List.drop_zero, List.take_succ_cons, List.take_zero, Nat.reduceAdd, Nat.reduceLeDiff, Nat.zero_add, if_true, hl, hd])
  rw [pAt_any] at e2
  rcases e2 with ⟨hb, rfl, hr, hh⟩ | ⟨hb, rfl, g5, g6, g7, g11, g12, rfl⟩
  · simp only [st] at e1
    simp only [v11, factD, exec_seq, exec_cond, exec_block, exec_skip, exec_reg, seqK_nm, seqK_rt, condK_f, blockK_rt, ops_cons, ops_nil, opsW_t, opsF_t, opsK_v, wants_none, fits_none, ev_l, ev_s, ev_c, ab_sl, ab_lo, abS_bx, abL_lp, ofO_some, step_mov, step_lbx, step_lfa, lfaR_s, step_lld, lldR_s, lldB_bx, lldC_s, val_f, step_bin, bin_gtr, cells_ag, setSl, cut, List.getD_cons_zero, List.getD_cons_succ, List.getElem?_cons_zero, List.getElem?_cons_succ, List.set_cons_zero, List.set_cons_succ, List.nil_append, List.cons_append, List.length_cons, List.length_nil, List.drop_succ_cons, List.drop_zero, List.take_succ_cons, List.take_zero, List.replicate_succ, List.replicate_zero, Bool.true_and, Nat.reduceAdd, Nat.reduceSub, Nat.reduceLeDiff, Nat.zero_add, if_true, Option.map_some, exec_loop, c0, e1]
    rw [entK_rt hr rfl, hh, hb]; rfl
  · simp only [st] at e1
    simp only [v11, factD, exec_seq, exec_cond, exec_block, exec_skip, exec_ret, exec_reg, seqK_nm, condK_f, blockK_ex, ops_cons, ops_nil, opsW_t, opsF_t, opsK_v, wants_none, fits_none, ev_l, ev_s, ev_c, ab_sl, ab_lo, abS_bx, abL_lp, ofO_some, step_mov, step_lbx, step_lfa, lfaR_s, step_lld, lldR_s, lldB_bx, lldC_s, val_f, step_bin, bin_gtr, cells_ag, setSl, cut, List.getD_cons_zero, List.getD_cons_succ, List.getElem?_cons_zero, List.getElem?_cons_succ, List.set_cons_zero, List.set_cons_succ, List.nil_append, List.cons_append, List.length_cons, List.length_nil, List.drop_succ_cons, List.drop_zero, List.take_succ_cons, List.take_zero, List.replicate_succ, List.replicate_zero, Bool.true_and, Nat.reduceAdd, Nat.reduceSub, Nat.reduceLeDiff, Nat.zero_add, if_true, Option.map_some, exec_loop, c0, e1]
    rw [hb]
    exact entK_rt (ds := [.b false]) rfl rfl

theorem refClause13 {nm : List UInt8} {lb : D} {fr to kn known : Int} {c5 c6 c7 c8 c9 c10 c11 c12 c13 c14 c15 c16 c17 c18 c19 c20 c21 c22 c23 : D} {r : Rd} {d : D} (h : IsRd r d) (hl : r.le 40000) : PN V 40003 13 [d, .ag (clauseD nm lb fr to kn c5 c6 c7 c8 c9 c10 c11 c12 c13 c14 c15 c16 c17 c18 c19 c20 c21 c22 c23), .i .i64 known] (.b (clauseB r nm fr to kn known)) := by
  obtain ⟨x, y, zc, rfl, h1, h2, h3⟩ := h
  obtain ⟨l1, l2, l3⟩ := hl
  have hl := fun H => h1.len (H := H)
  simp only [List.length_map] at hl
  have u1 := h1.under
  have k4 : ∀ (i : Nat) (h : i < r.p.length) H, iadD H x (.i .i64 i) 2 = some (.ip [.s r.p[i].1, .i .i64 r.p[i].2]) := fun i h H => by
    have := h1.elem (H := H) (k := .i64) (i := i) (by simpa using h)
    rw [List.getElem_map] at this
    exact this
  let st : Int → D → D → St := fun i g5 g6 => ⟨[.ag [x, y, zc], .ag [.s nm, lb, .i .i64 fr, .i .i64 to, .i .i64 kn, c5, c6, c7, c8, c9, c10, c11, c12, c13, c14, c15, c16, c17, c18, c19, c20, c21, c22, c23], .i .i64 known, .b false, .b false, g5, g6, .bx [.s nm, lb, .i .i64 fr, .i .i64 to, .i .i64 kn, c5, c6, c7, c8, c9, c10, c11, c12, c13, c14, c15, c16, c17, c18, c19, c20, c21, c22, c23], .i .i64 i, .bx [x, y, zc]], []⟩
  refine PN.of (vf := v13) (d0 := .b (clauseB r nm fr to kn known)) (H := []) rfl 40002 (fun n hn => ?_) rfl rfl
  have hent : enter V (call V n) n v13 [.ag [x, y, zc], .ag (clauseD nm lb fr to kn c5 c6 c7 c8 c9 c10 c11 c12 c13 c14 c15 c16 c17 c18 c19 c20 c21 c22 c23), .i .i64 known] [] = _ := enter_eq (V := V) (cl := call V n) (n := n) v13 [.ag [x, y, zc], .ag (clauseD nm lb fr to kn c5 c6 c7 c8 c9 c10 c11 c12 c13 c14 c15 c16 c17 c18 c19 c20 c21 c22 c23), .i .i64 known] [] rfl
  rw [hent]
  unfold clauseB
  cases c0 : decide (known < kn) with
  | true =>
    have : decide (kn ≤ known) = false := by simp at c0 ⊢; omega
    rw [this]
    simp only [v13, clauseD, exec_seq, exec_cond, exec_ret, exec_reg, seqK_nm, seqK_rt, condK_t, ops_cons, ops_nil, opsW_t, opsF_t, opsK_v, wants_none, fits_none, ev_l, ev_s, ev_c, ab_sl, ab_lo, abS_bx, abL_lp, ofO_some, step_mov, step_lbx, step_lfa, lfaR_s, step_lld, lldR_s, lldB_bx, lldC_s, val_f, step_bin, bin_gtr, cells_ag, setSl, cut, List.getD_cons_zero, List.getD_cons_succ, List.getElem?_cons_zero, List.getElem?_cons_succ, List.set_cons_zero, List.set_cons_succ, List.nil_append, List.cons_append, List.length_cons, List.length_nil, List.drop_succ_cons, List.drop_zero, List.take_succ_cons, List.take_zero, List.replicate_succ, List.replicate_zero, Bool.false_and, Nat.reduceAdd, Nat.reduceSub, Nat.reduceLeDiff, Nat.zero_add, if_true, Option.map_some, c0]
    exact entK_rt (ds := [.b false]) rfl rfl
  | false =>
  have : decide (kn ≤ known) = true := by simp at c0 ⊢; omega
  rw [this]
  obtain ⟨ex, s', e1, e2⟩ := any_loop (body := exec V (call V n) n v13l0) (n := n) (st := st 0 .u .u) (pAt r.p (touchC nm fr to)) (fun i s => ∃ g5 g6, s = st i g5 g6)
    (fun p ex s' => (p = true ∧ ex = .rt ∧ resAll s' [.s 3] = some [.b true] ∧ s'.hp = []) ∨ (p = false ∧ ex = .ex 0 ∧ ∃ g5 g6, s' = st r.p.length g5 g6)) r.p.length (by omega) ⟨_, _, rfl⟩
    (fun i s hi hp hs => by
      obtain ⟨g5, g6, rfl⟩ := hs
      have hd : decide ((i : Int) < (r.p.length : Int)) = true := by simpa using hi
      have hw := wrap1 (i := i) (by omega)
      have k4i := k4 i hi
      rw [pAt_i _ hi] at hp
      unfold touchC at hp
      generalize r.p[i] = q at hp k4i
      obtain ⟨qk, qd⟩ := q
      simp only at hp k4i
      refine ⟨st (i + 1 : Nat) (.b true) (.b false), ?_, _, _, rfl⟩
      cases e1 : decide (qk = nm) with
      | false => simp only [v13l0, st, exec_seq, exec_cond, exec_block, exec_skip, exec_reg, exec_drawn, seqK_nm, condK_t, condK_f, blockK_nm, ops_cons, ops_nil, opsW_t, opsW_f, opsF_t, opsK_v, wants_none, wants_some, wantK_tf, fits_none, fits_f, rd_mov, rd_pick, rd_lfa, rd_lld, rd_fad, rd_bin, rd_ld, rd_iad, un_ip, ev_l, ev_s, ev_c, ab_sl, ab_lo, abS_bx, abL_lp, ofO_some, step_mov, step_pick, pick_f, step_lfa, lfaR_s, step_lld, lldR_s, lldB_bx, lldC_s, step_fad, fad_ip, step_iad, step_ld, ldR_s, ld_ip, val_f, step_bin, bin_add, bin_lss, bins_eql, step_len, setSl, cut, List.getD_cons_zero, List.getD_cons_succ, List.getElem?_cons_zero, List.getElem?_cons_succ, List.set_cons_zero, List.set_cons_succ, List.nil_append, List.cons_append, List.length_cons, List.length_nil, List.drop_zero, List.take_succ_cons, List.take_zero, List.all_cons, List.all_nil, Bool.and_true, Nat.reduceAdd, Nat.reduceLeDiff, Nat.zero_add, if_true, Nat.add_zero, hl, hd, k4i, hw, e1, u1]
      | true =>
        cases e2 : decide (fr ≤ qd) with
        | false => simp only [v13l0, st, exec_seq, exec_cond, exec_block, exec_skip, exec_reg, exec_drawn, seqK_nm, condK_t, condK_f, blockK_nm, ops_cons, ops_nil, opsW_t, opsW_f, opsF_t, opsK_v, wants_none, wants_some, wantK_tt, wantK_tf, fits_none, fits_f, rd_mov, rd_pick, rd_lfa, rd_lld, rd_fad, rd_bin, rd_ld, rd_iad, un_ip, ev_l, ev_s, ev_c, ab_sl, ab_lo, abS_bx, abL_lp, ofO_some, step_mov, step_pick, pick_t, pick_f, step_lfa, lfaR_s, step_lld, lldR_s, lldB_bx, lldC_s, step_fad, fad_ip, step_iad, step_ld, ldR_s, ld_ip, val_f, step_bin, bin_add, bin_lss, bin_geq, bins_eql, step_len, setSl, cut, List.getD_cons_zero, List.getD_cons_succ, List.getElem?_cons_zero, List.getElem?_cons_succ, List.set_cons_zero, List.set_cons_succ, List.nil_append, List.cons_append, List.length_cons, List.length_nil, List.drop_succ_cons, List.drop_zero, List.take_succ_cons, List.take_zero, List.take_nil, List.all_cons, List.all_nil, Bool.and_true, Nat.reduceAdd, Nat.reduceLeDiff, Nat.le_refl, Nat.zero_add, if_true, Nat.add_zero, hl, hd, k4i, hw, e1, e2, u1]
        | true =>
          cases e3 : decide (qd < to) with
          | false => simp only [v13l0, st, exec_seq, exec_cond, exec_block, exec_skip, exec_reg, exec_drawn, seqK_nm, condK_t, condK_f, blockK_nm, ops_cons, ops_nil, opsW_t, opsF_t, opsK_v, wants_none, wants_some, wantK_tt, fits_none, fits_f, rd_mov, rd_pick, rd_lfa, rd_lld, rd_fad, rd_bin, rd_ld, rd_iad, un_ip, ev_l, ev_s, ev_c, ab_sl, ab_lo, abS_bx, abL_lp, ofO_some, step_mov, step_pick, pick_t, step_lfa, lfaR_s, step_lld, lldR_s, lldB_bx, lldC_s, step_fad, fad_ip, step_iad, step_ld, ldR_s, ld_ip, val_f, step_bin, bin_add, bin_lss, bin_geq, bins_eql, step_len, setSl, cut, List.getD_cons_zero, List.getD_cons_succ, List.getElem?_cons_zero, List.getElem?_cons_succ, List.set_cons_zero, List.set_cons_succ, List.nil_append, List.cons_append, List.length_cons, List.length_nil, List.drop_succ_cons, List.drop_zero, List.take_succ_cons, List.take_zero, List.take_nil, List.all_cons, List.all_nil, Bool.and_true, Nat.reduceAdd, Nat.reduceLeDiff, Nat.le_refl, Nat.zero_add, if_true, Nat.add_zero, hl, hd, k4i, hw, e1, e2, e3, u1]
          | true => simp [e1, e2, e3] at hp)
    (fun i s hi hp hs => by
      obtain ⟨g5, g6, rfl⟩ := hs
      have hd : decide ((i : Int) < (r.p.length : Int)) = true := by simpa using hi
      have k4i := k4 i hi
      rw [pAt_i _ hi] at hp
      unfold touchC at hp
      generalize r.p[i] = q at hp k4i
      obtain ⟨qk, qd⟩ := q
      simp only [Bool.and_eq_true] at hp k4i
      obtain ⟨e1, e2, e3⟩ := hp
      refine ⟨.rt, ⟨[.ag [x, y, zc], .ag [.s nm, lb, .i .i64 fr, .i .i64 to, .i .i64 kn, c5, c6, c7, c8, c9, c10, c11, c12, c13, c14, c15, c16, c17, c18, c19, c20, c21, c22, c23], .i .i64 known, .b true, .b false, .b true, .b true, .bx [.s nm, lb, .i .i64 fr, .i .i64 to, .i .i64 kn, c5, c6, c7, c8, c9, c10, c11, c12, c13, c14, c15, c16, c17, c18, c19, c20, c21, c22, c23], .i .i64 i, .bx [x, y, zc]], []⟩, ?_, by simp, .inl ⟨rfl, rfl, rfl, rfl⟩⟩
      simp only [v13l0, st, exec_seq, exec_cond, exec_block, exec_skip, exec_ret, exec_reg, exec_drawn, seqK_nm, seqK_rt, condK_t, blockK_rt, ops_cons, ops_nil, opsW_t, opsF_t, opsK_v, wants_none, wants_some, wantK_tt, fits_none, fits_f, rd_mov, rd_pick, rd_lfa, rd_lld, rd_fad, rd_bin, rd_ld, rd_iad, un_ip, ev_l, ev_s, ev_c, ab_sl, ab_lo, abS_bx, abL_lp, ofO_some, step_mov, step_pick, pick_t, step_lfa, lfaR_s, step_lld, lldR_s, lldB_bx, lldC_s, step_fad, fad_ip, step_iad, step_ld, ldR_s, ld_ip, val_f, step_bin, bin_lss, bin_geq, bins_eql, step_len, setSl, cut, List.getD_cons_zero, List.getD_cons_succ, List.getElem?_cons_zero, List.getElem?_cons_succ, List.set_cons_zero, List.set_cons_succ, List.nil_append, List.cons_append, List.length_cons, List.length_nil, List.drop_succ_cons, List.drop_zero, List.take_succ_cons, List.take_zero, List.take_nil, List.all_cons, List.all_nil, Bool.and_true, Nat.reduceAdd, Nat.reduceLeDiff, Nat.le_refl, Nat.zero_add, if_true, Nat.add_zero, hl, hd, k4i, e1, e2, e3, u1])
    (fun s hs => by
      obtain ⟨g5, g6, rfl⟩ := hs
      have hd : decide ((r.p.length : Int) < (r.p.length : Int)) = false := by simp
      refine ⟨.ex 0, st r.p.length (.b false) g6, ?_, by simp, .inr ⟨rfl, rfl, _, _, rfl⟩⟩
      simp only [v13l0, st, exec_seq, exec_cond, exec_exit, exec_reg, seqK_nm, seqK_ex, condK_f, ops_cons, ops_nil, opsW_t, opsF_t, opsK_v, wants_none, fits_none, ev_l, ev_s, ab_sl, ab_lo, abS_bx, abL_lp, ofO_some, step_mov, step_lfa, lfaR_s, step_lld, lldR_s, lldB_bx, lldC_s, val_f, step_bin, bin_lss, step_len, setSl, cut, List.getD_cons_zero, List.getD_cons_succ, List.getElem?_cons_zero, List.getElem?_cons_succ, List.set_cons_zero, List.set_cons_succ, List.nil_append, List.cons_append, List.length_cons, List.length_nil, List.drop_zero, List.take_succ_cons, List.take_zero, Nat.reduceAdd, Nat.reduceLeDiff, Nat.zero_add, if_true, Nat.add_zero, hl, hd])
  rw [pAt_any] at e2
  rcases e2 with ⟨hb, rfl, hr, hh⟩ | ⟨hb, rfl, g5, g6, rfl⟩
  · simp only [st] at e1
    simp only [v13, clauseD, exec_seq, exec_cond, exec_block, exec_skip, exec_reg, seqK_nm, seqK_rt, condK_f, blockK_rt, ops_cons, ops_nil, opsW_t, opsF_t, opsK_v, wants_none, fits_none, ev_l, ev_s, ev_c, ab_sl, ab_lo, abS_bx, abL_lp, ofO_some, step_mov, step_lbx, step_lfa, lfaR_s, step_lld, lldR_s, lldB_bx, lldC_s, val_f, step_bin, bin_gtr, cells_ag, setSl, cut, List.getD_cons_zero, List.getD_cons_succ, List.getElem?_cons_zero, List.getElem?_cons_succ, List.set_cons_zero, List.set_cons_succ, List.nil_append, List.cons_append, List.length_cons, List.length_nil, List.drop_succ_cons, List.drop_zero, List.take_succ_cons, List.take_zero, List.replicate_succ, List.replicate_zero, Bool.true_and, Nat.reduceAdd, Nat.reduceSub, Nat.reduceLeDiff, Nat.zero_add, if_true, Option.map_some, exec_loop, c0, e1]
    rw [entK_rt hr rfl, hh, hb]; rfl
  · simp only [st] at e1
    simp only [v13, clauseD, exec_seq, exec_cond, exec_block, exec_skip, exec_ret, exec_reg, seqK_nm, condK_f, blockK_ex, ops_cons, ops_nil, opsW_t, opsF_t, opsK_v, wants_none, fits_none, ev_l, ev_s, ev_c, ab_sl, ab_lo, abS_bx, abL_lp, ofO_some, step_mov, step_lbx, step_lfa, lfaR_s, step_lld, lldR_s, lldB_bx, lldC_s, val_f, step_bin, bin_gtr, cells_ag, setSl, cut, List.getD_cons_zero, List.getD_cons_succ, List.getElem?_cons_zero, List.getElem?_cons_succ, List.set_cons_zero, List.set_cons_succ, List.nil_append, List.cons_append, List.length_cons, List.length_nil, List.drop_succ_cons, List.drop_zero, List.take_succ_cons, List.take_zero, List.replicate_succ, List.replicate_zero, Bool.true_and, Nat.reduceAdd, Nat.reduceSub, Nat.reduceLeDiff, Nat.zero_add, if_true, Option.map_some, exec_loop, c0, e1]
    rw [hb]
    exact entK_rt (ds := [.b false]) rfl rfl

theorem refRow15 {r : Rd} {d : D} (h : IsRd r d) (hl : r.le 40000) (nm : List UInt8) (c0 c1 : D) (kn known : Int) (c3 c4 c5 c6 : D) : PN V 40003 15 [d, .s nm, .ag [c0, c1, .i .i64 kn, c3, c4, c5, c6], .i .i64 known] (.b (rowB r nm kn known)) := by
  obtain ⟨x, y, zc, rfl, h1, h2, h3⟩ := h
  obtain ⟨l1, l2, l3⟩ := hl
  have hl := fun H => h3.len (H := H)
  simp only [List.length_map] at hl
  have u1 := h3.under
  have k4 : ∀ (i : Nat) (h : i < r.t.length) H, iadD H zc (.i .i64 i) 1 = some (.ip [.s r.t[i]]) := fun i h H => by
    have := h3.elem (H := H) (k := .i64) (i := i) (by simpa using h)
    rw [List.getElem_map] at this
    exact this
  let st : Int → D → D → St := fun i g5 g6 => ⟨[.ag [x, y, zc], .s nm, .ag [c0, c1, .i .i64 kn, c3, c4, c5, c6], .i .i64 known, .b false, g5, g6, .i .i64 i, .bx [x, y, zc], .bx [c0, c1, .i .i64 kn, c3, c4, c5, c6]], []⟩
  have hrow : rowB r nm kn known = r.t.any (fun t => decide (t = nm) && decide (kn ≤ known)) := by
    rw [Bool.eq_iff_iff]
    simp only [rowB, Bool.and_eq_true, decide_eq_true_eq, inB, List.any_eq_true]
    constructor
    · rintro ⟨h1, h2⟩; exact ⟨nm, h2, rfl, h1⟩
    · rintro ⟨t, h1, rfl, h2⟩; exact ⟨h2, h1⟩
  refine PN.of (vf := v15) (d0 := .b (rowB r nm kn known)) (H := []) rfl 40002 (fun n hn => ?_) rfl rfl
  have hent : enter V (call V n) n v15 [.ag [x, y, zc], .s nm, .ag [c0, c1, .i .i64 kn, c3, c4, c5, c6], .i .i64 known] [] = _ := enter_eq (V := V) (cl := call V n) (n := n) v15 [.ag [x, y, zc], .s nm, .ag [c0, c1, .i .i64 kn, c3, c4, c5, c6], .i .i64 known] [] rfl
  rw [hent, hrow]
  obtain ⟨ex, s', e1, e2⟩ := any_loop (body := exec V (call V n) n v15l0) (n := n) (st := st 0 .u .u) (pAt r.t (fun t => decide (t = nm) && decide (kn ≤ known))) (fun i s => ∃ g5 g6, s = st i g5 g6)
    (fun p ex s' => (p = true ∧ ex = .rt ∧ resAll s' [.s 4] = some [.b true] ∧ s'.hp = []) ∨ (p = false ∧ ex = .ex 0 ∧ ∃ g5 g6, s' = st r.t.length g5 g6)) r.t.length (by omega) ⟨_, _, rfl⟩
    (fun i s hi hp hs => by
      obtain ⟨g5, g6, rfl⟩ := hs
      have hd : decide ((i : Int) < (r.t.length : Int)) = true := by simpa using hi
      have hw := wrap1 (i := i) (by omega)
      have k4i := k4 i hi
      rw [pAt_i _ hi] at hp
      generalize r.t[i] = q at hp k4i
      refine ⟨st (i + 1 : Nat) (.b true) (.b false), ?_, _, _, rfl⟩
      cases e1 : decide (q = nm) with
      | false => simp only [v15l0, st, exec_seq, exec_cond, exec_block, exec_skip, exec_reg, seqK_nm, condK_t, condK_f, blockK_nm, ops_cons, ops_nil, opsW_t, opsW_f, opsF_t, opsK_v, wants_none, wants_some, wantK_tf, fits_none, ev_l, ev_s, ev_c, ab_sl, ab_lo, abS_bx, abL_lp, ofO_some, step_mov, step_pick, pick_f, step_lfa, lfaR_s, step_lld, lldR_s, lldB_bx, lldC_s, step_iad, step_ld, ldR_s, ld_ip, val_f, step_bin, bin_add, bin_lss, bins_eql, step_len, setSl, cut, List.getD_cons_zero, List.getD_cons_succ, List.getElem?_cons_zero, List.getElem?_cons_succ, List.set_cons_zero, List.set_cons_succ, List.nil_append, List.cons_append, List.length_cons, List.length_nil, List.drop_succ_cons, List.drop_zero, List.take_succ_cons, List.take_nil, Nat.reduceAdd, Nat.le_refl, Nat.zero_add, if_true, hl, hd, k4i, hw, e1]
      | true =>
        cases e2 : decide (kn ≤ known) with
        | false => simp only [v15l0, st, exec_seq, exec_cond, exec_block, exec_skip, exec_reg, seqK_nm, condK_t, condK_f, blockK_nm, ops_cons, ops_nil, opsW_t, opsF_t, opsK_v, wants_none, wants_some, wantK_tt, fits_none, ev_l, ev_s, ev_c, ab_sl, ab_lo, abS_bx, abL_lp, ofO_some, step_mov, step_pick, pick_t, step_lfa, lfaR_s, step_lld, lldR_s, lldB_bx, lldC_s, step_iad, step_ld, ldR_s, ld_ip, val_f, step_bin, bin_add, bin_lss, bin_leq, bins_eql, step_len, setSl, cut, List.getD_cons_zero, List.getD_cons_succ, List.getElem?_cons_zero, List.getElem?_cons_succ, List.set_cons_zero, List.set_cons_succ, List.nil_append, List.cons_append, List.length_cons, List.length_nil, List.drop_succ_cons, List.drop_zero, List.take_succ_cons, List.take_zero, List.take_nil, Nat.reduceAdd, Nat.reduceLeDiff, Nat.le_refl, Nat.zero_add, if_true, hl, hd, k4i, hw, e1, e2]
        | true => simp [e1, e2] at hp)
    (fun i s hi hp hs => by
      obtain ⟨g5, g6, rfl⟩ := hs
      have hd : decide ((i : Int) < (r.t.length : Int)) = true := by simpa using hi
      have k4i := k4 i hi
      rw [pAt_i _ hi] at hp
      generalize r.t[i] = q at hp k4i
      simp only [Bool.and_eq_true] at hp
      obtain ⟨e1, e2⟩ := hp
      refine ⟨.rt, ⟨[.ag [x, y, zc], .s nm, .ag [c0, c1, .i .i64 kn, c3, c4, c5, c6], .i .i64 known, .b true, .b true, .b true, .i .i64 i, .bx [x, y, zc], .bx [c0, c1, .i .i64 kn, c3, c4, c5, c6]], []⟩, ?_, by simp, .inl ⟨rfl, rfl, rfl, rfl⟩⟩
      simp only [v15l0, st, exec_seq, exec_cond, exec_block, exec_skip, exec_ret, exec_reg, seqK_nm, seqK_rt, condK_t, blockK_rt, ops_cons, ops_nil, opsW_t, opsF_t, opsK_v, wants_none, wants_some, wantK_tt, fits_none, ev_l, ev_s, ev_c, ab_sl, ab_lo, abS_bx, abL_lp, ofO_some, step_mov, step_pick, pick_t, step_lfa, lfaR_s, step_lld, lldR_s, lldB_bx, lldC_s, step_iad, step_ld, ldR_s, ld_ip, val_f, step_bin, bin_lss, bin_leq, bins_eql, step_len, setSl, cut, List.getD_cons_zero, List.getD_cons_succ, List.getElem?_cons_zero, List.getElem?_cons_succ, List.set_cons_zero, List.set_cons_succ, List.nil_append, List.cons_append, List.length_cons, List.length_nil, List.drop_succ_cons, List.drop_zero, List.take_succ_cons, List.take_zero, List.take_nil, Nat.reduceAdd, Nat.reduceLeDiff, Nat.le_refl, Nat.zero_add, if_true, hl, hd, k4i, e1, e2])
    (fun s hs => by
      obtain ⟨g5, g6, rfl⟩ := hs
      have hd : decide ((r.t.length : Int) < (r.t.length : Int)) = false := by simp
      refine ⟨.ex 0, st r.t.length (.b false) g6, ?_, by simp, .inr ⟨rfl, rfl, _, _, rfl⟩⟩
      simp only [v15l0, st, exec_seq, exec_cond, exec_exit, exec_reg, seqK_nm, seqK_ex, condK_f, ops_cons, ops_nil, opsW_t, opsF_t, opsK_v, wants_none, fits_none, ev_l, ev_s, ab_sl, ab_lo, abS_bx, abL_lp, ofO_some, step_mov, step_lfa, lfaR_s, step_lld, lldR_s, lldB_bx, lldC_s, val_f, step_bin, bin_lss, step_len, setSl, cut, List.getD_cons_zero, List.getD_cons_succ, List.getElem?_cons_zero, List.getElem?_cons_succ, List.set_cons_zero, List.set_cons_succ, List.nil_append, List.cons_append, List.length_cons, List.length_nil, List.drop_succ_cons, List.drop_zero, List.take_succ_cons, List.take_nil, Nat.reduceAdd, Nat.le_refl, Nat.zero_add, if_true, hl, hd])
  rw [pAt_any] at e2
  rcases e2 with ⟨hb, rfl, hr, hh⟩ | ⟨hb, rfl, g5, g6, rfl⟩
  · simp only [st] at e1
    simp only [v15, exec_seq, exec_block, exec_reg, seqK_nm, seqK_rt, blockK_rt, ops_cons, ops_nil, opsW_t, opsF_t, opsK_v, wants_none, fits_none, ev_s, ev_c, ofO_some, step_mov, step_lbx, cells_ag, setSl, List.getD_cons_zero, List.getD_cons_succ, List.set_cons_zero, List.set_cons_succ, List.nil_append, List.cons_append, List.length_cons, List.length_nil, List.replicate_succ, List.replicate_zero, Nat.reduceAdd, Nat.reduceSub, Nat.zero_add, if_true, Option.map_some, exec_loop, e1]
    rw [entK_rt hr rfl, hh, hb]; rfl
  · simp only [st] at e1
    simp only [v15, exec_seq, exec_block, exec_ret, exec_reg, seqK_nm, blockK_ex, ops_cons, ops_nil, opsW_t, opsF_t, opsK_v, wants_none, fits_none, ev_s, ev_c, ofO_some, step_mov, step_lbx, cells_ag, setSl, List.getD_cons_zero, List.getD_cons_succ, List.set_cons_zero, List.set_cons_succ, List.nil_append, List.cons_append, List.length_cons, List.length_nil, List.replicate_succ, List.replicate_zero, Nat.reduceAdd, Nat.reduceSub, Nat.zero_add, if_true, Option.map_some, exec_loop, e1]
    rw [hb]
    exact entK_rt (ds := [.b false]) rfl rfl
end Go.Proofs.Ytkogdbgccjmaoaa.Dv
