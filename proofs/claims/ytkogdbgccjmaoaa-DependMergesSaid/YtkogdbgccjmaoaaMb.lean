/-
  The reference of layer 25 over the machine: within, merge.
-/
import Derived.Test.YtkogdbgccjmaoaaMa
import Derived.Test.YtkogdbgccjmaoaaDg
namespace Go.Proofs.Ytkogdbgccjmaoaa.Dv
open Go.Dm

def outAt {α : Type} [DecidableEq α] (l bs : List α) (i : Nat) : Bool := match l[i]? with
  | some a => !inB a bs
  | none => false
theorem outAt_i {α : Type} [DecidableEq α] {l : List α} (bs : List α) {i : Nat} (hi : i < l.length) : outAt l bs i = !inB l[i] bs := by simp [outAt, List.getElem?_eq_getElem hi]
theorem all_range {α : Type} [DecidableEq α] (l bs : List α) : (!((List.range l.length).any (outAt l bs))) = allIn l bs := by
  rw [any_range l (fun a => !inB a bs) _ (fun i hi => outAt_i bs hi)]
  rw [Bool.eq_iff_iff]
  simp [allIn]

theorem refWithin26 {a b : Rd} {d e : D} (ha : IsRd a d) (hb : IsRd b e) (la : a.le 40000) (lb : b.le 40000) : PN V 40005 26 [d, e] (.b (withinB a b)) := by
  have hcall44 : ∀ q, RN V 40003 44 [e, eP.key q] [] (.b (inB q b.p)) [] := fun q => PN.plain (vf := v44) rfl rfl [] (by simp [rd_plain hb]; rfl) (has44 hb lb q) rfl
  have hcall45 : ∀ q, RN V 40003 45 [e, eR.key q] [] (.b (inB q b.f)) [] := fun q => PN.plain (vf := v45) rfl rfl [] (by simp [rd_plain hb]; rfl) (has45 hb lb q) rfl
  have hcall46 : ∀ q, RN V 40003 46 [e, eS.key q] [] (.b (inB q b.t)) [] := fun q => PN.plain (vf := v46) rfl rfl [] (by simp [rd_plain hb]; rfl) (has46 hb lb q) rfl
  obtain ⟨x, y, zc, rfl, h1, h2, h3⟩ := ha
  obtain ⟨x', y', zc', rfl, k1, k2, k3⟩ := hb
  obtain ⟨a1, a2, a3⟩ := la
  refine PN.of (vf := v26) (d0 := .b (withinB a b)) (H := []) rfl 40004 (fun n hn => ?_) rfl rfl
  have hent : enter V (call V n) n v26 [.ag [x, y, zc], .ag [x', y', zc']] [] = _ := enter_eq (V := V) (cl := call V n) (n := n) v26 [.ag [x, y, zc], .ag [x', y', zc']] [] rfl
  rw [hent]
  let st : D → D → D → D → D → D → D → D → D → D → St := fun r2 g3 g4 g5 g6 g7 g8 i0 i1 i2 => ⟨[.ag [x, y, zc], .ag [x', y', zc'], r2, g3, g4, g5, g6, g7, g8, i0, .bx [x, y, zc], .bx [x', y', zc'], i1, i2], []⟩
  have L0 : ∀ (g3 g4 g5 g6 g7 g8 i0 i1 i2 : D), ∃ ex s', iter (exec V (call V n) n v26l0) n (st (.b false) g3 g4 g5 g6 g7 g8 (.i .i64 0) i1 i2) = (ex, s') ∧
      ((allIn a.p b.p = false ∧ ex = .rt ∧ resAll s' [.s 2] = some [.b false] ∧ s'.hp = []) ∨ (allIn a.p b.p = true ∧ ex = .ex 0 ∧ ∃ g3 g4 g5 g6 g7 g8 i0 i1 i2, s' = st (.b false) g3 g4 g5 g6 g7 g8 i0 i1 i2)) := fun g3 g4 g5 g6 g7 g8 i0 i1 i2 => by
    have hl := fun H => h1.len (H := H)
    simp only [List.length_map] at hl
    have u1 := h1.under
    have k4 : ∀ (i : Nat) (h : i < a.p.length) H, iadD H x (.i .i64 i) 2 = some (.ip [.s a.p[i].1, .i .i64 a.p[i].2]) := fun i h H => by
      have := h1.elem (H := H) (k := .i64) (i := i) (by simpa using h)
      rw [List.getElem_map] at this
      exact this
    have hc : ∀ (i : Nat) (h : i < a.p.length), call V n 44 [.ag [x', y', zc'], .ag [.s a.p[i].1, .i .i64 a.p[i].2]] [] = .ret (.b (inB a.p[i] b.p)) [] := fun i h => hcall44 a.p[i] n (by omega)
    obtain ⟨ex, s', e1, e2⟩ := any_loop (body := exec V (call V n) n v26l0) (n := n) (st := st (.b false) g3 g4 g5 g6 g7 g8 (.i .i64 0) i1 i2) (outAt a.p b.p)
      (fun i s => ∃ g3 g4, s = st (.b false) g3 g4 g5 g6 g7 g8 (.i .i64 (i : Nat)) i1 i2)
      (fun p ex s' => (p = true ∧ ex = .rt ∧ resAll s' [.s 2] = some [.b false] ∧ s'.hp = []) ∨ (p = false ∧ ex = .ex 0 ∧ ∃ g3 g4, s' = st (.b false) g3 g4 g5 g6 g7 g8 (.i .i64 (a.p.length : Nat)) i1 i2)) a.p.length (by omega) ⟨_, _, rfl⟩
      (fun i s hi hp hs => by
        obtain ⟨g3, g4, rfl⟩ := hs
        have hd : decide ((i : Int) < (a.p.length : Int)) = true := by simpa using hi
        have hp' : inB a.p[i] b.p = true := by rw [outAt_i _ hi] at hp; simpa using hp
        have hw := wrap1 (i := i) (by omega)
        have hci := hc i hi
        rw [hp'] at hci
        refine ⟨st (.b false) (.b true) (.b false) g5 g6 g7 g8 (.i .i64 (i + 1 : Nat)) i1 i2, ?_, _, _, rfl⟩
        simp only [v26l0, st, exec_seq, exec_cond, exec_block, exec_skip, exec_reg, exec_drawn, seqK_nm, condK_t, condK_f, blockK_nm, ops_cons, ops_nil, opsW_t, opsF_t, opsK_v, wants_none, fits_none, fits_f, rd_mov, rd_lfa, rd_lld, rd_un, rd_call, rd_ld, rd_iad, un_ip, step_call, toR_ret, ev_l, ev_s, ev_c, ab_sl, ab_lo, abS_bx, abL_lp, ofO_some, step_mov, step_lfa, lfaR_s, step_lld, lldR_s, lldB_bx, lldC_s, step_iad, step_ld, ldR_s, ld_ip, val_t, val_f, step_bin, bin_add, bin_lss, step_un, un_not, step_len, setSl, cut, List.getD_cons_zero, List.getD_cons_succ, List.getElem?_cons_zero, List.getElem?_cons_succ, List.set_cons_zero, List.set_cons_succ, List.nil_append, List.cons_append, List.length_cons, List.length_nil, List.drop_zero, List.take_succ_cons, List.take_zero, List.take_nil, List.map_cons, List.map_nil, List.all_cons, List.all_nil, Bool.and_true, Nat.reduceAdd, Nat.reduceLeDiff, Nat.le_refl, Nat.zero_add, if_true, Bool.not_true, Nat.add_zero, hl, hd, k4 i hi, hci, hw, u1])
      (fun i s hi hp hs => by
        obtain ⟨g3, g4, rfl⟩ := hs
        have hd : decide ((i : Int) < (a.p.length : Int)) = true := by simpa using hi
        have hp' : inB a.p[i] b.p = false := by rw [outAt_i _ hi] at hp; simpa using hp
        have hci := hc i hi
        rw [hp'] at hci
        refine ⟨.rt, st (.b false) (.b true) (.b true) g5 g6 g7 g8 (.i .i64 (i : Nat)) i1 i2, ?_, by simp, .inl ⟨rfl, rfl, rfl, rfl⟩⟩
        simp only [v26l0, st, exec_seq, exec_cond, exec_block, exec_skip, exec_ret, exec_reg, exec_drawn, seqK_nm, seqK_rt, condK_t, blockK_rt, ops_cons, ops_nil, opsW_t, opsF_t, opsK_v, wants_none, fits_none, fits_f, rd_mov, rd_lfa, rd_lld, rd_un, rd_call, rd_ld, rd_iad, un_ip, step_call, toR_ret, ev_l, ev_s, ev_c, ab_sl, ab_lo, abS_bx, abL_lp, ofO_some, step_mov, step_lfa, lfaR_s, step_lld, lldR_s, lldB_bx, lldC_s, step_iad, step_ld, ldR_s, ld_ip, val_t, val_f, step_bin, bin_lss, step_un, un_not, step_len, setSl, cut, List.getD_cons_zero, List.getD_cons_succ, List.getElem?_cons_zero, List.getElem?_cons_succ, List.set_cons_zero, List.set_cons_succ, List.nil_append, List.cons_append, List.length_cons, List.length_nil, List.drop_zero, List.take_succ_cons, List.take_zero, List.take_nil, List.map_cons, List.map_nil, List.all_cons, List.all_nil, Bool.and_true, Nat.reduceAdd, Nat.reduceLeDiff, Nat.le_refl, Nat.zero_add, if_true, Bool.not_false, Nat.add_zero, hl, hd, k4 i hi, hci, u1])
      (fun s hs => by
        obtain ⟨g3, g4, rfl⟩ := hs
        have hd : decide ((a.p.length : Int) < (a.p.length : Int)) = false := by simp
        refine ⟨.ex 0, st (.b false) (.b false) g4 g5 g6 g7 g8 (.i .i64 (a.p.length : Nat)) i1 i2, ?_, by simp, .inr ⟨rfl, rfl, _, _, rfl⟩⟩
        simp only [v26l0, st, exec_seq, exec_cond, exec_exit, exec_reg, seqK_nm, seqK_ex, condK_f, ops_cons, ops_nil, opsW_t, opsF_t, opsK_v, wants_none, fits_none, ev_l, ev_s, ab_sl, ab_lo, abS_bx, abL_lp, ofO_some, step_mov, step_lfa, lfaR_s, step_lld, lldR_s, lldB_bx, lldC_s, val_f, step_bin, bin_lss, step_len, setSl, cut, List.getD_cons_zero, List.getD_cons_succ, List.getElem?_cons_zero, List.getElem?_cons_succ, List.set_cons_zero, List.set_cons_succ, List.nil_append, List.cons_append, List.length_cons, List.length_nil, List.drop_zero, List.take_succ_cons, List.take_zero, Nat.reduceAdd, Nat.reduceLeDiff, Nat.zero_add, if_true, Nat.add_zero, hl, hd])
    refine ⟨ex, s', e1, ?_⟩
    have hr := all_range a.p b.p
    rcases e2 with ⟨hb, e3, e4, e5⟩ | ⟨hb, e3, c0, c1, e4⟩
    · rw [hb] at hr
      exact .inl ⟨hr.symm, e3, e4, e5⟩
    · rw [hb] at hr
      exact .inr ⟨hr.symm, e3, _, _, _, _, _, _, _, _, _, e4⟩
  have L1 : ∀ (g3 g4 g5 g6 g7 g8 i0 i1 i2 : D), ∃ ex s', iter (exec V (call V n) n v26l1) n (st (.b false) g3 g4 g5 g6 g7 g8 i0 (.i .i64 0) i2) = (ex, s') ∧
      ((allIn a.f b.f = false ∧ ex = .rt ∧ resAll s' [.s 2] = some [.b false] ∧ s'.hp = []) ∨ (allIn a.f b.f = true ∧ ex = .ex 2 ∧ ∃ g3 g4 g5 g6 g7 g8 i0 i1 i2, s' = st (.b false) g3 g4 g5 g6 g7 g8 i0 i1 i2)) := fun g3 g4 g5 g6 g7 g8 i0 i1 i2 => by
    have hl := fun H => h2.len (H := H)
    simp only [List.length_map] at hl
    have u1 := h2.under
    have k4 : ∀ (i : Nat) (h : i < a.f.length) H, iadD H y (.i .i64 i) 3 = some (.ip [.s a.f[i].1, .i .i64 a.f[i].2.1, .i .i64 a.f[i].2.2]) := fun i h H => by
      have := h2.elem (H := H) (k := .i64) (i := i) (by simpa using h)
      rw [List.getElem_map] at this
      exact this
    have hc : ∀ (i : Nat) (h : i < a.f.length), call V n 45 [.ag [x', y', zc'], .ag [.s a.f[i].1, .i .i64 a.f[i].2.1, .i .i64 a.f[i].2.2]] [] = .ret (.b (inB a.f[i] b.f)) [] := fun i h => hcall45 a.f[i] n (by omega)
    obtain ⟨ex, s', e1, e2⟩ := any_loop (body := exec V (call V n) n v26l1) (n := n) (st := st (.b false) g3 g4 g5 g6 g7 g8 i0 (.i .i64 0) i2) (outAt a.f b.f)
      (fun i s => ∃ g5 g6, s = st (.b false) g3 g4 g5 g6 g7 g8 i0 (.i .i64 (i : Nat)) i2)
      (fun p ex s' => (p = true ∧ ex = .rt ∧ resAll s' [.s 2] = some [.b false] ∧ s'.hp = []) ∨ (p = false ∧ ex = .ex 2 ∧ ∃ g5 g6, s' = st (.b false) g3 g4 g5 g6 g7 g8 i0 (.i .i64 (a.f.length : Nat)) i2)) a.f.length (by omega) ⟨_, _, rfl⟩
      (fun i s hi hp hs => by
        obtain ⟨g5, g6, rfl⟩ := hs
        have hd : decide ((i : Int) < (a.f.length : Int)) = true := by simpa using hi
        have hp' : inB a.f[i] b.f = true := by rw [outAt_i _ hi] at hp; simpa using hp
        have hw := wrap1 (i := i) (by omega)
        have hci := hc i hi
        rw [hp'] at hci
        refine ⟨st (.b false) g3 g4 (.b true) (.b false) g7 g8 i0 (.i .i64 (i + 1 : Nat)) i2, ?_, _, _, rfl⟩
        simp only [v26l1, st, exec_seq, exec_cond, exec_block, exec_skip, exec_reg, exec_drawn, seqK_nm, condK_t, condK_f, blockK_nm, ops_cons, ops_nil, opsW_t, opsF_t, opsK_v, wants_none, fits_none, fits_f, rd_mov, rd_lfa, rd_lld, rd_un, rd_call, rd_ld, rd_iad, un_ip, step_call, toR_ret, ev_l, ev_s, ev_c, ab_sl, ab_lo, abS_bx, abL_lp, ofO_some, step_mov, step_lfa, lfaR_s, step_lld, lldR_s, lldB_bx, lldC_s, step_iad, step_ld, ldR_s, ld_ip, val_t, val_f, step_bin, bin_add, bin_lss, step_un, un_not, step_len, setSl, cut, List.getD_cons_zero, List.getD_cons_succ, List.getElem?_cons_zero, List.getElem?_cons_succ, List.set_cons_zero, List.set_cons_succ, List.nil_append, List.cons_append, List.length_cons, List.length_nil, List.drop_succ_cons, List.drop_zero, List.take_succ_cons, List.take_zero, List.take_nil, List.map_cons, List.map_nil, List.all_cons, List.all_nil, Bool.and_true, Nat.reduceAdd, Nat.reduceLeDiff, Nat.le_refl, Nat.zero_add, if_true, Bool.not_true, hl, hd, k4 i hi, hci, hw, u1])
      (fun i s hi hp hs => by
        obtain ⟨g5, g6, rfl⟩ := hs
        have hd : decide ((i : Int) < (a.f.length : Int)) = true := by simpa using hi
        have hp' : inB a.f[i] b.f = false := by rw [outAt_i _ hi] at hp; simpa using hp
        have hci := hc i hi
        rw [hp'] at hci
        refine ⟨.rt, st (.b false) g3 g4 (.b true) (.b true) g7 g8 i0 (.i .i64 (i : Nat)) i2, ?_, by simp, .inl ⟨rfl, rfl, rfl, rfl⟩⟩
        simp only [v26l1, st, exec_seq, exec_cond, exec_block, exec_skip, exec_ret, exec_reg, exec_drawn, seqK_nm, seqK_rt, condK_t, blockK_rt, ops_cons, ops_nil, opsW_t, opsF_t, opsK_v, wants_none, fits_none, fits_f, rd_mov, rd_lfa, rd_lld, rd_un, rd_call, rd_ld, rd_iad, un_ip, step_call, toR_ret, ev_l, ev_s, ev_c, ab_sl, ab_lo, abS_bx, abL_lp, ofO_some, step_mov, step_lfa, lfaR_s, step_lld, lldR_s, lldB_bx, lldC_s, step_iad, step_ld, ldR_s, ld_ip, val_t, val_f, step_bin, bin_lss, step_un, un_not, step_len, setSl, cut, List.getD_cons_zero, List.getD_cons_succ, List.getElem?_cons_zero, List.getElem?_cons_succ, List.set_cons_zero, List.set_cons_succ, List.nil_append, List.cons_append, List.length_cons, List.length_nil, List.drop_succ_cons, List.drop_zero, List.take_succ_cons, List.take_zero, List.take_nil, List.map_cons, List.map_nil, List.all_cons, List.all_nil, Bool.and_true, Nat.reduceAdd, Nat.reduceLeDiff, Nat.le_refl, Nat.zero_add, if_true, Bool.not_false, hl, hd, k4 i hi, hci, u1])
      (fun s hs => by
        obtain ⟨g5, g6, rfl⟩ := hs
        have hd : decide ((a.f.length : Int) < (a.f.length : Int)) = false := by simp
        refine ⟨.ex 2, st (.b false) g3 g4 (.b false) g6 g7 g8 i0 (.i .i64 (a.f.length : Nat)) i2, ?_, by simp, .inr ⟨rfl, rfl, _, _, rfl⟩⟩
        simp only [v26l1, st, exec_seq, exec_cond, exec_exit, exec_reg, seqK_nm, seqK_ex, condK_f, ops_cons, ops_nil, opsW_t, opsF_t, opsK_v, wants_none, fits_none, ev_l, ev_s, ab_sl, ab_lo, abS_bx, abL_lp, ofO_some, step_mov, step_lfa, lfaR_s, step_lld, lldR_s, lldB_bx, lldC_s, val_f, step_bin, bin_lss, step_len, setSl, cut, List.getD_cons_zero, List.getD_cons_succ, List.getElem?_cons_zero, List.getElem?_cons_succ, List.set_cons_zero, List.set_cons_succ, List.nil_append, List.cons_append, List.length_cons, List.length_nil, List.drop_succ_cons, List.drop_zero, List.take_succ_cons, List.take_zero, Nat.reduceAdd, Nat.reduceLeDiff, Nat.zero_add, if_true, hl, hd])
    refine ⟨ex, s', e1, ?_⟩
    have hr := all_range a.f b.f
    rcases e2 with ⟨hb, e3, e4, e5⟩ | ⟨hb, e3, c0, c1, e4⟩
    · rw [hb] at hr
      exact .inl ⟨hr.symm, e3, e4, e5⟩
    · rw [hb] at hr
      exact .inr ⟨hr.symm, e3, _, _, _, _, _, _, _, _, _, e4⟩
  have L2 : ∀ (g3 g4 g5 g6 g7 g8 i0 i1 i2 : D), ∃ ex s', iter (exec V (call V n) n v26l2) n (st (.b false) g3 g4 g5 g6 g7 g8 i0 i1 (.i .i64 0)) = (ex, s') ∧
      ((allIn a.t b.t = false ∧ ex = .rt ∧ resAll s' [.s 2] = some [.b false] ∧ s'.hp = []) ∨ (allIn a.t b.t = true ∧ ex = .ex 4 ∧ ∃ g3 g4 g5 g6 g7 g8 i0 i1 i2, s' = st (.b false) g3 g4 g5 g6 g7 g8 i0 i1 i2)) := fun g3 g4 g5 g6 g7 g8 i0 i1 i2 => by
    have hl := fun H => h3.len (H := H)
    simp only [List.length_map] at hl
    have u1 := h3.under
    have k4 : ∀ (i : Nat) (h : i < a.t.length) H, iadD H zc (.i .i64 i) 1 = some (.ip [.s a.t[i]]) := fun i h H => by
      have := h3.elem (H := H) (k := .i64) (i := i) (by simpa using h)
      rw [List.getElem_map] at this
      exact this
    have hc : ∀ (i : Nat) (h : i < a.t.length), call V n 46 [.ag [x', y', zc'], .s a.t[i]] [] = .ret (.b (inB a.t[i] b.t)) [] := fun i h => hcall46 a.t[i] n (by omega)
    obtain ⟨ex, s', e1, e2⟩ := any_loop (body := exec V (call V n) n v26l2) (n := n) (st := st (.b false) g3 g4 g5 g6 g7 g8 i0 i1 (.i .i64 0)) (outAt a.t b.t)
      (fun i s => ∃ g7 g8, s = st (.b false) g3 g4 g5 g6 g7 g8 i0 i1 (.i .i64 (i : Nat)))
      (fun p ex s' => (p = true ∧ ex = .rt ∧ resAll s' [.s 2] = some [.b false] ∧ s'.hp = []) ∨ (p = false ∧ ex = .ex 4 ∧ ∃ g7 g8, s' = st (.b false) g3 g4 g5 g6 g7 g8 i0 i1 (.i .i64 (a.t.length : Nat)))) a.t.length (by omega) ⟨_, _, rfl⟩
      (fun i s hi hp hs => by
        obtain ⟨g7, g8, rfl⟩ := hs
        have hd : decide ((i : Int) < (a.t.length : Int)) = true := by simpa using hi
        have hp' : inB a.t[i] b.t = true := by rw [outAt_i _ hi] at hp; simpa using hp
        have hw := wrap1 (i := i) (by omega)
        have hci := hc i hi
        rw [hp'] at hci
        refine ⟨st (.b false) g3 g4 g5 g6 (.b true) (.b false) i0 i1 (.i .i64 (i + 1 : Nat)), ?_, _, _, rfl⟩
        simp only [v26l2, st, exec_seq, exec_cond, exec_block, exec_skip, exec_reg, exec_drawn, seqK_nm, condK_t, condK_f, blockK_nm, ops_cons, ops_nil, opsW_t, opsF_t, opsK_v, wants_none, fits_none, fits_f, rd_mov, rd_lfa, rd_lld, rd_un, rd_call, rd_ld, rd_iad, un_ip, step_call, toR_ret, ev_l, ev_s, ev_c, ab_sl, ab_lo, abS_bx, abL_lp, ofO_some, step_mov, step_lfa, lfaR_s, step_lld, lldR_s, lldB_bx, lldC_s, step_iad, step_ld, ldR_s, ld_ip, val_t, val_f, step_bin, bin_add, bin_lss, step_un, un_not, step_len, setSl, cut, List.getD_cons_zero, List.getD_cons_succ, List.getElem?_cons_zero, List.getElem?_cons_succ, List.set_cons_zero, List.set_cons_succ, List.nil_append, List.cons_append, List.length_cons, List.length_nil, List.drop_succ_cons, List.drop_zero, List.take_succ_cons, List.take_nil, List.map_cons, List.map_nil, List.all_cons, List.all_nil, Bool.and_true, Nat.reduceAdd, Nat.le_refl, Nat.zero_add, if_true, Bool.not_true, hl, hd, k4 i hi, hci, hw, u1])
      (fun i s hi hp hs => by
        obtain ⟨g7, g8, rfl⟩ := hs
        have hd : decide ((i : Int) < (a.t.length : Int)) = true := by simpa using hi
        have hp' : inB a.t[i] b.t = false := by rw [outAt_i _ hi] at hp; simpa using hp
        have hci := hc i hi
        rw [hp'] at hci
        refine ⟨.rt, st (.b false) g3 g4 g5 g6 (.b true) (.b true) i0 i1 (.i .i64 (i : Nat)), ?_, by simp, .inl ⟨rfl, rfl, rfl, rfl⟩⟩
        simp only [v26l2, st, exec_seq, exec_cond, exec_block, exec_skip, exec_ret, exec_reg, exec_drawn, seqK_nm, seqK_rt, condK_t, blockK_rt, ops_cons, ops_nil, opsW_t, opsF_t, opsK_v, wants_none, fits_none, fits_f, rd_mov, rd_lfa, rd_lld, rd_un, rd_call, rd_ld, rd_iad, un_ip, step_call, toR_ret, ev_l, ev_s, ev_c, ab_sl, ab_lo, abS_bx, abL_lp, ofO_some, step_mov, step_lfa, lfaR_s, step_lld, lldR_s, lldB_bx, lldC_s, step_iad, step_ld, ldR_s, ld_ip, val_t, val_f, step_bin, bin_lss, step_un, un_not, step_len, setSl, cut, List.getD_cons_zero, List.getD_cons_succ, List.getElem?_cons_zero, List.getElem?_cons_succ, List.set_cons_zero, List.set_cons_succ, List.nil_append, List.cons_append, List.length_cons, List.length_nil, List.drop_succ_cons, List.drop_zero, List.take_succ_cons, List.take_nil, List.map_cons, List.map_nil, List.all_cons, List.all_nil, Bool.and_true, Nat.reduceAdd, Nat.le_refl, Nat.zero_add, if_true, Bool.not_false, hl, hd, k4 i hi, hci, u1])
      (fun s hs => by
        obtain ⟨g7, g8, rfl⟩ := hs
        have hd : decide ((a.t.length : Int) < (a.t.length : Int)) = false := by simp
        refine ⟨.ex 4, st (.b false) g3 g4 g5 g6 (.b false) g8 i0 i1 (.i .i64 (a.t.length : Nat)), ?_, by simp, .inr ⟨rfl, rfl, _, _, rfl⟩⟩
        simp only [v26l2, st, exec_seq, exec_cond, exec_exit, exec_reg, seqK_nm, seqK_ex, condK_f, ops_cons, ops_nil, opsW_t, opsF_t, opsK_v, wants_none, fits_none, ev_l, ev_s, ab_sl, ab_lo, abS_bx, abL_lp, ofO_some, step_mov, step_lfa, lfaR_s, step_lld, lldR_s, lldB_bx, lldC_s, val_f, step_bin, bin_lss, step_len, setSl, cut, List.getD_cons_zero, List.getD_cons_succ, List.getElem?_cons_zero, List.getElem?_cons_succ, List.set_cons_zero, List.set_cons_succ, List.nil_append, List.cons_append, List.length_cons, List.length_nil, List.drop_succ_cons, List.drop_zero, List.take_succ_cons, List.take_nil, Nat.reduceAdd, Nat.le_refl, Nat.zero_add, if_true, hl, hd])
    refine ⟨ex, s', e1, ?_⟩
    have hr := all_range a.t b.t
    rcases e2 with ⟨hb, e3, e4, e5⟩ | ⟨hb, e3, c0, c1, e4⟩
    · rw [hb] at hr
      exact .inl ⟨hr.symm, e3, e4, e5⟩
    · rw [hb] at hr
      exact .inr ⟨hr.symm, e3, _, _, _, _, _, _, _, _, _, e4⟩
  have u0 : (D.u : D) = .u := rfl
  obtain ⟨ex, s', e1, ⟨hb, rfl, hr, hh⟩ | ⟨hb0, rfl, g3, g4, g5, g6, g7, g8, i0, i1, i2, rfl⟩⟩ := L0 .u .u .u .u .u .u .u .u .u
  · simp only [st] at e1
    simp only [v26, exec_seq, exec_block, exec_reg, seqK_nm, seqK_rt, blockK_rt, ops_cons, ops_nil, opsW_t, opsF_t, opsK_v, wants_none, fits_none, ev_s, ev_c, ofO_some, step_mov, step_lbx, cells_ag, setSl, List.getD_cons_zero, List.getD_cons_succ, List.set_cons_zero, List.set_cons_succ, List.nil_append, List.cons_append, List.length_cons, List.length_nil, List.replicate_succ, List.replicate_zero, Nat.reduceAdd, Nat.reduceSub, Nat.zero_add, if_true, Option.map_some, exec_loop, e1]
    rw [entK_rt hr rfl, hh]; simp [withinB, hb, oneOr]
  simp only [st] at e1
  simp only [v26, exec_seq, exec_block, exec_reg, seqK_nm, blockK_ex, ops_cons, ops_nil, opsW_t, opsF_t, opsK_v, wants_none, fits_none, ev_s, ev_c, ofO_some, step_mov, step_lbx, cells_ag, setSl, List.getD_cons_zero, List.getD_cons_succ, List.set_cons_zero, List.set_cons_succ, List.nil_append, List.cons_append, List.length_cons, List.length_nil, List.replicate_succ, List.replicate_zero, Nat.reduceAdd, Nat.reduceSub, Nat.zero_add, if_true, Option.map_some, exec_loop, e1]
  clear e1
  obtain ⟨ex, s', e1, ⟨hb, rfl, hr, hh⟩ | ⟨hb1, rfl, g3, g4, g5, g6, g7, g8, i0, i1, i2, rfl⟩⟩ := L1 g3 g4 g5 g6 g7 g8 i0 i1 i2
  · simp only [st] at e1
    simp only [seqK_rt, blockK_rt, e1]
    rw [entK_rt hr rfl, hh]; simp [withinB, hb0, hb, oneOr]
  simp only [st] at e1
  simp only [exec_seq, exec_block, exec_reg, seqK_nm, blockK_ex, ops_cons, ops_nil, opsW_t, opsF_t, opsK_v, wants_none, fits_none, ev_c, step_mov, setSl, List.set_cons_zero, List.set_cons_succ, List.nil_append, if_true, exec_loop, e1]
  clear e1
  obtain ⟨ex, s', e1, ⟨hb, rfl, hr, hh⟩ | ⟨hb2, rfl, g3, g4, g5, g6, g7, g8, i0, i1, i2, rfl⟩⟩ := L2 g3 g4 g5 g6 g7 g8 i0 i1 i2
  · simp only [st] at e1
    simp only [seqK_rt, blockK_rt, e1]
    rw [entK_rt hr rfl, hh]; simp [withinB, hb0, hb1, hb, oneOr]
  simp only [st] at e1
  simp only [exec_seq, exec_ret, exec_reg, seqK_nm, blockK_ex, ops_cons, ops_nil, opsW_t, opsF_t, opsK_v, wants_none, fits_none, ev_c, step_mov, setSl, List.set_cons_zero, List.set_cons_succ, List.nil_append, if_true, e1]
  rw [show withinB a b = true by simp [withinB, hb0, hb1, hb2]]
  exact entK_rt (ds := [.b true]) rfl rfl
end Go.Proofs.Ytkogdbgccjmaoaa.Dv
