/-
  The reference of layer 25 over the machine: elements, within, merge.
-/
import Derived.Test.YtkogdbgccjmaoaaUa
import Derived.Test.YtkogdbgccjmaoaaDg
namespace Go.Proofs.Ytkogdbgccjmaoaa.Dv
open Go.Dm

/-- The struct of three slices is flat within. -/
theorem rd_plain {r : Rd} {d : D} (h : IsRd r d) : d.plain = true := by
  obtain ⟨x, y, zc, rfl, h1, h2, h3⟩ := h
  simp [D.plain, h1.flat, h2.flat, h3.flat]

theorem wrap1 {i : Nat} (h : i < 2 ^ 62) : IntKind.i64.wrap ((i : Int) + 1) = ((i + 1 : Nat) : Int) := by rw [IntWalk.i64_in _ (by omega)]; omega

theorem eqv_key {α : Type} [DecidableEq α] {E : Enc α} (ok : E.Ok) (hag : ∀ a, E.key a = .ag (E.enc a)) {sh : List Nat} (hkk : E.kk = .st sh) (neg : Bool) (a b : α) : eqvD neg (.st sh) (.ag (E.enc a)) (.ag (E.enc b)) = some (.b (decide (a = b) != neg)) := by
  have h := ok.eq a b
  rw [hkk, hag, hag] at h
  have h' : cellsEq sh (E.enc a) (E.enc b) = some (decide (a = b)) := h
  simp only [eqvD, deq, h']

theorem in_range {α : Type} [DecidableEq α] (l : List α) (a : α) : (List.range l.length).any (fun i => decide (l[i]? = some a)) = inB a l := by
  rw [any_range l (fun b => decide (b = a)) _ (fun i hi => by simp [List.getElem?_eq_getElem hi])]
  rw [Bool.eq_iff_iff]
  simp [inB]

theorem has44 {r : Rd} {d : D} (h : IsRd r d) (hl : r.le 40000) (a : List UInt8 × Int) : PN V 40003 44 [d, eP.key a] (.b (inB a r.p)) := by
  obtain ⟨x, y, zc, rfl, h1, h2, h3⟩ := h
  obtain ⟨l1, l2, l3⟩ := hl
  have hl := fun H => h1.len (H := H)
  simp only [List.length_map] at hl
  have u1 := h1.under
  have k4 : ∀ (i : Nat) (h : i < r.p.length) H, iadD H x (.i .i64 i) 2 = some (.ip [.s r.p[i].1, .i .i64 r.p[i].2]) := fun i h H => by
    have := h1.elem (H := H) (k := .i64) (i := i) (by simpa using h)
    rw [List.getElem_map] at this
    exact this
  have e4 : ∀ (i : Nat) (h : i < r.p.length), eqvD false (.st [2, 1]) (.ag [.s r.p[i].1, .i .i64 r.p[i].2]) (.ag [.s a.1, .i .i64 a.2]) = some (.b (decide (r.p[i] = a))) := fun i h => by
    have := eqv_key eP_ok (fun _ => rfl) rfl false r.p[i] a
    simp only [Bool.bne_false] at this
    exact this
  let st : Int → D → D → St := fun i g3 g4 => ⟨[.ag [x, y, zc], (.ag [.s a.1, .i .i64 a.2]), .b false, g3, g4, .i .i64 i, .bx [x, y, zc], .bx [.s a.1, .i .i64 a.2]], []⟩
  refine PN.of (vf := v44) (d0 := .b (inB a r.p)) (H := []) rfl 40002 (fun n hn => ?_) rfl rfl
  have hent := enter_eq (V := V) (cl := call V n) (n := n) v44 [.ag [x, y, zc], (.ag [.s a.1, .i .i64 a.2])] [] rfl
  have hent' : enter V (call V n) n v44 [.ag [x, y, zc], eP.key a] [] = _ := hent
  rw [hent']
  obtain ⟨ex, s', h1, h2⟩ := any_loop (body := exec V (call V n) n v44l0) (n := n) (st := st 0 .u .u) (fun i => decide (r.p[i]? = some a)) (fun i s => ∃ g3 g4, s = st i g3 g4)
    (fun b ex s' => (b = true ∧ ex = .rt ∧ resAll s' [.s 2] = some [.b true] ∧ s'.hp = []) ∨ (b = false ∧ ex = .ex 0 ∧ ∃ g3 g4, s' = st r.p.length g3 g4)) r.p.length (by omega) ⟨_, _, rfl⟩
    (fun i s hi hp hs => by
      obtain ⟨g3, g4, rfl⟩ := hs
      have hd : decide ((i : Int) < (r.p.length : Int)) = true := by simpa using hi
      have hp' : decide (r.p[i] = a) = false := by simpa [List.getElem?_eq_getElem hi] using hp
      have hw := wrap1 (i := i) (by omega)
      refine ⟨st (i + 1 : Nat) (.b true) (.b false), ?_, _, _, rfl⟩
      simp only [v44l0, st, exec_seq, exec_cond, exec_block, exec_skip, exec_reg, exec_drawn, seqK_nm, condK_t, condK_f, blockK_nm, ops_cons, ops_nil, opsW_t, opsF_t, opsK_v, wants_none, fits_none, fits_f, rd_mov, rd_lfa, rd_lld, rd_eqv, rd_ld, rd_iad, un_ip, ev_l, ev_s, ev_c, ab_sl, ab_lo, abS_bx, abL_lp, ofO_some, step_mov, step_lfa, lfaR_s, step_lld, lldR_s, lldB_bx, lldC_s, step_iad, step_ld, ldR_s, ld_ip, val_t, val_f, step_bin, bin_add, bin_lss, step_eqv, step_len, setSl, cut, List.getD_cons_zero, List.getD_cons_succ, List.getElem?_cons_zero, List.getElem?_cons_succ, List.set_cons_zero, List.set_cons_succ, List.nil_append, List.cons_append, List.length_cons, List.length_nil, List.drop_zero, List.take_succ_cons, List.take_zero, List.take_nil, List.all_cons, List.all_nil, Bool.and_true, Nat.reduceAdd, Nat.reduceLeDiff, Nat.le_refl, Nat.zero_add, if_true, Nat.add_zero, hl, hd, k4 i hi, e4 i hi, hp', hw, u1]
      ) 
    (fun i s hi hp hs => by
      obtain ⟨g3, g4, rfl⟩ := hs
      have hd : decide ((i : Int) < (r.p.length : Int)) = true := by simpa using hi
      have hp' : decide (r.p[i] = a) = true := by simpa [List.getElem?_eq_getElem hi] using hp
      refine ⟨.rt, ⟨[.ag [x, y, zc], (.ag [.s a.1, .i .i64 a.2]), .b true, .b true, .b true, .i .i64 i, .bx [x, y, zc], .bx [.s a.1, .i .i64 a.2]], []⟩, ?_, by simp, .inl ⟨rfl, rfl, rfl, rfl⟩⟩
      simp only [v44l0, st, exec_seq, exec_cond, exec_block, exec_skip, exec_ret, exec_reg, exec_drawn, seqK_nm, seqK_rt, condK_t, blockK_rt, ops_cons, ops_nil, opsW_t, opsF_t, opsK_v, wants_none, fits_none, fits_f, rd_mov, rd_lfa, rd_lld, rd_eqv, rd_ld, rd_iad, un_ip, ev_l, ev_s, ev_c, ab_sl, ab_lo, abS_bx, abL_lp, ofO_some, step_mov, step_lfa, lfaR_s, step_lld, lldR_s, lldB_bx, lldC_s, step_iad, step_ld, ldR_s, ld_ip, val_t, val_f, step_bin, bin_lss, step_eqv, step_len, setSl, cut, List.getD_cons_zero, List.getD_cons_succ, List.getElem?_cons_zero, List.getElem?_cons_succ, List.set_cons_zero, List.set_cons_succ, List.nil_append, List.cons_append, List.length_cons, List.length_nil, List.drop_zero, List.take_succ_cons, List.take_zero, List.take_nil, List.all_cons, List.all_nil, Bool.and_true, Nat.reduceAdd, Nat.reduceLeDiff, Nat.le_refl, Nat.zero_add, if_true, Nat.add_zero, hl, hd, k4 i hi, e4 i hi, hp', u1])
    (fun s hs => by
      obtain ⟨g3, g4, rfl⟩ := hs
      have hd : decide ((r.p.length : Int) < (r.p.length : Int)) = false := by simp
      refine ⟨.ex 0, st r.p.length (.b false) g4, ?_, by simp, .inr ⟨rfl, rfl, _, _, rfl⟩⟩
      simp only [v44l0, st, exec_seq, exec_cond, exec_exit, exec_reg, seqK_nm, seqK_ex, condK_f, ops_cons, ops_nil, opsW_t, opsF_t, opsK_v, wants_none, fits_none, ev_l, ev_s, ab_sl, ab_lo, abS_bx, abL_lp, ofO_some, step_mov, step_lfa, lfaR_s, step_lld, lldR_s, lldB_bx, lldC_s, val_f, step_bin, bin_lss, step_len, setSl, cut, List.getD_cons_zero, List.getD_cons_succ, List.getElem?_cons_zero, List.getElem?_cons_succ, List.set_cons_zero, List.set_cons_succ, List.nil_append, List.cons_append, List.length_cons, List.length_nil, List.drop_zero, List.take_succ_cons, List.take_zero, Nat.reduceAdd, Nat.reduceLeDiff, Nat.zero_add, if_true, Nat.add_zero, hl, hd])
  rw [in_range] at h2
  rcases h2 with ⟨hb, rfl, hr, hh⟩ | ⟨hb, rfl, g3, g4, rfl⟩
  · simp only [st] at h1
    simp only [v44, exec_seq, exec_block, exec_reg, seqK_nm, seqK_rt, blockK_rt, ops_cons, ops_nil, opsW_t, opsF_t, opsK_v, wants_none, fits_none, ev_s, ev_c, ofO_some, step_mov, step_lbx, cells_ag, setSl, List.getD_cons_zero, List.getD_cons_succ, List.set_cons_zero, List.set_cons_succ, List.nil_append, List.cons_append, List.length_cons, List.length_nil, List.replicate_succ, List.replicate_zero, Nat.reduceAdd, Nat.reduceSub, Nat.zero_add, if_true, Option.map_some, exec_loop, h1]
    rw [entK_rt hr rfl, hh, hb]; rfl
  · simp only [st] at h1 ⊢
    simp only [v44, exec_seq, exec_block, exec_ret, exec_reg, seqK_nm, blockK_ex, ops_cons, ops_nil, opsW_t, opsF_t, opsK_v, wants_none, fits_none, ev_s, ev_c, ofO_some, step_mov, step_lbx, cells_ag, setSl, List.getD_cons_zero, List.getD_cons_succ, List.set_cons_zero, List.set_cons_succ, List.nil_append, List.cons_append, List.length_cons, List.length_nil, List.replicate_succ, List.replicate_zero, Nat.reduceAdd, Nat.reduceSub, Nat.zero_add, if_true, Option.map_some, exec_loop, h1]
    rw [hb]
    exact entK_rt (ds := [.b false]) rfl rfl

theorem has45 {r : Rd} {d : D} (h : IsRd r d) (hl : r.le 40000) (a : List UInt8 × Int × Int) : PN V 40003 45 [d, eR.key a] (.b (inB a r.f)) := by
  obtain ⟨x, y, zc, rfl, h1, h2, h3⟩ := h
  obtain ⟨l1, l2, l3⟩ := hl
  have hl := fun H => h2.len (H := H)
  simp only [List.length_map] at hl
  have u1 := h2.under
  have k4 : ∀ (i : Nat) (h : i < r.f.length) H, iadD H y (.i .i64 i) 3 = some (.ip [.s r.f[i].1, .i .i64 r.f[i].2.1, .i .i64 r.f[i].2.2]) := fun i h H => by
    have := h2.elem (H := H) (k := .i64) (i := i) (by simpa using h)
    rw [List.getElem_map] at this
    exact this
  have e4 : ∀ (i : Nat) (h : i < r.f.length), eqvD false (.st [2, 1, 1]) (.ag [.s r.f[i].1, .i .i64 r.f[i].2.1, .i .i64 r.f[i].2.2]) (.ag [.s a.1, .i .i64 a.2.1, .i .i64 a.2.2]) = some (.b (decide (r.f[i] = a))) := fun i h => by
    have := eqv_key eR_ok (fun _ => rfl) rfl false r.f[i] a
    simp only [Bool.bne_false] at this
    exact this
  let st : Int → D → D → St := fun i g3 g4 => ⟨[.ag [x, y, zc], (.ag [.s a.1, .i .i64 a.2.1, .i .i64 a.2.2]), .b false, g3, g4, .i .i64 i, .bx [x, y, zc], .bx [.s a.1, .i .i64 a.2.1, .i .i64 a.2.2]], []⟩
  refine PN.of (vf := v45) (d0 := .b (inB a r.f)) (H := []) rfl 40002 (fun n hn => ?_) rfl rfl
  have hent := enter_eq (V := V) (cl := call V n) (n := n) v45 [.ag [x, y, zc], (.ag [.s a.1, .i .i64 a.2.1, .i .i64 a.2.2])] [] rfl
  have hent' : enter V (call V n) n v45 [.ag [x, y, zc], eR.key a] [] = _ := hent
  rw [hent']
  obtain ⟨ex, s', h1, h2⟩ := any_loop (body := exec V (call V n) n v45l0) (n := n) (st := st 0 .u .u) (fun i => decide (r.f[i]? = some a)) (fun i s => ∃ g3 g4, s = st i g3 g4)
    (fun b ex s' => (b = true ∧ ex = .rt ∧ resAll s' [.s 2] = some [.b true] ∧ s'.hp = []) ∨ (b = false ∧ ex = .ex 0 ∧ ∃ g3 g4, s' = st r.f.length g3 g4)) r.f.length (by omega) ⟨_, _, rfl⟩
    (fun i s hi hp hs => by
      obtain ⟨g3, g4, rfl⟩ := hs
      have hd : decide ((i : Int) < (r.f.length : Int)) = true := by simpa using hi
      have hp' : decide (r.f[i] = a) = false := by simpa [List.getElem?_eq_getElem hi] using hp
      have hw := wrap1 (i := i) (by omega)
      refine ⟨st (i + 1 : Nat) (.b true) (.b false), ?_, _, _, rfl⟩
      simp only [v45l0, st, exec_seq, exec_cond, exec_block, exec_skip, exec_reg, exec_drawn, seqK_nm, condK_t, condK_f, blockK_nm, ops_cons, ops_nil, opsW_t, opsF_t, opsK_v, wants_none, fits_none, fits_f, rd_mov, rd_lfa, rd_lld, rd_eqv, rd_ld, rd_iad, un_ip, ev_l, ev_s, ev_c, ab_sl, ab_lo, abS_bx, abL_lp, ofO_some, step_mov, step_lfa, lfaR_s, step_lld, lldR_s, lldB_bx, lldC_s, step_iad, step_ld, ldR_s, ld_ip, val_t, val_f, step_bin, bin_add, bin_lss, step_eqv, step_len, setSl, cut, List.getD_cons_zero, List.getD_cons_succ, List.getElem?_cons_zero, List.getElem?_cons_succ, List.set_cons_zero, List.set_cons_succ, List.nil_append, List.cons_append, List.length_cons, List.length_nil, List.drop_succ_cons, List.drop_zero, List.take_succ_cons, List.take_zero, List.take_nil, List.all_cons, List.all_nil, Bool.and_true, Nat.reduceAdd, Nat.reduceLeDiff, Nat.le_refl, Nat.zero_add, if_true, hl, hd, k4 i hi, e4 i hi, hp', hw, u1]
      ) 
    (fun i s hi hp hs => by
      obtain ⟨g3, g4, rfl⟩ := hs
      have hd : decide ((i : Int) < (r.f.length : Int)) = true := by simpa using hi
      have hp' : decide (r.f[i] = a) = true := by simpa [List.getElem?_eq_getElem hi] using hp
      refine ⟨.rt, ⟨[.ag [x, y, zc], (.ag [.s a.1, .i .i64 a.2.1, .i .i64 a.2.2]), .b true, .b true, .b true, .i .i64 i, .bx [x, y, zc], .bx [.s a.1, .i .i64 a.2.1, .i .i64 a.2.2]], []⟩, ?_, by simp, .inl ⟨rfl, rfl, rfl, rfl⟩⟩
      simp only [v45l0, st, exec_seq, exec_cond, exec_block, exec_skip, exec_ret, exec_reg, exec_drawn, seqK_nm, seqK_rt, condK_t, blockK_rt, ops_cons, ops_nil, opsW_t, opsF_t, opsK_v, wants_none, fits_none, fits_f, rd_mov, rd_lfa, rd_lld, rd_eqv, rd_ld, rd_iad, un_ip, ev_l, ev_s, ev_c, ab_sl, ab_lo, abS_bx, abL_lp, ofO_some, step_mov, step_lfa, lfaR_s, step_lld, lldR_s, lldB_bx, lldC_s, step_iad, step_ld, ldR_s, ld_ip, val_t, val_f, step_bin, bin_lss, step_eqv, step_len, setSl, cut, List.getD_cons_zero, List.getD_cons_succ, List.getElem?_cons_zero, List.getElem?_cons_succ, List.set_cons_zero, List.set_cons_succ, List.nil_append, List.cons_append, List.length_cons, List.length_nil, List.drop_succ_cons, List.drop_zero, List.take_succ_cons, List.take_zero, List.take_nil, List.all_cons, List.all_nil, Bool.and_true, Nat.reduceAdd, Nat.reduceLeDiff, Nat.le_refl, Nat.zero_add, if_true, hl, hd, k4 i hi, e4 i hi, hp', u1])
    (fun s hs => by
      obtain ⟨g3, g4, rfl⟩ := hs
      have hd : decide ((r.f.length : Int) < (r.f.length : Int)) = false := by simp
      refine ⟨.ex 0, st r.f.length (.b false) g4, ?_, by simp, .inr ⟨rfl, rfl, _, _, rfl⟩⟩
      simp only [v45l0, st, exec_seq, exec_cond, exec_exit, exec_reg, seqK_nm, seqK_ex, condK_f, ops_cons, ops_nil, opsW_t, opsF_t, opsK_v, wants_none, fits_none, ev_l, ev_s, ab_sl, ab_lo, abS_bx, abL_lp, ofO_some, step_mov, step_lfa, lfaR_s, step_lld, lldR_s, lldB_bx, lldC_s, val_f, step_bin, bin_lss, step_len, setSl, cut, List.getD_cons_zero, List.getD_cons_succ, List.getElem?_cons_zero, List.getElem?_cons_succ, List.set_cons_zero, List.set_cons_succ, List.nil_append, List.cons_append, List.length_cons, List.length_nil, List.drop_succ_cons, List.drop_zero, List.take_succ_cons, List.take_zero, Nat.reduceAdd, Nat.reduceLeDiff, Nat.zero_add, if_true, hl, hd])
  rw [in_range] at h2
  rcases h2 with ⟨hb, rfl, hr, hh⟩ | ⟨hb, rfl, g3, g4, rfl⟩
  · simp only [st] at h1
    simp only [v45, exec_seq, exec_block, exec_reg, seqK_nm, seqK_rt, blockK_rt, ops_cons, ops_nil, opsW_t, opsF_t, opsK_v, wants_none, fits_none, ev_s, ev_c, ofO_some, step_mov, step_lbx, cells_ag, setSl, List.getD_cons_zero, List.getD_cons_succ, List.set_cons_zero, List.set_cons_succ, List.nil_append, List.cons_append, List.length_cons, List.length_nil, List.replicate_succ, List.replicate_zero, Nat.reduceAdd, Nat.reduceSub, Nat.zero_add, if_true, Option.map_some, exec_loop, h1]
    rw [entK_rt hr rfl, hh, hb]; rfl
  · simp only [st] at h1 ⊢
    simp only [v45, exec_seq, exec_block, exec_ret, exec_reg, seqK_nm, blockK_ex, ops_cons, ops_nil, opsW_t, opsF_t, opsK_v, wants_none, fits_none, ev_s, ev_c, ofO_some, step_mov, step_lbx, cells_ag, setSl, List.getD_cons_zero, List.getD_cons_succ, List.set_cons_zero, List.set_cons_succ, List.nil_append, List.cons_append, List.length_cons, List.length_nil, List.replicate_succ, List.replicate_zero, Nat.reduceAdd, Nat.reduceSub, Nat.zero_add, if_true, Option.map_some, exec_loop, h1]
    rw [hb]
    exact entK_rt (ds := [.b false]) rfl rfl

theorem has46 {r : Rd} {d : D} (h : IsRd r d) (hl : r.le 40000) (a : List UInt8) : PN V 40003 46 [d, .s a] (.b (inB a r.t)) := by
  obtain ⟨x, y, zc, rfl, h1, h2, h3⟩ := h
  obtain ⟨l1, l2, l3⟩ := hl
  have hl := fun H => h3.len (H := H)
  simp only [List.length_map] at hl
  have u1 := h3.under
  have k4 : ∀ (i : Nat) (h : i < r.t.length) H, iadD H zc (.i .i64 i) 1 = some (.ip [.s r.t[i]]) := fun i h H => by
    have := h3.elem (H := H) (k := .i64) (i := i) (by simpa using h)
    rw [List.getElem_map] at this
    exact this
  have e4 : ∀ (i : Nat) (h : i < r.t.length), bin .eql (.s r.t[i]) (.s a) = some (.b (decide (r.t[i] = a))) := fun i h => bins_eql _ _
  let st : Int → D → D → St := fun i g3 g4 => ⟨[.ag [x, y, zc], (.s a), .b false, g3, g4, .i .i64 i, .bx [x, y, zc]], []⟩
  refine PN.of (vf := v46) (d0 := .b (inB a r.t)) (H := []) rfl 40002 (fun n hn => ?_) rfl rfl
  have hent := enter_eq (V := V) (cl := call V n) (n := n) v46 [.ag [x, y, zc], (.s a)] [] rfl
  have hent' : enter V (call V n) n v46 [.ag [x, y, zc], .s a] [] = _ := hent
  rw [hent']
  obtain ⟨ex, s', h1, h2⟩ := any_loop (body := exec V (call V n) n v46l0) (n := n) (st := st 0 .u .u) (fun i => decide (r.t[i]? = some a)) (fun i s => ∃ g3 g4, s = st i g3 g4)
    (fun b ex s' => (b = true ∧ ex = .rt ∧ resAll s' [.s 2] = some [.b true] ∧ s'.hp = []) ∨ (b = false ∧ ex = .ex 0 ∧ ∃ g3 g4, s' = st r.t.length g3 g4)) r.t.length (by omega) ⟨_, _, rfl⟩
    (fun i s hi hp hs => by
      obtain ⟨g3, g4, rfl⟩ := hs
      have hd : decide ((i : Int) < (r.t.length : Int)) = true := by simpa using hi
      have hp' : decide (r.t[i] = a) = false := by simpa [List.getElem?_eq_getElem hi] using hp
      have hw := wrap1 (i := i) (by omega)
      refine ⟨st (i + 1 : Nat) (.b true) (.b false), ?_, _, _, rfl⟩
      simp only [v46l0, st, exec_seq, exec_cond, exec_block, exec_skip, exec_reg, seqK_nm, condK_t, condK_f, blockK_nm, ops_cons, ops_nil, opsW_t, opsF_t, opsK_v, wants_none, fits_none, ev_l, ev_s, ev_c, ab_sl, ab_lo, abS_bx, abL_lp, ofO_some, step_mov, step_lfa, lfaR_s, step_lld, lldR_s, lldB_bx, lldC_s, step_iad, step_ld, ldR_s, ld_ip, val_f, step_bin, bin_add, bin_lss, step_len, setSl, cut, List.getD_cons_zero, List.getD_cons_succ, List.getElem?_cons_zero, List.getElem?_cons_succ, List.set_cons_zero, List.set_cons_succ, List.nil_append, List.cons_append, List.length_cons, List.length_nil, List.drop_succ_cons, List.drop_zero, List.take_succ_cons, List.take_nil, Nat.reduceAdd, Nat.le_refl, Nat.zero_add, if_true, hl, hd, k4 i hi, e4 i hi, hp', hw]
      ) 
    (fun i s hi hp hs => by
      obtain ⟨g3, g4, rfl⟩ := hs
      have hd : decide ((i : Int) < (r.t.length : Int)) = true := by simpa using hi
      have hp' : decide (r.t[i] = a) = true := by simpa [List.getElem?_eq_getElem hi] using hp
      refine ⟨.rt, ⟨[.ag [x, y, zc], (.s a), .b true, .b true, .b true, .i .i64 i, .bx [x, y, zc]], []⟩, ?_, by simp, .inl ⟨rfl, rfl, rfl, rfl⟩⟩
      simp only [v46l0, st, exec_seq, exec_cond, exec_block, exec_skip, exec_ret, exec_reg, seqK_nm, seqK_rt, condK_t, blockK_rt, ops_cons, ops_nil, opsW_t, opsF_t, opsK_v, wants_none, fits_none, ev_l, ev_s, ev_c, ab_sl, ab_lo, abS_bx, abL_lp, ofO_some, step_mov, step_lfa, lfaR_s, step_lld, lldR_s, lldB_bx, lldC_s, step_iad, step_ld, ldR_s, ld_ip, val_f, step_bin, bin_lss, step_len, setSl, cut, List.getD_cons_zero, List.getD_cons_succ, List.getElem?_cons_zero, List.getElem?_cons_succ, List.set_cons_zero, List.set_cons_succ, List.nil_append, List.cons_append, List.length_cons, List.length_nil, List.drop_succ_cons, List.drop_zero, List.take_succ_cons, List.take_nil, Nat.reduceAdd, Nat.le_refl, Nat.zero_add, if_true, hl, hd, k4 i hi, e4 i hi, hp'])
    (fun s hs => by
      obtain ⟨g3, g4, rfl⟩ := hs
      have hd : decide ((r.t.length : Int) < (r.t.length : Int)) = false := by simp
      refine ⟨.ex 0, st r.t.length (.b false) g4, ?_, by simp, .inr ⟨rfl, rfl, _, _, rfl⟩⟩
      simp only [v46l0, st, exec_seq, exec_cond, exec_exit, exec_reg, seqK_nm, seqK_ex, condK_f, ops_cons, ops_nil, opsW_t, opsF_t, opsK_v, wants_none, fits_none, ev_l, ev_s, ab_sl, ab_lo, abS_bx, abL_lp, ofO_some, step_mov, step_lfa, lfaR_s, step_lld, lldR_s, lldB_bx, lldC_s, val_f, step_bin, bin_lss, step_len, setSl, cut, List.getD_cons_zero, List.getD_cons_succ, List.getElem?_cons_zero, List.getElem?_cons_succ, List.set_cons_zero, List.set_cons_succ, List.nil_append, List.cons_append, List.length_cons, List.length_nil, List.drop_succ_cons, List.drop_zero, List.take_succ_cons, List.take_nil, Nat.reduceAdd, Nat.le_refl, Nat.zero_add, if_true, hl, hd])
  rw [in_range] at h2
  rcases h2 with ⟨hb, rfl, hr, hh⟩ | ⟨hb, rfl, g3, g4, rfl⟩
  · simp only [st] at h1
    simp only [v46, exec_seq, exec_block, exec_reg, seqK_nm, seqK_rt, blockK_rt, ops_cons, ops_nil, opsW_t, opsF_t, opsK_v, wants_none, fits_none, ev_s, ev_c, ofO_some, step_mov, step_lbx, cells_ag, setSl, List.getD_cons_zero, List.set_cons_zero, List.set_cons_succ, List.nil_append, List.cons_append, List.length_cons, List.length_nil, List.replicate_succ, List.replicate_zero, Nat.reduceAdd, Nat.reduceSub, Nat.zero_add, if_true, Option.map_some, exec_loop, h1]
    rw [entK_rt hr rfl, hh, hb]; rfl
  · simp only [st] at h1 ⊢
    simp only [v46, exec_seq, exec_block, exec_ret, exec_reg, seqK_nm, blockK_ex, ops_cons, ops_nil, opsW_t, opsF_t, opsK_v, wants_none, fits_none, ev_s, ev_c, ofO_some, step_mov, step_lbx, cells_ag, setSl, List.getD_cons_zero, List.set_cons_zero, List.set_cons_succ, List.nil_append, List.cons_append, List.length_cons, List.length_nil, List.replicate_succ, List.replicate_zero, Nat.reduceAdd, Nat.reduceSub, Nat.zero_add, if_true, Option.map_some, exec_loop, h1]
    rw [hb]
    exact entK_rt (ds := [.b false]) rfl rfl
end Go.Proofs.Ytkogdbgccjmaoaa.Dv
