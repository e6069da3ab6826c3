/-
  The reference's News over the machine.
-/
import Derived.Test.YtkogdbgccjmaoaaMg
namespace Go.Proofs.Ytkogdbgccjmaoaa.Dv
open Go.Dm

theorem any_take {α : Type} {l : List α} (p : α → Bool) {i : Nat} (hi : i < l.length) : (l.take (i + 1)).any p = ((l.take i).any p || p l[i]) := by
  rw [← take_push hi, List.any_append, List.any_cons, List.any_nil, Bool.or_false]

def st28 (n0 : List UInt8) (defs ts cs fs x y zc : D) (fro til : Int) (g6 g7 g8 g9 : D) (o : Bool) (i11 i13 i15 i16 b17 : D) : St :=
  ⟨[.ag [.s n0, defs, ts, cs], fs, .ag [x, y, zc], .i .i64 fro, .i .i64 til, .b false, g6, g7, g8, g9, .b o, i11, .bx [x, y, zc], i13, .bx [.s n0, defs, ts, cs], i15, i16, b17], []⟩

section
variable {r : Rd} {x y zc : D} {fro til : Int} {n0 : List UInt8} {defs ts cs fs : D} {frows crows trows : List (List D)}

theorem rnews0 (h : IsRd r (.ag [x, y, zc])) (hl : r.le 40000) (hs : Sl 11 frows fs) (hf : ∀ q ∈ frows, FactRow q) (lf : frows.length ≤ 40000) {n : Nat} (hn : 40004 ≤ n) (o : Bool) (g6 g7 g8 g9 i11 i13 i15 i16 b17 : D) :
    ∃ ex s', iter (exec V (call V n) n v28l0) n (st28 n0 defs ts cs fs x y zc fro til g6 g7 g8 g9 (o) (.i .i64 0) i13 i15 i16 b17) = (ex, s') ∧ (ex = .ex 0 ∧ ∃ g6 i11, s' = (st28 n0 defs ts cs fs x y zc fro til g6 g7 g8 g9 (o || frows.any (newF r fro til)) i11 i13 i15 i16 b17)) := by
  have hl' := fun H => hs.len (H := H)
  have u1 := hs.under
  have hp := rd_plain h
  refine iter_rel (body := exec V (call V n) n v28l0) (n := n) (fun i s => ∃ g6, s = (st28 n0 defs ts cs fs x y zc fro til g6 g7 g8 g9 (o || (frows.take i).any (newF r fro til)) (.i .i64 (i : Nat)) i13 i15 i16 b17)) (fun ex s' => ex = .ex 0 ∧ ∃ g6 i11, s' = (st28 n0 defs ts cs fs x y zc fro til g6 g7 g8 g9 (o || frows.any (newF r fro til)) i11 i13 i15 i16 b17)) frows.length (by omega) ⟨g6, by simp⟩ ?_ ?_
  · intro i s hi hs'
    obtain ⟨g6, rfl⟩ := hs'
    have hd : decide ((i : Int) < (frows.length : Int)) = true := by simpa using hi
    have hw := wrap1 (i := i) (by omega)
    have k4i := fun H => hs.elem (H := H) (k := .i64) hi
    rw [any_take _ hi, ← Bool.or_assoc]
    generalize (o || (frows.take i).any (newF r fro til)) = o'
    obtain ⟨key, fr, t, kn, c4, c5, c6, c7, c8, c9, c10, hrow, hflat⟩ := hf _ (List.getElem_mem hi)
    have hcall := PN.plain (f := 11) (vf := v11) rfl rfl [] (ds := [.ag [x, y, zc], .ag (factD key fr t kn c4 c5 c6 c7 c8 c9 c10), .i .i64 til]) (by
      simp only [List.all_cons, List.all_nil, hp, Bool.and_true, Bool.true_and]
      simp only [D.plain, D.flat, Bool.and_true]
      rw [hrow] at hflat
      simpa using hflat) (refFact11 h hl) rfl
    have hci := hcall n (by omega)
    have e : newF r fro til frows[i] = (decide (fro < kn) && factB r key fr t kn til) := by rw [hrow]; rfl
    rw [e]
    simp only [hrow, factD] at k4i
    simp only [factD] at hci
    refine ⟨(st28 n0 defs ts cs fs x y zc fro til (.b true) g7 g8 g9 (o' || (decide (fro < kn) && factB r key fr t kn til)) (.i .i64 (i + 1 : Nat)) i13 i15 i16 b17), ?_, .b true, rfl⟩
    cases o' with
    | true => simp only [v28l0, st28, exec_seq, exec_cond, exec_block, exec_skip, exec_reg, exec_drawn, seqK_nm, condK_t, blockK_nm, ops_cons, ops_nil, opsW_t, opsW_f, opsF_t, opsK_v, wants_none, wants_some, wantK_ft, wantK_u, fits_none, fits_f, rd_mov, rd_pick, ev_l, ev_s, ev_c, ofO_some, step_mov, step_pick, pick_t, step_bin, bin_add, bin_lss, step_len, setSl, List.getD_cons_zero, List.getD_cons_succ, List.set_cons_zero, List.set_cons_succ, List.nil_append, List.cons_append, List.length_nil, List.all_nil, hl', hd, hw, Bool.true_or]
    | false =>
      cases c0 : decide (fro < kn) with
      | false => simp only [v28l0, st28, exec_seq, exec_cond, exec_block, exec_skip, exec_reg, exec_drawn, seqK_nm, condK_t, blockK_nm, ops_cons, ops_nil, opsW_t, opsW_f, opsF_t, opsK_v, wants_none, wants_some, wantK_ff, wantK_tf, fits_none, fits_f, rd_mov, rd_pick, rd_fad, rd_bin, rd_ld, rd_iad, un_ip, ev_l, ev_s, ev_c, ofO_some, step_mov, step_pick, pick_f, step_fad, fad_ip, step_iad, step_ld, ldR_s, ld_ip, val_f, step_bin, bin_add, bin_lss, bin_gtr, step_len, setSl, cut, List.getD_cons_zero, List.getD_cons_succ, List.set_cons_zero, List.set_cons_succ, List.nil_append, List.cons_append, List.length_cons, List.length_nil, List.drop_succ_cons, List.drop_zero, List.take_succ_cons, List.take_zero, List.all_cons, List.all_nil, Bool.and_true, Bool.false_and, Nat.reduceAdd, Nat.reduceLeDiff, Nat.zero_add, if_true, hl', hd, k4i, hw, u1, c0, Bool.false_or]
      | true => simp only [v28l0, st28, exec_seq, exec_cond, exec_block, exec_skip, exec_reg, exec_drawn, seqK_nm, condK_t, blockK_nm, ops_cons, ops_nil, opsW_t, opsF_t, opsK_v, wants_none, wants_some, wantK_tt, wantK_ff, fits_none, fits_f, rd_mov, rd_pick, rd_lld, rd_fad, rd_bin, rd_call, rd_ld, rd_iad, un_ip, step_call, toR_ret, ev_l, ev_s, ev_c, ab_sl, abS_bx, ofO_some, step_mov, step_pick, pick_t, pick_f, step_lld, lldR_s, lldB_bx, lldC_s, step_fad, fad_ip, step_iad, step_ld, ldR_s, ld_ip, val_t, val_f, step_bin, bin_add, bin_lss, bin_gtr, step_len, setSl, cut, List.getD_cons_zero, List.getD_cons_succ, List.getElem?_cons_zero, List.getElem?_cons_succ, List.set_cons_zero, List.set_cons_succ, List.nil_append, List.cons_append, List.length_cons, List.length_nil, List.drop_succ_cons, List.drop_zero, List.take_succ_cons, List.take_zero, List.take_nil, List.map_cons, List.map_nil, List.all_cons, List.all_nil, Bool.and_true, Bool.true_and, Nat.reduceAdd, Nat.reduceLeDiff, Nat.le_refl, Nat.zero_add, if_true, hl', hd, k4i, hw, u1, c0, hci, Bool.false_or]
  · intro s hs'
    obtain ⟨g6, rfl⟩ := hs'
    have hd : decide ((frows.length : Int) < (frows.length : Int)) = false := by simp
    rw [List.take_length]
    refine ⟨.ex 0, (st28 n0 defs ts cs fs x y zc fro til (.b false) g7 g8 g9 (o || frows.any (newF r fro til)) (.i .i64 (frows.length : Nat)) i13 i15 i16 b17), ?_, by simp, rfl, .b false, _, rfl⟩
    simp only [v28l0, st28, exec_seq, exec_cond, exec_exit, exec_reg, seqK_nm, seqK_ex, condK_f, ops_cons, ops_nil, opsW_t, opsF_t, opsK_v, wants_none, fits_none, ev_l, ev_s, ofO_some, step_mov, step_bin, bin_lss, step_len, setSl, List.getD_cons_zero, List.getD_cons_succ, List.set_cons_zero, List.set_cons_succ, List.nil_append, List.cons_append, hl', hd]

theorem rnews1 (h : IsRd r (.ag [x, y, zc])) (hl : r.le 40000) (hs : Sl 24 crows cs) (hf : ∀ q ∈ crows, ClauseRow q) (lf : crows.length ≤ 40000) {n : Nat} (hn : 40004 ≤ n) (o : Bool) (g6 g7 g8 g9 i11 i13 i15 i16 b17 : D) :
    ∃ ex s', iter (exec V (call V n) n v28l1) n (st28 n0 defs ts cs fs x y zc fro til g6 g7 g8 g9 (o) i11 (.i .i64 0) i15 i16 b17) = (ex, s') ∧ (ex = .ex 2 ∧ ∃ g7 i13, s' = (st28 n0 defs ts cs fs x y zc fro til g6 g7 g8 g9 (o || crows.any (newC r fro til)) i11 i13 i15 i16 b17)) := by
  have hl' := fun H => hs.len (H := H)
  have u1 := hs.under
  have hp := rd_plain h
  refine iter_rel (body := exec V (call V n) n v28l1) (n := n) (fun i s => ∃ g7, s = (st28 n0 defs ts cs fs x y zc fro til g6 g7 g8 g9 (o || (crows.take i).any (newC r fro til)) i11 (.i .i64 (i : Nat)) i15 i16 b17)) (fun ex s' => ex = .ex 2 ∧ ∃ g7 i13, s' = (st28 n0 defs ts cs fs x y zc fro til g6 g7 g8 g9 (o || crows.any (newC r fro til)) i11 i13 i15 i16 b17)) crows.length (by omega) ⟨g7, by simp⟩ ?_ ?_
  · intro i s hi hs'
    obtain ⟨g7, rfl⟩ := hs'
    have hd : decide ((i : Int) < (crows.length : Int)) = true := by simpa using hi
    have hw := wrap1 (i := i) (by omega)
    have k4i := fun H => hs.elem (H := H) (k := .i64) hi
    rw [any_take _ hi, ← Bool.or_assoc]
    generalize (o || (crows.take i).any (newC r fro til)) = o'
    obtain ⟨nm, lb, fr, t, kn, c5, c6, c7, c8, c9, c10, c11, c12, c13, c14, c15, c16, c17, c18, c19, c20, c21, c22, c23, hrow, hflat⟩ := hf _ (List.getElem_mem hi)
    have hcall := PN.plain (f := 13) (vf := v13) rfl rfl [] (ds := [.ag [x, y, zc], .ag (clauseD nm lb fr t kn c5 c6 c7 c8 c9 c10 c11 c12 c13 c14 c15 c16 c17 c18 c19 c20 c21 c22 c23), .i .i64 til]) (by
      simp only [List.all_cons, List.all_nil, hp, Bool.and_true, Bool.true_and]
      simp only [D.plain, D.flat, Bool.and_true]
      rw [hrow] at hflat
      simpa using hflat) (refClause13 h hl) rfl
    have hci := hcall n (by omega)
    have e : newC r fro til crows[i] = (decide (fro < kn) && clauseB r nm fr t kn til) := by rw [hrow]; rfl
    rw [e]
    simp only [hrow, clauseD] at k4i
    simp only [clauseD] at hci
    refine ⟨(st28 n0 defs ts cs fs x y zc fro til g6 (.b true) g8 g9 (o' || (decide (fro < kn) && clauseB r nm fr t kn til)) i11 (.i .i64 (i + 1 : Nat)) i15 i16 b17), ?_, .b true, rfl⟩
    cases o' with
    | true => simp only [v28l1, st28, exec_seq, exec_cond, exec_block, exec_skip, exec_reg, exec_drawn, seqK_nm, condK_t, blockK_nm, ops_cons, ops_nil, opsW_t, opsW_f, opsF_t, opsK_v, wants_none, wants_some, wantK_ft, wantK_u, fits_none, fits_f, rd_mov, rd_pick, ev_l, ev_s, ev_c, ab_sl, ab_lo, abS_bx, abL_lp, ofO_some, step_mov, step_pick, pick_t, step_lfa, lfaR_s, step_lld, lldR_s, lldB_bx, lldC_s, val_f, step_bin, bin_add, bin_lss, step_len, setSl, cut, List.getD_cons_zero, List.getD_cons_succ, List.getElem?_cons_zero, List.getElem?_cons_succ, List.set_cons_zero, List.set_cons_succ, List.nil_append, List.cons_append, List.length_cons, List.length_nil, List.drop_succ_cons, List.drop_zero, List.take_succ_cons, List.take_nil, List.all_nil, Nat.reduceAdd, Nat.le_refl, Nat.zero_add, if_true, hl', hd, hw, Bool.true_or]
    | false =>
      cases c0 : decide (fro < kn) with
      | false => simp only [v28l1, st28, exec_seq, exec_cond, exec_block, exec_skip, exec_reg, exec_drawn, seqK_nm, condK_t, blockK_nm, ops_cons, ops_nil, opsW_t, opsW_f, opsF_t, opsK_v, wants_none, wants_some, wantK_ff, wantK_tf, fits_none, fits_f, rd_mov, rd_pick, rd_lfa, rd_lld, rd_fad, rd_bin, rd_ld, rd_iad, un_ip, ev_l, ev_s, ev_c, ab_sl, ab_lo, abS_bx, abL_lp, ofO_some, step_mov, step_pick, pick_f, step_lfa, lfaR_s, step_lld, lldR_s, lldB_bx, lldC_s, step_fad, fad_ip, step_iad, step_ld, ldR_s, ld_ip, val_f, step_bin, bin_add, bin_lss, bin_gtr, step_len, setSl, cut, List.getD_cons_zero, List.getD_cons_succ, List.getElem?_cons_zero, List.getElem?_cons_succ, List.set_cons_zero, List.set_cons_succ, List.nil_append, List.cons_append, List.length_cons, List.length_nil, List.drop_succ_cons, List.drop_zero, List.take_succ_cons, List.take_zero, List.take_nil, List.all_cons, List.all_nil, Bool.and_true, Bool.false_and, Nat.reduceAdd, Nat.reduceLeDiff, Nat.le_refl, Nat.zero_add, if_true, hl', hd, k4i, hw, u1, c0, Bool.false_or]
      | true => simp only [v28l1, st28, exec_seq, exec_cond, exec_block, exec_skip, exec_reg, exec_drawn, seqK_nm, condK_t, blockK_nm, ops_cons, ops_nil, opsW_t, opsF_t, opsK_v, wants_none, wants_some, wantK_tt, wantK_ff, fits_none, fits_f, rd_mov, rd_pick, rd_lfa, rd_lld, rd_fad, rd_bin, rd_call, rd_ld, rd_iad, un_ip, step_call, toR_ret, ev_l, ev_s, ev_c, ab_sl, ab_lo, abS_bx, abL_lp, ofO_some, step_mov, step_pick, pick_t, pick_f, step_lfa, lfaR_s, step_lld, lldR_s, lldB_bx, lldC_s, step_fad, fad_ip, step_iad, step_ld, ldR_s, ld_ip, val_t, val_f, step_bin, bin_add, bin_lss, bin_gtr, step_len, setSl, cut, List.getD_cons_zero, List.getD_cons_succ, List.getElem?_cons_zero, List.getElem?_cons_succ, List.set_cons_zero, List.set_cons_succ, List.nil_append, List.cons_append, List.length_cons, List.length_nil, List.drop_succ_cons, List.drop_zero, List.take_succ_cons, List.take_zero, List.take_nil, List.map_cons, List.map_nil, List.all_cons, List.all_nil, Bool.and_true, Bool.true_and, Nat.reduceAdd, Nat.reduceLeDiff, Nat.le_refl, Nat.zero_add, if_true, hl', hd, k4i, hw, u1, c0, hci, Bool.false_or]
  · intro s hs'
    obtain ⟨g7, rfl⟩ := hs'
    have hd : decide ((crows.length : Int) < (crows.length : Int)) = false := by simp
    rw [List.take_length]
    refine ⟨.ex 2, (st28 n0 defs ts cs fs x y zc fro til g6 (.b false) g8 g9 (o || crows.any (newC r fro til)) i11 (.i .i64 (crows.length : Nat)) i15 i16 b17), ?_, by simp, rfl, .b false, _, rfl⟩
    simp only [v28l1, st28, exec_seq, exec_cond, exec_exit, exec_reg, seqK_nm, seqK_ex, condK_f, ops_cons, ops_nil, opsW_t, opsF_t, opsK_v, wants_none, fits_none, ev_l, ev_s, ab_sl, ab_lo, abS_bx, abL_lp, ofO_some, step_mov, step_lfa, lfaR_s, step_lld, lldR_s, lldB_bx, lldC_s, val_f, step_bin, bin_lss, step_len, setSl, cut, List.getD_cons_zero, List.getD_cons_succ, List.getElem?_cons_zero, List.getElem?_cons_succ, List.set_cons_zero, List.set_cons_succ, List.nil_append, List.cons_append, List.length_cons, List.length_nil, List.drop_succ_cons, List.drop_zero, List.take_succ_cons, List.take_nil, Nat.reduceAdd, Nat.le_refl, Nat.zero_add, if_true, hl', hd]

theorem rnews2 (h : IsRd r (.ag [x, y, zc])) (hl : r.le 40000) {k : Nat} {nm : List UInt8} {two rs : D} {rows : List (List D)} (ht : ∀ H, iadD H ts (.i .i64 k) 3 = some (.ip [.s nm, two, rs])) (ut : ∀ b, ts.under b = true) (hs : Sl 7 rows rs) (hf : ∀ q ∈ rows, RowRow q) (lf : rows.length ≤ 40000) {n : Nat} (hn : 40004 ≤ n) (o : Bool) (g6 g7 g8 g9 i11 i13 i16 b17 : D) :
    ∃ ex s', iter (exec V (call V n) n v28l2) n (st28 n0 defs ts cs fs x y zc fro til g6 g7 g8 g9 (o) i11 i13 (.i .i64 (k : Nat)) (.i .i64 0) b17) = (ex, s') ∧ (ex = .ex 6 ∧ ∃ g9 i16 b17, s' = (st28 n0 defs ts cs fs x y zc fro til g6 g7 g8 g9 (o || rows.any (newR r fro til nm)) i11 i13 (.i .i64 (k : Nat)) i16 b17)) := by
  have hl' := fun H => hs.len (H := H)
  have u1 := hs.under
  have hp := rd_plain h
  refine iter_rel (body := exec V (call V n) n v28l2) (n := n) (fun i s => ∃ g9 b17, s = (st28 n0 defs ts cs fs x y zc fro til g6 g7 g8 g9 (o || (rows.take i).any (newR r fro til nm)) i11 i13 (.i .i64 (k : Nat)) (.i .i64 (i : Nat)) b17)) (fun ex s' => ex = .ex 6 ∧ ∃ g9 i16 b17, s' = (st28 n0 defs ts cs fs x y zc fro til g6 g7 g8 g9 (o || rows.any (newR r fro til nm)) i11 i13 (.i .i64 (k : Nat)) i16 b17)) rows.length (by omega) ⟨g9, b17, by simp⟩ ?_ ?_
  · intro i s hi hs'
    obtain ⟨g9, b17, rfl⟩ := hs'
    have hd : decide ((i : Int) < (rows.length : Int)) = true := by simpa using hi
    have hw := wrap1 (i := i) (by omega)
    have k4i := fun H => hs.elem (H := H) (k := .i64) hi
    rw [any_take _ hi, ← Bool.or_assoc]
    generalize (o || (rows.take i).any (newR r fro til nm)) = o'
    obtain ⟨c0, c1, kn, c3, c4, c5, c6, hrow, hflat⟩ := hf _ (List.getElem_mem hi)
    have hcall := PN.plain (f := 15) (vf := v15) rfl rfl [] (ds := [.ag [x, y, zc], .s nm, .ag [c0, c1, .i .i64 kn, c3, c4, c5, c6], .i .i64 til]) (by
      simp only [List.all_cons, List.all_nil, hp, Bool.and_true, Bool.true_and]
      simp only [D.plain, D.flat, Bool.and_true, Bool.true_and]
      rw [hrow] at hflat
      simpa using hflat) (refRow15 h hl nm c0 c1 kn til c3 c4 c5 c6) rfl
    have hci := hcall n (by omega)
    have e : newR r fro til nm rows[i] = (decide (fro < kn) && rowB r nm kn til) := by rw [hrow]; rfl
    rw [e]
    simp only [hrow] at k4i
    refine ⟨(st28 n0 defs ts cs fs x y zc fro til g6 g7 g8 (.b true) (o' || (decide (fro < kn) && rowB r nm kn til)) i11 i13 (.i .i64 (k : Nat)) (.i .i64 (i + 1 : Nat)) (.bx [c0, c1, .i .i64 kn, c3, c4, c5, c6])), ?_, .b true, .bx [c0, c1, .i .i64 kn, c3, c4, c5, c6], rfl⟩
    cases o' with
    | true => simp only [v28l2, st28, exec_seq, exec_cond, exec_block, exec_skip, exec_reg, exec_drawn, seqK_nm, condK_t, blockK_nm, ops_cons, ops_nil, opsW_t, opsW_f, opsF_t, opsK_v, wants_none, wants_some, wantK_ft, wantK_u, fits_none, fits_f, rd_mov, rd_pick, ev_l, ev_s, ev_c, ab_sl, ab_lo, abS_bx, abL_lp, ofO_some, step_mov, step_pick, pick_t, step_lal, step_lfa, lfaR_s, step_lld, lldR_s, lldB_bx, lldC_s, step_lst, lstR_s, lstB_bx, lstC_s, step_fad, fad_ip, step_iad, step_ld, ldR_s, ld_ip, val_t, val_f, step_bin, bin_add, bin_lss, step_len, cells_ag, setSl, cut, put, List.getD_cons_zero, List.getD_cons_succ, List.getElem?_cons_zero, List.getElem?_cons_succ, List.set_cons_zero, List.set_cons_succ, List.nil_append, List.cons_append, List.append_nil, List.length_cons, List.length_nil, List.drop_succ_cons, List.drop_zero, List.drop_nil, List.take_succ_cons, List.take_zero, List.take_nil, List.all_nil, Nat.reduceAdd, Nat.reduceLeDiff, Nat.le_refl, Nat.zero_add, if_true, hl', hd, ht, k4i, hw, Bool.true_or]
    | false =>
      cases q0 : decide (fro < kn) with
      | false => simp only [v28l2, st28, exec_seq, exec_cond, exec_block, exec_skip, exec_reg, exec_drawn, seqK_nm, condK_t, blockK_nm, ops_cons, ops_nil, opsW_t, opsW_f, opsF_t, opsK_v, wants_none, wants_some, wantK_ff, wantK_tf, fits_none, fits_f, rd_mov, rd_pick, rd_lfa, rd_lld, rd_bin, ev_l, ev_s, ev_c, ab_sl, ab_lo, abS_bx, abL_lp, ofO_some, step_mov, step_pick, pick_f, step_lal, step_lfa, lfaR_s, step_lld, lldR_s, lldB_bx, lldC_s, step_lst, lstR_s, lstB_bx, lstC_s, step_fad, fad_ip, step_iad, step_ld, ldR_s, ld_ip, val_t, val_f, step_bin, bin_add, bin_lss, bin_gtr, step_len, cells_ag, setSl, cut, put, List.getD_cons_zero, List.getD_cons_succ, List.getElem?_cons_zero, List.getElem?_cons_succ, List.set_cons_zero, List.set_cons_succ, List.nil_append, List.cons_append, List.append_nil, List.length_cons, List.length_nil, List.drop_succ_cons, List.drop_zero, List.drop_nil, List.take_succ_cons, List.take_zero, List.take_nil, List.all_nil, Bool.false_and, Nat.reduceAdd, Nat.reduceLeDiff, Nat.le_refl, Nat.zero_add, if_true, hl', hd, ht, k4i, hw, q0, Bool.false_or]
      | true => simp only [v28l2, st28, exec_seq, exec_cond, exec_block, exec_skip, exec_reg, exec_drawn, seqK_nm, condK_t, blockK_nm, ops_cons, ops_nil, opsW_t, opsF_t, opsK_v, wants_none, wants_some, wantK_tt, wantK_ff, fits_none, fits_f, rd_mov, rd_pick, rd_lfa, rd_lld, rd_fad, rd_bin, rd_call, rd_ld, rd_iad, un_ip, step_call, toR_ret, ev_l, ev_s, ev_c, ab_sl, ab_lo, abS_bx, abL_lp, ofO_some, step_mov, step_pick, pick_t, pick_f, step_lal, step_lfa, lfaR_s, step_lld, lldR_s, lldB_bx, lldC_s, step_lst, lstR_s, lstB_bx, lstC_s, step_fad, fad_ip, step_iad, step_ld, ldR_s, ld_ip, val_t, val_f, step_bin, bin_add, bin_lss, bin_gtr, step_len, cells_ag, setSl, cut, put, List.getD_cons_zero, List.getD_cons_succ, List.getElem?_cons_zero, List.getElem?_cons_succ, List.set_cons_zero, List.set_cons_succ, List.nil_append, List.cons_append, List.append_nil, List.length_cons, List.length_nil, List.drop_succ_cons, List.drop_zero, List.drop_nil, List.take_succ_cons, List.take_zero, List.take_nil, List.map_cons, List.map_nil, List.all_cons, List.all_nil, Bool.and_true, Bool.true_and, Nat.reduceAdd, Nat.reduceLeDiff, Nat.le_refl, Nat.zero_add, if_true, hl', hd, ht, ut, k4i, hw, q0, hci, Bool.false_or]
  · intro s hs'
    obtain ⟨g9, b17, rfl⟩ := hs'
    have hd : decide ((rows.length : Int) < (rows.length : Int)) = false := by simp
    rw [List.take_length]
    refine ⟨.ex 6, (st28 n0 defs ts cs fs x y zc fro til g6 g7 g8 (.b false) (o || rows.any (newR r fro til nm)) i11 i13 (.i .i64 (k : Nat)) (.i .i64 (rows.length : Nat)) b17), ?_, by simp, rfl, .b false, _, b17, rfl⟩
    simp only [v28l2, st28, exec_seq, exec_cond, exec_exit, exec_reg, seqK_nm, seqK_ex, condK_f, ops_cons, ops_nil, opsW_t, opsF_t, opsK_v, wants_none, fits_none, ev_l, ev_s, ab_sl, ab_lo, abS_bx, abL_lp, ofO_some, step_mov, step_lfa, lfaR_s, step_lld, lldR_s, lldB_bx, lldC_s, step_fad, fad_ip, step_iad, step_ld, ldR_s, ld_ip, val_f, step_bin, bin_lss, step_len, setSl, cut, List.getD_cons_zero, List.getD_cons_succ, List.getElem?_cons_zero, List.getElem?_cons_succ, List.set_cons_zero, List.set_cons_succ, List.nil_append, List.cons_append, List.length_cons, List.length_nil, List.drop_succ_cons, List.drop_zero, List.take_succ_cons, List.take_zero, List.take_nil, Nat.reduceAdd, Nat.reduceLeDiff, Nat.le_refl, Nat.zero_add, if_true, hl', hd, ht]

theorem rnews3 (h : IsRd r (.ag [x, y, zc])) (hl : r.le 40000) (hs : Sl 3 trows ts) (hf : ∀ q ∈ trows, TableRow q) (lf : trows.length ≤ 40000) (lr : ∀ q ∈ trows, ∀ nm two rs, q = [.s nm, two, rs] → (rowsD rs).length ≤ 40000) {n : Nat} (hn : 40004 ≤ n) (o : Bool) (g6 g7 g8 g9 i11 i13 i15 i16 b17 : D) :
    ∃ ex s', iter (exec V (call V n) n v28l3) n (st28 n0 defs ts cs fs x y zc fro til g6 g7 g8 g9 (o) i11 i13 (.i .i64 0) i16 b17) = (ex, s') ∧ (ex = .ex 4 ∧ ∃ g8 g9 i15 i16 b17, s' = (st28 n0 defs ts cs fs x y zc fro til g6 g7 g8 g9 (o || trows.any (newT r fro til)) i11 i13 i15 i16 b17)) := by
  have hl' := fun H => hs.len (H := H)
  have u1 := hs.under
  refine iter_rel (body := exec V (call V n) n v28l3) (n := n) (fun i s => ∃ g8 g9 i16 b17, s = (st28 n0 defs ts cs fs x y zc fro til g6 g7 g8 g9 (o || (trows.take i).any (newT r fro til)) i11 i13 (.i .i64 (i : Nat)) i16 b17)) (fun ex s' => ex = .ex 4 ∧ ∃ g8 g9 i15 i16 b17, s' = (st28 n0 defs ts cs fs x y zc fro til g6 g7 g8 g9 (o || trows.any (newT r fro til)) i11 i13 i15 i16 b17)) trows.length (by omega) ⟨g8, g9, i16, b17, by simp⟩ ?_ ?_
  · intro i s hi hs'
    obtain ⟨g8, g9, i16, b17, rfl⟩ := hs'
    have hd : decide ((i : Int) < (trows.length : Int)) = true := by simpa using hi
    have hw := wrap1 (i := i) (by omega)
    have k4i := fun H => hs.elem (H := H) (k := .i64) hi
    rw [any_take _ hi, ← Bool.or_assoc]
    generalize (o || (trows.take i).any (newT r fro til)) = o'
    obtain ⟨nm, two, rs, rows, hrow, htwo, hsr, hrr⟩ := hf _ (List.getElem_mem hi)
    have hlr := lr _ (List.getElem_mem hi) nm two rs hrow
    rw [rowsD_sl hsr] at hlr
    have e : newT r fro til trows[i] = rows.any (newR r fro til nm) := by rw [hrow]; simp only [newT, rowsD_sl hsr]
    rw [e]
    simp only [hrow] at k4i
    obtain ⟨ex, s', e1, rfl, g9', i16', b17', rfl⟩ := rnews2 (n0 := n0) (defs := defs) (cs := cs) (fs := fs) (fro := fro) (til := til) h hl k4i u1 hsr hrr hlr hn o' g6 g7 (.b true) g9 i11 i13 i16 b17
    simp only [st28] at e1
    refine ⟨(st28 n0 defs ts cs fs x y zc fro til g6 g7 (.b true) g9' (o' || rows.any (newR r fro til nm)) i11 i13 (.i .i64 (i + 1 : Nat)) i16' b17'), ?_, .b true, g9', i16', b17', rfl⟩
    simp only [v28l3, st28, exec_seq, exec_cond, exec_block, exec_skip, exec_reg, seqK_nm, condK_t, blockK_nm, blockK_ex, ops_cons, ops_nil, opsW_t, opsF_t, opsK_v, wants_none, fits_none, ev_l, ev_s, ev_c, ab_sl, ab_lo, abS_bx, abL_lp, ofO_some, step_mov, step_lfa, lfaR_s, step_lld, lldR_s, lldB_bx, lldC_s, val_f, step_bin, bin_add, bin_lss, step_len, setSl, cut, List.getD_cons_zero, List.getD_cons_succ, List.getElem?_cons_zero, List.getElem?_cons_succ, List.set_cons_zero, List.set_cons_succ, List.nil_append, List.cons_append, List.length_cons, List.length_nil, List.drop_succ_cons, List.drop_zero, List.take_succ_cons, List.take_zero, Nat.reduceAdd, Nat.reduceLeDiff, Nat.zero_add, if_true, hl', hd, exec_loop, e1, hw]
  · intro s hs'
    obtain ⟨g8, g9, i16, b17, rfl⟩ := hs'
    have hd : decide ((trows.length : Int) < (trows.length : Int)) = false := by simp
    rw [List.take_length]
    refine ⟨.ex 4, (st28 n0 defs ts cs fs x y zc fro til g6 g7 (.b false) g9 (o || trows.any (newT r fro til)) i11 i13 (.i .i64 (trows.length : Nat)) i16 b17), ?_, by simp, rfl, .b false, g9, _, i16, b17, rfl⟩
    simp only [v28l3, st28, exec_seq, exec_cond, exec_exit, exec_reg, seqK_nm, seqK_ex, condK_f, ops_cons, ops_nil, opsW_t, opsF_t, opsK_v, wants_none, fits_none, ev_l, ev_s, ab_sl, ab_lo, abS_bx, abL_lp, ofO_some, step_mov, step_lfa, lfaR_s, step_lld, lldR_s, lldB_bx, lldC_s, val_f, step_bin, bin_lss, step_len, setSl, cut, List.getD_cons_zero, List.getD_cons_succ, List.getElem?_cons_zero, List.getElem?_cons_succ, List.set_cons_zero, List.set_cons_succ, List.nil_append, List.cons_append, List.length_cons, List.length_nil, List.drop_succ_cons, List.drop_zero, List.take_succ_cons, List.take_zero, Nat.reduceAdd, Nat.reduceLeDiff, Nat.zero_add, if_true, hl', hd]

theorem refNews28 (h : IsRd r (.ag [x, y, zc])) (hl : r.le 40000) (hfs : Sl 11 frows fs) (hts : Sl 3 trows ts) (hcs : Sl 24 crows cs) (hf : ∀ q ∈ frows, FactRow q) (hc : ∀ q ∈ crows, ClauseRow q) (ht : ∀ q ∈ trows, TableRow q)
    (lf : frows.length ≤ 40000) (lc : crows.length ≤ 40000) (lt : trows.length ≤ 40000) (lr : ∀ q ∈ trows, ∀ nm two rs, q = [.s nm, two, rs] → (rowsD rs).length ≤ 40000) :
    PRet V 28 [.ag [.s n0, defs, ts, cs], fs, .ag [x, y, zc], .i .i64 fro, .i .i64 til] (.b (newsB r fro til frows crows trows)) := by
  refine PRet.of (vf := v28) (d0 := .b (newsB r fro til frows crows trows)) (H := []) rfl 40004 (fun n hn => ?_) rfl rfl
  have hent := enter_eq (V := V) (cl := call V n) (n := n) v28 [.ag [.s n0, defs, ts, cs], fs, .ag [x, y, zc], .i .i64 fro, .i .i64 til] [] rfl
  rw [hent]
  obtain ⟨ex, s', e1, rfl, a6, a11, rfl⟩ := rnews0 (n0 := n0) (defs := defs) (ts := ts) (cs := cs) (til := til) (fro := fro) h hl hfs hf lf hn false .u .u .u .u .u .u .u .u .u
  simp only [st28] at e1
  simp only [v28, exec_seq, exec_block, exec_reg, seqK_nm, blockK_ex, ops_cons, ops_nil, opsW_t, opsF_t, opsK_v, wants_none, fits_none, ev_s, ev_c, ofO_some, step_mov, step_lbx, cells_ag, setSl, List.getD_cons_zero, List.getD_cons_succ, List.set_cons_zero, List.set_cons_succ, List.nil_append, List.cons_append, List.length_cons, List.length_nil, List.replicate_succ, List.replicate_zero, Nat.reduceAdd, Nat.reduceSub, Nat.zero_add, if_true, Option.map_some, exec_loop, e1]
  clear e1
  obtain ⟨ex, s', e1, rfl, a7, a13, rfl⟩ := rnews1 (n0 := n0) (defs := defs) (ts := ts) (fs := fs) (til := til) (fro := fro) h hl hcs hc lc hn (false || frows.any (newF r fro til)) a6 .u .u .u a11 .u .u .u .u
  simp only [st28] at e1
  simp only [exec_seq, exec_block, exec_reg, seqK_nm, blockK_ex, ops_cons, ops_nil, opsW_t, opsF_t, opsK_v, wants_none, fits_none, ev_c, step_mov, setSl, List.set_cons_zero, List.set_cons_succ, List.nil_append, if_true, exec_loop, e1]
  clear e1
  obtain ⟨ex, s', e1, rfl, a8, a9, a15, a16, a17, rfl⟩ := rnews3 (n0 := n0) (defs := defs) (cs := cs) (fs := fs) (til := til) (fro := fro) h hl hts ht lt lr hn ((false || frows.any (newF r fro til)) || crows.any (newC r fro til)) a6 a7 .u .u a11 a13 .u .u .u
  simp only [st28] at e1
  simp only [exec_seq, exec_ret, exec_reg, seqK_nm, blockK_ex, ops_cons, ops_nil, opsW_t, opsF_t, opsK_v, wants_none, fits_none, ev_l, ev_s, step_mov, setSl, List.getD_cons_zero, List.getD_cons_succ, List.set_cons_zero, List.set_cons_succ, List.nil_append, List.cons_append, if_true, e1]
  rw [show newsB r fro til frows crows trows = (((false || frows.any (newF r fro til)) || crows.any (newC r fro til)) || trows.any (newT r fro til)) by simp [newsB, Bool.or_assoc]]
  exact entK_rt (ds := [.b _]) rfl rfl
end
end Go.Proofs.Ytkogdbgccjmaoaa.Dv
