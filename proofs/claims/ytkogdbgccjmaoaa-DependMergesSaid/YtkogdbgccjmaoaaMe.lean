/-
  The law's comparison over the machine, upon the caller's heap: true where both hold the same.
-/
import Derived.Test.YtkogdbgccjmaoaaMd
namespace Go.Proofs.Ytkogdbgccjmaoaa.Dv
open Go.Dm

theorem RN.impure {V : VProg} {f : FuncId} {vf : VFunc} {args : List D} {H : Heap} {d : D} {H' : Heap} (hf : V.fn f = some vf) (hp : vf.pure = false) (N : Nat) (h : ∀ n, N ≤ n → enter V (call V n) n vf args H = .ret d H') : RN V (N + 1) f args H d H' := fun m hm => by
  cases m with
  | zero => omega
  | succ m => simp only [call, hf, hp]; exact enter_mono (call_mono V N m (by omega)) (by omega) (h N (Nat.le_refl _))

/-- What was examined, read where it lies. -/
def RsRd (r : Rd) (H : Heap) (d : D) : Prop := ∃ x y zc, d = .ag [x, y, zc] ∧ Rs 2 (r.p.map eP.enc) H x ∧ Rs 3 (r.f.map eR.enc) H y ∧ Rs 1 (r.t.map eS.enc) H zc
theorem mz_rs {r : Rd} {H : Heap} {d : D} (h : MzRd r H d) : RsRd r H d := by
  obtain ⟨x, y, zc, rfl, h1, h2, h3, _⟩ := h
  refine ⟨x, y, zc, rfl, h1.rs ?_, h2.rs ?_, h3.rs ?_⟩
  · intro r hr; obtain ⟨a, _, rfl⟩ := List.mem_map.1 hr; exact eP_ok.cut a
  · intro r hr; obtain ⟨a, _, rfl⟩ := List.mem_map.1 hr; exact eR_ok.cut a
  · intro r hr; obtain ⟨a, _, rfl⟩ := List.mem_map.1 hr; exact eS_ok.cut a
theorem is_rs {r : Rd} {d : D} (h : IsRd r d) (H : Heap) : RsRd r H d := mz_rs (h.mz H)

theorem same23l0 {l : List (List UInt8 × Int)} {x y zc x' y' zc' : D} {H : Heap} (hx : Rs 2 (l.map eP.enc) H x) (hx' : Rs 2 (l.map eP.enc) H x') (hl : l.length ≤ 100000) {n : Nat} (hn : 100001 ≤ n) (g0 g1 g2 g3 g6 g7 g8 g9 g15 g16 g17 g18 g19 g20 g4 g5 g14 : D) :
    ∃ ex s', iter (exec V (call V n) n v23l0) n ⟨[g0, g1, g2, g3, g4, g5, g6, g7, g8, g9, .bx [x, y, zc], .bx [x', y', zc'], .i .i64 0, .i .i64 (l.length : Nat), g14, g15, g16, g17, g18, g19, g20], H⟩ = (ex, s') ∧ (ex = .ex 0 ∧ ∃ cu c0 c1, s' = ⟨[g0, g1, g2, g3, c0, c1, g6, g7, g8, g9, .bx [x, y, zc], .bx [x', y', zc'], .i .i64 (l.length : Nat), .i .i64 (l.length : Nat), cu, g15, g16, g17, g18, g19, g20], H⟩) := by
  have u1 := hx.under
  have u2 := hx'.under
  have e4 : ∀ (i : Nat) (h : i < l.length), eqvD true (.st [2, 1]) (.ag [.s l[i].1, .i .i64 l[i].2]) (.ag [.s l[i].1, .i .i64 l[i].2]) = some (.b false) := fun i h => by
    have := eqv_key eP_ok (fun _ => rfl) rfl true l[i] l[i]
    simp only [decide_true, bne_self_eq_false] at this
    exact this
  refine iter_rel (body := exec V (call V n) n v23l0) (n := n) (fun i s => ∃ cu c0 c1, s = ⟨[g0, g1, g2, g3, c0, c1, g6, g7, g8, g9, .bx [x, y, zc], .bx [x', y', zc'], .i .i64 (i : Nat), .i .i64 (l.length : Nat), cu, g15, g16, g17, g18, g19, g20], H⟩) (fun ex s' => ex = .ex 0 ∧ ∃ cu c0 c1, s' = ⟨[g0, g1, g2, g3, c0, c1, g6, g7, g8, g9, .bx [x, y, zc], .bx [x', y', zc'], .i .i64 (l.length : Nat), .i .i64 (l.length : Nat), cu, g15, g16, g17, g18, g19, g20], H⟩) l.length (by omega) ⟨_, _, _, rfl⟩ ?_ ?_
  · intro i s hi hs
    obtain ⟨cu, c0, c1, rfl⟩ := hs
    have hd : decide ((i : Int) < (l.length : Int)) = true := by simpa using hi
    have hw := wrap1 (i := i) (by omega)
    obtain ⟨p, p1, p2, p3⟩ := hx.elem i (by simpa using hi)
    obtain ⟨q, q1, q2, q3⟩ := hx'.elem i (by simpa using hi)
    rw [List.getElem_map] at p2 q2
    have p2' : ldAt H p 2 = some [.s l[i].1, .i .i64 l[i].2] := p2
    have q2' : ldAt H q 2 = some [.s l[i].1, .i .i64 l[i].2] := q2
    refine ⟨⟨[g0, g1, g2, g3, .b true, .b false, g6, g7, g8, g9, .bx [x, y, zc], .bx [x', y', zc'], .i .i64 (i + 1 : Nat), .i .i64 (l.length : Nat), .i .i64 i, g15, g16, g17, g18, g19, g20], H⟩, ?_, .i .i64 i, .b true, .b false, rfl⟩
    simp only [v23l0, exec_seq, exec_cond, exec_block, exec_skip, exec_reg, exec_drawn, seqK_nm, condK_t, condK_f, blockK_nm, ops_cons, ops_nil, opsW_t, opsF_t, opsK_v, wants_none, fits_none, fits_f, rd_mov, rd_lfa, rd_lld, rd_eqv, rd_ld, rd_iad, ev_l, ev_s, ev_c, ab_sl, ab_lo, abS_bx, abL_lp, ofO_some, step_mov, step_lfa, lfaR_s, step_lld, lldR_s, lldB_bx, lldC_s, step_iad, step_ld, ldR_s, val_t, val_f, step_bin, bin_add, bin_lss, step_eqv, setSl, cut, List.getD_cons_zero, List.getD_cons_succ, List.getElem?_cons_zero, List.getElem?_cons_succ, List.set_cons_zero, List.set_cons_succ, List.nil_append, List.cons_append, List.length_cons, List.length_nil, List.drop_zero, List.take_succ_cons, List.take_zero, List.all_cons, List.all_nil, Bool.and_true, Nat.reduceAdd, Nat.reduceLeDiff, Nat.zero_add, if_true, Nat.add_zero, hd, p1, p2', p3, q1, q2', q3, u1, u2, e4 i hi, hw]
  · intro s hs
    obtain ⟨cu, c0, c1, rfl⟩ := hs
    have hd : decide ((l.length : Int) < (l.length : Int)) = false := by simp
    refine ⟨.ex 0, ⟨[g0, g1, g2, g3, .b false, c1, g6, g7, g8, g9, .bx [x, y, zc], .bx [x', y', zc'], .i .i64 (l.length : Nat), .i .i64 (l.length : Nat), cu, g15, g16, g17, g18, g19, g20], H⟩, ?_, by simp, rfl, cu, .b false, c1, rfl⟩
    simp only [v23l0, exec_seq, exec_cond, exec_exit, exec_reg, seqK_nm, seqK_ex, condK_f, ops_cons, ops_nil, opsW_t, opsF_t, opsK_v, wants_none, fits_none, ev_s, ofO_some, step_bin, bin_lss, setSl, List.getD_cons_zero, List.getD_cons_succ, List.set_cons_zero, List.set_cons_succ, List.nil_append, hd]

theorem same23l1 {l : List (List UInt8 × Int × Int)} {x y zc x' y' zc' : D} {H : Heap} (hx : Rs 3 (l.map eR.enc) H y) (hx' : Rs 3 (l.map eR.enc) H y') (hl : l.length ≤ 100000) {n : Nat} (hn : 100001 ≤ n) (g0 g1 g2 g3 g4 g5 g8 g9 g12 g13 g14 g18 g19 g20 g6 g7 g17 : D) :
    ∃ ex s', iter (exec V (call V n) n v23l1) n ⟨[g0, g1, g2, g3, g4, g5, g6, g7, g8, g9, .bx [x, y, zc], .bx [x', y', zc'], g12, g13, g14, .i .i64 0, .i .i64 (l.length : Nat), g17, g18, g19, g20], H⟩ = (ex, s') ∧ (ex = .ex 2 ∧ ∃ cu c0 c1, s' = ⟨[g0, g1, g2, g3, g4, g5, c0, c1, g8, g9, .bx [x, y, zc], .bx [x', y', zc'], g12, g13, g14, .i .i64 (l.length : Nat), .i .i64 (l.length : Nat), cu, g18, g19, g20], H⟩) := by
  have u1 := hx.under
  have u2 := hx'.under
  have e4 : ∀ (i : Nat) (h : i < l.length), eqvD true (.st [2, 1, 1]) (.ag [.s l[i].1, .i .i64 l[i].2.1, .i .i64 l[i].2.2]) (.ag [.s l[i].1, .i .i64 l[i].2.1, .i .i64 l[i].2.2]) = some (.b false) := fun i h => by
    have := eqv_key eR_ok (fun _ => rfl) rfl true l[i] l[i]
    simp only [decide_true, bne_self_eq_false] at this
    exact this
  refine iter_rel (body := exec V (call V n) n v23l1) (n := n) (fun i s => ∃ cu c0 c1, s = ⟨[g0, g1, g2, g3, g4, g5, c0, c1, g8, g9, .bx [x, y, zc], .bx [x', y', zc'], g12, g13, g14, .i .i64 (i : Nat), .i .i64 (l.length : Nat), cu, g18, g19, g20], H⟩) (fun ex s' => ex = .ex 2 ∧ ∃ cu c0 c1, s' = ⟨[g0, g1, g2, g3, g4, g5, c0, c1, g8, g9, .bx [x, y, zc], .bx [x', y', zc'], g12, g13, g14, .i .i64 (l.length : Nat), .i .i64 (l.length : Nat), cu, g18, g19, g20], H⟩) l.length (by omega) ⟨_, _, _, rfl⟩ ?_ ?_
  · intro i s hi hs
    obtain ⟨cu, c0, c1, rfl⟩ := hs
    have hd : decide ((i : Int) < (l.length : Int)) = true := by simpa using hi
    have hw := wrap1 (i := i) (by omega)
    obtain ⟨p, p1, p2, p3⟩ := hx.elem i (by simpa using hi)
    obtain ⟨q, q1, q2, q3⟩ := hx'.elem i (by simpa using hi)
    rw [List.getElem_map] at p2 q2
    have p2' : ldAt H p 3 = some [.s l[i].1, .i .i64 l[i].2.1, .i .i64 l[i].2.2] := p2
    have q2' : ldAt H q 3 = some [.s l[i].1, .i .i64 l[i].2.1, .i .i64 l[i].2.2] := q2
    refine ⟨⟨[g0, g1, g2, g3, g4, g5, .b true, .b false, g8, g9, .bx [x, y, zc], .bx [x', y', zc'], g12, g13, g14, .i .i64 (i + 1 : Nat), .i .i64 (l.length : Nat), .i .i64 i, g18, g19, g20], H⟩, ?_, .i .i64 i, .b true, .b false, rfl⟩
    simp only [v23l1, exec_seq, exec_cond, exec_block, exec_skip, exec_reg, exec_drawn, seqK_nm, condK_t, condK_f, blockK_nm, ops_cons, ops_nil, opsW_t, opsF_t, opsK_v, wants_none, fits_none, fits_f, rd_mov, rd_lfa, rd_lld, rd_eqv, rd_ld, rd_iad, ev_l, ev_s, ev_c, ab_sl, ab_lo, abS_bx, abL_lp, ofO_some, step_mov, step_lfa, lfaR_s, step_lld, lldR_s, lldB_bx, lldC_s, step_iad, step_ld, ldR_s, val_t, val_f, step_bin, bin_add, bin_lss, step_eqv, setSl, cut, List.getD_cons_zero, List.getD_cons_succ, List.getElem?_cons_zero, List.getElem?_cons_succ, List.set_cons_zero, List.set_cons_succ, List.nil_append, List.cons_append, List.length_cons, List.length_nil, List.drop_succ_cons, List.drop_zero, List.take_succ_cons, List.take_zero, List.all_cons, List.all_nil, Bool.and_true, Nat.reduceAdd, Nat.reduceLeDiff, Nat.zero_add, if_true, hd, p1, p2', p3, q1, q2', q3, u1, u2, e4 i hi, hw]
  · intro s hs
    obtain ⟨cu, c0, c1, rfl⟩ := hs
    have hd : decide ((l.length : Int) < (l.length : Int)) = false := by simp
    refine ⟨.ex 2, ⟨[g0, g1, g2, g3, g4, g5, .b false, c1, g8, g9, .bx [x, y, zc], .bx [x', y', zc'], g12, g13, g14, .i .i64 (l.length : Nat), .i .i64 (l.length : Nat), cu, g18, g19, g20], H⟩, ?_, by simp, rfl, cu, .b false, c1, rfl⟩
    simp only [v23l1, exec_seq, exec_cond, exec_exit, exec_reg, seqK_nm, seqK_ex, condK_f, ops_cons, ops_nil, opsW_t, opsF_t, opsK_v, wants_none, fits_none, ev_s, ofO_some, step_bin, bin_lss, setSl, List.getD_cons_zero, List.getD_cons_succ, List.set_cons_zero, List.set_cons_succ, List.nil_append, hd]

theorem same23l2 {l : List (List UInt8)} {x y zc x' y' zc' : D} {H : Heap} (hx : Rs 1 (l.map eS.enc) H zc) (hx' : Rs 1 (l.map eS.enc) H zc') (hl : l.length ≤ 100000) {n : Nat} (hn : 100001 ≤ n) (g0 g1 g2 g3 g4 g5 g6 g7 g12 g13 g14 g15 g16 g17 g8 g9 g20 : D) :
    ∃ ex s', iter (exec V (call V n) n v23l2) n ⟨[g0, g1, g2, g3, g4, g5, g6, g7, g8, g9, .bx [x, y, zc], .bx [x', y', zc'], g12, g13, g14, g15, g16, g17, .i .i64 0, .i .i64 (l.length : Nat), g20], H⟩ = (ex, s') ∧ (ex = .ex 4 ∧ ∃ cu c0 c1, s' = ⟨[g0, g1, g2, g3, g4, g5, g6, g7, c0, c1, .bx [x, y, zc], .bx [x', y', zc'], g12, g13, g14, g15, g16, g17, .i .i64 (l.length : Nat), .i .i64 (l.length : Nat), cu], H⟩) := by
  have u1 := hx.under
  have u2 := hx'.under
  have e4 : ∀ (i : Nat) (h : i < l.length), bin .neq (.s l[i]) (.s l[i]) = some (.b false) := fun i h => by rw [bins_neq]; simp
  refine iter_rel (body := exec V (call V n) n v23l2) (n := n) (fun i s => ∃ cu c0 c1, s = ⟨[g0, g1, g2, g3, g4, g5, g6, g7, c0, c1, .bx [x, y, zc], .bx [x', y', zc'], g12, g13, g14, g15, g16, g17, .i .i64 (i : Nat), .i .i64 (l.length : Nat), cu], H⟩) (fun ex s' => ex = .ex 4 ∧ ∃ cu c0 c1, s' = ⟨[g0, g1, g2, g3, g4, g5, g6, g7, c0, c1, .bx [x, y, zc], .bx [x', y', zc'], g12, g13, g14, g15, g16, g17, .i .i64 (l.length : Nat), .i .i64 (l.length : Nat), cu], H⟩) l.length (by omega) ⟨_, _, _, rfl⟩ ?_ ?_
  · intro i s hi hs
    obtain ⟨cu, c0, c1, rfl⟩ := hs
    have hd : decide ((i : Int) < (l.length : Int)) = true := by simpa using hi
    have hw := wrap1 (i := i) (by omega)
    obtain ⟨p, p1, p2, p3⟩ := hx.elem i (by simpa using hi)
    obtain ⟨q, q1, q2, q3⟩ := hx'.elem i (by simpa using hi)
    rw [List.getElem_map] at p2 q2
    have p2' : ldAt H p 1 = some [.s l[i]] := p2
    have q2' : ldAt H q 1 = some [.s l[i]] := q2
    refine ⟨⟨[g0, g1, g2, g3, g4, g5, g6, g7, .b true, .b false, .bx [x, y, zc], .bx [x', y', zc'], g12, g13, g14, g15, g16, g17, .i .i64 (i + 1 : Nat), .i .i64 (l.length : Nat), .i .i64 i], H⟩, ?_, .i .i64 i, .b true, .b false, rfl⟩
    simp only [v23l2, exec_seq, exec_cond, exec_block, exec_skip, exec_reg, exec_drawn, seqK_nm, condK_t, condK_f, blockK_nm, ops_cons, ops_nil, opsW_t, opsF_t, opsK_v, wants_none, fits_none, fits_f, rd_mov, rd_lfa, rd_lld, rd_bin, rd_ld, rd_iad, ev_l, ev_s, ev_c, ab_sl, ab_lo, abS_bx, abL_lp, ofO_some, step_mov, step_lfa, lfaR_s, step_lld, lldR_s, lldB_bx, lldC_s, step_iad, step_ld, ldR_s, val_f, step_bin, bin_add, bin_lss, setSl, cut, List.getD_cons_zero, List.getD_cons_succ, List.getElem?_cons_zero, List.getElem?_cons_succ, List.set_cons_zero, List.set_cons_succ, List.nil_append, List.cons_append, List.length_cons, List.length_nil, List.drop_succ_cons, List.drop_zero, List.take_succ_cons, List.take_nil, List.all_cons, List.all_nil, Bool.and_true, Nat.reduceAdd, Nat.le_refl, Nat.zero_add, if_true, hd, p1, p2', p3, q1, q2', q3, u1, u2, e4 i hi, hw]
  · intro s hs
    obtain ⟨cu, c0, c1, rfl⟩ := hs
    have hd : decide ((l.length : Int) < (l.length : Int)) = false := by simp
    refine ⟨.ex 4, ⟨[g0, g1, g2, g3, g4, g5, g6, g7, .b false, c1, .bx [x, y, zc], .bx [x', y', zc'], g12, g13, g14, g15, g16, g17, .i .i64 (l.length : Nat), .i .i64 (l.length : Nat), cu], H⟩, ?_, by simp, rfl, cu, .b false, c1, rfl⟩
    simp only [v23l2, exec_seq, exec_cond, exec_exit, exec_reg, seqK_nm, seqK_ex, condK_f, ops_cons, ops_nil, opsW_t, opsF_t, opsK_v, wants_none, fits_none, ev_s, ofO_some, step_bin, bin_lss, setSl, List.getD_cons_zero, List.getD_cons_succ, List.set_cons_zero, List.set_cons_succ, List.nil_append, hd]

theorem same23 {r : Rd} {H : Heap} {d e : D} (h : RsRd r H d) (h' : RsRd r H e) (hl : r.le 100000) : RN V 100002 23 [d, e] H (.b true) H := by
  obtain ⟨x, y, zc, rfl, h1, h2, h3⟩ := h
  obtain ⟨x', y', zc', rfl, k1, k2, k3⟩ := h'
  obtain ⟨l1, l2, l3⟩ := hl
  have n1 := h1.len
  have n2 := h2.len
  have n3 := h3.len
  have m1 := k1.len
  have m2 := k2.len
  have m3 := k3.len
  simp only [List.length_map] at n1 n2 n3 m1 m2 m3
  have b1 : ∀ q : Nat, bin .neq (.i .i64 q) (.i .i64 q) = some (.b false) := fun q => by rw [bin_neq]; simp
  refine RN.impure (vf := v23) rfl rfl 100001 (fun n hn => ?_)
  have hent : enter V (call V n) n v23 [.ag [x, y, zc], .ag [x', y', zc']] H = _ := enter_eq (V := V) (cl := call V n) (n := n) v23 [.ag [x, y, zc], .ag [x', y', zc']] H rfl
  rw [hent]
  obtain ⟨ex, s', e1, rfl, cu, c0, c1, rfl⟩ := same23l0 (y := y) (zc := zc) (y' := y') (zc' := zc') h1 k1 l1 hn (.ag [x, y, zc]) (.ag [x', y', zc']) (.b false) (.b false) .u .u .u .u .u .u .u .u .u .u .u .u .u
  simp only [v23, exec_seq, exec_cond, exec_block, exec_skip, exec_reg, seqK_nm, condK_f, blockK_ex, ops_cons, ops_nil, opsW_t, opsF_t, opsK_v, wants_none, wants_some, wantK_ff, fits_none, ev_l, ev_s, ev_c, ab_sl, ab_lo, abS_bx, abL_lp, ofO_some, step_mov, step_pick, pick_f, step_lbx, step_lfa, lfaR_s, step_lld, lldR_s, lldB_bx, lldC_s, val_f, step_bin, step_len, cells_ag, setSl, cut, List.getD_cons_zero, List.getD_cons_succ, List.getElem?_cons_zero, List.getElem?_cons_succ, List.set_cons_zero, List.set_cons_succ, List.nil_append, List.cons_append, List.length_cons, List.length_nil, List.drop_succ_cons, List.drop_zero, List.take_succ_cons, List.take_zero, List.take_nil, List.replicate_succ, List.replicate_zero, Nat.reduceAdd, Nat.reduceSub, Nat.reduceLeDiff, Nat.le_refl, Nat.zero_add, if_true, Nat.add_zero, Option.map_some, n1, n2, n3, m1, m2, m3, b1, exec_loop, e1]
  clear e1
  obtain ⟨ex, s', e1, rfl, cu', c0', c1', rfl⟩ := same23l1 (x := x) (zc := zc) (x' := x') (zc' := zc') h2 k2 l2 hn (.ag [x, y, zc]) (.ag [x', y', zc']) (.b false) (.b false) c0 c1 .u .u (.i .i64 (r.p.length : Nat)) (.i .i64 (r.p.length : Nat)) cu .u .u .u .u .u .u
  simp only [exec_seq, exec_block, exec_reg, seqK_nm, blockK_ex, ops_cons, ops_nil, opsW_t, opsF_t, opsK_v, wants_none, fits_none, ev_l, ev_c, ab_sl, ab_lo, abS_bx, abL_lp, ofO_some, step_mov, step_lfa, lfaR_s, step_lld, lldR_s, lldB_bx, lldC_s, val_f, step_len, setSl, cut, List.getD_cons_zero, List.getD_cons_succ, List.getElem?_cons_zero, List.getElem?_cons_succ, List.set_cons_zero, List.set_cons_succ, List.nil_append, List.cons_append, List.length_cons, List.length_nil, List.drop_succ_cons, List.drop_zero, List.take_succ_cons, List.take_nil, Nat.reduceAdd, Nat.le_refl, Nat.zero_add, if_true, n3, exec_loop, e1]
  clear e1
  obtain ⟨ex, s', e1, rfl, cu'', c0'', c1'', rfl⟩ := same23l2 (x := x) (y := y) (x' := x') (y' := y') h3 k3 l3 hn (.ag [x, y, zc]) (.ag [x', y', zc']) (.b false) (.b false) c0 c1 c0' c1' (.i .i64 (r.p.length : Nat)) (.i .i64 (r.p.length : Nat)) cu (.i .i64 (r.f.length : Nat)) (.i .i64 (r.f.length : Nat)) cu' .u .u .u
  simp only [exec_seq, exec_ret, exec_reg, seqK_nm, blockK_ex, ops_cons, ops_nil, opsW_t, opsF_t, opsK_v, wants_none, fits_none, ev_c, step_mov, setSl, List.set_cons_zero, List.set_cons_succ, List.nil_append, if_true, e1]
  exact entK_rt (ds := [.b true]) rfl rfl
end Go.Proofs.Ytkogdbgccjmaoaa.Dv
