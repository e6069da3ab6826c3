/-
  The loops of the law DependMerges over the machine: rows counted; what was merged is written.
-/
import Derived.Test.YtkogdbgccjmaoaaMh
import Derived.Test.YtkogdbgccjmaoaaDg
namespace Go.Proofs.Ytkogdbgccjmaoaa.Dv
open Go.Dm

theorem cat_x {l : List UInt8} {i : Nat} (h : l.length ≤ reachBytes + i) (hi : i ≤ 100000) : bin .add (.s l) (.s [120]) = some (.s (l ++ [120])) := by
  have : l.length + [(120 : UInt8)].length ≤ maxCat := by
    simp only [List.length_singleton, maxCat]
    have : reachBytes = 140737488351232 := by decide
    omega
  simp only [bin, binS, this, if_true]

theorem wr5l1 {l : List (List UInt8 × Int)} {H : Heap} {m1 m2 m3 : D} {S : List Nat} (hm : Mm 2 (l.map eP.enc) H m1) (hS : ∀ a ∈ muOf m1, a ∈ S) (hl : l.length ≤ 100000) {n : Nat} (hn : 100001 ≤ n) (g0 g1 g2 g3 g4 g5 g6 g7 g8 g9 g10 g11 g12 g13 g14 g15 g16 g17 g18 g19 g20 g21 g22 g24 g27 g28 g29 g30 g31 g32 g33 : D) :
    ∃ ex s', iter (exec V (call V n) n v5l1) n ⟨[g0, g1, g2, g3, g4, g5, g6, g7, g8, g9, g10, g11, g12, g13, g14, g15, g16, g17, g18, g19, g20, g21, g22, .bx [m1, m2, m3], g24, .i .i64 0, .i .i64 (l.length : Nat), g27, g28, g29, g30, g31, g32, g33], H⟩ = (ex, s') ∧ (ex = .ex 2 ∧ ∃ c i cu H', s' = ⟨[g0, g1, g2, g3, g4, g5, g6, g7, g8, g9, g10, c, g12, g13, g14, g15, g16, g17, g18, g19, g20, g21, g22, .bx [m1, m2, m3], g24, i, .i .i64 (l.length : Nat), cu, g28, g29, g30, g31, g32, g33], H'⟩ ∧ Gx S H H' ∧ ∀ w rows d, Mm w rows H d → (∀ a ∈ muOf m1, a ∉ muOf d) → Mm w rows H' d) := by
  refine iter_rel (body := exec V (call V n) n v5l1) (n := n) (fun i s => ∃ c cu H' l', s = ⟨[g0, g1, g2, g3, g4, g5, g6, g7, g8, g9, g10, c, g12, g13, g14, g15, g16, g17, g18, g19, g20, g21, g22, .bx [m1, m2, m3], g24, .i .i64 (i : Nat), .i .i64 (l.length : Nat), cu, g28, g29, g30, g31, g32, g33], H'⟩ ∧ l'.length = l.length ∧ Mm 2 (l'.map eP.enc) H' m1 ∧ Gx S H H' ∧ (∀ w rows d, Mm w rows H d → (∀ a ∈ muOf m1, a ∉ muOf d) → Mm w rows H' d))
    (fun ex s' => ex = .ex 2 ∧ ∃ c i cu H', s' = ⟨[g0, g1, g2, g3, g4, g5, g6, g7, g8, g9, g10, c, g12, g13, g14, g15, g16, g17, g18, g19, g20, g21, g22, .bx [m1, m2, m3], g24, i, .i .i64 (l.length : Nat), cu, g28, g29, g30, g31, g32, g33], H'⟩ ∧ Gx S H H' ∧ ∀ w rows d, Mm w rows H d → (∀ a ∈ muOf m1, a ∉ muOf d) → Mm w rows H' d) l.length (by omega) ⟨_, _, H, l, rfl, rfl, hm, .refl _ _, fun _ _ _ h _ => h⟩ ?_ ?_
  · intro i s hi hs
    obtain ⟨c, cu, H1, l', rfl, hlen, hm1, hg, hk⟩ := hs
    have hd : decide ((i : Int) < (l.length : Int)) = true := by simpa using hi
    have hw := wrap1 (i := i) (by omega)
    have hi' : i < l'.length := by omega
    have hi2 : i < (l'.map eP.enc).length := by simpa using hi'
    obtain ⟨A, hA, hia, hld, hst⟩ := hm1.wr hi2
    rw [List.getElem_map] at hld hst
    generalize hq : l'[i] = q at hld hst
    rw [List.length_map] at hia hld hst
    have hld' : ldAt H1 (.ap A l'.length i 1) 1 = some [.i .i64 q.2] := hld 1 1 _ rfl
    obtain ⟨H2, hs1, hs2, hs3, hs4⟩ := hst 1 (.i .i64 (IntKind.i64.wrap (q.2 + 1))) (eP.enc (q.1, IntKind.i64.wrap (q.2 + 1))) rfl rfl
    refine ⟨⟨[g0, g1, g2, g3, g4, g5, g6, g7, g8, g9, g10, .b true, g12, g13, g14, g15, g16, g17, g18, g19, g20, g21, g22, .bx [m1, m2, m3], g24, .i .i64 (i + 1 : Nat), .i .i64 (l.length : Nat), .i .i64 i, g28, g29, g30, g31, g32, g33], H2⟩, ?_, .b true, .i .i64 i, H2, l'.set i (q.1, IntKind.i64.wrap (q.2 + 1)), rfl, by simpa using hlen, ?_, hg.trans (hs2.mono (fun a ha => by rw [List.mem_singleton.1 ha]; exact hS A hA)), fun w rows d h hd' => hs4 w rows d (hk w rows d h hd') (hd' A hA)⟩
    · simp only [v5l1, exec_seq, exec_cond, exec_block, exec_skip, exec_reg, seqK_nm, condK_t, blockK_nm, ops_cons, ops_nil, opsW_t, opsF_t, opsK_v, wants_none, fits_none, ev_l, ev_s, ev_c, ab_sl, ab_lo, abS_bx, abL_lp, ofO_some, ofH_some, step_mov, step_lfa, lfaR_s, step_lld, lldR_s, lldB_bx, lldC_s, step_fad, fad_ap, step_iad, step_ld, ldR_s, val_f, step_st, stR_s, step_bin, bin_add, bin_lss, cells_i, setSl, cut, List.getD_cons_zero, List.getD_cons_succ, List.getElem?_cons_zero, List.getElem?_cons_succ, List.set_cons_zero, List.set_cons_succ, List.nil_append, List.cons_append, List.length_cons, List.length_nil, List.drop_zero, List.take_succ_cons, List.take_zero, Nat.reduceAdd, Nat.reduceLeDiff, Nat.zero_add, if_true, Nat.add_zero, hd, hw, hia, hld', hs1]
    · rw [List.map_set]; exact hs3
  · intro s hs
    obtain ⟨c, cu, H1, l', rfl, hlen, hm1, hg, hk⟩ := hs
    have hd : decide ((l.length : Int) < (l.length : Int)) = false := by simp
    refine ⟨.ex 2, ⟨[g0, g1, g2, g3, g4, g5, g6, g7, g8, g9, g10, .b false, g12, g13, g14, g15, g16, g17, g18, g19, g20, g21, g22, .bx [m1, m2, m3], g24, .i .i64 (l.length : Nat), .i .i64 (l.length : Nat), cu, g28, g29, g30, g31, g32, g33], H1⟩, ?_, by simp, rfl, .b false, _, cu, H1, rfl, hg, hk⟩
    simp only [v5l1, exec_seq, exec_cond, exec_exit, exec_reg, seqK_nm, seqK_ex, condK_f, ops_cons, ops_nil, opsW_t, opsF_t, opsK_v, wants_none, fits_none, ev_s, ofO_some, step_bin, bin_lss, setSl, List.getD_cons_zero, List.getD_cons_succ, List.set_cons_zero, List.set_cons_succ, List.nil_append, hd]

theorem wr5l2 {l : List (List UInt8 × Int × Int)} {H : Heap} {m1 m2 m3 : D} {S : List Nat} (hm : Mm 3 (l.map eR.enc) H m2) (hS : ∀ a ∈ muOf m2, a ∈ S) (hl : l.length ≤ 100000) {n : Nat} (hn : 100001 ≤ n) (g0 g1 g2 g3 g4 g5 g6 g7 g8 g9 g10 g11 g12 g13 g14 g15 g16 g17 g18 g19 g20 g21 g22 g24 g25 g26 g27 g30 g31 g32 g33 : D) :
    ∃ ex s', iter (exec V (call V n) n v5l2) n ⟨[g0, g1, g2, g3, g4, g5, g6, g7, g8, g9, g10, g11, g12, g13, g14, g15, g16, g17, g18, g19, g20, g21, g22, .bx [m1, m2, m3], g24, g25, g26, g27, .i .i64 0, .i .i64 (l.length : Nat), g30, g31, g32, g33], H⟩ = (ex, s') ∧ (ex = .ex 4 ∧ ∃ c i cu H', s' = ⟨[g0, g1, g2, g3, g4, g5, g6, g7, g8, g9, g10, g11, c, g13, g14, g15, g16, g17, g18, g19, g20, g21, g22, .bx [m1, m2, m3], g24, g25, g26, g27, i, .i .i64 (l.length : Nat), cu, g31, g32, g33], H'⟩ ∧ Gx S H H' ∧ ∀ w rows d, Mm w rows H d → (∀ a ∈ muOf m2, a ∉ muOf d) → Mm w rows H' d) := by
  refine iter_rel (body := exec V (call V n) n v5l2) (n := n) (fun i s => ∃ c cu H' l', s = ⟨[g0, g1, g2, g3, g4, g5, g6, g7, g8, g9, g10, g11, c, g13, g14, g15, g16, g17, g18, g19, g20, g21, g22, .bx [m1, m2, m3], g24, g25, g26, g27, .i .i64 (i : Nat), .i .i64 (l.length : Nat), cu, g31, g32, g33], H'⟩ ∧ l'.length = l.length ∧ Mm 3 (l'.map eR.enc) H' m2 ∧ Gx S H H' ∧ (∀ w rows d, Mm w rows H d → (∀ a ∈ muOf m2, a ∉ muOf d) → Mm w rows H' d))
    (fun ex s' => ex = .ex 4 ∧ ∃ c i cu H', s' = ⟨[g0, g1, g2, g3, g4, g5, g6, g7, g8, g9, g10, g11, c, g13, g14, g15, g16, g17, g18, g19, g20, g21, g22, .bx [m1, m2, m3], g24, g25, g26, g27, i, .i .i64 (l.length : Nat), cu, g31, g32, g33], H'⟩ ∧ Gx S H H' ∧ ∀ w rows d, Mm w rows H d → (∀ a ∈ muOf m2, a ∉ muOf d) → Mm w rows H' d) l.length (by omega) ⟨_, _, H, l, rfl, rfl, hm, .refl _ _, fun _ _ _ h _ => h⟩ ?_ ?_
  · intro i s hi hs
    obtain ⟨c, cu, H1, l', rfl, hlen, hm1, hg, hk⟩ := hs
    have hd : decide ((i : Int) < (l.length : Int)) = true := by simpa using hi
    have hw := wrap1 (i := i) (by omega)
    have hi' : i < l'.length := by omega
    have hi2 : i < (l'.map eR.enc).length := by simpa using hi'
    obtain ⟨A, hA, hia, hld, hst⟩ := hm1.wr hi2
    rw [List.getElem_map] at hld hst
    generalize hq : l'[i] = q at hld hst
    rw [List.length_map] at hia hld hst
    have hld' : ldAt H1 (.ap A l'.length i 1) 1 = some [.i .i64 q.2.1] := hld 1 1 _ rfl
    obtain ⟨H2, hs1, hs2, hs3, hs4⟩ := hst 1 (.i .i64 (IntKind.i64.wrap (q.2.1 + 1))) (eR.enc (q.1, IntKind.i64.wrap (q.2.1 + 1), q.2.2)) rfl rfl
    refine ⟨⟨[g0, g1, g2, g3, g4, g5, g6, g7, g8, g9, g10, g11, .b true, g13, g14, g15, g16, g17, g18, g19, g20, g21, g22, .bx [m1, m2, m3], g24, g25, g26, g27, .i .i64 (i + 1 : Nat), .i .i64 (l.length : Nat), .i .i64 i, g31, g32, g33], H2⟩, ?_, .b true, .i .i64 i, H2, l'.set i (q.1, IntKind.i64.wrap (q.2.1 + 1), q.2.2), rfl, by simpa using hlen, ?_, hg.trans (hs2.mono (fun a ha => by rw [List.mem_singleton.1 ha]; exact hS A hA)), fun w rows d h hd' => hs4 w rows d (hk w rows d h hd') (hd' A hA)⟩
    · simp only [v5l2, exec_seq, exec_cond, exec_block, exec_skip, exec_reg, seqK_nm, condK_t, blockK_nm, ops_cons, ops_nil, opsW_t, opsF_t, opsK_v, wants_none, fits_none, ev_l, ev_s, ev_c, ab_sl, ab_lo, abS_bx, abL_lp, ofO_some, ofH_some, step_mov, step_lfa, lfaR_s, step_lld, lldR_s, lldB_bx, lldC_s, step_fad, fad_ap, step_iad, step_ld, ldR_s, val_f, step_st, stR_s, step_bin, bin_add, bin_lss, cells_i, setSl, cut, List.getD_cons_zero, List.getD_cons_succ, List.getElem?_cons_zero, List.getElem?_cons_succ, List.set_cons_zero, List.set_cons_succ, List.nil_append, List.cons_append, List.length_cons, List.length_nil, List.drop_succ_cons, List.drop_zero, List.take_succ_cons, List.take_zero, Nat.reduceAdd, Nat.reduceLeDiff, Nat.zero_add, if_true, hd, hw, hia, hld', hs1]
    · rw [List.map_set]; exact hs3
  · intro s hs
    obtain ⟨c, cu, H1, l', rfl, hlen, hm1, hg, hk⟩ := hs
    have hd : decide ((l.length : Int) < (l.length : Int)) = false := by simp
    refine ⟨.ex 4, ⟨[g0, g1, g2, g3, g4, g5, g6, g7, g8, g9, g10, g11, .b false, g13, g14, g15, g16, g17, g18, g19, g20, g21, g22, .bx [m1, m2, m3], g24, g25, g26, g27, .i .i64 (l.length : Nat), .i .i64 (l.length : Nat), cu, g31, g32, g33], H1⟩, ?_, by simp, rfl, .b false, _, cu, H1, rfl, hg, hk⟩
    simp only [v5l2, exec_seq, exec_cond, exec_exit, exec_reg, seqK_nm, seqK_ex, condK_f, ops_cons, ops_nil, opsW_t, opsF_t, opsK_v, wants_none, fits_none, ev_s, ofO_some, step_bin, bin_lss, setSl, List.getD_cons_zero, List.getD_cons_succ, List.set_cons_zero, List.set_cons_succ, List.nil_append, hd]

theorem wr5l3 {l : List (List UInt8)} {H : Heap} {m1 m2 m3 : D} {S : List Nat} (hm : Mm 1 (l.map eS.enc) H m3) (hS : ∀ a ∈ muOf m3, a ∈ S) (hl : l.length ≤ 100000) (hb : ∀ q ∈ l, q.length ≤ reachBytes) {n : Nat} (hn : 100001 ≤ n) (g0 g1 g2 g3 g4 g5 g6 g7 g8 g9 g10 g11 g12 g13 g14 g15 g16 g17 g18 g19 g20 g21 g22 g24 g25 g26 g27 g28 g29 g30 g33 : D) :
    ∃ ex s', iter (exec V (call V n) n v5l3) n ⟨[g0, g1, g2, g3, g4, g5, g6, g7, g8, g9, g10, g11, g12, g13, g14, g15, g16, g17, g18, g19, g20, g21, g22, .bx [m1, m2, m3], g24, g25, g26, g27, g28, g29, g30, .i .i64 0, .i .i64 (l.length : Nat), g33], H⟩ = (ex, s') ∧ (ex = .ex 6 ∧ ∃ c i cu H', s' = ⟨[g0, g1, g2, g3, g4, g5, g6, g7, g8, g9, g10, g11, g12, c, g14, g15, g16, g17, g18, g19, g20, g21, g22, .bx [m1, m2, m3], g24, g25, g26, g27, g28, g29, g30, i, .i .i64 (l.length : Nat), cu], H'⟩ ∧ Gx S H H' ∧ ∀ w rows d, Mm w rows H d → (∀ a ∈ muOf m3, a ∉ muOf d) → Mm w rows H' d) := by
  refine iter_rel (body := exec V (call V n) n v5l3) (n := n) (fun i s => ∃ c cu H' l', s = ⟨[g0, g1, g2, g3, g4, g5, g6, g7, g8, g9, g10, g11, g12, c, g14, g15, g16, g17, g18, g19, g20, g21, g22, .bx [m1, m2, m3], g24, g25, g26, g27, g28, g29, g30, .i .i64 (i : Nat), .i .i64 (l.length : Nat), cu], H'⟩ ∧ l'.length = l.length ∧ Mm 1 (l'.map eS.enc) H' m3 ∧ Gx S H H' ∧ (∀ w rows d, Mm w rows H d → (∀ a ∈ muOf m3, a ∉ muOf d) → Mm w rows H' d) ∧ (∀ q ∈ l', q.length ≤ reachBytes + i))
    (fun ex s' => ex = .ex 6 ∧ ∃ c i cu H', s' = ⟨[g0, g1, g2, g3, g4, g5, g6, g7, g8, g9, g10, g11, g12, c, g14, g15, g16, g17, g18, g19, g20, g21, g22, .bx [m1, m2, m3], g24, g25, g26, g27, g28, g29, g30, i, .i .i64 (l.length : Nat), cu], H'⟩ ∧ Gx S H H' ∧ ∀ w rows d, Mm w rows H d → (∀ a ∈ muOf m3, a ∉ muOf d) → Mm w rows H' d) l.length (by omega) ⟨_, _, H, l, rfl, rfl, hm, .refl _ _, fun _ _ _ h _ => h, fun q hq => by have := hb q hq; omega⟩ ?_ ?_
  · intro i s hi hs
    obtain ⟨c, cu, H1, l', rfl, hlen, hm1, hg, hk, hbb⟩ := hs
    have hd : decide ((i : Int) < (l.length : Int)) = true := by simpa using hi
    have hw := wrap1 (i := i) (by omega)
    have hi' : i < l'.length := by omega
    have hi2 : i < (l'.map eS.enc).length := by simpa using hi'
    obtain ⟨A, hA, hia, hld, hst⟩ := hm1.wr hi2
    rw [List.getElem_map] at hld hst
    generalize hq : l'[i] = q at hld hst
    rw [List.length_map] at hia hld hst
    have hld' : ldAt H1 (.ap A l'.length i 0) 1 = some [.s q] := hld 0 1 _ rfl
    obtain ⟨H2, hs1, hs2, hs3, hs4⟩ := hst 0 (.s (q ++ [120])) (eS.enc (q ++ [120])) rfl rfl
    have hcat := cat_x (l := q) (hbb q (by rw [← hq]; exact List.getElem_mem hi')) (by omega)
    refine ⟨⟨[g0, g1, g2, g3, g4, g5, g6, g7, g8, g9, g10, g11, g12, .b true, g14, g15, g16, g17, g18, g19, g20, g21, g22, .bx [m1, m2, m3], g24, g25, g26, g27, g28, g29, g30, .i .i64 (i + 1 : Nat), .i .i64 (l.length : Nat), .i .i64 i], H2⟩, ?_, .b true, .i .i64 i, H2, l'.set i (q ++ [120]), rfl, by simpa using hlen, ?_, hg.trans (hs2.mono (fun a ha => by rw [List.mem_singleton.1 ha]; exact hS A hA)), fun w rows d h hd' => hs4 w rows d (hk w rows d h hd') (hd' A hA), ?_⟩
    · simp only [v5l3, exec_seq, exec_cond, exec_block, exec_skip, exec_reg, seqK_nm, condK_t, blockK_nm, ops_cons, ops_nil, opsW_t, opsF_t, opsK_v, wants_none, fits_none, ev_l, ev_s, ev_c, ab_sl, ab_lo, abS_bx, abL_lp, ofO_some, ofH_some, step_mov, step_lfa, lfaR_s, step_lld, lldR_s, lldB_bx, lldC_s, step_iad, step_ld, ldR_s, val_f, step_st, stR_s, step_bin, bin_add, bin_lss, cells_s, setSl, cut, List.getD_cons_zero, List.getD_cons_succ, List.getElem?_cons_zero, List.getElem?_cons_succ, List.set_cons_zero, List.set_cons_succ, List.nil_append, List.cons_append, List.length_cons, List.length_nil, List.drop_succ_cons, List.drop_zero, List.take_succ_cons, List.take_nil, Nat.reduceAdd, Nat.le_refl, Nat.zero_add, if_true, hd, hw, hia, hld', hs1, hcat]
    · rw [List.map_set]; exact hs3
    · intro p hp
      rcases List.mem_or_eq_of_mem_set hp with hp | rfl
      · have := hbb p hp; omega
      · have := hbb q (by rw [← hq]; exact List.getElem_mem hi'); simp only [List.length_append, List.length_singleton]; omega
  · intro s hs
    obtain ⟨c, cu, H1, l', rfl, hlen, hm1, hg, hk, hbb⟩ := hs
    have hd : decide ((l.length : Int) < (l.length : Int)) = false := by simp
    refine ⟨.ex 6, ⟨[g0, g1, g2, g3, g4, g5, g6, g7, g8, g9, g10, g11, g12, .b false, g14, g15, g16, g17, g18, g19, g20, g21, g22, .bx [m1, m2, m3], g24, g25, g26, g27, g28, g29, g30, .i .i64 (l.length : Nat), .i .i64 (l.length : Nat), cu], H1⟩, ?_, by simp, rfl, .b false, _, cu, H1, rfl, hg, hk⟩
    simp only [v5l3, exec_seq, exec_cond, exec_exit, exec_reg, seqK_nm, seqK_ex, condK_f, ops_cons, ops_nil, opsW_t, opsF_t, opsK_v, wants_none, fits_none, ev_s, ofO_some, step_bin, bin_lss, setSl, List.getD_cons_zero, List.getD_cons_succ, List.set_cons_zero, List.set_cons_succ, List.nil_append, hd]

def bigT : List D → Bool
  | [_, _, rs] => decide (20 < ((rowsD rs).length : Int))
  | _ => false

theorem rows5l0 {ts : D} {trows : List (List D)} (hs : Sl 3 trows ts) (hf : ∀ q ∈ trows, TableRow q) (lt : trows.length ≤ 40000) {n : Nat} (hn : 40001 ≤ n) (h8 : call V n 8 [] [] = .ret (.b true) []) (g0 g1 g2 g3 g4 g5 g6 g7 g10 g11 g12 g13 g14 g15 g16 g21 g22 g23 g24 g25 g26 g27 g28 g29 g30 g31 g32 g33 g8 g9 g20 : D) :
    ∃ ex s', iter (exec V (call V n) n v5l0) n ⟨[g0, g1, g2, g3, g4, g5, g6, g7, g8, g9, g10, g11, g12, g13, g14, g15, g16, .i .i64 0, .i .i64 (trows.length : Nat), ts, g20, g21, g22, g23, g24, g25, g26, g27, g28, g29, g30, g31, g32, g33], []⟩ = (ex, s') ∧ ((trows.any bigT = true ∧ ex = .rt ∧ resAll s' [.s 6] = some [.b true] ∧ s'.hp = []) ∨ (trows.any bigT = false ∧ ex = .ex 0 ∧ ∃ i c c9 b, s' = ⟨[g0, g1, g2, g3, g4, g5, g6, g7, c, c9, g10, g11, g12, g13, g14, g15, g16, i, .i .i64 (trows.length : Nat), ts, b, g21, g22, g23, g24, g25, g26, g27, g28, g29, g30, g31, g32, g33], []⟩)) := by
  have hl' := fun H => hs.len (H := H)
  have u1 := hs.under
  obtain ⟨ex, s', e1, e2⟩ := any_loop (body := exec V (call V n) n v5l0) (n := n) (st := ⟨[g0, g1, g2, g3, g4, g5, g6, g7, g8, g9, g10, g11, g12, g13, g14, g15, g16, .i .i64 0, .i .i64 (trows.length : Nat), ts, g20, g21, g22, g23, g24, g25, g26, g27, g28, g29, g30, g31, g32, g33], []⟩) (pAt trows bigT) (fun i s => ∃ c c9 b, s = ⟨[g0, g1, g2, g3, g4, g5, g6, g7, c, c9, g10, g11, g12, g13, g14, g15, g16, .i .i64 (i : Nat), .i .i64 (trows.length : Nat), ts, b, g21, g22, g23, g24, g25, g26, g27, g28, g29, g30, g31, g32, g33], []⟩)
    (fun p ex s' => (p = true ∧ ex = .rt ∧ resAll s' [.s 6] = some [.b true] ∧ s'.hp = []) ∨ (p = false ∧ ex = .ex 0 ∧ ∃ i c c9 b, s' = ⟨[g0, g1, g2, g3, g4, g5, g6, g7, c, c9, g10, g11, g12, g13, g14, g15, g16, i, .i .i64 (trows.length : Nat), ts, b, g21, g22, g23, g24, g25, g26, g27, g28, g29, g30, g31, g32, g33], []⟩)) trows.length (by omega) ⟨_, _, _, rfl⟩
    (fun i s hi hp hs' => by
      obtain ⟨c, c9, b, rfl⟩ := hs'
      have hd : decide ((i : Int) < (trows.length : Int)) = true := by simpa using hi
      have hw := wrap1 (i := i) (by omega)
      have k4i := fun H => hs.elem (H := H) (k := .i64) hi
      obtain ⟨nm, two, rs, rows, hrow, htwo, hsr, hrr⟩ := hf _ (List.getElem_mem hi)
      rw [pAt_i _ hi, hrow] at hp
      have hp' : decide (20 < (rows.length : Int)) = false := by simpa only [bigT, rowsD_sl hsr] using hp
      have hlr := fun H => hsr.len (H := H)
      simp only [hrow] at k4i
      refine ⟨⟨[g0, g1, g2, g3, g4, g5, g6, g7, .b true, .b false, g10, g11, g12, g13, g14, g15, g16, .i .i64 (i + 1 : Nat), .i .i64 (trows.length : Nat), ts, .bx [.s nm, two, rs], g21, g22, g23, g24, g25, g26, g27, g28, g29, g30, g31, g32, g33], []⟩, ?_, .b true, .b false, .bx [.s nm, two, rs], rfl⟩
      simp only [v5l0, exec_seq, exec_cond, exec_block, exec_skip, exec_reg, seqK_nm, condK_t, condK_f, blockK_nm, ops_cons, ops_nil, opsW_t, opsF_t, opsK_v, wants_none, fits_none, ev_l, ev_s, ev_c, ab_sl, ab_lo, abS_bx, abL_lp, ofO_some, step_mov, step_lal, step_lfa, lfaR_s, step_lld, lldR_s, lldB_bx, lldC_s, step_lst, lstR_s, lstB_bx, lstC_s, step_iad, step_ld, ldR_s, ld_ip, val_t, val_f, step_bin, bin_add, bin_lss, bin_gtr, step_len, cells_ag, setSl, cut, put, List.getD_cons_zero, List.getD_cons_succ, List.getElem?_cons_zero, List.getElem?_cons_succ, List.set_cons_zero, List.set_cons_succ, List.nil_append, List.cons_append, List.append_nil, List.length_cons, List.length_nil, List.drop_succ_cons, List.drop_zero, List.drop_nil, List.take_succ_cons, List.take_zero, List.take_nil, Nat.reduceAdd, Nat.le_refl, Nat.zero_add, if_true, hd, k4i, hw, hlr, hp'])
    (fun i s hi hp hs' => by
      obtain ⟨c, c9, b, rfl⟩ := hs'
      have hd : decide ((i : Int) < (trows.length : Int)) = true := by simpa using hi
      have k4i := fun H => hs.elem (H := H) (k := .i64) hi
      obtain ⟨nm, two, rs, rows, hrow, htwo, hsr, hrr⟩ := hf _ (List.getElem_mem hi)
      rw [pAt_i _ hi, hrow] at hp
      have hp' : decide (20 < (rows.length : Int)) = true := by simpa only [bigT, rowsD_sl hsr] using hp
      have hlr := fun H => hsr.len (H := H)
      simp only [hrow] at k4i
      refine ⟨.rt, ⟨[g0, g1, g2, g3, g4, g5, .b true, g7, .b true, .b true, g10, g11, g12, g13, g14, g15, g16, .i .i64 (i : Nat), .i .i64 (trows.length : Nat), ts, .bx [.s nm, two, rs], g21, g22, g23, g24, g25, g26, g27, g28, g29, g30, g31, g32, g33], []⟩, ?_, by simp, .inl ⟨rfl, rfl, rfl, rfl⟩⟩
      simp only [v5l0, exec_seq, exec_cond, exec_block, exec_skip, exec_ret, exec_reg, seqK_nm, seqK_rt, condK_t, blockK_rt, ops_cons, ops_nil, opsW_t, opsF_t, opsK_v, wants_none, fits_none, step_call, toR_ret, ev_l, ev_s, ev_c, ab_sl, ab_lo, abS_bx, abL_lp, ofO_some, step_mov, step_lal, step_lfa, lfaR_s, step_lld, lldR_s, lldB_bx, lldC_s, step_lst, lstR_s, lstB_bx, lstC_s, step_iad, step_ld, ldR_s, ld_ip, val_t, val_f, step_bin, bin_lss, bin_gtr, step_len, cells_ag, setSl, cut, put, List.getD_cons_zero, List.getD_cons_succ, List.getElem?_cons_zero, List.getElem?_cons_succ, List.set_cons_zero, List.set_cons_succ, List.nil_append, List.cons_append, List.append_nil, List.length_cons, List.length_nil, List.drop_succ_cons, List.drop_zero, List.drop_nil, List.take_succ_cons, List.take_zero, List.take_nil, List.map_nil, Nat.reduceAdd, Nat.le_refl, Nat.zero_add, if_true, hd, k4i, hlr, hp', h8])
    (fun s hs' => by
      obtain ⟨c, c9, b, rfl⟩ := hs'
      have hd : decide ((trows.length : Int) < (trows.length : Int)) = false := by simp
      refine ⟨.ex 0, ⟨[g0, g1, g2, g3, g4, g5, g6, g7, .b false, c9, g10, g11, g12, g13, g14, g15, g16, .i .i64 (trows.length : Nat), .i .i64 (trows.length : Nat), ts, b, g21, g22, g23, g24, g25, g26, g27, g28, g29, g30, g31, g32, g33], []⟩, ?_, by simp, .inr ⟨rfl, rfl, _, _, _, _, rfl⟩⟩
      simp only [v5l0, exec_seq, exec_cond, exec_exit, exec_reg, seqK_nm, seqK_ex, condK_f, ops_cons, ops_nil, opsW_t, opsF_t, opsK_v, wants_none, fits_none, ev_s, ofO_some, step_bin, bin_lss, setSl, List.getD_cons_zero, List.getD_cons_succ, List.set_cons_zero, List.set_cons_succ, List.nil_append, hd])
  rw [pAt_any] at e2
  exact ⟨ex, s', e1, e2⟩
end Go.Proofs.Ytkogdbgccjmaoaa.Dv
