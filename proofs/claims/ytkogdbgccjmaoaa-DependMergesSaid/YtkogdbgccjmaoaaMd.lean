/-
  The law's conversions over the machine: what was examined is the same.
-/
import Derived.Test.YtkogdbgccjmaoaaMc
namespace Go.Proofs.Ytkogdbgccjmaoaa.Dv
open Go.Dm

theorem take_push {α : Type} {l : List α} {i : Nat} (hi : i < l.length) : l.take i ++ [l[i]] = l.take (i + 1) := by
  rw [List.take_add_one, List.getElem?_eq_getElem hi]; rfl

theorem convl0 {l : List (List UInt8 × Int)} {x : D} (hx : Sl 2 (l.map eP.enc) x) (hl : l.length ≤ 40000) {n : Nat} (hn : 40001 ≤ n) (H0 : Heap) (Y Z g0 g1 g2 g3 g4 g9 g10 g11 g12 g13 : D) :
    ∃ ex s', iter (exec V (call V n) n v9l0) n ⟨[g0, g1, g2, g3, g4, .i .i64 0, .i .i64 (l.length : Nat), x, .bx [.nil, Y, Z], g9, g10, g11, g12, g13], H0⟩ = (ex, s') ∧ (ex = .ex 0 ∧ ∃ c e, s' = ⟨[g0, g1, c, g3, g4, .i .i64 (l.length : Nat), .i .i64 (l.length : Nat), x, .bx [bD H0 .nil (l.map eP.enc), Y, Z], e, g10, g11, g12, g13], bH H0 2 (l.map eP.enc)⟩) := by
  have u1 := hx.under
  have k4 : ∀ (i : Nat) (h : i < l.length) H, iadD H x (.i .i64 i) 2 = some (.ip [.s l[i].1, .i .i64 l[i].2]) := fun i h H => by
    have := hx.elem (H := H) (k := .i64) (i := i) (by simpa using h)
    rw [List.getElem_map] at this
    exact this
  refine iter_rel (body := exec V (call V n) n v9l0) (n := n) (fun i s => ∃ c e, s = ⟨[g0, g1, c, g3, g4, .i .i64 (i : Nat), .i .i64 (l.length : Nat), x, .bx [bD H0 .nil ((l.take i).map eP.enc), Y, Z], e, g10, g11, g12, g13], bH H0 2 ((l.take i).map eP.enc)⟩) (fun ex s' => ex = .ex 0 ∧ ∃ c e, s' = ⟨[g0, g1, c, g3, g4, .i .i64 (l.length : Nat), .i .i64 (l.length : Nat), x, .bx [bD H0 .nil (l.map eP.enc), Y, Z], e, g10, g11, g12, g13], bH H0 2 (l.map eP.enc)⟩) l.length (by omega) ⟨_, _, rfl⟩ ?_ ?_
  · intro i s hi hs
    obtain ⟨c, e, rfl⟩ := hs
    have hd : decide ((i : Int) < (l.length : Int)) = true := by simpa using hi
    have hw := wrap1 (i := i) (by omega)
    have ha2 := app_b (H0 := H0) (x0 := .nil) (w := 2) (bytes := 24) (rows := (l.take i).map eP.enc) (r := [.s l[i].1, .i .i64 l[i].2]) rfl (eP_ok.flat l[i]) (room_ok (by simp; omega) (by omega))
    have hnew : (l.take i).map eP.enc ++ [[.s l[i].1, .i .i64 l[i].2]] = (l.take (i + 1)).map eP.enc := by rw [← take_push hi, List.map_append]; rfl
    rw [hnew] at ha2
    have hcell := bD_cells (H0 := H0) (x0 := .nil) (rows := (l.take (i + 1)).map eP.enc) rfl
    have hbs : bsvD 2 1 [(.s []), (.i .i64 0)] [(0, .ag [.s l[i].1, .i .i64 l[i].2])] = some (.sv 2 [[.s l[i].1, .i .i64 l[i].2]]) := bsv_one rfl
    refine ⟨⟨[g0, g1, (.b true), g3, g4, .i .i64 (i + 1 : Nat), .i .i64 (l.length : Nat), x, .bx [bD H0 .nil ((l.take (i + 1)).map eP.enc), Y, Z], (.bx [.s l[i].1, .i .i64 l[i].2]), g10, g11, g12, g13], bH H0 2 ((l.take (i + 1)).map eP.enc)⟩, ?_, .b true, .bx [.s l[i].1, .i .i64 l[i].2], rfl⟩
    simp only [v9l0, exec_seq, exec_cond, exec_block, exec_skip, exec_reg, seqK_nm, condK_t, blockK_nm, ops_cons, ops_nil, opsW_t, opsF_t, opsK_v, wants_none, fits_none, ev_l, ev_s, ev_c, ab_sl, ab_lo, abS_bx, abL_lp, ofO_some, ofP_some, step_mov, step_lal, step_lfa, lfaR_s, step_lld, lldR_s, lldB_bx, lldC_s, step_lst, lstR_s, lstB_bx, lstC_s, step_iad, step_ld, ldR_s, ld_ip, val_t, val_f, step_bin, bin_add, bin_lss, step_bsv, step_app, cells_ag, setSl, cut, put, List.getD_cons_zero, List.getD_cons_succ, List.getElem?_cons_zero, List.getElem?_cons_succ, List.set_cons_zero, List.set_cons_succ, List.nil_append, List.cons_append, List.append_nil, List.length_cons, List.length_nil, List.drop_succ_cons, List.drop_zero, List.drop_nil, List.take_succ_cons, List.take_zero, List.take_nil, List.map_cons, List.map_nil, Nat.reduceAdd, Nat.reduceLeDiff, Nat.le_refl, Nat.zero_add, if_true, Nat.add_zero, hd, k4 i hi, hw, ha2, hcell, hbs]
  · intro s hs
    obtain ⟨c, e, rfl⟩ := hs
    have hd : decide ((l.length : Int) < (l.length : Int)) = false := by simp
    refine ⟨.ex 0, ⟨[g0, g1, (.b false), g3, g4, .i .i64 (l.length : Nat), .i .i64 (l.length : Nat), x, .bx [bD H0 .nil ((l.take l.length).map eP.enc), Y, Z], e, g10, g11, g12, g13], bH H0 2 ((l.take l.length).map eP.enc)⟩, ?_, by simp, rfl, .b false, e, by rw [List.take_length]⟩
    simp only [v9l0, exec_seq, exec_cond, exec_exit, exec_reg, seqK_nm, seqK_ex, condK_f, ops_cons, ops_nil, opsW_t, opsF_t, opsK_v, wants_none, fits_none, ev_s, ofO_some, step_bin, bin_lss, setSl, List.getD_cons_zero, List.getD_cons_succ, List.set_cons_zero, List.set_cons_succ, List.nil_append, hd]

theorem convl1 {l : List (List UInt8 × Int × Int)} {x : D} (hx : Sl 3 (l.map eR.enc) x) (hl : l.length ≤ 40000) {n : Nat} (hn : 40001 ≤ n) (H0 : Heap) (X Z g0 g1 g2 g3 g4 g5 g6 g7 g9 g13 : D) :
    ∃ ex s', iter (exec V (call V n) n v9l1) n ⟨[g0, g1, g2, g3, g4, g5, g6, g7, .bx [X, .nil, Z], g9, .i .i64 0, .i .i64 (l.length : Nat), x, g13], H0⟩ = (ex, s') ∧ (ex = .ex 2 ∧ ∃ c e, s' = ⟨[g0, g1, g2, c, g4, g5, g6, g7, .bx [X, bD H0 .nil (l.map eR.enc), Z], g9, .i .i64 (l.length : Nat), .i .i64 (l.length : Nat), x, e], bH H0 3 (l.map eR.enc)⟩) := by
  have u1 := hx.under
  have k4 : ∀ (i : Nat) (h : i < l.length) H, iadD H x (.i .i64 i) 3 = some (.ip [.s l[i].1, .i .i64 l[i].2.1, .i .i64 l[i].2.2]) := fun i h H => by
    have := hx.elem (H := H) (k := .i64) (i := i) (by simpa using h)
    rw [List.getElem_map] at this
    exact this
  refine iter_rel (body := exec V (call V n) n v9l1) (n := n) (fun i s => ∃ c e, s = ⟨[g0, g1, g2, c, g4, g5, g6, g7, .bx [X, bD H0 .nil ((l.take i).map eR.enc), Z], g9, .i .i64 (i : Nat), .i .i64 (l.length : Nat), x, e], bH H0 3 ((l.take i).map eR.enc)⟩) (fun ex s' => ex = .ex 2 ∧ ∃ c e, s' = ⟨[g0, g1, g2, c, g4, g5, g6, g7, .bx [X, bD H0 .nil (l.map eR.enc), Z], g9, .i .i64 (l.length : Nat), .i .i64 (l.length : Nat), x, e], bH H0 3 (l.map eR.enc)⟩) l.length (by omega) ⟨_, _, rfl⟩ ?_ ?_
  · intro i s hi hs
    obtain ⟨c, e, rfl⟩ := hs
    have hd : decide ((i : Int) < (l.length : Int)) = true := by simpa using hi
    have hw := wrap1 (i := i) (by omega)
    have ha2 := app_b (H0 := H0) (x0 := .nil) (w := 3) (bytes := 32) (rows := (l.take i).map eR.enc) (r := [.s l[i].1, .i .i64 l[i].2.1, .i .i64 l[i].2.2]) rfl (eR_ok.flat l[i]) (room_ok (by simp; omega) (by omega))
    have hnew : (l.take i).map eR.enc ++ [[.s l[i].1, .i .i64 l[i].2.1, .i .i64 l[i].2.2]] = (l.take (i + 1)).map eR.enc := by rw [← take_push hi, List.map_append]; rfl
    rw [hnew] at ha2
    have hcell := bD_cells (H0 := H0) (x0 := .nil) (rows := (l.take (i + 1)).map eR.enc) rfl
    have hbs : bsvD 3 1 [(.s []), (.i .i64 0), (.i .i64 0)] [(0, .ag [.s l[i].1, .i .i64 l[i].2.1, .i .i64 l[i].2.2])] = some (.sv 3 [[.s l[i].1, .i .i64 l[i].2.1, .i .i64 l[i].2.2]]) := bsv_one rfl
    refine ⟨⟨[g0, g1, g2, (.b true), g4, g5, g6, g7, .bx [X, bD H0 .nil ((l.take (i + 1)).map eR.enc), Z], g9, .i .i64 (i + 1 : Nat), .i .i64 (l.length : Nat), x, (.bx [.s l[i].1, .i .i64 l[i].2.1, .i .i64 l[i].2.2])], bH H0 3 ((l.take (i + 1)).map eR.enc)⟩, ?_, .b true, .bx [.s l[i].1, .i .i64 l[i].2.1, .i .i64 l[i].2.2], rfl⟩
    simp only [v9l1, exec_seq, exec_cond, exec_block, exec_skip, exec_reg, seqK_nm, condK_t, blockK_nm, ops_cons, ops_nil, opsW_t, opsF_t, opsK_v, wants_none, fits_none, ev_l, ev_s, ev_c, ab_sl, ab_lo, abS_bx, abL_lp, ofO_some, ofP_some, step_mov, step_lal, step_lfa, lfaR_s, step_lld, lldR_s, lldB_bx, lldC_s, step_lst, lstR_s, lstB_bx, lstC_s, step_iad, step_ld, ldR_s, ld_ip, val_t, val_f, step_bin, bin_add, bin_lss, step_bsv, step_app, cells_ag, setSl, cut, put, List.getD_cons_zero, List.getD_cons_succ, List.getElem?_cons_zero, List.getElem?_cons_succ, List.set_cons_zero, List.set_cons_succ, List.nil_append, List.cons_append, List.append_nil, List.length_cons, List.length_nil, List.drop_succ_cons, List.drop_zero, List.drop_nil, List.take_succ_cons, List.take_zero, List.take_nil, List.map_cons, List.map_nil, Nat.reduceAdd, Nat.reduceLeDiff, Nat.le_refl, Nat.zero_add, if_true, hd, k4 i hi, hw, ha2, hcell, hbs]
  · intro s hs
    obtain ⟨c, e, rfl⟩ := hs
    have hd : decide ((l.length : Int) < (l.length : Int)) = false := by simp
    refine ⟨.ex 2, ⟨[g0, g1, g2, (.b false), g4, g5, g6, g7, .bx [X, bD H0 .nil ((l.take l.length).map eR.enc), Z], g9, .i .i64 (l.length : Nat), .i .i64 (l.length : Nat), x, e], bH H0 3 ((l.take l.length).map eR.enc)⟩, ?_, by simp, rfl, .b false, e, by rw [List.take_length]⟩
    simp only [v9l1, exec_seq, exec_cond, exec_exit, exec_reg, seqK_nm, seqK_ex, condK_f, ops_cons, ops_nil, opsW_t, opsF_t, opsK_v, wants_none, fits_none, ev_s, ofO_some, step_bin, bin_lss, setSl, List.getD_cons_zero, List.getD_cons_succ, List.set_cons_zero, List.set_cons_succ, List.nil_append, hd]

theorem conv9 {r : Rd} {d : D} (h : IsRd r d) (hl : r.le 40000) : ∃ q, PN V 40003 9 [d] q ∧ AwRd r q := by
  obtain ⟨x, y, zc, rfl, h1, h2, h3⟩ := h
  obtain ⟨l1, l2, l3⟩ := hl
  have hl1 := fun H => h1.len (H := H)
  have hl2 := fun H => h2.len (H := H)
  simp only [List.length_map] at hl1 hl2
  let T := r.t.map eS.enc
  let F := r.f.map eR.enc
  let P := r.p.map eP.enc
  let H1 := bH [] 1 T
  let H2 := bH H1 2 P
  let H3 := bH H2 3 F
  have ha1 : appD [] .z zc 1 16 true = some (bD [] .z T, H1) := app_all rfl h3.cont (by
    intro r hr
    obtain ⟨a, _, rfl⟩ := List.mem_map.1 hr
    exact eS_ok.flat a) (room_ok (by show (r.t.map eS.enc).length ≤ _; rw [List.length_map]; omega) (by omega))
  have hcell : (bD [] .z T).cellsN 1 = some [bD [] .z T] := bD_cells rfl
  have hM : MzRd r H3 (.ag [bD H1 .nil P, bD H2 .nil F, bD [] .z T]) := by
    have g1 : Gr H1 H2 := (bH_gl H1 2 P).gr
    have g2 : Gr H2 H3 := (bH_gl H2 3 F).gr
    have m1 : Mz 1 T H1 (bD [] .z T) := .inl (bD_ms rfl).ms
    have m2 : Mz 2 P H2 (bD H1 .nil P) := .inl (bD_ms rfl).ms
    refine ⟨_, _, _, rfl, m2.gr g2, .inl (bD_ms rfl).ms, m1.gr (g1.trans g2), nod3.2 ⟨fun a ha hb => ?_, fun a ha hb => ?_, fun a ha hb => ?_⟩⟩
    · have := m2.lt a ha
      have := bD_lt (x0 := .nil) rfl _ a hb
      omega
    · have := bD_lt (x0 := .nil) rfl _ a ha
      have := m1.lt a hb
      omega
    · have := bD_lt (x0 := .nil) rfl _ a ha
      have := (m1.gr g1).lt a hb
      omega
  have key : ∀ n, 40001 ≤ n → enter V (call V n) n v9 [.ag [x, y, zc]] [] = .ret (.ag [bD H1 .nil P, bD H2 .nil F, bD [] .z T]) H3 := fun n hn => by
    have hent : enter V (call V n) n v9 [.ag [x, y, zc]] [] = _ := enter_eq (V := V) (cl := call V n) (n := n) v9 [.ag [x, y, zc]] [] rfl
    rw [hent]
    obtain ⟨ex, s', e1, rfl, c, e, rfl⟩ := convl0 h1 l1 hn H1 .nil (bD [] .z T) (.ag [x, y, zc]) (.bx [.nil, .nil, .nil]) .u .u (.bx [x, y, zc]) .u .u .u .u .u
    simp only [v9, exec_seq, exec_block, exec_reg, seqK_nm, blockK_ex, ops_cons, ops_nil, opsW_t, opsF_t, opsK_v, wants_none, fits_none, ev_l, ev_s, ev_c, ab_sl, ab_lo, abS_bx, abL_lp, ofO_some, ofP_some, step_mov, step_lal, step_lbx, step_lfa, lfaR_s, step_lld, lldR_s, lldB_bx, lldC_s, step_lst, lstR_s, lstB_bx, lstC_s, val_f, step_agc, fill_nil, fill_cons, fillK_s, fillP_s, step_bsl, step_len, step_app, cells_ag, setSl, cut, put, List.getD_cons_zero, List.getD_cons_succ, List.getElem?_cons_zero, List.getElem?_cons_succ, List.set_cons_zero, List.set_cons_succ, List.nil_append, List.cons_append, List.append_nil, List.length_cons, List.length_nil, List.drop_succ_cons, List.drop_zero, List.drop_nil, List.take_succ_cons, List.take_zero, List.take_nil, List.map_cons, List.map_nil, List.replicate_succ, List.replicate_zero, Nat.reduceAdd, Nat.reduceSub, Nat.reduceLeDiff, Nat.le_refl, Nat.zero_add, if_true, Nat.add_zero, Option.map_some, bsl0, ha1, hcell, hl1, exec_loop, e1]
    clear e1
    obtain ⟨ex, s', e1, rfl, c', e', rfl⟩ := convl1 h2 l2 hn H2 (bD H1 .nil P) (bD [] .z T) (.ag [x, y, zc]) (.bx [.nil, .nil, .nil]) c .u (.bx [x, y, zc]) (.i .i64 (r.p.length : Nat)) (.i .i64 (r.p.length : Nat)) x e .u
    simp only [exec_seq, exec_block, exec_ret, exec_reg, seqK_nm, blockK_ex, ops_cons, ops_nil, opsW_t, opsF_t, opsK_v, wants_none, fits_none, ev_l, ev_c, ab_sl, abS_bx, ofO_some, step_mov, step_lld, lldR_s, lldB_bx, lldC_s, step_lst, lstR_s, lstB_bx, lstC_s, val_t, cells_ag, setSl, cut, put, List.getD_cons_zero, List.getElem?_cons_zero, List.getElem?_cons_succ, List.set_cons_zero, List.set_cons_succ, List.nil_append, List.cons_append, List.append_nil, List.length_cons, List.length_nil, List.drop_succ_cons, List.drop_zero, List.drop_nil, List.take_succ_cons, List.take_zero, List.take_nil, Nat.reduceAdd, Nat.le_refl, Nat.zero_add, if_true, show bH H1 2 (r.p.map eP.enc) = H2 from rfl, hl2, exec_loop, show bD H1 .nil (r.p.map eP.enc) = bD H1 .nil P from rfl, e1]
    exact entK_rt (ds := [.ag [bD H1 .nil P, bD H2 .nil F, bD [] .z T]]) rfl rfl
  obtain ⟨g1, r', g2, g3⟩ := hM.settle
  refine ⟨r', ?_, g3⟩
  have hr := key 40002 (by omega)
  simp only [PN, pcall, show V.fn 9 = some v9 from rfl, pureRun, hr, g1, if_true, g2]

theorem backl0 {l : List (List UInt8 × Int)} {x : D} (hx : Sl 2 (l.map eP.enc) x) (hl : l.length ≤ 40000) {n : Nat} (hn : 40001 ≤ n) (H0 : Heap) (Y Z g0 g1 g2 g3 g5 g9 g10 g11 g12 g13 : D) :
    ∃ ex s', iter (exec V (call V n) n v25l0) n ⟨[g0, g1, g2, g3, .bx [.nil, Y, Z], g5, .i .i64 0, .i .i64 (l.length : Nat), x, g9, g10, g11, g12, g13], H0⟩ = (ex, s') ∧ (ex = .ex 0 ∧ ∃ c e, s' = ⟨[g0, g1, c, g3, .bx [bD H0 .nil (l.map eP.enc), Y, Z], g5, .i .i64 (l.length : Nat), .i .i64 (l.length : Nat), x, e, g10, g11, g12, g13], bH H0 2 (l.map eP.enc)⟩) := by
  have u1 := hx.under
  have k4 : ∀ (i : Nat) (h : i < l.length) H, iadD H x (.i .i64 i) 2 = some (.ip [.s l[i].1, .i .i64 l[i].2]) := fun i h H => by
    have := hx.elem (H := H) (k := .i64) (i := i) (by simpa using h)
    rw [List.getElem_map] at this
    exact this
  refine iter_rel (body := exec V (call V n) n v25l0) (n := n) (fun i s => ∃ c e, s = ⟨[g0, g1, c, g3, .bx [bD H0 .nil ((l.take i).map eP.enc), Y, Z], g5, .i .i64 (i : Nat), .i .i64 (l.length : Nat), x, e, g10, g11, g12, g13], bH H0 2 ((l.take i).map eP.enc)⟩) (fun ex s' => ex = .ex 0 ∧ ∃ c e, s' = ⟨[g0, g1, c, g3, .bx [bD H0 .nil (l.map eP.enc), Y, Z], g5, .i .i64 (l.length : Nat), .i .i64 (l.length : Nat), x, e, g10, g11, g12, g13], bH H0 2 (l.map eP.enc)⟩) l.length (by omega) ⟨_, _, rfl⟩ ?_ ?_
  · intro i s hi hs
    obtain ⟨c, e, rfl⟩ := hs
    have hd : decide ((i : Int) < (l.length : Int)) = true := by simpa using hi
    have hw := wrap1 (i := i) (by omega)
    have ha2 := app_b (H0 := H0) (x0 := .nil) (w := 2) (bytes := 24) (rows := (l.take i).map eP.enc) (r := [.s l[i].1, .i .i64 l[i].2]) rfl (eP_ok.flat l[i]) (room_ok (by simp; omega) (by omega))
    have hnew : (l.take i).map eP.enc ++ [[.s l[i].1, .i .i64 l[i].2]] = (l.take (i + 1)).map eP.enc := by rw [← take_push hi, List.map_append]; rfl
    rw [hnew] at ha2
    have hcell := bD_cells (H0 := H0) (x0 := .nil) (rows := (l.take (i + 1)).map eP.enc) rfl
    have hbs : bsvD 2 1 [(.s []), (.i .i64 0)] [(0, .ag [.s l[i].1, .i .i64 l[i].2])] = some (.sv 2 [[.s l[i].1, .i .i64 l[i].2]]) := bsv_one rfl
    refine ⟨⟨[g0, g1, (.b true), g3, .bx [bD H0 .nil ((l.take (i + 1)).map eP.enc), Y, Z], g5, .i .i64 (i + 1 : Nat), .i .i64 (l.length : Nat), x, (.bx [.s l[i].1, .i .i64 l[i].2]), g10, g11, g12, g13], bH H0 2 ((l.take (i + 1)).map eP.enc)⟩, ?_, .b true, .bx [.s l[i].1, .i .i64 l[i].2], rfl⟩
    simp only [v25l0, exec_seq, exec_cond, exec_block, exec_skip, exec_reg, seqK_nm, condK_t, blockK_nm, ops_cons, ops_nil, opsW_t, opsF_t, opsK_v, wants_none, fits_none, ev_l, ev_s, ev_c, ab_sl, ab_lo, abS_bx, abL_lp, ofO_some, ofP_some, step_mov, step_lal, step_lfa, lfaR_s, step_lld, lldR_s, lldB_bx, lldC_s, step_lst, lstR_s, lstB_bx, lstC_s, step_iad, step_ld, ldR_s, ld_ip, val_t, val_f, step_bin, bin_add, bin_lss, step_bsv, step_app, cells_ag, setSl, cut, put, List.getD_cons_zero, List.getD_cons_succ, List.getElem?_cons_zero, List.getElem?_cons_succ, List.set_cons_zero, List.set_cons_succ, List.nil_append, List.cons_append, List.append_nil, List.length_cons, List.length_nil, List.drop_succ_cons, List.drop_zero, List.drop_nil, List.take_succ_cons, List.take_zero, List.take_nil, List.map_cons, List.map_nil, Nat.reduceAdd, Nat.reduceLeDiff, Nat.le_refl, Nat.zero_add, if_true, Nat.add_zero, hd, k4 i hi, hw, ha2, hcell, hbs]
  · intro s hs
    obtain ⟨c, e, rfl⟩ := hs
    have hd : decide ((l.length : Int) < (l.length : Int)) = false := by simp
    refine ⟨.ex 0, ⟨[g0, g1, (.b false), g3, .bx [bD H0 .nil ((l.take l.length).map eP.enc), Y, Z], g5, .i .i64 (l.length : Nat), .i .i64 (l.length : Nat), x, e, g10, g11, g12, g13], bH H0 2 ((l.take l.length).map eP.enc)⟩, ?_, by simp, rfl, .b false, e, by rw [List.take_length]⟩
    simp only [v25l0, exec_seq, exec_cond, exec_exit, exec_reg, seqK_nm, seqK_ex, condK_f, ops_cons, ops_nil, opsW_t, opsF_t, opsK_v, wants_none, fits_none, ev_s, ofO_some, step_bin, bin_lss, setSl, List.getD_cons_zero, List.getD_cons_succ, List.set_cons_zero, List.set_cons_succ, List.nil_append, hd]

theorem backl1 {l : List (List UInt8 × Int × Int)} {x : D} (hx : Sl 3 (l.map eR.enc) x) (hl : l.length ≤ 40000) {n : Nat} (hn : 40001 ≤ n) (H0 : Heap) (X Z g0 g1 g2 g3 g5 g6 g7 g8 g9 g13 : D) :
    ∃ ex s', iter (exec V (call V n) n v25l1) n ⟨[g0, g1, g2, g3, .bx [X, .nil, Z], g5, g6, g7, g8, g9, .i .i64 0, .i .i64 (l.length : Nat), x, g13], H0⟩ = (ex, s') ∧ (ex = .ex 2 ∧ ∃ c e, s' = ⟨[g0, g1, g2, c, .bx [X, bD H0 .nil (l.map eR.enc), Z], g5, g6, g7, g8, g9, .i .i64 (l.length : Nat), .i .i64 (l.length : Nat), x, e], bH H0 3 (l.map eR.enc)⟩) := by
  have u1 := hx.under
  have k4 : ∀ (i : Nat) (h : i < l.length) H, iadD H x (.i .i64 i) 3 = some (.ip [.s l[i].1, .i .i64 l[i].2.1, .i .i64 l[i].2.2]) := fun i h H => by
    have := hx.elem (H := H) (k := .i64) (i := i) (by simpa using h)
    rw [List.getElem_map] at this
    exact this
  refine iter_rel (body := exec V (call V n) n v25l1) (n := n) (fun i s => ∃ c e, s = ⟨[g0, g1, g2, c, .bx [X, bD H0 .nil ((l.take i).map eR.enc), Z], g5, g6, g7, g8, g9, .i .i64 (i : Nat), .i .i64 (l.length : Nat), x, e], bH H0 3 ((l.take i).map eR.enc)⟩) (fun ex s' => ex = .ex 2 ∧ ∃ c e, s' = ⟨[g0, g1, g2, c, .bx [X, bD H0 .nil (l.map eR.enc), Z], g5, g6, g7, g8, g9, .i .i64 (l.length : Nat), .i .i64 (l.length : Nat), x, e], bH H0 3 (l.map eR.enc)⟩) l.length (by omega) ⟨_, _, rfl⟩ ?_ ?_
  · intro i s hi hs
    obtain ⟨c, e, rfl⟩ := hs
    have hd : decide ((i : Int) < (l.length : Int)) = true := by simpa using hi
    have hw := wrap1 (i := i) (by omega)
    have ha2 := app_b (H0 := H0) (x0 := .nil) (w := 3) (bytes := 32) (rows := (l.take i).map eR.enc) (r := [.s l[i].1, .i .i64 l[i].2.1, .i .i64 l[i].2.2]) rfl (eR_ok.flat l[i]) (room_ok (by simp; omega) (by omega))
    have hnew : (l.take i).map eR.enc ++ [[.s l[i].1, .i .i64 l[i].2.1, .i .i64 l[i].2.2]] = (l.take (i + 1)).map eR.enc := by rw [← take_push hi, List.map_append]; rfl
    rw [hnew] at ha2
    have hcell := bD_cells (H0 := H0) (x0 := .nil) (rows := (l.take (i + 1)).map eR.enc) rfl
    have hbs : bsvD 3 1 [(.s []), (.i .i64 0), (.i .i64 0)] [(0, .ag [.s l[i].1, .i .i64 l[i].2.1, .i .i64 l[i].2.2])] = some (.sv 3 [[.s l[i].1, .i .i64 l[i].2.1, .i .i64 l[i].2.2]]) := bsv_one rfl
    refine ⟨⟨[g0, g1, g2, (.b true), .bx [X, bD H0 .nil ((l.take (i + 1)).map eR.enc), Z], g5, g6, g7, g8, g9, .i .i64 (i + 1 : Nat), .i .i64 (l.length : Nat), x, (.bx [.s l[i].1, .i .i64 l[i].2.1, .i .i64 l[i].2.2])], bH H0 3 ((l.take (i + 1)).map eR.enc)⟩, ?_, .b true, .bx [.s l[i].1, .i .i64 l[i].2.1, .i .i64 l[i].2.2], rfl⟩
    simp only [v25l1, exec_seq, exec_cond, exec_block, exec_skip, exec_reg, seqK_nm, condK_t, blockK_nm, ops_cons, ops_nil, opsW_t, opsF_t, opsK_v, wants_none, fits_none, ev_l, ev_s, ev_c, ab_sl, ab_lo, abS_bx, abL_lp, ofO_some, ofP_some, step_mov, step_lal, step_lfa, lfaR_s, step_lld, lldR_s, lldB_bx, lldC_s, step_lst, lstR_s, lstB_bx, lstC_s, step_iad, step_ld, ldR_s, ld_ip, val_t, val_f, step_bin, bin_add, bin_lss, step_bsv, step_app, cells_ag, setSl, cut, put, List.getD_cons_zero, List.getD_cons_succ, List.getElem?_cons_zero, List.getElem?_cons_succ, List.set_cons_zero, List.set_cons_succ, List.nil_append, List.cons_append, List.append_nil, List.length_cons, List.length_nil, List.drop_succ_cons, List.drop_zero, List.drop_nil, List.take_succ_cons, List.take_zero, List.take_nil, List.map_cons, List.map_nil, Nat.reduceAdd, Nat.reduceLeDiff, Nat.le_refl, Nat.zero_add, if_true, hd, k4 i hi, hw, ha2, hcell, hbs]
  · intro s hs
    obtain ⟨c, e, rfl⟩ := hs
    have hd : decide ((l.length : Int) < (l.length : Int)) = false := by simp
    refine ⟨.ex 2, ⟨[g0, g1, g2, (.b false), .bx [X, bD H0 .nil ((l.take l.length).map eR.enc), Z], g5, g6, g7, g8, g9, .i .i64 (l.length : Nat), .i .i64 (l.length : Nat), x, e], bH H0 3 ((l.take l.length).map eR.enc)⟩, ?_, by simp, rfl, .b false, e, by rw [List.take_length]⟩
    simp only [v25l1, exec_seq, exec_cond, exec_exit, exec_reg, seqK_nm, seqK_ex, condK_f, ops_cons, ops_nil, opsW_t, opsF_t, opsK_v, wants_none, fits_none, ev_s, ofO_some, step_bin, bin_lss, setSl, List.getD_cons_zero, List.getD_cons_succ, List.set_cons_zero, List.set_cons_succ, List.nil_append, hd]

theorem back25 {r : Rd} {d : D} (h : IsRd r d) (hl : r.le 40000) : ∃ q, PN V 40003 25 [d] q ∧ AwRd r q := by
  obtain ⟨x, y, zc, rfl, h1, h2, h3⟩ := h
  obtain ⟨l1, l2, l3⟩ := hl
  have hl1 := fun H => h1.len (H := H)
  have hl2 := fun H => h2.len (H := H)
  simp only [List.length_map] at hl1 hl2
  let T := r.t.map eS.enc
  let F := r.f.map eR.enc
  let P := r.p.map eP.enc
  let H1 := bH [] 1 T
  let H2 := bH H1 2 P
  let H3 := bH H2 3 F
  have ha1 : appD [] .nil zc 1 16 true = some (bD [] .nil T, H1) := app_all rfl h3.cont (by
    intro r hr
    obtain ⟨a, _, rfl⟩ := List.mem_map.1 hr
    exact eS_ok.flat a) (room_ok (by show (r.t.map eS.enc).length ≤ _; rw [List.length_map]; omega) (by omega))
  have hcell : (bD [] .nil T).cellsN 1 = some [bD [] .nil T] := bD_cells rfl
  have hM : MzRd r H3 (.ag [bD H1 .nil P, bD H2 .nil F, bD [] .nil T]) := by
    have g1 : Gr H1 H2 := (bH_gl H1 2 P).gr
    have g2 : Gr H2 H3 := (bH_gl H2 3 F).gr
    have m1 : Mz 1 T H1 (bD [] .nil T) := .inl (bD_ms rfl).ms
    have m2 : Mz 2 P H2 (bD H1 .nil P) := .inl (bD_ms rfl).ms
    refine ⟨_, _, _, rfl, m2.gr g2, .inl (bD_ms rfl).ms, m1.gr (g1.trans g2), nod3.2 ⟨fun a ha hb => ?_, fun a ha hb => ?_, fun a ha hb => ?_⟩⟩
    · have := m2.lt a ha
      have := bD_lt (x0 := .nil) rfl _ a hb
      omega
    · have := bD_lt (x0 := .nil) rfl _ a ha
      have := m1.lt a hb
      omega
    · have := bD_lt (x0 := .nil) rfl _ a ha
      have := (m1.gr g1).lt a hb
      omega
  have key : ∀ n, 40001 ≤ n → enter V (call V n) n v25 [.ag [x, y, zc]] [] = .ret (.ag [bD H1 .nil P, bD H2 .nil F, bD [] .nil T]) H3 := fun n hn => by
    have hent : enter V (call V n) n v25 [.ag [x, y, zc]] [] = _ := enter_eq (V := V) (cl := call V n) (n := n) v25 [.ag [x, y, zc]] [] rfl
    rw [hent]
    obtain ⟨ex, s', e1, rfl, c, e, rfl⟩ := backl0 h1 l1 hn H1 .nil (bD [] .nil T) (.ag [x, y, zc]) (.bx [.nil, .nil, .nil]) .u .u (.bx [x, y, zc]) .u .u .u .u .u
    simp only [v25, exec_seq, exec_block, exec_reg, seqK_nm, blockK_ex, ops_cons, ops_nil, opsW_t, opsF_t, opsK_v, wants_none, fits_none, ev_l, ev_s, ev_c, ab_sl, ab_lo, abS_bx, abL_lp, ofO_some, ofP_some, step_mov, step_lal, step_lbx, step_lfa, lfaR_s, step_lld, lldR_s, lldB_bx, lldC_s, step_lst, lstR_s, lstB_bx, lstC_s, val_f, step_len, step_app, cells_ag, setSl, cut, put, List.getD_cons_zero, List.getD_cons_succ, List.getElem?_cons_zero, List.getElem?_cons_succ, List.set_cons_zero, List.set_cons_succ, List.nil_append, List.cons_append, List.append_nil, List.length_cons, List.length_nil, List.drop_succ_cons, List.drop_zero, List.drop_nil, List.take_succ_cons, List.take_zero, List.take_nil, List.replicate_succ, List.replicate_zero, Nat.reduceAdd, Nat.reduceSub, Nat.reduceLeDiff, Nat.le_refl, Nat.zero_add, if_true, Nat.add_zero, Option.map_some, ha1, hcell, hl1, exec_loop, e1]
    clear e1
    obtain ⟨ex, s', e1, rfl, c', e', rfl⟩ := backl1 h2 l2 hn H2 (bD H1 .nil P) (bD [] .nil T) (.ag [x, y, zc]) (.bx [.nil, .nil, .nil]) c .u (.bx [x, y, zc]) (.i .i64 (r.p.length : Nat)) (.i .i64 (r.p.length : Nat)) x e .u
    simp only [exec_seq, exec_block, exec_ret, exec_reg, seqK_nm, blockK_ex, ops_cons, ops_nil, opsW_t, opsF_t, opsK_v, wants_none, fits_none, ev_l, ev_c, ab_sl, abS_bx, ofO_some, step_mov, step_lld, lldR_s, lldB_bx, lldC_s, step_lst, lstR_s, lstB_bx, lstC_s, val_t, cells_ag, setSl, cut, put, List.getD_cons_zero, List.getElem?_cons_zero, List.getElem?_cons_succ, List.set_cons_zero, List.set_cons_succ, List.nil_append, List.cons_append, List.append_nil, List.length_cons, List.length_nil, List.drop_succ_cons, List.drop_zero, List.drop_nil, List.take_succ_cons, List.take_zero, List.take_nil, Nat.reduceAdd, Nat.le_refl, Nat.zero_add, if_true, show bH H1 2 (r.p.map eP.enc) = H2 from rfl, hl2, exec_loop, show bD H1 .nil (r.p.map eP.enc) = bD H1 .nil P from rfl, e1]
    exact entK_rt (ds := [.ag [bD H1 .nil P, bD H2 .nil F, bD [] .nil T]]) rfl rfl
  obtain ⟨g1, r', g2, g3⟩ := hM.settle
  refine ⟨r', ?_, g3⟩
  have hr := key 40002 (by omega)
  simp only [PN, pcall, show V.fn 25 = some v25 from rfl, pureRun, hr, g1, if_true, g2]
end Go.Proofs.Ytkogdbgccjmaoaa.Dv
