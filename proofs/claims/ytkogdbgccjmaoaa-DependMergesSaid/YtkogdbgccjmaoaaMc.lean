/-
  The reference of layer 25 over the machine: merge.
-/
import Derived.Test.YtkogdbgccjmaoaaMb
namespace Go.Proofs.Ytkogdbgccjmaoaa.Dv
open Go.Dm

theorem nod1 (d : D) : (muOf d).Nodup := by cases d <;> simp [muOf]
theorem nod3 {X Y Z : D} : (muOf X ++ (muOf Y ++ muOf Z)).Nodup ↔ (∀ a ∈ muOf X, a ∉ muOf Y) ∧ (∀ a ∈ muOf X, a ∉ muOf Z) ∧ (∀ a ∈ muOf Y, a ∉ muOf Z) := by
  rw [List.nodup_append, List.nodup_append]
  constructor
  · rintro ⟨_, ⟨_, _, h1⟩, h2⟩
    exact ⟨fun a ha hb => h2 a ha a (List.mem_append_left _ hb) rfl, fun a ha hb => h2 a ha a (List.mem_append_right _ hb) rfl, fun a ha hb => h1 a ha a hb rfl⟩
  · rintro ⟨h1, h2, h3⟩
    refine ⟨nod1 _, ⟨nod1 _, nod1 _, fun a ha b hb e => h3 a ha (e ▸ hb)⟩, fun a ha b hb e => ?_⟩
    subst e
    rcases List.mem_append.1 hb with hb | hb
    · exact h1 a ha hb
    · exact h2 a ha hb

abbrev MzRd (r : Rd) (H : Heap) (d : D) : Prop := Mz3 2 3 1 (r.p.map eP.enc) (r.f.map eR.enc) (r.t.map eS.enc) H d
abbrev AwRd (r : Rd) (d : D) : Prop := Aw3 2 3 1 (r.p.map eP.enc) (r.f.map eR.enc) (r.t.map eS.enc) d
theorem IsRd.mz {r : Rd} {d : D} (h : IsRd r d) (H : Heap) : MzRd r H d := by
  obtain ⟨x, y, zc, rfl, h1, h2, h3⟩ := h
  exact ⟨x, y, zc, rfl, .inr h1, .inr h2, .inr h3, by rw [h1.mus, h2.mus, h3.mus]; simp⟩

/-- What one has, with what the other has. -/
def addRd (a b : Rd) : Rd := ⟨b.p.foldl add1 a.p, b.f.foldl add1 a.f, b.t.foldl add1 a.t⟩

theorem take_fold {α : Type} [DecidableEq α] {l us : List α} {i : Nat} (hi : i < l.length) : (l.take (i + 1)).foldl add1 us = add1 ((l.take i).foldl add1 us) l[i] := by
  rw [List.take_add_one, List.getElem?_eq_getElem hi, Option.toList_some, List.foldl_append]; rfl


theorem add43l0 {b : Rd} {d0 d1 x' y' zc' : D} (k1 : Sl 2 (b.p.map eP.enc) x') (k2 : Sl 3 (b.f.map eR.enc) y') (k3 : Sl 1 (b.t.map eS.enc) zc') (lb : b.le 20000) {P : List (List UInt8 × Int)} {Q : List (List UInt8 × Int × Int)} {R : List (List UInt8)}
    (lP : P.length ≤ 20000) (lQ : Q.length ≤ 20000) (lR : R.length ≤ 20000) {n : Nat} (hn : 40004 ≤ n) {H : Heap} {X Y Z : D} (hM : MzRd ⟨P, Q, R⟩ H (.ag [X, Y, Z])) (g3 g4 g5 g6 g7 g8 i0 i1 i2 : D) :
    ∃ ex s', iter (exec V (call V n) n v43l0) n ⟨[d0, d1, .bx [.nil, .nil, .nil], g3, g4, g5, g6, g7, g8, .i .i64 0, .bx [x', y', zc'], .bx [X, Y, Z], i1, i2], H⟩ = (ex, s') ∧
      (ex = .ex 0 ∧ ∃ H' X Y Z g3 g4 g5 g6 g7 g8 i0 i1 i2, MzRd ⟨b.p.foldl add1 P, Q, R⟩ H' (.ag [X, Y, Z]) ∧ s' = ⟨[d0, d1, .bx [.nil, .nil, .nil], g3, g4, g5, g6, g7, g8, i0, .bx [x', y', zc'], .bx [X, Y, Z], i1, i2], H'⟩) := by
  let st : D → D → D → D → D → D → D → D → D → D → D → D → Heap → St := fun X Y Z g3 g4 g5 g6 g7 g8 i0 i1 i2 H => ⟨[d0, d1, .bx [.nil, .nil, .nil], g3, g4, g5, g6, g7, g8, i0, .bx [x', y', zc'], .bx [X, Y, Z], i1, i2], H⟩
  obtain ⟨b1, b2, b3⟩ := lb
  have hl := fun H => k1.len (H := H)
  simp only [List.length_map] at hl
  have u1 := k1.under
  have k4 : ∀ (i : Nat) (h : i < b.p.length) H, iadD H x' (.i .i64 i) 2 = some (.ip [.s b.p[i].1, .i .i64 b.p[i].2]) := fun i h H => by
    have := k1.elem (H := H) (k := .i64) (i := i) (by simpa using h)
    rw [List.getElem_map] at this
    exact this
  refine iter_rel (body := exec V (call V n) n v43l0) (n := n) (st := st X Y Z g3 g4 g5 g6 g7 g8 (.i .i64 0) i1 i2 H) (fun i s => ∃ H X Y Z g3 g4, MzRd ⟨((b.p.take i).foldl add1 P), Q, R⟩ H (.ag [X, Y, Z]) ∧ s = st X Y Z g3 g4 g5 g6 g7 g8 (.i .i64 (i : Nat)) i1 i2 H)
    (fun ex s' => ex = .ex 0 ∧ ∃ H' X Y Z g3 g4 g5 g6 g7 g8 i0 i1 i2, MzRd ⟨b.p.foldl add1 P, Q, R⟩ H' (.ag [X, Y, Z]) ∧ s' = ⟨[d0, d1, .bx [.nil, .nil, .nil], g3, g4, g5, g6, g7, g8, i0, .bx [x', y', zc'], .bx [X, Y, Z], i1, i2], H'⟩) b.p.length (by omega) ⟨H, X, Y, Z, _, _, by simpa using hM, rfl⟩ ?_ ?_
  · intro i s hi hs
    obtain ⟨H, X, Y, Z, g3, g4, hM, rfl⟩ := hs
    have hd : decide ((i : Int) < (b.p.length : Int)) = true := by simpa using hi
    have hw := wrap1 (i := i) (by omega)
    have hfl : ((b.p.take i).foldl add1 P).length ≤ 40000 := by
      have := fold_len (b.p.take i) P
      rw [List.length_take] at this
      omega
    have hIs : ∃ x1 y1 z1, FrA H (.ag [X, Y, Z]) (.ag [x1, y1, z1]) ∧ IsRd ⟨((b.p.take i).foldl add1 P), Q, R⟩ (.ag [x1, y1, z1]) := by
      obtain ⟨x1, y1, z1, q1, q2, q3, q4⟩ := hM.fr
      exact ⟨x1, y1, z1, q1, x1, y1, z1, rfl, q2, q3, q4⟩
    obtain ⟨x1, y1, z1, hfr, hIs⟩ := hIs
    have hle : Rd.le ⟨((b.p.take i).foldl add1 P), Q, R⟩ 40000 := ⟨by exact hfl, by exact Nat.le_trans lQ (by omega), by exact Nat.le_trans lR (by omega)⟩
    obtain ⟨H1, hcall, hgr⟩ := PN.flat (V := V) (f := 44) (vf := v44) rfl rfl (H := H) (args := [.ag [X, Y, Z], .ag [.s b.p[i].1, .i .i64 b.p[i].2]]) (ds := [.ag [x1, y1, z1], .ag [.s b.p[i].1, .i .i64 b.p[i].2]]) (.cons hfr (.cons (.ag (.flat (eP_ok.flat b.p[i]))) (.nil H))) (has44 hIs hle b.p[i]) rfl
    have hci := hcall n (by omega)
    have hM1 := hM.gr hgr
    have hstep : (b.p.take (i + 1)).foldl add1 P = add1 ((b.p.take i).foldl add1 P) b.p[i] := take_fold hi
    generalize hC : ((b.p.take i).foldl add1 P) = C at *
    cases hin : inB b.p[i] C with
    | true =>
      have hmem := inB_t.1 hin
      rw [hin] at hci
      refine ⟨st X Y Z (.b true) (.b false) g5 g6 g7 g8 (.i .i64 (i + 1 : Nat)) i1 i2 H1, ?_, H1, X, Y, Z, _, _, ?_, rfl⟩
      · simp only [v43l0, st, exec_seq, exec_cond, exec_block, exec_skip, exec_reg, exec_drawn, seqK_nm, condK_t, condK_f, blockK_nm, ops_cons, ops_nil, opsW_t, opsF_t, opsK_v, wants_none, fits_none, fits_f, rd_mov, rd_lfa, rd_lld, rd_un, rd_call, rd_ld, rd_iad, un_ip, step_call, toR_ret, ev_l, ev_s, ev_c, ab_sl, ab_lo, abS_bx, abL_lp, ofO_some, step_mov, step_lfa, lfaR_s, step_lld, lldR_s, lldB_bx, lldC_s, step_iad, step_ld, ldR_s, ld_ip, val_t, val_f, step_bin, bin_add, bin_lss, step_un, un_not, step_len, setSl, cut, List.getD_cons_zero, List.getD_cons_succ, List.getElem?_cons_zero, List.getElem?_cons_succ, List.set_cons_zero, List.set_cons_succ, List.nil_append, List.cons_append, List.length_cons, List.length_nil, List.drop_zero, List.take_succ_cons, List.take_zero, List.take_nil, List.map_cons, List.map_nil, List.all_cons, List.all_nil, Bool.and_true, Nat.reduceAdd, Nat.reduceLeDiff, Nat.le_refl, Nat.zero_add, if_true, Bool.not_true, Nat.add_zero, hl, hd, k4 i hi, hci, hw, u1]
      · rw [hstep, show add1 C b.p[i] = C by simp [add1, hmem]]
        exact hM1
    | false =>
      have hmem : b.p[i] ∉ C := fun hh => by rw [inB_in hh] at hin; cases hin
      rw [hin] at hci
      obtain ⟨_, _, _, he, m1, m2, m3, hnd⟩ := hM1
      cases he
      have ha1 := app_all (H := H1) (x0 := .z) (y := X) (w := 2) (bytes := 24) rfl m1.cont (by
        intro r hr
        obtain ⟨a, _, rfl⟩ := List.mem_map.1 hr
        exact eP_ok.flat a) (room_ok (by simp; omega) (by omega))
      have ha2 := app_b (H0 := H1) (x0 := .z) (w := 2) (bytes := 24) (rows := C.map eP.enc) (r := [.s b.p[i].1, .i .i64 b.p[i].2]) rfl (eP_ok.flat b.p[i]) (room_ok (by simp; omega) (by omega))
      have hcell := bD_cells (H0 := H1) (x0 := .z) (rows := C.map eP.enc ++ [[.s b.p[i].1, .i .i64 b.p[i].2]]) rfl
      have hov := bD_over H1 (x0 := .z) rfl (C.map eP.enc)
      have hbs : bsvD 2 1 [(.s []), (.i .i64 0)] [(0, .ag [.s b.p[i].1, .i .i64 b.p[i].2])] = some (.sv 2 [[.s b.p[i].1, .i .i64 b.p[i].2]]) := bsv_one rfl
      have hnew : (add1 C b.p[i]).map eP.enc = C.map eP.enc ++ [[.s b.p[i].1, .i .i64 b.p[i].2]] := by simp [add1, hmem]; rfl
      refine ⟨st (bD H1 .z (C.map eP.enc ++ [[.s b.p[i].1, .i .i64 b.p[i].2]])) Y Z (.b true) (.b true) g5 g6 g7 g8 (.i .i64 (i + 1 : Nat)) i1 i2 (bH H1 2 (C.map eP.enc ++ [[.s b.p[i].1, .i .i64 b.p[i].2]])), ?_, _, (bD H1 .z (C.map eP.enc ++ [[.s b.p[i].1, .i .i64 b.p[i].2]])), Y, Z, _, _, ?_, rfl⟩
      · simp only [v43l0, st, exec_seq, exec_cond, exec_block, exec_skip, exec_reg, exec_drawn, seqK_nm, condK_t, blockK_nm, ops_cons, ops_nil, opsW_t, opsF_t, opsK_v, wants_none, fits_none, fits_f, fits_t, rd_mov, wr_mov, rd_lfa, wr_lfa, rd_lld, wr_lld, rd_lst, wr_lst, rd_un, rd_bsl, wr_bsl, rd_bsv, wr_bsv, rd_call, rd_ld, wr_ld, rd_iad, wr_iad, rd_app, wr_app, un_ip, step_call, toR_ret, ev_l, ev_s, ev_c, ab_sl, ab_lo, abS_bx, abL_lp, ofO_some, ofP_some, step_mov, step_lfa, lfaR_s, step_lld, lldR_s, lldB_bx, lldC_s, step_lst, lstR_s, lstB_bx, lstC_s, step_iad, step_ld, ldR_s, ld_ip, val_t, val_f, step_bin, bin_add, bin_lss, step_un, un_not, step_bsl, step_bsv, step_len, step_app, setSl, cut, put, List.getD_cons_zero, List.getD_cons_succ, List.getElem?_cons_zero, List.getElem?_cons_succ, List.set_cons_zero, List.set_cons_succ, List.nil_append, List.cons_append, List.length_cons, List.length_nil, List.drop_succ_cons, List.drop_zero, List.take_succ_cons, List.take_zero, List.take_nil, List.map_cons, List.map_nil, List.all_cons, List.all_nil, Bool.and_true, Nat.reduceAdd, Nat.reduceLeDiff, Nat.le_refl, Nat.zero_add, if_true, Bool.not_false, Nat.add_zero, hl, hd, k4 i hi, hci, hw, u1, bsl0, ha1, ha2, hcell, hov, hbs, ovz]
      · rw [hstep]
        have hg := (bH_gl H1 2 (C.map eP.enc ++ [[.s b.p[i].1, .i .i64 b.p[i].2]])).gr
        have hlt := bD_lt (H0 := H1) (x0 := .z) rfl (C.map eP.enc ++ [[.s b.p[i].1, .i .i64 b.p[i].2]])
        have hmz : Mz 2 ((add1 C b.p[i]).map eP.enc) (bH H1 2 (C.map eP.enc ++ [[.s b.p[i].1, .i .i64 b.p[i].2]])) (bD H1 .z (C.map eP.enc ++ [[.s b.p[i].1, .i .i64 b.p[i].2]])) := by
          rw [hnew]; exact .inl (bD_ms rfl).ms
        refine ⟨(bD H1 .z (C.map eP.enc ++ [[.s b.p[i].1, .i .i64 b.p[i].2]])), Y, Z, rfl, hmz, m2.gr hg, m3.gr hg, nod3.2 ⟨fun a ha hb => ?_, fun a ha hb => ?_, (nod3.1 hnd).2.2⟩⟩
        · have := hlt a ha; have := m2.lt a hb; omega
        · have := hlt a ha; have := m3.lt a hb; omega
  · intro s hs
    obtain ⟨H, X, Y, Z, g3, g4, hM, rfl⟩ := hs
    have hd : decide ((b.p.length : Int) < (b.p.length : Int)) = false := by simp
    refine ⟨.ex 0, st X Y Z (.b false) g4 g5 g6 g7 g8 (.i .i64 (b.p.length : Nat)) i1 i2 H, ?_, by simp, rfl, H, X, Y, Z, _, _, _, _, _, _, _, _, _, by simpa using hM, rfl⟩
    simp only [v43l0, st, exec_seq, exec_cond, exec_exit, exec_reg, seqK_nm, seqK_ex, condK_f, ops_cons, ops_nil, opsW_t, opsF_t, opsK_v, wants_none, fits_none, ev_l, ev_s, ab_sl, ab_lo, abS_bx, abL_lp, ofO_some, step_mov, step_lfa, lfaR_s, step_lld, lldR_s, lldB_bx, lldC_s, val_f, step_bin, bin_lss, step_len, setSl, cut, List.getD_cons_zero, List.getD_cons_succ, List.getElem?_cons_zero, List.getElem?_cons_succ, List.set_cons_zero, List.set_cons_succ, List.nil_append, List.cons_append, List.length_cons, List.length_nil, List.drop_zero, List.take_succ_cons, List.take_zero, Nat.reduceAdd, Nat.reduceLeDiff, Nat.zero_add, if_true, Nat.add_zero, hl, hd]

theorem add43l1 {b : Rd} {d0 d1 x' y' zc' : D} (k1 : Sl 2 (b.p.map eP.enc) x') (k2 : Sl 3 (b.f.map eR.enc) y') (k3 : Sl 1 (b.t.map eS.enc) zc') (lb : b.le 20000) {P : List (List UInt8 × Int)} {Q : List (List UInt8 × Int × Int)} {R : List (List UInt8)}
    (lP : P.length ≤ 40000) (lQ : Q.length ≤ 20000) (lR : R.length ≤ 20000) {n : Nat} (hn : 40004 ≤ n) {H : Heap} {X Y Z : D} (hM : MzRd ⟨P, Q, R⟩ H (.ag [X, Y, Z])) (g3 g4 g5 g6 g7 g8 i0 i1 i2 : D) :
    ∃ ex s', iter (exec V (call V n) n v43l1) n ⟨[d0, d1, .bx [.nil, .nil, .nil], g3, g4, g5, g6, g7, g8, i0, .bx [x', y', zc'], .bx [X, Y, Z], .i .i64 0, i2], H⟩ = (ex, s') ∧
      (ex = .ex 2 ∧ ∃ H' X Y Z g3 g4 g5 g6 g7 g8 i0 i1 i2, MzRd ⟨P, b.f.foldl add1 Q, R⟩ H' (.ag [X, Y, Z]) ∧ s' = ⟨[d0, d1, .bx [.nil, .nil, .nil], g3, g4, g5, g6, g7, g8, i0, .bx [x', y', zc'], .bx [X, Y, Z], i1, i2], H'⟩) := by
  let st : D → D → D → D → D → D → D → D → D → D → D → D → Heap → St := fun X Y Z g3 g4 g5 g6 g7 g8 i0 i1 i2 H => ⟨[d0, d1, .bx [.nil, .nil, .nil], g3, g4, g5, g6, g7, g8, i0, .bx [x', y', zc'], .bx [X, Y, Z], i1, i2], H⟩
  obtain ⟨b1, b2, b3⟩ := lb
  have hl := fun H => k2.len (H := H)
  simp only [List.length_map] at hl
  have u1 := k2.under
  have k4 : ∀ (i : Nat) (h : i < b.f.length) H, iadD H y' (.i .i64 i) 3 = some (.ip [.s b.f[i].1, .i .i64 b.f[i].2.1, .i .i64 b.f[i].2.2]) := fun i h H => by
    have := k2.elem (H := H) (k := .i64) (i := i) (by simpa using h)
    rw [List.getElem_map] at this
    exact this
  refine iter_rel (body := exec V (call V n) n v43l1) (n := n) (st := st X Y Z g3 g4 g5 g6 g7 g8 i0 (.i .i64 0) i2 H) (fun i s => ∃ H X Y Z g5 g6, MzRd ⟨P, ((b.f.take i).foldl add1 Q), R⟩ H (.ag [X, Y, Z]) ∧ s = st X Y Z g3 g4 g5 g6 g7 g8 i0 (.i .i64 (i : Nat)) i2 H)
    (fun ex s' => ex = .ex 2 ∧ ∃ H' X Y Z g3 g4 g5 g6 g7 g8 i0 i1 i2, MzRd ⟨P, b.f.foldl add1 Q, R⟩ H' (.ag [X, Y, Z]) ∧ s' = ⟨[d0, d1, .bx [.nil, .nil, .nil], g3, g4, g5, g6, g7, g8, i0, .bx [x', y', zc'], .bx [X, Y, Z], i1, i2], H'⟩) b.f.length (by omega) ⟨H, X, Y, Z, _, _, by simpa using hM, rfl⟩ ?_ ?_
  · intro i s hi hs
    obtain ⟨H, X, Y, Z, g5, g6, hM, rfl⟩ := hs
    have hd : decide ((i : Int) < (b.f.length : Int)) = true := by simpa using hi
    have hw := wrap1 (i := i) (by omega)
    have hfl : ((b.f.take i).foldl add1 Q).length ≤ 40000 := by
      have := fold_len (b.f.take i) Q
      rw [List.length_take] at this
      omega
    have hIs : ∃ x1 y1 z1, FrA H (.ag [X, Y, Z]) (.ag [x1, y1, z1]) ∧ IsRd ⟨P, ((b.f.take i).foldl add1 Q), R⟩ (.ag [x1, y1, z1]) := by
      obtain ⟨x1, y1, z1, q1, q2, q3, q4⟩ := hM.fr
      exact ⟨x1, y1, z1, q1, x1, y1, z1, rfl, q2, q3, q4⟩
    obtain ⟨x1, y1, z1, hfr, hIs⟩ := hIs
    have hle : Rd.le ⟨P, ((b.f.take i).foldl add1 Q), R⟩ 40000 := ⟨by exact Nat.le_trans lP (by omega), by exact hfl, by exact Nat.le_trans lR (by omega)⟩
    obtain ⟨H1, hcall, hgr⟩ := PN.flat (V := V) (f := 45) (vf := v45) rfl rfl (H := H) (args := [.ag [X, Y, Z], .ag [.s b.f[i].1, .i .i64 b.f[i].2.1, .i .i64 b.f[i].2.2]]) (ds := [.ag [x1, y1, z1], .ag [.s b.f[i].1, .i .i64 b.f[i].2.1, .i .i64 b.f[i].2.2]]) (.cons hfr (.cons (.ag (.flat (eR_ok.flat b.f[i]))) (.nil H))) (has45 hIs hle b.f[i]) rfl
    have hci := hcall n (by omega)
    have hM1 := hM.gr hgr
    have hstep : (b.f.take (i + 1)).foldl add1 Q = add1 ((b.f.take i).foldl add1 Q) b.f[i] := take_fold hi
    generalize hC : ((b.f.take i).foldl add1 Q) = C at *
    cases hin : inB b.f[i] C with
    | true =>
      have hmem := inB_t.1 hin
      rw [hin] at hci
      refine ⟨st X Y Z g3 g4 (.b true) (.b false) g7 g8 i0 (.i .i64 (i + 1 : Nat)) i2 H1, ?_, H1, X, Y, Z, _, _, ?_, rfl⟩
      · simp only [v43l1, st, exec_seq, exec_cond, exec_block, exec_skip, exec_reg, exec_drawn, seqK_nm, condK_t, condK_f, blockK_nm, ops_cons, ops_nil, opsW_t, opsF_t, opsK_v, wants_none, fits_none, fits_f, rd_mov, rd_lfa, rd_lld, rd_un, rd_call, rd_ld, rd_iad, un_ip, step_call, toR_ret, ev_l, ev_s, ev_c, ab_sl, ab_lo, abS_bx, abL_lp, ofO_some, step_mov, step_lfa, lfaR_s, step_lld, lldR_s, lldB_bx, lldC_s, step_iad, step_ld, ldR_s, ld_ip, val_t, val_f, step_bin, bin_add, bin_lss, step_un, un_not, step_len, setSl, cut, List.getD_cons_zero, List.getD_cons_succ, List.getElem?_cons_zero, List.getElem?_cons_succ, List.set_cons_zero, List.set_cons_succ, List.nil_append, List.cons_append, List.length_cons, List.length_nil, List.drop_succ_cons, List.drop_zero, List.take_succ_cons, List.take_zero, List.take_nil, List.map_cons, List.map_nil, List.all_cons, List.all_nil, Bool.and_true, Nat.reduceAdd, Nat.reduceLeDiff, Nat.le_refl, Nat.zero_add, if_true, Bool.not_true, hl, hd, k4 i hi, hci, hw, u1]
      · rw [hstep, show add1 C b.f[i] = C by simp [add1, hmem]]
        exact hM1
    | false =>
      have hmem : b.f[i] ∉ C := fun hh => by rw [inB_in hh] at hin; cases hin
      rw [hin] at hci
      obtain ⟨_, _, _, he, m1, m2, m3, hnd⟩ := hM1
      cases he
      have ha1 := app_all (H := H1) (x0 := .z) (y := Y) (w := 3) (bytes := 32) rfl m2.cont (by
        intro r hr
        obtain ⟨a, _, rfl⟩ := List.mem_map.1 hr
        exact eR_ok.flat a) (room_ok (by simp; omega) (by omega))
      have ha2 := app_b (H0 := H1) (x0 := .z) (w := 3) (bytes := 32) (rows := C.map eR.enc) (r := [.s b.f[i].1, .i .i64 b.f[i].2.1, .i .i64 b.f[i].2.2]) rfl (eR_ok.flat b.f[i]) (room_ok (by simp; omega) (by omega))
      have hcell := bD_cells (H0 := H1) (x0 := .z) (rows := C.map eR.enc ++ [[.s b.f[i].1, .i .i64 b.f[i].2.1, .i .i64 b.f[i].2.2]]) rfl
      have hov := bD_over H1 (x0 := .z) rfl (C.map eR.enc)
      have hbs : bsvD 3 1 [(.s []), (.i .i64 0), (.i .i64 0)] [(0, .ag [.s b.f[i].1, .i .i64 b.f[i].2.1, .i .i64 b.f[i].2.2])] = some (.sv 3 [[.s b.f[i].1, .i .i64 b.f[i].2.1, .i .i64 b.f[i].2.2]]) := bsv_one rfl
      have hnew : (add1 C b.f[i]).map eR.enc = C.map eR.enc ++ [[.s b.f[i].1, .i .i64 b.f[i].2.1, .i .i64 b.f[i].2.2]] := by simp [add1, hmem]; rfl
      refine ⟨st X (bD H1 .z (C.map eR.enc ++ [[.s b.f[i].1, .i .i64 b.f[i].2.1, .i .i64 b.f[i].2.2]])) Z g3 g4 (.b true) (.b true) g7 g8 i0 (.i .i64 (i + 1 : Nat)) i2 (bH H1 3 (C.map eR.enc ++ [[.s b.f[i].1, .i .i64 b.f[i].2.1, .i .i64 b.f[i].2.2]])), ?_, _, X, (bD H1 .z (C.map eR.enc ++ [[.s b.f[i].1, .i .i64 b.f[i].2.1, .i .i64 b.f[i].2.2]])), Z, _, _, ?_, rfl⟩
      · simp only [v43l1, st, exec_seq, exec_cond, exec_block, exec_skip, exec_reg, exec_drawn, seqK_nm, condK_t, blockK_nm, ops_cons, ops_nil, opsW_t, opsF_t, opsK_v, wants_none, fits_none, fits_f, fits_t, rd_mov, wr_mov, rd_lfa, wr_lfa, rd_lld, wr_lld, rd_lst, wr_lst, rd_un, rd_bsl, wr_bsl, rd_bsv, wr_bsv, rd_call, rd_ld, wr_ld, rd_iad, wr_iad, rd_app, wr_app, un_ip, step_call, toR_ret, ev_l, ev_s, ev_c, ab_sl, ab_lo, abS_bx, abL_lp, ofO_some, ofP_some, step_mov, step_lfa, lfaR_s, step_lld, lldR_s, lldB_bx, lldC_s, step_lst, lstR_s, lstB_bx, lstC_s, step_iad, step_ld, ldR_s, ld_ip, val_t, val_f, step_bin, bin_add, bin_lss, step_un, un_not, step_bsl, step_bsv, step_len, step_app, setSl, cut, put, List.getD_cons_zero, List.getD_cons_succ, List.getElem?_cons_zero, List.getElem?_cons_succ, List.set_cons_zero, List.set_cons_succ, List.nil_append, List.cons_append, List.length_cons, List.length_nil, List.drop_succ_cons, List.drop_zero, List.take_succ_cons, List.take_zero, List.take_nil, List.map_cons, List.map_nil, List.all_cons, List.all_nil, Bool.and_true, Nat.reduceAdd, Nat.reduceLeDiff, Nat.le_refl, Nat.zero_add, if_true, Bool.not_false, hl, hd, k4 i hi, hci, hw, u1, bsl0, ha1, ha2, hcell, hov, hbs, ovz]
      · rw [hstep]
        have hg := (bH_gl H1 3 (C.map eR.enc ++ [[.s b.f[i].1, .i .i64 b.f[i].2.1, .i .i64 b.f[i].2.2]])).gr
        have hlt := bD_lt (H0 := H1) (x0 := .z) rfl (C.map eR.enc ++ [[.s b.f[i].1, .i .i64 b.f[i].2.1, .i .i64 b.f[i].2.2]])
        have hmz : Mz 3 ((add1 C b.f[i]).map eR.enc) (bH H1 3 (C.map eR.enc ++ [[.s b.f[i].1, .i .i64 b.f[i].2.1, .i .i64 b.f[i].2.2]])) (bD H1 .z (C.map eR.enc ++ [[.s b.f[i].1, .i .i64 b.f[i].2.1, .i .i64 b.f[i].2.2]])) := by
          rw [hnew]; exact .inl (bD_ms rfl).ms
        refine ⟨X, (bD H1 .z (C.map eR.enc ++ [[.s b.f[i].1, .i .i64 b.f[i].2.1, .i .i64 b.f[i].2.2]])), Z, rfl, m1.gr hg, hmz, m3.gr hg, nod3.2 ⟨fun a hb ha => ?_, (nod3.1 hnd).2.1, fun a ha hb => ?_⟩⟩
        · have := hlt a ha; have := m1.lt a hb; omega
        · have := hlt a ha; have := m3.lt a hb; omega
  · intro s hs
    obtain ⟨H, X, Y, Z, g5, g6, hM, rfl⟩ := hs
    have hd : decide ((b.f.length : Int) < (b.f.length : Int)) = false := by simp
    refine ⟨.ex 2, st X Y Z g3 g4 (.b false) g6 g7 g8 i0 (.i .i64 (b.f.length : Nat)) i2 H, ?_, by simp, rfl, H, X, Y, Z, _, _, _, _, _, _, _, _, _, by simpa using hM, rfl⟩
    simp only [v43l1, st, exec_seq, exec_cond, exec_exit, exec_reg, seqK_nm, seqK_ex, condK_f, ops_cons, ops_nil, opsW_t, opsF_t, opsK_v, wants_none, fits_none, ev_l, ev_s, ab_sl, ab_lo, abS_bx, abL_lp, ofO_some, step_mov, step_lfa, lfaR_s, step_lld, lldR_s, lldB_bx, lldC_s, val_f, step_bin, bin_lss, step_len, setSl, cut, List.getD_cons_zero, List.getD_cons_succ, List.getElem?_cons_zero, List.getElem?_cons_succ, List.set_cons_zero, List.set_cons_succ, List.nil_append, List.cons_append, List.length_cons, List.length_nil, List.drop_succ_cons, List.drop_zero, List.take_succ_cons, List.take_zero, Nat.reduceAdd, Nat.reduceLeDiff, Nat.zero_add, if_true, hl, hd]

theorem add43l2 {b : Rd} {d0 d1 x' y' zc' : D} (k1 : Sl 2 (b.p.map eP.enc) x') (k2 : Sl 3 (b.f.map eR.enc) y') (k3 : Sl 1 (b.t.map eS.enc) zc') (lb : b.le 20000) {P : List (List UInt8 × Int)} {Q : List (List UInt8 × Int × Int)} {R : List (List UInt8)}
    (lP : P.length ≤ 40000) (lQ : Q.length ≤ 40000) (lR : R.length ≤ 20000) {n : Nat} (hn : 40004 ≤ n) {H : Heap} {X Y Z : D} (hM : MzRd ⟨P, Q, R⟩ H (.ag [X, Y, Z])) (g3 g4 g5 g6 g7 g8 i0 i1 i2 : D) :
    ∃ ex s', iter (exec V (call V n) n v43l2) n ⟨[d0, d1, .bx [.nil, .nil, .nil], g3, g4, g5, g6, g7, g8, i0, .bx [x', y', zc'], .bx [X, Y, Z], i1, .i .i64 0], H⟩ = (ex, s') ∧
      (ex = .ex 4 ∧ ∃ H' X Y Z g3 g4 g5 g6 g7 g8 i0 i1 i2, MzRd ⟨P, Q, b.t.foldl add1 R⟩ H' (.ag [X, Y, Z]) ∧ s' = ⟨[d0, d1, .bx [.nil, .nil, .nil], g3, g4, g5, g6, g7, g8, i0, .bx [x', y', zc'], .bx [X, Y, Z], i1, i2], H'⟩) := by
  let st : D → D → D → D → D → D → D → D → D → D → D → D → Heap → St := fun X Y Z g3 g4 g5 g6 g7 g8 i0 i1 i2 H => ⟨[d0, d1, .bx [.nil, .nil, .nil], g3, g4, g5, g6, g7, g8, i0, .bx [x', y', zc'], .bx [X, Y, Z], i1, i2], H⟩
  obtain ⟨b1, b2, b3⟩ := lb
  have hl := fun H => k3.len (H := H)
  simp only [List.length_map] at hl
  have u1 := k3.under
  have k4 : ∀ (i : Nat) (h : i < b.t.length) H, iadD H zc' (.i .i64 i) 1 = some (.ip [.s b.t[i]]) := fun i h H => by
    have := k3.elem (H := H) (k := .i64) (i := i) (by simpa using h)
    rw [List.getElem_map] at this
    exact this
  refine iter_rel (body := exec V (call V n) n v43l2) (n := n) (st := st X Y Z g3 g4 g5 g6 g7 g8 i0 i1 (.i .i64 0) H) (fun i s => ∃ H X Y Z g7 g8, MzRd ⟨P, Q, ((b.t.take i).foldl add1 R)⟩ H (.ag [X, Y, Z]) ∧ s = st X Y Z g3 g4 g5 g6 g7 g8 i0 i1 (.i .i64 (i : Nat)) H)
    (fun ex s' => ex = .ex 4 ∧ ∃ H' X Y Z g3 g4 g5 g6 g7 g8 i0 i1 i2, MzRd ⟨P, Q, b.t.foldl add1 R⟩ H' (.ag [X, Y, Z]) ∧ s' = ⟨[d0, d1, .bx [.nil, .nil, .nil], g3, g4, g5, g6, g7, g8, i0, .bx [x', y', zc'], .bx [X, Y, Z], i1, i2], H'⟩) b.t.length (by omega) ⟨H, X, Y, Z, _, _, by simpa using hM, rfl⟩ ?_ ?_
  · intro i s hi hs
    obtain ⟨H, X, Y, Z, g7, g8, hM, rfl⟩ := hs
    have hd : decide ((i : Int) < (b.t.length : Int)) = true := by simpa using hi
    have hw := wrap1 (i := i) (by omega)
    have hfl : ((b.t.take i).foldl add1 R).length ≤ 40000 := by
      have := fold_len (b.t.take i) R
      rw [List.length_take] at this
      omega
    have hIs : ∃ x1 y1 z1, FrA H (.ag [X, Y, Z]) (.ag [x1, y1, z1]) ∧ IsRd ⟨P, Q, ((b.t.take i).foldl add1 R)⟩ (.ag [x1, y1, z1]) := by
      obtain ⟨x1, y1, z1, q1, q2, q3, q4⟩ := hM.fr
      exact ⟨x1, y1, z1, q1, x1, y1, z1, rfl, q2, q3, q4⟩
    obtain ⟨x1, y1, z1, hfr, hIs⟩ := hIs
    have hle : Rd.le ⟨P, Q, ((b.t.take i).foldl add1 R)⟩ 40000 := ⟨by exact Nat.le_trans lP (by omega), by exact Nat.le_trans lQ (by omega), by exact hfl⟩
    obtain ⟨H1, hcall, hgr⟩ := PN.flat (V := V) (f := 46) (vf := v46) rfl rfl (H := H) (args := [.ag [X, Y, Z], .s b.t[i]]) (ds := [.ag [x1, y1, z1], .s b.t[i]]) (.cons hfr (.cons (.flat rfl H) (.nil H))) (has46 hIs hle b.t[i]) rfl
    have hci := hcall n (by omega)
    have hM1 := hM.gr hgr
    have hstep : (b.t.take (i + 1)).foldl add1 R = add1 ((b.t.take i).foldl add1 R) b.t[i] := take_fold hi
    generalize hC : ((b.t.take i).foldl add1 R) = C at *
    cases hin : inB b.t[i] C with
    | true =>
      have hmem := inB_t.1 hin
      rw [hin] at hci
      refine ⟨st X Y Z g3 g4 g5 g6 (.b true) (.b false) i0 i1 (.i .i64 (i + 1 : Nat)) H1, ?_, H1, X, Y, Z, _, _, ?_, rfl⟩
      · simp only [v43l2, st, exec_seq, exec_cond, exec_block, exec_skip, exec_reg, exec_drawn, seqK_nm, condK_t, condK_f, blockK_nm, ops_cons, ops_nil, opsW_t, opsF_t, opsK_v, wants_none, fits_none, fits_f, rd_mov, rd_lfa, rd_lld, rd_un, rd_call, rd_ld, rd_iad, un_ip, step_call, toR_ret, ev_l, ev_s, ev_c, ab_sl, ab_lo, abS_bx, abL_lp, ofO_some, step_mov, step_lfa, lfaR_s, step_lld, lldR_s, lldB_bx, lldC_s, step_iad, step_ld, ldR_s, ld_ip, val_t, val_f, step_bin, bin_add, bin_lss, step_un, un_not, step_len, setSl, cut, List.getD_cons_zero, List.getD_cons_succ, List.getElem?_cons_zero, List.getElem?_cons_succ, List.set_cons_zero, List.set_cons_succ, List.nil_append, List.cons_append, List.length_cons, List.length_nil, List.drop_succ_cons, List.drop_zero, List.take_succ_cons, List.take_nil, List.map_cons, List.map_nil, List.all_cons, List.all_nil, Bool.and_true, Nat.reduceAdd, Nat.le_refl, Nat.zero_add, if_true, Bool.not_true, hl, hd, k4 i hi, hci, hw, u1]
      · rw [hstep, show add1 C b.t[i] = C by simp [add1, hmem]]
        exact hM1
    | false =>
      have hmem : b.t[i] ∉ C := fun hh => by rw [inB_in hh] at hin; cases hin
      rw [hin] at hci
      obtain ⟨_, _, _, he, m1, m2, m3, hnd⟩ := hM1
      cases he
      have ha1 := app_all (H := H1) (x0 := .z) (y := Z) (w := 1) (bytes := 16) rfl m3.cont (by
        intro r hr
        obtain ⟨a, _, rfl⟩ := List.mem_map.1 hr
        exact eS_ok.flat a) (room_ok (by simp; omega) (by omega))
      have ha2 := app_b (H0 := H1) (x0 := .z) (w := 1) (bytes := 16) (rows := C.map eS.enc) (r := [.s b.t[i]]) rfl (eS_ok.flat b.t[i]) (room_ok (by simp; omega) (by omega))
      have hcell := bD_cells (H0 := H1) (x0 := .z) (rows := C.map eS.enc ++ [[.s b.t[i]]]) rfl
      have hov := bD_over H1 (x0 := .z) rfl (C.map eS.enc)
      have hbs : bsvD 1 1 [(.s [])] [(0, .s b.t[i])] = some (.sv 1 [[.s b.t[i]]]) := bsv_one rfl
      have hnew : (add1 C b.t[i]).map eS.enc = C.map eS.enc ++ [[.s b.t[i]]] := by simp [add1, hmem]; rfl
      refine ⟨st X Y (bD H1 .z (C.map eS.enc ++ [[.s b.t[i]]])) g3 g4 g5 g6 (.b true) (.b true) i0 i1 (.i .i64 (i + 1 : Nat)) (bH H1 1 (C.map eS.enc ++ [[.s b.t[i]]])), ?_, _, X, Y, (bD H1 .z (C.map eS.enc ++ [[.s b.t[i]]])), _, _, ?_, rfl⟩
      · simp only [v43l2, st, exec_seq, exec_cond, exec_block, exec_skip, exec_reg, exec_drawn, seqK_nm, condK_t, blockK_nm, ops_cons, ops_nil, opsW_t, opsF_t, opsK_v, wants_none, fits_none, fits_f, fits_t, rd_mov, wr_mov, rd_lfa, wr_lfa, rd_lld, wr_lld, rd_lst, wr_lst, rd_un, rd_bsl, wr_bsl, rd_bsv, wr_bsv, rd_call, rd_ld, wr_ld, rd_iad, wr_iad, rd_app, wr_app, un_ip, step_call, toR_ret, ev_l, ev_s, ev_c, ab_sl, ab_lo, abS_bx, abL_lp, ofO_some, ofP_some, step_mov, step_lfa, lfaR_s, step_lld, lldR_s, lldB_bx, lldC_s, step_lst, lstR_s, lstB_bx, lstC_s, step_iad, step_ld, ldR_s, ld_ip, val_t, val_f, step_bin, bin_add, bin_lss, step_un, un_not, step_bsl, step_bsv, step_len, step_app, setSl, cut, put, List.getD_cons_zero, List.getD_cons_succ, List.getElem?_cons_zero, List.getElem?_cons_succ, List.set_cons_zero, List.set_cons_succ, List.nil_append, List.cons_append, List.append_nil, List.length_cons, List.length_nil, List.drop_succ_cons, List.drop_zero, List.drop_nil, List.take_succ_cons, List.take_zero, List.take_nil, List.map_cons, List.map_nil, List.all_cons, List.all_nil, Bool.and_true, Nat.reduceAdd, Nat.le_refl, Nat.zero_add, if_true, Bool.not_false, hl, hd, k4 i hi, hci, hw, u1, bsl0, ha1, ha2, hcell, hov, hbs, ovz]
      · rw [hstep]
        have hg := (bH_gl H1 1 (C.map eS.enc ++ [[.s b.t[i]]])).gr
        have hlt := bD_lt (H0 := H1) (x0 := .z) rfl (C.map eS.enc ++ [[.s b.t[i]]])
        have hmz : Mz 1 ((add1 C b.t[i]).map eS.enc) (bH H1 1 (C.map eS.enc ++ [[.s b.t[i]]])) (bD H1 .z (C.map eS.enc ++ [[.s b.t[i]]])) := by
          rw [hnew]; exact .inl (bD_ms rfl).ms
        refine ⟨X, Y, (bD H1 .z (C.map eS.enc ++ [[.s b.t[i]]])), rfl, m1.gr hg, m2.gr hg, hmz, nod3.2 ⟨(nod3.1 hnd).1, fun a hb ha => ?_, fun a hb ha => ?_⟩⟩
        · have := hlt a ha; have := m1.lt a hb; omega
        · have := hlt a ha; have := m2.lt a hb; omega
  · intro s hs
    obtain ⟨H, X, Y, Z, g7, g8, hM, rfl⟩ := hs
    have hd : decide ((b.t.length : Int) < (b.t.length : Int)) = false := by simp
    refine ⟨.ex 4, st X Y Z g3 g4 g5 g6 (.b false) g8 i0 i1 (.i .i64 (b.t.length : Nat)) H, ?_, by simp, rfl, H, X, Y, Z, _, _, _, _, _, _, _, _, _, by simpa using hM, rfl⟩
    simp only [v43l2, st, exec_seq, exec_cond, exec_exit, exec_reg, seqK_nm, seqK_ex, condK_f, ops_cons, ops_nil, opsW_t, opsF_t, opsK_v, wants_none, fits_none, ev_l, ev_s, ab_sl, ab_lo, abS_bx, abL_lp, ofO_some, step_mov, step_lfa, lfaR_s, step_lld, lldR_s, lldB_bx, lldC_s, val_f, step_bin, bin_lss, step_len, setSl, cut, List.getD_cons_zero, List.getD_cons_succ, List.getElem?_cons_zero, List.getElem?_cons_succ, List.set_cons_zero, List.set_cons_succ, List.nil_append, List.cons_append, List.length_cons, List.length_nil, List.drop_succ_cons, List.drop_zero, List.take_succ_cons, List.take_nil, Nat.reduceAdd, Nat.le_refl, Nat.zero_add, if_true, hl, hd]

theorem add43 {a b : Rd} {d e : D} (ha : IsRd a d) (hb : IsRd b e) (la : a.le 20000) (lb : b.le 20000) : ∃ r, PN V 40005 43 [d, e] r ∧ AwRd (addRd a b) r := by
  obtain ⟨x, y, zc, rfl, h1, h2, h3⟩ := ha
  obtain ⟨x', y', zc', rfl, k1, k2, k3⟩ := hb
  obtain ⟨a1, a2, a3⟩ := la
  have hb' := lb
  obtain ⟨b1, b2, b3⟩ := lb
  have f1 := fold_len b.p a.p
  have f2 := fold_len b.f a.f
  have key : ∀ n, 40004 ≤ n → ∃ r H, enter V (call V n) n v43 [.ag [x, y, zc], .ag [x', y', zc']] [] = .ret r H ∧ MzRd (addRd a b) H r := fun n hn => by
    have hent : enter V (call V n) n v43 [.ag [x, y, zc], .ag [x', y', zc']] [] = _ := enter_eq (V := V) (cl := call V n) (n := n) v43 [.ag [x, y, zc], .ag [x', y', zc']] [] rfl
    rw [hent]
    obtain ⟨ex, s', e1, rfl, H, X, Y, Z, g3, g4, g5, g6, g7, g8, i0, i1, i2, hM, rfl⟩ := add43l0 (d0 := .ag [x, y, zc]) (d1 := .ag [x', y', zc']) k1 k2 k3 hb' a1 a2 a3 hn (H := []) (X := x) (Y := y) (Z := zc) (IsRd.mz ⟨x, y, zc, rfl, h1, h2, h3⟩ []) .u .u .u .u .u .u .u .u .u
    simp only [v43, exec_seq, exec_block, exec_reg, seqK_nm, blockK_ex, ops_cons, ops_nil, opsW_t, opsF_t, opsK_v, wants_none, fits_none, ev_s, ev_c, ofO_some, step_mov, step_lal, step_lbx, cells_ag, setSl, List.getD_cons_zero, List.getD_cons_succ, List.set_cons_zero, List.set_cons_succ, List.nil_append, List.cons_append, List.length_cons, List.length_nil, List.replicate_succ, List.replicate_zero, Nat.reduceAdd, Nat.reduceSub, Nat.zero_add, if_true, Option.map_some, exec_loop, e1]
    clear e1
    obtain ⟨ex, s', e1, rfl, H, X, Y, Z, g3, g4, g5, g6, g7, g8, i0, i1, i2, hM, rfl⟩ := add43l1 (d0 := .ag [x, y, zc]) (d1 := .ag [x', y', zc']) k1 k2 k3 hb' (Nat.le_trans f1 (by omega)) a2 a3 hn hM g3 g4 g5 g6 g7 g8 i0 i1 i2
    simp only [exec_seq, exec_block, exec_reg, seqK_nm, blockK_ex, ops_cons, ops_nil, opsW_t, opsF_t, opsK_v, wants_none, fits_none, ev_c, step_mov, setSl, List.set_cons_zero, List.set_cons_succ, List.nil_append, if_true, exec_loop, e1]
    clear e1
    obtain ⟨ex, s', e1, rfl, H, X, Y, Z, g3, g4, g5, g6, g7, g8, i0, i1, i2, hM, rfl⟩ := add43l2 (d0 := .ag [x, y, zc]) (d1 := .ag [x', y', zc']) k1 k2 k3 hb' (Nat.le_trans f1 (by omega)) (Nat.le_trans f2 (by omega)) a3 hn hM g3 g4 g5 g6 g7 g8 i0 i1 i2
    simp only [exec_seq, exec_ret, exec_reg, seqK_nm, blockK_ex, ops_cons, ops_nil, opsW_t, opsF_t, opsK_v, wants_none, fits_none, ev_l, ab_sl, abS_bx, ofO_some, step_lld, lldR_s, lldB_bx, lldC_s, step_lst, lstR_s, lstB_bx, lstC_s, val_t, cells_ag, setSl, cut, put, List.getD_cons_zero, List.getElem?_cons_zero, List.getElem?_cons_succ, List.set_cons_zero, List.set_cons_succ, List.nil_append, List.cons_append, List.append_nil, List.length_cons, List.length_nil, List.drop_succ_cons, List.drop_zero, List.drop_nil, List.take_succ_cons, List.take_zero, List.take_nil, Nat.reduceAdd, Nat.le_refl, Nat.zero_add, if_true, e1]
    exact ⟨.ag [X, Y, Z], H, entK_rt (ds := [.ag [X, Y, Z]]) rfl rfl, hM⟩
  obtain ⟨r, H, hr, hM⟩ := key 40004 (Nat.le_refl _)
  obtain ⟨g1, r', g2, g3⟩ := hM.settle
  refine ⟨r', ?_, g3⟩
  simp only [PN, pcall, show V.fn 43 = some v43 from rfl, pureRun, hr, g1, if_true, g2]

theorem add43_heap {a b : Rd} {H H1 : Heap} {d e d' e' : D} (hf : freezeL deep H [d, e] = some ([d', e'], H1)) (ha : IsRd a d') (hb : IsRd b e') (la : a.le 20000) (lb : b.le 20000) :
    ∃ r H2, RN V 40005 43 [d, e] H r H2 ∧ (∃ t, H2 = H1 ++ t) ∧ MzRd (addRd a b) H2 r := by
  obtain ⟨r, h1, h2⟩ := add43 ha hb la lb
  obtain ⟨d2, H2, g1, g2, g3, _⟩ := Aw3.ret (vf := v43) rfl rfl hf h1 h2
  exact ⟨d2, H2, g1, g2, g3⟩

theorem merge_add (a b : Rd) : addRd (addRd ⟨[], [], []⟩ a) b = merge a b := by
  simp only [addRd, merge, once2, List.foldl_append]

theorem refMerge24 {a b : Rd} {d e : D} (ha : IsRd a d) (hb : IsRd b e) (la : a.le 10000) (lb : b.le 10000) : ∃ r, PN V 40007 24 [d, e] r ∧ AwRd (merge a b) r := by
  obtain ⟨a1, a2, a3⟩ := la
  obtain ⟨b1, b2, b3⟩ := lb
  have pa := rd_plain ha
  have pb := rd_plain hb
  have h0 : IsRd ⟨[], [], []⟩ (.ag [.nil, .nil, .nil]) := ⟨.nil, .nil, .nil, rfl, .nil rfl, .nil rfl, .nil rfl⟩
  obtain ⟨r1, H1, c1, ⟨t1, e1⟩, m1⟩ := add43_heap (H := []) (H1 := []) (d := .ag [.nil, .nil, .nil]) (e := d) (plain_freezeL (by simp [pa]; rfl)) h0 ha ⟨by simp, by simp, by simp⟩ ⟨by omega, by omega, by omega⟩
  obtain ⟨x1, y1, z1, hfr, s1, s2, s3⟩ := m1.fr
  have hfr2 : ∃ H2, freezeL deep H1 [r1, e] = some ([.ag [x1, y1, z1], e], H2) ∧ Gr H1 H2 := FrAs.cons hfr (FrAs.cons (fun m H _ => ⟨H, plain_freeze pb m H, .refl _⟩) (.nil H1)) H1 (.refl _)
  obtain ⟨H2, hf2, _⟩ := hfr2
  have l1 : (addRd ⟨[], [], []⟩ a).le 20000 := by
    have f1 := fold_len a.p []
    have f2 := fold_len a.f []
    have f3 := fold_len a.t []
    simp only [List.length_nil, Nat.zero_add] at f1 f2 f3
    exact ⟨by simp only [addRd]; omega, by simp only [addRd]; omega, by simp only [addRd]; omega⟩
  obtain ⟨r2, H3, c2, ⟨t3, e3⟩, m2⟩ := add43_heap hf2 ⟨x1, y1, z1, rfl, s1, s2, s3⟩ hb l1 ⟨by omega, by omega, by omega⟩
  rw [merge_add] at m2
  obtain ⟨g1, r', g2, g3⟩ := m2.settle
  refine ⟨r', ?_, g3⟩
  obtain ⟨x, y, zc, rfl, _⟩ := ha
  obtain ⟨x', y', zc', rfl, _⟩ := hb
  obtain ⟨X1, Y1, Z1, rfl, _⟩ := m1
  obtain ⟨X2, Y2, Z2, rfl, _⟩ := m2
  have hr : enter V (call V 40006) 40006 v24 [.ag [x, y, zc], .ag [x', y', zc']] [] = .ret (.ag [X2, Y2, Z2]) H3 := by
    have hent : enter V (call V 40006) 40006 v24 [.ag [x, y, zc], .ag [x', y', zc']] [] = _ := enter_eq (V := V) (cl := call V 40006) (n := 40006) v24 [.ag [x, y, zc], .ag [x', y', zc']] [] rfl
    rw [hent]
    have c1' := c1 40006 (by omega)
    have c2' := c2 40006 (by omega)
    simp only [v24, exec_seq, exec_reg, exec_drawn, seqK_nm, ops_cons, ops_nil, opsW_t, opsF_t, opsK_v, wants_none, fits_none, fits_f, rd_lld, rd_agc, rd_call, step_call, toR_ret, ev_l, ev_s, ab_sl, abS_bx, ofO_some, step_lal, step_lbx, step_lld, lldR_s, lldB_bx, lldC_s, val_t, step_agc, fill_nil, cells_ag, setSl, cut, List.getD_cons_zero, List.getD_cons_succ, List.getElem?_cons_zero, List.getElem?_cons_succ, List.set_cons_zero, List.set_cons_succ, List.nil_append, List.cons_append, List.length_cons, List.length_nil, List.drop_zero, List.take_succ_cons, List.take_nil, List.map_cons, List.map_nil, List.all_nil, List.replicate_succ, List.replicate_zero, Nat.reduceAdd, Nat.reduceSub, Nat.le_refl, Nat.zero_add, if_true, Option.map_some, c1']
    simp only [exec_ret, seqK_nm, ops_cons, ops_nil, opsW_t, opsF_t, opsK_v, wants_none, fits_f, rd_lst, toR_ret, ev_l, ab_sl, abS_bx, step_lst, lstR_s, lstB_bx, lstC_s, cells_ag, setSl, put, List.getD_cons_zero, List.getD_cons_succ, List.getElem?_cons_zero, List.getElem?_cons_succ, List.set_cons_zero, List.set_cons_succ, List.nil_append, List.cons_append, List.append_nil, List.length_cons, List.length_nil, List.drop_succ_cons, List.drop_nil, List.take_zero, List.all_nil, Nat.reduceAdd, Nat.le_refl, Nat.zero_add, if_true, c2']
    exact entK_rt (ds := [.ag [X2, Y2, Z2]]) rfl rfl
  simp only [PN, pcall, show V.fn 24 = some v24 from rfl, pureRun, hr, g1, if_true, g2]
end Go.Proofs.Ytkogdbgccjmaoaa.Dv
