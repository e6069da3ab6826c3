/-
  The law DependMerges over the machine: it gives true, whatever the plain arguments.
-/
import Derived.Test.YtkogdbgccjmaoaaMi
import Derived.KernelRfl
import Derived.Test.YtkogdbgccjmaoaaRows
namespace Go.Proofs.Ytkogdbgccjmaoaa.Dv
open Go.Dm Go.Proofs

theorem awake8 : PN V 300 8 [] (.b true) := by unfold PN; kernel_rfl

theorem PRet.at {V : VProg} {f : FuncId} {vf : VFunc} {ds : List D} {d0 d : D} {H : Heap} (hf : V.fn f = some vf) (N : Nat) (h : enter V (call V N) N vf ds [] = .ret d0 H) (ha : apart (mus d0) = true) (hs : Dm.settle H d0 = some d) : PRet V f ds d :=
  ⟨N + 1, by simp only [pcall, hf, pureRun, h, ha, if_true, hs]⟩

theorem mz3_lt {w1 w2 w3 : Nat} {r1 r2 r3 : List (List D)} {H : Heap} {d : D} (h : Mz3 w1 w2 w3 r1 r2 r3 H d) : ∀ e, d = .ag e → ∀ q ∈ e, ∀ a ∈ muOf q, a < H.length := by
  obtain ⟨x, y, zc, rfl, h1, h2, h3, _⟩ := h
  intro e he q hq a ha
  cases he
  simp only [List.mem_cons, List.not_mem_nil, or_false] at hq
  rcases hq with rfl | rfl | rfl
  · exact h1.lt a ha
  · exact h2.lt a ha
  · exact h3.lt a ha

theorem Rd.le.up {r : Rd} {k m : Nat} (h : r.le k) (hk : k ≤ m) : r.le m := ⟨Nat.le_trans h.1 hk, Nat.le_trans h.2.1 hk, Nat.le_trans h.2.2 hk⟩

theorem conv_heap {r : Rd} {d : D} (h : IsRd r d) (hl : r.le 40000) (H : Heap) : ∃ X Y Z H', RN V 40003 9 [d] H (.ag [X, Y, Z]) H' ∧ (∃ t, H' = H ++ t) ∧ MzRd r H' (.ag [X, Y, Z]) := by
  obtain ⟨q, h1, h2⟩ := conv9 h hl
  obtain ⟨d', H2, g1, g2, g3, _⟩ := Aw3.ret (vf := v9) rfl rfl (plain_freezeL (H := H) (ds := [d]) (by simpa using rd_plain h)) h1 h2
  have g3' := g3
  obtain ⟨X, Y, Z, rfl, _⟩ := g3'
  exact ⟨X, Y, Z, H2, g1, g2, g3⟩
theorem back_heap {r : Rd} {S : List Nat} {H : Heap} {d : D} (h : MzRd r H d) (hl : r.le 40000) (hs : ∀ e, d = .ag e → ∀ q ∈ e, ∀ a ∈ muOf q, a ∉ S) : ∃ d' H', RN V 40003 25 [d] H d' H' ∧ Gs S H H' ∧ MzRd r H' d' := by
  obtain ⟨x', y', z', H1, g1, e1, s1, s2, s3⟩ := h.fs hs
  obtain ⟨q, h1, h2⟩ := back25 (r := r) ⟨x', y', z', rfl, s1, s2, s3⟩ hl
  obtain ⟨d', H2, g2, ⟨t, rfl⟩, g4, _⟩ := Aw3.ret (vf := v25) rfl rfl (fls_cons e1 (fls_nil _)) h1 h2
  exact ⟨d', _, g2, g1.trans (.push _ _ _), g4⟩

abbrev MT : List (Bool × List T) := [(true, rdT), (true, rdT), (true, planT), (false, [.sl factT]), (false, [.i .i64]), (false, [.i .i64])]

theorem merge_len {α : Type} [DecidableEq α] (x y : List α) : (once2 x y).length ≤ x.length + y.length := by
  have := fold_len (x ++ y) []
  simp only [List.length_nil, List.length_append, Nat.zero_add] at this
  exact this
theorem mem_merge {α : Type} [DecidableEq α] (x y : List α) (a : α) (h : a ∈ once2 x y) : a ∈ x ∨ a ∈ y := by
  rw [once2, mem_fold] at h
  simpa using h

set_option maxRecDepth 100000 in
theorem merges5 (xs : List D) (h : HasPs (envOf Try.prog [38]) MT xs) : PRet V 5 xs (.b true) := by
  cases h with | cons ha h => cases h with | cons hb h => cases h with | cons hp h => cases h with | cons hf h => cases h with | cons h4 h => cases h with | cons h5 h =>
  cases h
  obtain ⟨a, ka, bta⟩ := is_rdb ha
  obtain ⟨b, kb, btb⟩ := is_rdb hb
  obtain ⟨n0, defs, ts, cs, trows, crows, rfl, hdefs, hts, hcs, htr, hcr⟩ := is_plan hp
  obtain ⟨frows, hfs, hfr⟩ := is_facts hf
  obtain ⟨fro, rfl⟩ := is_int h4
  obtain ⟨til, rfl⟩ := is_int h5
  clear ha hb hp hf h4 h5
  rename_i da db fs
  have pa := rd_plain ka
  have pb := rd_plain kb
  have ka' := ka
  have kb' := kb
  obtain ⟨x, y, zc, rfl, _⟩ := ka'
  obtain ⟨x', y', zc', rfl, _⟩ := kb'
  obtain ⟨n7a, q7a⟩ := PRet.plain (f := 7) (vf := v7) rfl rfl [] (ds := [.ag [x, y, zc]]) (by simpa using pa) (few7 ka) rfl
  obtain ⟨n7b, q7b⟩ := PRet.plain (f := 7) (vf := v7) rfl rfl [] (ds := [.ag [x', y', zc']]) (by simpa using pb) (few7 kb) rfl
  have q8 : RN V 300 8 [] [] (.b true) [] := PN.plain (vf := v8) rfl rfl [] rfl awake8 rfl
  have lfs := fun H => hfs.len (H := H)
  have lts := fun H => hts.len (H := H)
  have lcs := fun H => hcs.len (H := H)
  have hent := fun n => enter_eq (V := V) (cl := call V n) (n := n) v5 [.ag [x, y, zc], .ag [x', y', zc'], .ag [.s n0, defs, ts, cs], fs, .i .i64 fro, .i .i64 til] [] rfl
  cases fa : fewB a with
  | false =>
    rw [fa] at q7a
    refine PRet.at (vf := v5) (d0 := .b true) (H := []) rfl (n7a + 300) ?_ rfl rfl
    rw [hent]
    have g1 := q7a (n7a + 300) (by omega)
    have g2 := q8 (n7a + 300) (by omega)
    simp only [v5, exec_seq, exec_cond, exec_ret, exec_reg, seqK_nm, seqK_rt, condK_t, ops_cons, ops_nil, opsW_t, opsW_f, opsF_t, opsK_v, wants_none, wants_some, wantK_ft, fits_none, step_call, toR_ret, ev_l, ev_s, ev_c, ab_sl, abS_bx, ofO_some, step_mov, step_pick, pick_t, step_lbx, step_lld, lldR_s, lldB_bx, lldC_s, val_t, step_un, un_not, cells_ag, setSl, cut, List.getD_cons_zero, List.getD_cons_succ, List.getElem?_cons_zero, List.getElem?_cons_succ, List.set_cons_zero, List.set_cons_succ, List.nil_append, List.cons_append, List.length_cons, List.length_nil, List.drop_zero, List.take_succ_cons, List.take_nil, List.map_cons, List.map_nil, List.replicate_succ, List.replicate_zero, Nat.reduceAdd, Nat.reduceSub, Nat.le_refl, Nat.zero_add, if_true, Bool.not_false, Option.map_some, g1, g2]
    exact entK_rt (ds := [.b true]) rfl rfl
  | true =>
  rw [fa] at q7a
  cases fb : fewB b with
  | false =>
    rw [fb] at q7b
    refine PRet.at (vf := v5) (d0 := .b true) (H := []) rfl (n7a + n7b + 300) ?_ rfl rfl
    rw [hent]
    have g1 := q7a (n7a + n7b + 300) (by omega)
    have g2 := q8 (n7a + n7b + 300) (by omega)
    have g3 := q7b (n7a + n7b + 300) (by omega)
    simp only [v5, exec_seq, exec_cond, exec_ret, exec_reg, seqK_nm, seqK_rt, condK_t, ops_cons, ops_nil, opsW_t, opsW_f, opsF_t, opsK_v, wants_none, wants_some, wantK_ff, wantK_ft, fits_none, step_call, toR_ret, ev_l, ev_s, ev_c, ab_sl, abS_bx, ofO_some, step_mov, step_pick, pick_t, pick_f, step_lbx, step_lld, lldR_s, lldB_bx, lldC_s, val_t, step_un, un_not, cells_ag, setSl, cut, List.getD_cons_zero, List.getD_cons_succ, List.getElem?_cons_zero, List.getElem?_cons_succ, List.set_cons_zero, List.set_cons_succ, List.nil_append, List.cons_append, List.length_cons, List.length_nil, List.drop_zero, List.take_succ_cons, List.take_nil, List.map_cons, List.map_nil, List.replicate_succ, List.replicate_zero, Nat.reduceAdd, Nat.reduceSub, Nat.le_refl, Nat.zero_add, if_true, Bool.not_true, Bool.not_false, Option.map_some, g1, g2, g3]
    exact entK_rt (ds := [.b true]) rfl rfl
  | true =>
  rw [fb] at q7b
  cases c30 : decide ((30 : Int) < (crows.length : Int)) with
  | true =>
    refine PRet.at (vf := v5) (d0 := .b true) (H := []) rfl (n7a + n7b + 300) ?_ rfl rfl
    rw [hent]
    have g1 := q7a (n7a + n7b + 300) (by omega)
    have g2 := q8 (n7a + n7b + 300) (by omega)
    have g3 := q7b (n7a + n7b + 300) (by omega)
    simp only [v5, exec_seq, exec_cond, exec_ret, exec_reg, seqK_nm, seqK_rt, condK_t, ops_cons, ops_nil, opsW_t, opsW_f, opsF_t, opsK_v, wants_none, wants_some, wantK_ff, wantK_ft, fits_none, step_call, toR_ret, ev_l, ev_s, ev_c, ab_sl, ab_lo, abS_bx, abL_lp, ofO_some, step_mov, step_pick, pick_t, pick_f, step_lbx, step_lfa, lfaR_s, step_lld, lldR_s, lldB_bx, lldC_s, val_t, val_f, step_bin, bin_gtr, step_un, un_not, step_len, cells_ag, setSl, cut, List.getD_cons_zero, List.getD_cons_succ, List.getElem?_cons_zero, List.getElem?_cons_succ, List.set_cons_zero, List.set_cons_succ, List.nil_append, List.cons_append, List.length_cons, List.length_nil, List.drop_succ_cons, List.drop_zero, List.take_succ_cons, List.take_nil, List.map_cons, List.map_nil, List.replicate_succ, List.replicate_zero, Nat.reduceAdd, Nat.reduceSub, Nat.le_refl, Nat.zero_add, if_true, Bool.not_true, Option.map_some, g1, g2, g3, lcs, c30]
    exact entK_rt (ds := [.b true]) rfl rfl
  | false =>
  cases c6 : decide ((6 : Int) < (trows.length : Int)) with
  | true =>
    refine PRet.at (vf := v5) (d0 := .b true) (H := []) rfl (n7a + n7b + 300) ?_ rfl rfl
    rw [hent]
    have g1 := q7a (n7a + n7b + 300) (by omega)
    have g2 := q8 (n7a + n7b + 300) (by omega)
    have g3 := q7b (n7a + n7b + 300) (by omega)
    simp only [v5, exec_seq, exec_cond, exec_ret, exec_reg, seqK_nm, seqK_rt, condK_t, ops_cons, ops_nil, opsW_t, opsW_f, opsF_t, opsK_v, wants_none, wants_some, wantK_ff, wantK_ft, fits_none, step_call, toR_ret, ev_l, ev_s, ev_c, ab_sl, ab_lo, abS_bx, abL_lp, ofO_some, step_mov, step_pick, pick_t, pick_f, step_lbx, step_lfa, lfaR_s, step_lld, lldR_s, lldB_bx, lldC_s, val_t, val_f, step_bin, bin_gtr, step_un, un_not, step_len, cells_ag, setSl, cut, List.getD_cons_zero, List.getD_cons_succ, List.getElem?_cons_zero, List.getElem?_cons_succ, List.set_cons_zero, List.set_cons_succ, List.nil_append, List.cons_append, List.length_cons, List.length_nil, List.drop_succ_cons, List.drop_zero, List.take_succ_cons, List.take_zero, List.take_nil, List.map_cons, List.map_nil, List.replicate_succ, List.replicate_zero, Nat.reduceAdd, Nat.reduceSub, Nat.reduceLeDiff, Nat.le_refl, Nat.zero_add, if_true, Bool.not_true, Option.map_some, g1, g2, g3, lcs, lts, c30, c6]
    exact entK_rt (ds := [.b true]) rfl rfl
  | false =>
  cases c40 : decide ((40 : Int) < (frows.length : Int)) with
  | true =>
    refine PRet.at (vf := v5) (d0 := .b true) (H := []) rfl (n7a + n7b + 300) ?_ rfl rfl
    rw [hent]
    have g1 := q7a (n7a + n7b + 300) (by omega)
    have g2 := q8 (n7a + n7b + 300) (by omega)
    have g3 := q7b (n7a + n7b + 300) (by omega)
    simp only [v5, exec_seq, exec_cond, exec_ret, exec_reg, seqK_nm, seqK_rt, condK_t, ops_cons, ops_nil, opsW_t, opsF_t, opsK_v, wants_none, wants_some, wantK_ff, fits_none, step_call, toR_ret, ev_l, ev_s, ev_c, ab_sl, ab_lo, abS_bx, abL_lp, ofO_some, step_mov, step_pick, pick_f, step_lbx, step_lfa, lfaR_s, step_lld, lldR_s, lldB_bx, lldC_s, val_t, val_f, step_bin, bin_gtr, step_un, un_not, step_len, cells_ag, setSl, cut, List.getD_cons_zero, List.getD_cons_succ, List.getElem?_cons_zero, List.getElem?_cons_succ, List.set_cons_zero, List.set_cons_succ, List.nil_append, List.cons_append, List.length_cons, List.length_nil, List.drop_succ_cons, List.drop_zero, List.take_succ_cons, List.take_zero, List.take_nil, List.map_cons, List.map_nil, List.replicate_succ, List.replicate_zero, Nat.reduceAdd, Nat.reduceSub, Nat.reduceLeDiff, Nat.le_refl, Nat.zero_add, if_true, Bool.not_true, Option.map_some, g1, g2, g3, lcs, lts, lfs, c30, c6, c40]
    exact entK_rt (ds := [.b true]) rfl rfl
  | false =>
  have le : ∀ {r : Rd}, fewB r = true → r.le 40 := fun {r} h => by
    simp only [fewB, Bool.and_eq_true, decide_eq_true_eq] at h
    exact ⟨by omega, by omega, by omega⟩
  have la := le fa
  have lb := le fb
  have lcr : crows.length ≤ 30 := by simp at c30; omega
  have ltr : trows.length ≤ 6 := by simp at c6; omega
  have lfr : frows.length ≤ 40 := by simp at c40; omega
  cases cb : trows.any bigT with
  | true =>
    have g2 := q8 (n7a + n7b + 40001) (by omega)
    obtain ⟨ex, s', e1, ⟨_, rfl, hr, hh⟩ | ⟨hb, _⟩⟩ := rows5l0 hts htr (by omega) (n := n7a + n7b + 40001) (by omega) g2 (.ag [x, y, zc]) (.ag [x', y', zc']) (.ag [.s n0, defs, ts, cs]) fs (.i .i64 fro) (.i .i64 til) (.b false) (.b false) .u .u .u .u (.bx [x, y, zc]) (.bx [x', y', zc']) (.bx [.s n0, defs, ts, cs]) .u .u .u .u .u .u .u .u .u .u .u .u .u .u .u .u
    · refine PRet.at (vf := v5) (d0 := .b true) (H := []) rfl (n7a + n7b + 40001) ?_ rfl rfl
      rw [hent]
      have g1 := q7a (n7a + n7b + 40001) (by omega)
      have g3 := q7b (n7a + n7b + 40001) (by omega)
      simp only [v5, exec_seq, exec_cond, exec_block, exec_skip, exec_reg, seqK_nm, seqK_rt, condK_f, blockK_rt, ops_cons, ops_nil, opsW_t, opsF_t, opsK_v, wants_none, wants_some, wantK_ff, fits_none, step_call, toR_ret, ev_l, ev_s, ev_c, ab_sl, ab_lo, abS_bx, abL_lp, ofO_some, step_mov, step_pick, pick_f, step_lbx, step_lfa, lfaR_s, step_lld, lldR_s, lldB_bx, lldC_s, val_t, val_f, step_bin, bin_gtr, step_un, un_not, step_len, cells_ag, setSl, cut, List.getD_cons_zero, List.getD_cons_succ, List.getElem?_cons_zero, List.getElem?_cons_succ, List.set_cons_zero, List.set_cons_succ, List.nil_append, List.cons_append, List.length_cons, List.length_nil, List.drop_succ_cons, List.drop_zero, List.take_succ_cons, List.take_zero, List.take_nil, List.map_cons, List.map_nil, List.replicate_succ, List.replicate_zero, Nat.reduceAdd, Nat.reduceSub, Nat.reduceLeDiff, Nat.le_refl, Nat.zero_add, if_true, Bool.not_true, Option.map_some, g1, g3, lcs, lts, lfs, c30, c6, c40, exec_loop, e1]
      rw [entK_rt hr rfl, hh]; rfl
    · rw [cb] at hb; cases hb
  | false =>
  have la4 : a.le 40000 := la.up (by omega)
  have lb4 : b.le 40000 := lb.up (by omega)
  have hbig : ∀ q ∈ trows, ∀ nm two rs, q = [.s nm, two, rs] → (rowsD rs).length ≤ 40000 := fun q hq nm two rs e => by
    subst e
    have := List.any_eq_false.1 cb _ hq
    simp only [bigT, decide_eq_true_eq] at this
    omega
  -- x, y
  obtain ⟨x1, x2, x3, H1, cx, ⟨t1, hH1⟩, mx⟩ := conv_heap ka la4 []
  obtain ⟨y1, y2, y3, H2, cy, ⟨t2, hH2⟩, my⟩ := conv_heap kb lb4 H1
  have gH12 : Gr H1 H2 := by rw [hH2]; exact (Gl.push H1 t2).gr
  have mx2 := mx.gr gH12
  -- m
  obtain ⟨m1, m2, m3, H3, ⟨n21, cm⟩, ⟨t3, hH3⟩, mm1, mm2, mm3, am1, am2, am3⟩ := Ret.new3 (V := V) (f := 21) (vf := v21) rfl rfl (.inl rfl) (.inl rfl) (.inl rfl) (plain_freezeL (H := H2) (ds := [.ag [x, y, zc], .ag [x', y', zc']]) (by simp [pa, pb])) (merge21 ka kb la4 lb4)
  let S : List Nat := muOf m1 ++ (muOf m2 ++ muOf m3)
  have hS : ∀ q ∈ S, H2.length ≤ q ∧ q < H3.length := fun q hq => by
    rcases List.mem_append.1 hq with hq | hq
    · exact am1 q hq
    · rcases List.mem_append.1 hq with hq | hq
      · have := am2 q hq; exact ⟨this.1, this.2.1⟩
      · have := am3 q hq; exact ⟨this.1, this.2.1⟩
  have gH23 : Gr H2 H3 := by rw [hH3]; exact (Gl.push H2 t3).gr
  have mx3 := mx2.gr gH23
  have my3 := my.gr gH23
  have xS : ∀ e, (D.ag [x1, x2, x3]) = .ag e → ∀ q ∈ e, ∀ a ∈ muOf q, a ∉ S := fun e he q hq a ha hh => by
    have h1 := mz3_lt mx2 e he q hq a ha
    have h2 := (hS a hh).1
    omega
  have yS : ∀ e, (D.ag [y1, y2, y3]) = .ag e → ∀ q ∈ e, ∀ a ∈ muOf q, a ∉ S := fun e he q hq a ha hh => by
    have h1 := mz3_lt my e he q hq a ha
    have h2 := (hS a hh).1
    omega
  -- want
  obtain ⟨xf1, xf2, xf3, H3a, gs1, fx1, sx1, sx2, sx3⟩ := mx3.fs xS
  obtain ⟨yf1, yf2, yf3, H4, gs2, fy1, sy1, sy2, sy3⟩ := (my3.gr gs1.1.gr).fs yS
  obtain ⟨rw0, pw, aw⟩ := refMerge24 (a := a) (b := b) ⟨xf1, xf2, xf3, rfl, sx1, sx2, sx3⟩ ⟨yf1, yf2, yf3, rfl, sy1, sy2, sy3⟩ (la.up (by omega)) (lb.up (by omega))
  obtain ⟨want, H5, cw, ⟨t5, hH5⟩, mw, lw⟩ := Aw3.ret (V := V) (f := 24) (vf := v24) rfl rfl (fls_cons fx1 (fls_cons fy1 (fls_nil _))) pw aw
  have g35 : Gs S H3 H5 := (gs1.trans gs2).trans (by rw [hH5]; exact .push _ _ _)
  have lm : (merge a b).le 80 := by
    have h1 := merge_len a.p b.p
    have h2 := merge_len a.f b.f
    have h3 := merge_len a.t b.t
    obtain ⟨l1, l2, l3⟩ := la
    obtain ⟨k1, k2, k3⟩ := lb
    exact ⟨by simp only [merge]; omega, by simp only [merge]; omega, by simp only [merge]; omega⟩
  have wS : ∀ e, want = .ag e → ∀ q ∈ e, ∀ a ∈ muOf q, a ∉ S := fun e he q hq a ha hh => by
    have h1 := lw e he q hq a ha
    have h2 := (hS a hh).2
    have h3 := (gs1.trans gs2).1.1
    omega
  obtain ⟨wb, H7, cwb, gs3, mwb⟩ := back_heap (S := S) mw (lm.up (by omega)) wS
  have mw' := mw
  obtain ⟨w1, w2, w3, rfl, _⟩ := mw'
  have g37 := g35.trans gs3
  have s1 : ∀ q ∈ muOf m1, q ∈ S := fun q hq => List.mem_append_left _ hq
  have s2 : ∀ q ∈ muOf m2, q ∈ S := fun q hq => List.mem_append_right _ (List.mem_append_left _ hq)
  have s3 : ∀ q ∈ muOf m3, q ∈ S := fun q hq => List.mem_append_right _ (List.mem_append_right _ hq)
  have mm : ∀ H, Gs S H3 H → MzRd (merge a b) H (.ag [m1, m2, m3]) := fun H g => ⟨m1, m2, m3, rfl, .inl (mm1.gs g s1).ms, .inl (mm2.gs g s2).ms, .inl (mm3.gs g s3).ms,
    nod3.2 ⟨fun q h1 h2 => (am2 q h2).2.2 h1, fun q h1 h2 => (am3 q h2).2.2.1 h1, fun q h1 h2 => (am3 q h2).2.2.2 h1⟩⟩
  have c23 := same23 (mz_rs (mm H7 g37)) (mz_rs mwb) (lm.up (by omega))
  -- within
  obtain ⟨n22, c22⟩ := PRet.plain (f := 22) (vf := v22) rfl rfl H7 (ds := [.ag [x, y, zc], .ag [x', y', zc']]) (by simp [pa, pb]) (within22 ka kb la4 lb4) rfl
  have mx7 := mx3.gr g37.1.gr
  have my7 := my3.gr g37.1.gr
  obtain ⟨xg1, xg2, xg3, H7a, gs4, fx2, tx1, tx2, tx3⟩ := mx7.fs xS
  obtain ⟨yg1, yg2, yg3, H8, gs5, fy2, ty1, ty2, ty3⟩ := (my7.gr gs4.1.gr).fs yS
  have c26 := PN.rn (V := V) (f := 26) (vf := v26) rfl rfl (fls_cons fx2 (fls_cons fy2 (fls_nil _))) (refWithin26 (a := a) (b := b) ⟨xg1, xg2, xg3, rfl, tx1, tx2, tx3⟩ ⟨yg1, yg2, yg3, rfl, ty1, ty2, ty3⟩ la4 lb4)
  rw [place_flat rfl] at c26
  have g38 := g37.trans (gs4.trans gs5)
  -- news
  have pf : fs.flat = true := hfs.flat
  have pp : (D.ag [.s n0, defs, ts, cs]).plain = true := by
    have e1 := hts.flat
    have e2 := hcs.flat
    simp only [D.plain, List.all_cons, List.all_nil, hdefs, e1, e2, Bool.and_true]; rfl
  have pfs : fs.plain = true := by cases hfs <;> rfl
  obtain ⟨n27, c27⟩ := PRet.plain (f := 27) (vf := v27) rfl rfl H8 (ds := [.ag [.s n0, defs, ts, cs], fs, .ag [x, y, zc], .i .i64 fro, .i .i64 til]) (by simp [pa, pp, pfs]; exact ⟨rfl, rfl⟩) (news27 ka la4 hfs hts hcs hfr hcr htr (by omega) (by omega) (by omega) hbig) rfl
  have mx8 := mx3.gr g38.1.gr
  obtain ⟨xh1, xh2, xh3, H9, gs6, fx3, ux1, ux2, ux3⟩ := mx8.fs xS
  obtain ⟨n28, c28⟩ := Ret.pure (V := V) (f := 28) (vf := v28) rfl rfl (fls_cons (fun m => plain_freeze pp m H8) (fls_cons (fun m => plain_freeze pfs m H8) (fls_cons fx3 (fls_cons (fun m => plain_freeze (d := .i .i64 fro) rfl m H9) (fls_cons (fun m => plain_freeze (d := .i .i64 til) rfl m H9) (fls_nil H9)))))) (refNews28 (r := a) ⟨xh1, xh2, xh3, rfl, ux1, ux2, ux3⟩ la4 hfs hts hcs hfr hcr htr (by omega) (by omega) (by omega) hbig)
  rw [place_flat rfl] at c28
  have g39 := g38.trans gs6
  -- the run
  obtain ⟨n, hn⟩ : ∃ n, n = n7a + n7b + n21 + n22 + n27 + n28 + 200000 := ⟨_, rfl⟩
  have g8 := q8 n (by omega)
  have u7a := q7a n (by omega)
  have u7b := q7b n (by omega)
  have ux := cx n (by omega)
  have uy := cy n (by omega)
  have um := cm n (by omega)
  have uw := cw n (by omega)
  have uwb := cwb n (by omega)
  have u23 := c23 n (by omega)
  have u22 := c22 n (by omega)
  have u26 := c26 n (by omega)
  have u27 := c27 n (by omega)
  have u28 := c28 n (by omega)
  obtain ⟨ex, s', e1, ⟨hb, _⟩ | ⟨_, rfl, i0, d0, d9, db0, rfl⟩⟩ := rows5l0 hts htr (by omega) (n := n) (by omega) g8 (.ag [x, y, zc]) (.ag [x', y', zc']) (.ag [.s n0, defs, ts, cs]) fs (.i .i64 fro) (.i .i64 til) (.b false) (.b false) .u .u .u .u (.bx [x, y, zc]) (.bx [x', y', zc']) (.bx [.s n0, defs, ts, cs]) .u .u .u .u .u .u .u .u .u .u .u .u .u .u .u .u
  · rw [cb] at hb; cases hb
  -- writing
  have mk1 := mm1.gs g39 s1
  have mk2 := mm2.gs g39 s2
  have mk3 := mm3.gs g39 s3
  have len1 := fun H => mk1.ms.len (H' := H)
  have len2 := fun H => mk2.ms.len (H' := H)
  have len3 := fun H => mk3.ms.len (H' := H)
  simp only [List.length_map] at len1 len2 len3
  obtain ⟨ex, s', e2, rfl, k1, i1, cu1, H10, rfl, gx1, pr1⟩ := wr5l1 (S := S) (m1 := m1) (m2 := m2) (m3 := m3) mk1 s1 (Nat.le_trans lm.1 (by omega)) (n := n) (by omega) (.ag [x, y, zc]) (.ag [x', y', zc']) (.ag [.s n0, defs, ts, cs]) fs (.i .i64 fro) (.i .i64 til) (.b false) (.b false) d0 d9 (.b false) .u .u .u (.bx [x, y, zc]) (.bx [x', y', zc']) (.bx [.s n0, defs, ts, cs]) i0 (.i .i64 (trows.length : Nat)) ts db0 (.bx [x1, x2, x3]) (.bx [y1, y2, y3]) (.bx [w1, w2, w3]) .u .u .u .u .u .u .u
  obtain ⟨ex, s', e3, rfl, k2, i2, cu2, H11, rfl, gx2, pr2⟩ := wr5l2 (S := S) (m1 := m1) (m2 := m2) (m3 := m3) (pr1 _ _ _ mk2 (fun q h1 h2 => (am2 q h2).2.2 h1)) s2 (Nat.le_trans lm.2.1 (by omega)) (n := n) (by omega) (.ag [x, y, zc]) (.ag [x', y', zc']) (.ag [.s n0, defs, ts, cs]) fs (.i .i64 fro) (.i .i64 til) (.b false) (.b false) d0 d9 (.b false) k1 .u .u (.bx [x, y, zc]) (.bx [x', y', zc']) (.bx [.s n0, defs, ts, cs]) i0 (.i .i64 (trows.length : Nat)) ts db0 (.bx [x1, x2, x3]) (.bx [y1, y2, y3]) (.bx [w1, w2, w3]) i1 (.i .i64 ((merge a b).p.length : Nat)) cu1 .u .u .u .u
  obtain ⟨ex, s', e4, rfl, k3, i3, cu3, H12, rfl, gx3, _⟩ := wr5l3 (S := S) (m1 := m1) (m2 := m2) (m3 := m3) (pr2 _ _ _ (pr1 _ _ _ mk3 (fun q h1 h2 => (am3 q h2).2.2.1 h1)) (fun q h1 h2 => (am3 q h2).2.2.2 h1)) s3 (Nat.le_trans lm.2.2 (by omega)) (fun q hq => (mem_merge _ _ q hq).elim (bta q) (btb q)) (n := n) (by omega) (.ag [x, y, zc]) (.ag [x', y', zc']) (.ag [.s n0, defs, ts, cs]) fs (.i .i64 fro) (.i .i64 til) (.b false) (.b false) d0 d9 (.b false) k1 k2 .u (.bx [x, y, zc]) (.bx [x', y', zc']) (.bx [.s n0, defs, ts, cs]) i0 (.i .i64 (trows.length : Nat)) ts db0 (.bx [x1, x2, x3]) (.bx [y1, y2, y3]) (.bx [w1, w2, w3]) i1 (.i .i64 ((merge a b).p.length : Nat)) cu1 i2 (.i .i64 ((merge a b).f.length : Nat)) cu2 .u
  have gx := (gx1.trans gx2).trans gx3
  have mx12 := (mx3.gr g39.1.gr).gx gx xS
  have my12 := (my3.gr g39.1.gr).gx gx yS
  obtain ⟨wx, H13, cwx, gs7, mwx⟩ := back_heap (S := []) mx12 la4 (fun _ _ _ _ _ _ h => by cases h)
  have c23x := same23 (is_rs ka H13) (mz_rs mwx) (la.up (by omega))
  obtain ⟨wy, H14, cwy, gs8, mwy⟩ := back_heap (S := []) (my12.gr gs7.1.gr) lb4 (fun _ _ _ _ _ _ h => by cases h)
  have c23y := same23 (is_rs kb H14) (mz_rs mwy) (lb.up (by omega))
  have c8 : RN V 300 8 [] H14 (.b true) H14 := PN.plain (vf := v8) rfl rfl H14 rfl awake8 rfl
  have vwx := cwx n (by omega)
  have v23x := c23x n (by omega)
  have vwy := cwy n (by omega)
  have v23y := c23y n (by omega)
  have v8' := c8 n (by omega)
  have eqs : ∀ q : Bool, eqvD true .b (.b q) (.b q) = some (.b false) := fun q => by cases q <;> rfl
  generalize newsB a fro til frows crows trows = nb at u27 u28
  generalize withinB a b = wb0 at u22 u26
  refine PRet.at (vf := v5) (d0 := .b true) (H := H14) rfl n ?_ rfl rfl
  rw [hent]
  simp only [v5, exec_seq, exec_cond, exec_block, exec_skip, exec_reg, exec_drawn, seqK_nm, condK_f, blockK_ex, ops_cons, ops_nil, opsW_t, opsF_t, opsK_v, wants_none, wants_some, wantK_ff, fits_none, fits_f, rd_lld, rd_call, step_call, toR_ret, ev_l, ev_s, ev_c, ab_sl, ab_lo, abS_bx, abL_lp, ofO_some, step_mov, step_pick, pick_f, step_lbx, step_lfa, lfaR_s, step_lld, lldR_s, lldB_bx, lldC_s, val_t, val_f, step_bin, bin_gtr, step_un, un_not, step_len, cells_ag, setSl, cut, List.getD_cons_zero, List.getD_cons_succ, List.getElem?_cons_zero, List.getElem?_cons_succ, List.set_cons_zero, List.set_cons_succ, List.nil_append, List.cons_append, List.length_cons, List.length_nil, List.drop_succ_cons, List.drop_zero, List.take_succ_cons, List.take_zero, List.take_nil, List.map_cons, List.map_nil, List.all_nil, List.replicate_succ, List.replicate_zero, Nat.reduceAdd, Nat.reduceSub, Nat.reduceLeDiff, Nat.le_refl, Nat.zero_add, if_true, Bool.not_true, Option.map_some, u7a, u7b, lcs, lts, lfs, c30, c6, c40, exec_loop, e1]
  simp only [exec_seq, exec_cond, exec_skip, exec_reg, exec_drawn, seqK_nm, condK_f, ops_cons, ops_nil, opsW_t, opsF_t, opsK_v, wants_none, wants_some, wantK_ff, fits_none, fits_f, rd_mov, rd_pick, rd_lal, rd_lld, rd_lst, rd_eqv, rd_un, rd_call, step_call, toR_ret, ev_l, ev_s, ev_c, ab_sl, ab_lo, abS_bx, abL_lp, ofO_some, step_mov, step_pick, pick_f, step_lal, step_lfa, lfaR_s, step_lld, lldR_s, lldB_bx, lldC_s, step_lst, lstR_s, lstB_bx, lstC_s, val_t, val_f, step_eqv, step_un, un_not, step_len, cells_ag, setSl, cut, put, List.getD_cons_zero, List.getD_cons_succ, List.getElem?_cons_zero, List.getElem?_cons_succ, List.set_cons_zero, List.set_cons_succ, List.nil_append, List.cons_append, List.append_nil, List.length_cons, List.length_nil, List.drop_succ_cons, List.drop_zero, List.drop_nil, List.take_succ_cons, List.take_zero, List.take_nil, List.map_cons, List.map_nil, List.all_nil, Nat.reduceAdd, Nat.reduceLeDiff, Nat.le_refl, Nat.zero_add, if_true, Bool.not_true, Nat.add_zero, ux, uy, um, uw, uwb, u23, u22, u26, u27, u28, eqs]
  simp only [exec_seq, exec_block, exec_reg, seqK_nm, blockK_ex, ops_cons, ops_nil, opsW_t, opsF_t, opsK_v, wants_none, fits_none, ev_l, ev_c, ab_sl, ab_lo, abS_bx, abL_lp, ofO_some, step_mov, step_lfa, lfaR_s, step_lld, lldR_s, lldB_bx, lldC_s, val_f, step_len, setSl, cut, List.getD_cons_zero, List.getD_cons_succ, List.getElem?_cons_zero, List.getElem?_cons_succ, List.set_cons_zero, List.set_cons_succ, List.nil_append, List.cons_append, List.length_cons, List.length_nil, List.drop_succ_cons, List.drop_zero, List.take_succ_cons, List.take_zero, Nat.reduceAdd, Nat.reduceLeDiff, Nat.zero_add, if_true, len1, exec_loop, e2]
  simp only [exec_seq, exec_block, exec_reg, seqK_nm, blockK_ex, ops_cons, ops_nil, opsW_t, opsF_t, opsK_v, wants_none, fits_none, ev_l, ev_c, ab_sl, ab_lo, abS_bx, abL_lp, ofO_some, step_mov, step_lfa, lfaR_s, step_lld, lldR_s, lldB_bx, lldC_s, val_f, step_len, setSl, cut, List.getD_cons_zero, List.getD_cons_succ, List.getElem?_cons_zero, List.getElem?_cons_succ, List.set_cons_zero, List.set_cons_succ, List.nil_append, List.cons_append, List.length_cons, List.length_nil, List.drop_succ_cons, List.drop_zero, List.take_succ_cons, List.take_nil, Nat.reduceAdd, Nat.le_refl, Nat.zero_add, if_true, len2, exec_loop, e3]
  simp only [exec_seq, exec_block, exec_drawn, seqK_nm, blockK_ex, ops_cons, ops_nil, opsW_t, opsF_t, opsK_v, wants_none, fits_none, fits_f, rd_lld, rd_call, step_call, ev_l, ev_c, ab_sl, abS_bx, ofO_some, step_mov, step_lld, lldR_s, lldB_bx, lldC_s, val_t, setSl, cut, List.getD_cons_zero, List.getD_cons_succ, List.getElem?_cons_zero, List.getElem?_cons_succ, List.set_cons_zero, List.set_cons_succ, List.nil_append, List.cons_append, List.length_cons, List.length_nil, List.drop_zero, List.take_succ_cons, List.take_nil, List.map_cons, List.map_nil, List.all_nil, Nat.reduceAdd, Nat.le_refl, Nat.zero_add, if_true, len3, exec_loop, e4]
  simp only [exec_ret, seqK_nm, ops_cons, ops_nil, opsW_t, opsF_t, opsK_v, wants_none, wants_some, wantK_tt, fits_f, rd_mov, rd_pick, rd_lld, rd_call, step_call, toR_ret, ev_l, ev_c, ab_sl, abS_bx, ofO_some, step_mov, step_pick, pick_t, step_lld, lldR_s, lldB_bx, lldC_s, val_t, setSl, cut, List.getD_cons_zero, List.getD_cons_succ, List.getElem?_cons_zero, List.getElem?_cons_succ, List.set_cons_zero, List.set_cons_succ, List.nil_append, List.cons_append, List.length_cons, List.length_nil, List.drop_zero, List.take_succ_cons, List.take_nil, List.map_cons, List.map_nil, List.all_nil, Nat.reduceAdd, Nat.le_refl, Nat.zero_add, if_true, vwx, v23x, vwy, v23y, v8']
  exact entK_rt (ds := [.b true]) rfl rfl
end Go.Proofs.Ytkogdbgccjmaoaa.Dv
