/-
  News of layer 25 over the machine.
-/
import Derived.Test.YtkogdbgccjmaoaaAr
import Derived.Test.YtkogdbgccjmaoaaMf
namespace Go.Proofs.Ytkogdbgccjmaoaa.Dv
open Go.Dm

/-- Is it news: by a fact's, a clause's, a row's, a table's cells. -/
def newF (r : Rd) (fro til : Int) : List D → Bool
  | .s key :: .i _ fr :: .i _ t :: .i _ kn :: _ => decide (fro < kn) && factB r key fr t kn til
  | _ => false
def newC (r : Rd) (fro til : Int) : List D → Bool
  | .s nm :: _ :: .i _ fr :: .i _ t :: .i _ kn :: _ => decide (fro < kn) && clauseB r nm fr t kn til
  | _ => false
def newR (r : Rd) (fro til : Int) (nm : List UInt8) : List D → Bool
  | _ :: _ :: .i _ kn :: _ => decide (fro < kn) && rowB r nm kn til
  | _ => false
def rowsD : D → List (List D)
  | .im _ rows => rows
  | _ => []
def newT (r : Rd) (fro til : Int) : List D → Bool
  | [.s nm, _, rs] => (rowsD rs).any (newR r fro til nm)
  | _ => false
theorem rowsD_sl {w : Nat} {rows : List (List D)} {x : D} (h : Sl w rows x) : rowsD x = rows := by
  cases h with
  | nil h => rw [h]; rfl
  | z h => rw [h]; rfl
  | im => rfl

/-- The boxes that the closures share. -/
def J3 (dr : List D) (fro til : Int) (H : Heap) : Prop := H[0]? = some (.bx dr) ∧ H[1]? = some (.bx [.i .i64 fro]) ∧ H[2]? = some (.bx [.i .i64 til])
theorem J3.push {dr : List D} {fro til : Int} {H : Heap} (h : J3 dr fro til H) (b : Blk) : J3 dr fro til (H ++ [b]) := by
  have hl : 2 < H.length := lt_of_get h.2.2
  exact ⟨by rw [List.getElem?_append_left (by omega)]; exact h.1, by rw [List.getElem?_append_left (by omega)]; exact h.2.1, by rw [List.getElem?_append_left hl]; exact h.2.2⟩

section
variable {r : Rd} {x y zc : D} {fro til : Int}

theorem news48 (h : IsRd r (.ag [x, y, zc])) (hl : r.le 40000) {H : Heap} (hJ : J3 [x, y, zc] fro til H) {row : List D} (hr : FactRow row) : Ret V 48 [.ag row, .hp 1 0, .hp 0 0, .hp 2 0] H (.b (newF r fro til row)) H := by
  obtain ⟨key, fr, t, kn, c4, c5, c6, c7, c8, c9, c10, rfl, hf⟩ := hr
  obtain ⟨j0, j1, j2⟩ := hJ
  have hp := rd_plain h
  obtain ⟨N, hN⟩ := PRet.plain (f := 10) (vf := v10) rfl rfl H (ds := [.ag [x, y, zc], .ag (factD key fr t kn c4 c5 c6 c7 c8 c9 c10), .i .i64 til]) (by
    simp only [List.all_cons, List.all_nil, hp, Bool.and_true, Bool.true_and]
    simp only [D.plain, D.flat, Bool.and_true]
    simpa using hf) (fact10 h hl) rfl
  refine .impure (vf := v48) rfl rfl N (fun n hn => ?_)
  have hent := enter_eq (V := V) (cl := call V n) (n := n) v48 [.ag (factD key fr t kn c4 c5 c6 c7 c8 c9 c10), .hp 1 0, .hp 0 0, .hp 2 0] H rfl
  rw [hent]
  have hc := hN n hn
  have e : newF r fro til (factD key fr t kn c4 c5 c6 c7 c8 c9 c10) = (decide (fro < kn) && factB r key fr t kn til) := rfl
  rw [e]
  simp only [factD] at hc
  cases c0 : decide (fro < kn) with
  | false =>
    simp only [v48, factD, exec_seq, exec_ret, exec_reg, seqK_nm, ops_cons, ops_nil, opsW_t, opsW_f, opsF_t, opsK_v, wants_none, wants_some, wantK_tf, fits_none, ev_l, ev_s, ev_c, ab_sl, ab_lo, abS_bx, abL_lp, ofO_some, step_mov, step_pick, pick_f, step_lbx, step_lfa, lfaR_s, step_lld, lldR_s, lldB_bx, lldC_s, step_ld, ldR_s, ld_hp, hpL_bx, val_f, step_bin, bin_gtr, cells_ag, setSl, cut, List.getD_cons_zero, List.getD_cons_succ, List.getElem?_cons_zero, List.getElem?_cons_succ, List.set_cons_zero, List.set_cons_succ, List.nil_append, List.cons_append, List.length_cons, List.length_nil, List.drop_succ_cons, List.drop_zero, List.take_succ_cons, List.take_zero, List.take_nil, List.replicate_succ, List.replicate_zero, Bool.false_and, Nat.reduceAdd, Nat.reduceSub, Nat.reduceLeDiff, Nat.le_refl, Nat.zero_add, if_true, Option.map_some, j1, c0]
    exact entK_rt (ds := [.b false]) rfl rfl
  | true =>
    simp only [v48, factD, exec_seq, exec_ret, exec_reg, seqK_nm, ops_cons, ops_nil, opsW_t, opsF_t, opsK_v, wants_none, wants_some, wantK_tt, fits_none, step_call, toR_ret, ev_l, ev_s, ev_c, ab_sl, ab_lo, abS_bx, abL_lp, ofO_some, step_mov, step_pick, pick_t, step_lbx, step_lfa, lfaR_s, step_lld, lldR_s, lldB_bx, lldC_s, step_ld, ldR_s, ld_hp, hpL_bx, val_t, val_f, step_bin, bin_gtr, cells_ag, setSl, cut, List.getD_cons_zero, List.getD_cons_succ, List.getElem?_cons_zero, List.getElem?_cons_succ, List.set_cons_zero, List.set_cons_succ, List.nil_append, List.cons_append, List.length_cons, List.length_nil, List.drop_succ_cons, List.drop_zero, List.take_succ_cons, List.take_zero, List.take_nil, List.map_cons, List.map_nil, List.replicate_succ, List.replicate_zero, Bool.true_and, Nat.reduceAdd, Nat.reduceSub, Nat.reduceLeDiff, Nat.le_refl, Nat.zero_add, if_true, Option.map_some, j0, j1, j2, c0, hc]
    exact entK_rt (ds := [.b _]) rfl rfl

theorem news50 (h : IsRd r (.ag [x, y, zc])) (hl : r.le 40000) {H : Heap} (hJ : J3 [x, y, zc] fro til H) {row : List D} (hr : ClauseRow row) : Ret V 50 [.ag row, .hp 1 0, .hp 0 0, .hp 2 0] H (.b (newC r fro til row)) H := by
  obtain ⟨nm, lb, fr, t, kn, c5, c6, c7, c8, c9, c10, c11, c12, c13, c14, c15, c16, c17, c18, c19, c20, c21, c22, c23, rfl, hf⟩ := hr
  obtain ⟨j0, j1, j2⟩ := hJ
  have hp := rd_plain h
  obtain ⟨N, hN⟩ := PRet.plain (f := 12) (vf := v12) rfl rfl H (ds := [.ag [x, y, zc], .ag (clauseD nm lb fr t kn c5 c6 c7 c8 c9 c10 c11 c12 c13 c14 c15 c16 c17 c18 c19 c20 c21 c22 c23), .i .i64 til]) (by
    simp only [List.all_cons, List.all_nil, hp, Bool.and_true, Bool.true_and]
    simp only [D.plain, D.flat, Bool.and_true]
    simpa using hf) (clause12 h hl) rfl
  refine .impure (vf := v50) rfl rfl N (fun n hn => ?_)
  have hent := enter_eq (V := V) (cl := call V n) (n := n) v50 [.ag (clauseD nm lb fr t kn c5 c6 c7 c8 c9 c10 c11 c12 c13 c14 c15 c16 c17 c18 c19 c20 c21 c22 c23), .hp 1 0, .hp 0 0, .hp 2 0] H rfl
  rw [hent]
  have hc := hN n hn
  have e : newC r fro til (clauseD nm lb fr t kn c5 c6 c7 c8 c9 c10 c11 c12 c13 c14 c15 c16 c17 c18 c19 c20 c21 c22 c23) = (decide (fro < kn) && clauseB r nm fr t kn til) := rfl
  rw [e]
  simp only [clauseD] at hc
  cases c0 : decide (fro < kn) with
  | false =>
    simp only [v50, clauseD, exec_seq, exec_ret, exec_reg, seqK_nm, ops_cons, ops_nil, opsW_t, opsW_f, opsF_t, opsK_v, wants_none, wants_some, wantK_tf, fits_none, ev_l, ev_s, ev_c, ab_sl, ab_lo, abS_bx, abL_lp, ofO_some, step_mov, step_pick, pick_f, step_lbx, step_lfa, lfaR_s, step_lld, lldR_s, lldB_bx, lldC_s, step_ld, ldR_s, ld_hp, hpL_bx, val_f, step_bin, bin_gtr, cells_ag, setSl, cut, List.getD_cons_zero, List.getD_cons_succ, List.getElem?_cons_zero, List.getElem?_cons_succ, List.set_cons_zero, List.set_cons_succ, List.nil_append, List.cons_append, List.length_cons, List.length_nil, List.drop_succ_cons, List.drop_zero, List.take_succ_cons, List.take_zero, List.take_nil, List.replicate_succ, List.replicate_zero, Bool.false_and, Nat.reduceAdd, Nat.reduceSub, Nat.reduceLeDiff, Nat.le_refl, Nat.zero_add, if_true, Option.map_some, j1, c0]
    exact entK_rt (ds := [.b false]) rfl rfl
  | true =>
    simp only [v50, clauseD, exec_seq, exec_ret, exec_reg, seqK_nm, ops_cons, ops_nil, opsW_t, opsF_t, opsK_v, wants_none, wants_some, wantK_tt, fits_none, step_call, toR_ret, ev_l, ev_s, ev_c, ab_sl, ab_lo, abS_bx, abL_lp, ofO_some, step_mov, step_pick, pick_t, step_lbx, step_lfa, lfaR_s, step_lld, lldR_s, lldB_bx, lldC_s, step_ld, ldR_s, ld_hp, hpL_bx, val_t, val_f, step_bin, bin_gtr, cells_ag, setSl, cut, List.getD_cons_zero, List.getD_cons_succ, List.getElem?_cons_zero, List.getElem?_cons_succ, List.set_cons_zero, List.set_cons_succ, List.nil_append, List.cons_append, List.length_cons, List.length_nil, List.drop_succ_cons, List.drop_zero, List.take_succ_cons, List.take_zero, List.take_nil, List.map_cons, List.map_nil, List.replicate_succ, List.replicate_zero, Bool.true_and, Nat.reduceAdd, Nat.reduceSub, Nat.reduceLeDiff, Nat.le_refl, Nat.zero_add, if_true, Option.map_some, j0, j1, j2, c0, hc]
    exact entK_rt (ds := [.b _]) rfl rfl

theorem news54 (h : IsRd r (.ag [x, y, zc])) (hl : r.le 40000) {H : Heap} (hJ : J3 [x, y, zc] fro til H) {b : Nat} {nm : List UInt8} {two rs : D} (hb : H[b]? = some (.bx [.s nm, two, rs])) {row : List D} (hr : RowRow row) : Ret V 54 [.ag row, .hp 1 0, .hp 0 0, .hp b 0, .hp 2 0] H (.b (newR r fro til nm row)) H := by
  obtain ⟨c0, c1, kn, c3, c4, c5, c6, rfl, hf⟩ := hr
  obtain ⟨j0, j1, j2⟩ := hJ
  have hp := rd_plain h
  obtain ⟨N, hN⟩ := PRet.plain (f := 14) (vf := v14) rfl rfl H (ds := [.ag [x, y, zc], .s nm, .ag [c0, c1, .i .i64 kn, c3, c4, c5, c6], .i .i64 til]) (by
    simp only [List.all_cons, List.all_nil, hp, Bool.and_true, Bool.true_and]
    simp only [D.plain, D.flat, Bool.and_true, Bool.true_and]
    simpa using hf) (row14 h hl nm c0 c1 kn til c3 c4 c5 c6) rfl
  refine .impure (vf := v54) rfl rfl N (fun n hn => ?_)
  have hent := enter_eq (V := V) (cl := call V n) (n := n) v54 [.ag [c0, c1, .i .i64 kn, c3, c4, c5, c6], .hp 1 0, .hp 0 0, .hp b 0, .hp 2 0] H rfl
  rw [hent]
  have hc := hN n hn
  have e : newR r fro til nm [c0, c1, .i .i64 kn, c3, c4, c5, c6] = (decide (fro < kn) && rowB r nm kn til) := rfl
  rw [e]
  cases q0 : decide (fro < kn) with
  | false =>
    simp only [v54, exec_seq, exec_ret, exec_reg, seqK_nm, ops_cons, ops_nil, opsW_t, opsW_f, opsF_t, opsK_v, wants_none, wants_some, wantK_tf, fits_none, ev_l, ev_s, ev_c, ab_sl, ab_lo, abS_bx, abL_lp, ofO_some, step_mov, step_pick, pick_f, step_lbx, step_lfa, lfaR_s, step_lld, lldR_s, lldB_bx, lldC_s, step_ld, ldR_s, ld_hp, hpL_bx, val_f, step_bin, bin_gtr, cells_ag, setSl, cut, List.getD_cons_zero, List.getD_cons_succ, List.getElem?_cons_zero, List.getElem?_cons_succ, List.set_cons_zero, List.set_cons_succ, List.nil_append, List.cons_append, List.length_cons, List.length_nil, List.drop_succ_cons, List.drop_zero, List.take_succ_cons, List.take_zero, List.take_nil, List.replicate_succ, List.replicate_zero, Bool.false_and, Nat.reduceAdd, Nat.reduceSub, Nat.reduceLeDiff, Nat.le_refl, Nat.zero_add, if_true, Option.map_some, j1, q0]
    exact entK_rt (ds := [.b false]) rfl rfl
  | true =>
    simp only [v54, exec_seq, exec_ret, exec_reg, seqK_nm, ops_cons, ops_nil, opsW_t, opsF_t, opsK_v, wants_none, wants_some, wantK_tt, fits_none, step_call, toR_ret, ev_l, ev_s, ev_c, ab_sl, ab_lo, abS_bx, abL_lp, ofO_some, step_mov, step_pick, pick_t, step_lbx, step_lfa, lfaR_s, step_lld, lldR_s, lldB_bx, lldC_s, step_fad, fad_hp, step_ld, ldR_s, ld_hp, hpL_bx, val_t, val_f, step_bin, bin_gtr, cells_ag, setSl, cut, List.getD_cons_zero, List.getD_cons_succ, List.getElem?_cons_zero, List.getElem?_cons_succ, List.set_cons_zero, List.set_cons_succ, List.nil_append, List.cons_append, List.length_cons, List.length_nil, List.drop_succ_cons, List.drop_zero, List.take_succ_cons, List.take_zero, List.take_nil, List.map_cons, List.map_nil, List.replicate_succ, List.replicate_zero, Bool.true_and, Nat.reduceAdd, Nat.reduceSub, Nat.reduceLeDiff, Nat.le_refl, Nat.zero_add, if_true, Nat.add_zero, Option.map_some, j0, j1, j2, hb, q0, hc]
    exact entK_rt (ds := [.b _]) rfl rfl

theorem news52 (h : IsRd r (.ag [x, y, zc])) (hl : r.le 40000) {H : Heap} (hJ : J3 [x, y, zc] fro til H) {row : List D} (hr : TableRow row) (hlen : ∀ nm two rs, row = [.s nm, two, rs] → (rowsD rs).length ≤ 40000) : ∃ H', Ret V 52 [.ag row, .hp 1 0, .hp 0 0, .hp 2 0] H (.b (newT r fro til row)) H' ∧ J3 [x, y, zc] fro til H' := by
  obtain ⟨nm, two, rs, rows, rfl, htwo, hs, hrow⟩ := hr
  have hle := hlen nm two rs rfl
  rw [rowsD_sl hs] at hle
  have hJ' := hJ.push (.bx [.s nm, two, rs])
  have hb : (H ++ [Blk.bx [.s nm, two, rs]])[H.length]? = some (.bx [.s nm, two, rs]) := by simp
  obtain ⟨N, hN⟩ := cf_ret (V := V) (f := 53) (h := 74) (w := 7) (agg := true) rfl rfl hs (H := H ++ [.bx [.s nm, two, rs]]) (g := 54) (cp := [.hp 1 0, .hp 0 0, .hp H.length 0, .hp 2 0]) (newR r fro til nm) (fun r => .ag r) (fun row hr => by
      obtain ⟨c0, c1, kn, c3, c4, c5, c6, rfl, _⟩ := hrow row hr
      exact ⟨rfl, rfl⟩) (fun row hr => news54 h hl hJ' hb (hrow row hr)) (by omega)
  refine ⟨_, .impure (vf := v52) rfl rfl N (fun n hn => ?_), hJ'⟩
  have hent := enter_eq (V := V) (cl := call V n) (n := n) v52 [.ag [.s nm, two, rs], .hp 1 0, .hp 0 0, .hp 2 0] H rfl
  rw [hent]
  have hc := hN n hn
  have e : newT r fro til [.s nm, two, rs] = rows.any (newR r fro til nm) := by simp only [newT, rowsD_sl hs]
  rw [e]
  simp only [v52, exec_seq, exec_ret, exec_reg, seqK_nm, ops_cons, ops_nil, opsW_t, opsF_t, opsK_v, wants_none, fits_none, step_call, toR_ret, ev_l, ev_s, ev_c, ofO_some, ofP_some, step_mov, step_hbx, step_fad, fad_hp, step_ld, ldR_s, ld_hp, hpL_bx, val_f, step_mkf, cells_ag, setSl, cut, List.getD_cons_zero, List.getD_cons_succ, List.set_cons_zero, List.set_cons_succ, List.nil_append, List.cons_append, List.length_cons, List.length_nil, List.drop_succ_cons, List.drop_zero, List.take_succ_cons, List.take_nil, List.map_cons, List.map_nil, List.replicate_succ, List.replicate_zero, Nat.reduceAdd, Nat.reduceSub, Nat.le_refl, Nat.zero_add, if_true, Option.map_some, hb, hc]
  exact entK_rt (ds := [.b _]) rfl rfl

def newsB (r : Rd) (fro til : Int) (frows crows trows : List (List D)) : Bool := frows.any (newF r fro til) || (crows.any (newC r fro til) || trows.any (newT r fro til))

theorem news27 (h : IsRd r (.ag [x, y, zc])) (hl : r.le 40000) {n0 : List UInt8} {defs ts cs fs : D} {frows crows trows : List (List D)} (hfs : Sl 11 frows fs) (hts : Sl 3 trows ts) (hcs : Sl 24 crows cs) (hf : ∀ q ∈ frows, FactRow q) (hc : ∀ q ∈ crows, ClauseRow q) (ht : ∀ q ∈ trows, TableRow q)
    (lf : frows.length ≤ 40000) (lc : crows.length ≤ 40000) (lt : trows.length ≤ 40000) (lr : ∀ q ∈ trows, ∀ nm two rs, q = [.s nm, two, rs] → (rowsD rs).length ≤ 40000) :
    PRet V 27 [.ag [.s n0, defs, ts, cs], fs, .ag [x, y, zc], .i .i64 fro, .i .i64 til] (.b (newsB r fro til frows crows trows)) := by
  have hJ : J3 [x, y, zc] fro til [.bx [x, y, zc], .bx [.i .i64 fro], .bx [.i .i64 til]] := ⟨rfl, rfl, rfl⟩
  obtain ⟨N1, h1⟩ := cf_ret (V := V) (f := 47) (h := 71) (w := 11) (agg := true) rfl rfl hfs (H := [.bx [x, y, zc], .bx [.i .i64 fro], .bx [.i .i64 til]]) (g := 48) (cp := [.hp 1 0, .hp 0 0, .hp 2 0]) (newF r fro til) (fun r => .ag r) (fun row hr => by
      obtain ⟨key, fr, t, kn, c4, c5, c6, c7, c8, c9, c10, rfl, _⟩ := hf row hr
      exact ⟨rfl, rfl⟩) (fun row hr => news48 h hl hJ (hf row hr)) (by omega)
  obtain ⟨N2, h2⟩ := cf_ret (V := V) (f := 49) (h := 72) (w := 24) (agg := true) rfl rfl hcs (H := [.bx [x, y, zc], .bx [.i .i64 fro], .bx [.i .i64 til]]) (g := 50) (cp := [.hp 1 0, .hp 0 0, .hp 2 0]) (newC r fro til) (fun r => .ag r) (fun row hr => by
      obtain ⟨nm, lb, fr, t, kn, c5, c6, c7, c8, c9, c10, c11, c12, c13, c14, c15, c16, c17, c18, c19, c20, c21, c22, c23, rfl, _⟩ := hc row hr
      exact ⟨rfl, rfl⟩) (fun row hr => news50 h hl hJ (hc row hr)) (by omega)
  obtain ⟨H3, _, N3, h3⟩ := cf_retJ (V := V) (f := 51) (h := 73) (w := 3) (agg := true) rfl rfl hts (J := J3 [x, y, zc] fro til) hJ (g := 52) (cp := [.hp 1 0, .hp 0 0, .hp 2 0]) (newT r fro til) (fun r => .ag r) (fun row hr => by
      obtain ⟨nm, two, rs, rows, rfl, _⟩ := ht row hr
      exact ⟨rfl, rfl⟩) (fun row hr H hJ => news52 h hl hJ (ht row hr) (lr row hr)) (by omega)
  have key : ∃ H', ∀ n, N1 + N2 + N3 ≤ n → enter V (call V n) n v27 [.ag [.s n0, defs, ts, cs], fs, .ag [x, y, zc], .i .i64 fro, .i .i64 til] [] = .ret (.b (newsB r fro til frows crows trows)) H' := by
    unfold newsB
    cases b1 : frows.any (newF r fro til) with
    | true =>
      refine ⟨[.bx [x, y, zc], .bx [.i .i64 fro], .bx [.i .i64 til]], fun n hn => ?_⟩
      have hent := enter_eq (V := V) (cl := call V n) (n := n) v27 [.ag [.s n0, defs, ts, cs], fs, .ag [x, y, zc], .i .i64 fro, .i .i64 til] [] rfl
      rw [hent]
      have c1 := h1 n (by omega)
      rw [b1] at c1
      simp only [v27, exec_seq, exec_cond, exec_ret, exec_reg, seqK_nm, seqK_rt, condK_t, ops_cons, ops_nil, opsW_t, opsF_t, opsK_v, wants_none, fits_none, step_call, toR_ret, ev_l, ev_s, ev_c, ofO_some, ofP_some, step_mov, step_lbx, step_hbx, step_mkf, cells_ag, cells_i, setSl, List.getD_cons_zero, List.getD_cons_succ, List.set_cons_zero, List.set_cons_succ, List.nil_append, List.cons_append, List.length_cons, List.length_nil, List.map_cons, List.map_nil, List.replicate_succ, List.replicate_zero, Nat.reduceAdd, Nat.reduceSub, Nat.zero_add, if_true, Option.map_some, c1]
      exact entK_rt (ds := [.b true]) rfl rfl
    | false =>
      cases b2 : crows.any (newC r fro til) with
      | true =>
        refine ⟨[.bx [x, y, zc], .bx [.i .i64 fro], .bx [.i .i64 til]], fun n hn => ?_⟩
        have hent := enter_eq (V := V) (cl := call V n) (n := n) v27 [.ag [.s n0, defs, ts, cs], fs, .ag [x, y, zc], .i .i64 fro, .i .i64 til] [] rfl
        rw [hent]
        have c1 := h1 n (by omega)
        rw [b1] at c1
        have c2 := h2 n (by omega)
        rw [b2] at c2
        simp only [v27, exec_seq, exec_cond, exec_skip, exec_ret, exec_reg, seqK_nm, seqK_rt, condK_t, condK_f, ops_cons, ops_nil, opsW_t, opsF_t, opsK_v, wants_none, fits_none, step_call, toR_ret, ev_l, ev_s, ev_c, ab_sl, ab_lo, abS_bx, abL_lp, ofO_some, ofP_some, step_mov, step_lbx, step_hbx, step_lfa, lfaR_s, step_lld, lldR_s, lldB_bx, lldC_s, val_f, step_mkf, cells_ag, cells_i, setSl, cut, List.getD_cons_zero, List.getD_cons_succ, List.getElem?_cons_zero, List.getElem?_cons_succ, List.set_cons_zero, List.set_cons_succ, List.nil_append, List.cons_append, List.length_cons, List.length_nil, List.drop_succ_cons, List.drop_zero, List.take_succ_cons, List.take_nil, List.map_cons, List.map_nil, List.replicate_succ, List.replicate_zero, Nat.reduceAdd, Nat.reduceSub, Nat.le_refl, Nat.zero_add, if_true, Option.map_some, c1, c2]
        exact entK_rt (ds := [.b true]) rfl rfl
      | false =>
        refine ⟨H3, fun n hn => ?_⟩
        have hent := enter_eq (V := V) (cl := call V n) (n := n) v27 [.ag [.s n0, defs, ts, cs], fs, .ag [x, y, zc], .i .i64 fro, .i .i64 til] [] rfl
        rw [hent]
        have c1 := h1 n (by omega)
        rw [b1] at c1
        have c2 := h2 n (by omega)
        rw [b2] at c2
        have c3 := h3 n (by omega)
        simp only [v27, exec_seq, exec_cond, exec_skip, exec_ret, exec_reg, seqK_nm, condK_f, ops_cons, ops_nil, opsW_t, opsF_t, opsK_v, wants_none, fits_none, step_call, toR_ret, ev_l, ev_s, ev_c, ab_sl, ab_lo, abS_bx, abL_lp, ofO_some, ofP_some, step_mov, step_lbx, step_hbx, step_lfa, lfaR_s, step_lld, lldR_s, lldB_bx, lldC_s, val_f, step_mkf, cells_ag, cells_i, setSl, cut, List.getD_cons_zero, List.getD_cons_succ, List.getElem?_cons_zero, List.getElem?_cons_succ, List.set_cons_zero, List.set_cons_succ, List.nil_append, List.cons_append, List.length_cons, List.length_nil, List.drop_succ_cons, List.drop_zero, List.take_succ_cons, List.take_zero, List.take_nil, List.map_cons, List.map_nil, List.replicate_succ, List.replicate_zero, Nat.reduceAdd, Nat.reduceSub, Nat.reduceLeDiff, Nat.le_refl, Nat.zero_add, if_true, Option.map_some, c1, c2, c3]
        exact entK_rt (ds := [.b _]) rfl rfl
  obtain ⟨H', hk⟩ := key
  exact PRet.of (vf := v27) rfl _ hk rfl rfl
end
end Go.Proofs.Ytkogdbgccjmaoaa.Dv
