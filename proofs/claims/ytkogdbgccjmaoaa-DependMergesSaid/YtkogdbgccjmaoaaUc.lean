/-
  Functions of layer 25 over the machine: does something touch what was examined.
-/
import Derived.Test.YtkogdbgccjmaoaaUa
namespace Go.Proofs.Ytkogdbgccjmaoaa.Dv
open Go.Dm

/-! ### Facts, clauses, rows, as they lie in structs -/

/-- Does a fact touch it? -/
def touchF (key : List UInt8) (fr to : Int) (x : List UInt8 × Int × Int) : Bool := decide (x.1 = key) && decide (max x.2.1 fr < min x.2.2 to)
def factB (r : Rd) (key : List UInt8) (fr to kn known : Int) : Bool := decide (kn ≤ known) && r.f.any (touchF key fr to)
def touchC (nm : List UInt8) (fr to : Int) (x : List UInt8 × Int) : Bool := decide (x.1 = nm) && (decide (fr ≤ x.2) && decide (x.2 < to))
def clauseB (r : Rd) (nm : List UInt8) (fr to kn known : Int) : Bool := decide (kn ≤ known) && r.p.any (touchC nm fr to)
def rowB (r : Rd) (nm : List UInt8) (kn known : Int) : Bool := decide (kn ≤ known) && inB nm r.t

def factD (key : List UInt8) (fr to kn : Int) (c4 c5 c6 c7 c8 c9 c10 : D) : List D := [.s key, .i .i64 fr, .i .i64 to, .i .i64 kn, c4, c5, c6, c7, c8, c9, c10]
def clauseD (nm : List UInt8) (lb : D) (fr to kn : Int) (c5 c6 c7 c8 c9 c10 c11 c12 c13 c14 c15 c16 c17 c18 c19 c20 c21 c22 c23 : D) : List D :=
  [.s nm, lb, .i .i64 fr, .i .i64 to, .i .i64 kn, c5, c6, c7, c8, c9, c10, c11, c12, c13, c14, c15, c16, c17, c18, c19, c20, c21, c22, c23]

section
variable {key : List UInt8} {fr to kn known : Int} {c4 c5 c6 c7 c8 c9 c10 : D}

theorem fact31 (x : List UInt8 × Int × Int) : Ret V 31 [eR.key x, .hp 0 0] [.bx (factD key fr to kn c4 c5 c6 c7 c8 c9 c10)] (.b (touchF key fr to x)) [.bx (factD key fr to kn c4 c5 c6 c7 c8 c9 c10)] := by
  obtain ⟨k, a, b⟩ := x
  refine .impure (vf := v31) rfl rfl 0 (fun n _ => ?_)
  have hent := enter_eq (V := V) (cl := call V n) (n := n) v31 [eR.key (k, a, b), .hp 0 0] [.bx (factD key fr to kn c4 c5 c6 c7 c8 c9 c10)] rfl
  rw [hent]
  have hk : eR.key (k, a, b) = .ag [.s k, .i .i64 a, .i .i64 b] := rfl
  unfold touchF
  rw [hk]
  cases c1 : decide (k = key) with
  | false =>
    simp only [v31, factD, exec_seq, exec_ret, exec_reg, seqK_nm, ops_cons, ops_nil, opsW_t, opsW_f, opsF_t, opsK_v, wants_none, wants_some, wantK_tf, fits_none, ev_l, ev_s, ev_c, ab_sl, ab_lo, abS_bx, abL_lp, ofO_some, step_mov, step_pick, pick_f, step_lbx, step_lfa, lfaR_s, step_lld, lldR_s, lldB_bx, lldC_s, step_fad, fad_hp, step_ld, ldR_s, ld_hp, hpL_bx, val_f, step_bin, bins_eql, cells_ag, setSl, cut, List.getD_cons_zero, List.getD_cons_succ, List.getElem?_cons_zero, List.getElem?_cons_succ, List.set_cons_zero, List.set_cons_succ, List.nil_append, List.cons_append, List.length_cons, List.length_nil, List.drop_zero, List.take_succ_cons, List.take_zero, List.replicate_succ, List.replicate_zero, Bool.false_and, Nat.reduceAdd, Nat.reduceSub, Nat.reduceLeDiff, Nat.zero_add, if_true, Nat.add_zero, Option.map_some, c1]
    exact entK_rt (ds := [.b false]) rfl rfl
  | true =>
    simp only [v31, factD, exec_seq, exec_ret, exec_reg, seqK_nm, ops_cons, ops_nil, opsW_t, opsF_t, opsK_v, wants_none, wants_some, wantK_tt, fits_none, ev_l, ev_s, ev_c, ab_sl, ab_lo, abS_bx, abL_lp, ofO_some, step_mov, step_pick, pick_t, step_lbx, step_lfa, lfaR_s, step_lld, lldR_s, lldB_bx, lldC_s, step_fad, fad_hp, step_ld, ldR_s, ld_hp, hpL_bx, val_f, step_bin, bin_lss, bins_eql, step_mx, step_mn, mx_two, mn_two, cells_ag, setSl, cut, List.getD_cons_zero, List.getD_cons_succ, List.getElem?_cons_zero, List.getElem?_cons_succ, List.set_cons_zero, List.set_cons_succ, List.nil_append, List.cons_append, List.length_cons, List.length_nil, List.drop_succ_cons, List.drop_zero, List.take_succ_cons, List.take_zero, List.take_nil, List.map_cons, List.map_nil, List.replicate_succ, List.replicate_zero, Bool.true_and, Nat.reduceAdd, Nat.reduceSub, Nat.reduceLeDiff, Nat.le_refl, Nat.zero_add, if_true, Nat.add_zero, Option.map_some, c1]
    exact entK_rt (ds := [.b _]) rfl rfl

theorem fact10 {r : Rd} {d : D} (h : IsRd r d) (hl : r.le 40000) : PRet V 10 [d, .ag (factD key fr to kn c4 c5 c6 c7 c8 c9 c10), .i .i64 known] (.b (factB r key fr to kn known)) := by
  obtain ⟨x, y, zc, rfl, h1, h2, h3⟩ := h
  obtain ⟨l1, l2, l3⟩ := hl
  obtain ⟨N, hN⟩ := cf_ret (V := V) (f := 30) (h := 57) (w := 3) (agg := true) rfl rfl h2 (H := [.bx (factD key fr to kn c4 c5 c6 c7 c8 c9 c10)]) (g := 31) (cp := [.hp 0 0])
    (fun r => match r with | [.s k, .i _ a, .i _ b] => touchF key fr to (k, a, b) | _ => false) (fun r => .ag r) (fun r hr => by
      obtain ⟨a, _, rfl⟩ := List.mem_map.1 hr
      exact ⟨eR_ok.cut a, rfl⟩) (fun r hr => by
      obtain ⟨a, _, rfl⟩ := List.mem_map.1 hr
      exact fact31 a) (by simp; omega)
  have hany : (r.f.map eR.enc).any (fun r => match r with | [.s k, .i _ a, .i _ b] => touchF key fr to (k, a, b) | _ => false) = r.f.any (touchF key fr to) := by
    rw [List.any_map]; rfl
  rw [hany] at hN
  refine PRet.of (vf := v10) (d0 := .b (factB r key fr to kn known)) (H := [.bx (factD key fr to kn c4 c5 c6 c7 c8 c9 c10)]) rfl N (fun n hn => ?_) rfl rfl
  have hent := enter_eq (V := V) (cl := call V n) (n := n) v10 [.ag [x, y, zc], .ag (factD key fr to kn c4 c5 c6 c7 c8 c9 c10), .i .i64 known] [] rfl
  rw [hent]
  have hc := hN n hn
  unfold factB
  cases c1 : decide (kn ≤ known) with
  | false =>
    simp only [v10, factD, exec_seq, exec_ret, exec_reg, seqK_nm, ops_cons, ops_nil, opsW_t, opsW_f, opsF_t, opsK_v, wants_none, wants_some, wantK_tf, fits_none, ev_l, ev_s, ev_c, ofO_some, ofP_some, step_mov, step_pick, pick_f, step_lbx, step_hbx, step_fad, fad_hp, step_ld, ldR_s, ld_hp, hpL_bx, val_f, step_bin, bin_leq, cells_ag, setSl, cut, List.getD_cons_zero, List.getD_cons_succ, List.getElem?_cons_zero, List.set_cons_zero, List.set_cons_succ, List.nil_append, List.cons_append, List.length_cons, List.length_nil, List.drop_succ_cons, List.drop_zero, List.take_succ_cons, List.take_zero, List.replicate_succ, List.replicate_zero, Bool.false_and, Nat.reduceAdd, Nat.reduceSub, Nat.reduceLeDiff, Nat.zero_add, if_true, Option.map_some, c1]
    exact entK_rt (ds := [.b false]) rfl rfl
  | true =>
    simp only [factD] at hc
    simp only [v10, factD, exec_seq, exec_ret, exec_reg, seqK_nm, ops_cons, ops_nil, opsW_t, opsF_t, opsK_v, wants_none, wants_some, wantK_tt, fits_none, step_call, toR_ret, ev_l, ev_s, ev_c, ab_sl, ab_lo, abS_bx, abL_lp, ofO_some, ofP_some, step_mov, step_pick, pick_t, step_lbx, step_hbx, step_lfa, lfaR_s, step_lld, lldR_s, lldB_bx, lldC_s, step_fad, fad_hp, step_ld, ldR_s, ld_hp, hpL_bx, val_f, step_bin, bin_leq, step_mkf, cells_ag, setSl, cut, List.getD_cons_zero, List.getD_cons_succ, List.getElem?_cons_zero, List.getElem?_cons_succ, List.set_cons_zero, List.set_cons_succ, List.nil_append, List.cons_append, List.length_cons, List.length_nil, List.drop_succ_cons, List.drop_zero, List.take_succ_cons, List.take_zero, List.map_cons, List.map_nil, List.replicate_succ, List.replicate_zero, Bool.true_and, Nat.reduceAdd, Nat.reduceSub, Nat.reduceLeDiff, Nat.zero_add, if_true, Option.map_some, c1, hc]
    exact entK_rt (ds := [.b _]) rfl rfl
end

section
variable {nm : List UInt8} {lb : D} {fr to kn known : Int} {c5 c6 c7 c8 c9 c10 c11 c12 c13 c14 c15 c16 c17 c18 c19 c20 c21 c22 c23 : D}

theorem clause33 (x : List UInt8 × Int) : Ret V 33 [eP.key x, .hp 0 0] [.bx (clauseD nm lb fr to kn c5 c6 c7 c8 c9 c10 c11 c12 c13 c14 c15 c16 c17 c18 c19 c20 c21 c22 c23)] (.b (touchC nm fr to x)) [.bx (clauseD nm lb fr to kn c5 c6 c7 c8 c9 c10 c11 c12 c13 c14 c15 c16 c17 c18 c19 c20 c21 c22 c23)] := by
  obtain ⟨k, a⟩ := x
  refine .impure (vf := v33) rfl rfl 0 (fun n _ => ?_)
  have hent := enter_eq (V := V) (cl := call V n) (n := n) v33 [eP.key (k, a), .hp 0 0] [.bx (clauseD nm lb fr to kn c5 c6 c7 c8 c9 c10 c11 c12 c13 c14 c15 c16 c17 c18 c19 c20 c21 c22 c23)] rfl
  rw [hent]
  have hk : eP.key (k, a) = .ag [.s k, .i .i64 a] := rfl
  unfold touchC
  rw [hk]
  cases c1 : decide (k = nm) with
  | false =>
    simp only [v33, clauseD, exec_seq, exec_ret, exec_reg, seqK_nm, ops_cons, ops_nil, opsW_t, opsW_f, opsF_t, opsK_v, wants_none, wants_some, wantK_tf, fits_none, ev_l, ev_s, ev_c, ab_sl, ab_lo, abS_bx, abL_lp, ofO_some, step_mov, step_pick, pick_f, step_lbx, step_lfa, lfaR_s, step_lld, lldR_s, lldB_bx, lldC_s, step_fad, fad_hp, step_ld, ldR_s, ld_hp, hpL_bx, val_f, step_bin, bins_eql, cells_ag, setSl, cut, List.getD_cons_zero, List.getD_cons_succ, List.getElem?_cons_zero, List.getElem?_cons_succ, List.set_cons_zero, List.set_cons_succ, List.nil_append, List.cons_append, List.length_cons, List.length_nil, List.drop_zero, List.take_succ_cons, List.take_zero, List.replicate_succ, List.replicate_zero, Bool.false_and, Nat.reduceAdd, Nat.reduceSub, Nat.reduceLeDiff, Nat.zero_add, if_true, Nat.add_zero, Option.map_some, c1]
    exact entK_rt (ds := [.b false]) rfl rfl
  | true =>
    cases c2 : decide (fr ≤ a) with
    | false =>
      simp only [v33, clauseD, exec_seq, exec_ret, exec_reg, seqK_nm, ops_cons, ops_nil, opsW_t, opsW_f, opsF_t, opsK_v, wants_none, wants_some, wantK_tt, wantK_tf, fits_none, ev_l, ev_s, ev_c, ab_sl, ab_lo, abS_bx, abL_lp, ofO_some, step_mov, step_pick, pick_t, pick_f, step_lbx, step_lfa, lfaR_s, step_lld, lldR_s, lldB_bx, lldC_s, step_fad, fad_hp, step_ld, ldR_s, ld_hp, hpL_bx, val_f, step_bin, bin_leq, bins_eql, cells_ag, setSl, cut, List.getD_cons_zero, List.getD_cons_succ, List.getElem?_cons_zero, List.getElem?_cons_succ, List.set_cons_zero, List.set_cons_succ, List.nil_append, List.cons_append, List.length_cons, List.length_nil, List.drop_succ_cons, List.drop_zero, List.take_succ_cons, List.take_zero, List.take_nil, List.replicate_succ, List.replicate_zero, Bool.and_false, Bool.false_and, Nat.reduceAdd, Nat.reduceSub, Nat.reduceLeDiff, Nat.le_refl, Nat.zero_add, if_true, Nat.add_zero, Option.map_some, c1, c2]
      exact entK_rt (ds := [.b false]) rfl rfl
    | true =>
      simp only [v33, clauseD, exec_seq, exec_ret, exec_reg, seqK_nm, ops_cons, ops_nil, opsW_t, opsF_t, opsK_v, wants_none, wants_some, wantK_tt, fits_none, ev_l, ev_s, ev_c, ab_sl, ab_lo, abS_bx, abL_lp, ofO_some, step_mov, step_pick, pick_t, step_lbx, step_lfa, lfaR_s, step_lld, lldR_s, lldB_bx, lldC_s, step_fad, fad_hp, step_ld, ldR_s, ld_hp, hpL_bx, val_f, step_bin, bin_lss, bin_leq, bins_eql, cells_ag, setSl, cut, List.getD_cons_zero, List.getD_cons_succ, List.getElem?_cons_zero, List.getElem?_cons_succ, List.set_cons_zero, List.set_cons_succ, List.nil_append, List.cons_append, List.length_cons, List.length_nil, List.drop_succ_cons, List.drop_zero, List.take_succ_cons, List.take_zero, List.take_nil, List.replicate_succ, List.replicate_zero, Bool.true_and, Nat.reduceAdd, Nat.reduceSub, Nat.reduceLeDiff, Nat.le_refl, Nat.zero_add, if_true, Nat.add_zero, Option.map_some, c1, c2]
      exact entK_rt (ds := [.b _]) rfl rfl

theorem clause12 {r : Rd} {d : D} (h : IsRd r d) (hl : r.le 40000) : PRet V 12 [d, .ag (clauseD nm lb fr to kn c5 c6 c7 c8 c9 c10 c11 c12 c13 c14 c15 c16 c17 c18 c19 c20 c21 c22 c23), .i .i64 known] (.b (clauseB r nm fr to kn known)) := by
  obtain ⟨x, y, zc, rfl, h1, h2, h3⟩ := h
  obtain ⟨l1, l2, l3⟩ := hl
  obtain ⟨N, hN⟩ := cf_ret (V := V) (f := 32) (h := 58) (w := 2) (agg := true) rfl rfl h1 (H := [.bx (clauseD nm lb fr to kn c5 c6 c7 c8 c9 c10 c11 c12 c13 c14 c15 c16 c17 c18 c19 c20 c21 c22 c23)]) (g := 33) (cp := [.hp 0 0])
    (fun r => match r with | [.s k, .i _ a] => touchC nm fr to (k, a) | _ => false) (fun r => .ag r) (fun r hr => by
      obtain ⟨a, _, rfl⟩ := List.mem_map.1 hr
      exact ⟨eP_ok.cut a, rfl⟩) (fun r hr => by
      obtain ⟨a, _, rfl⟩ := List.mem_map.1 hr
      exact clause33 a) (by simp; omega)
  have hany : (r.p.map eP.enc).any (fun r => match r with | [.s k, .i _ a] => touchC nm fr to (k, a) | _ => false) = r.p.any (touchC nm fr to) := by
    rw [List.any_map]; rfl
  rw [hany] at hN
  refine PRet.of (vf := v12) (d0 := .b (clauseB r nm fr to kn known)) (H := [.bx (clauseD nm lb fr to kn c5 c6 c7 c8 c9 c10 c11 c12 c13 c14 c15 c16 c17 c18 c19 c20 c21 c22 c23)]) rfl N (fun n hn => ?_) rfl rfl
  have hent := enter_eq (V := V) (cl := call V n) (n := n) v12 [.ag [x, y, zc], .ag (clauseD nm lb fr to kn c5 c6 c7 c8 c9 c10 c11 c12 c13 c14 c15 c16 c17 c18 c19 c20 c21 c22 c23), .i .i64 known] [] rfl
  rw [hent]
  have hc := hN n hn
  unfold clauseB
  cases c1 : decide (kn ≤ known) with
  | false =>
    simp only [v12, clauseD, exec_seq, exec_ret, exec_reg, seqK_nm, ops_cons, ops_nil, opsW_t, opsW_f, opsF_t, opsK_v, wants_none, wants_some, wantK_tf, fits_none, ev_l, ev_s, ev_c, ofO_some, ofP_some, step_mov, step_pick, pick_f, step_lbx, step_hbx, step_fad, fad_hp, step_ld, ldR_s, ld_hp, hpL_bx, val_f, step_bin, bin_leq, cells_ag, setSl, cut, List.getD_cons_zero, List.getD_cons_succ, List.getElem?_cons_zero, List.set_cons_zero, List.set_cons_succ, List.nil_append, List.cons_append, List.length_cons, List.length_nil, List.drop_succ_cons, List.drop_zero, List.take_succ_cons, List.take_zero, List.replicate_succ, List.replicate_zero, Bool.false_and, Nat.reduceAdd, Nat.reduceSub, Nat.reduceLeDiff, Nat.zero_add, if_true, Option.map_some, c1]
    exact entK_rt (ds := [.b false]) rfl rfl
  | true =>
    simp only [clauseD] at hc
    simp only [v12, clauseD, exec_seq, exec_ret, exec_reg, seqK_nm, ops_cons, ops_nil, opsW_t, opsF_t, opsK_v, wants_none, wants_some, wantK_tt, fits_none, step_call, toR_ret, ev_l, ev_s, ev_c, ab_sl, ab_lo, abS_bx, abL_lp, ofO_some, ofP_some, step_mov, step_pick, pick_t, step_lbx, step_hbx, step_lfa, lfaR_s, step_lld, lldR_s, lldB_bx, lldC_s, step_fad, fad_hp, step_ld, ldR_s, ld_hp, hpL_bx, val_f, step_bin, bin_leq, step_mkf, cells_ag, setSl, cut, List.getD_cons_zero, List.getD_cons_succ, List.getElem?_cons_zero, List.getElem?_cons_succ, List.set_cons_zero, List.set_cons_succ, List.nil_append, List.cons_append, List.length_cons, List.length_nil, List.drop_succ_cons, List.drop_zero, List.take_succ_cons, List.take_zero, List.map_cons, List.map_nil, List.replicate_succ, List.replicate_zero, Bool.true_and, Nat.reduceAdd, Nat.reduceSub, Nat.reduceLeDiff, Nat.zero_add, if_true, Nat.add_zero, Option.map_some, c1, hc]
    exact entK_rt (ds := [.b _]) rfl rfl
end

/-! ### Is a name one of a list -/

theorem idx59_ret {x : D} {as : List (List UInt8)} (hx : Sl 1 (as.map eS.enc) x) (nm : List UInt8) (hlen : as.length ≤ 40000) : PRet V 59 [x, .s nm] (.i .i64 (if inB nm as then (as.findIdx (fun a => decide (nm = a)) : Int) else -1)) := by
  have hl := fun H => hx.len (H := H)
  simp only [List.length_map] at hl
  let st : Int → D → D → D → D → St := fun i g2 g3 g4 g7 => ⟨[x, .s nm, g2, g3, g4, .i .i64 i, .i .i64 as.length, g7], []⟩
  have k4 : ∀ (i : Nat) (h : i < as.length) H, iadD H x (.i .i64 i) 1 = some (.ip [.s as[i]]) := fun i h H => by
    have := hx.elem (H := H) (k := .i64) (i := i) (by simpa using h)
    simp only [List.getElem_map] at this
    exact this
  have u1 := hx.under
  have key : ∀ n, 40001 ≤ n → enter V (call V n) n v59 [x, .s nm] [] = .ret (.i .i64 (if inB nm as then (as.findIdx (fun a => decide (nm = a)) : Int) else -1)) [] := fun n hn => by
    have hent := enter_eq (V := V) (cl := call V n) (n := n) v59 [x, .s nm] [] rfl
    rw [hent]
    have go : ∀ (k : Nat) (hk : k ≤ as.length), (∀ (j : Nat) (h : j < as.length), j < k → nm ≠ as[j]) → ∀ (Q : Ex → St → Prop),
        (∀ s, (∃ g3 g4 g7, s = st k (.i .i64 0) g3 g4 g7) → ∃ ex s', exec V (call V n) n v59l0 s = (ex, s') ∧ ex ≠ .nm ∧ Q ex s') → ∃ ex s', iter (exec V (call V n) n v59l0) n (st 0 (.i .i64 0) .u .u .u) = (ex, s') ∧ Q ex s' := fun k hk hno Q he =>
      iter_rel (R := fun i s => ∃ g3 g4 g7, s = st i (.i .i64 0) g3 g4 g7) Q k (by omega) ⟨_, _, _, rfl⟩ (fun i s hi hs => by
        obtain ⟨g3, g4, g7, rfl⟩ := hs
        have hi' : i < as.length := by omega
        have hd : decide ((i : Int) < (as.length : Int)) = true := by simpa using hi'
        have hw : IntKind.i64.wrap ((i : Int) + 1) = ((i + 1 : Nat) : Int) := by rw [IntWalk.i64_in _ (by omega)]; omega
        have hc : decide (nm = as[i]) = false := by simpa using hno i hi' hi
        refine ⟨st (i + 1 : Nat) (.i .i64 0) (.b true) (.b false) (.i .i64 i), ?_, _, _, _, rfl⟩
        simp only [v59l0, st, exec_seq, exec_cond, exec_block, exec_skip, exec_reg, seqK_nm, condK_t, condK_f, blockK_nm, ops_cons, ops_nil, opsW_t, opsF_t, opsK_v, wants_none, fits_none, ev_l, ev_s, ev_c, ofO_some, step_mov, step_iad, step_ld, ldR_s, ld_ip, val_f, step_bin, bin_add, bin_lss, bins_eql, setSl, cut, List.getD_cons_zero, List.getD_cons_succ, List.set_cons_zero, List.set_cons_succ, List.nil_append, List.cons_append, List.length_cons, List.length_nil, List.drop_zero, List.take_succ_cons, List.take_nil, Nat.le_refl, Nat.zero_add, if_true, hd, k4 i hi', hc, hw]) he
    cases hin : inB nm as with
    | true =>
      have hm := inB_t.1 hin
      have hlt : as.findIdx (fun a => decide (nm = a)) < as.length := List.findIdx_lt_length.2 ⟨nm, hm, by simp⟩
      obtain ⟨ex, s', h1, h2, h3, h4⟩ := go (as.findIdx (fun a => decide (nm = a))) (by omega) (fun j h hj => by
        have := List.not_of_lt_findIdx hj
        simpa using this) (fun ex s' => ex = .rt ∧ resAll s' [.s 2] = some [.i .i64 (as.findIdx (fun a => decide (nm = a)) : Int)] ∧ s'.hp = []) (fun s hs => by
        obtain ⟨g3, g4, g7, rfl⟩ := hs
        generalize hk : as.findIdx (fun a => decide (nm = a)) = k at hlt ⊢
        have hc : decide (nm = as[k]) = true := by
          have := List.findIdx_getElem (p := fun a => decide (nm = a)) (xs := as) (w := by omega)
          simp only [hk] at this
          exact this
        have hd : decide ((k : Int) < (as.length : Int)) = true := by simpa using hlt
        refine ⟨.rt, st k (.i .i64 k) (.b true) (.b true) (.i .i64 k), ?_, by simp, rfl, rfl, rfl⟩
        simp only [v59l0, st, exec_seq, exec_cond, exec_block, exec_skip, exec_ret, exec_reg, seqK_nm, seqK_rt, condK_t, blockK_rt, ops_cons, ops_nil, opsW_t, opsF_t, opsK_v, wants_none, fits_none, ev_l, ev_s, ofO_some, step_mov, step_iad, step_ld, ldR_s, ld_ip, val_f, step_bin, bin_lss, bins_eql, setSl, cut, List.getD_cons_zero, List.getD_cons_succ, List.set_cons_zero, List.set_cons_succ, List.nil_append, List.cons_append, List.length_cons, List.length_nil, List.drop_zero, List.take_succ_cons, List.take_nil, Nat.le_refl, Nat.zero_add, if_true, hd, k4 k hlt, hc])
      subst h2
      simp only [st] at h1
      simp only [v59, exec_seq, exec_block, exec_reg, seqK_nm, seqK_rt, blockK_rt, ops_cons, ops_nil, opsW_t, opsF_t, opsK_v, wants_none, fits_none, ev_l, ev_s, ev_c, ofO_some, step_mov, step_len, setSl, List.getD_cons_zero, List.set_cons_zero, List.set_cons_succ, List.nil_append, List.cons_append, List.replicate_succ, List.replicate_zero, Nat.reduceSub, if_true, exec_loop, hl, h1]
      rw [entK_rt h3 rfl, h4]; rfl
    | false =>
      have hm : nm ∉ as := fun hh => by rw [inB_in hh] at hin; cases hin
      obtain ⟨ex, s', h1, h2, g3, g4, g5, h3⟩ := go as.length (Nat.le_refl _) (fun j h _ e => hm (e ▸ List.getElem_mem h)) (fun ex s' => ex = .ex 0 ∧ ∃ g3 g4 g7, s' = st as.length (.i .i64 0) g3 g4 g7) (fun s hs => by
        obtain ⟨g3, g4, g7, rfl⟩ := hs
        have hd : decide ((as.length : Int) < (as.length : Int)) = false := by simp
        refine ⟨.ex 0, st as.length (.i .i64 0) (.b false) g4 g7, ?_, by simp, rfl, _, _, _, rfl⟩
        simp only [v59l0, st, exec_seq, exec_cond, exec_exit, exec_reg, seqK_nm, seqK_ex, condK_f, ops_cons, ops_nil, opsW_t, opsF_t, opsK_v, wants_none, fits_none, ev_s, ofO_some, step_bin, bin_lss, setSl, List.getD_cons_zero, List.getD_cons_succ, List.set_cons_zero, List.set_cons_succ, List.nil_append, hd])
      subst h2; subst h3
      simp only [st] at h1
      simp only [v59, exec_seq, exec_block, exec_ret, exec_reg, seqK_nm, blockK_ex, ops_cons, ops_nil, opsW_t, opsF_t, opsK_v, wants_none, fits_none, ev_l, ev_s, ev_c, ofO_some, step_mov, step_len, setSl, List.getD_cons_zero, List.set_cons_zero, List.set_cons_succ, List.nil_append, List.cons_append, List.replicate_succ, List.replicate_zero, Nat.reduceSub, if_true, if_false, Bool.false_eq_true, exec_loop, hl, h1]
      exact entK_rt (ds := [.i .i64 (-1)]) rfl rfl
  exact PRet.of (vf := v59) rfl 40001 key rfl rfl

theorem contains34 {x : D} {as : List (List UInt8)} (hx : Sl 1 (as.map eS.enc) x) (nm : List UInt8) (hlen : as.length ≤ 40000) : PRet V 34 [x, .s nm] (.b (inB nm as)) := by
  obtain ⟨H', ⟨N, hN⟩, _⟩ := Ret.flat (V := V) (f := 59) (vf := v59) rfl rfl (H := []) (args := [x, .s nm]) (ds := [x, .s nm]) (.cons (sl_frA hx []) (.cons (.flat rfl []) (.nil []))) (idx59_ret hx nm hlen) rfl
  refine PRet.of (vf := v34) (d0 := .b (inB nm as)) (H := H') rfl N (fun n hn => ?_) rfl rfl
  have hent := enter_eq (V := V) (cl := call V n) (n := n) v34 [x, .s nm] [] rfl
  rw [hent]
  have hc := hN n hn
  have hd : decide (0 ≤ (if inB nm as then (as.findIdx (fun a => decide (nm = a)) : Int) else -1)) = inB nm as := by
    cases inB nm as <;> simp
  simp only [v34, exec_seq, exec_ret, exec_reg, seqK_nm, ops_cons, ops_nil, opsW_t, opsF_t, opsK_v, wants_none, fits_none, step_call, toR_ret, ev_l, ev_s, ev_c, ofO_some, step_mov, step_bin, bin_geq, setSl, List.getD_cons_zero, List.getD_cons_succ, List.set_cons_zero, List.set_cons_succ, List.nil_append, List.cons_append, List.map_cons, List.map_nil, List.replicate_succ, List.replicate_zero, Nat.reduceSub, hc, hd]
  exact entK_rt (ds := [.b _]) rfl rfl

theorem row14 {r : Rd} {d : D} (h : IsRd r d) (hl : r.le 40000) (nm : List UInt8) (c0 c1 : D) (kn known : Int) (c3 c4 c5 c6 : D) : PRet V 14 [d, .s nm, .ag [c0, c1, .i .i64 kn, c3, c4, c5, c6], .i .i64 known] (.b (rowB r nm kn known)) := by
  obtain ⟨x, y, zc, rfl, h1, h2, h3⟩ := h
  obtain ⟨l1, l2, l3⟩ := hl
  obtain ⟨H', ⟨N, hN⟩, _⟩ := Ret.flat (V := V) (f := 34) (vf := v34) rfl rfl (H := []) (args := [zc, .s nm]) (ds := [zc, .s nm]) (.cons (sl_frA h3 []) (.cons (.flat rfl []) (.nil []))) (contains34 h3 nm l3) rfl
  unfold rowB
  cases hk : decide (kn ≤ known) with
  | false =>
    refine PRet.of (vf := v14) (d0 := .b false) (H := []) rfl N (fun n hn => ?_) rfl rfl
    have hent := enter_eq (V := V) (cl := call V n) (n := n) v14 [.ag [x, y, zc], .s nm, .ag [c0, c1, .i .i64 kn, c3, c4, c5, c6], .i .i64 known] [] rfl
    rw [hent]
    simp only [v14, exec_seq, exec_ret, exec_reg, seqK_nm, ops_cons, ops_nil, opsW_t, opsW_f, opsF_t, opsK_v, wants_none, wants_some, wantK_tf, fits_none, ev_l, ev_s, ev_c, ab_sl, ab_lo, abS_bx, abL_lp, ofO_some, step_mov, step_pick, pick_f, step_lbx, step_lfa, lfaR_s, step_lld, lldR_s, lldB_bx, lldC_s, val_f, step_bin, bin_leq, cells_ag, setSl, cut, List.getD_cons_zero, List.getD_cons_succ, List.getElem?_cons_zero, List.getElem?_cons_succ, List.set_cons_zero, List.set_cons_succ, List.nil_append, List.cons_append, List.length_cons, List.length_nil, List.drop_succ_cons, List.drop_zero, List.take_succ_cons, List.take_zero, List.replicate_succ, List.replicate_zero, Nat.reduceAdd, Nat.reduceSub, Nat.reduceLeDiff, Nat.zero_add, if_true, Option.map_some, hk]
    exact entK_rt (ds := [.b false]) rfl rfl
  | true =>
    refine PRet.of (vf := v14) (d0 := .b (inB nm r.t)) (H := H') rfl N (fun n hn => ?_) rfl rfl
    have hent := enter_eq (V := V) (cl := call V n) (n := n) v14 [.ag [x, y, zc], .s nm, .ag [c0, c1, .i .i64 kn, c3, c4, c5, c6], .i .i64 known] [] rfl
    rw [hent]
    have hc := hN n hn
    simp only [v14, exec_seq, exec_ret, exec_reg, seqK_nm, ops_cons, ops_nil, opsW_t, opsF_t, opsK_v, wants_none, wants_some, wantK_tt, fits_none, step_call, toR_ret, ev_l, ev_s, ev_c, ab_sl, ab_lo, abS_bx, abL_lp, ofO_some, step_mov, step_pick, pick_t, step_lbx, step_lfa, lfaR_s, step_lld, lldR_s, lldB_bx, lldC_s, val_f, step_bin, bin_leq, cells_ag, setSl, cut, List.getD_cons_zero, List.getD_cons_succ, List.getElem?_cons_zero, List.getElem?_cons_succ, List.set_cons_zero, List.set_cons_succ, List.nil_append, List.cons_append, List.length_cons, List.length_nil, List.drop_succ_cons, List.drop_zero, List.take_succ_cons, List.take_zero, List.take_nil, List.map_cons, List.map_nil, List.replicate_succ, List.replicate_zero, Nat.reduceAdd, Nat.reduceSub, Nat.reduceLeDiff, Nat.le_refl, Nat.zero_add, if_true, Option.map_some, hk, hc]
    exact entK_rt (ds := [.b _]) rfl rfl
end Go.Proofs.Ytkogdbgccjmaoaa.Dv
