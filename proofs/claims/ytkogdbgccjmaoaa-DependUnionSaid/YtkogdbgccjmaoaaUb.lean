/-
  Functions of layer 25 over the machine: the comparison of two lists of what was examined.
-/
import Derived.Test.YtkogdbgccjmaoaaUa
namespace Go.Proofs.Ytkogdbgccjmaoaa.Dv
open Go.Dm

theorem eqv_enc {α : Type} [DecidableEq α] {E : Enc α} (ok : E.Ok) (hag : ∀ a, E.key a = .ag (E.enc a)) {sh : List Nat} (hkk : E.kk = .st sh) (a b : α) : eqvD true (.st sh) (.ag (E.enc a)) (.ag (E.enc b)) = some (.b (!decide (a = b))) := by
  have h := ok.eq a b
  rw [hag, hag, hkk] at h
  have h' : cellsEq sh (E.enc a) (E.enc b) = some (decide (a = b)) := h
  simp only [eqvD, deq, h']
  cases decide (a = b) <;> rfl

theorem first_diff {α : Type} [DecidableEq α] : ∀ (as bs : List α), as.length = bs.length → as ≠ bs → ∃ (k : Nat) (h1 : k < as.length) (h2 : k < bs.length), as[k] ≠ bs[k] ∧ ∀ (j : Nat) (_ : j < k) (h1 : j < as.length) (h2 : j < bs.length), as[j] = bs[j]
  | [], [], _, h => (h rfl).elim
  | [], _ :: _, h, _ => by simp at h
  | _ :: _, [], h, _ => by simp at h
  | a :: as, b :: bs, hl, h => by
    by_cases hab : a = b
    · subst hab
      obtain ⟨k, h1, h2, h3, h4⟩ := first_diff as bs (by simpa using hl) (fun e => h (by rw [e]))
      refine ⟨k + 1, by simpa using h1, by simpa using h2, by simpa using h3, fun j hj g1 g2 => ?_⟩
      cases j with
      | zero => rfl
      | succ j => simpa using h4 j (by omega) (by simpa using g1) (by simpa using g2)
    · exact ⟨0, by simp, by simp, by simpa using hab, fun j hj => by omega⟩


section
variable {x y zc x' y' zc' : D} {as bs : List (List UInt8 × Int)}
theorem same0_eq (hx : Sl 2 (as.map eP.enc) x) (hy : Sl 2 (bs.map eP.enc) x') (hlen : as.length < 2 ^ 62) (n : Nat) (u0 u1 u2 u3 u4 u5 u6 u7 u8 u9 u14 u15 u16 u17 u18 u19 u20 : D) (i : Nat) (h1 : i < as.length) (h2 : i < bs.length) (he : as[i] = bs[i]) :
    exec V (call V n) n v23l0 ⟨[u0, u1, u2, u3, u4, u5, u6, u7, u8, u9, .bx [x, y, zc], .bx [x', y', zc'], .i .i64 i, .i .i64 as.length, u14, u15, u16, u17, u18, u19, u20], []⟩ = (.nm, ⟨[u0, u1, u2, u3, .b true, .b false, u6, u7, u8, u9, .bx [x, y, zc], .bx [x', y', zc'], .i .i64 (i + 1 : Nat), .i .i64 as.length, .i .i64 i, u15, u16, u17, u18, u19, u20], []⟩) := by
  have k4 := fun H => hx.elem (H := H) (k := .i64) (i := i) (by simpa using h1)
  have k5 := fun H => hy.elem (H := H) (k := .i64) (i := i) (by simpa using h2)
  simp only [List.getElem_map] at k4 k5
  have hd : decide ((i : Int) < (as.length : Int)) = true := by simpa using h1
  have hw : IntKind.i64.wrap ((i : Int) + 1) = ((i + 1 : Nat) : Int) := by rw [IntWalk.i64_in _ (by omega)]; omega
  have q1 := hx.under
  have q2 := hy.under
  have c1 := eP_ok.cut as[i]
  have c2 := eP_ok.cut bs[i]
  have e1 : eP.w = 2 := rfl
  rw [e1] at c1 c2
  have cy : ∀ (a b c : D), cut [a, b, c] 0 1 = some [a] := fun _ _ _ => rfl
  have hc : eqvD true (.st [2, 1]) (.ag (eP.enc as[i])) (.ag (eP.enc bs[i])) = some (.b false) := by rw [eqv_enc eP_ok (fun _ => rfl) rfl]; simp [he]
  simp only [v23l0, exec_seq, exec_cond, exec_block, exec_skip, exec_reg, exec_drawn, seqK_nm, condK_t, condK_f, blockK_nm, ops_cons, ops_nil, opsW_t, opsF_t, opsK_v, wants_none, fits_none, fits_f, rd_mov, rd_lfa, rd_lld, rd_eqv, rd_ld, rd_iad, un_ip, ev_l, ev_s, ev_c, ab_sl, ab_lo, abS_bx, abL_lp, ofO_some, step_mov, step_lfa, lfaR_s, step_lld, lldR_s, lldB_bx, lldC_s, step_iad, step_ld, ldR_s, ld_ip, val_t, val_f, step_bin, bin_add, bin_lss, step_eqv, setSl, List.getD_cons_zero, List.getD_cons_succ, List.getElem?_cons_zero, List.getElem?_cons_succ, List.set_cons_zero, List.set_cons_succ, List.nil_append, List.cons_append, List.length_nil, List.all_cons, List.all_nil, Bool.and_true, Nat.add_zero, hd, k4, k5, q1, q2, hc, hw, c1, c2, cy]
theorem same0_ne (hx : Sl 2 (as.map eP.enc) x) (hy : Sl 2 (bs.map eP.enc) x') (n : Nat) (u0 u1 u2 u3 u4 u5 u6 u7 u8 u9 u14 u15 u16 u17 u18 u19 u20 : D) (i : Nat) (h1 : i < as.length) (h2 : i < bs.length) (he : as[i] ≠ bs[i]) :
    ∃ s', exec V (call V n) n v23l0 ⟨[u0, u1, u2, u3, u4, u5, u6, u7, u8, u9, .bx [x, y, zc], .bx [x', y', zc'], .i .i64 i, .i .i64 as.length, u14, u15, u16, u17, u18, u19, u20], []⟩ = (.rt, s') ∧ resAll s' [.s 2] = some [.b false] ∧ s'.hp = [] := by
  have k4 := fun H => hx.elem (H := H) (k := .i64) (i := i) (by simpa using h1)
  have k5 := fun H => hy.elem (H := H) (k := .i64) (i := i) (by simpa using h2)
  simp only [List.getElem_map] at k4 k5
  have hd : decide ((i : Int) < (as.length : Int)) = true := by simpa using h1
  have q1 := hx.under
  have q2 := hy.under
  refine ⟨⟨[u0, u1, .b false, u3, .b true, .b true, u6, u7, u8, u9, .bx [x, y, zc], .bx [x', y', zc'], .i .i64 i, .i .i64 as.length, .i .i64 i, u15, u16, u17, u18, u19, u20], []⟩, ?_, rfl, rfl⟩
  have c1 := eP_ok.cut as[i]
  have c2 := eP_ok.cut bs[i]
  have e1 : eP.w = 2 := rfl
  rw [e1] at c1 c2
  have cy : ∀ (a b c : D), cut [a, b, c] 0 1 = some [a] := fun _ _ _ => rfl
  have hc : eqvD true (.st [2, 1]) (.ag (eP.enc as[i])) (.ag (eP.enc bs[i])) = some (.b true) := by rw [eqv_enc eP_ok (fun _ => rfl) rfl]; simp [he]
  simp only [v23l0, exec_seq, exec_cond, exec_block, exec_skip, exec_ret, exec_reg, exec_drawn, seqK_nm, seqK_rt, condK_t, blockK_rt, ops_cons, ops_nil, opsW_t, opsF_t, opsK_v, wants_none, fits_none, fits_f, rd_mov, rd_lfa, rd_lld, rd_eqv, rd_ld, rd_iad, un_ip, ev_l, ev_s, ev_c, ab_sl, ab_lo, abS_bx, abL_lp, ofO_some, step_mov, step_lfa, lfaR_s, step_lld, lldR_s, lldB_bx, lldC_s, step_iad, step_ld, ldR_s, ld_ip, val_t, val_f, step_bin, bin_lss, step_eqv, setSl, List.getD_cons_zero, List.getD_cons_succ, List.getElem?_cons_zero, List.getElem?_cons_succ, List.set_cons_zero, List.set_cons_succ, List.nil_append, List.cons_append, List.length_nil, List.all_cons, List.all_nil, Bool.and_true, Nat.add_zero, hd, k4, k5, q1, q2, hc, c1, c2, cy]
theorem same0_out (n : Nat) (u0 u1 u2 u3 u4 u5 u6 u7 u8 u9 u14 u15 u16 u17 u18 u19 u20 : D) (m : Nat) :
    exec V (call V n) n v23l0 ⟨[u0, u1, u2, u3, u4, u5, u6, u7, u8, u9, .bx [x, y, zc], .bx [x', y', zc'], .i .i64 m, .i .i64 m, u14, u15, u16, u17, u18, u19, u20], []⟩ = (.ex 0, ⟨[u0, u1, u2, u3, .b false, u5, u6, u7, u8, u9, .bx [x, y, zc], .bx [x', y', zc'], .i .i64 m, .i .i64 m, u14, u15, u16, u17, u18, u19, u20], []⟩) := by
  have hd : decide ((m : Int) < (m : Int)) = false := by simp
  simp only [v23l0, exec_seq, exec_cond, exec_exit, exec_reg, seqK_nm, seqK_ex, condK_f, ops_cons, ops_nil, opsW_t, opsF_t, opsK_v, wants_none, fits_none, ev_s, ofO_some, step_bin, bin_lss, setSl, List.getD_cons_zero, List.getD_cons_succ, List.set_cons_zero, List.set_cons_succ, List.nil_append, hd]
theorem same0_loop (hx : Sl 2 (as.map eP.enc) x) (hy : Sl 2 (bs.map eP.enc) x') (hlen : as.length < 2 ^ 62) (hab : as.length = bs.length) (n : Nat) (hn : as.length < n) (u0 u1 u2 u3 u4 u5 u6 u7 u8 u9 u14 u15 u16 u17 u18 u19 u20 : D) :
    (as = bs ∧ ∃ w0 w1 w2 w3 w4 w5 w6 w7 w8 w9 w14 w15 w16 w17 w18 w19 w20 wi : D, iter (exec V (call V n) n v23l0) n ⟨[u0, u1, u2, u3, u4, u5, u6, u7, u8, u9, .bx [x, y, zc], .bx [x', y', zc'], .i .i64 0, .i .i64 as.length, u14, u15, u16, u17, u18, u19, u20], []⟩ = (.ex 0, ⟨[w0, w1, w2, w3, w4, w5, w6, w7, w8, w9, .bx [x, y, zc], .bx [x', y', zc'], wi, .i .i64 as.length, w14, w15, w16, w17, w18, w19, w20], []⟩)) ∨
    (as ≠ bs ∧ ∃ s', iter (exec V (call V n) n v23l0) n ⟨[u0, u1, u2, u3, u4, u5, u6, u7, u8, u9, .bx [x, y, zc], .bx [x', y', zc'], .i .i64 0, .i .i64 as.length, u14, u15, u16, u17, u18, u19, u20], []⟩ = (.rt, s') ∧ resAll s' [.s 2] = some [.b false] ∧ s'.hp = []) := by
  have go : ∀ (k : Nat) (hk : k ≤ as.length), (∀ (j : Nat) (_ : j < k) (h1 : j < as.length) (h2 : j < bs.length), as[j] = bs[j]) → ∀ (Q : Ex → St → Prop),
      (∀ s, (∃ w0 w1 w2 w3 w4 w5 w6 w7 w8 w9 w14 w15 w16 w17 w18 w19 w20 : D, s = (⟨[w0, w1, w2, w3, w4, w5, w6, w7, w8, w9, .bx [x, y, zc], .bx [x', y', zc'], .i .i64 k, .i .i64 as.length, w14, w15, w16, w17, w18, w19, w20], []⟩ : St)) → ∃ ex s', exec V (call V n) n v23l0 s = (ex, s') ∧ ex ≠ .nm ∧ Q ex s') →
      ∃ ex s', iter (exec V (call V n) n v23l0) n ⟨[u0, u1, u2, u3, u4, u5, u6, u7, u8, u9, .bx [x, y, zc], .bx [x', y', zc'], .i .i64 0, .i .i64 as.length, u14, u15, u16, u17, u18, u19, u20], []⟩ = (ex, s') ∧ Q ex s' := fun k hk hall Q he =>
    iter_rel (R := fun i s => ∃ w0 w1 w2 w3 w4 w5 w6 w7 w8 w9 w14 w15 w16 w17 w18 w19 w20 : D, s = ⟨[w0, w1, w2, w3, w4, w5, w6, w7, w8, w9, .bx [x, y, zc], .bx [x', y', zc'], .i .i64 i, .i .i64 as.length, w14, w15, w16, w17, w18, w19, w20], []⟩) Q k (by omega) ⟨u0, u1, u2, u3, u4, u5, u6, u7, u8, u9, u14, u15, u16, u17, u18, u19, u20, rfl⟩ (fun i s hi hs => by
      obtain ⟨w0, w1, w2, w3, w4, w5, w6, w7, w8, w9, w14, w15, w16, w17, w18, w19, w20, rfl⟩ := hs
      refine ⟨_, same0_eq hx hy hlen n w0 w1 w2 w3 w4 w5 w6 w7 w8 w9 w14 w15 w16 w17 w18 w19 w20 i (by omega) (by omega) (hall i hi _ _), ?_⟩
      exact ⟨_, _, _, _, _, _, _, _, _, _, _, _, _, _, _, _, _, rfl⟩) he
  by_cases he : as = bs
  · refine .inl ⟨he, ?_⟩
    obtain ⟨ex, s', h1, h2, w0, w1, w2, w3, w4, w5, w6, w7, w8, w9, w14, w15, w16, w17, w18, w19, w20, wi, h3⟩ := go as.length (Nat.le_refl _) (fun j _ _ _ => by simp only [he]) (fun ex s' => ex = .ex 0 ∧ ∃ w0 w1 w2 w3 w4 w5 w6 w7 w8 w9 w14 w15 w16 w17 w18 w19 w20 wi : D, s' = ⟨[w0, w1, w2, w3, w4, w5, w6, w7, w8, w9, .bx [x, y, zc], .bx [x', y', zc'], wi, .i .i64 as.length, w14, w15, w16, w17, w18, w19, w20], []⟩) (fun s hs => by
      obtain ⟨w0, w1, w2, w3, w4, w5, w6, w7, w8, w9, w14, w15, w16, w17, w18, w19, w20, rfl⟩ := hs
      exact ⟨_, _, same0_out n w0 w1 w2 w3 w4 w5 w6 w7 w8 w9 w14 w15 w16 w17 w18 w19 w20 as.length, by simp, rfl, _, _, _, _, _, _, _, _, _, _, _, _, _, _, _, _, _, _, rfl⟩)
    subst h2; subst h3
    exact ⟨w0, w1, w2, w3, w4, w5, w6, w7, w8, w9, w14, w15, w16, w17, w18, w19, w20, wi, h1⟩
  · refine .inr ⟨he, ?_⟩
    obtain ⟨k, h1, h2, h3, h4⟩ := first_diff as bs hab he
    obtain ⟨ex, s', g1, g2, g3, g4⟩ := go k (by omega) h4 (fun ex s' => ex = .rt ∧ resAll s' [.s 2] = some [.b false] ∧ s'.hp = []) (fun s hs => by
      obtain ⟨w0, w1, w2, w3, w4, w5, w6, w7, w8, w9, w14, w15, w16, w17, w18, w19, w20, rfl⟩ := hs
      obtain ⟨s', e1, e2, e3⟩ := same0_ne hx hy n w0 w1 w2 w3 w4 w5 w6 w7 w8 w9 w14 w15 w16 w17 w18 w19 w20 k h1 h2 h3
      exact ⟨_, s', e1, by simp, rfl, e2, e3⟩)
    subst g2
    exact ⟨s', g1, g3, g4⟩
end

section
variable {x y zc x' y' zc' : D} {as bs : List (List UInt8 × Int × Int)}
theorem same1_eq (hx : Sl 3 (as.map eR.enc) y) (hy : Sl 3 (bs.map eR.enc) y') (hlen : as.length < 2 ^ 62) (n : Nat) (u0 u1 u2 u3 u4 u5 u6 u7 u8 u9 u12 u13 u14 u17 u18 u19 u20 : D) (i : Nat) (h1 : i < as.length) (h2 : i < bs.length) (he : as[i] = bs[i]) :
    exec V (call V n) n v23l1 ⟨[u0, u1, u2, u3, u4, u5, u6, u7, u8, u9, .bx [x, y, zc], .bx [x', y', zc'], u12, u13, u14, .i .i64 i, .i .i64 as.length, u17, u18, u19, u20], []⟩ = (.nm, ⟨[u0, u1, u2, u3, u4, u5, .b true, .b false, u8, u9, .bx [x, y, zc], .bx [x', y', zc'], u12, u13, u14, .i .i64 (i + 1 : Nat), .i .i64 as.length, .i .i64 i, u18, u19, u20], []⟩) := by
  have k4 := fun H => hx.elem (H := H) (k := .i64) (i := i) (by simpa using h1)
  have k5 := fun H => hy.elem (H := H) (k := .i64) (i := i) (by simpa using h2)
  simp only [List.getElem_map] at k4 k5
  have hd : decide ((i : Int) < (as.length : Int)) = true := by simpa using h1
  have hw : IntKind.i64.wrap ((i : Int) + 1) = ((i + 1 : Nat) : Int) := by rw [IntWalk.i64_in _ (by omega)]; omega
  have q1 := hx.under
  have q2 := hy.under
  have c1 := eR_ok.cut as[i]
  have c2 := eR_ok.cut bs[i]
  have e1 : eR.w = 3 := rfl
  rw [e1] at c1 c2
  have cy : ∀ (a b c : D), cut [a, b, c] 1 1 = some [b] := fun _ _ _ => rfl
  have hc : eqvD true (.st [2, 1, 1]) (.ag (eR.enc as[i])) (.ag (eR.enc bs[i])) = some (.b false) := by rw [eqv_enc eR_ok (fun _ => rfl) rfl]; simp [he]
  simp only [v23l1, exec_seq, exec_cond, exec_block, exec_skip, exec_reg, exec_drawn, seqK_nm, condK_t, condK_f, blockK_nm, ops_cons, ops_nil, opsW_t, opsF_t, opsK_v, wants_none, fits_none, fits_f, rd_mov, rd_lfa, rd_lld, rd_eqv, rd_ld, rd_iad, un_ip, ev_l, ev_s, ev_c, ab_sl, ab_lo, abS_bx, abL_lp, ofO_some, step_mov, step_lfa, lfaR_s, step_lld, lldR_s, lldB_bx, lldC_s, step_iad, step_ld, ldR_s, ld_ip, val_t, val_f, step_bin, bin_add, bin_lss, step_eqv, setSl, List.getD_cons_zero, List.getD_cons_succ, List.getElem?_cons_zero, List.getElem?_cons_succ, List.set_cons_zero, List.set_cons_succ, List.nil_append, List.cons_append, List.length_nil, List.all_cons, List.all_nil, Bool.and_true, Nat.zero_add, hd, k4, k5, q1, q2, hc, hw, c1, c2, cy]
theorem same1_ne (hx : Sl 3 (as.map eR.enc) y) (hy : Sl 3 (bs.map eR.enc) y') (n : Nat) (u0 u1 u2 u3 u4 u5 u6 u7 u8 u9 u12 u13 u14 u17 u18 u19 u20 : D) (i : Nat) (h1 : i < as.length) (h2 : i < bs.length) (he : as[i] ≠ bs[i]) :
    ∃ s', exec V (call V n) n v23l1 ⟨[u0, u1, u2, u3, u4, u5, u6, u7, u8, u9, .bx [x, y, zc], .bx [x', y', zc'], u12, u13, u14, .i .i64 i, .i .i64 as.length, u17, u18, u19, u20], []⟩ = (.rt, s') ∧ resAll s' [.s 2] = some [.b false] ∧ s'.hp = [] := by
  have k4 := fun H => hx.elem (H := H) (k := .i64) (i := i) (by simpa using h1)
  have k5 := fun H => hy.elem (H := H) (k := .i64) (i := i) (by simpa using h2)
  simp only [List.getElem_map] at k4 k5
  have hd : decide ((i : Int) < (as.length : Int)) = true := by simpa using h1
  have q1 := hx.under
  have q2 := hy.under
  refine ⟨⟨[u0, u1, .b false, u3, u4, u5, .b true, .b true, u8, u9, .bx [x, y, zc], .bx [x', y', zc'], u12, u13, u14, .i .i64 i, .i .i64 as.length, .i .i64 i, u18, u19, u20], []⟩, ?_, rfl, rfl⟩
  have c1 := eR_ok.cut as[i]
  have c2 := eR_ok.cut bs[i]
  have e1 : eR.w = 3 := rfl
  rw [e1] at c1 c2
  have cy : ∀ (a b c : D), cut [a, b, c] 1 1 = some [b] := fun _ _ _ => rfl
  have hc : eqvD true (.st [2, 1, 1]) (.ag (eR.enc as[i])) (.ag (eR.enc bs[i])) = some (.b true) := by rw [eqv_enc eR_ok (fun _ => rfl) rfl]; simp [he]
  simp only [v23l1, exec_seq, exec_cond, exec_block, exec_skip, exec_ret, exec_reg, exec_drawn, seqK_nm, seqK_rt, condK_t, blockK_rt, ops_cons, ops_nil, opsW_t, opsF_t, opsK_v, wants_none, fits_none, fits_f, rd_mov, rd_lfa, rd_lld, rd_eqv, rd_ld, rd_iad, un_ip, ev_l, ev_s, ev_c, ab_sl, ab_lo, abS_bx, abL_lp, ofO_some, step_mov, step_lfa, lfaR_s, step_lld, lldR_s, lldB_bx, lldC_s, step_iad, step_ld, ldR_s, ld_ip, val_t, val_f, step_bin, bin_lss, step_eqv, setSl, List.getD_cons_zero, List.getD_cons_succ, List.getElem?_cons_zero, List.getElem?_cons_succ, List.set_cons_zero, List.set_cons_succ, List.nil_append, List.cons_append, List.length_nil, List.all_cons, List.all_nil, Bool.and_true, Nat.zero_add, hd, k4, k5, q1, q2, hc, c1, c2, cy]
theorem same1_out (n : Nat) (u0 u1 u2 u3 u4 u5 u6 u7 u8 u9 u12 u13 u14 u17 u18 u19 u20 : D) (m : Nat) :
    exec V (call V n) n v23l1 ⟨[u0, u1, u2, u3, u4, u5, u6, u7, u8, u9, .bx [x, y, zc], .bx [x', y', zc'], u12, u13, u14, .i .i64 m, .i .i64 m, u17, u18, u19, u20], []⟩ = (.ex 2, ⟨[u0, u1, u2, u3, u4, u5, .b false, u7, u8, u9, .bx [x, y, zc], .bx [x', y', zc'], u12, u13, u14, .i .i64 m, .i .i64 m, u17, u18, u19, u20], []⟩) := by
  have hd : decide ((m : Int) < (m : Int)) = false := by simp
  simp only [v23l1, exec_seq, exec_cond, exec_exit, exec_reg, seqK_nm, seqK_ex, condK_f, ops_cons, ops_nil, opsW_t, opsF_t, opsK_v, wants_none, fits_none, ev_s, ofO_some, step_bin, bin_lss, setSl, List.getD_cons_zero, List.getD_cons_succ, List.set_cons_zero, List.set_cons_succ, List.nil_append, hd]
theorem same1_loop (hx : Sl 3 (as.map eR.enc) y) (hy : Sl 3 (bs.map eR.enc) y') (hlen : as.length < 2 ^ 62) (hab : as.length = bs.length) (n : Nat) (hn : as.length < n) (u0 u1 u2 u3 u4 u5 u6 u7 u8 u9 u12 u13 u14 u17 u18 u19 u20 : D) :
    (as = bs ∧ ∃ w0 w1 w2 w3 w4 w5 w6 w7 w8 w9 w12 w13 w14 w17 w18 w19 w20 wi : D, iter (exec V (call V n) n v23l1) n ⟨[u0, u1, u2, u3, u4, u5, u6, u7, u8, u9, .bx [x, y, zc], .bx [x', y', zc'], u12, u13, u14, .i .i64 0, .i .i64 as.length, u17, u18, u19, u20], []⟩ = (.ex 2, ⟨[w0, w1, w2, w3, w4, w5, w6, w7, w8, w9, .bx [x, y, zc], .bx [x', y', zc'], w12, w13, w14, wi, .i .i64 as.length, w17, w18, w19, w20], []⟩)) ∨
    (as ≠ bs ∧ ∃ s', iter (exec V (call V n) n v23l1) n ⟨[u0, u1, u2, u3, u4, u5, u6, u7, u8, u9, .bx [x, y, zc], .bx [x', y', zc'], u12, u13, u14, .i .i64 0, .i .i64 as.length, u17, u18, u19, u20], []⟩ = (.rt, s') ∧ resAll s' [.s 2] = some [.b false] ∧ s'.hp = []) := by
  have go : ∀ (k : Nat) (hk : k ≤ as.length), (∀ (j : Nat) (_ : j < k) (h1 : j < as.length) (h2 : j < bs.length), as[j] = bs[j]) → ∀ (Q : Ex → St → Prop),
      (∀ s, (∃ w0 w1 w2 w3 w4 w5 w6 w7 w8 w9 w12 w13 w14 w17 w18 w19 w20 : D, s = (⟨[w0, w1, w2, w3, w4, w5, w6, w7, w8, w9, .bx [x, y, zc], .bx [x', y', zc'], w12, w13, w14, .i .i64 k, .i .i64 as.length, w17, w18, w19, w20], []⟩ : St)) → ∃ ex s', exec V (call V n) n v23l1 s = (ex, s') ∧ ex ≠ .nm ∧ Q ex s') →
      ∃ ex s', iter (exec V (call V n) n v23l1) n ⟨[u0, u1, u2, u3, u4, u5, u6, u7, u8, u9, .bx [x, y, zc], .bx [x', y', zc'], u12, u13, u14, .i .i64 0, .i .i64 as.length, u17, u18, u19, u20], []⟩ = (ex, s') ∧ Q ex s' := fun k hk hall Q he =>
    iter_rel (R := fun i s => ∃ w0 w1 w2 w3 w4 w5 w6 w7 w8 w9 w12 w13 w14 w17 w18 w19 w20 : D, s = ⟨[w0, w1, w2, w3, w4, w5, w6, w7, w8, w9, .bx [x, y, zc], .bx [x', y', zc'], w12, w13, w14, .i .i64 i, .i .i64 as.length, w17, w18, w19, w20], []⟩) Q k (by omega) ⟨u0, u1, u2, u3, u4, u5, u6, u7, u8, u9, u12, u13, u14, u17, u18, u19, u20, rfl⟩ (fun i s hi hs => by
      obtain ⟨w0, w1, w2, w3, w4, w5, w6, w7, w8, w9, w12, w13, w14, w17, w18, w19, w20, rfl⟩ := hs
      refine ⟨_, same1_eq hx hy hlen n w0 w1 w2 w3 w4 w5 w6 w7 w8 w9 w12 w13 w14 w17 w18 w19 w20 i (by omega) (by omega) (hall i hi _ _), ?_⟩
      exact ⟨_, _, _, _, _, _, _, _, _, _, _, _, _, _, _, _, _, rfl⟩) he
  by_cases he : as = bs
  · refine .inl ⟨he, ?_⟩
    obtain ⟨ex, s', h1, h2, w0, w1, w2, w3, w4, w5, w6, w7, w8, w9, w12, w13, w14, w17, w18, w19, w20, wi, h3⟩ := go as.length (Nat.le_refl _) (fun j _ _ _ => by simp only [he]) (fun ex s' => ex = .ex 2 ∧ ∃ w0 w1 w2 w3 w4 w5 w6 w7 w8 w9 w12 w13 w14 w17 w18 w19 w20 wi : D, s' = ⟨[w0, w1, w2, w3, w4, w5, w6, w7, w8, w9, .bx [x, y, zc], .bx [x', y', zc'], w12, w13, w14, wi, .i .i64 as.length, w17, w18, w19, w20], []⟩) (fun s hs => by
      obtain ⟨w0, w1, w2, w3, w4, w5, w6, w7, w8, w9, w12, w13, w14, w17, w18, w19, w20, rfl⟩ := hs
      exact ⟨_, _, same1_out n w0 w1 w2 w3 w4 w5 w6 w7 w8 w9 w12 w13 w14 w17 w18 w19 w20 as.length, by simp, rfl, _, _, _, _, _, _, _, _, _, _, _, _, _, _, _, _, _, _, rfl⟩)
    subst h2; subst h3
    exact ⟨w0, w1, w2, w3, w4, w5, w6, w7, w8, w9, w12, w13, w14, w17, w18, w19, w20, wi, h1⟩
  · refine .inr ⟨he, ?_⟩
    obtain ⟨k, h1, h2, h3, h4⟩ := first_diff as bs hab he
    obtain ⟨ex, s', g1, g2, g3, g4⟩ := go k (by omega) h4 (fun ex s' => ex = .rt ∧ resAll s' [.s 2] = some [.b false] ∧ s'.hp = []) (fun s hs => by
      obtain ⟨w0, w1, w2, w3, w4, w5, w6, w7, w8, w9, w12, w13, w14, w17, w18, w19, w20, rfl⟩ := hs
      obtain ⟨s', e1, e2, e3⟩ := same1_ne hx hy n w0 w1 w2 w3 w4 w5 w6 w7 w8 w9 w12 w13 w14 w17 w18 w19 w20 k h1 h2 h3
      exact ⟨_, s', e1, by simp, rfl, e2, e3⟩)
    subst g2
    exact ⟨s', g1, g3, g4⟩
end

section
variable {x y zc x' y' zc' : D} {as bs : List (List UInt8)}
theorem same2_eq (hx : Sl 1 (as.map eS.enc) zc) (hy : Sl 1 (bs.map eS.enc) zc') (hlen : as.length < 2 ^ 62) (n : Nat) (u0 u1 u2 u3 u4 u5 u6 u7 u8 u9 u12 u13 u14 u15 u16 u17 u20 : D) (i : Nat) (h1 : i < as.length) (h2 : i < bs.length) (he : as[i] = bs[i]) :
    exec V (call V n) n v23l2 ⟨[u0, u1, u2, u3, u4, u5, u6, u7, u8, u9, .bx [x, y, zc], .bx [x', y', zc'], u12, u13, u14, u15, u16, u17, .i .i64 i, .i .i64 as.length, u20], []⟩ = (.nm, ⟨[u0, u1, u2, u3, u4, u5, u6, u7, .b true, .b false, .bx [x, y, zc], .bx [x', y', zc'], u12, u13, u14, u15, u16, u17, .i .i64 (i + 1 : Nat), .i .i64 as.length, .i .i64 i], []⟩) := by
  have k4 := fun H => hx.elem (H := H) (k := .i64) (i := i) (by simpa using h1)
  have k5 := fun H => hy.elem (H := H) (k := .i64) (i := i) (by simpa using h2)
  simp only [List.getElem_map] at k4 k5
  have hd : decide ((i : Int) < (as.length : Int)) = true := by simpa using h1
  have hw : IntKind.i64.wrap ((i : Int) + 1) = ((i + 1 : Nat) : Int) := by rw [IntWalk.i64_in _ (by omega)]; omega
  have q1 := hx.under
  have q2 := hy.under
  have hc : bin .neq (.s as[i]) (.s bs[i]) = some (.b false) := by rw [bins_neq]; simp [he]
  have e1 : ∀ a : List UInt8, eS.enc a = [.s a] := fun _ => rfl
  rw [e1] at k4 k5
  simp only [v23l2, exec_seq, exec_cond, exec_block, exec_skip, exec_reg, exec_drawn, seqK_nm, condK_t, condK_f, blockK_nm, ops_cons, ops_nil, opsW_t, opsF_t, opsK_v, wants_none, fits_none, fits_f, rd_mov, rd_lfa, rd_lld, rd_bin, rd_ld, rd_iad, un_ip, ev_l, ev_s, ev_c, ab_sl, ab_lo, abS_bx, abL_lp, ofO_some, step_mov, step_lfa, lfaR_s, step_lld, lldR_s, lldB_bx, lldC_s, step_iad, step_ld, ldR_s, ld_ip, val_f, step_bin, bin_add, bin_lss, setSl, cut, List.getD_cons_zero, List.getD_cons_succ, List.getElem?_cons_zero, List.getElem?_cons_succ, List.set_cons_zero, List.set_cons_succ, List.nil_append, List.cons_append, List.length_cons, List.length_nil, List.drop_succ_cons, List.drop_zero, List.take_succ_cons, List.take_nil, List.all_cons, List.all_nil, Bool.and_true, Nat.reduceAdd, Nat.le_refl, Nat.zero_add, if_true, hd, k4, k5, q1, q2, hc, hw]
theorem same2_ne (hx : Sl 1 (as.map eS.enc) zc) (hy : Sl 1 (bs.map eS.enc) zc') (n : Nat) (u0 u1 u2 u3 u4 u5 u6 u7 u8 u9 u12 u13 u14 u15 u16 u17 u20 : D) (i : Nat) (h1 : i < as.length) (h2 : i < bs.length) (he : as[i] ≠ bs[i]) :
    ∃ s', exec V (call V n) n v23l2 ⟨[u0, u1, u2, u3, u4, u5, u6, u7, u8, u9, .bx [x, y, zc], .bx [x', y', zc'], u12, u13, u14, u15, u16, u17, .i .i64 i, .i .i64 as.length, u20], []⟩ = (.rt, s') ∧ resAll s' [.s 2] = some [.b false] ∧ s'.hp = [] := by
  have k4 := fun H => hx.elem (H := H) (k := .i64) (i := i) (by simpa using h1)
  have k5 := fun H => hy.elem (H := H) (k := .i64) (i := i) (by simpa using h2)
  simp only [List.getElem_map] at k4 k5
  have hd : decide ((i : Int) < (as.length : Int)) = true := by simpa using h1
  have q1 := hx.under
  have q2 := hy.under
  refine ⟨⟨[u0, u1, .b false, u3, u4, u5, u6, u7, .b true, .b true, .bx [x, y, zc], .bx [x', y', zc'], u12, u13, u14, u15, u16, u17, .i .i64 i, .i .i64 as.length, .i .i64 i], []⟩, ?_, rfl, rfl⟩
  have hc : bin .neq (.s as[i]) (.s bs[i]) = some (.b true) := by rw [bins_neq]; simp [he]
  have e1 : ∀ a : List UInt8, eS.enc a = [.s a] := fun _ => rfl
  rw [e1] at k4 k5
  simp only [v23l2, exec_seq, exec_cond, exec_block, exec_skip, exec_ret, exec_reg, exec_drawn, seqK_nm, seqK_rt, condK_t, blockK_rt, ops_cons, ops_nil, opsW_t, opsF_t, opsK_v, wants_none, fits_none, fits_f, rd_mov, rd_lfa, rd_lld, rd_bin, rd_ld, rd_iad, un_ip, ev_l, ev_s, ev_c, ab_sl, ab_lo, abS_bx, abL_lp, ofO_some, step_mov, step_lfa, lfaR_s, step_lld, lldR_s, lldB_bx, lldC_s, step_iad, step_ld, ldR_s, ld_ip, val_f, step_bin, bin_lss, setSl, cut, List.getD_cons_zero, List.getD_cons_succ, List.getElem?_cons_zero, List.getElem?_cons_succ, List.set_cons_zero, List.set_cons_succ, List.nil_append, List.cons_append, List.length_cons, List.length_nil, List.drop_succ_cons, List.drop_zero, List.take_succ_cons, List.take_nil, List.all_cons, List.all_nil, Bool.and_true, Nat.reduceAdd, Nat.le_refl, Nat.zero_add, if_true, hd, k4, k5, q1, q2, hc]
theorem same2_out (n : Nat) (u0 u1 u2 u3 u4 u5 u6 u7 u8 u9 u12 u13 u14 u15 u16 u17 u20 : D) (m : Nat) :
    exec V (call V n) n v23l2 ⟨[u0, u1, u2, u3, u4, u5, u6, u7, u8, u9, .bx [x, y, zc], .bx [x', y', zc'], u12, u13, u14, u15, u16, u17, .i .i64 m, .i .i64 m, u20], []⟩ = (.ex 4, ⟨[u0, u1, u2, u3, u4, u5, u6, u7, .b false, u9, .bx [x, y, zc], .bx [x', y', zc'], u12, u13, u14, u15, u16, u17, .i .i64 m, .i .i64 m, u20], []⟩) := by
  have hd : decide ((m : Int) < (m : Int)) = false := by simp
  simp only [v23l2, exec_seq, exec_cond, exec_exit, exec_reg, seqK_nm, seqK_ex, condK_f, ops_cons, ops_nil, opsW_t, opsF_t, opsK_v, wants_none, fits_none, ev_s, ofO_some, step_bin, bin_lss, setSl, List.getD_cons_zero, List.getD_cons_succ, List.set_cons_zero, List.set_cons_succ, List.nil_append, hd]
theorem same2_loop (hx : Sl 1 (as.map eS.enc) zc) (hy : Sl 1 (bs.map eS.enc) zc') (hlen : as.length < 2 ^ 62) (hab : as.length = bs.length) (n : Nat) (hn : as.length < n) (u0 u1 u2 u3 u4 u5 u6 u7 u8 u9 u12 u13 u14 u15 u16 u17 u20 : D) :
    (as = bs ∧ ∃ w0 w1 w2 w3 w4 w5 w6 w7 w8 w9 w12 w13 w14 w15 w16 w17 w20 wi : D, iter (exec V (call V n) n v23l2) n ⟨[u0, u1, u2, u3, u4, u5, u6, u7, u8, u9, .bx [x, y, zc], .bx [x', y', zc'], u12, u13, u14, u15, u16, u17, .i .i64 0, .i .i64 as.length, u20], []⟩ = (.ex 4, ⟨[w0, w1, w2, w3, w4, w5, w6, w7, w8, w9, .bx [x, y, zc], .bx [x', y', zc'], w12, w13, w14, w15, w16, w17, wi, .i .i64 as.length, w20], []⟩)) ∨
    (as ≠ bs ∧ ∃ s', iter (exec V (call V n) n v23l2) n ⟨[u0, u1, u2, u3, u4, u5, u6, u7, u8, u9, .bx [x, y, zc], .bx [x', y', zc'], u12, u13, u14, u15, u16, u17, .i .i64 0, .i .i64 as.length, u20], []⟩ = (.rt, s') ∧ resAll s' [.s 2] = some [.b false] ∧ s'.hp = []) := by
  have go : ∀ (k : Nat) (hk : k ≤ as.length), (∀ (j : Nat) (_ : j < k) (h1 : j < as.length) (h2 : j < bs.length), as[j] = bs[j]) → ∀ (Q : Ex → St → Prop),
      (∀ s, (∃ w0 w1 w2 w3 w4 w5 w6 w7 w8 w9 w12 w13 w14 w15 w16 w17 w20 : D, s = (⟨[w0, w1, w2, w3, w4, w5, w6, w7, w8, w9, .bx [x, y, zc], .bx [x', y', zc'], w12, w13, w14, w15, w16, w17, .i .i64 k, .i .i64 as.length, w20], []⟩ : St)) → ∃ ex s', exec V (call V n) n v23l2 s = (ex, s') ∧ ex ≠ .nm ∧ Q ex s') →
      ∃ ex s', iter (exec V (call V n) n v23l2) n ⟨[u0, u1, u2, u3, u4, u5, u6, u7, u8, u9, .bx [x, y, zc], .bx [x', y', zc'], u12, u13, u14, u15, u16, u17, .i .i64 0, .i .i64 as.length, u20], []⟩ = (ex, s') ∧ Q ex s' := fun k hk hall Q he =>
    iter_rel (R := fun i s => ∃ w0 w1 w2 w3 w4 w5 w6 w7 w8 w9 w12 w13 w14 w15 w16 w17 w20 : D, s = ⟨[w0, w1, w2, w3, w4, w5, w6, w7, w8, w9, .bx [x, y, zc], .bx [x', y', zc'], w12, w13, w14, w15, w16, w17, .i .i64 i, .i .i64 as.length, w20], []⟩) Q k (by omega) ⟨u0, u1, u2, u3, u4, u5, u6, u7, u8, u9, u12, u13, u14, u15, u16, u17, u20, rfl⟩ (fun i s hi hs => by
      obtain ⟨w0, w1, w2, w3, w4, w5, w6, w7, w8, w9, w12, w13, w14, w15, w16, w17, w20, rfl⟩ := hs
      refine ⟨_, same2_eq hx hy hlen n w0 w1 w2 w3 w4 w5 w6 w7 w8 w9 w12 w13 w14 w15 w16 w17 w20 i (by omega) (by omega) (hall i hi _ _), ?_⟩
      exact ⟨_, _, _, _, _, _, _, _, _, _, _, _, _, _, _, _, _, rfl⟩) he
  by_cases he : as = bs
  · refine .inl ⟨he, ?_⟩
    obtain ⟨ex, s', h1, h2, w0, w1, w2, w3, w4, w5, w6, w7, w8, w9, w12, w13, w14, w15, w16, w17, w20, wi, h3⟩ := go as.length (Nat.le_refl _) (fun j _ _ _ => by simp only [he]) (fun ex s' => ex = .ex 4 ∧ ∃ w0 w1 w2 w3 w4 w5 w6 w7 w8 w9 w12 w13 w14 w15 w16 w17 w20 wi : D, s' = ⟨[w0, w1, w2, w3, w4, w5, w6, w7, w8, w9, .bx [x, y, zc], .bx [x', y', zc'], w12, w13, w14, w15, w16, w17, wi, .i .i64 as.length, w20], []⟩) (fun s hs => by
      obtain ⟨w0, w1, w2, w3, w4, w5, w6, w7, w8, w9, w12, w13, w14, w15, w16, w17, w20, rfl⟩ := hs
      exact ⟨_, _, same2_out n w0 w1 w2 w3 w4 w5 w6 w7 w8 w9 w12 w13 w14 w15 w16 w17 w20 as.length, by simp, rfl, _, _, _, _, _, _, _, _, _, _, _, _, _, _, _, _, _, _, rfl⟩)
    subst h2; subst h3
    exact ⟨w0, w1, w2, w3, w4, w5, w6, w7, w8, w9, w12, w13, w14, w15, w16, w17, w20, wi, h1⟩
  · refine .inr ⟨he, ?_⟩
    obtain ⟨k, h1, h2, h3, h4⟩ := first_diff as bs hab he
    obtain ⟨ex, s', g1, g2, g3, g4⟩ := go k (by omega) h4 (fun ex s' => ex = .rt ∧ resAll s' [.s 2] = some [.b false] ∧ s'.hp = []) (fun s hs => by
      obtain ⟨w0, w1, w2, w3, w4, w5, w6, w7, w8, w9, w12, w13, w14, w15, w16, w17, w20, rfl⟩ := hs
      obtain ⟨s', e1, e2, e3⟩ := same2_ne hx hy n w0 w1 w2 w3 w4 w5 w6 w7 w8 w9 w12 w13 w14 w15 w16 w17 w20 k h1 h2 h3
      exact ⟨_, s', e1, by simp, rfl, e2, e3⟩)
    subst g2
    exact ⟨s', g1, g3, g4⟩
end

def sameB (a b : Rd) : Bool := decide (a.p = b.p) && (decide (a.f = b.f) && decide (a.t = b.t))

theorem same23 {a b : Rd} {d e : D} (ha : IsRd a d) (hb : IsRd b e) (la : a.le 40000) : PRet V 23 [d, e] (.b (sameB a b)) := by
  obtain ⟨x, y, zc, rfl, h1, h2, h3⟩ := ha
  obtain ⟨x', y', zc', rfl, k1, k2, k3⟩ := hb
  obtain ⟨a1, a2, a3⟩ := la
  have l1 := fun H => h1.len (H := H)
  have l2 := fun H => h2.len (H := H)
  have l3 := fun H => h3.len (H := H)
  have m1 := fun H => k1.len (H := H)
  have m2 := fun H => k2.len (H := H)
  have m3 := fun H => k3.len (H := H)
  simp only [List.length_map] at l1 l2 l3 m1 m2 m3
  have key : ∃ H, ∀ n, 40001 ≤ n → enter V (call V n) n v23 [.ag [x, y, zc], .ag [x', y', zc']] [] = .ret (.b (sameB a b)) H := by
    refine ⟨[], fun n hn => ?_⟩
    have hent := enter_eq (V := V) (cl := call V n) (n := n) v23 [.ag [x, y, zc], .ag [x', y', zc']] [] rfl
    rw [hent]
    cases c1 : decide ((a.p.length : Int) = (b.p.length : Int)) with
    | false =>
      have : sameB a b = false := by
        have : a.p ≠ b.p := fun hh => by rw [hh] at c1; simp at c1
        simp [sameB, this]
      rw [this]
      simp only [v23, exec_seq, exec_cond, exec_ret, exec_reg, seqK_nm, seqK_rt, condK_t, ops_cons, ops_nil, opsW_t, opsW_f, opsF_t, opsK_v, wants_none, wants_some, wantK_ft, fits_none, ev_l, ev_s, ev_c, ab_sl, ab_lo, abS_bx, abL_lp, ofO_some, step_mov, step_pick, pick_t, step_lbx, step_lfa, lfaR_s, step_lld, lldR_s, lldB_bx, lldC_s, val_f, step_bin, bin_neq, step_len, cells_ag, setSl, cut, List.getD_cons_zero, List.getD_cons_succ, List.getElem?_cons_zero, List.getElem?_cons_succ, List.set_cons_zero, List.set_cons_succ, List.nil_append, List.cons_append, List.length_cons, List.length_nil, List.drop_zero, List.take_succ_cons, List.take_zero, List.replicate_succ, List.replicate_zero, Nat.reduceAdd, Nat.reduceSub, Nat.reduceLeDiff, Nat.zero_add, if_true, Bool.not_false, Nat.add_zero, Option.map_some, l1, m1, c1]
      exact entK_rt (ds := [.b false]) rfl rfl
    | true =>
      cases c2 : decide ((a.f.length : Int) = (b.f.length : Int)) with
      | false =>
        have : sameB a b = false := by
          have : a.f ≠ b.f := fun hh => by rw [hh] at c2; simp at c2
          simp [sameB, this]
        rw [this]
        simp only [v23, exec_seq, exec_cond, exec_ret, exec_reg, seqK_nm, seqK_rt, condK_t, ops_cons, ops_nil, opsW_t, opsW_f, opsF_t, opsK_v, wants_none, wants_some, wantK_ff, wantK_ft, fits_none, ev_l, ev_s, ev_c, ab_sl, ab_lo, abS_bx, abL_lp, ofO_some, step_mov, step_pick, pick_t, pick_f, step_lbx, step_lfa, lfaR_s, step_lld, lldR_s, lldB_bx, lldC_s, val_f, step_bin, bin_neq, step_len, cells_ag, setSl, cut, List.getD_cons_zero, List.getD_cons_succ, List.getElem?_cons_zero, List.getElem?_cons_succ, List.set_cons_zero, List.set_cons_succ, List.nil_append, List.cons_append, List.length_cons, List.length_nil, List.drop_succ_cons, List.drop_zero, List.take_succ_cons, List.take_zero, List.replicate_succ, List.replicate_zero, Nat.reduceAdd, Nat.reduceSub, Nat.reduceLeDiff, Nat.zero_add, if_true, Bool.not_true, Bool.not_false, Nat.add_zero, Option.map_some, l1, l2, m1, m2, c1, c2]
        exact entK_rt (ds := [.b false]) rfl rfl
      | true =>
        cases c3 : decide ((a.t.length : Int) = (b.t.length : Int)) with
        | false =>
          have : sameB a b = false := by
            have : a.t ≠ b.t := fun hh => by rw [hh] at c3; simp at c3
            simp [sameB, this]
          rw [this]
          simp only [v23, exec_seq, exec_cond, exec_ret, exec_reg, seqK_nm, seqK_rt, condK_t, ops_cons, ops_nil, opsW_t, opsF_t, opsK_v, wants_none, wants_some, wantK_ff, fits_none, ev_l, ev_s, ev_c, ab_sl, ab_lo, abS_bx, abL_lp, ofO_some, step_mov, step_pick, pick_f, step_lbx, step_lfa, lfaR_s, step_lld, lldR_s, lldB_bx, lldC_s, val_f, step_bin, bin_neq, step_len, cells_ag, setSl, cut, List.getD_cons_zero, List.getD_cons_succ, List.getElem?_cons_zero, List.getElem?_cons_succ, List.set_cons_zero, List.set_cons_succ, List.nil_append, List.cons_append, List.length_cons, List.length_nil, List.drop_succ_cons, List.drop_zero, List.take_succ_cons, List.take_zero, List.take_nil, List.replicate_succ, List.replicate_zero, Nat.reduceAdd, Nat.reduceSub, Nat.reduceLeDiff, Nat.le_refl, Nat.zero_add, if_true, Bool.not_true, Bool.not_false, Nat.add_zero, Option.map_some, l1, l2, l3, m1, m2, m3, c1, c2, c3]
          exact entK_rt (ds := [.b false]) rfl rfl
        | true =>
          have e1 : a.p.length = b.p.length := by have := of_decide_eq_true c1; omega
          have e2 : a.f.length = b.f.length := by have := of_decide_eq_true c2; omega
          have e3 : a.t.length = b.t.length := by have := of_decide_eq_true c3; omega
          simp only [v23, exec_seq, exec_cond, exec_block, exec_skip, exec_reg, seqK_nm, condK_f, ops_cons, ops_nil, opsW_t, opsF_t, opsK_v, wants_none, wants_some, wantK_ff, fits_none, ev_l, ev_s, ev_c, ab_sl, ab_lo, abS_bx, abL_lp, ofO_some, step_mov, step_pick, pick_f, step_lbx, step_lfa, lfaR_s, step_lld, lldR_s, lldB_bx, lldC_s, val_f, step_bin, bin_neq, step_len, cells_ag, setSl, cut, List.getD_cons_zero, List.getD_cons_succ, List.getElem?_cons_zero, List.getElem?_cons_succ, List.set_cons_zero, List.set_cons_succ, List.nil_append, List.cons_append, List.length_cons, List.length_nil, List.drop_succ_cons, List.drop_zero, List.take_succ_cons, List.take_zero, List.take_nil, List.replicate_succ, List.replicate_zero, Nat.reduceAdd, Nat.reduceSub, Nat.reduceLeDiff, Nat.le_refl, Nat.zero_add, if_true, Bool.not_true, Nat.add_zero, Option.map_some, l1, l2, l3, m1, m2, m3, c1, c2, c3, exec_loop]
          rcases same0_loop (y := y) (zc := zc) (y' := y') (zc' := zc') h1 k1 (by omega) e1 n (by omega) (.ag [x, y, zc]) (.ag [x', y', zc']) (.b false) (.b false) .u .u .u .u .u .u .u .u .u .u .u .u .u with ⟨g1, w⟩ | ⟨g1, w⟩
          · obtain ⟨w0, w1, w2, w3, w4, w5, w6, w7, w8, w9, w14, w15, w16, w17, w18, w19, w20, wi, w⟩ := w
            simp only [w, exec_seq, exec_block, exec_reg, seqK_nm, blockK_ex, ops_cons, ops_nil, opsW_t, opsF_t, opsK_v, wants_none, fits_none, ev_l, ev_c, ab_sl, ab_lo, abS_bx, abL_lp, ofO_some, step_mov, step_lfa, lfaR_s, step_lld, lldR_s, lldB_bx, lldC_s, val_f, step_len, setSl, cut, List.getD_cons_zero, List.getD_cons_succ, List.getElem?_cons_zero, List.getElem?_cons_succ, List.set_cons_zero, List.set_cons_succ, List.nil_append, List.cons_append, List.length_cons, List.length_nil, List.drop_succ_cons, List.drop_zero, List.take_succ_cons, List.take_zero, Nat.reduceAdd, Nat.reduceLeDiff, Nat.zero_add, if_true, exec_loop, l2]
            rcases same1_loop (x := x) (zc := zc) (x' := x') (zc' := zc') h2 k2 (by omega) e2 n (by omega) w0 w1 w2 w3 w4 w5 w6 w7 w8 w9 wi (.i .i64 a.p.length) w14 w17 w18 w19 w20 with ⟨g2, v⟩ | ⟨g2, v⟩
            · obtain ⟨v0, v1, v2, v3, v4, v5, v6, v7, v8, v9, v12, v13, v14, v17, v18, v19, v20, vi, v⟩ := v
              simp only [v, exec_seq, exec_block, exec_reg, seqK_nm, blockK_ex, ops_cons, ops_nil, opsW_t, opsF_t, opsK_v, wants_none, fits_none, ev_l, ev_c, ab_sl, ab_lo, abS_bx, abL_lp, ofO_some, step_mov, step_lfa, lfaR_s, step_lld, lldR_s, lldB_bx, lldC_s, val_f, step_len, setSl, cut, List.getD_cons_zero, List.getD_cons_succ, List.getElem?_cons_zero, List.getElem?_cons_succ, List.set_cons_zero, List.set_cons_succ, List.nil_append, List.cons_append, List.length_cons, List.length_nil, List.drop_succ_cons, List.drop_zero, List.take_succ_cons, List.take_nil, Nat.reduceAdd, Nat.le_refl, Nat.zero_add, if_true, exec_loop, l3]
              rcases same2_loop (x := x) (y := y) (x' := x') (y' := y') h3 k3 (by omega) e3 n (by omega) v0 v1 v2 v3 v4 v5 v6 v7 v8 v9 v12 v13 v14 vi (.i .i64 a.f.length) v17 v20 with ⟨g3, u⟩ | ⟨g3, u⟩
              · obtain ⟨u0, u1, u2, u3, u4, u5, u6, u7, u8, u9, u12, u13, u14, u15, u16, u17, u20, ui, u⟩ := u
                have : sameB a b = true := by simp [sameB, g1, g2, g3]
                rw [this]
                simp only [u, exec_seq, exec_ret, exec_reg, seqK_nm, blockK_ex, ops_cons, ops_nil, opsW_t, opsF_t, opsK_v, wants_none, fits_none, ev_c, step_mov, setSl, List.set_cons_zero, List.set_cons_succ, List.nil_append, if_true]
                exact entK_rt (ds := [.b true]) rfl rfl
              · obtain ⟨s', u, u1, u2⟩ := u
                have : sameB a b = false := by simp [sameB, g3]
                rw [this]
                simp only [u, seqK_rt, blockK_rt]
                rw [entK_rt u1 rfl, u2]; rfl
            · obtain ⟨s', u, u1, u2⟩ := v
              have : sameB a b = false := by simp [sameB, g2]
              rw [this]
              simp only [u, seqK_rt, blockK_rt]
              rw [entK_rt u1 rfl, u2]; rfl
          · obtain ⟨s', u, u1, u2⟩ := w
            have : sameB a b = false := by simp [sameB, g1]
            rw [this]
            simp only [u, seqK_rt, blockK_rt]
            rw [entK_rt u1 rfl, u2]; rfl
  obtain ⟨H, key⟩ := key
  exact PRet.of (vf := v23) (d0 := .b (sameB a b)) (H := H) rfl 40001 key rfl rfl
end Go.Proofs.Ytkogdbgccjmaoaa.Dv
