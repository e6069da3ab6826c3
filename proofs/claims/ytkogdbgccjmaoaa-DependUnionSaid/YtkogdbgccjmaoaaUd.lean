/-
  Functions of layer 25 over the machine: the keys that were examined; plain arguments.
-/
import Derived.Test.YtkogdbgccjmaoaaUb
import Derived.Test.YtkogdbgccjmaoaaUc
import Derived.Test.YtkogdbgccjmaoaaDf
namespace Go.Proofs.Ytkogdbgccjmaoaa.Dv
open Go.Dm

theorem Ret.laid {f : FuncId} {vf : VFunc} (hf : V.fn f = some vf) (hp : vf.pure = true) {H : Heap} {args ds : List D} {w : Nat} {rows : List (List D)} (ha : FrAs H args ds) (h : PRet V f ds (owD w rows)) : ∃ H1, Ret V f args H (placeC (owD w rows) H1).1 (placeC (owD w rows) H1).2 ∧ Gr H H1 := by
  obtain ⟨H1, e, g⟩ := ha H (.refl _)
  have := Ret.pure hf hp e h
  have hpl : place (owD w rows) H1 = placeC (owD w rows) H1 := by cases rows <;> rfl
  rw [hpl] at this
  exact ⟨H1, this, g⟩

theorem app_known {A : List (List D)} {n i : Nat} (hA : A.length = i) (hi : i < n) (hn : n ≤ 40000) (zc k : List D) (hk : ∀ d ∈ k, d.flat = true) {w : Nat} {bytes : Nat} (hb : bytes ≤ 64) :
    appD [.ar w (A ++ List.replicate (n - i) zc) (some n) true false] (.mu 0 n 0 i) (.sv w [k]) w bytes true = some (.mu 0 n 0 (i + 1), [.ar w ((A ++ [k]) ++ List.replicate (n - (i + 1)) zc) (some n) true false]) := by
  have hf : ∀ H, freezeRows H [k] = some ([k], H) := fun H => flat_freezeRows H (fun r hr => by rw [List.mem_singleton.1 hr]; exact hk)
  have hl : (A ++ List.replicate (n - i) zc).length = n := by simp; omega
  have harr : arr [.ar w (A ++ List.replicate (n - i) zc) (some n) true false] 0 n = some (w, A ++ List.replicate (n - i) zc, some n, true, false) := by simp [arr, hl]
  have hroom : room (0 + i + 1) bytes = true := room_ok (by omega) hb
  have ht : (A ++ List.replicate (n - i) zc).take i = A := by rw [List.take_append_of_le_length (by omega), List.take_of_length_le (by omega)]
  have hd : (A ++ List.replicate (n - i) zc).drop (i + 1) = List.replicate (n - (i + 1)) zc := by
    rw [List.drop_append, List.drop_eq_nil_of_le (by omega), List.nil_append, hA, List.drop_replicate]
    congr 1; omega
  have hcap : 0 + i + [k].length ≤ n := by simp; omega
  simp only [appD, rowsOf, if_true, hf, appTo, appMu, harr, true_and, List.length_singleton, hroom, and_true, appIn]
  rw [if_pos (by omega)]
  have hc2 : 0 + i + 1 ≤ n := by omega
  simp only [hc2, if_true]
  rw [Nat.zero_add, ht, hd]
  have hl2 : (A ++ [k] ++ List.replicate (n - (i + 1)) zc).length = n := by simp; omega
  rw [hl2]
  rfl

def keysB (r : Rd) : List (List UInt8) := once2 (r.f.map (·.1)) []

theorem keys18 {r : Rd} {d : D} (h : IsRd r d) (hl : r.le 40000) : PRet V 18 [d] (owD 1 ((keysB r).map eS.enc)) := by
  obtain ⟨x, y, zc, rfl, h1, h2, h3⟩ := h
  obtain ⟨l1, l2, l3⟩ := hl
  let ks := r.f.map (·.1)
  have hks : ks.length = r.f.length := by simp [ks]
  have hlen := fun H => h2.len (H := H)
  simp only [List.length_map] at hlen
  -- what is made
  let hp : Nat → Heap := fun i => [.ar 1 ((ks.take i).map eS.enc ++ List.replicate (r.f.length - i) [.s []]) (some r.f.length) true false]
  have hmk : mksD [] (.i .i64 0) (.i .i64 (r.f.length : Int)) 1 16 [.s []] true = some (.mu 0 r.f.length 0 0, hp 0) := by
    have b1 : bdOf (.i .i64 (r.f.length : Int)) 17592186044416 = some r.f.length := by simp [bdOf]; omega
    have b2 : bdOf (.i .i64 0) r.f.length = some 0 := by simp [bdOf]
    have hroom : room r.f.length 16 = true := room_ok (by omega) (by omega)
    simp only [mksD, b1, b2, hroom, if_true, List.length_nil, List.nil_append, hp, List.take_zero, List.map_nil, Nat.sub_zero]
  have k4 : ∀ (i : Nat) (hi : i < r.f.length) H, iadD H y (.i .i64 i) 3 = some (.ip [.s r.f[i].1, .i .i64 r.f[i].2.1, .i .i64 r.f[i].2.2]) := fun i hi H => by
    have := h2.elem (H := H) (k := .i64) (i := i) (by simpa using hi)
    simp only [List.getElem_map] at this
    exact this
  -- the result's slice
  have hms : Ms 1 (ks.map eS.enc) (hp r.f.length) (.mu 0 (ks.map eS.enc).length 0 (ks.map eS.enc).length) := by
    refine .mu 0 ⟨some r.f.length, false, ?_⟩ (by simp [hp])
    have : (ks.take r.f.length).map eS.enc = ks.map eS.enc := by rw [List.take_of_length_le (by omega)]
    have e : hp r.f.length = [.ar 1 (ks.map eS.enc) (some r.f.length) true false] := by simp only [hp, this, Nat.sub_self, List.replicate_zero, List.append_nil]
    rw [e]; simp [arr]
  obtain ⟨x', f1, f2⟩ := hms.fr
  obtain ⟨H1, ⟨N, hN⟩, _⟩ := Ret.laid (f := 37) (vf := v37) rfl rfl (H := hp r.f.length) (args := [.mu 0 (ks.map eS.enc).length 0 (ks.map eS.enc).length, .nil]) (ds := [x', .nil]) (.cons f1.a (.cons (.flat rfl _) (.nil _))) (once37 (as := ks) (bs := []) f2 (.nil rfl) (by omega) (by simp))
  rw [List.length_map, hks] at hN
  have key : ∀ n, N + 40001 ≤ n → enter V (call V n) n v18 [.ag [x, y, zc]] [] = .ret (placeC (owD 1 ((keysB r).map eS.enc)) H1).1 (placeC (owD 1 ((keysB r).map eS.enc)) H1).2 := fun n hn => by
    have hent := enter_eq (V := V) (cl := call V n) (n := n) v18 [.ag [x, y, zc]] [] rfl
    rw [hent]
    let st : Int → D → D → Nat → St := fun i g2 g8 j => ⟨[.ag [x, y, zc], .nil, g2, .bx [x, y, zc], .mu 0 r.f.length 0 j, .i .i64 i, .i .i64 r.f.length, y, g8], hp j⟩
    obtain ⟨ex, s', e1, e2, g2, g8, e3⟩ := iter_rel (body := exec V (call V n) n v18l0) (n := n) (R := fun i s => ∃ g2 g8, s = st i g2 g8 i) (Q := fun ex s' => ex = .ex 0 ∧ ∃ g2 g8, s' = st r.f.length g2 g8 r.f.length) r.f.length (st := st 0 .u .u 0) (by omega) ⟨_, _, rfl⟩ (fun i s hi hs => by
      obtain ⟨g2, g8, rfl⟩ := hs
      have hd : decide ((i : Int) < (r.f.length : Int)) = true := by simpa using hi
      have hw : IntKind.i64.wrap ((i : Int) + 1) = ((i + 1 : Nat) : Int) := by rw [IntWalk.i64_in _ (by omega)]; omega
      have hc : (D.s r.f[i].1).cellsN 1 = some [.s r.f[i].1] := rfl
      have hap := app_known (A := (ks.take i).map eS.enc) (n := r.f.length) (i := i) (by simp; omega) hi (by omega) [.s []] [.s r.f[i].1] (by simp [D.flat]) (w := 1) (bytes := 16) (by omega)
      have hnext : (ks.take i).map eS.enc ++ [[.s r.f[i].1]] = (ks.take (i + 1)).map eS.enc := by
        rw [List.take_succ_eq_append_getElem (by omega), List.map_append]
        simp [ks, eS]
      rw [hnext] at hap
      refine ⟨st (i + 1 : Nat) (.b true) (.bx [.s r.f[i].1, .i .i64 r.f[i].2.1, .i .i64 r.f[i].2.2]) (i + 1), ?_, _, _, rfl⟩
      simp only [v18l0, st, exec_seq, exec_cond, exec_block, exec_skip, exec_reg, seqK_nm, condK_t, blockK_nm, ops_cons, ops_nil, opsW_t, opsF_t, opsK_v, wants_none, fits_none, ev_l, ev_s, ev_c, ab_sl, ab_lo, abS_bx, abL_lp, ofO_some, ofP_some, step_mov, step_lal, step_lfa, lfaR_s, step_lld, lldR_s, lldB_bx, lldC_s, step_lst, lstR_s, lstB_bx, lstC_s, step_iad, step_ld, ldR_s, ld_ip, val_t, val_f, step_bin, bin_add, bin_lss, step_bsv, step_app, cells_ag, setSl, cut, put, List.getD_cons_zero, List.getD_cons_succ, List.getElem?_cons_zero, List.getElem?_cons_succ, List.set_cons_zero, List.set_cons_succ, List.nil_append, List.cons_append, List.append_nil, List.length_cons, List.length_nil, List.drop_succ_cons, List.drop_zero, List.drop_nil, List.take_succ_cons, List.take_zero, List.take_nil, List.map_cons, List.map_nil, Nat.reduceAdd, Nat.reduceLeDiff, Nat.le_refl, Nat.zero_add, if_true, Nat.add_zero, hd, k4 i hi, hw, bsv_one hc, hp, hap]) (fun s hs => by
      obtain ⟨g2, g8, rfl⟩ := hs
      have hd : decide ((r.f.length : Int) < (r.f.length : Int)) = false := by simp
      refine ⟨.ex 0, st r.f.length (.b false) g8 r.f.length, ?_, by simp, rfl, _, _, rfl⟩
      simp only [v18l0, st, exec_seq, exec_cond, exec_exit, exec_reg, seqK_nm, seqK_ex, condK_f, ops_cons, ops_nil, opsW_t, opsF_t, opsK_v, wants_none, fits_none, ev_s, ofO_some, step_bin, bin_lss, setSl, List.getD_cons_zero, List.getD_cons_succ, List.set_cons_zero, List.set_cons_succ, List.nil_append, hd])
    subst e2; subst e3
    simp only [st] at e1
    have hc := hN n (by omega)
    simp only [v18, exec_seq, exec_block, exec_reg, seqK_nm, ops_cons, ops_nil, opsW_t, opsF_t, opsK_v, wants_none, fits_none, ev_l, ev_s, ev_c, ab_sl, ab_lo, abS_bx, abL_lp, ofO_some, ofP_some, step_mov, step_lbx, step_lfa, lfaR_s, step_lld, lldR_s, lldB_bx, lldC_s, val_f, step_len, step_mks, cells_ag, setSl, cut, List.getD_cons_zero, List.getD_cons_succ, List.getElem?_cons_zero, List.getElem?_cons_succ, List.set_cons_zero, List.set_cons_succ, List.nil_append, List.cons_append, List.length_cons, List.length_nil, List.drop_succ_cons, List.drop_zero, List.take_succ_cons, List.take_zero, List.replicate_succ, List.replicate_zero, Nat.reduceAdd, Nat.reduceSub, Nat.reduceLeDiff, Nat.zero_add, if_true, Option.map_some, exec_loop, hlen, hmk]
    simp only [e1, exec_seq, exec_ret, exec_reg, seqK_nm, blockK_ex, ops_cons, ops_nil, opsW_t, opsF_t, opsK_v, wants_none, fits_none, step_call, toR_ret, ev_l, ev_s, ev_c, step_mov, setSl, List.getD_cons_zero, List.getD_cons_succ, List.set_cons_zero, List.set_cons_succ, List.nil_append, List.cons_append, List.map_cons, List.map_nil, if_true, hc]
    exact entK_rt (ds := [_]) rfl rfl
  refine PRet.of (vf := v18) rfl (N + 40001) key ?_ ?_
  · cases (keysB r).map eS.enc <;> rfl
  · have := settle_place 1 ((keysB r).map eS.enc) H1 []
    rw [List.append_nil] at this
    generalize (keysB r).map eS.enc = rows at this ⊢
    cases rows with
    | nil => rfl
    | cons r rows => exact this

/-! ### Plain arguments -/
section
variable {env : Tenv}

theorem rows_p : ∀ {rows : List (List D)}, (∀ r ∈ rows, HasTs env [.s, .i .i64] r) → ∃ ps : List (List UInt8 × Int), rows = ps.map eP.enc
  | [], _ => ⟨[], rfl⟩
  | r :: rows, h => by
    obtain ⟨ps, e⟩ := rows_p (fun r hr => h r (List.mem_cons_of_mem _ hr))
    cases h r List.mem_cons_self with
    | cons h1 h2 => cases h1 with
      | s l _ => cases h2 with
        | cons h3 h4 => cases h3 with
          | i k n _ => cases h4; exact ⟨(l, n) :: ps, by rw [e]; rfl⟩
theorem rows_f : ∀ {rows : List (List D)}, (∀ r ∈ rows, HasTs env [.s, .i .i64, .i .i64] r) → ∃ ps : List (List UInt8 × Int × Int), rows = ps.map eR.enc
  | [], _ => ⟨[], rfl⟩
  | r :: rows, h => by
    obtain ⟨ps, e⟩ := rows_f (fun r hr => h r (List.mem_cons_of_mem _ hr))
    cases h r List.mem_cons_self with
    | cons h1 h2 => cases h1 with
      | s l _ => cases h2 with
        | cons h3 h4 => cases h3 with
          | i k n _ => cases h4 with
            | cons h5 h6 => cases h5 with
              | i k m _ => cases h6; exact ⟨(l, n, m) :: ps, by rw [e]; rfl⟩
theorem rows_t : ∀ {rows : List (List D)}, (∀ r ∈ rows, HasTs env [.s] r) → ∃ ps : List (List UInt8), rows = ps.map eS.enc
  | [], _ => ⟨[], rfl⟩
  | r :: rows, h => by
    obtain ⟨ps, e⟩ := rows_t (fun r hr => h r (List.mem_cons_of_mem _ hr))
    cases h r List.mem_cons_self with
    | cons h1 h2 => cases h1 with
      | s l _ => cases h2; exact ⟨l :: ps, by rw [e]; rfl⟩

theorem sl_of {ts : List T} {d : D} (h : HasT env (.sl ts) d) : ∃ rows, (∀ r ∈ rows, HasTs env ts r) ∧ Sl ts.length rows d := by
  cases h with
  | nil => exact ⟨[], fun r hr => (by cases hr), .nil rfl⟩
  | z => exact ⟨[], fun r hr => (by cases hr), .z rfl⟩
  | sl _ rows _ hr => exact ⟨rows, hr, .im⟩

def rdT : List T := [.sl [.s, .i .i64], .sl [.s, .i .i64, .i .i64], .sl [.s]]
theorem is_rd {d : D} (h : HasP env (true, rdT) d) : ∃ r, IsRd r d := by
  cases h with
  | ag _ ds h => cases h with
    | cons h1 h => cases h with
      | cons h2 h => cases h with
        | cons h3 h =>
          cases h
          obtain ⟨r1, a1, b1⟩ := sl_of h1
          obtain ⟨r2, a2, b2⟩ := sl_of h2
          obtain ⟨r3, a3, b3⟩ := sl_of h3
          obtain ⟨p, rfl⟩ := rows_p a1
          obtain ⟨f, rfl⟩ := rows_f a2
          obtain ⟨t, rfl⟩ := rows_t a3
          exact ⟨⟨p, f, t⟩, _, _, _, rfl, b1, b2, b3⟩

def factT : List T := [.s, .i .i64, .i .i64, .i .i64, .b, .i .u8, .b, .sl [.i .u16], .b, .sl [.i .u16], .i .i64]
theorem is_fact {d : D} (h : HasP env (true, factT) d) : ∃ key fr to kn c4 c5 c6 c7 c8 c9 c10, d = .ag (factD key fr to kn c4 c5 c6 c7 c8 c9 c10) ∧ (∀ c ∈ factD key fr to kn c4 c5 c6 c7 c8 c9 c10, c.flat = true) := by
  cases h with
  | ag _ ds h =>
    have hf := h.flat
    revert hf
    cases h with | cons h0 h => cases h with | cons h1 h => cases h with | cons h2 h => cases h with | cons h3 h => cases h with | cons h4 h => cases h with | cons h5 h => cases h with | cons h6 h =>
    cases h with | cons h7 h => cases h with | cons h8 h => cases h with | cons h9 h => cases h with | cons h10 h =>
    cases h; cases h0; cases h1; cases h2; cases h3
    intro hf
    exact ⟨_, _, _, _, _, _, _, _, _, _, _, rfl, hf⟩

def exprT : List T := [.i .u8, .s, .i .u8, .b, .sl [.i .u16], .b, .sl [.i .u16], .i .i64, .rc 38]
def clauseT : List T := [.s, .s, .i .i64, .i .i64, .i .i64, .b] ++ (exprT ++ exprT)
theorem is_clause {d : D} (h : HasP env (true, clauseT) d) : ∃ nm lb fr to kn c5 c6 c7 c8 c9 c10 c11 c12 c13 c14 c15 c16 c17 c18 c19 c20 c21 c22 c23, d = .ag (clauseD nm lb fr to kn c5 c6 c7 c8 c9 c10 c11 c12 c13 c14 c15 c16 c17 c18 c19 c20 c21 c22 c23) ∧
    (∀ c ∈ clauseD nm lb fr to kn c5 c6 c7 c8 c9 c10 c11 c12 c13 c14 c15 c16 c17 c18 c19 c20 c21 c22 c23, c.flat = true) := by
  cases h with
  | ag _ ds h =>
    have hf := h.flat
    revert hf
    cases h with | cons h0 h => cases h with | cons h1 h => cases h with | cons h2 h => cases h with | cons h3 h => cases h with | cons h4 h => cases h with | cons h5 h => cases h with | cons h6 h =>
    cases h with | cons h7 h => cases h with | cons h8 h => cases h with | cons h9 h => cases h with | cons h10 h => cases h with | cons h11 h => cases h with | cons h12 h => cases h with | cons h13 h =>
    cases h with | cons h14 h => cases h with | cons h15 h => cases h with | cons h16 h => cases h with | cons h17 h => cases h with | cons h18 h => cases h with | cons h19 h => cases h with | cons h20 h =>
    cases h with | cons h21 h => cases h with | cons h22 h => cases h with | cons h23 h =>
    cases h; cases h0; cases h2; cases h3; cases h4
    intro hf
    exact ⟨_, _, _, _, _, _, _, _, _, _, _, _, _, _, _, _, _, _, _, _, _, _, _, _, rfl, hf⟩

theorem is_str {d : D} (h : HasP env (false, [.s]) d) : ∃ s, d = .s s := by
  cases h with
  | one _ _ h => cases h with | cons h0 h => cases h0 with | s l _ => exact ⟨l, rfl⟩
theorem is_int {d : D} (h : HasP env (false, [.i .i64]) d) : ∃ n, d = .i .i64 n := by
  cases h with
  | one _ _ h => cases h with | cons h0 h => cases h0 with | i k n _ => exact ⟨n, rfl⟩
end
end Go.Proofs.Ytkogdbgccjmaoaa.Dv
