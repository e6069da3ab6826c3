/-
  The law DependUnion over the machine: it gives true, whatever the plain arguments.
-/
import Derived.Test.YtkogdbgccjmaoaaUd
import Derived.Test.YtkogdbgccjmaoaaDg
import Derived.KernelRfl
import Derived.Test.YtkogdbgccjmaoaaRows
namespace Go.Proofs.Ytkogdbgccjmaoaa.Dv
open Go.Dm Go.Proofs

/-! ### Each element once: what holds of lists -/
section
variable {α β : Type} [DecidableEq α] [DecidableEq β]

def uniq (l : List α) : List α := l.foldl add1 []

theorem add1_in {us : List α} {a : α} (h : a ∈ us) : add1 us a = us := by simp [add1, h]
theorem add1_no {us : List α} {a : α} (h : a ∉ us) : add1 us a = us ++ [a] := by simp [add1, h]
theorem fold_in : ∀ (l us : List α), (∀ a ∈ l, a ∈ us) → l.foldl add1 us = us
  | [], _, _ => rfl
  | a :: l, us, h => by rw [List.foldl_cons, add1_in (h a List.mem_cons_self)]; exact fold_in l us (fun b hb => h b (List.mem_cons_of_mem _ hb))
theorem fold_new : ∀ (l us : List α), (us ++ l).Nodup → l.foldl add1 us = us ++ l
  | [], us, _ => by simp
  | a :: l, us, h => by
    have ha : a ∉ us := fun hh => by
      have := (List.nodup_append.1 h).2.2 a hh a List.mem_cons_self
      exact this rfl
    rw [List.foldl_cons, add1_no ha, fold_new l (us ++ [a]) (by rwa [List.append_assoc])]
    simp
theorem nodup_add1 {us : List α} (h : us.Nodup) (a : α) : (add1 us a).Nodup := by
  unfold add1
  split
  · exact h
  · rename_i ha
    rw [List.nodup_append]
    exact ⟨h, by simp, fun x hx y hy => by rw [List.mem_singleton.1 hy]; exact fun e => ha (e ▸ hx)⟩
theorem nodup_fold : ∀ (l us : List α), us.Nodup → (l.foldl add1 us).Nodup
  | [], _, h => h
  | a :: l, us, h => nodup_fold l _ (nodup_add1 h a)
theorem nodup_uniq (l : List α) : (uniq l).Nodup := nodup_fold l [] List.nodup_nil
theorem mem_uniq (l : List α) (a : α) : a ∈ uniq l ↔ a ∈ l := by rw [uniq, mem_fold]; simp
theorem fold_fold : ∀ (l vs us : List α), (l.foldl add1 vs).foldl add1 us = l.foldl add1 (vs.foldl add1 us)
  | [], _, _ => rfl
  | x :: l, vs, us => by
    rw [List.foldl_cons, fold_fold l (add1 vs x) us, List.foldl_cons]
    congr 1
    by_cases h : x ∈ vs
    · rw [add1_in h, add1_in ((mem_fold vs us x).2 (.inr h))]
    · rw [add1_no h, List.foldl_append]; rfl
theorem fold_uniq (l us : List α) : (uniq l).foldl add1 us = l.foldl add1 us := fold_fold l [] us
theorem uniq_of_nodup {l : List α} (h : l.Nodup) : uniq l = l := by rw [uniq, fold_new l [] (by simpa using h)]; simp
theorem once2_eq (a b : List α) : once2 a b = b.foldl add1 (uniq a) := by rw [once2, List.foldl_append]; rfl
theorem once2_uniq (a b : List α) : once2 a b = uniq (a ++ b) := rfl
theorem once2_self {m : List α} (h : m.Nodup) : once2 m m = m := by rw [once2_eq, uniq_of_nodup h, fold_in m m (fun _ h => h)]
theorem once2_sub {m a : List α} (h : m.Nodup) (ha : ∀ x ∈ a, x ∈ m) : once2 m a = m := by rw [once2_eq, uniq_of_nodup h, fold_in a m ha]
theorem once2_assoc (a b c : List α) : once2 (once2 a b) c = once2 a (once2 b c) := by
  have h1 : once2 (once2 a b) c = c.foldl add1 (b.foldl add1 (uniq a)) := by
    have h0 : (once2 a b).Nodup := nodup_uniq (a ++ b)
    rw [once2_eq (once2 a b) c, uniq_of_nodup h0, once2_eq a b]
  have h2 : once2 a (once2 b c) = c.foldl add1 (b.foldl add1 (uniq a)) := by
    rw [once2_eq a (once2 b c), once2_uniq b c, fold_uniq, List.foldl_append]
  rw [h1, h2]
theorem once2_nodup (a b : List α) : (once2 a b).Nodup := nodup_uniq _
theorem mem_once2 (a b : List α) (x : α) : x ∈ once2 a b ↔ x ∈ a ∨ x ∈ b := by rw [once2_uniq, mem_uniq, List.mem_append]
theorem any_once2 (a b : List α) (p : α → Bool) : (once2 a b).any p = (a.any p || b.any p) := by
  rw [Bool.eq_iff_iff]
  simp only [List.any_eq_true, mem_once2, Bool.or_eq_true]
  constructor
  · rintro ⟨x, h | h, hp⟩
    · exact .inl ⟨x, h, hp⟩
    · exact .inr ⟨x, h, hp⟩
  · rintro (⟨x, h, hp⟩ | ⟨x, h, hp⟩)
    · exact ⟨x, .inl h, hp⟩
    · exact ⟨x, .inr h, hp⟩
theorem inB_once2 (a b : List α) (x : α) : inB x (once2 a b) = (inB x a || inB x b) := by
  rw [Bool.eq_iff_iff, Bool.or_eq_true, inB_t, inB_t, inB_t, mem_once2]
theorem allIn_once2_l (a b : List α) : allIn a (once2 a b) = true := by
  simp only [allIn, List.all_eq_true, inB_t, mem_once2]
  exact fun x hx => .inl hx
theorem allIn_once2_r (a b : List α) : allIn b (once2 a b) = true := by
  simp only [allIn, List.all_eq_true, inB_t, mem_once2]
  exact fun x hx => .inr hx
theorem map_fold (f : α → β) : ∀ (l vs : List α) (us : List β), ((l.foldl add1 vs).map f).foldl add1 us = (l.map f).foldl add1 ((vs.map f).foldl add1 us)
  | [], _, _ => rfl
  | x :: l, vs, us => by
    rw [List.foldl_cons, map_fold f l (add1 vs x) us, List.map_cons, List.foldl_cons]
    congr 1
    by_cases h : x ∈ vs
    · rw [add1_in h, add1_in ((mem_fold _ us (f x)).2 (.inr (List.mem_map.2 ⟨x, h, rfl⟩)))]
    · rw [add1_no h, List.map_append, List.foldl_append]; rfl
theorem keys_le (f : α → β) (a b : List α) : (uniq ((once2 a b).map f)).length ≤ (uniq (a.map f)).length + (uniq (b.map f)).length := by
  have : uniq ((once2 a b).map f) = ((a ++ b).map f).foldl add1 [] := map_fold f (a ++ b) [] []
  rw [this, List.map_append, List.foldl_append, ← fold_uniq (b.map f)]
  exact fold_len _ _
end

theorem keysB_eq (r : Rd) : keysB r = uniq (r.f.map (·.1)) := by rw [keysB, once2_uniq, List.append_nil]

section
variable (a b c : Rd)
theorem u_within_l : withinB a (merge a b) = true := by simp [withinB, merge, allIn_once2_l]
theorem u_within_r : withinB b (merge a b) = true := by simp [withinB, merge, allIn_once2_r]
theorem u_self : sameB (merge (merge a b) (merge a b)) (merge a b) = true := by
  simp [sameB, merge, once2_self (once2_nodup _ _)]
theorem u_part : sameB (merge (merge a b) a) (merge a b) = true := by
  have h : ∀ {α : Type} [DecidableEq α] (x y : List α), once2 (once2 x y) x = once2 x y := fun x y => once2_sub (once2_nodup _ _) (fun zc hz => (mem_once2 x y zc).2 (.inl hz))
  simp [sameB, merge, h]
theorem u_assoc : sameB (merge (merge a b) c) (merge a (merge b c)) = true := by
  simp [sameB, merge, once2_assoc]
theorem u_fact (key : List UInt8) (fr to kn known : Int) : factB (merge a b) key fr to kn known = (factB a key fr to kn known || factB b key fr to kn known) := by
  simp only [factB, merge, any_once2]
  cases decide (kn ≤ known) <;> simp
theorem u_clause (nm : List UInt8) (fr to kn known : Int) : clauseB (merge a b) nm fr to kn known = (clauseB a nm fr to kn known || clauseB b nm fr to kn known) := by
  simp only [clauseB, merge, any_once2]
  cases decide (kn ≤ known) <;> simp
theorem u_row (nm : List UInt8) (kn known : Int) : rowB (merge a b) nm kn known = (rowB a nm kn known || rowB b nm kn known) := by
  simp only [rowB, merge, inB_once2]
  cases decide (kn ≤ known) <;> simp
theorem u_keys : (keysB (merge a b)).length ≤ (keysB a).length + (keysB b).length := by
  simp only [keysB_eq]
  exact keys_le (·.1) a.f b.f
theorem keys_len : (keysB a).length ≤ a.f.length := by
  rw [keysB_eq]
  have := fold_len (a.f.map (·.1)) []
  simpa [uniq] using this
end

/-! ### The law -/

theorem awake8 : PRet V 8 [] (.b true) := ⟨300, by kernel_rfl⟩

theorem IsRd.fx {r : Rd} {d : D} (h : IsRd r d) (H : Heap) : Fx H d d := by
  obtain ⟨x, y, zc, rfl, h1, h2, h3⟩ := h
  intro m H1 _
  rw [freeze_succ]
  have := flat_freezeL (m + 3) H1 (ds := [x, y, zc]) (fun d hd => by
    simp only [List.mem_cons, List.not_mem_nil, or_false] at hd
    rcases hd with rfl | rfl | rfl
    · exact h1.flat
    · exact h2.flat
    · exact h3.flat)
  simp only [this]
theorem ag_fx {ds : List D} (h : ∀ d ∈ ds, d.flat = true) (H : Heap) : Fx H (.ag ds) (.ag ds) := fun m H1 _ => by
  rw [freeze_succ]; simp only [flat_freezeL (m + 3) H1 h]

def MsR (r : Rd) (H : Heap) (d : D) : Prop := Ms3 2 3 1 (r.p.map eP.enc) (r.f.map eR.enc) (r.t.map eS.enc) H d
theorem MsR.gl {r : Rd} {H H' : Heap} {d : D} (h : MsR r H d) (g : Gl H H') : MsR r H' d := by
  obtain ⟨x, y, zc, e, h1, h2, h3⟩ := h
  exact ⟨x, y, zc, e, h1.gl g, h2.gl g, h3.gl g⟩
theorem MsR.fl {r : Rd} {H : Heap} {d : D} (h : MsR r H d) : ∃ d' H', Fl H d d' H' ∧ IsRd r d' := by
  obtain ⟨x, y, zc, H', h1, h2, h3, h4⟩ := ms3_fl h
  exact ⟨_, H', h1, x, y, zc, rfl, h2, h3, h4⟩

theorem call21 {H H1 : Heap} {a b : Rd} {d e d' e' : D} (hfr : freezeL deep H [d, e] = some ([d', e'], H1)) (ha : IsRd a d') (hb : IsRd b e') (la : a.le 40000) (lb : b.le 40000) :
    ∃ x y zc H2, Ret V 21 [d, e] H (.ag [x, y, zc]) H2 ∧ Gl H1 H2 ∧ MsR (merge a b) H2 (.ag [x, y, zc]) :=
  Ret.ms3 (vf := v21) rfl rfl hfr (merge21 ha hb la lb)

set_option maxHeartbeats 4000000 in
theorem union4 (xs : List D) (h : HasPs (envOf Try.prog [38]) [(true, rdT), (true, rdT), (true, rdT), (true, factT), (true, clauseT), (false, [.s]), (false, [.i .i64])] xs) : PRet V 4 xs (.b true) := by
  cases h with | cons ha h => cases h with | cons hb h => cases h with | cons hc h => cases h with | cons hf h => cases h with | cons hd h => cases h with | cons hn h => cases h with | cons hk h =>
  cases h
  obtain ⟨a, ha⟩ := is_rd ha
  obtain ⟨b, hb⟩ := is_rd hb
  obtain ⟨c, hc⟩ := is_rd hc
  obtain ⟨key, fr, to, kn, c4, c5, c6, c7, c8, c9, c10, rfl, hff⟩ := is_fact hf
  obtain ⟨nm, lb, gr, ho, ln, e5, e6, e7, e8, e9, e10, e11, e12, e13, e14, e15, e16, e17, e18, e19, e20, e21, e22, e23, rfl, hdf⟩ := is_clause hd
  obtain ⟨tn, rfl⟩ := is_str hn
  obtain ⟨known, rfl⟩ := is_int hk
  have ka := ha
  have kb := hb
  have kc := hc
  obtain ⟨a1, a2, a3, rfl, _, _, _⟩ := ha
  obtain ⟨b1, b2, b3, rfl, _, _, _⟩ := hb
  obtain ⟨d1, d2, d3, rfl, _, _, _⟩ := hc
  have hent := fun n => enter_eq (V := V) (cl := call V n) (n := n) v4 [.ag [a1, a2, a3], .ag [b1, b2, b3], .ag [d1, d2, d3], .ag (factD key fr to kn c4 c5 c6 c7 c8 c9 c10), .ag (clauseD nm lb gr ho ln e5 e6 e7 e8 e9 e10 e11 e12 e13 e14 e15 e16 e17 e18 e19 e20 e21 e22 e23), .s tn, .i .i64 known] [] rfl
  obtain ⟨n7a, q7a⟩ := Ret.truth (V := V) (f := 7) (vf := v7) rfl rfl (fls_cons (ka.fx []).at (fls_nil [])) (few7 ka)
  obtain ⟨n7b, q7b⟩ := Ret.truth (V := V) (f := 7) (vf := v7) rfl rfl (fls_cons (kb.fx []).at (fls_nil [])) (few7 kb)
  obtain ⟨n7c, q7c⟩ := Ret.truth (V := V) (f := 7) (vf := v7) rfl rfl (fls_cons (kc.fx []).at (fls_nil [])) (few7 kc)
  obtain ⟨n8, q8⟩ := Ret.truth (V := V) (f := 8) (vf := v8) rfl rfl (fls_nil []) awake8
  cases fa : fewB a with
  | false =>
    rw [fa] at q7a
    refine PRet.of (vf := v4) (d0 := .b true) (H := []) rfl (n7a + n8) (fun n hn => ?_) rfl rfl
    rw [hent n]
    have g1 := q7a n (by omega)
    have g2 := q8 n (by omega)
    simp only [v4, factD, clauseD, exec_seq, exec_cond, exec_ret, exec_reg, seqK_nm, seqK_rt, condK_t, ops_cons, ops_nil, opsW_t, opsW_f, opsF_t, opsK_v, wants_none, wants_some, wantK_ft, fits_none, step_call, toR_ret, ev_l, ev_s, ev_c, ab_sl, abS_bx, ofO_some, step_mov, step_pick, pick_t, step_lbx, step_lld, lldR_s, lldB_bx, lldC_s, val_t, step_un, un_not, cells_ag, setSl, cut, List.getD_cons_zero, List.getD_cons_succ, List.getElem?_cons_zero, List.getElem?_cons_succ, List.set_cons_zero, List.set_cons_succ, List.nil_append, List.cons_append, List.length_cons, List.length_nil, List.drop_zero, List.take_succ_cons, List.take_nil, List.map_cons, List.map_nil, List.replicate_succ, List.replicate_zero, Nat.reduceAdd, Nat.reduceSub, Nat.le_refl, Nat.zero_add, if_true, Bool.not_false, Option.map_some, g1, g2]
    exact entK_rt (ds := [.b true]) rfl rfl
  | true =>
    cases fb : fewB b with
    | false =>
      rw [fa] at q7a
      rw [fb] at q7b
      refine PRet.of (vf := v4) (d0 := .b true) (H := []) rfl (n7a + n7b + n8) (fun n hn => ?_) rfl rfl
      rw [hent n]
      have g1 := q7a n (by omega)
      have g2 := q8 n (by omega)
      have g3 := q7b n (by omega)
      simp only [v4, factD, clauseD, exec_seq, exec_cond, exec_ret, exec_reg, seqK_nm, seqK_rt, condK_t, ops_cons, ops_nil, opsW_t, opsW_f, opsF_t, opsK_v, wants_none, wants_some, wantK_ff, wantK_ft, fits_none, step_call, toR_ret, ev_l, ev_s, ev_c, ab_sl, abS_bx, ofO_some, step_mov, step_pick, pick_t, pick_f, step_lbx, step_lld, lldR_s, lldB_bx, lldC_s, val_t, step_un, un_not, cells_ag, setSl, cut, List.getD_cons_zero, List.getD_cons_succ, List.getElem?_cons_zero, List.getElem?_cons_succ, List.set_cons_zero, List.set_cons_succ, List.nil_append, List.cons_append, List.length_cons, List.length_nil, List.drop_zero, List.take_succ_cons, List.take_nil, List.map_cons, List.map_nil, List.replicate_succ, List.replicate_zero, Nat.reduceAdd, Nat.reduceSub, Nat.le_refl, Nat.zero_add, if_true, Bool.not_true, Bool.not_false, Option.map_some, g1, g2, g3]
      exact entK_rt (ds := [.b true]) rfl rfl
    | true =>
      cases fc : fewB c with
      | false =>
        rw [fa] at q7a
        rw [fb] at q7b
        rw [fc] at q7c
        refine PRet.of (vf := v4) (d0 := .b true) (H := []) rfl (n7a + n7b + n7c + n8) (fun n hn => ?_) rfl rfl
        rw [hent n]
        have g1 := q7a n (by omega)
        have g2 := q8 n (by omega)
        have g3 := q7b n (by omega)
        have g4 := q7c n (by omega)
        simp only [v4, factD, clauseD, exec_seq, exec_cond, exec_ret, exec_reg, seqK_nm, seqK_rt, condK_t, ops_cons, ops_nil, opsW_t, opsF_t, opsK_v, wants_none, wants_some, wantK_ff, fits_none, step_call, toR_ret, ev_l, ev_s, ev_c, ab_sl, abS_bx, ofO_some, step_mov, step_pick, pick_f, step_lbx, step_lld, lldR_s, lldB_bx, lldC_s, val_t, step_un, un_not, cells_ag, setSl, cut, List.getD_cons_zero, List.getD_cons_succ, List.getElem?_cons_zero, List.getElem?_cons_succ, List.set_cons_zero, List.set_cons_succ, List.nil_append, List.cons_append, List.length_cons, List.length_nil, List.drop_zero, List.take_succ_cons, List.take_nil, List.map_cons, List.map_nil, List.replicate_succ, List.replicate_zero, Nat.reduceAdd, Nat.reduceSub, Nat.le_refl, Nat.zero_add, if_true, Bool.not_true, Bool.not_false, Option.map_some, g1, g2, g3, g4]
        exact entK_rt (ds := [.b true]) rfl rfl
      | true =>
        rw [fa] at q7a
        rw [fb] at q7b
        rw [fc] at q7c
        have le : ∀ {r : Rd}, fewB r = true → r.le 40 := fun {r} h => by
          simp only [fewB, Bool.and_eq_true, decide_eq_true_eq] at h
          exact ⟨by omega, by omega, by omega⟩
        have la := le fa
        have lb' := le fb
        have lc := le fc
        have up : ∀ {r : Rd} {k : Nat}, r.le k → k ≤ 40000 → r.le 40000 := fun h hk => ⟨Nat.le_trans h.1 hk, Nat.le_trans h.2.1 hk, Nat.le_trans h.2.2 hk⟩
        have lm := merge_le la lb'
        -- m
        obtain ⟨m1, m2, m3, H1, ⟨n21, q21⟩, gl1, hm⟩ := call21 (fls_cons (ka.fx []).at (fls_cons (kb.fx []).at (fls_nil []))) ka kb (up la (by omega)) (up lb' (by omega))
        obtain ⟨m', H1', fm, km⟩ := hm.fl
        obtain ⟨n22a, q22a⟩ := Ret.truth (V := V) (f := 22) (vf := v22) rfl rfl (fls_cons (ka.fx H1).at (fls_cons fm.2.1 (fls_nil _))) (within22 ka km (up la (by omega)) (up lm (by omega)))
        obtain ⟨n22b, q22b⟩ := Ret.truth (V := V) (f := 22) (vf := v22) rfl rfl (fls_cons (kb.fx H1').at (fls_cons fm.fx.at (fls_nil _))) (within22 kb km (up lb' (by omega)) (up lm (by omega)))
        rw [u_within_l] at q22a
        rw [u_within_r] at q22b
        -- m with itself
        obtain ⟨p1, p2, p3, H2, ⟨n21b, q21b⟩, gl2, hp⟩ := call21 (fls_cons fm.fx.at (fls_cons fm.fx.at (fls_nil _))) km km (up lm (by omega)) (up lm (by omega))
        have lp := merge_le lm lm
        obtain ⟨p', H2', fp, kp⟩ := hp.fl
        have fm2 := fm.fx.gl (gl2.trans fp.1)
        obtain ⟨n23a, q23a⟩ := Ret.truth (V := V) (f := 23) (vf := v23) rfl rfl (fls_cons fp.2.1 (fls_cons fm2.at (fls_nil _))) (same23 kp km (up lp (by omega)))
        rw [u_self] at q23a
        -- m with a
        obtain ⟨r1, r2, r3, H3, ⟨n21c, q21c⟩, gl3, hr⟩ := call21 (fls_cons fm2.at (fls_cons (ka.fx _).at (fls_nil _))) km ka (up lm (by omega)) (up la (by omega))
        have lr := merge_le lm la
        obtain ⟨r', H3', fr', kr⟩ := hr.fl
        have fm3 := fm2.gl (gl3.trans fr'.1)
        obtain ⟨n23b, q23b⟩ := Ret.truth (V := V) (f := 23) (vf := v23) rfl rfl (fls_cons fr'.2.1 (fls_cons fm3.at (fls_nil _))) (same23 kr km (up lr (by omega)))
        rw [u_part] at q23b
        -- m with c; b with c; a with that
        obtain ⟨s1, s2, s3, H4, ⟨n21d, q21d⟩, gl4, hs⟩ := call21 (fls_cons fm3.at (fls_cons (kc.fx _).at (fls_nil _))) km kc (up lm (by omega)) (up lc (by omega))
        have ls := merge_le lm lc
        obtain ⟨t1, t2, t3, H5, ⟨n21e, q21e⟩, gl5, ht⟩ := call21 (fls_cons (kb.fx _).at (fls_cons (kc.fx H4).at (fls_nil _))) kb kc (up lb' (by omega)) (up lc (by omega))
        have lt := merge_le lb' lc
        obtain ⟨t', H5', ft, kt⟩ := ht.fl
        obtain ⟨w1, w2, w3, H6, ⟨n21f, q21f⟩, gl6, hw⟩ := call21 (fls_cons (ka.fx H5).at (fls_cons ft.2.1 (fls_nil _))) ka kt (up la (by omega)) (up lt (by omega))
        have lw := merge_le la lt
        have hs6 := hs.gl (gl5.trans (ft.1.trans gl6))
        obtain ⟨s', H6', fs, ks⟩ := hs6.fl
        obtain ⟨w', H7, fw, kw⟩ := (hw.gl fs.1).fl
        obtain ⟨n23c, q23c⟩ := Ret.truth (V := V) (f := 23) (vf := v23) rfl rfl (fls_cons fs.2.1 (fls_cons fw.2.1 (fls_nil _))) (same23 ks kw (up ls (by omega)))
        rw [u_assoc] at q23c
        have fm7 := fm3.gl (gl4.trans (gl5.trans (ft.1.trans (gl6.trans (fs.1.trans fw.1)))))
        -- what touches
        have fxf := ag_fx hff H7
        have fxd := ag_fx hdf H7
        have fxk : Fx H7 (.i .i64 known) (.i .i64 known) := .flat rfl _
        have fxn : Fx H7 (.s tn) (.s tn) := .flat rfl _
        have fxr : Fx H7 (.ag [.i .i64 0, .i .i64 0, .i .i64 known, .b false, .nil, .b false, .nil]) (.ag [.i .i64 0, .i .i64 0, .i .i64 known, .b false, .nil, .b false, .nil]) := ag_fx (by simp [D.flat]) H7
        obtain ⟨n10m, q10m⟩ := Ret.truth (V := V) (f := 10) (vf := v10) rfl rfl (fls_cons fm7.at (fls_cons fxf.at (fls_cons fxk.at (fls_nil _)))) (fact10 km (up lm (by omega)))
        obtain ⟨n10a, q10a⟩ := Ret.truth (V := V) (f := 10) (vf := v10) rfl rfl (fls_cons (ka.fx _).at (fls_cons fxf.at (fls_cons fxk.at (fls_nil _)))) (fact10 ka (up la (by omega)))
        obtain ⟨n10b, q10b⟩ := Ret.truth (V := V) (f := 10) (vf := v10) rfl rfl (fls_cons (kb.fx _).at (fls_cons fxf.at (fls_cons fxk.at (fls_nil _)))) (fact10 kb (up lb' (by omega)))
        obtain ⟨n12m, q12m⟩ := Ret.truth (V := V) (f := 12) (vf := v12) rfl rfl (fls_cons fm7.at (fls_cons fxd.at (fls_cons fxk.at (fls_nil _)))) (clause12 km (up lm (by omega)))
        obtain ⟨n12a, q12a⟩ := Ret.truth (V := V) (f := 12) (vf := v12) rfl rfl (fls_cons (ka.fx _).at (fls_cons fxd.at (fls_cons fxk.at (fls_nil _)))) (clause12 ka (up la (by omega)))
        obtain ⟨n12b, q12b⟩ := Ret.truth (V := V) (f := 12) (vf := v12) rfl rfl (fls_cons (kb.fx _).at (fls_cons fxd.at (fls_cons fxk.at (fls_nil _)))) (clause12 kb (up lb' (by omega)))
        obtain ⟨n14m, q14m⟩ := Ret.truth (V := V) (f := 14) (vf := v14) rfl rfl (fls_cons fm7.at (fls_cons fxn.at (fls_cons fxr.at (fls_cons fxk.at (fls_nil _))))) (row14 km (up lm (by omega)) tn _ _ known known _ _ _ _)
        obtain ⟨n14a, q14a⟩ := Ret.truth (V := V) (f := 14) (vf := v14) rfl rfl (fls_cons (ka.fx _).at (fls_cons fxn.at (fls_cons fxr.at (fls_cons fxk.at (fls_nil _))))) (row14 ka (up la (by omega)) tn _ _ known known _ _ _ _)
        obtain ⟨n14b, q14b⟩ := Ret.truth (V := V) (f := 14) (vf := v14) rfl rfl (fls_cons (kb.fx _).at (fls_cons fxn.at (fls_cons fxr.at (fls_cons fxk.at (fls_nil _))))) (row14 kb (up lb' (by omega)) tn _ _ known known _ _ _ _)
        rw [u_fact] at q10m
        rw [u_clause] at q12m
        rw [u_row] at q14m
        -- the keys
        obtain ⟨z1, K1, ⟨n18m, q18m⟩, gk1, y1⟩ := Ret.sl (V := V) (f := 18) (vf := v18) rfl rfl (fls_cons fm7.at (fls_nil _)) (keys18 km (up lm (by omega)))
        obtain ⟨z2, K2, ⟨n18a, q18a⟩, gk2, y2⟩ := Ret.sl (V := V) (f := 18) (vf := v18) rfl rfl (fls_cons (ka.fx K1).at (fls_nil _)) (keys18 ka (up la (by omega)))
        obtain ⟨z3, K3, ⟨n18b, q18b⟩, gk3, y3⟩ := Ret.sl (V := V) (f := 18) (vf := v18) rfl rfl (fls_cons (kb.fx K2).at (fls_nil _)) (keys18 kb (up lb' (by omega)))
        have len1 := fun H => y1.len (H' := H)
        have len2 := fun H => y2.len (H' := H)
        have len3 := fun H => y3.len (H' := H)
        simp only [List.length_map] at len1 len2 len3
        have hkeys := u_keys a b
        have hkw : IntKind.i64.wrap (((keysB a).length : Int) + ((keysB b).length : Int)) = ((keysB a).length : Int) + ((keysB b).length : Int) := by
          have h1 := keys_len a
          have h2 := keys_len b
          have h3 := la.2.1
          have h4 := lb'.2.1
          rw [IntWalk.i64_in _ (by omega)]
        have hkd : decide (((keysB (merge a b)).length : Int) ≤ ((keysB a).length : Int) + ((keysB b).length : Int)) = true := by simp; omega
        obtain ⟨n8', q8'⟩ := Ret.truth (V := V) (f := 8) (vf := v8) rfl rfl (fls_nil K3) awake8
        refine PRet.of (vf := v4) (d0 := .b true) (H := K3) rfl (n7a + n7b + n7c + n21 + n22a + n22b + n21b + n23a + n21c + n23b + n21d + n21e + n21f + n23c + n10m + n10a + n10b + n12m + n12a + n12b + n14m + n14a + n14b + n18m + n18a + n18b + n8') (fun n hn => ?_) rfl rfl
        rw [hent n]
        replace q7a := q7a n (by omega)
        replace q7b := q7b n (by omega)
        replace q7c := q7c n (by omega)
        replace q21 := q21 n (by omega)
        replace q22a := q22a n (by omega)
        replace q22b := q22b n (by omega)
        replace q21b := q21b n (by omega)
        replace q23a := q23a n (by omega)
        replace q21c := q21c n (by omega)
        replace q23b := q23b n (by omega)
        replace q21d := q21d n (by omega)
        replace q21e := q21e n (by omega)
        replace q21f := q21f n (by omega)
        replace q23c := q23c n (by omega)
        replace q10m := q10m n (by omega)
        replace q10a := q10a n (by omega)
        replace q10b := q10b n (by omega)
        replace q12m := q12m n (by omega)
        replace q12a := q12a n (by omega)
        replace q12b := q12b n (by omega)
        replace q14m := q14m n (by omega)
        replace q14a := q14a n (by omega)
        replace q14b := q14b n (by omega)
        replace q18m := q18m n (by omega)
        replace q18a := q18a n (by omega)
        replace q18b := q18b n (by omega)
        replace q8' := q8' n (by omega)
        simp only [factD] at q10m q10a q10b
        simp only [clauseD] at q12m q12a q12b
        have eqs : ∀ x : Bool, eqvD false .b (.b x) (.b x) = some (.b true) := fun x => by cases x <;> rfl
        have eqt : eqvD false .b (.b true) (.b true) = some (.b true) := rfl
        generalize factB a key fr to kn known = fa1 at q10m q10a
        generalize factB b key fr to kn known = fb1 at q10m q10b
        generalize clauseB a nm gr ho ln known = ca1 at q12m q12a
        generalize clauseB b nm gr ho ln known = cb1 at q12m q12b
        generalize rowB a tn known known = ra1 at q14m q14a
        generalize rowB b tn known known = rb1 at q14m q14b
        simp only [v4, factD, clauseD, exec_seq, exec_cond, exec_skip, exec_reg, exec_drawn, seqK_nm, condK_f, ops_cons, ops_nil, opsW_t, opsF_t, opsK_v, wants_none, wants_some, wantK_ff, fits_none, fits_f, rd_mov, rd_pick, rd_lld, rd_un, rd_call, step_call, toR_ret, ev_l, ev_s, ev_c, ab_sl, abS_bx, ofO_some, step_mov, step_pick, pick_f, step_lal, step_lbx, step_lld, lldR_s, lldB_bx, lldC_s, step_lst, lstR_s, lstB_bx, lstC_s, val_t, step_un, un_not, step_agc, fill_nil, fill_cons, fillK_s, fillP_s, cells_ag, cells_i, setSl, cut, put, List.getD_cons_zero, List.getD_cons_succ, List.getElem?_cons_zero, List.getElem?_cons_succ, List.set_cons_zero, List.set_cons_succ, List.nil_append, List.cons_append, List.append_nil, List.length_cons, List.length_nil, List.drop_succ_cons, List.drop_zero, List.drop_nil, List.take_succ_cons, List.take_zero, List.take_nil, List.map_cons, List.map_nil, List.all_nil, List.replicate_succ, List.replicate_zero, Nat.reduceAdd, Nat.reduceSub, Nat.reduceLeDiff, Nat.le_refl, Nat.zero_add, if_true, Bool.not_true, Option.map_some, q7a, q7b, q7c, q21, q22a, q22b, q21b, q23a, q21c, q23b, q21d, q21e, q21f, q23c, q10m, q10a]
        cases fa1 <;> (simp only [Bool.false_or, Bool.true_or] at q10m; simp only [ops_cons, opsW_t, opsW_f, opsF_t, opsK_v, wants_none, wants_some, wantK_tt, wantK_ff, wantK_ft, fits_f, rd_mov, rd_pick, rd_lld, rd_eqv, rd_call, step_call, toR_ret, ev_l, ev_s, ev_c, ab_sl, abS_bx, ofO_some, step_mov, step_pick, pick_t, pick_f, step_lld, lldR_s, lldB_bx, lldC_s, val_t, step_eqv, setSl, cut, List.getD_cons_zero, List.getD_cons_succ, List.getElem?_cons_zero, List.getElem?_cons_succ, List.nil_append, List.cons_append, List.length_cons, List.length_nil, List.drop_zero, List.take_succ_cons, List.take_nil, List.map_cons, List.map_nil, List.all_nil, Nat.reduceAdd, Nat.le_refl, Nat.zero_add, if_true, q10b, eqs, Bool.false_or, Bool.true_or, q12m, q12a]) <;>
          cases ca1 <;> (simp only [Bool.false_or, Bool.true_or] at q12m; simp only [ops_cons, opsW_t, opsW_f, opsF_t, opsK_v, wants_none, wants_some, wantK_tt, wantK_ff, wantK_ft, fits_f, rd_mov, rd_pick, rd_lld, rd_eqv, rd_call, step_call, toR_ret, ev_l, ev_s, ev_c, ab_sl, abS_bx, ofO_some, step_mov, step_pick, pick_t, pick_f, step_lld, lldR_s, lldB_bx, lldC_s, val_t, step_eqv, setSl, cut, List.getD_cons_zero, List.getD_cons_succ, List.getElem?_cons_zero, List.getElem?_cons_succ, List.nil_append, List.cons_append, List.length_cons, List.length_nil, List.drop_zero, List.take_succ_cons, List.take_nil, List.map_cons, List.map_nil, List.all_nil, Nat.reduceAdd, Nat.le_refl, Nat.zero_add, if_true, q12b, eqs, Bool.false_or, Bool.true_or, q14m, q14a]) <;>
          cases ra1 <;> (simp only [Bool.false_or, Bool.true_or] at q14m; simp only [exec_ret, seqK_nm, ops_cons, ops_nil, opsW_t, opsW_f, opsF_t, opsK_v, wants_none, wants_some, wantK_tt, wantK_ff, wantK_ft, fits_f, rd_mov, rd_pick, rd_lld, rd_bin, rd_eqv, rd_call, rd_len1, step_call, toR_ret, ev_l, ev_s, ev_c, ab_sl, abS_bx, ofO_some, step_mov, step_pick, pick_t, pick_f, step_lld, lldR_s, lldB_bx, lldC_s, val_t, step_bin, bin_add, bin_leq, step_eqv, step_len, setSl, cut, List.getD_cons_zero, List.getD_cons_succ, List.getElem?_cons_zero, List.getElem?_cons_succ, List.set_cons_zero, List.set_cons_succ, List.nil_append, List.cons_append, List.length_cons, List.length_nil, List.drop_zero, List.take_succ_cons, List.take_nil, List.map_cons, List.map_nil, List.all_nil, Nat.reduceAdd, Nat.le_refl, Nat.zero_add, if_true, q14b, eqs, Bool.false_or, Bool.true_or, q18m, q18a, q18b, len1, len2, len3, hkw, hkd, q8']; exact entK_rt (ds := [.b true]) rfl rfl)
end Go.Proofs.Ytkogdbgccjmaoaa.Dv
