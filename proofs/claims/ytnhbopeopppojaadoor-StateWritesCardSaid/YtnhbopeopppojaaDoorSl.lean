/-
  StateEdit over the machine.
-/
import Derived.Test.YtnhbopeopppojaaDoorSh
import Derived.Test.YtnhbopeopppojaaDoorSk
namespace Go.Proofs.YtnhbopeopppojaaDoor.Dv
open Go.Dm Go.Proofs

structure Sc (t : List UInt8) (i b : Nat) (w : List UInt8) : Prop where
  le : b ≤ i
  lt : i ≤ t.length
  e : (t.take i).foldl sc1 ([], []) = (w, (t.take i).drop b)

@[go_sem] theorem q_step_cbs {V : VProg} {Q : Ex → St → Prop} {dr : Option (Bs × Bool)} {os : List VOper} {keep : Option Nat} {loc sl : List D} {H : Heap} {x : O} : OpQ V dr os keep loc ⟨sl, H⟩ Q (.cbs x) ↔ AfterQ V dr os keep loc sl Q (ofO ⟨sl, H⟩ (cbsD H (x.ev loc sl))) := by
  rw [OpQ_nc rfl]
  rfl
theorem bsl_u8 {x : Int} : bslD [] 1 1 [.i .u8 0] [(0, .i .u8 x)] true = some (.mu 0 1 0 1, [.ar 1 [[.i .u8 x]] (some 1) true false]) := rfl
theorem cbs_u8 {m : Nat} : cbsD [.ar 1 [[.i .u8 (m : Int)]] (some 1) true false] (.mu 0 1 0 1) = some (.s [UInt8.ofNat m]) := by
  simp [cbsD, rowsOf, arr, bytesOf]
theorem Sc.sep {t : List UInt8} {i b : Nat} {w : List UInt8} (h : Sc t i b w) (hi : i < t.length) (hs : nsep t[i]! = false) : Sc t (i + 1) (i + 1) (if wordy ((t.take i).drop b) = true then (t.take i).drop b else w) := by
  refine ⟨Nat.le_refl _, hi, ?_⟩
  rw [List.take_succ_eq_append_getElem hi, List.foldl_append, h.e]
  rw [getElem!_pos t i hi] at hs
  simp only [List.foldl_cons, List.foldl_nil, sc1, hs, Bool.false_eq_true, if_false, Prod.mk.injEq, true_and]
  exact (List.drop_eq_nil_of_le (by simp; omega)).symm
theorem Sc.on {t : List UInt8} {i b : Nat} {w : List UInt8} (h : Sc t i b w) (hi : i < t.length) (hs : nsep t[i]! = true) : Sc t (i + 1) b w := by
  refine ⟨by have := h.le; omega, hi, ?_⟩
  rw [List.take_succ_eq_append_getElem hi, List.foldl_append, h.e]
  rw [getElem!_pos t i hi] at hs
  simp only [List.foldl_cons, List.foldl_nil, sc1, hs, if_true, Prod.mk.injEq, true_and]
  rw [List.drop_append_of_le_length (by have := h.le; simp; omega)]
theorem wordy_at {t : List UInt8} {i b : Nat} (hb : b ≤ i) (hi : i < t.length) : wordy ((t.take i).drop b) = (decide (b < i) && decide ((97 : Int) ≤ t[b]!.toNat) && decide ((t[b]!.toNat : Int) ≤ 122)) := by
  by_cases h : b < i
  · have e : (t.take i).drop b = t[b]! :: (t.take i).drop (b + 1) := by
      rw [List.drop_eq_getElem_cons (by simp; omega), getElem!_pos t b (by omega), List.getElem_take]
    rw [e, wordy, decide_eq_true h, Bool.true_and]
    congr 1
    · apply decide_eq_decide.2
      rw [UInt8.le_iff_toNat_le]
      show 97 ≤ _ ↔ _
      omega
    · apply decide_eq_decide.2
      rw [UInt8.le_iff_toNat_le]
      show _ ≤ 122 ↔ _
      omega
  · have e : b = i := by omega
    subst e
    rw [List.drop_eq_nil_of_le (by simp; omega), decide_eq_false h]
    rfl
theorem nsep_at {c : UInt8} : nsep c = (!(decide ((c.toNat : Int) = 32) || decide ((c.toNat : Int) = 10))) := by
  have h : ∀ d : UInt8, (c == d) = decide ((c.toNat : Int) = d.toNat) := fun d => by
    rw [Bool.eq_iff_iff, beq_iff_eq, decide_eq_true_eq, ← UInt8.toNat_inj]
    omega
  rw [nsep, h, h]
  rfl
theorem textT_ne (s : Stm) : textT s ≠ [] := by rw [text_U]; simp [textU, kS]
set_option maxRecDepth 100000 in
theorem law7 {s : Stm} {d : D} (h : IsStm s d) (hr : Rng s) {at_ dg : Int} (hat : 0 ≤ at_ ∧ at_ ≤ 65535) (hdg : 0 ≤ dg ∧ dg ≤ 255) : PRet VS 7 [d, .i .u16 at_, .i .u8 dg] (.b true) := by
  obtain ⟨⟨x, rfl, hx⟩⟩ := h
  have h : IsStm s (stD s x) := ⟨⟨x, rfl, hx⟩⟩
  refine .body (vf := v7) rfl rfl ?_
  have e14 := fun {H K} => c14 h hr (H := H) (K := K)
  have e15 := fun {H K} => c15 h hr (H := H) (K := K)
  simp only [stD] at e14 e15
  by_cases hright : RightS s
  case neg =>
    simp only [go_sem, Nat.reduceAdd, Nat.reduceSub, Nat.reduceLeDiff, v7, stD, c12, hx.n, e15, hright]
    exact ⟨fun _ => trivial, fun _ => trivial⟩
  have hne := textT_ne s
  have hlen := textT_len hright
  have hnz : (textT s).length ≠ 0 := fun e => hne (List.length_eq_zero_iff.1 e)
  have hz : ¬ ((textT s).length : Int) = 0 := by omega
  simp (disch := omega) only [go_sem, Nat.reduceAdd, Nat.reduceSub, Nat.reduceLeDiff, v7, stD, c12, hx.n, e14, e15, hright, hz, wr]
  generalize hT : textT s = T at hne hlen hnz hz
  have hk : 0 ≤ at_.tmod T.length ∧ at_.tmod T.length < T.length := by
    rw [Int.tmod_eq_emod_of_nonneg hat.1]
    exact ⟨Int.emod_nonneg _ hz, Int.emod_lt_of_pos _ (by omega)⟩
  obtain ⟨k, ek⟩ := Int.eq_ofNat_of_zero_le hk.1
  rw [ek] at hk ⊢
  obtain ⟨-, hk⟩ := hk
  have hk : k < T.length := by omega
  clear e14 e15
  refine ⟨fun _ => trivial, fun h12 => ?_⟩
  refine Run.up (fun i st => ∃ b w, Sc T i b w ∧ ∃ a4 a5 a6 a7 a8 a9 a10, st = ⟨[.ag [.i .i64 s.y, .i .i64 s.b, .i .i64 s.a, x, .i .i64 s.g, .i .i64 s.t, .i .i64 s.n, .i .i64 s.i], .i .u16 at_, .i .u8 dg, .b false, a4, a5, a6, a7, a8, a9, a10, .bx [.i .i64 s.y, .i .i64 s.b, .i .i64 s.a, x, .i .i64 s.g, .i .i64 s.t, .i .i64 s.n, .i .i64 s.i], .i .i64 0, .s T, .s w, .i .i64 b, .i .i64 i, .i .i64 k, .u, .u, .u], []⟩) k ⟨0, [], ⟨Nat.le_refl _, Nat.zero_le _, rfl⟩, _, _, _, _, _, _, _, rfl⟩ ?_
  rintro i st hi ⟨b, w, hsc, a4, a5, a6, a7, a8, a9, a10, rfl⟩
  have hbl := hsc.le
  have hil : i < T.length := by omega
  have hq : 0 ≤ dg.tmod 10 ∧ dg.tmod 10 ≤ 9 := by
    rw [Int.tmod_eq_emod_of_nonneg hdg.1]; omega
  obtain ⟨m, em⟩ := Int.eq_ofNat_of_zero_le hq.1
  obtain ⟨-, hm⟩ := hq
  rw [em] at hm
  obtain ⟨cn, hcn⟩ : ∃ cn, cn = 48 + m := ⟨_, rfl⟩
  have ecm : (48 + (m : Int)) = (cn : Int) := by omega
  have hsw : wordy ((T.take i).drop b) = _ := wordy_at hbl hil
  have hsn : nsep T[i]! = _ := nsep_at
  simp (maxSteps := 1000000) (disch := omega) only [go_sem, Nat.reduceLeDiff, Int.reduceEq, v7l0, wr, wr8, em, ecm, bsl_u8, cbs_u8]
  have hO := hsc.on hil
  refine ⟨fun hlt => ⟨⟨by omega, by omega⟩, fun h32 => ?_, fun h32 => ⟨⟨by omega, by omega⟩, fun h10 => ?_, fun h10 => ?_⟩⟩, fun hge => ?_⟩
  · have hns : nsep T[i]! = false := by rw [hsn, decide_eq_true h32]; rfl
    have hS := hsc.sep hil hns
    rw [hsw] at hS
    refine ⟨fun hb => ⟨⟨by omega, by omega⟩, fun h97 => ⟨⟨by omega, by omega⟩, fun h122 => ⟨⟨by omega, by omega, by omega⟩, by omega, i + 1, _, ?_, rfl, by omega⟩, fun h122 => ⟨by omega, i + 1, w, ?_, rfl, by omega⟩⟩, fun h97 => ⟨by omega, i + 1, w, ?_, rfl, by omega⟩⟩, fun hb => ⟨by omega, i + 1, w, ?_, rfl, by omega⟩⟩
    · rw [decide_eq_true (show b < i by omega), decide_eq_true h97, decide_eq_true h122] at hS
      simpa using hS
    · rw [decide_eq_false h122] at hS
      simpa using hS
    · rw [decide_eq_false h97] at hS
      simpa using hS
    · rw [decide_eq_false (show ¬ b < i by omega)] at hS
      simpa using hS
  · have hns : nsep T[i]! = false := by rw [hsn, decide_eq_true h10, Bool.or_true]; rfl
    have hS := hsc.sep hil hns
    rw [hsw] at hS
    refine ⟨fun hb => ⟨⟨by omega, by omega⟩, fun h97 => ⟨⟨by omega, by omega⟩, fun h122 => ⟨⟨by omega, by omega, by omega⟩, by omega, i + 1, _, ?_, rfl, by omega⟩, fun h122 => ⟨by omega, i + 1, w, ?_, rfl, by omega⟩⟩, fun h97 => ⟨by omega, i + 1, w, ?_, rfl, by omega⟩⟩, fun hb => ⟨by omega, i + 1, w, ?_, rfl, by omega⟩⟩
    · rw [decide_eq_true (show b < i by omega), decide_eq_true h97, decide_eq_true h122] at hS
      simpa using hS
    · rw [decide_eq_false h122] at hS
      simpa using hS
    · rw [decide_eq_false h97] at hS
      simpa using hS
    · rw [decide_eq_false (show ¬ b < i by omega)] at hS
      simpa using hS
  · exact ⟨by omega, b, w, hO (by rw [hsn, decide_eq_false h32, decide_eq_false h10]; rfl), rfl, rfl⟩
  · have : i = k := by omega
    subst this
    refine ⟨⟨by omega, by omega⟩, fun _ => trivial, fun h48 => ⟨⟨by omega, by omega⟩, fun _ => trivial, fun h57 => ⟨⟨by omega, by omega⟩, fun _ => trivial, fun hne => ⟨fun _ => trivial, fun w1 => ⟨fun _ => trivial, fun w2 => ⟨fun _ => trivial, fun w3 => ?_⟩⟩⟩⟩⟩⟩
    have hl1 : (T.take i).length ≤ 200000 := by simp; omega
    have hl2 : (T.drop (i + 1)).length ≤ 200000 := by simp; omega
    have hset : T.take i ++ UInt8.ofNat cn :: T.drop (i + 1) = T.set i (UInt8.ofNat cn) := by rw [List.set_eq_take_append_cons_drop, if_pos hil]
    have hw : wordAt T i = w := by rw [wordAt, hsc.e]
    have hcn : (UInt8.ofNat cn).toNat = cn := by simp; omega
    have hnone : readS (T.set i (UInt8.ofNat cn)) = none := by
      rw [← hT]
      rw [← hT] at hw
      refine edit_none hright (d := (textT s)[i]!) ?_ ?_ ?_ (fun e => ?_) (by rw [hw]; exact w1) (by rw [hw]; exact w2) (by rw [hw]; exact w3)
      · rw [hT, getElem!_pos T i hil]; exact List.getElem?_eq_getElem hil
      · rw [hT]; simp only [isD, Bool.and_eq_true, decide_eq_true_eq]; omega
      · simp only [isD, hcn, Bool.and_eq_true, decide_eq_true_eq]; omega
      · rw [hT] at e
        rw [e, hcn] at hne
        exact hne rfl
    have hrd : readD (T.set i (UInt8.ofNat cn)) = .tu [stD zS .nil, .i .i64 390] := by simp only [readD, hnone]
    refine ⟨⟨by omega, by omega⟩, by omega, ⟨by omega, by omega⟩, by omega, ?_⟩
    rw [hset, c16 (by rw [List.length_set]; omega), hrd]
    simp only [go_sem, Nat.reduceAdd, stD, zS]
end Go.Proofs.YtnhbopeopppojaaDoor.Dv
