/-
  The reference's Read.
-/
import Derived.Test.YtnhbopeopppojaaGreatDoorRa
import Derived.Test.YtnhbopeopppojaaGreatDoorSf
import Derived.Test.YtnhbopeopppojaaGreatDoorSd
import Derived.Test.YtnhbopeopppojaaGreatDoorSc
namespace Go.Proofs.YtnhbopeopppojaaGreatDoor.Dv
open Go.Dm Go.Proofs
def moF (y : Int) (w : List UInt8) : Nat → Int
  | 0 => 0
  | k + 1 => if 1900 ≤ y ∧ y ≤ 2079 ∧ monT (12 * (y - 1900) + k) = w then 12 * (y - 1900) + k else moF y w k
theorem moF_b (y : Int) (w : List UInt8) : ∀ k : Nat, k ≤ 12 → 0 ≤ moF y w k ∧ moF y w k ≤ 100000
  | 0, _ => by simp [moF]
  | k + 1, h => by
    have ih := moF_b y w k (by omega)
    rw [moF]
    split <;> omega
noncomputable def lnW (ws : List (List UInt8)) (y : Int) (i : Nat) : Ln := ⟨moF y ws[4 + 8 * i + 1]! 12, valL ws (4 + 8 * i + 3), valL ws (4 + 8 * i + 5), valL ws (4 + 8 * i + 7)⟩
noncomputable def lnsW (ws : List (List UInt8)) (y : Int) : Nat → List Ln
  | 0 => []
  | i + 1 => lnsW ws y i ++ [lnW ws y i]
theorem lnsW_len {ws : List (List UInt8)} {y : Int} : ∀ i, (lnsW ws y i).length = i
  | 0 => rfl
  | i + 1 => by rw [lnsW, List.length_append, lnsW_len i]; rfl
theorem lnsW_m {ws : List (List UInt8)} {y : Int} : ∀ i, ∀ x ∈ lnsW ws y i, 0 ≤ x.m ∧ x.m ≤ 100000
  | 0, x, hx => by cases hx
  | i + 1, x, hx => by
    rw [lnsW] at hx
    rcases List.mem_append.1 hx with hx | hx
    · exact lnsW_m i x hx
    · rw [List.mem_singleton.1 hx]; exact moF_b _ _ 12 (Nat.le_refl _)
structure GoW (ws : List (List UInt8)) (i : Nat) : Prop where
  l : 4 + 8 * i + 7 < ws.length
  m : ws[4 + 8 * i]! = kMonth
theorem ex_nW (ws : List (List UInt8)) : ∃ n, (∀ i, i < n → GoW ws i) ∧ ¬ GoW ws n := by
  have : ∀ k : Nat, (∃ n, n ≤ k ∧ (∀ i, i < n → GoW ws i) ∧ ¬ GoW ws n) ∨ ∀ i, i < k → GoW ws i := fun k => by
    induction k with
    | zero => exact .inr fun i hi => absurd hi (Nat.not_lt_zero i)
    | succ k ih =>
      rcases ih with ⟨n, h1, h2⟩ | h
      · exact .inl ⟨n, by omega, h2⟩
      · by_cases hg : GoW ws k
        · exact .inr fun i hi => by
            by_cases e : i = k
            · subst e; exact hg
            · exact h i (by omega)
        · exact .inl ⟨k, by omega, h, hg⟩
  rcases this (ws.length + 1) with ⟨n, _, h⟩ | h
  · exact ⟨n, h⟩
  · have := (h ws.length (by omega)).l
    omega
noncomputable def nW (ws : List (List UInt8)) : Nat := Classical.choose (ex_nW ws)
theorem nW_go (ws : List (List UInt8)) : (∀ i, i < nW ws → GoW ws i) ∧ ¬ GoW ws (nW ws) := Classical.choose_spec (ex_nW ws)
theorem nW_eq {ws : List (List UInt8)} {n : Nat} (h : ∀ i, i < n → GoW ws i) (hn : ¬ GoW ws n) : nW ws = n := by
  obtain ⟨h1, h2⟩ := nW_go ws
  rcases Nat.lt_trichotomy (nW ws) n with hlt | he | hlt
  · exact absurd (h _ hlt) h2
  · exact he
  · exact absurd (h1 _ hlt) hn
theorem nW_le (ws : List (List UInt8)) : 8 * nW ws ≤ ws.length := by
  rcases Nat.eq_zero_or_pos (nW ws) with h | h
  · omega
  · have := ((nW_go ws).1 (nW ws - 1) (by omega)).l
    omega
noncomputable def stmW (ws : List (List UInt8)) : Stm := ⟨valL ws 1, valL ws 3, valL ws (4 + 8 * nW ws + 9), lnsW ws (valL ws 1) (nW ws), valL ws (4 + 8 * nW ws + 1), valL ws (4 + 8 * nW ws + 3), valL ws (4 + 8 * nW ws + 5), valL ws (4 + 8 * nW ws + 7)⟩
theorem stmW_rng (ws : List (List UInt8)) : Rng (stmW ws) := ⟨fun x hx => by have := lnsW_m _ x hx; omega⟩
noncomputable def refD (s : List UInt8) : D := if RightS (stmW (wordsT s)) ∧ textT (stmW (wordsT s)) = s then .tu [stD (stmW (wordsT s)) (lsD (stmW (wordsT s)).ls), .i .i64 0] else .tu [stD zS .nil, .i .i64 390]
theorem c33f {H H1 : Heap} {s : Stm} {x : D} (h : ∀ m, Dm.freeze (m + 1) H x = some (lsD s.ls, H1)) (hr : Rng s) (hl : s.ls.length ≤ 1000) {K : CR → Prop} : CallQ VS 23 [stD s x] H K ↔ K (.ret (.b (decide (RightS s))) H1) :=
  CallQ_p (vf := v23) (H1 := H1) rfl rfl (right33 (isStm_of s) hr hl) (fz_st h)
theorem c71f {H H1 : Heap} {s : Stm} {x : D} (h : ∀ m, Dm.freeze (m + 1) H x = some (lsD s.ls, H1)) (r : RightS s) {K : CR → Prop} : CallQ VS 24 [stD s x] H K ↔ K (.ret (.s (textT s)) H1) :=
  CallQ_p (vf := v24) (H1 := H1) rfl rfl (write71 (isStm_of s) r) (fz_st h)
def imS (ws : List (List UInt8)) : D := .im 1 (ws.map strRow)
theorem month_loop {s : List UInt8} {ws : List (List UInt8)} {a : Nat} (ha : a + 7 < ws.length) (hal : a ≤ 1000000) {y b : Int} {a3 a4 a5 a6 z1 L : D} {H : Heap} {Q : Ex → St → Prop}
    (hq : ∀ b4 b5, Q (.ex 2) ⟨[.s s, z1, .i .i64 0, a3, b4, b5, a6, imS ws, .i .i64 (a : Nat), .i .i64 12, .bx [.i .i64 y, .i .i64 b, .i .i64 0, L, .i .i64 0, .i .i64 0, .i .i64 0, .i .i64 0], .bx [.i .i64 (moF y ws[a + 1]! 12), .i .i64 0, .i .i64 0, .i .i64 0]], H⟩) :
    Run VS (.loop v11l0) ⟨[.s s, z1, .i .i64 0, a3, a4, a5, a6, imS ws, .i .i64 (a : Nat), .i .i64 0, .bx [.i .i64 y, .i .i64 b, .i .i64 0, L, .i .i64 0, .i .i64 0, .i .i64 0, .i .i64 0], .bx [.i .i64 0, .i .i64 0, .i .i64 0, .i .i64 0]], H⟩ Q := by
  have hx : Sl 1 (ws.map strRow) (imS ws) := .im
  refine Run.up (fun k st => ∃ b4 b5, st = ⟨[.s s, z1, .i .i64 0, a3, b4, b5, a6, imS ws, .i .i64 (a : Nat), .i .i64 k, .bx [.i .i64 y, .i .i64 b, .i .i64 0, L, .i .i64 0, .i .i64 0, .i .i64 0, .i .i64 0], .bx [.i .i64 (moF y ws[a + 1]! k), .i .i64 0, .i .i64 0, .i .i64 0]], H⟩) 12 ⟨_, _, rfl⟩ ?_
  rintro k st hk ⟨b4, b5, rfl⟩
  by_cases hlt : k < 12
  · have hlt' : decide ((k : Int) < 12) = true := decide_eq_true (by omega)
    have ea : (a : Int) + 1 = ((a + 1 : Nat) : Int) := rfl
    by_cases hy1 : 1900 ≤ y
    · have b1 : decide (y ≥ 1900) = true := decide_eq_true (by omega)
      by_cases hy2 : y ≤ 2079
      · have b2 : decide (y ≤ 2079) = true := decide_eq_true hy2
        have e84 := fun {H K} => c84 (m := 12 * (y - 1900) + k) ⟨by omega, by omega⟩ (H := H) (K := K)
        by_cases hc : monT (12 * (y - 1900) + k) = ws[a + 1]!
        · have hm : moF y ws[a + 1]! (k + 1) = 12 * (y - 1900) + k := by rw [moF, if_pos ⟨hy1, hy2, hc⟩]
          have b3 : decide (monT (12 * (y - 1900) + k) = ws[a + 1]!) = true := decide_eq_true hc
          rw [hm]
          simp (disch := omega) only [go_sem, Nat.reduceAdd, Nat.reduceLeDiff, v11l0, hlt', b1, b2, wr, e84, hx.q, hx.under, strRow, hc]
          exact ⟨by omega, hlt⟩
        · have hm : moF y ws[a + 1]! (k + 1) = moF y ws[a + 1]! k := by rw [moF, if_neg (fun h => hc h.2.2)]
          rw [hm]
          simp (disch := omega) only [go_sem, Nat.reduceAdd, Nat.reduceLeDiff, v11l0, hlt', b1, b2, wr, e84, hx.q, hx.under, strRow]
          exact ⟨by omega, fun h => absurd h hc, fun _ => hlt⟩
      · have b2 : decide (y ≤ 2079) = false := decide_eq_false hy2
        have hm : moF y ws[a + 1]! (k + 1) = moF y ws[a + 1]! k := by rw [moF, if_neg (fun h => hy2 h.2.1)]
        rw [hm]
        simp (disch := omega) only [go_sem, Nat.reduceAdd, Nat.reduceLeDiff, v11l0, hlt', b1, b2, wr]
        exact hlt
    · have b1 : decide (y ≥ 1900) = false := decide_eq_false (by omega)
      have hm : moF y ws[a + 1]! (k + 1) = moF y ws[a + 1]! k := by rw [moF, if_neg (fun h => hy1 h.1)]
      rw [hm]
      simp (disch := omega) only [go_sem, Nat.reduceAdd, Nat.reduceLeDiff, v11l0, hlt', b1, wr]
      exact hlt
  · have hk12 : k = 12 := by omega
    subst hk12
    have hlt' : decide (((12 : Nat) : Int) < 12) = false := rfl
    simp (disch := omega) only [go_sem, Nat.reduceAdd, Nat.reduceLT, Int.reduceLT, v11l0]
    exact hq _ _
def v11tail : VCode :=
 (.seq (.reg [⟨.mov (.s 7), none, none⟩,
 ⟨.mov (.s 8), none, none⟩,
 ⟨.bin .add (.l 1) (.c (.i .i64 1)), none, none⟩,
 ⟨.call 21 [(.l 0), (.l 2)], none, none⟩,
 ⟨.lfa (.sl 10) 4, none, none⟩,
 ⟨.lst (.lo 4) (.l 3) 1, none, none⟩] none)
 (.seq (.reg [⟨.mov (.s 7), none, none⟩,
 ⟨.mov (.s 8), none, none⟩,
 ⟨.bin .add (.l 1) (.c (.i .i64 3)), none, none⟩,
 ⟨.call 21 [(.l 0), (.l 2)], none, none⟩,
 ⟨.lfa (.sl 10) 5, none, none⟩,
 ⟨.lst (.lo 4) (.l 3) 1, none, none⟩] none)
 (.seq (.reg [⟨.mov (.s 7), none, none⟩,
 ⟨.mov (.s 8), none, none⟩,
 ⟨.bin .add (.l 1) (.c (.i .i64 5)), none, none⟩,
 ⟨.call 21 [(.l 0), (.l 2)], none, none⟩,
 ⟨.lfa (.sl 10) 6, none, none⟩,
 ⟨.lst (.lo 4) (.l 3) 1, none, none⟩] none)
 (.seq (.reg [⟨.mov (.s 7), none, none⟩,
 ⟨.mov (.s 8), none, none⟩,
 ⟨.bin .add (.l 1) (.c (.i .i64 7)), none, none⟩,
 ⟨.call 21 [(.l 0), (.l 2)], none, none⟩,
 ⟨.lfa (.sl 10) 7, none, none⟩,
 ⟨.lst (.lo 4) (.l 3) 1, none, none⟩] none)
 (.seq (.reg [⟨.mov (.s 7), none, none⟩,
 ⟨.mov (.s 8), none, none⟩,
 ⟨.bin .add (.l 1) (.c (.i .i64 9)), none, none⟩,
 ⟨.call 21 [(.l 0), (.l 2)], none, none⟩,
 ⟨.lfa (.sl 10) 2, none, none⟩,
 ⟨.lst (.lo 4) (.l 3) 1, none, none⟩] none)
 (.seq (.seq (.reg [⟨.lld (.sl 10) 8 true, none, none⟩,
 ⟨.call 23 [(.l 0)], none, none⟩,
 ⟨.un .not (.l 1), none, none⟩,
 ⟨.mov (.l 2), none, none⟩,
 ⟨.lld (.sl 10) 8 true, none, some ((.l 3), false)⟩,
 ⟨.call 24 [(.l 4)], none, some ((.l 3), false)⟩,
 ⟨.mov (.s 0), none, some ((.l 3), false)⟩,
 ⟨.bin .neq (.l 5) (.l 6), none, some ((.l 3), false)⟩,
 ⟨.pick (.l 3) (.c (.b true)) (.l 7), some 6, none⟩] none)
 (.cond (.s 6) (.seq (.reg [⟨.agc [(.i .i64 0), (.i .i64 0), (.i .i64 0), .nil, (.i .i64 0), (.i .i64 0), (.i .i64 0), (.i .i64 0)] [], none, none⟩,
 ⟨.lst (.sl 1) (.l 0) 8, none, none⟩,
 ⟨.mov (.c (.i .i64 390)), some 2, none⟩] none)
 .ret)
 .skip))
 (.seq (.reg [⟨.lld (.sl 10) 8 true, none, none⟩,
 ⟨.lst (.sl 1) (.l 0) 8, none, none⟩,
 ⟨.mov (.c (.i .i64 0)), some 2, none⟩] none)
 .ret)))))))
structure AtI (i a : Nat) : Prop where
  e : a = 4 + 8 * i
set_option maxRecDepth 100000 in
theorem read11 {s : List UInt8} (hl : s.length ≤ 3000) : PRet VS 11 [.s s] (refD s) := by
  obtain ⟨ws, hws⟩ : ∃ ws, ws = wordsT s := ⟨_, rfl⟩
  have e20 := fun {H K} => c20w (s := s) (by omega) (H := H) (K := K)
  rw [← hws] at e20
  have hx : Sl 1 (ws.map strRow) (imS ws) := .im
  have hwn : ws.length ≤ 3001 := by
    have := (wsp_num s []).2
    rw [hws]; unfold wordsT; omega
  have hwl : ∀ w ∈ ws, w.length ≤ 3000 := fun w hw => by
    rw [hws] at hw
    have := wsp_len s [] w hw
    simp only [List.length_nil] at this
    omega
  have e21 := fun (i : Nat) (hi : i ≤ 1000000) {H K} => c21w hx (by omega) hwl hi (H := H) (K := K)
  have e1 : ∀ {H K}, CallQ VS 21 [imS ws, .i .i64 1] H K ↔ K (.ret (.i .i64 (valL ws 1)) H) := fun {H K} => e21 1 (by omega)
  have e3 : ∀ {H K}, CallQ VS 21 [imS ws, .i .i64 3] H K ↔ K (.ret (.i .i64 (valL ws 3)) H) := fun {H K} => e21 3 (by omega)
  have hc1 := hx.c1
  have hnW := nW_le ws
  refine .body (vf := v11) rfl rfl ?_
  have him : D.im 1 (ws.map strRow) = imS ws := rfl
  simp (disch := omega) only [go_sem, Nat.reduceAdd, Nat.reduceSub, Nat.reduceLeDiff, v11, e20, him, e1, e3]
  refine Run.up (fun i st => ∃ a a3 a4 a5 a9 a11 Z, AtI i a ∧ Z = .bx [.i .i64 0, .i .i64 0, .i .i64 0, .nil, .i .i64 0, .i .i64 0, .i .i64 0, .i .i64 0] ∧ (∀ j, j < i → GoW ws j) ∧ st = ⟨[.s s, Z, .i .i64 0, a3, a4, a5, .u, imS ws, .i .i64 (a : Nat), a9, .bx [.i .i64 (valL ws 1), .i .i64 (valL ws 3), .i .i64 0, bD [] .nil ((lnsW ws (valL ws 1) i).map lnR), .i .i64 0, .i .i64 0, .i .i64 0, .i .i64 0], a11], bH [] 4 ((lnsW ws (valL ws 1) i).map lnR)⟩) (nW ws) ⟨4, .u, .u, .u, .u, .u, _, ⟨rfl⟩, rfl, fun j hj => absurd hj (Nat.not_lt_zero j), rfl⟩ ?_
  rintro i st hi ⟨a, a3, a4, a5, a9, a11, Z, ⟨ha⟩, hZ, hgo, rfl⟩
  have hlen := lnsW_len (ws := ws) (y := valL ws 1) i
  by_cases hlt : i < nW ws
  · obtain ⟨g1, g2⟩ := (nW_go ws).1 i hlt
    rw [← ha] at g1 g2
    have b1 : decide ((a : Int) + 7 < (ws.length : Int)) = true := decide_eq_true (by omega)
    have hkm : kMonth = [109, 111, 110, 116, 104] := rfl
    rw [hkm] at g2
    have g3 : decide (ws[a]! = [109, 111, 110, 116, 104]) = true := decide_eq_true g2
    have i3 : ∀ {H K}, CallQ VS 21 [imS ws, .i .i64 ((a : Int) + 3)] H K ↔ K (.ret (.i .i64 (valL ws (a + 3))) H) := fun {H K} => e21 (a + 3) (by omega)
    have i5 : ∀ {H K}, CallQ VS 21 [imS ws, .i .i64 ((a : Int) + 5)] H K ↔ K (.ret (.i .i64 (valL ws (a + 5))) H) := fun {H K} => e21 (a + 5) (by omega)
    have i7 : ∀ {H K}, CallQ VS 21 [imS ws, .i .i64 ((a : Int) + 7)] H K ↔ K (.ret (.i .i64 (valL ws (a + 7))) H) := fun {H K} => e21 (a + 7) (by omega)
    simp (disch := omega) only [go_sem, v11l1, wr, b1, hx.n, hx.q, strRow, g2]
    refine ⟨by omega, month_loop g1 (by omega) fun b4 b5 => ?_⟩
    have hsn : (lnsW ws (valL ws 1) i).map lnR ++ [[.i .i64 (moF (valL ws 1) ws[a + 1]! 12), .i .i64 (valL ws (a + 3)), .i .i64 (valL ws (a + 5)), .i .i64 (valL ws (a + 7))]] = (lnsW ws (valL ws 1) (i + 1)).map lnR := by
      rw [lnsW, List.map_append, lnW, ← ha]; rfl
    have hgo2 : ∀ j, j < i + 1 → GoW ws j := fun j hj => (nW_go ws).1 j (by omega)
    simp (disch := omega) only [go_sem, Nat.reduceAdd, Nat.reduceLeDiff, Nat.reduceEqDiff, Nat.reduceLT, reduceCtorEq, wr, i3, i5, i7, app_n, hsn]
    exact ⟨hlt, a + 8, ⟨by omega⟩, hgo2, hZ, rfl⟩
  · have hiN : i = nW ws := by omega
    subst hiN
    have hng := (nW_go ws).2
    have e1' : ∀ {H K}, CallQ VS 21 [imS ws, .i .i64 ((a : Int) + 1)] H K ↔ K (.ret (.i .i64 (valL ws (a + 1))) H) := fun {H K} => e21 (a + 1) (by omega)
    have i3 : ∀ {H K}, CallQ VS 21 [imS ws, .i .i64 ((a : Int) + 3)] H K ↔ K (.ret (.i .i64 (valL ws (a + 3))) H) := fun {H K} => e21 (a + 3) (by omega)
    have i5 : ∀ {H K}, CallQ VS 21 [imS ws, .i .i64 ((a : Int) + 5)] H K ↔ K (.ret (.i .i64 (valL ws (a + 5))) H) := fun {H K} => e21 (a + 5) (by omega)
    have i7 : ∀ {H K}, CallQ VS 21 [imS ws, .i .i64 ((a : Int) + 7)] H K ↔ K (.ret (.i .i64 (valL ws (a + 7))) H) := fun {H K} => e21 (a + 7) (by omega)
    have i9 : ∀ {H K}, CallQ VS 21 [imS ws, .i .i64 ((a : Int) + 9)] H K ↔ K (.ret (.i .i64 (valL ws (a + 9))) H) := fun {H K} => e21 (a + 9) (by omega)
    have hst : stmW ws = ⟨valL ws 1, valL ws 3, valL ws (a + 9), lnsW ws (valL ws 1) (nW ws), valL ws (a + 1), valL ws (a + 3), valL ws (a + 5), valL ws (a + 7)⟩ := by rw [ha]; rfl
    have hrng := stmW_rng ws
    have e33 := fun {K} => c33f (s := stmW ws) fz_b0 hrng (by rw [hst]; simp only; omega) (K := K)
    have e71 := fun {K} (r : RightS (stmW ws)) => c71f (s := stmW ws) fz_b1 r (K := K)
    have fz1 := fz_b1 (l := lnsW ws (valL ws 1) (nW ws))
    have hrd : refD s = if RightS (stmW ws) ∧ textT (stmW ws) = s then .tu [stD (stmW ws) (lsD (stmW ws).ls), .i .i64 0] else .tu [stD zS .nil, .i .i64 390] := by unfold refD; rw [← hws]
    rw [hrd]
    subst hZ
    have i0 : (a : Int) = ((a : Nat) : Int) := rfl
    have fin : ∀ a3 a4 a5 a9 a11, Run VS (v11tail) ⟨[.s s, .bx [.i .i64 0, .i .i64 0, .i .i64 0, .nil, .i .i64 0, .i .i64 0, .i .i64 0, .i .i64 0], .i .i64 0, a3, a4, a5, .u, imS ws, .i .i64 (a : Nat), a9, .bx [.i .i64 (valL ws 1), .i .i64 (valL ws 3), .i .i64 0, bD [] .nil ((lnsW ws (valL ws 1) (nW ws)).map lnR), .i .i64 0, .i .i64 0, .i .i64 0, .i .i64 0], a11], bH [] 4 ((lnsW ws (valL ws 1) (nW ws)).map lnR)⟩ (ResQ v11.res (PurK false fun r => r = .ret (if RightS (stmW ws) ∧ textT (stmW ws) = s then .tu [stD (stmW ws) (lsD (stmW ws).ls), .i .i64 0] else .tu [stD zS .nil, .i .i64 390]))) := fun a3 a4 a5 a9 a11 => by
      by_cases hR : RightS (stmW ws)
      · have e71r := fun {K} => e71 hR (K := K)
        rw [decide_eq_true hR] at e33
        by_cases hT : textT (stmW ws) = s
        · rw [if_pos ⟨hR, hT⟩]
          rw [hT] at e71r
          rw [hst] at e33 e71r ⊢
          simp only [stD] at e33 e71r
          simp (disch := omega) only [go_sem, Nat.reduceAdd, Nat.reduceLeDiff, v11tail, v11, wr, e1', i3, i5, i7, i9, e33, e71r, fz1, stD]
        · rw [if_neg (fun h => hT h.2)]
          have hT' : decide (textT (stmW ws) = s) = false := decide_eq_false hT
          rw [hst] at e33 e71r hT'
          simp only [stD] at e33 e71r
          simp (disch := omega) only [go_sem, Nat.reduceAdd, Nat.reduceLeDiff, v11tail, v11, wr, e1', i3, i5, i7, i9, e33, e71r, hT', stD, zS]
      · rw [decide_eq_false hR] at e33
        rw [if_neg (fun h => hR h.1)]
        rw [hst] at e33
        simp only [stD] at e33
        simp (disch := omega) only [go_sem, Nat.reduceAdd, Nat.reduceLeDiff, v11tail, v11, wr, e1', i3, i5, i7, i9, e33, stD, zS]
    by_cases hgt : a + 7 < ws.length
    · have b1 : decide ((a : Int) + 7 < (ws.length : Int)) = true := decide_eq_true (by omega)
      have g2 : ¬ ws[a]! = [109, 111, 110, 116, 104] := fun h => hng ⟨by omega, by rw [← ha]; exact h⟩
      have g3 : decide (ws[a]! = [109, 111, 110, 116, 104]) = false := decide_eq_false g2
      simp (disch := omega) only [go_sem, v11l1, wr, b1, hx.n, hx.q, strRow, g3]
      refine ⟨by omega, ?_⟩
      have := fin (.b false) a4 a5 a9 a11
      simp (disch := omega) only [go_sem, v11tail, v11, wr] at this
      exact this
    · have b1 : decide ((a : Int) + 7 < (ws.length : Int)) = false := decide_eq_false (by omega)
      simp (disch := omega) only [go_sem, v11l1, wr, b1, hx.n]
      have := fin (.b false) a4 a5 a9 a11
      simp (disch := omega) only [go_sem, v11tail, v11, wr] at this
      exact this
theorem c11w {s : List UInt8} (hl : s.length ≤ 3000) {H : Heap} {K : CR → Prop} : CallQ VS 11 [.s s] H K ↔ K (.ret (refD s) H) :=
  (read11 hl).c (vf := v11) rfl rfl rfl (.inl rfl)
open Go.Dm Go.Proofs
def noSep (w : List UInt8) : Prop := ∀ c ∈ w, isSep c = false
theorem wsp_app : ∀ (w : List UInt8) (rest cur : List UInt8), noSep w → wsp (w ++ rest) cur = wsp rest (cur ++ w)
  | [], rest, cur, _ => by simp
  | c :: w, rest, cur, h => by
    rw [List.cons_append, wsp, if_neg (by rw [h c List.mem_cons_self]; nofun), wsp_app w rest _ (fun d hd => h d (List.mem_cons_of_mem _ hd))]
    simp
theorem wsp_kw {c : UInt8} {k rest cur : List UInt8} (hc : isSep c = true) (hk : noSep k) (d : UInt8) (hd : isSep d = true) : wsp (c :: (k ++ (d :: rest))) cur = cur :: k :: wsp rest [] := by
  rw [wsp, if_pos hc, wsp_app k _ _ hk, wsp, if_pos hd]; simp
theorem wsp_num1 {w rest : List UInt8} (h : noSep w) : wsp (w ++ rest) [] = wsp rest w := by rw [wsp_app w rest [] h]; rfl
theorem noSep_dec (u : Nat) : noSep (Lib.decDigits u) := fun c hc => by
  have := (decD u).1 c hc
  simp only [isD, Bool.and_eq_true, decide_eq_true_eq] at this
  simp only [isSep, Bool.or_eq_false_iff, decide_eq_false_iff_not]; omega
theorem noSep_itoa (n : Int) : noSep (Lib.itoa n) := fun c hc => by
  unfold Lib.itoa at hc
  split at hc
  · rcases List.mem_cons.1 hc with rfl | hc
    · decide
    · exact noSep_dec _ c hc
  · exact noSep_dec _ c hc
theorem noSep_mon (m : Int) : noSep (monT m) := fun c hc => by
  unfold monT at hc
  rcases List.mem_append.1 hc with hc | hc
  · rcases List.mem_append.1 hc with hc | hc
    · exact noSep_itoa _ c hc
    · rw [List.mem_singleton.1 hc]; decide
  · unfold pad2 at hc
    split at hc
    · rcases List.mem_cons.1 hc with rfl | hc
      · decide
      · exact noSep_itoa _ c hc
    · exact noSep_itoa _ c hc
theorem noSep_k {k : List UInt8} (h : k.all (fun c => !isSep c) = true) : noSep k := fun c hc => by
  have := List.all_eq_true.1 h c hc
  simpa using this
def lw : List Ln → List (List UInt8)
  | [] => []
  | x :: l => [kMonth, monT x.m, kDue, Lib.itoa x.d, kPosted, Lib.itoa x.p, kOpen, Lib.itoa x.o] ++ lw l
theorem lw_len : ∀ l, (lw l).length = 8 * l.length
  | [] => rfl
  | x :: l => by rw [lw, List.length_append, lw_len l]; simp only [List.length_cons, List.length_nil]; omega
theorem lw_app : ∀ a b, lw (a ++ b) = lw a ++ lw b
  | [], b => rfl
  | x :: a, b => by rw [List.cons_append, lw, lw, lw_app a b, List.append_assoc]
theorem wsp_lns : ∀ (l : List Ln) (c : UInt8) (rest cur : List UInt8), isSep c = true → wsp (lnsU l ++ (c :: rest)) cur = cur :: (lw l ++ wsp rest [])
  | [], c, rest, cur, hc => by
    show wsp (c :: rest) cur = _
    rw [wsp, if_pos hc]; rfl
  | x :: l, c, rest, cur, hc => by
    have e : lnsU (x :: l) ++ (c :: rest) = 10 :: (kMonth ++ (32 :: (monT x.m ++ (32 :: (kDue ++ (32 :: (Lib.itoa x.d ++ (32 :: (kPosted ++ (32 :: (Lib.itoa x.p ++ (32 :: (kOpen ++ (32 :: (Lib.itoa x.o ++ (lnsU l ++ (c :: rest))))))))))))))))) := by
      simp [lnsU, lnU, kM, kD, kP, kO, kMonth, kDue, kPosted, kOpen]
    rw [e, wsp_kw (by decide) (noSep_k rfl) 32 (by decide), wsp_num1 (noSep_mon _), wsp_kw (by decide) (noSep_k rfl) 32 (by decide), wsp_num1 (noSep_itoa _), wsp_kw (by decide) (noSep_k rfl) 32 (by decide), wsp_num1 (noSep_itoa _), wsp_kw (by decide) (noSep_k rfl) 32 (by decide), wsp_num1 (noSep_itoa _), wsp_lns l c rest _ hc]
    rfl
def tailW (s : Stm) : List (List UInt8) := [kGross, Lib.itoa s.g, kTax, Lib.itoa s.t, kNet, Lib.itoa s.n, kInterest, Lib.itoa s.i, kAfter, Lib.itoa s.a, []]
theorem words_text (s : Stm) : wordsT (textT s) = [kStatement, Lib.itoa s.y, kBefore, Lib.itoa s.b] ++ (lw s.ls ++ tailW s) := by
  have e : textT s = (kStatement ++ (32 :: (Lib.itoa s.y ++ (10 :: (kBefore ++ (32 :: (Lib.itoa s.b ++ (lnsU s.ls ++ (10 :: (kGross ++ (32 :: (Lib.itoa s.g ++ (32 :: (kTax ++ (32 :: (Lib.itoa s.t ++ (32 :: (kNet ++ (32 :: (Lib.itoa s.n ++ (32 :: (kInterest ++ (32 :: (Lib.itoa s.i ++ (10 :: (kAfter ++ (32 :: (Lib.itoa s.a ++ [10])))))))))))))))))))))))))))) := by
    rw [text_U]
    simp [textU, tailU, kS, kB, kG, kT, kN, kI, kA, kStatement, kBefore, kGross, kTax, kNet, kInterest, kAfter]
  unfold wordsT
  rw [e, wsp_num1 (noSep_k rfl), wsp, if_pos (by decide), wsp_num1 (noSep_itoa _), wsp_kw (by decide) (noSep_k rfl) 32 (by decide), wsp_num1 (noSep_itoa _), wsp_lns _ 10 _ _ (by decide), wsp_num1 (noSep_k rfl), wsp, if_pos (by decide), wsp_num1 (noSep_itoa _), wsp_kw (by decide) (noSep_k rfl) 32 (by decide), wsp_num1 (noSep_itoa _), wsp_kw (by decide) (noSep_k rfl) 32 (by decide), wsp_num1 (noSep_itoa _), wsp_kw (by decide) (noSep_k rfl) 32 (by decide), wsp_num1 (noSep_itoa _), wsp_kw (by decide) (noSep_k rfl) 32 (by decide), wsp_num1 (noSep_itoa _)]
  rw [wsp, if_pos (by decide)]
  rfl
theorem dec_head : ∀ u : Nat, 1 ≤ u → (Lib.decDigits u)[0]!.toNat ≠ 48 := by
  intro u
  induction u using Nat.strongRecOn with
  | ind u ih =>
    intro hu
    rw [Lib.decDigits]
    by_cases h : u < 10
    · rw [dif_pos h]
      show (UInt8.ofNat (48 + u)).toNat ≠ 48
      simp only [UInt8.toNat_ofNat']; omega
    · rw [dif_neg h]
      have := ih (u / 10) (by omega) (by omega)
      have hne := (decD (u / 10)).2.1
      cases hd : Lib.decDigits (u / 10) with
      | nil => exact absurd hd hne
      | cons x l => rw [hd] at this; exact this
theorem dec_one {u : Nat} (h : 1 < (Lib.decDigits u).length) : 1 ≤ u := by
  rcases Nat.eq_zero_or_pos u with rfl | h0
  · rw [Lib.decDigits, dif_pos (by omega)] at h; simp at h
  · exact h0
theorem dv_pos {w : List UInt8} (h : ∀ c ∈ w, isD c = true) : ∀ i, i ≤ w.length → dv w i = dval (w.take i)
  | 0, _ => rfl
  | i + 1, hi => by
    have hm := h w[i]! (by rw [getElem!_pos w i (by omega)]; exact List.getElem_mem _)
    simp only [isD, Bool.and_eq_true, decide_eq_true_eq] at hm
    rw [dv, if_neg (by omega), dv_pos h i (by omega), dval_take (by omega)]
    omega
theorem dv_neg {w : List UInt8} (h : ∀ c ∈ w, isD c = true) : ∀ i, i ≤ w.length → dv (45 :: w) (i + 1) = dval (w.take i)
  | 0, _ => rfl
  | i + 1, hi => by
    have hm := h w[i]! (by rw [getElem!_pos w i (by omega)]; exact List.getElem_mem _)
    simp only [isD, Bool.and_eq_true, decide_eq_true_eq] at hm
    have e : (45 :: w)[i + 1]! = w[i]! := by simp
    rw [dv, e, if_neg (by omega), dv_neg h i (by omega), dval_take (by omega)]
    omega
theorem valW_itoa {n : Int} (hn : nr n = true) : valW (Lib.itoa n) = n := by
  rw [nr_i] at hn
  by_cases h0 : n < 0
  · obtain ⟨d1, d2, d3⟩ := decD n.natAbs
    have hh := dec_head n.natAbs (by omega)
    have e : Lib.itoa n = 45 :: Lib.decDigits n.natAbs := by unfold Lib.itoa; rw [if_pos h0]
    rw [e]
    generalize Lib.decDigits n.natAbs = ds at *
    have hpos : 0 < ds.length := List.length_pos_iff.2 d2
    have hng : negW (45 :: ds) = true := by simp [negW, hpos]
    have hf : fromW (45 :: ds) = 1 := by unfold fromW; rw [if_pos hng]
    have e1 : (45 :: ds)[1]! = ds[0]! := by simp
    have hd : DecW (45 :: ds) := ⟨by simp, fun _ => by rw [e1]; exact hh, fun _ => by rw [hf, e1]; exact hh, fun k h1 h2 => by
      rw [hf] at h1
      obtain ⟨j, rfl⟩ : ∃ j, k = j + 1 := ⟨k - 1, by omega⟩
      have : (45 :: ds)[j + 1]! = ds[j]! := by simp
      rw [this]
      simp only [List.length_cons] at h2
      exact d1 _ (by rw [getElem!_pos ds j (by omega)]; exact List.getElem_mem _)⟩
    have hv : dv (45 :: ds) (45 :: ds).length = n.natAbs := by
      rw [List.length_cons, dv_neg d1 _ (Nat.le_refl _), List.take_length, d3]
    have hs : sgnW (45 :: ds) = true := rfl
    have hl : 0 < (limbs n.natAbs).length := List.length_pos_iff.2 (fun h => by have := limbs_nil.1 h; omega)
    have hi : intV true n.natAbs = (-(n.natAbs : Int), 0) := by
      unfold intV
      rw [if_pos (by omega), if_pos rfl, if_pos (by omega)]
    rw [valW, if_pos hd, hv, hs, decide_eq_true hl, Bool.and_self, hi, if_pos rfl]
    omega
  · obtain ⟨d1, d2, d3⟩ := decD n.toNat
    have hh := dec_head n.toNat
    have h1 := @dec_one n.toNat
    have e : Lib.itoa n = Lib.decDigits n.toNat := by unfold Lib.itoa; rw [if_neg h0]
    rw [e]
    generalize Lib.decDigits n.toNat = ds at *
    have hpos : 0 < ds.length := List.length_pos_iff.2 d2
    have h00 : isD ds[0]! = true := d1 _ (by rw [getElem!_pos ds 0 hpos]; exact List.getElem_mem _)
    have h45 : ds[0]!.toNat ≠ 45 := by
      simp only [isD, Bool.and_eq_true, decide_eq_true_eq] at h00; omega
    have hng : negW ds = false := by
      unfold negW; rw [decide_eq_false h45, Bool.and_false]
    have hf : fromW ds = 0 := by unfold fromW; rw [if_neg (by rw [hng]; nofun)]
    have hd : DecW ds := ⟨hpos, fun h => absurd h (by rw [hng]; nofun), fun h => by rw [hf]; exact hh (h1 h), fun k _ h2 => d1 _ (by rw [getElem!_pos ds k h2]; exact List.getElem_mem _)⟩
    have hv : dv ds ds.length = n.toNat := by
      rw [dv_pos d1 _ (Nat.le_refl _), List.take_length, d3]
    have hs : sgnW ds = false := decide_eq_false h45
    have hi : intV false n.toNat = ((n.toNat : Int), 0) := by
      unfold intV
      rw [if_pos (by omega), if_neg (by nofun), if_pos (by omega)]
    rw [valW, if_pos hd, hv, hs, Bool.false_and, hi, if_pos rfl]
    omega
theorem mon_inj2 {m m' : Int} (h : 0 ≤ m) (hy : isY (yOf m) = true) (h' : 0 ≤ m') (hy' : isY (yOf m') = true) (e : monT m = monT m') : m = m' := by
  have e1 := monF_mon h hy (rest := []) (fun c hc => by cases hc)
  have e2 := monF_mon h' hy' (rest := []) (fun c hc => by cases hc)
  rw [e, e2] at e1
  simpa using e1.symm
theorem moF_hit {y m : Int} (hy : isY y = true) (h0 : 0 ≤ m) (hm : yOf m = y) : moF y (monT m) 12 = m := by
  have hyb := hy
  simp only [isY, Bool.and_eq_true, decide_eq_true_eq] at hyb
  have e : yOf m = 1900 + m / 12 := by rw [yOf, Int.tdiv_eq_ediv_of_nonneg h0]
  have step : ∀ k : Nat, k ≤ 12 → m < 12 * (y - 1900) + k → moF y (monT m) k = m := fun k => by
    induction k with
    | zero => intro _ h; omega
    | succ k ih =>
      intro hk hlt
      rw [moF]
      by_cases hc : m = 12 * (y - 1900) + k
      · rw [if_pos ⟨hyb.1, hyb.2, by rw [hc]⟩, hc]
      · rw [if_neg, ih (by omega) (by omega)]
        rintro ⟨_, _, h3⟩
        have hq : yOf (12 * (y - 1900) + k) = y := by rw [yOf, Int.tdiv_eq_ediv_of_nonneg (by omega)]; omega
        have := mon_inj2 (m := 12 * (y - 1900) + k) (by omega) (by rw [hq]; exact hy) h0 (by rw [hm]; exact hy) h3
        omega
  exact step 12 (Nat.le_refl _) (by omega)
theorem get_app {α : Type} [Inhabited α] {A B : List α} {n j : Nat} (h : A.length = n) : (A ++ B)[n + j]! = B[j]! := by
  subst h
  by_cases hj : j < B.length
  · rw [getElem!_pos _ _ (by simp; omega), getElem!_pos B j hj, List.getElem_append_right (by omega)]
    congr 1; omega
  · rw [getElem!_neg _ _ (by simp; omega), getElem!_neg B j hj]
theorem nr_of {s : Stm} (r : RightS s) : nr s.b = true ∧ nr s.a = true ∧ nr s.g = true ∧ nr s.t = true ∧ nr s.n = true ∧ nr s.i = true := by
  have := r.sums
  simp only [Bool.and_eq_true] at this
  exact ⟨this.1.1.1.1.1, this.1.1.1.1.2, this.1.1.1.2, this.1.1.2, this.1.2, this.2⟩
theorem stm_back {s : Stm} (r : RightS s) : stmW (wordsT (textT s)) = s := by
  obtain ⟨n1, n2, n3, n4, n5, n6⟩ := nr_of r
  have hw := words_text s
  obtain ⟨ws, hws⟩ : ∃ ws, ws = wordsT (textT s) := ⟨_, rfl⟩
  rw [← hws] at hw ⊢
  have hlen : ws.length = 15 + 8 * s.ls.length := by
    rw [hw]
    simp only [List.length_append, lw_len, List.length_cons, List.length_nil, tailW]; omega
  have hpre : ([kStatement, Lib.itoa s.y, kBefore, Lib.itoa s.b] ++ lw s.ls).length = 4 + 8 * s.ls.length := by
    simp only [List.length_append, lw_len, List.length_cons, List.length_nil]
  have gt : ∀ j, ws[4 + 8 * s.ls.length + j]! = (tailW s)[j]! := fun j => by
    rw [hw, ← List.append_assoc]; exact get_app hpre
  have gl : ∀ k, k < s.ls.length → ∀ j, j < 8 → ws[4 + 8 * k + j]! = ([kMonth, monT s.ls[k]!.m, kDue, Lib.itoa s.ls[k]!.d, kPosted, Lib.itoa s.ls[k]!.p, kOpen, Lib.itoa s.ls[k]!.o])[j]! := fun k hk j hj => by
    have e : s.ls = s.ls.take k ++ (s.ls[k]! :: s.ls.drop (k + 1)) := by
      rw [getElem!_pos s.ls k hk, ← List.drop_eq_getElem_cons hk, List.take_append_drop]
    have e2 : lw s.ls = lw (s.ls.take k) ++ ([kMonth, monT s.ls[k]!.m, kDue, Lib.itoa s.ls[k]!.d, kPosted, Lib.itoa s.ls[k]!.p, kOpen, Lib.itoa s.ls[k]!.o] ++ lw (s.ls.drop (k + 1))) := by
      conv => lhs; rw [e]
      rw [lw_app, lw]
    have e3 : ws = ([kStatement, Lib.itoa s.y, kBefore, Lib.itoa s.b] ++ lw (s.ls.take k)) ++ ([kMonth, monT s.ls[k]!.m, kDue, Lib.itoa s.ls[k]!.d, kPosted, Lib.itoa s.ls[k]!.p, kOpen, Lib.itoa s.ls[k]!.o] ++ (lw (s.ls.drop (k + 1)) ++ tailW s)) := by
      rw [hw, e2]; simp only [List.append_assoc]
    have hl : ([kStatement, Lib.itoa s.y, kBefore, Lib.itoa s.b] ++ lw (s.ls.take k)).length = 4 + 8 * k := by
      simp only [List.length_append, lw_len, List.length_cons, List.length_nil, List.length_take]; omega
    conv => lhs; rw [e3]
    rw [get_app hl]
    rcases (by omega : j = 0 ∨ j = 1 ∨ j = 2 ∨ j = 3 ∨ j = 4 ∨ j = 5 ∨ j = 6 ∨ j = 7) with rfl | rfl | rfl | rfl | rfl | rfl | rfl | rfl <;> rfl
  have hN : nW ws = s.ls.length := nW_eq (fun i hi => ⟨by omega, gl i hi 0 (by omega)⟩) (fun h => by
    have h1 := h.m
    have h2 : ws[4 + 8 * s.ls.length + 0]! = kGross := gt 0
    rw [Nat.add_zero, h1] at h2
    cases h2)
  have vt : ∀ {j : Nat} {n : Int}, j < 11 → nr n = true → (tailW s)[j]! = Lib.itoa n → valL ws (4 + 8 * s.ls.length + j) = n := fun {j n} hj hn he => by
    rw [valL, if_pos (by omega), gt, he, valW_itoa hn]
  have v1 : valL ws 1 = s.y := by
    have e : ws[1]! = Lib.itoa s.y := by rw [hw]; rfl
    have hy := r.y
    simp only [isY, Bool.and_eq_true, decide_eq_true_eq] at hy
    rw [valL, if_pos (by omega), e, valW_itoa (by rw [nr_i]; omega)]
  have v3 : valL ws 3 = s.b := by
    have e : ws[3]! = Lib.itoa s.b := by rw [hw]; rfl
    rw [valL, if_pos (by omega), e, valW_itoa n1]
  have hls : lnsW ws s.y s.ls.length = s.ls := by
    have : ∀ i, i ≤ s.ls.length → lnsW ws s.y i = s.ls.take i := fun i => by
      induction i with
      | zero => intro _; rfl
      | succ i ih =>
        intro hi
        have hk := r.lns.h i (by omega)
        have hd : nr s.ls[i]!.d = true := by have := hk.d; rw [nr_i]; omega
        have hln : lnW ws s.y i = s.ls[i]! := by
          unfold lnW
          have vl : ∀ {j : Nat} {n : Int}, j < 8 → nr n = true → ws[4 + 8 * i + j]! = Lib.itoa n → valL ws (4 + 8 * i + j) = n := fun {j n} hj hn he => by
            rw [valL, if_pos (by omega), he, valW_itoa hn]
          rw [gl i (by omega) 1 (by omega), vl (by omega) hd (gl i (by omega) 3 (by omega)), vl (by omega) hk.p (gl i (by omega) 5 (by omega)), vl (by omega) hk.o (gl i (by omega) 7 (by omega))]
          show (⟨moF s.y (monT s.ls[i]!.m) 12, _, _, _⟩ : Ln) = _
          rw [moF_hit r.y hk.m0 hk.m1]
        rw [lnsW, ih (by omega), hln, List.take_succ_eq_append_getElem (by omega), getElem!_pos s.ls i (by omega)]
    rw [this _ (Nat.le_refl _), List.take_length]
  unfold stmW
  rw [hN, v1, v3, hls, vt (j := 9) (by omega) n2 rfl, vt (j := 1) (by omega) n3 rfl, vt (j := 3) (by omega) n4 rfl, vt (j := 5) (by omega) n5 rfl, vt (j := 7) (by omega) n6 rfl]
theorem read_same (t : List UInt8) : refD t = readD t := by
  unfold refD readD
  cases hr : readS t with
  | some s =>
    obtain ⟨r, e⟩ := readS_spec hr
    have hb := stm_back r
    rw [e] at hb
    rw [hb, if_pos ⟨r, e⟩]
  | none =>
    rw [if_neg fun h => readS_none hr ⟨_, h.1, h.2⟩]
open Go.Dm Go.Proofs
noncomputable def rdS (t : List UInt8) : Stm := match readS t with
  | some s => s
  | none => zS
noncomputable def rdE (t : List UInt8) : Int := match readS t with
  | some _ => 0
  | none => 390
theorem readD_eq (t : List UInt8) : readD t = .tu [stD (rdS t) (lsD (rdS t).ls), .i .i64 (rdE t)] := by
  unfold readD rdS rdE
  cases readS t <;> rfl
theorem rdS_len (t : List UInt8) : (rdS t).ls.length ≤ 12 := by
  unfold rdS
  cases h : readS t with
  | some s => exact (readS_spec h).1.len
  | none => simp [zS]
theorem c17h {H H1 : Heap} {s : Stm} {x d : D} (h : ∀ m, Dm.freeze (m + 1) H x = some (lsD s.ls, H1)) (hd : IsStm s d) (hl : s.ls.length ≤ 1000000) {K : CR → Prop} : CallQ VS 12 [d, stD s x] H K ↔ K (.ret (.b true) H1) := by
  have hs : IsStm s (stD s (lsD s.ls)) := isStm_of s
  have e := same17 hd hs hl
  rw [decide_eq_true rfl] at e
  refine CallQ_p (vf := v12) (H1 := H1) rfl rfl e ?_
  obtain ⟨⟨y, rfl, hy⟩⟩ := hd
  have fy : ∀ m H, Dm.freeze (m + 1) H y = some (y, H) := fun m H => flat_freeze hy.flat m H
  simp only [go_sem, Nat.reduceAdd, stD, h, fy]
theorem reads5 {t : List UInt8} (hl : t.length ≤ 3000) : PRet VS 5 [.s t] (.b true) := by
  have e10 := fun {H K} => c16 (t := t) (by omega) (H := H) (K := K)
  have e11 := fun {H K} => c11w hl (H := H) (K := K)
  rw [read_same] at e11
  rw [readD_eq] at e10 e11
  have hlen := rdS_len t
  have e18 := fun {H K} => c18 (isStm_of (rdS t)) (by omega) (H := H) (K := K)
  have e17 := fun {K} => c17h (s := rdS t) fz_b0 (isStm_of (rdS t)) (by omega) (K := K)
  have k0 := (lsD_sl (rdS t).ls).c1
  refine .body (vf := v5) rfl rfl ?_
  simp only [stD] at e10 e11 e18 e17
  simp (disch := omega) only [go_sem, Nat.reduceAdd, Nat.reduceSub, v5, e10, e11, e18, e17]
end Go.Proofs.YtnhbopeopppojaaGreatDoor.Dv
