/-
  The reference's Read: what it takes out of the words.
-/
import Derived.Test.YtnhbopeopppojaaGreatDoorRc
import Derived.Test.YtnhbopeopppojaaGreatDoorSq
import Derived.Test.YtnhbopeopppojaaGreatDoorSj
import Derived.Test.YtnhbopeopppojaaGreatDoorSh
namespace Go.Proofs.YtnhbopeopppojaaGreatDoor.Dv
open Go.Dm Go.Proofs

/-- The month with a text, among the first k of a year. -/
def moF (y : Int) (w : List UInt8) : Nat → Int
  | 0 => 0
  | k + 1 => if 1900 ≤ y ∧ y ≤ 2079 ∧ monT (12 * (y - 1900) + k) = w then 12 * (y - 1900) + k else moF y w k
theorem moF_b (y : Int) (w : List UInt8) : ∀ k : Nat, k ≤ 12 → 0 ≤ moF y w k ∧ moF y w k ≤ 100000
  | 0, _ => by simp [moF]
  | k + 1, h => by
    have ih := moF_b y w k (by omega)
    rw [moF]
    split <;> omega
noncomputable def lnW (ws : List (List UInt8)) (y : Int) (i : Nat) : Ln := ⟨moF y ws[4 + 8 * i + 1]! 12, valL ws (4 + 8 * i + 3), valL ws (4 + 8 * i + 5), valL ws (4 + 8 * i + 7)⟩
noncomputable def lnsW (ws : List (List UInt8)) (y : Int) : Nat → List Ln
  | 0 => []
  | i + 1 => lnsW ws y i ++ [lnW ws y i]
theorem lnsW_len {ws : List (List UInt8)} {y : Int} : ∀ i, (lnsW ws y i).length = i
  | 0 => rfl
  | i + 1 => by rw [lnsW, List.length_append, lnsW_len i]; rfl
theorem lnsW_m {ws : List (List UInt8)} {y : Int} : ∀ i, ∀ x ∈ lnsW ws y i, 0 ≤ x.m ∧ x.m ≤ 100000
  | 0, x, hx => by cases hx
  | i + 1, x, hx => by
    rw [lnsW] at hx
    rcases List.mem_append.1 hx with hx | hx
    · exact lnsW_m i x hx
    · rw [List.mem_singleton.1 hx]; exact moF_b _ _ 12 (Nat.le_refl _)
/-- There is a line in round i. -/
structure GoW (ws : List (List UInt8)) (i : Nat) : Prop where
  l : 4 + 8 * i + 7 < ws.length
  m : ws[4 + 8 * i]! = kMonth
theorem ex_nW (ws : List (List UInt8)) : ∃ n, (∀ i, i < n → GoW ws i) ∧ ¬ GoW ws n := by
  have : ∀ k : Nat, (∃ n, n ≤ k ∧ (∀ i, i < n → GoW ws i) ∧ ¬ GoW ws n) ∨ ∀ i, i < k → GoW ws i := fun k => by
    induction k with
    | zero => exact .inr fun i hi => absurd hi (Nat.not_lt_zero i)
    | succ k ih =>
      rcases ih with ⟨n, h1, h2⟩ | h
      · exact .inl ⟨n, by omega, h2⟩
      · by_cases hg : GoW ws k
        · exact .inr fun i hi => by
            by_cases e : i = k
            · subst e; exact hg
            · exact h i (by omega)
        · exact .inl ⟨k, by omega, h, hg⟩
  rcases this (ws.length + 1) with ⟨n, _, h⟩ | h
  · exact ⟨n, h⟩
  · have := (h ws.length (by omega)).l
    omega
noncomputable def nW (ws : List (List UInt8)) : Nat := Classical.choose (ex_nW ws)
theorem nW_go (ws : List (List UInt8)) : (∀ i, i < nW ws → GoW ws i) ∧ ¬ GoW ws (nW ws) := Classical.choose_spec (ex_nW ws)
theorem nW_eq {ws : List (List UInt8)} {n : Nat} (h : ∀ i, i < n → GoW ws i) (hn : ¬ GoW ws n) : nW ws = n := by
  obtain ⟨h1, h2⟩ := nW_go ws
  rcases Nat.lt_trichotomy (nW ws) n with hlt | he | hlt
  · exact absurd (h _ hlt) h2
  · exact he
  · exact absurd (h1 _ hlt) hn
theorem nW_le (ws : List (List UInt8)) : 8 * nW ws ≤ ws.length := by
  rcases Nat.eq_zero_or_pos (nW ws) with h | h
  · omega
  · have := ((nW_go ws).1 (nW ws - 1) (by omega)).l
    omega
noncomputable def stmW (ws : List (List UInt8)) : Stm := ⟨valL ws 1, valL ws 3, valL ws (4 + 8 * nW ws + 9), lnsW ws (valL ws 1) (nW ws), valL ws (4 + 8 * nW ws + 1), valL ws (4 + 8 * nW ws + 3), valL ws (4 + 8 * nW ws + 5), valL ws (4 + 8 * nW ws + 7)⟩
theorem stmW_rng (ws : List (List UInt8)) : Rng (stmW ws) := ⟨fun x hx => by have := lnsW_m _ x hx; omega⟩
noncomputable def refD (s : List UInt8) : D := if RightS (stmW (wordsT s)) ∧ textT (stmW (wordsT s)) = s then .tu [stD (stmW (wordsT s)) (lsD (stmW (wordsT s)).ls), .i .i64 0] else .tu [stD zS .nil, .i .i64 390]
theorem c33f {H H1 : Heap} {s : Stm} {x : D} (h : ∀ m, Dm.freeze (m + 1) H x = some (lsD s.ls, H1)) (hr : Rng s) (hl : s.ls.length ≤ 1000) {K : CR → Prop} : CallQ VS 23 [stD s x] H K ↔ K (.ret (.b (decide (RightS s))) H1) :=
  CallQ_p (vf := v23) (H1 := H1) rfl rfl (right33 (isStm_of s) hr hl) (fz_st h)
theorem c71f {H H1 : Heap} {s : Stm} {x : D} (h : ∀ m, Dm.freeze (m + 1) H x = some (lsD s.ls, H1)) (r : RightS s) {K : CR → Prop} : CallQ VS 24 [stD s x] H K ↔ K (.ret (.s (textT s)) H1) :=
  CallQ_p (vf := v24) (H1 := H1) rfl rfl (write71 (isStm_of s) r) (fz_st h)
def imS (ws : List (List UInt8)) : D := .im 1 (ws.map strRow)
/-- The inner loop: the month with a text. -/
theorem month_loop {s : List UInt8} {ws : List (List UInt8)} {a : Nat} (ha : a + 7 < ws.length) (hal : a ≤ 1000000) {y b : Int} {a3 a4 a5 a6 z1 L : D} {H : Heap} {Q : Ex → St → Prop}
    (hq : ∀ b4 b5, Q (.ex 2) ⟨[.s s, z1, .i .i64 0, a3, b4, b5, a6, imS ws, .i .i64 (a : Nat), .i .i64 12, .bx [.i .i64 y, .i .i64 b, .i .i64 0, L, .i .i64 0, .i .i64 0, .i .i64 0, .i .i64 0], .bx [.i .i64 (moF y ws[a + 1]! 12), .i .i64 0, .i .i64 0, .i .i64 0]], H⟩) :
    Run VS (.loop v11l0) ⟨[.s s, z1, .i .i64 0, a3, a4, a5, a6, imS ws, .i .i64 (a : Nat), .i .i64 0, .bx [.i .i64 y, .i .i64 b, .i .i64 0, L, .i .i64 0, .i .i64 0, .i .i64 0, .i .i64 0], .bx [.i .i64 0, .i .i64 0, .i .i64 0, .i .i64 0]], H⟩ Q := by
  have hx : Sl 1 (ws.map strRow) (imS ws) := .im
  refine Run.up (fun k st => ∃ b4 b5, st = ⟨[.s s, z1, .i .i64 0, a3, b4, b5, a6, imS ws, .i .i64 (a : Nat), .i .i64 k, .bx [.i .i64 y, .i .i64 b, .i .i64 0, L, .i .i64 0, .i .i64 0, .i .i64 0, .i .i64 0], .bx [.i .i64 (moF y ws[a + 1]! k), .i .i64 0, .i .i64 0, .i .i64 0]], H⟩) 12 ⟨_, _, rfl⟩ ?_
  rintro k st hk ⟨b4, b5, rfl⟩
  by_cases hlt : k < 12
  · have hlt' : decide ((k : Int) < 12) = true := decide_eq_true (by omega)
    have ea : (a : Int) + 1 = ((a + 1 : Nat) : Int) := rfl
    by_cases hy1 : 1900 ≤ y
    · have b1 : decide (y ≥ 1900) = true := decide_eq_true (by omega)
      by_cases hy2 : y ≤ 2079
      · have b2 : decide (y ≤ 2079) = true := decide_eq_true hy2
        have e84 := fun {H K} => c84 (m := 12 * (y - 1900) + k) ⟨by omega, by omega⟩ (H := H) (K := K)
        by_cases hc : monT (12 * (y - 1900) + k) = ws[a + 1]!
        · have hm : moF y ws[a + 1]! (k + 1) = 12 * (y - 1900) + k := by rw [moF, if_pos ⟨hy1, hy2, hc⟩]
          have b3 : decide (monT (12 * (y - 1900) + k) = ws[a + 1]!) = true := decide_eq_true hc
          rw [hm]
          simp (disch := omega) only [go_sem, Nat.reduceAdd, Nat.reduceLeDiff, v11l0, hlt', b1, b2, wr, e84, hx.q, hx.under, strRow, hc]
          exact ⟨by omega, hlt⟩
        · have hm : moF y ws[a + 1]! (k + 1) = moF y ws[a + 1]! k := by rw [moF, if_neg (fun h => hc h.2.2)]
          rw [hm]
          simp (disch := omega) only [go_sem, Nat.reduceAdd, Nat.reduceLeDiff, v11l0, hlt', b1, b2, wr, e84, hx.q, hx.under, strRow]
          exact ⟨by omega, fun h => absurd h hc, fun _ => hlt⟩
      · have b2 : decide (y ≤ 2079) = false := decide_eq_false hy2
        have hm : moF y ws[a + 1]! (k + 1) = moF y ws[a + 1]! k := by rw [moF, if_neg (fun h => hy2 h.2.1)]
        rw [hm]
        simp (disch := omega) only [go_sem, Nat.reduceAdd, Nat.reduceLeDiff, v11l0, hlt', b1, b2, wr]
        exact hlt
    · have b1 : decide (y ≥ 1900) = false := decide_eq_false (by omega)
      have hm : moF y ws[a + 1]! (k + 1) = moF y ws[a + 1]! k := by rw [moF, if_neg (fun h => hy1 h.1)]
      rw [hm]
      simp (disch := omega) only [go_sem, Nat.reduceAdd, Nat.reduceLeDiff, v11l0, hlt', b1, wr]
      exact hlt
  · have hk12 : k = 12 := by omega
    subst hk12
    have hlt' : decide (((12 : Nat) : Int) < 12) = false := rfl
    simp (disch := omega) only [go_sem, Nat.reduceAdd, Nat.reduceLT, Int.reduceLT, v11l0]
    exact hq _ _
/-- What stands behind the loop. -/
def v11tail : VCode :=
 (.seq (.reg [⟨.mov (.s 7), none, none⟩,
 ⟨.mov (.s 8), none, none⟩,
 ⟨.bin .add (.l 1) (.c (.i .i64 1)), none, none⟩,
 ⟨.call 21 [(.l 0), (.l 2)], none, none⟩,
 ⟨.lfa (.sl 10) 4, none, none⟩,
 ⟨.lst (.lo 4) (.l 3) 1, none, none⟩] none)
 (.seq (.reg [⟨.mov (.s 7), none, none⟩,
 ⟨.mov (.s 8), none, none⟩,
 ⟨.bin .add (.l 1) (.c (.i .i64 3)), none, none⟩,
 ⟨.call 21 [(.l 0), (.l 2)], none, none⟩,
 ⟨.lfa (.sl 10) 5, none, none⟩,
 ⟨.lst (.lo 4) (.l 3) 1, none, none⟩] none)
 (.seq (.reg [⟨.mov (.s 7), none, none⟩,
 ⟨.mov (.s 8), none, none⟩,
 ⟨.bin .add (.l 1) (.c (.i .i64 5)), none, none⟩,
 ⟨.call 21 [(.l 0), (.l 2)], none, none⟩,
 ⟨.lfa (.sl 10) 6, none, none⟩,
 ⟨.lst (.lo 4) (.l 3) 1, none, none⟩] none)
 (.seq (.reg [⟨.mov (.s 7), none, none⟩,
 ⟨.mov (.s 8), none, none⟩,
 ⟨.bin .add (.l 1) (.c (.i .i64 7)), none, none⟩,
 ⟨.call 21 [(.l 0), (.l 2)], none, none⟩,
 ⟨.lfa (.sl 10) 7, none, none⟩,
 ⟨.lst (.lo 4) (.l 3) 1, none, none⟩] none)
 (.seq (.reg [⟨.mov (.s 7), none, none⟩,
 ⟨.mov (.s 8), none, none⟩,
 ⟨.bin .add (.l 1) (.c (.i .i64 9)), none, none⟩,
 ⟨.call 21 [(.l 0), (.l 2)], none, none⟩,
 ⟨.lfa (.sl 10) 2, none, none⟩,
 ⟨.lst (.lo 4) (.l 3) 1, none, none⟩] none)
 (.seq (.seq (.reg [⟨.lld (.sl 10) 8 true, none, none⟩,
 ⟨.call 23 [(.l 0)], none, none⟩,
 ⟨.un .not (.l 1), none, none⟩,
 ⟨.mov (.l 2), none, none⟩,
 ⟨.lld (.sl 10) 8 true, none, some ((.l 3), false)⟩,
 ⟨.call 24 [(.l 4)], none, some ((.l 3), false)⟩,
 ⟨.mov (.s 0), none, some ((.l 3), false)⟩,
 ⟨.bin .neq (.l 5) (.l 6), none, some ((.l 3), false)⟩,
 ⟨.pick (.l 3) (.c (.b true)) (.l 7), some 6, none⟩] none)
 (.cond (.s 6) (.seq (.reg [⟨.agc [(.i .i64 0), (.i .i64 0), (.i .i64 0), .nil, (.i .i64 0), (.i .i64 0), (.i .i64 0), (.i .i64 0)] [], none, none⟩,
 ⟨.lst (.sl 1) (.l 0) 8, none, none⟩,
 ⟨.mov (.c (.i .i64 390)), some 2, none⟩] none)
 .ret)
 .skip))
 (.seq (.reg [⟨.lld (.sl 10) 8 true, none, none⟩,
 ⟨.lst (.sl 1) (.l 0) 8, none, none⟩,
 ⟨.mov (.c (.i .i64 0)), some 2, none⟩] none)
 .ret)))))))
/-- Where round i begins. -/
structure AtI (i a : Nat) : Prop where
  e : a = 4 + 8 * i
set_option maxRecDepth 100000 in
theorem read11 {s : List UInt8} (hl : s.length ≤ 3000) : PRet VS 11 [.s s] (refD s) := by
  obtain ⟨ws, hws⟩ : ∃ ws, ws = wordsT s := ⟨_, rfl⟩
  have e20 := fun {H K} => c20w (s := s) (by omega) (H := H) (K := K)
  rw [← hws] at e20
  have hx : Sl 1 (ws.map strRow) (imS ws) := .im
  have hwn : ws.length ≤ 3001 := by
    have := (wsp_num s []).2
    rw [hws]; unfold wordsT; omega
  have hwl : ∀ w ∈ ws, w.length ≤ 3000 := fun w hw => by
    rw [hws] at hw
    have := wsp_len s [] w hw
    simp only [List.length_nil] at this
    omega
  have e21 := fun (i : Nat) (hi : i ≤ 1000000) {H K} => c21w hx (by omega) hwl hi (H := H) (K := K)
  have e1 : ∀ {H K}, CallQ VS 21 [imS ws, .i .i64 1] H K ↔ K (.ret (.i .i64 (valL ws 1)) H) := fun {H K} => e21 1 (by omega)
  have e3 : ∀ {H K}, CallQ VS 21 [imS ws, .i .i64 3] H K ↔ K (.ret (.i .i64 (valL ws 3)) H) := fun {H K} => e21 3 (by omega)
  have hc1 := hx.c1
  have hnW := nW_le ws
  refine .body (vf := v11) rfl rfl ?_
  have him : D.im 1 (ws.map strRow) = imS ws := rfl
  simp (disch := omega) only [go_sem, Nat.reduceAdd, Nat.reduceSub, Nat.reduceLeDiff, v11, e20, him, e1, e3]
  refine Run.up (fun i st => ∃ a a3 a4 a5 a9 a11 Z, AtI i a ∧ Z = .bx [.i .i64 0, .i .i64 0, .i .i64 0, .nil, .i .i64 0, .i .i64 0, .i .i64 0, .i .i64 0] ∧ (∀ j, j < i → GoW ws j) ∧ st = ⟨[.s s, Z, .i .i64 0, a3, a4, a5, .u, imS ws, .i .i64 (a : Nat), a9, .bx [.i .i64 (valL ws 1), .i .i64 (valL ws 3), .i .i64 0, bD [] .nil ((lnsW ws (valL ws 1) i).map lnR), .i .i64 0, .i .i64 0, .i .i64 0, .i .i64 0], a11], bH [] 4 ((lnsW ws (valL ws 1) i).map lnR)⟩) (nW ws) ⟨4, .u, .u, .u, .u, .u, _, ⟨rfl⟩, rfl, fun j hj => absurd hj (Nat.not_lt_zero j), rfl⟩ ?_
  rintro i st hi ⟨a, a3, a4, a5, a9, a11, Z, ⟨ha⟩, hZ, hgo, rfl⟩
  have hlen := lnsW_len (ws := ws) (y := valL ws 1) i
  by_cases hlt : i < nW ws
  · obtain ⟨g1, g2⟩ := (nW_go ws).1 i hlt
    rw [← ha] at g1 g2
    have b1 : decide ((a : Int) + 7 < (ws.length : Int)) = true := decide_eq_true (by omega)
    have hkm : kMonth = [109, 111, 110, 116, 104] := rfl
    rw [hkm] at g2
    have g3 : decide (ws[a]! = [109, 111, 110, 116, 104]) = true := decide_eq_true g2
    have i3 : ∀ {H K}, CallQ VS 21 [imS ws, .i .i64 ((a : Int) + 3)] H K ↔ K (.ret (.i .i64 (valL ws (a + 3))) H) := fun {H K} => e21 (a + 3) (by omega)
    have i5 : ∀ {H K}, CallQ VS 21 [imS ws, .i .i64 ((a : Int) + 5)] H K ↔ K (.ret (.i .i64 (valL ws (a + 5))) H) := fun {H K} => e21 (a + 5) (by omega)
    have i7 : ∀ {H K}, CallQ VS 21 [imS ws, .i .i64 ((a : Int) + 7)] H K ↔ K (.ret (.i .i64 (valL ws (a + 7))) H) := fun {H K} => e21 (a + 7) (by omega)
    simp (disch := omega) only [go_sem, v11l1, wr, b1, hx.n, hx.q, strRow, g2]
    refine ⟨by omega, month_loop g1 (by omega) fun b4 b5 => ?_⟩
    have hsn : (lnsW ws (valL ws 1) i).map lnR ++ [[.i .i64 (moF (valL ws 1) ws[a + 1]! 12), .i .i64 (valL ws (a + 3)), .i .i64 (valL ws (a + 5)), .i .i64 (valL ws (a + 7))]] = (lnsW ws (valL ws 1) (i + 1)).map lnR := by
      rw [lnsW, List.map_append, lnW, ← ha]; rfl
    have hgo2 : ∀ j, j < i + 1 → GoW ws j := fun j hj => (nW_go ws).1 j (by omega)
    simp (disch := omega) only [go_sem, Nat.reduceAdd, Nat.reduceLeDiff, Nat.reduceEqDiff, Nat.reduceLT, reduceCtorEq, wr, i3, i5, i7, app_n, hsn]
    exact ⟨hlt, a + 8, ⟨by omega⟩, hgo2, hZ, rfl⟩
  · have hiN : i = nW ws := by omega
    subst hiN
    have hng := (nW_go ws).2
    have e1' : ∀ {H K}, CallQ VS 21 [imS ws, .i .i64 ((a : Int) + 1)] H K ↔ K (.ret (.i .i64 (valL ws (a + 1))) H) := fun {H K} => e21 (a + 1) (by omega)
    have i3 : ∀ {H K}, CallQ VS 21 [imS ws, .i .i64 ((a : Int) + 3)] H K ↔ K (.ret (.i .i64 (valL ws (a + 3))) H) := fun {H K} => e21 (a + 3) (by omega)
    have i5 : ∀ {H K}, CallQ VS 21 [imS ws, .i .i64 ((a : Int) + 5)] H K ↔ K (.ret (.i .i64 (valL ws (a + 5))) H) := fun {H K} => e21 (a + 5) (by omega)
    have i7 : ∀ {H K}, CallQ VS 21 [imS ws, .i .i64 ((a : Int) + 7)] H K ↔ K (.ret (.i .i64 (valL ws (a + 7))) H) := fun {H K} => e21 (a + 7) (by omega)
    have i9 : ∀ {H K}, CallQ VS 21 [imS ws, .i .i64 ((a : Int) + 9)] H K ↔ K (.ret (.i .i64 (valL ws (a + 9))) H) := fun {H K} => e21 (a + 9) (by omega)
    have hst : stmW ws = ⟨valL ws 1, valL ws 3, valL ws (a + 9), lnsW ws (valL ws 1) (nW ws), valL ws (a + 1), valL ws (a + 3), valL ws (a + 5), valL ws (a + 7)⟩ := by rw [ha]; rfl
    have hrng := stmW_rng ws
    have e33 := fun {K} => c33f (s := stmW ws) fz_b0 hrng (by rw [hst]; simp only; omega) (K := K)
    have e71 := fun {K} (r : RightS (stmW ws)) => c71f (s := stmW ws) fz_b1 r (K := K)
    have fz1 := fz_b1 (l := lnsW ws (valL ws 1) (nW ws))
    have hrd : refD s = if RightS (stmW ws) ∧ textT (stmW ws) = s then .tu [stD (stmW ws) (lsD (stmW ws).ls), .i .i64 0] else .tu [stD zS .nil, .i .i64 390] := by unfold refD; rw [← hws]
    rw [hrd]
    subst hZ
    have i0 : (a : Int) = ((a : Nat) : Int) := rfl
    have fin : ∀ a3 a4 a5 a9 a11, Run VS (v11tail) ⟨[.s s, .bx [.i .i64 0, .i .i64 0, .i .i64 0, .nil, .i .i64 0, .i .i64 0, .i .i64 0, .i .i64 0], .i .i64 0, a3, a4, a5, .u, imS ws, .i .i64 (a : Nat), a9, .bx [.i .i64 (valL ws 1), .i .i64 (valL ws 3), .i .i64 0, bD [] .nil ((lnsW ws (valL ws 1) (nW ws)).map lnR), .i .i64 0, .i .i64 0, .i .i64 0, .i .i64 0], a11], bH [] 4 ((lnsW ws (valL ws 1) (nW ws)).map lnR)⟩ (ResQ v11.res (PurK false fun r => r = .ret (if RightS (stmW ws) ∧ textT (stmW ws) = s then .tu [stD (stmW ws) (lsD (stmW ws).ls), .i .i64 0] else .tu [stD zS .nil, .i .i64 390]))) := fun a3 a4 a5 a9 a11 => by
      by_cases hR : RightS (stmW ws)
      · have e71r := fun {K} => e71 hR (K := K)
        rw [decide_eq_true hR] at e33
        by_cases hT : textT (stmW ws) = s
        · rw [if_pos ⟨hR, hT⟩]
          rw [hT] at e71r
          rw [hst] at e33 e71r ⊢
          simp only [stD] at e33 e71r
          simp (disch := omega) only [go_sem, Nat.reduceAdd, Nat.reduceLeDiff, v11tail, v11, wr, e1', i3, i5, i7, i9, e33, e71r, fz1, stD]
        · rw [if_neg (fun h => hT h.2)]
          have hT' : decide (textT (stmW ws) = s) = false := decide_eq_false hT
          rw [hst] at e33 e71r hT'
          simp only [stD] at e33 e71r
          simp (disch := omega) only [go_sem, Nat.reduceAdd, Nat.reduceLeDiff, v11tail, v11, wr, e1', i3, i5, i7, i9, e33, e71r, hT', stD, zS]
      · rw [decide_eq_false hR] at e33
        rw [if_neg (fun h => hR h.1)]
        rw [hst] at e33
        simp only [stD] at e33
        simp (disch := omega) only [go_sem, Nat.reduceAdd, Nat.reduceLeDiff, v11tail, v11, wr, e1', i3, i5, i7, i9, e33, stD, zS]
    by_cases hgt : a + 7 < ws.length
    · have b1 : decide ((a : Int) + 7 < (ws.length : Int)) = true := decide_eq_true (by omega)
      have g2 : ¬ ws[a]! = [109, 111, 110, 116, 104] := fun h => hng ⟨by omega, by rw [← ha]; exact h⟩
      have g3 : decide (ws[a]! = [109, 111, 110, 116, 104]) = false := decide_eq_false g2
      simp (disch := omega) only [go_sem, v11l1, wr, b1, hx.n, hx.q, strRow, g3]
      refine ⟨by omega, ?_⟩
      have := fin (.b false) a4 a5 a9 a11
      simp (disch := omega) only [go_sem, v11tail, v11, wr] at this
      exact this
    · have b1 : decide ((a : Int) + 7 < (ws.length : Int)) = false := decide_eq_false (by omega)
      simp (disch := omega) only [go_sem, v11l1, wr, b1, hx.n]
      have := fin (.b false) a4 a5 a9 a11
      simp (disch := omega) only [go_sem, v11tail, v11, wr] at this
      exact this
theorem c11w {s : List UInt8} (hl : s.length ≤ 3000) {H : Heap} {K : CR → Prop} : CallQ VS 11 [.s s] H K ↔ K (.ret (refD s) H) :=
  (read11 hl).c (vf := v11) rfl rfl rfl (.inl rfl)
end Go.Proofs.YtnhbopeopppojaaGreatDoor.Dv
