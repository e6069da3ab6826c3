/-
  The loops over the text of the example.
-/
import Derived.Test.YtnhbopeopppojaaGreatDoorXb
import Derived.Test.YtnhbopeopppojaaGreatDoorXa
namespace Go.Proofs.YtnhbopeopppojaaGreatDoor.Dv
open Go.Dm Go.Proofs
theorem e5 {t : List UInt8} (h : t.length ≤ 3000) {H : Heap} {K : CR → Prop} : CallQ VS3 5 [.s t] H K ↔ K (.ret (.b true) H) :=
  (PRet.pext (V := VS3) (vf := v5) rfl (by show (if t.length ≤ 3000 then some (D.b true) else none) = _; exact if_pos h)).c (vf := v5) rfl rfl rfl (.inl rfl)
theorem e6 {H : Heap} {K : CR → Prop} : CallQ VS3 6 [] H K ↔ K (.ret (.b true) H) :=
  (PRet.pext (V := VS3) (vf := v6) rfl rfl).c (vf := v6) rfl rfl rfl (.inl rfl)
def w4l0 (T : List UInt8) : VCode :=
 (.seq (.seq (.reg [⟨.mov (.s 14), none, none⟩,
 ⟨.mov (.s 15), none, none⟩,
 ⟨.len 0 (.l 1), none, none⟩,
 ⟨.bin .lss (.l 0) (.l 2), some 3, none⟩] none)
 (.cond (.s 3) .skip
 (.exit 2)))
 (.seq (.block 3 (.seq (.reg [⟨.mov (.s 13), none, none⟩,
 ⟨.sli true 0 (.c (.s T)) none (some (.l 0)) none, none, none⟩,
 ⟨.mov (.s 15), none, none⟩,
 ⟨.mov (.s 14), none, none⟩,
 ⟨.mov (.s 14), none, none⟩,
 ⟨.bin .add (.l 4) (.c (.i .i64 1)), none, none⟩,
 ⟨.sli true 0 (.l 2) (some (.l 3)) (some (.l 5)) none, none, none⟩,
 ⟨.bin .add (.l 1) (.l 6), none, none⟩,
 ⟨.mov (.s 13), none, none⟩,
 ⟨.sli true 0 (.c (.s T)) (some (.l 8)) none none, none, none⟩,
 ⟨.bin .add (.l 7) (.l 9), none, none⟩,
 ⟨.call 5 [(.l 10)], none, none⟩,
 ⟨.un .not (.l 11), none, none⟩,
 ⟨.mov (.l 12), none, none⟩,
 ⟨.mov (.s 13), none, some ((.l 13), false)⟩,
 ⟨.bin .lss (.l 14) (.c (.i .i64 151)), none, some ((.l 13), false)⟩,
 ⟨.mov (.l 15), none, some ((.l 13), false)⟩,
 ⟨.mov (.s 13), none, some ((.l 16), true)⟩,
 ⟨.sli true 0 (.c (.s T)) none (some (.l 17)) none, none, some ((.l 16), true)⟩,
 ⟨.mov (.s 15), none, some ((.l 16), true)⟩,
 ⟨.mov (.s 14), none, some ((.l 16), true)⟩,
 ⟨.mov (.s 14), none, some ((.l 16), true)⟩,
 ⟨.bin .add (.l 21) (.c (.i .i64 1)), none, some ((.l 16), true)⟩,
 ⟨.sli true 0 (.l 19) (some (.l 20)) (some (.l 22)) none, none, some ((.l 16), true)⟩,
 ⟨.bin .add (.l 18) (.l 23), none, some ((.l 16), true)⟩,
 ⟨.mov (.s 13), none, some ((.l 16), true)⟩,
 ⟨.bin .add (.l 25) (.c (.i .i64 1)), none, some ((.l 16), true)⟩,
 ⟨.sli true 0 (.c (.s T)) (some (.l 26)) none none, none, some ((.l 16), true)⟩,
 ⟨.bin .add (.l 24) (.l 27), none, some ((.l 16), true)⟩,
 ⟨.call 5 [(.l 28)], none, some ((.l 16), true)⟩,
 ⟨.un .not (.l 29), none, some ((.l 16), true)⟩,
 ⟨.pick (.l 16) (.l 30) (.c (.b false)), none, some ((.l 13), false)⟩,
 ⟨.pick (.l 13) (.c (.b true)) (.l 31), some 4, none⟩] (some false))
 (.cond (.s 4) (.seq (.reg [⟨.mov (.c (.b false)), some 0, none⟩] none)
 .ret)
 .skip)))
 (.reg [⟨.mov (.s 14), none, none⟩,
 ⟨.bin .add (.l 0) (.c (.i .i64 1)), none, none⟩,
 ⟨.mov (.l 1), some 14, none⟩] none)))
def w4l1 (T : List UInt8) : VCode :=
 (.seq (.seq (.reg [⟨.mov (.s 13), none, none⟩,
 ⟨.bin .leq (.l 0) (.c (.i .i64 151)), some 1, none⟩] none)
 (.cond (.s 1) .skip
 (.exit 0)))
 (.seq (.block 1 (.seq (.seq (.reg [⟨.mov (.s 13), none, none⟩,
 ⟨.sli true 0 (.c (.s T)) none (some (.l 0)) none, none, none⟩,
 ⟨.call 5 [(.l 1)], none, none⟩,
 ⟨.un .not (.l 2), none, none⟩,
 ⟨.mov (.l 3), none, none⟩,
 ⟨.mov (.s 13), none, some ((.l 4), false)⟩,
 ⟨.sli true 0 (.c (.s T)) (some (.l 5)) none none, none, some ((.l 4), false)⟩,
 ⟨.call 5 [(.l 6)], none, some ((.l 4), false)⟩,
 ⟨.un .not (.l 7), none, some ((.l 4), false)⟩,
 ⟨.pick (.l 4) (.c (.b true)) (.l 8), none, none⟩,
 ⟨.mov (.l 9), none, none⟩,
 ⟨.mov (.s 13), none, some ((.l 10), false)⟩,
 ⟨.bin .lss (.l 11) (.c (.i .i64 151)), none, some ((.l 10), false)⟩,
 ⟨.mov (.l 12), none, some ((.l 10), false)⟩,
 ⟨.mov (.s 13), none, some ((.l 13), true)⟩,
 ⟨.sli true 0 (.c (.s T)) none (some (.l 14)) none, none, some ((.l 13), true)⟩,
 ⟨.mov (.s 13), none, some ((.l 13), true)⟩,
 ⟨.bin .add (.l 16) (.c (.i .i64 1)), none, some ((.l 13), true)⟩,
 ⟨.sli true 0 (.c (.s T)) (some (.l 17)) none none, none, some ((.l 13), true)⟩,
 ⟨.bin .add (.l 15) (.l 18), none, some ((.l 13), true)⟩,
 ⟨.call 5 [(.l 19)], none, some ((.l 13), true)⟩,
 ⟨.un .not (.l 20), none, some ((.l 13), true)⟩,
 ⟨.mov (.l 21), none, some ((.l 13), true)⟩,
 ⟨.mov (.s 13), none, some ((.l 22), false)⟩,
 ⟨.bin .add (.l 23) (.c (.i .i64 1)), none, some ((.l 22), false)⟩,
 ⟨.sli true 0 (.c (.s T)) none (some (.l 24)) none, none, some ((.l 22), false)⟩,
 ⟨.mov (.s 13), none, some ((.l 22), false)⟩,
 ⟨.sli true 0 (.c (.s T)) (some (.l 26)) none none, none, some ((.l 22), false)⟩,
 ⟨.bin .add (.l 25) (.l 27), none, some ((.l 22), false)⟩,
 ⟨.call 5 [(.l 28)], none, some ((.l 22), false)⟩,
 ⟨.un .not (.l 29), none, some ((.l 22), false)⟩,
 ⟨.pick (.l 22) (.c (.b true)) (.l 30), none, some ((.l 13), true)⟩,
 ⟨.pick (.l 13) (.l 31) (.c (.b false)), none, some ((.l 10), false)⟩,
 ⟨.pick (.l 10) (.c (.b true)) (.l 32), some 2, none⟩] (some false))
 (.cond (.s 2) (.seq (.reg [⟨.mov (.c (.b false)), some 0, none⟩] none)
 .ret)
 .skip))
 (.seq (.reg [⟨.mov (.c (.i .i64 0)), some 14, none⟩] none)
 (.block 2 (.loop (w4l0 T))))))
 (.reg [⟨.mov (.s 13), none, none⟩,
 ⟨.bin .add (.l 0) (.c (.i .i64 1)), none, none⟩,
 ⟨.mov (.l 1), some 13, none⟩] none)))
theorem w4_eq : v4l1 = w4l1 exText := rfl
theorem loopK {T B : List UInt8} (hT : T.length = 151) (hB : B.length = 13) {i : Nat} (hi : i ≤ 151) {a1 a2 a3 a4 a5 a6 a7 a8 a9 a10 a11 a12 a16 a17 a18 a19 a20 a21 a22 : D} {Q : Ex → St → Prop}
    (hq : ∀ b3 b4, Q (.ex 2) ⟨[.b false, a1, a2, b3, b4, a5, a6, a7, a8, a9, a10, a11, a12, .i .i64 (i : Nat), .i .i64 13, .s B, a16, a17, a18, a19, a20, a21, a22], []⟩) :
    Run VS3 (.loop (w4l0 T)) ⟨[.b false, a1, a2, a3, a4, a5, a6, a7, a8, a9, a10, a11, a12, .i .i64 (i : Nat), .i .i64 0, .s B, a16, a17, a18, a19, a20, a21, a22], []⟩ Q := by
  refine Run.up (fun k st => ∃ b3 b4, st = ⟨[.b false, a1, a2, b3, b4, a5, a6, a7, a8, a9, a10, a11, a12, .i .i64 (i : Nat), .i .i64 (k : Nat), .s B, a16, a17, a18, a19, a20, a21, a22], []⟩) 13 ⟨_, _, rfl⟩ ?_
  rintro k st hk ⟨b3, b4, rfl⟩
  by_cases hlt : k < 13
  · have c1 : decide ((k : Int) < (B.length : Int)) = true := decide_eq_true (by omega)
    by_cases hi2 : i < 151
    · have c2 : decide ((i : Int) < 151) = true := decide_eq_true (by omega)
      simp (disch := (first | omega | (simp only [List.length_append, List.length_take, List.length_drop]; omega))) only [go_sem, w4l0, wr, e5, c1, c2]
      repeat' first | (refine And.intro ?_ ?_) | intro _
      all_goals first | omega | (simp only [List.length_take, List.length_drop]; omega)
    · have c2 : decide ((i : Int) < 151) = false := decide_eq_false (by omega)
      simp (disch := (first | omega | (simp only [List.length_append, List.length_take, List.length_drop]; omega))) only [go_sem, w4l0, wr, e5, c1, c2]
      repeat' first | (refine And.intro ?_ ?_) | intro _
      all_goals first | omega | (simp only [List.length_take, List.length_drop]; omega)
  · have hk13 : k = 13 := by omega
    subst hk13
    have c1 : decide ((13 : Int) < (B.length : Int)) = false := decide_eq_false (by omega)
    simp only [go_sem, Nat.reduceAdd, Nat.reduceLT, w4l0, c1]
    exact hq _ _
structure T4 (B : List UInt8) (i : Nat) (st : St) : Prop where
  h : ∃ b1 b2 b3 b4 b5 b6 b7 b8 b9 b10 b11 b12 b14 b16 b17 b18 b19 b20 b21 b22, st = ⟨[.b false, b1, b2, b3, b4, b5, b6, b7, b8, b9, b10, b11, b12, .i .i64 (i : Nat), b14, .s B, b16, b17, b18, b19, b20, b21, b22], []⟩
theorem loopT {T B : List UInt8} (hT : T.length = 151) (hB : B.length = 13) {st : St} (hs : T4 B 0 st) {Q : Ex → St → Prop} (hq : ∀ st, T4 B 152 st → Q (.ex 0) st) : Run VS3 (.loop (w4l1 T)) st Q := by
  refine Run.up (fun i st => T4 B i st) 152 hs ?_
  rintro i st hi ⟨b1, b2, b3, b4, b5, b6, b7, b8, b9, b10, b11, b12, b14, b16, b17, b18, b19, b20, b21, b22, rfl⟩
  by_cases hlt : i < 152
  · have c1 : decide ((i : Int) ≤ 151) = true := decide_eq_true (by omega)
    by_cases hi2 : i < 151
    · have c2 : decide ((i : Int) < 151) = true := decide_eq_true (by omega)
      simp (disch := (first | omega | (simp only [List.length_append, List.length_take, List.length_drop]; omega))) only [go_sem, w4l1, wr, e5, c1, c2]
      repeat' refine And.intro ?_ ?_
      all_goals first | omega | (simp only [List.length_take, List.length_drop]; omega) | skip
      refine loopK hT hB (by omega) fun b3 b4 => ?_
      simp (disch := omega) only [go_sem, Nat.reduceEqDiff, wr]
      first | exact ⟨hlt, ⟨⟨_, _, _, _, _, _, _, _, _, _, _, _, _, _, _, _, _, _, _, _, rfl⟩⟩⟩ | exact ⟨⟨_, _, _, _, _, _, _, _, _, _, _, _, _, _, _, _, _, _, _, _, rfl⟩⟩
    · have c2 : decide ((i : Int) < 151) = false := decide_eq_false (by omega)
      simp (disch := (first | omega | (simp only [List.length_append, List.length_take, List.length_drop]; omega))) only [go_sem, w4l1, e5, c1, c2]
      repeat' refine And.intro ?_ ?_
      all_goals first | omega | (simp only [List.length_append, List.length_take, List.length_drop]; omega) | skip
      refine loopK hT hB (by omega) fun b3 b4 => ?_
      simp (disch := omega) only [go_sem, Nat.reduceEqDiff, wr]
      first | exact ⟨hlt, ⟨⟨_, _, _, _, _, _, _, _, _, _, _, _, _, _, _, _, _, _, _, _, rfl⟩⟩⟩ | exact ⟨⟨_, _, _, _, _, _, _, _, _, _, _, _, _, _, _, _, _, _, _, _, rfl⟩⟩
  · have hi152 : i = 152 := by omega
    subst hi152
    simp only [go_sem, Nat.reduceAdd, Nat.reduceLT, Int.reduceLE, w4l1]
    exact hq _ ⟨⟨_, _, _, _, _, _, _, _, _, _, _, _, _, _, _, _, _, _, _, _, rfl⟩⟩
theorem loopL {L : List (List UInt8)} (hl : L.length ≤ 10) (hw : ∀ w ∈ L, w.length ≤ 100) {i k : Nat} (hi : i < L.length) (hk : k < L.length) {b1 b2 b3 b4 b5 b6 b7 b8 b9 b10 b11 b12 b13 b14 b15 b22 : D} {Q : Ex → St → Prop}
    (hq : ∀ (s t : List UInt8) (a1 a2 a3 a4 a5 a6 a7 a8 a9 a10 a11 a12 a13 a14 a15 a22 : D), s.length ≤ 3000 → t.length ≤ 3000 → Q (.ex 8) ⟨[.b false, a1, a2, a3, a4, a5, a6, a7, a8, a9, a10, a11, a12, a13, a14, a15, .i .i64 (i : Nat), .im 1 (L.map strRow), .i .i64 (k : Nat), .s s, .s t, .i .i64 (L.length : Nat), a22], []⟩) :
    Run VS3 (.loop v4l2) ⟨[.b false, b1, b2, b3, b4, b5, b6, b7, b8, b9, b10, b11, b12, b13, b14, b15, .i .i64 (i : Nat), .im 1 (L.map strRow), .i .i64 (k : Nat), .s [], .s [], .i .i64 0, b22], []⟩ Q := by
  have hx : Sl 1 (L.map strRow) (.im 1 (L.map strRow)) := .im
  have hg : ∀ j, j < L.length → L[j]!.length ≤ 100 := fun j hj => by rw [getElem!_pos L j hj]; exact hw _ (List.getElem_mem _)
  refine Run.up (fun n st => ∃ (s t : List UInt8) (a1 a2 a3 a4 a5 a6 a7 a8 a9 a10 a11 a12 a13 a14 a15 a22 : D), s.length ≤ 100 * n ∧ t.length ≤ 200 * n ∧ st = ⟨[.b false, a1, a2, a3, a4, a5, a6, a7, a8, a9, a10, a11, a12, a13, a14, a15, .i .i64 (i : Nat), .im 1 (L.map strRow), .i .i64 (k : Nat), .s s, .s t, .i .i64 (n : Nat), a22], []⟩) L.length ⟨[], [], _, _, _, _, _, _, _, _, _, _, _, _, _, _, _, _, by simp, by simp, rfl⟩ ?_
  rintro n st hn ⟨s, t, a1, a2, a3, a4, a5, a6, a7, a8, a9, a10, a11, a12, a13, a14, a15, a22, hs, ht, rfl⟩
  by_cases hlt : n < L.length
  · have c1 : decide ((n : Int) < (L.length : Int)) = true := decide_eq_true (by omega)
    have g1 := hg i hi
    have g2 := hg k hk
    have g3 := hg n hlt
    by_cases hni : n = i <;> by_cases hnk : n = k
    · have c2 : decide ((n : Int) = (i : Int)) = true := decide_eq_true (by omega)
      have c3 : decide ((n : Int) = (k : Int)) = true := decide_eq_true (by omega)
      simp (disch := omega) only [go_sem, v4l2, wr, hx.n, hx.q, strRow, c1, c2, c3]
      repeat' refine And.intro ?_ ?_
      all_goals first | omega | (refine ⟨_, ?_, _, ?_, rfl, rfl⟩ <;> first | omega | (simp only [List.length_append]; omega))
    · have c2 : decide ((n : Int) = (i : Int)) = true := decide_eq_true (by omega)
      have c3 : decide ((n : Int) = (k : Int)) = false := decide_eq_false (by omega)
      simp (disch := omega) only [go_sem, v4l2, wr, hx.n, hx.q, strRow, c1, c2, c3]
      repeat' refine And.intro ?_ ?_
      all_goals first | omega | (refine ⟨_, ?_, _, ?_, rfl, rfl⟩ <;> first | omega | (simp only [List.length_append]; omega))
    · have c2 : decide ((n : Int) = (i : Int)) = false := decide_eq_false (by omega)
      have c3 : decide ((n : Int) = (k : Int)) = true := decide_eq_true (by omega)
      simp (disch := omega) only [go_sem, v4l2, wr, hx.n, hx.q, strRow, c1, c2, c3]
      repeat' refine And.intro ?_ ?_
      all_goals first | omega | (refine ⟨_, ?_, _, ?_, rfl, rfl⟩ <;> first | omega | (simp only [List.length_append]; omega))
    · have c2 : decide ((n : Int) = (i : Int)) = false := decide_eq_false (by omega)
      have c3 : decide ((n : Int) = (k : Int)) = false := decide_eq_false (by omega)
      simp (disch := omega) only [go_sem, v4l2, wr, hx.n, hx.q, strRow, c1, c2, c3]
      repeat' refine And.intro ?_ ?_
      all_goals first | omega | (refine ⟨_, ?_, _, ?_, rfl, rfl⟩ <;> first | omega | (simp only [List.length_append]; omega))
  · have : n = L.length := by omega
    subst this
    have c1 : decide (((L.length : Nat) : Int) < (L.length : Int)) = false := decide_eq_false (by omega)
    simp only [go_sem, v4l2, hx.n, c1]
    exact hq _ _ _ _ _ _ _ _ _ _ _ _ _ _ _ _ _ _ (by omega) (by omega)
structure TK (L : List (List UInt8)) (i k : Nat) (st : St) : Prop where
  h : ∃ b1 b2 b3 b4 b5 b6 b7 b8 b9 b10 b11 b12 b13 b14 b15 b19 b20 b21 b22, st = ⟨[.b false, b1, b2, b3, b4, b5, b6, b7, b8, b9, b10, b11, b12, b13, b14, b15, .i .i64 (i : Nat), .im 1 (L.map strRow), .i .i64 (k : Nat), b19, b20, b21, b22], []⟩
structure TI (L : List (List UInt8)) (i : Nat) (st : St) : Prop where
  h : ∃ b1 b2 b3 b4 b5 b6 b7 b8 b9 b10 b11 b12 b13 b14 b15 b18 b19 b20 b21 b22, st = ⟨[.b false, b1, b2, b3, b4, b5, b6, b7, b8, b9, b10, b11, b12, b13, b14, b15, .i .i64 (i : Nat), .im 1 (L.map strRow), b18, b19, b20, b21, b22], []⟩
theorem loopA {L : List (List UInt8)} (hl : L.length ≤ 10) (hw : ∀ w ∈ L, w.length ≤ 100) {i : Nat} (hi : i < L.length) {st : St} (hs : TK L i 0 st) {Q : Ex → St → Prop} (hq : ∀ st, TK L i L.length st → Q (.ex 6) st) : Run VS3 (.loop v4l3) st Q := by
  have hx : Sl 1 (L.map strRow) (.im 1 (L.map strRow)) := .im
  refine Run.up (fun k st => TK L i k st) L.length hs ?_
  rintro k st hk ⟨b1, b2, b3, b4, b5, b6, b7, b8, b9, b10, b11, b12, b13, b14, b15, b19, b20, b21, b22, rfl⟩
  by_cases hlt : k < L.length
  · have c1 : decide ((k : Int) < (L.length : Int)) = true := decide_eq_true (by omega)
    simp only [go_sem, v4l3, hx.n, c1]
    refine loopL hl hw hi hlt fun s t c1 c2 c3 c4 c5 c6 c7 c8 c9 c10 c11 c12 c13 c14 c15 c22 hs ht => ?_
    simp (disch := omega) only [go_sem, Nat.reduceEqDiff, wr, e5]
    exact ⟨hlt, ⟨_, _, _, _, _, _, _, _, _, _, _, _, _, _, _, _, _, _, _, rfl⟩⟩
  · have : k = L.length := by omega
    subst this
    have c1 : decide (((L.length : Nat) : Int) < (L.length : Int)) = false := decide_eq_false (by omega)
    simp only [go_sem, v4l3, hx.n, c1]
    exact hq _ ⟨⟨_, _, _, _, _, _, _, _, _, _, _, _, _, _, _, _, _, _, _, rfl⟩⟩
theorem loopB {L : List (List UInt8)} (hl : L.length ≤ 10) (hw : ∀ w ∈ L, w.length ≤ 100) {st : St} (hs : TI L 0 st) {Q : Ex → St → Prop} (hq : ∀ st, TI L L.length st → Q (.ex 4) st) : Run VS3 (.loop v4l4) st Q := by
  have hx : Sl 1 (L.map strRow) (.im 1 (L.map strRow)) := .im
  refine Run.up (fun i st => TI L i st) L.length hs ?_
  rintro i st hi ⟨b1, b2, b3, b4, b5, b6, b7, b8, b9, b10, b11, b12, b13, b14, b15, b18, b19, b20, b21, b22, rfl⟩
  by_cases hlt : i < L.length
  · have c1 : decide ((i : Int) < (L.length : Int)) = true := decide_eq_true (by omega)
    simp only [go_sem, v4l4, hx.n, c1]
    refine loopA hl hw hlt ⟨⟨_, _, _, _, _, _, _, _, _, _, _, _, _, _, _, _, _, _, _, rfl⟩⟩ fun st hs => ?_
    obtain ⟨b1, b2, b3, b4, b5, b6, b7, b8, b9, b10, b11, b12, b13, b14, b15, b19, b20, b21, b22, rfl⟩ := hs
    simp (disch := omega) only [go_sem, Nat.reduceEqDiff, wr]
    exact ⟨hlt, ⟨_, _, _, _, _, _, _, _, _, _, _, _, _, _, _, _, _, _, _, _, rfl⟩⟩
  · have : i = L.length := by omega
    subst this
    have c1 : decide (((L.length : Nat) : Int) < (L.length : Int)) = false := decide_eq_false (by omega)
    simp only [go_sem, v4l4, hx.n, c1]
    exact hq _ ⟨⟨_, _, _, _, _, _, _, _, _, _, _, _, _, _, _, _, _, _, _, _, rfl⟩⟩
theorem c7 {H : Heap} {K : CR → Prop} : CallQ VS3 7 [.s exText] H K ↔ K (.ret (.im 1 (exLines.map strRow)) H) :=
  PRet.c (vf := v7) ⟨_, linesRun⟩ rfl rfl rfl (.inl rfl)
theorem c9 {H : Heap} {K : CR → Prop} : CallQ VS3 9 [] H K ↔ K (.ret (.b true) H) :=
  PRet.c (vf := v9) ⟨_, yearsRun⟩ rfl rfl rfl (.inl rfl)
theorem law4s : PRet VS3 4 [] (.b true) := by
  have e7 := fun {H K} => c7 (H := H) (K := K)
  refine .body (vf := v4) rfl rfl ?_
  simp only [go_sem, v4, w4_eq]
  refine loopT rfl rfl ⟨⟨_, _, _, _, _, _, _, _, _, _, _, _, _, _, _, _, _, _, _, _, rfl⟩⟩ fun st hs => ?_
  obtain ⟨b1, b2, b3, b4, b5, b6, b7, b8, b9, b10, b11, b12, b14, b16, b17, b18, b19, b20, b21, b22, rfl⟩ := hs
  simp only [go_sem, e7]
  refine loopB (by decide) (by decide) ⟨⟨_, _, _, _, _, _, _, _, _, _, _, _, _, _, _, _, _, _, _, _, rfl⟩⟩ fun st hs => ?_
  obtain ⟨b1, b2, b3, b4, b5, b6, b7, b8, b9, b10, b11, b12, b13, b14, b15, b18, b19, b20, b21, b22, rfl⟩ := hs
  simp only [go_sem, c8, c9, e6]
end Go.Proofs.YtnhbopeopppojaaGreatDoor.Dv
