/-
  The reference's Month and Text over the machine.
-/
import Derived.Test.YtnhbopeopppojaaGreatDoorSo
import Derived.Test.YtnhbopeopppojaaGreatDoorSp
namespace Go.Proofs.YtnhbopeopppojaaGreatDoor.Dv
open Go.Dm Go.Proofs

structure MonP (r day : Int) (t : List UInt8) : Prop where
  a : PRet VS 51 [.i .i64 r] (.tu [.i .i64 day, .i .i64 0])
  b : PRet VS 53 [.i .i64 day] (.s t)
  n : t.length = 10
  e : (t.take 7).drop 4 = [45] ++ pad2 (Lib.itoa (r + 1))
theorem fst0 : pcall VS 60 51 [.i .i64 0] = .ret (.tu [.i .i64 0, .i .i64 0]) := by kernel_rfl
theorem mtx0 : pcall VS 60 53 [.i .i64 0] = .ret (.s [49, 57, 48, 48, 45, 48, 49, 45, 48, 49]) := by kernel_rfl
theorem itm0 : Lib.itoa (0 + 1) = [49] := by simp [Lib.itoa, Lib.decDigits]
theorem fst1 : pcall VS 60 51 [.i .i64 1] = .ret (.tu [.i .i64 31, .i .i64 0]) := by kernel_rfl
theorem mtx1 : pcall VS 60 53 [.i .i64 31] = .ret (.s [49, 57, 48, 48, 45, 48, 50, 45, 48, 49]) := by kernel_rfl
theorem itm1 : Lib.itoa (1 + 1) = [50] := by simp [Lib.itoa, Lib.decDigits]
theorem fst2 : pcall VS 60 51 [.i .i64 2] = .ret (.tu [.i .i64 59, .i .i64 0]) := by kernel_rfl
theorem mtx2 : pcall VS 60 53 [.i .i64 59] = .ret (.s [49, 57, 48, 48, 45, 48, 51, 45, 48, 49]) := by kernel_rfl
theorem itm2 : Lib.itoa (2 + 1) = [51] := by simp [Lib.itoa, Lib.decDigits]
theorem fst3 : pcall VS 60 51 [.i .i64 3] = .ret (.tu [.i .i64 90, .i .i64 0]) := by kernel_rfl
theorem mtx3 : pcall VS 60 53 [.i .i64 90] = .ret (.s [49, 57, 48, 48, 45, 48, 52, 45, 48, 49]) := by kernel_rfl
theorem itm3 : Lib.itoa (3 + 1) = [52] := by simp [Lib.itoa, Lib.decDigits]
theorem fst4 : pcall VS 60 51 [.i .i64 4] = .ret (.tu [.i .i64 120, .i .i64 0]) := by kernel_rfl
theorem mtx4 : pcall VS 60 53 [.i .i64 120] = .ret (.s [49, 57, 48, 48, 45, 48, 53, 45, 48, 49]) := by kernel_rfl
theorem itm4 : Lib.itoa (4 + 1) = [53] := by simp [Lib.itoa, Lib.decDigits]
theorem fst5 : pcall VS 60 51 [.i .i64 5] = .ret (.tu [.i .i64 151, .i .i64 0]) := by kernel_rfl
theorem mtx5 : pcall VS 60 53 [.i .i64 151] = .ret (.s [49, 57, 48, 48, 45, 48, 54, 45, 48, 49]) := by kernel_rfl
theorem itm5 : Lib.itoa (5 + 1) = [54] := by simp [Lib.itoa, Lib.decDigits]
theorem fst6 : pcall VS 60 51 [.i .i64 6] = .ret (.tu [.i .i64 181, .i .i64 0]) := by kernel_rfl
theorem mtx6 : pcall VS 60 53 [.i .i64 181] = .ret (.s [49, 57, 48, 48, 45, 48, 55, 45, 48, 49]) := by kernel_rfl
theorem itm6 : Lib.itoa (6 + 1) = [55] := by simp [Lib.itoa, Lib.decDigits]
theorem fst7 : pcall VS 60 51 [.i .i64 7] = .ret (.tu [.i .i64 212, .i .i64 0]) := by kernel_rfl
theorem mtx7 : pcall VS 60 53 [.i .i64 212] = .ret (.s [49, 57, 48, 48, 45, 48, 56, 45, 48, 49]) := by kernel_rfl
theorem itm7 : Lib.itoa (7 + 1) = [56] := by simp [Lib.itoa, Lib.decDigits]
theorem fst8 : pcall VS 60 51 [.i .i64 8] = .ret (.tu [.i .i64 243, .i .i64 0]) := by kernel_rfl
theorem mtx8 : pcall VS 60 53 [.i .i64 243] = .ret (.s [49, 57, 48, 48, 45, 48, 57, 45, 48, 49]) := by kernel_rfl
theorem itm8 : Lib.itoa (8 + 1) = [57] := by simp [Lib.itoa, Lib.decDigits]
theorem fst9 : pcall VS 60 51 [.i .i64 9] = .ret (.tu [.i .i64 273, .i .i64 0]) := by kernel_rfl
theorem mtx9 : pcall VS 60 53 [.i .i64 273] = .ret (.s [49, 57, 48, 48, 45, 49, 48, 45, 48, 49]) := by kernel_rfl
theorem itm9 : Lib.itoa (9 + 1) = [49, 48] := by simp [Lib.itoa, Lib.decDigits]
theorem fst10 : pcall VS 60 51 [.i .i64 10] = .ret (.tu [.i .i64 304, .i .i64 0]) := by kernel_rfl
theorem mtx10 : pcall VS 60 53 [.i .i64 304] = .ret (.s [49, 57, 48, 48, 45, 49, 49, 45, 48, 49]) := by kernel_rfl
theorem itm10 : Lib.itoa (10 + 1) = [49, 49] := by simp [Lib.itoa, Lib.decDigits]
theorem fst11 : pcall VS 60 51 [.i .i64 11] = .ret (.tu [.i .i64 334, .i .i64 0]) := by kernel_rfl
theorem mtx11 : pcall VS 60 53 [.i .i64 334] = .ret (.s [49, 57, 48, 48, 45, 49, 50, 45, 48, 49]) := by kernel_rfl
theorem itm11 : Lib.itoa (11 + 1) = [49, 50] := by simp [Lib.itoa, Lib.decDigits]
theorem mon_p {r : Int} (h0 : 0 ≤ r) (h1 : r < 12) : ∃ day t, MonP r day t := by
  rcases (by omega : r = 0 ∨ r = 1 ∨ r = 2 ∨ r = 3 ∨ r = 4 ∨ r = 5 ∨ r = 6 ∨ r = 7 ∨ r = 8 ∨ r = 9 ∨ r = 10 ∨ r = 11) with rfl | rfl | rfl | rfl | rfl | rfl | rfl | rfl | rfl | rfl | rfl | rfl
  · exact ⟨_, _, ⟨60, fst0⟩, ⟨60, mtx0⟩, rfl, by rw [itm0]; rfl⟩
  · exact ⟨_, _, ⟨60, fst1⟩, ⟨60, mtx1⟩, rfl, by rw [itm1]; rfl⟩
  · exact ⟨_, _, ⟨60, fst2⟩, ⟨60, mtx2⟩, rfl, by rw [itm2]; rfl⟩
  · exact ⟨_, _, ⟨60, fst3⟩, ⟨60, mtx3⟩, rfl, by rw [itm3]; rfl⟩
  · exact ⟨_, _, ⟨60, fst4⟩, ⟨60, mtx4⟩, rfl, by rw [itm4]; rfl⟩
  · exact ⟨_, _, ⟨60, fst5⟩, ⟨60, mtx5⟩, rfl, by rw [itm5]; rfl⟩
  · exact ⟨_, _, ⟨60, fst6⟩, ⟨60, mtx6⟩, rfl, by rw [itm6]; rfl⟩
  · exact ⟨_, _, ⟨60, fst7⟩, ⟨60, mtx7⟩, rfl, by rw [itm7]; rfl⟩
  · exact ⟨_, _, ⟨60, fst8⟩, ⟨60, mtx8⟩, rfl, by rw [itm8]; rfl⟩
  · exact ⟨_, _, ⟨60, fst9⟩, ⟨60, mtx9⟩, rfl, by rw [itm9]; rfl⟩
  · exact ⟨_, _, ⟨60, fst10⟩, ⟨60, mtx10⟩, rfl, by rw [itm10]; rfl⟩
  · exact ⟨_, _, ⟨60, fst11⟩, ⟨60, mtx11⟩, rfl, by rw [itm11]; rfl⟩
theorem month84 {m : Int} (h : 0 ≤ m ∧ m ≤ 9223372036854775807) : PRet VS 22 [.i .i64 m] (.s (monT m)) := by
  refine .body (vf := v22) rfl rfl ?_
  have e : m.tmod 12 = m % 12 := Int.tmod_eq_emod_of_nonneg h.1
  have e2 : m.tdiv 12 = m / 12 := Int.tdiv_eq_ediv_of_nonneg h.1
  obtain ⟨day, t, p⟩ := mon_p (r := m % 12) (by omega) (by omega)
  have e97 := fun {H K} => p.a.c (vf := v51) rfl rfl rfl (.inl rfl) (H := H) (K := K)
  have e98 := fun {H K} => p.b.c (vf := v53) rfl rfl rfl (.inl rfl) (H := H) (K := K)
  have hy : i64r (1900 + m / 12) := ⟨by omega, by omega⟩
  have l1 := Lib.itoa_length_le _ hy.1 hy.2
  have hn := p.n
  simp (disch := omega) only [go_sem, Nat.reduceSub, Int.reduceLE, Int.reduceEq, Int.reduceToNat, v22, e, e2, wr, e97, e98, c83 hy, hn]
  rw [p.e]
  have e3 : monT m = Lib.itoa (1900 + m / 12) ++ ([45] ++ pad2 (Lib.itoa (m % 12 + 1))) := by rw [monT, yOf, e2, List.append_assoc]
  have l2 : ([45] ++ pad2 (Lib.itoa (m % 12 + 1))).length ≤ 1000 := by
    have := monT_len h
    rw [e3, List.length_append] at this
    omega
  exact ⟨by omega, e3.symm⟩
theorem c84 {m : Int} (h : 0 ≤ m ∧ m ≤ 9223372036854775807) {H : Heap} {K : CR → Prop} : CallQ VS 22 [.i .i64 m] H K ↔ K (.ret (.s (monT m)) H) :=
  (month84 h).c (vf := v22) rfl rfl rfl (.inl rfl)
theorem nr_it {n : Int} (h : nr n = true) : (Lib.itoa n).length ≤ 21 := by
  have := i64_nr h
  exact Lib.itoa_length_le n this.1 this.2
theorem write71 {s : Stm} {d : D} (h : IsStm s d) (r : RightS s) : PRet VS 24 [d] (.s (textT s)) := by
  obtain ⟨⟨x, rfl, h⟩⟩ := h
  refine .body (vf := v24) rfl rfl ?_
  have hs := r.sums
  simp only [Bool.and_eq_true] at hs
  obtain ⟨⟨⟨⟨⟨sb, sa⟩, sg⟩, st⟩, sn⟩, si⟩ := hs
  have sy : nr s.y = true := r.fine.y
  have lb := nr_it sb
  have la := nr_it sa
  have lg := nr_it sg
  have lt := nr_it st
  have ln := nr_it sn
  have li := nr_it si
  have ly := nr_it sy
  have ehd : headT s = [115, 116, 97, 116, 101, 109, 101, 110, 116, 32] ++ Lib.itoa s.y ++ [10, 98, 101, 102, 111, 114, 101, 32] ++ Lib.itoa s.b ++ [10] := by
    simp [headT, lineT, wdT, join2, kStatement, kBefore]
  have hhd : (headT s).length ≤ 1000 := by rw [ehd]; simp; omega
  simp (disch := omega) only [go_sem, Nat.reduceAdd, Nat.reduceSub, Nat.reduceLeDiff, v24, stD, c83 (i64_nr sy), c83 (i64_nr sb)]
  refine ⟨by omega, by omega, by omega, by omega, ?_⟩
  refine Run.up (fun i st => ∃ a2 a6, st = ⟨[.ag [.i .i64 s.y, .i .i64 s.b, .i .i64 s.a, x, .i .i64 s.g, .i .i64 s.t, .i .i64 s.n, .i .i64 s.i], .s [], a2, .bx [.i .i64 s.y, .i .i64 s.b, .i .i64 s.a, x, .i .i64 s.g, .i .i64 s.t, .i .i64 s.n, .i .i64 s.i], .s (headT s ++ lnsT s.ls i), .i .i64 i, a6], []⟩) s.ls.length ⟨.u, .u, ?_⟩ ?_
  · rw [ehd]; simp [lnsT]
  rintro i st' hi ⟨a2, a6, rfl⟩
  have hln := lnsT_len r i hi
  have h12 := r.len
  have hbase : (headT s ++ lnsT s.ls i).length ≤ 130000 := by rw [List.length_append]; omega
  by_cases hlt : i < s.ls.length
  · have hlt' : decide ((i : Int) < (s.ls.length : Int)) = true := by simpa using hlt
    have hf := r.fit hlt
    have hfi := r.fine.ls s.ls[i]! (by rw [getElem!_pos s.ls i hlt]; exact List.getElem_mem _)
    have l1 := nr_it hfi.d
    have l2 := nr_it hfi.p
    have l3 := nr_it hfi.o
    have l4 := monT_len hf.m
    have etot : headT s ++ lnsT s.ls (i + 1) = headT s ++ lnsT s.ls i ++ lnT s.ls[i]! := by rw [lnsT_succ hlt, List.append_assoc]
    rw [etot]
    have elx : lnT s.ls[i]! = [109, 111, 110, 116, 104, 32] ++ monT s.ls[i]!.m ++ [32, 100, 117, 101, 32] ++ Lib.itoa s.ls[i]!.d ++ [32, 112, 111, 115, 116, 101, 100, 32] ++ Lib.itoa s.ls[i]!.p ++ [32, 111, 112, 101, 110, 32] ++ Lib.itoa s.ls[i]!.o ++ [10] := by
      simp [lnT, lineT, wdT, join8, kMonth, kDue, kPosted, kOpen]
    rw [elx]
    generalize headT s ++ lnsT s.ls i = T at hbase
    simp (disch := omega) only [go_sem, Nat.reduceAdd, Nat.reduceLeDiff, v24l0, h.n, h.q, lnR, hlt', wr, c84 hf.m, c83 hf.d, c83 hf.p, c83 hf.o]
    repeat' first | (refine And.intro ?_ ?_) | intro _
    all_goals first | omega | simp
  · have : i = s.ls.length := by omega
    subst this
    have hlt' : decide ((s.ls.length : Int) < (s.ls.length : Int)) = false := by simp
    have etx : textT s = headT s ++ lnsT s.ls s.ls.length ++ [103, 114, 111, 115, 115, 32] ++ Lib.itoa s.g ++ [32, 116, 97, 120, 32] ++ Lib.itoa s.t ++ [32, 110, 101, 116, 32] ++ Lib.itoa s.n ++ [32, 105, 110, 116, 101, 114, 101, 115, 116, 32] ++ Lib.itoa s.i ++ [10, 97, 102, 116, 101, 114, 32] ++ Lib.itoa s.a ++ [10] := by
      simp [textT, lineT, wdT, join2, join8, kGross, kTax, kNet, kInterest, kAfter]
    rw [etx]
    generalize headT s ++ lnsT s.ls s.ls.length = T at hbase
    simp (disch := omega) only [go_sem, Nat.reduceAdd, Nat.reduceLeDiff, v24l0, h.n, hlt', c83 (i64_nr sg), c83 (i64_nr st), c83 (i64_nr sn), c83 (i64_nr si), c83 (i64_nr sa)]
    repeat' first | (refine And.intro ?_ ?_) | intro _
    all_goals first | omega | simp
theorem c71 {s : Stm} {d : D} (h : IsStm s d) (r : RightS s) {H : Heap} {K : CR → Prop} : CallQ VS 24 [d] H K ↔ K (.ret (.s (textT s)) H) :=
  (write71 h r).c (vf := v24) rfl rfl (by simp [h.plain]) (.inl rfl)
theorem text32 {s : Stm} {d : D} (h : IsStm s d) (hr : Rng s) (hl : s.ls.length ≤ 1000) : PRet VS 42 [d] (.tu [.s (if RightS s then textT s else []), .i .i64 (if RightS s then 0 else 2)]) := by
  obtain ⟨⟨x, rfl, hx⟩⟩ := h
  have h : IsStm s (stD s x) := ⟨⟨x, rfl, hx⟩⟩
  refine .body (vf := v42) rfl rfl ?_
  have e33 := fun {H K} => c33 h hr hl (H := H) (K := K)
  simp only [stD] at e33
  by_cases r : RightS s
  · have e71 := fun {H K} => c71 h r (H := H) (K := K)
    simp only [stD] at e71
    simp only [go_sem, Nat.reduceAdd, Nat.reduceSub, v42, stD, e33, e71, r]
  · simp only [go_sem, Nat.reduceAdd, Nat.reduceSub, v42, stD, e33, r]
theorem c32 {s : Stm} {d : D} (h : IsStm s d) (hr : Rng s) (hl : s.ls.length ≤ 1000) {H : Heap} {K : CR → Prop} : CallQ VS 42 [d] H K ↔ K (.ret (.tu [.s (if RightS s then textT s else []), .i .i64 (if RightS s then 0 else 2)]) H) :=
  (text32 h hr hl).c (vf := v42) rfl rfl (by simp [h.plain]) (.inl rfl)
end Go.Proofs.YtnhbopeopppojaaGreatDoor.Dv
