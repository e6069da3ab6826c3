/-
  Statements with each number about the limits.
-/
import Derived.Test.YtnhbopeopppojaaGreatDoorXa
namespace Go.Proofs.YtnhbopeopppojaaGreatDoor.Dv
open Go.Dm Go.Proofs
theorem e11 {H : Heap} {K : CR → Prop} : CallQ VS3 11 [.s exText] H K ↔ K (.ret (.tu [.ag [.i .i64 2025, .i .i64 0, .i .i64 80, .mu H.length 2 0 2, .i .i64 120, .i .i64 20, .i .i64 100, .i .i64 0], .i .i64 0]) (H ++ [.ar 4 [[.i .i64 1501, .i .i64 100, .i .i64 120, .i .i64 (-20)], [.i .i64 1502, .i .i64 100, .i .i64 0, .i .i64 100]] none true false])) := by
  rw [CallQ_p (vf := own2 11 v11) (H1 := H) rfl rfl (PRet.pext (V := VS3) (vf := own2 11 v11) (d := exStm) rfl (by show (if exText = exText then some exStm else none) = _; exact if_pos rfl)) (plain_freezeL (by simp [D.plain, D.flat]))]
  exact Iff.rfl
section
variable {H : Heap} {K : CR → Prop} {y b a g t n i m0 d0 p0 o0 m1 d1 p1 o1 : Int} {lk : Bool}
theorem fz2 {rows : List (List D)} (hl : rows.length = 2) (m : Nat) : Dm.freeze (m + 1) (H ++ [.ar 4 rows none true lk]) (.mu H.length 2 0 2) = some (.im 4 rows, H ++ [.ar 4 rows none true true]) := by
  simp [fz_mu, arr, fzM, hl, List.take_of_length_le]
theorem fzs : freezeL deep (H ++ [.ar 4 [[.i .i64 m0, .i .i64 d0, .i .i64 p0, .i .i64 o0], [.i .i64 m1, .i .i64 d1, .i .i64 p1, .i .i64 o1]] none true lk]) [.ag [.i .i64 y, .i .i64 b, .i .i64 a, .mu H.length 2 0 2, .i .i64 g, .i .i64 t, .i .i64 n, .i .i64 i]] = some ([.ag [.i .i64 y, .i .i64 b, .i .i64 a, .im 4 [[.i .i64 m0, .i .i64 d0, .i .i64 p0, .i .i64 o0], [.i .i64 m1, .i .i64 d1, .i .i64 p1, .i .i64 o1]], .i .i64 g, .i .i64 t, .i .i64 n, .i .i64 i]], H ++ [.ar 4 [[.i .i64 m0, .i .i64 d0, .i .i64 p0, .i .i64 o0], [.i .i64 m1, .i .i64 d1, .i .i64 p1, .i .i64 o1]] none true true]) := by
  have e : ∀ m, Dm.freeze (m + 1) (H ++ [.ar 4 [[.i .i64 m0, .i .i64 d0, .i .i64 p0, .i .i64 o0], [.i .i64 m1, .i .i64 d1, .i .i64 p1, .i .i64 o1]] none true lk]) (.mu H.length 2 0 2) = some (.im 4 [[.i .i64 m0, .i .i64 d0, .i .i64 p0, .i .i64 o0], [.i .i64 m1, .i .i64 d1, .i .i64 p1, .i .i64 o1]], H ++ [.ar 4 [[.i .i64 m0, .i .i64 d0, .i .i64 p0, .i .i64 o0], [.i .i64 m1, .i .i64 d1, .i .i64 p1, .i .i64 o1]] none true true]) := fz2 rfl
  simp only [go_sem, Nat.reduceAdd, e]
theorem okS (h0 : i64r m0) (h1 : i64r m1) : okStm ⟨y, b, a, [⟨m0, d0, p0, o0⟩, ⟨m1, d1, p1, o1⟩], g, t, n, i⟩ = true := by
  obtain ⟨_, _⟩ := h0
  obtain ⟨_, _⟩ := h1
  simp [okStm]
  omega
theorem e13 (h0 : i64r m0) (h1 : i64r m1) : CallQ VS3 13 [.ag [.i .i64 y, .i .i64 b, .i .i64 a, .mu H.length 2 0 2, .i .i64 g, .i .i64 t, .i .i64 n, .i .i64 i]] (H ++ [.ar 4 [[.i .i64 m0, .i .i64 d0, .i .i64 p0, .i .i64 o0], [.i .i64 m1, .i .i64 d1, .i .i64 p1, .i .i64 o1]] none true lk]) K ↔ K (.ret (.ag [.i .i64 y, .i .i64 b, .i .i64 a, .mu (H.length + 1) 2 0 2, .i .i64 g, .i .i64 t, .i .i64 n, .i .i64 i]) (H ++ [.ar 4 [[.i .i64 m0, .i .i64 d0, .i .i64 p0, .i .i64 o0], [.i .i64 m1, .i .i64 d1, .i .i64 p1, .i .i64 o1]] none true true, .ar 4 [[.i .i64 m0, .i .i64 d0, .i .i64 p0, .i .i64 o0], [.i .i64 m1, .i .i64 d1, .i .i64 p1, .i .i64 o1]] none true false])) := by
  have hp : PRet VS3 13 [.ag [.i .i64 y, .i .i64 b, .i .i64 a, .im 4 [[.i .i64 m0, .i .i64 d0, .i .i64 p0, .i .i64 o0], [.i .i64 m1, .i .i64 d1, .i .i64 p1, .i .i64 o1]], .i .i64 g, .i .i64 t, .i .i64 n, .i .i64 i]] (.ag [.i .i64 y, .i .i64 b, .i .i64 a, .ow 4 [[.i .i64 m0, .i .i64 d0, .i .i64 p0, .i .i64 o0], [.i .i64 m1, .i .i64 d1, .i .i64 p1, .i .i64 o1]], .i .i64 g, .i .i64 t, .i .i64 n, .i .i64 i]) := PRet.pext (V := VS3) (vf := v13) rfl (by show (if okStm _ = true then some _ else none) = _; exact if_pos (okS h0 h1))
  rw [CallQ_p (vf := v13) rfl rfl hp fzs]
  have e : ∀ H1, placeO v13.own (.ag [.i .i64 y, .i .i64 b, .i .i64 a, .ow 4 [[.i .i64 m0, .i .i64 d0, .i .i64 p0, .i .i64 o0], [.i .i64 m1, .i .i64 d1, .i .i64 p1, .i .i64 o1]], .i .i64 g, .i .i64 t, .i .i64 n, .i .i64 i]) H1 = (.ag [.i .i64 y, .i .i64 b, .i .i64 a, .mu H1.length 2 0 2, .i .i64 g, .i .i64 t, .i .i64 n, .i .i64 i], H1 ++ [.ar 4 [[.i .i64 m0, .i .i64 d0, .i .i64 p0, .i .i64 o0], [.i .i64 m1, .i .i64 d1, .i .i64 p1, .i .i64 o1]] none true false]) := fun _ => rfl
  rw [e]
  simp only [List.length_append, List.length_cons, List.length_nil, List.append_assoc, List.cons_append, List.nil_append]
theorem e17 (h0 : i64r m0) (h1 : i64r m1) : CallQ VS3 17 [.ag [.i .i64 y, .i .i64 b, .i .i64 a, .mu H.length 2 0 2, .i .i64 g, .i .i64 t, .i .i64 n, .i .i64 i]] (H ++ [.ar 4 [[.i .i64 m0, .i .i64 d0, .i .i64 p0, .i .i64 o0], [.i .i64 m1, .i .i64 d1, .i .i64 p1, .i .i64 o1]] none true lk]) K ↔ K (.ret (.b true) (H ++ [.ar 4 [[.i .i64 m0, .i .i64 d0, .i .i64 p0, .i .i64 o0], [.i .i64 m1, .i .i64 d1, .i .i64 p1, .i .i64 o1]] none true true])) := by
  have hp : PRet VS3 17 [.ag [.i .i64 y, .i .i64 b, .i .i64 a, .im 4 [[.i .i64 m0, .i .i64 d0, .i .i64 p0, .i .i64 o0], [.i .i64 m1, .i .i64 d1, .i .i64 p1, .i .i64 o1]], .i .i64 g, .i .i64 t, .i .i64 n, .i .i64 i]] (.b true) := PRet.pext (V := VS3) (vf := v17) rfl (by show (if okStm _ = true then some (D.b true) else none) = _; exact if_pos (okS h0 h1))
  rw [CallQ_p (vf := v17) rfl rfl hp fzs]
  exact Iff.rfl
theorem e17' {A : Blk} (h0 : i64r m0) (h1 : i64r m1) : CallQ VS3 17 [.ag [.i .i64 y, .i .i64 b, .i .i64 a, .mu (H.length + 1) 2 0 2, .i .i64 g, .i .i64 t, .i .i64 n, .i .i64 i]] (H ++ [A, .ar 4 [[.i .i64 m0, .i .i64 d0, .i .i64 p0, .i .i64 o0], [.i .i64 m1, .i .i64 d1, .i .i64 p1, .i .i64 o1]] none true lk]) K ↔ K (.ret (.b true) (H ++ [A, .ar 4 [[.i .i64 m0, .i .i64 d0, .i .i64 p0, .i .i64 o0], [.i .i64 m1, .i .i64 d1, .i .i64 p1, .i .i64 o1]] none true true])) := by
  have := e17 (H := H ++ [A]) (K := K) (y := y) (b := b) (a := a) (g := g) (t := t) (n := n) (i := i) (d0 := d0) (p0 := p0) (o0 := o0) (d1 := d1) (p1 := p1) (o1 := o1) (lk := lk) h0 h1
  simpa using this
end
def endsL : List Int := [-9223372036854775808, -9007199254740993, -9007199254740992, -1, 0, 1, 1099511627776, 1099511627777, 9007199254740992, 9007199254740993, 9223372036854775807, 1899, 1900, 2079, 2080, 1499, 1500, 1511, 1512]
def E8 : Blk := .ar 1 (endsL.map iR) (some 19) true false
def w8l0 (T : List UInt8) : VCode :=
 (.seq (.seq (.reg [⟨.mov (.s 20), none, none⟩,
 ⟨.bin .lss (.l 0) (.c (.i .i64 2)), some 3, none⟩] none)
 (.cond (.s 3) .skip
 (.exit 4)))
 (.seq (.block 5 (.seq (.reg [⟨.call 11 [(.c (.s T))], none, none⟩,
 ⟨.mov (.l 0), none, none⟩,
 ⟨.ext (.l 1) 0, none, none⟩,
 ⟨.ext (.l 1) 1, none, none⟩,
 ⟨.lal [(.i .i64 0), (.i .i64 0), (.i .i64 0), .nil, (.i .i64 0), (.i .i64 0), (.i .i64 0), (.i .i64 0)], some 23, none⟩,
 ⟨.lst (.sl 23) (.l 2) 8, none, none⟩,
 ⟨.mov (.l 3), none, none⟩] none)
 (.seq (.reg [⟨.mov (.s 18), none, none⟩,
 ⟨.mov (.s 17), none, none⟩,
 ⟨.iad (.l 0) (.l 1) 1, none, none⟩,
 ⟨.ld (.l 2) 1 false, none, none⟩,
 ⟨.mov (.l 3), some 22, none⟩] none)
 (.seq (.seq (.reg [⟨.mov (.s 19), some 21, none⟩] none)
 (.block 6 (.seq (.reg [⟨.bin .eql (.s 21) (.c (.i .i64 0)), none, none⟩,
 ⟨.mov (.l 0), some 4, none⟩] none)
 (.cond (.s 4) (.reg [⟨.mov (.s 22), none, none⟩,
 ⟨.lfa (.sl 23) 0, none, none⟩,
 ⟨.lst (.lo 1) (.l 0) 1, none, none⟩] none)
 (.seq (.reg [⟨.bin .eql (.s 21) (.c (.i .i64 1)), none, none⟩,
 ⟨.mov (.l 0), some 5, none⟩] none)
 (.cond (.s 5) (.reg [⟨.mov (.s 22), none, none⟩,
 ⟨.lfa (.sl 23) 1, none, none⟩,
 ⟨.lst (.lo 1) (.l 0) 1, none, none⟩] none)
 (.seq (.reg [⟨.bin .eql (.s 21) (.c (.i .i64 2)), none, none⟩,
 ⟨.mov (.l 0), some 6, none⟩] none)
 (.cond (.s 6) (.reg [⟨.mov (.s 22), none, none⟩,
 ⟨.lfa (.sl 23) 2, none, none⟩,
 ⟨.lst (.lo 1) (.l 0) 1, none, none⟩] none)
 (.seq (.reg [⟨.bin .eql (.s 21) (.c (.i .i64 3)), none, none⟩,
 ⟨.mov (.l 0), some 7, none⟩] none)
 (.cond (.s 7) (.reg [⟨.mov (.s 22), none, none⟩,
 ⟨.lfa (.sl 23) 4, none, none⟩,
 ⟨.lst (.lo 1) (.l 0) 1, none, none⟩] none)
 (.seq (.reg [⟨.bin .eql (.s 21) (.c (.i .i64 4)), none, none⟩,
 ⟨.mov (.l 0), some 8, none⟩] none)
 (.cond (.s 8) (.reg [⟨.mov (.s 22), none, none⟩,
 ⟨.lfa (.sl 23) 5, none, none⟩,
 ⟨.lst (.lo 1) (.l 0) 1, none, none⟩] none)
 (.seq (.reg [⟨.bin .eql (.s 21) (.c (.i .i64 5)), none, none⟩,
 ⟨.mov (.l 0), some 9, none⟩] none)
 (.cond (.s 9) (.reg [⟨.mov (.s 22), none, none⟩,
 ⟨.lfa (.sl 23) 6, none, none⟩,
 ⟨.lst (.lo 1) (.l 0) 1, none, none⟩] none)
 (.seq (.reg [⟨.bin .eql (.s 21) (.c (.i .i64 6)), none, none⟩,
 ⟨.mov (.l 0), some 10, none⟩] none)
 (.cond (.s 10) (.reg [⟨.mov (.s 22), none, none⟩,
 ⟨.lfa (.sl 23) 7, none, none⟩,
 ⟨.lst (.lo 1) (.l 0) 1, none, none⟩] none)
 (.seq (.reg [⟨.bin .eql (.s 21) (.c (.i .i64 7)), none, none⟩,
 ⟨.mov (.l 0), some 11, none⟩] none)
 (.cond (.s 11) (.reg [⟨.lfa (.sl 23) 3, none, none⟩,
 ⟨.lld (.lo 0) 1 false, none, none⟩,
 ⟨.mov (.s 22), none, none⟩,
 ⟨.iad (.l 1) (.c (.i .i64 0)) 4, none, none⟩,
 ⟨.fad (.l 3) 0, none, none⟩,
 ⟨.st (.l 4) (.l 2) 1, none, none⟩] none)
 (.seq (.reg [⟨.bin .eql (.s 21) (.c (.i .i64 8)), none, none⟩,
 ⟨.mov (.l 0), some 12, none⟩] none)
 (.cond (.s 12) (.reg [⟨.lfa (.sl 23) 3, none, none⟩,
 ⟨.lld (.lo 0) 1 false, none, none⟩,
 ⟨.mov (.s 22), none, none⟩,
 ⟨.iad (.l 1) (.c (.i .i64 1)) 4, none, none⟩,
 ⟨.fad (.l 3) 0, none, none⟩,
 ⟨.st (.l 4) (.l 2) 1, none, none⟩] none)
 (.seq (.reg [⟨.bin .eql (.s 21) (.c (.i .i64 9)), none, none⟩,
 ⟨.mov (.l 0), some 13, none⟩] none)
 (.cond (.s 13) (.reg [⟨.lfa (.sl 23) 3, none, none⟩,
 ⟨.lld (.lo 0) 1 false, none, none⟩,
 ⟨.mov (.s 22), none, none⟩,
 ⟨.iad (.l 1) (.c (.i .i64 0)) 4, none, none⟩,
 ⟨.fad (.l 3) 1, none, none⟩,
 ⟨.st (.l 4) (.l 2) 1, none, none⟩] none)
 (.seq (.reg [⟨.bin .eql (.s 21) (.c (.i .i64 10)), none, none⟩,
 ⟨.mov (.l 0), some 14, none⟩] none)
 (.cond (.s 14) (.reg [⟨.lfa (.sl 23) 3, none, none⟩,
 ⟨.lld (.lo 0) 1 false, none, none⟩,
 ⟨.mov (.s 22), none, none⟩,
 ⟨.iad (.l 1) (.c (.i .i64 0)) 4, none, none⟩,
 ⟨.fad (.l 3) 2, none, none⟩,
 ⟨.st (.l 4) (.l 2) 1, none, none⟩] none)
 (.reg [⟨.lfa (.sl 23) 3, none, none⟩,
 ⟨.lld (.lo 0) 1 false, none, none⟩,
 ⟨.mov (.s 22), none, none⟩,
 ⟨.iad (.l 1) (.c (.i .i64 1)) 4, none, none⟩,
 ⟨.fad (.l 3) 3, none, none⟩,
 ⟨.st (.l 4) (.l 2) 1, none, none⟩] none)))))))))))))))))))))))))
 (.seq (.seq (.reg [⟨.mov (.s 20), none, none⟩,
 ⟨.bin .eql (.l 0) (.c (.i .i64 1)), some 15, none⟩] none)
 (.cond (.s 15) (.seq (.reg [⟨.lfa (.sl 23) 3, none, none⟩,
 ⟨.lld (.lo 0) 1 false, none, none⟩,
 ⟨.lfa (.sl 23) 3, none, none⟩,
 ⟨.lld (.lo 2) 1 false, none, none⟩,
 ⟨.iad (.l 3) (.c (.i .i64 0)) 4, none, none⟩,
 ⟨.fad (.l 4) 1, none, none⟩,
 ⟨.ld (.l 5) 1 false, none, none⟩,
 ⟨.lfa (.sl 23) 3, none, none⟩,
 ⟨.lld (.lo 7) 1 false, none, none⟩,
 ⟨.iad (.l 8) (.c (.i .i64 0)) 4, none, none⟩,
 ⟨.fad (.l 9) 2, none, none⟩,
 ⟨.ld (.l 10) 1 false, none, none⟩,
 ⟨.bin .sub (.l 6) (.l 11), none, none⟩,
 ⟨.iad (.l 1) (.c (.i .i64 0)) 4, none, none⟩,
 ⟨.fad (.l 13) 3, none, none⟩,
 ⟨.st (.l 14) (.l 12) 1, none, none⟩] (some false))
 (.seq (.reg [⟨.lfa (.sl 23) 3, none, none⟩,
 ⟨.lld (.lo 0) 1 false, none, none⟩,
 ⟨.lfa (.sl 23) 3, none, none⟩,
 ⟨.lld (.lo 2) 1 false, none, none⟩,
 ⟨.iad (.l 3) (.c (.i .i64 1)) 4, none, none⟩,
 ⟨.fad (.l 4) 1, none, none⟩,
 ⟨.ld (.l 5) 1 false, none, none⟩,
 ⟨.lfa (.sl 23) 3, none, none⟩,
 ⟨.lld (.lo 7) 1 false, none, none⟩,
 ⟨.iad (.l 8) (.c (.i .i64 1)) 4, none, none⟩,
 ⟨.fad (.l 9) 3, none, none⟩,
 ⟨.ld (.l 10) 1 false, none, none⟩,
 ⟨.bin .sub (.l 6) (.l 11), none, none⟩,
 ⟨.iad (.l 1) (.c (.i .i64 1)) 4, none, none⟩,
 ⟨.fad (.l 13) 2, none, none⟩,
 ⟨.st (.l 14) (.l 12) 1, none, none⟩] (some false))
 (.seq (.reg [⟨.lfa (.sl 23) 1, none, none⟩,
 ⟨.lld (.lo 0) 1 false, none, none⟩,
 ⟨.lfa (.sl 23) 3, none, none⟩,
 ⟨.lld (.lo 2) 1 false, none, none⟩,
 ⟨.iad (.l 3) (.c (.i .i64 0)) 4, none, none⟩,
 ⟨.fad (.l 4) 3, none, none⟩,
 ⟨.ld (.l 5) 1 false, none, none⟩,
 ⟨.bin .add (.l 1) (.l 6), none, none⟩,
 ⟨.lfa (.sl 23) 3, none, none⟩,
 ⟨.lld (.lo 8) 1 false, none, none⟩,
 ⟨.iad (.l 9) (.c (.i .i64 1)) 4, none, none⟩,
 ⟨.fad (.l 10) 3, none, none⟩,
 ⟨.ld (.l 11) 1 false, none, none⟩,
 ⟨.bin .add (.l 7) (.l 12), none, none⟩,
 ⟨.lfa (.sl 23) 2, none, none⟩,
 ⟨.lst (.lo 14) (.l 13) 1, none, none⟩] (some false))
 (.reg [⟨.lfa (.sl 23) 4, none, none⟩,
 ⟨.lld (.lo 0) 1 false, none, none⟩,
 ⟨.lfa (.sl 23) 5, none, none⟩,
 ⟨.lld (.lo 2) 1 false, none, none⟩,
 ⟨.bin .sub (.l 1) (.l 3), none, none⟩,
 ⟨.lfa (.sl 23) 6, none, none⟩,
 ⟨.lst (.lo 5) (.l 4) 1, none, none⟩] none))))
 .skip))
 (.seq (.reg [⟨.lld (.sl 23) 8 true, none, none⟩,
 ⟨.call 13 [(.l 0)], none, none⟩,
 ⟨.call 17 [(.l 1)], none, none⟩,
 ⟨.un .not (.l 2), some 16, none⟩] none)
 (.cond (.s 16) (.seq (.reg [⟨.mov (.c (.b false)), some 0, none⟩] none)
 .ret)
 .skip)))))))
 (.reg [⟨.mov (.s 20), none, none⟩,
 ⟨.bin .add (.l 0) (.c (.i .i64 1)), none, none⟩,
 ⟨.mov (.l 1), some 20, none⟩] none)))
theorem w8_eq : v8l0 = w8l0 exText := rfl
theorem arr0 {H T : Heap} (h : H[0]? = some E8) : arr (H ++ T) 0 19 = some (1, endsL.map iR, some 19, true, false) := by
  have hl : 0 < H.length := by
    cases H with
    | nil => cases h
    | cons => simp
  unfold arr
  rw [List.getElem?_append_left hl, h]
  rfl
theorem get0 {H T : Heap} (h : H[0]? = some E8) : (H ++ T)[0]? = some E8 := by
  have hl : 0 < H.length := by
    cases H with
    | nil => cases h
    | cons => simp
  rw [List.getElem?_append_left hl, h]
theorem iad0 {H T : Heap} (h : H[0]? = some E8) {i : Nat} (hi : i < 19) : iadD (H ++ T) (.mu 0 19 0 19) (.i .i64 (i : Nat)) 1 = some (.ap 0 19 i 0) := by
  have h1 : (0 : Int) ≤ (i : Int) ∧ (i : Int) < ((19 : Nat) : Int) := by omega
  have h2 : (i : Int) < 19 := by omega
  simp [iadD, arr0 h, ixOf, h2]
theorem ld0 {H T : Heap} (h : H[0]? = some E8) {i : Nat} (hi : i < 19) : ldAt (H ++ T) (.ap 0 19 i 0) 1 = some [.i .i64 endsL[i]!] := by
  have hl : i < endsL.length := hi
  simp [ldAt, arr0 h, List.getElem?_map, List.getElem?_eq_getElem hl, iR, cut]
section
variable {H : Heap} {r0 r1 : List D} {off : Nat} {v : Int}
theorem iadm0 {lk : Bool} : iadD (H ++ [.ar 4 [r0, r1] none true lk]) (.mu H.length 2 0 2) (.i .i64 0) 4 = some (.ap H.length 2 0 0) := by simp [iadD, arr, ixOf]
theorem iadm1 {lk : Bool} : iadD (H ++ [.ar 4 [r0, r1] none true lk]) (.mu H.length 2 0 2) (.i .i64 1) 4 = some (.ap H.length 2 1 0) := by simp [iadD, arr, ixOf]
theorem ldm0 {lk : Bool} : ldAt (H ++ [.ar 4 [r0, r1] none true lk]) (.ap H.length 2 0 off) 1 = cut r0 off 1 := by simp [ldAt, arr]
theorem ldm1 {lk : Bool} : ldAt (H ++ [.ar 4 [r0, r1] none true lk]) (.ap H.length 2 1 off) 1 = cut r1 off 1 := by simp [ldAt, arr]
theorem frv : freezeL deep H [.i .i64 v] = some ([.i .i64 v], H) := by simp only [go_sem, Nat.reduceAdd]
theorem stm0 (h : off + 1 ≤ r0.length) : stAt (H ++ [.ar 4 [r0, r1] none true false]) (.ap H.length 2 0 off) [.i .i64 v] = some (H ++ [.ar 4 [r0.take off ++ .i .i64 v :: r0.drop (off + 1), r1] none true false]) := by
  simp [stAt, arr, frv, putRow, put, h]
theorem stm1 (h : off + 1 ≤ r1.length) : stAt (H ++ [.ar 4 [r0, r1] none true false]) (.ap H.length 2 1 off) [.i .i64 v] = some (H ++ [.ar 4 [r0, r1.take off ++ .i .i64 v :: r1.drop (off + 1)] none true false]) := by
  simp [stAt, arr, frv, putRow, put, h]
end
theorem ends_r {i : Nat} (hi : i < 19) : i64r endsL[i]! := by
  have : ∀ x ∈ endsL, -9223372036854775808 ≤ x ∧ x ≤ 9223372036854775807 := by decide
  have hl : i < endsL.length := hi
  rw [getElem!_pos endsL i hl]
  exact this _ (List.getElem_mem _)
structure HSt (i k hw : Nat) (st : St) : Prop where
  h : ∃ b1 b2 b3 b4 b5 b6 b7 b8 b9 b10 b11 b12 b13 b14 b15 b16 b21 b22 b23 H, H[0]? = some E8 ∧ st = ⟨[.b false, b1, b2, b3, b4, b5, b6, b7, b8, b9, b10, b11, b12, b13, b14, b15, b16, .i .i64 (i : Nat), .mu 0 19 0 19, .i .i64 (k : Nat), .i .i64 (hw : Nat), b21, b22, b23], H⟩
set_option maxRecDepth 100000 in
theorem loopH {i k : Nat} (hi : i < 19) (hk : k < 12) {st : St} (hs : HSt i k 0 st) {Q : Ex → St → Prop} (hq : ∀ st, HSt i k 2 st → Q (.ex 4) st) : Run VS3 (.loop (w8l0 exText)) st Q := by
  refine Run.up (fun hw st => HSt i k hw st) 2 hs ?_
  rintro hw st hh ⟨b1, b2, b3, b4, b5, b6, b7, b8, b9, b10, b11, b12, b13, b14, b15, b16, b21, b22, b23, H1, hE1, rfl⟩
  have i0 := fun {T} => iad0 (T := T) hE1 hi
  have l0 := fun {T} => ld0 (T := T) hE1 hi
  have hn := ends_r hi
  generalize endsL[i]! = n at l0 hn
  have r1 : i64r 1501 := by unfold i64r; omega
  have r2 : i64r 1502 := by unfold i64r; omega
  rcases (by omega : hw = 2 ∨ hw < 2) with rfl | hlt
  · simp only [go_sem, Nat.reduceAdd, Nat.reduceLT, Int.reduceLT, w8l0]
    exact hq _ ⟨⟨_, _, _, _, _, _, _, _, _, _, _, _, _, _, _, _, _, _, _, _, hE1, rfl⟩⟩
  rcases (by omega : hw = 0 ∨ hw = 1) with rfl | rfl
  · rcases (by omega : k = 0 ∨ k = 1 ∨ k = 2 ∨ k = 3 ∨ k = 4 ∨ k = 5 ∨ k = 6 ∨ k = 7 ∨ k = 8 ∨ k = 9 ∨ k = 10 ∨ k = 11) with rfl | rfl | rfl | rfl | rfl | rfl | rfl | rfl | rfl | rfl | rfl | rfl
    all_goals simp (disch := simp) only [go_sem, Nat.reduceAdd, Nat.reduceLeDiff, Int.reduceLT, Int.reduceEq, Int.reduceNeg, w8l0, e11, i0, l0, wr, iadm0, iadm1, stm0, stm1, cut, e13 r1 r2, e17' r1 r2, e13 hn r2, e17' hn r2, e13 r1 hn, e17' r1 hn]
    all_goals exact ⟨⟨_, _, _, _, _, _, _, _, _, _, _, _, _, _, _, _, _, _, _, _, get0 hE1, rfl⟩⟩
  · rcases (by omega : k = 0 ∨ k = 1 ∨ k = 2 ∨ k = 3 ∨ k = 4 ∨ k = 5 ∨ k = 6 ∨ k = 7 ∨ k = 8 ∨ k = 9 ∨ k = 10 ∨ k = 11) with rfl | rfl | rfl | rfl | rfl | rfl | rfl | rfl | rfl | rfl | rfl | rfl
    all_goals simp (disch := simp) only [go_sem, Nat.reduceAdd, Nat.reduceLeDiff, Nat.reduceLT, Int.reduceLT, Int.reduceEq, Int.reduceNeg, Int.reduceAdd, Int.reduceSub, w8l0, e11, i0, l0, iadm0, iadm1, ldm0, ldm1, stm0, stm1, cut, e13 r1 r2, e17' r1 r2, e13 hn r2, e17' hn r2, e13 r1 hn, e17' r1 hn]
    all_goals repeat' refine And.intro ?_ ?_
    all_goals first | omega | exact ⟨⟨_, _, _, _, _, _, _, _, _, _, _, _, _, _, _, _, _, _, _, _, get0 hE1, rfl⟩⟩
structure KSt (i k : Nat) (st : St) : Prop where
  h : ∃ b1 b2 b3 b4 b5 b6 b7 b8 b9 b10 b11 b12 b13 b14 b15 b16 b20 b21 b22 b23 H, H[0]? = some E8 ∧ st = ⟨[.b false, b1, b2, b3, b4, b5, b6, b7, b8, b9, b10, b11, b12, b13, b14, b15, b16, .i .i64 (i : Nat), .mu 0 19 0 19, .i .i64 (k : Nat), b20, b21, b22, b23], H⟩
structure ISt (i : Nat) (st : St) : Prop where
  h : ∃ b1 b2 b3 b4 b5 b6 b7 b8 b9 b10 b11 b12 b13 b14 b15 b16 b19 b20 b21 b22 b23 H, H[0]? = some E8 ∧ st = ⟨[.b false, b1, b2, b3, b4, b5, b6, b7, b8, b9, b10, b11, b12, b13, b14, b15, b16, .i .i64 (i : Nat), .mu 0 19 0 19, b19, b20, b21, b22, b23], H⟩
theorem loopN {i : Nat} (hi : i < 19) {st : St} (hs : KSt i 0 st) {Q : Ex → St → Prop} (hq : ∀ st, KSt i 12 st → Q (.ex 2) st) : Run VS3 (.loop v8l1) st Q := by
  refine Run.up (fun k st => KSt i k st) 12 hs ?_
  rintro k st hk ⟨b1, b2, b3, b4, b5, b6, b7, b8, b9, b10, b11, b12, b13, b14, b15, b16, b20, b21, b22, b23, H1, hE1, rfl⟩
  by_cases hlt : k < 12
  · have c1 : decide ((k : Int) < 12) = true := decide_eq_true (by omega)
    simp only [go_sem, v8l1, w8_eq, c1]
    refine loopH hi hlt ⟨⟨_, _, _, _, _, _, _, _, _, _, _, _, _, _, _, _, _, _, _, _, hE1, rfl⟩⟩ fun st hs => ?_
    obtain ⟨b1, b2, b3, b4, b5, b6, b7, b8, b9, b10, b11, b12, b13, b14, b15, b16, b21, b22, b23, H2, hE2, rfl⟩ := hs
    simp (disch := omega) only [go_sem, Nat.reduceEqDiff, wr]
    exact ⟨hlt, ⟨_, _, _, _, _, _, _, _, _, _, _, _, _, _, _, _, _, _, _, _, _, hE2, rfl⟩⟩
  · have hk12 : k = 12 := by omega
    subst hk12
    simp only [go_sem, Nat.reduceAdd, Nat.reduceLT, Int.reduceLT, v8l1]
    exact hq _ ⟨⟨_, _, _, _, _, _, _, _, _, _, _, _, _, _, _, _, _, _, _, _, _, hE1, rfl⟩⟩
theorem ends_b : bslD [] 1 19 [.i .i64 0] [(0, .i .i64 (-9223372036854775808)), (1, .i .i64 (-9007199254740993)), (2, .i .i64 (-9007199254740992)), (3, .i .i64 (-1)), (4, .i .i64 0), (5, .i .i64 1), (6, .i .i64 1099511627776), (7, .i .i64 1099511627777), (8, .i .i64 9007199254740992), (9, .i .i64 9007199254740993), (10, .i .i64 9223372036854775807), (11, .i .i64 1899), (12, .i .i64 1900), (13, .i .i64 2079), (14, .i .i64 2080), (15, .i .i64 1499), (16, .i .i64 1500), (17, .i .i64 1511), (18, .i .i64 1512)] true = some (.mu 0 19 0 19, [E8]) := by rfl
theorem numbers8 : PRet VS3 8 [] (.b true) := by
  refine .body (vf := v8) rfl rfl ?_
  simp only [go_sem, Int.reduceNeg, v8, ends_b]
  refine Run.up (fun i st => ISt i st) 19 ⟨⟨_, _, _, _, _, _, _, _, _, _, _, _, _, _, _, _, _, _, _, _, _, _, rfl, rfl⟩⟩ ?_
  rintro i st hi ⟨b1, b2, b3, b4, b5, b6, b7, b8, b9, b10, b11, b12, b13, b14, b15, b16, b19, b20, b21, b22, b23, H1, hE1, rfl⟩
  have ln : lenD H1 1 (.mu 0 19 0 19) = some (.i .i64 19) := by
    have ha := arr0 (T := []) hE1
    rw [List.append_nil] at ha
    simp [lenD]
  by_cases hlt : i < 19
  · have c1 : decide ((i : Int) < 19) = true := decide_eq_true (by omega)
    simp only [go_sem, v8l2, ln, c1]
    refine loopN hlt ⟨⟨_, _, _, _, _, _, _, _, _, _, _, _, _, _, _, _, _, _, _, _, _, hE1, rfl⟩⟩ fun st hs => ?_
    obtain ⟨b1, b2, b3, b4, b5, b6, b7, b8, b9, b10, b11, b12, b13, b14, b15, b16, b20, b21, b22, b23, H2, hE2, rfl⟩ := hs
    simp (disch := omega) only [go_sem, Nat.reduceEqDiff, reduceCtorEq, wr]
    exact ⟨hlt, ⟨_, _, _, _, _, _, _, _, _, _, _, _, _, _, _, _, _, _, _, _, _, _, hE2, rfl⟩⟩
  · have hi19 : i = 19 := by omega
    subst hi19
    simp only [go_sem, Nat.reduceAdd, Nat.reduceLT, Int.reduceLT, v8l2, ln]
theorem c8 {H : Heap} {K : CR → Prop} : CallQ VS3 8 [] H K ↔ K (.ret (.b true) H) := numbers8.c (vf := v8) rfl rfl rfl (.inl rfl)
end Go.Proofs.YtnhbopeopppojaaGreatDoor.Dv
