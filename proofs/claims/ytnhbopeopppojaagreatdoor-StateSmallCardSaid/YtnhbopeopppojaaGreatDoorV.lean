/-
  The machine's code of the program's functions, by program.
-/
import Derived.Attr
import Derived.Test.YtnhbopeopppojaaGreatDoorDa
namespace Go.Proofs.YtnhbopeopppojaaGreatDoor.Dv
open Go.Dm
def exText : List UInt8 := [115, 116, 97, 116, 101, 109, 101, 110, 116, 32, 50, 48, 50, 53, 10, 98, 101, 102, 111, 114, 101, 32, 48, 10, 109, 111, 110, 116, 104, 32, 50, 48, 50, 53, 45, 48, 50, 32, 100, 117, 101, 32, 49, 48, 48, 32, 112, 111, 115, 116, 101, 100, 32, 49, 50, 48, 32, 111, 112, 101, 110, 32, 45, 50, 48, 10, 109, 111, 110, 116, 104, 32, 50, 48, 50, 53, 45, 48, 51, 32, 100, 117, 101, 32, 49, 48, 48, 32, 112, 111, 115, 116, 101, 100, 32, 48, 32, 111, 112, 101, 110, 32, 49, 48, 48, 10, 103, 114, 111, 115, 115, 32, 49, 50, 48, 32, 116, 97, 120, 32, 50, 48, 32, 110, 101, 116, 32, 49, 48, 48, 32, 105, 110, 116, 101, 114, 101, 115, 116, 32, 48, 10, 97, 102, 116, 101, 114, 32, 56, 48, 10]
def vA (x : VOp) : VOper := ⟨x, none, none⟩
def vB (k : Nat) (x : VOp) : VOper := ⟨x, some k, none⟩
def vG (i : Nat) (b : Bool) (x : VOp) : VOper := ⟨x, none, some ((.l i), b)⟩
def cI (n : Int) : O := .c (.i .i64 n)
@[go_sem] theorem vA_eq {x : VOp} : vA x = ⟨x, none, none⟩ := rfl
@[go_sem] theorem vB_eq {k : Nat} {x : VOp} : vB k x = ⟨x, some k, none⟩ := rfl
@[go_sem] theorem vG_eq {i : Nat} {b : Bool} {x : VOp} : vG i b x = ⟨x, none, some ((.l i), b)⟩ := rfl
@[go_sem] theorem cI_eq {n : Int} : cI n = .c (.i .i64 n) := rfl
def v3 : VFunc :=
 ⟨1, 2, [.s 1],
 (.seq (.reg [vB 1 (.mov (.c (.b false)))] none)
 (.seq (.reg [vA (.mov (.s 0)),
 vA (.len 0 (.l 0)),
 vA (.bin .gtr (.l 1) (cI 3000)),
 vA (.mov (.l 2)),
 vG 3 false (.mov (.s 0)),
 vG 3 false (.call 5 [(.l 4)]),
 vA (.pick (.l 3) (.c (.b true)) (.l 5)),
 vA (.mov (.l 6)),
 vG 7 true (.call 6 []),
 vA (.pick (.l 7) (.l 8) (.c (.b false))),
 vB 1 (.mov (.l 9))] none)
 .ret)), true, false, none, false⟩
def tm3 : List Nat := [0, 2]
def bs3 : List Nat := []
def v4l0 : VCode :=
 (.seq (.seq (.reg [vA (.mov (.s 14)),
 vA (.mov (.s 15)),
 vA (.len 0 (.l 1)),
 vB 3 (.bin .lss (.l 0) (.l 2))] none)
 (.cond (.s 3) .skip
 (.exit 2)))
 (.seq (.block 3 (.seq (.reg [vA (.mov (.s 13)),
 vA (.sli true 0 (.c (.s exText)) none (some (.l 0)) none),
 vA (.mov (.s 15)),
 vA (.mov (.s 14)),
 vA (.mov (.s 14)),
 vA (.bin .add (.l 4) (cI 1)),
 vA (.sli true 0 (.l 2) (some (.l 3)) (some (.l 5)) none),
 vA (.bin .add (.l 1) (.l 6)),
 vA (.mov (.s 13)),
 vA (.sli true 0 (.c (.s exText)) (some (.l 8)) none none),
 vA (.bin .add (.l 7) (.l 9)),
 vA (.call 5 [(.l 10)]),
 vA (.un .not (.l 11)),
 vA (.mov (.l 12)),
 vG 13 false (.mov (.s 13)),
 vG 13 false (.bin .lss (.l 14) (cI 151)),
 vG 13 false (.mov (.l 15)),
 vG 16 true (.mov (.s 13)),
 vG 16 true (.sli true 0 (.c (.s exText)) none (some (.l 17)) none),
 vG 16 true (.mov (.s 15)),
 vG 16 true (.mov (.s 14)),
 vG 16 true (.mov (.s 14)),
 vG 16 true (.bin .add (.l 21) (cI 1)),
 vG 16 true (.sli true 0 (.l 19) (some (.l 20)) (some (.l 22)) none),
 vG 16 true (.bin .add (.l 18) (.l 23)),
 vG 16 true (.mov (.s 13)),
 vG 16 true (.bin .add (.l 25) (cI 1)),
 vG 16 true (.sli true 0 (.c (.s exText)) (some (.l 26)) none none),
 vG 16 true (.bin .add (.l 24) (.l 27)),
 vG 16 true (.call 5 [(.l 28)]),
 vG 16 true (.un .not (.l 29)),
 vG 13 false (.pick (.l 16) (.l 30) (.c (.b false))),
 vB 4 (.pick (.l 13) (.c (.b true)) (.l 31))] (some false))
 (.cond (.s 4) (.seq (.reg [vB 0 (.mov (.c (.b false)))] none)
 .ret)
 .skip)))
 (.reg [vA (.mov (.s 14)),
 vA (.bin .add (.l 0) (cI 1)),
 vB 14 (.mov (.l 1))] none)))
def v4l1 : VCode :=
 (.seq (.seq (.reg [vA (.mov (.s 13)),
 vB 1 (.bin .leq (.l 0) (cI 151))] none)
 (.cond (.s 1) .skip
 (.exit 0)))
 (.seq (.block 1 (.seq (.seq (.reg [vA (.mov (.s 13)),
 vA (.sli true 0 (.c (.s exText)) none (some (.l 0)) none),
 vA (.call 5 [(.l 1)]),
 vA (.un .not (.l 2)),
 vA (.mov (.l 3)),
 vG 4 false (.mov (.s 13)),
 vG 4 false (.sli true 0 (.c (.s exText)) (some (.l 5)) none none),
 vG 4 false (.call 5 [(.l 6)]),
 vG 4 false (.un .not (.l 7)),
 vA (.pick (.l 4) (.c (.b true)) (.l 8)),
 vA (.mov (.l 9)),
 vG 10 false (.mov (.s 13)),
 vG 10 false (.bin .lss (.l 11) (cI 151)),
 vG 10 false (.mov (.l 12)),
 vG 13 true (.mov (.s 13)),
 vG 13 true (.sli true 0 (.c (.s exText)) none (some (.l 14)) none),
 vG 13 true (.mov (.s 13)),
 vG 13 true (.bin .add (.l 16) (cI 1)),
 vG 13 true (.sli true 0 (.c (.s exText)) (some (.l 17)) none none),
 vG 13 true (.bin .add (.l 15) (.l 18)),
 vG 13 true (.call 5 [(.l 19)]),
 vG 13 true (.un .not (.l 20)),
 vG 13 true (.mov (.l 21)),
 vG 22 false (.mov (.s 13)),
 vG 22 false (.bin .add (.l 23) (cI 1)),
 vG 22 false (.sli true 0 (.c (.s exText)) none (some (.l 24)) none),
 vG 22 false (.mov (.s 13)),
 vG 22 false (.sli true 0 (.c (.s exText)) (some (.l 26)) none none),
 vG 22 false (.bin .add (.l 25) (.l 27)),
 vG 22 false (.call 5 [(.l 28)]),
 vG 22 false (.un .not (.l 29)),
 vG 13 true (.pick (.l 22) (.c (.b true)) (.l 30)),
 vG 10 false (.pick (.l 13) (.l 31) (.c (.b false))),
 vB 2 (.pick (.l 10) (.c (.b true)) (.l 32))] (some false))
 (.cond (.s 2) (.seq (.reg [vB 0 (.mov (.c (.b false)))] none)
 .ret)
 .skip))
 (.seq (.reg [vB 14 (.mov (cI 0))] none)
 (.block 2 (.loop v4l0)))))
 (.reg [vA (.mov (.s 13)),
 vA (.bin .add (.l 0) (cI 1)),
 vB 13 (.mov (.l 1))] none)))
def v4l2 : VCode :=
 (.seq (.seq (.reg [vA (.mov (.s 21)),
 vA (.mov (.s 17)),
 vA (.len 1 (.l 1)),
 vB 7 (.bin .lss (.l 0) (.l 2))] none)
 (.cond (.s 7) .skip
 (.exit 8)))
 (.seq (.block 9 (.seq (.reg [vA (.mov (.s 21)),
 vB 22 (.mov (.l 0))] none)
 (.seq (.seq (.reg [vA (.mov (.s 21)),
 vA (.mov (.s 16)),
 vB 8 (.bin .eql (.l 0) (.l 1))] none)
 (.cond (.s 8) (.reg [vA (.mov (.s 18)),
 vB 22 (.mov (.l 0))] none)
 (.seq (.reg [vA (.mov (.s 21)),
 vA (.mov (.s 18)),
 vB 9 (.bin .eql (.l 0) (.l 1))] none)
 (.cond (.s 9) (.reg [vA (.mov (.s 16)),
 vB 22 (.mov (.l 0))] none)
 .skip))))
 (.seq (.reg [vA (.mov (.s 19)),
 vA (.mov (.s 17)),
 vA (.mov (.s 22)),
 vA (.iad (.l 1) (.l 2) 1),
 vA (.ld (.l 3) 1 false),
 vA (.bin .add (.l 0) (.l 4)),
 vB 19 (.mov (.l 5))] none)
 (.seq (.seq (.reg [vA (.mov (.s 21)),
 vA (.mov (.s 16)),
 vB 10 (.bin .neq (.l 0) (.l 1))] none)
 (.cond (.s 10) (.reg [vA (.mov (.s 20)),
 vA (.mov (.s 17)),
 vA (.mov (.s 21)),
 vA (.iad (.l 1) (.l 2) 1),
 vA (.ld (.l 3) 1 false),
 vA (.bin .add (.l 0) (.l 4)),
 vB 20 (.mov (.l 5))] none)
 .skip))
 (.seq (.reg [vA (.mov (.s 21)),
 vA (.mov (.s 18)),
 vB 11 (.bin .eql (.l 0) (.l 1))] none)
 (.cond (.s 11) (.reg [vA (.mov (.s 20)),
 vA (.mov (.s 17)),
 vA (.mov (.s 16)),
 vA (.iad (.l 1) (.l 2) 1),
 vA (.ld (.l 3) 1 false),
 vA (.bin .add (.l 0) (.l 4)),
 vB 20 (.mov (.l 5))] none)
 .skip)))))))
 (.reg [vA (.mov (.s 21)),
 vA (.bin .add (.l 0) (cI 1)),
 vB 21 (.mov (.l 1))] none)))
def v4l3 : VCode :=
 (.seq (.seq (.reg [vA (.mov (.s 18)),
 vA (.mov (.s 17)),
 vA (.len 1 (.l 1)),
 vB 6 (.bin .lss (.l 0) (.l 2))] none)
 (.cond (.s 6) .skip
 (.exit 6)))
 (.seq (.block 7 (.seq (.reg [vB 19 (.mov (.c (.s []))),
 vB 20 (.mov (.c (.s [])))] none)
 (.seq (.seq (.reg [vB 21 (.mov (cI 0))] none)
 (.block 8 (.loop v4l2)))
 (.seq (.reg [vA (.mov (.s 19)),
 vA (.call 5 [(.l 0)]),
 vA (.un .not (.l 1)),
 vA (.mov (.l 2)),
 vG 3 false (.mov (.s 20)),
 vG 3 false (.call 5 [(.l 4)]),
 vG 3 false (.un .not (.l 5)),
 vB 12 (.pick (.l 3) (.c (.b true)) (.l 6))] none)
 (.cond (.s 12) (.seq (.reg [vB 0 (.mov (.c (.b false)))] none)
 .ret)
 .skip)))))
 (.reg [vA (.mov (.s 18)),
 vA (.bin .add (.l 0) (cI 1)),
 vB 18 (.mov (.l 1))] none)))
def v4l4 : VCode :=
 (.seq (.seq (.reg [vA (.mov (.s 16)),
 vA (.mov (.s 17)),
 vA (.len 1 (.l 1)),
 vB 5 (.bin .lss (.l 0) (.l 2))] none)
 (.cond (.s 5) .skip
 (.exit 4)))
 (.seq (.block 5 (.seq (.reg [vB 18 (.mov (cI 0))] none)
 (.block 6 (.loop v4l3))))
 (.reg [vA (.mov (.s 16)),
 vA (.bin .add (.l 0) (cI 1)),
 vB 16 (.mov (.l 1))] none)))
def v4 : VFunc :=
 ⟨0, 23, [.s 0],
 (.seq (.reg [vB 0 (.mov (.c (.b false)))] none)
 (.seq (.reg [vB 15 (.mov (.c (.s [32, 10, 45, 48, 49, 50, 57, 109, 97, 111, 100, 116, 43])))] none)
 (.seq (.seq (.reg [vB 13 (.mov (cI 0))] none)
 (.block 0 (.loop v4l1)))
 (.seq (.reg [vA (.call 7 [(.c (.s exText))]),
 vB 17 (.mov (.l 0))] none)
 (.seq (.seq (.reg [vB 16 (.mov (cI 0))] none)
 (.block 4 (.loop v4l4)))
 (.seq (.reg [vA (.call 8 []),
 vA (.mov (.l 0)),
 vG 1 true (.call 9 []),
 vA (.pick (.l 1) (.l 2) (.c (.b false))),
 vA (.mov (.l 3)),
 vG 4 true (.call 6 []),
 vA (.pick (.l 4) (.l 5) (.c (.b false))),
 vB 0 (.mov (.l 6))] none)
 .ret)))))), true, false, none, false⟩
def tm4 : List Nat := [0, 12, 48, 52, 87, 92, 98, 104, 110, 114, 124, 133, 147, 2, 3, 1, 5, 4, 6, 7, 8, 9, 10]
def bs4 : List Nat := []
def v5 : VFunc :=
 ⟨1, 6, [.s 1],
 (.seq (.reg [vB 1 (.mov (.c (.b false)))] none)
 (.seq (.reg [vA (.mov (.s 0)),
 vA (.call 10 [(.l 0)]),
 vA (.mov (.l 1)),
 vA (.ext (.l 2) 0),
 vA (.ext (.l 2) 1),
 vB 4 (.lal [(.i .i64 0), (.i .i64 0), (.i .i64 0), .nil, (.i .i64 0), (.i .i64 0), (.i .i64 0), (.i .i64 0)]),
 vA (.lst (.sl 4) (.l 3) 8),
 vB 2 (.mov (.l 4))] none)
 (.seq (.reg [vA (.mov (.s 0)),
 vA (.call 11 [(.l 0)]),
 vA (.mov (.l 1)),
 vA (.ext (.l 2) 0),
 vA (.ext (.l 2) 1),
 vB 5 (.lal [(.i .i64 0), (.i .i64 0), (.i .i64 0), .nil, (.i .i64 0), (.i .i64 0), (.i .i64 0), (.i .i64 0)]),
 vA (.lst (.sl 5) (.l 3) 8),
 vB 3 (.mov (.l 4))] none)
 (.seq (.reg [vA (.mov (.s 2)),
 vA (.mov (.s 3)),
 vA (.bin .eql (.l 0) (.l 1)),
 vA (.mov (.l 2)),
 vG 3 true (.lld (.sl 4) 8 true),
 vG 3 true (.lld (.sl 5) 8 true),
 vG 3 true (.call 13 [(.l 5)]),
 vG 3 true (.call 12 [(.l 4), (.l 6)]),
 vA (.pick (.l 3) (.l 7) (.c (.b false))),
 vB 1 (.mov (.l 8))] (some false))
 .ret)))), true, false, none, false⟩
def tm5 : List Nat := [0, 2, 4, 6, 3, 5]
def bs5 : List Nat := [4, 5]
def v6 : VFunc :=
 ⟨0, 7, [.s 0],
 (.seq (.reg [vB 0 (.mov (.c (.b false)))] none)
 (.seq (.reg [vA (.call 15 []),
 vA (.call 14 [(.l 0), (cI 2025)]),
 vA (.mov (.l 1)),
 vA (.ext (.l 2) 0),
 vA (.ext (.l 2) 1),
 vB 1 (.lal [(.i .i64 0), (.i .i64 0), (.i .i64 0), .nil, (.i .i64 0), (.i .i64 0), (.i .i64 0), (.i .i64 0)]),
 vA (.lst (.sl 1) (.l 3) 8),
 vB 2 (.mov (.l 4))] none)
 (.seq (.reg [vA (.lld (.sl 1) 8 true),
 vA (.call 16 [(.l 0)]),
 vA (.mov (.l 1)),
 vA (.ext (.l 2) 0),
 vA (.ext (.l 2) 1),
 vB 5 (.mov (.l 3)),
 vB 3 (.mov (.l 4))] none)
 (.seq (.reg [vA (.call 10 [(.c (.s exText))]),
 vA (.mov (.l 0)),
 vA (.ext (.l 1) 0),
 vA (.ext (.l 1) 1),
 vB 6 (.lal [(.i .i64 0), (.i .i64 0), (.i .i64 0), .nil, (.i .i64 0), (.i .i64 0), (.i .i64 0), (.i .i64 0)]),
 vA (.lst (.sl 6) (.l 2) 8),
 vB 4 (.mov (.l 3))] none)
 (.seq (.reg [vA (.mov (.s 2)),
 vA (.bin .eql (.l 0) (cI 0)),
 vA (.mov (.l 1)),
 vG 2 true (.mov (.s 3)),
 vG 2 true (.bin .eql (.l 3) (cI 0)),
 vA (.pick (.l 2) (.l 4) (.c (.b false))),
 vA (.mov (.l 5)),
 vG 6 true (.mov (.s 4)),
 vG 6 true (.bin .eql (.l 7) (cI 0)),
 vA (.pick (.l 6) (.l 8) (.c (.b false))),
 vA (.mov (.l 9)),
 vG 10 true (.mov (.s 5)),
 vG 10 true (.bin .eql (.l 11) (.c (.s exText))),
 vA (.pick (.l 10) (.l 12) (.c (.b false))),
 vA (.mov (.l 13)),
 vG 14 true (.lfa (.sl 1) 3),
 vG 14 true (.lld (.lo 15) 1 false),
 vG 14 true (.len 1 (.l 16)),
 vG 14 true (.bin .eql (.l 17) (cI 2)),
 vA (.pick (.l 14) (.l 18) (.c (.b false))),
 vA (.mov (.l 19)),
 vG 20 true (.lfa (.sl 1) 3),
 vG 20 true (.lld (.lo 21) 1 false),
 vG 20 true (.iad (.l 22) (cI 0) 4),
 vG 20 true (.ld (.l 23) 4 true),
 vG 20 true (.agc [(.i .i64 0), (.i .i64 0), (.i .i64 0), (.i .i64 0)] [(0, 1, (cI 1501)), (1, 1, (cI 100)), (2, 1, (cI 120)), (3, 1, (cI (-20)))]),
 vG 20 true (.eqv false (.st [1, 1, 1, 1]) (.l 24) (.l 25)),
 vA (.pick (.l 20) (.l 26) (.c (.b false))),
 vA (.mov (.l 27)),
 vG 28 true (.lfa (.sl 1) 2),
 vG 28 true (.lld (.lo 29) 1 false),
 vG 28 true (.bin .eql (.l 30) (cI 80)),
 vA (.pick (.l 28) (.l 31) (.c (.b false))),
 vA (.mov (.l 32)),
 vG 33 true (.lfa (.sl 1) 6),
 vG 33 true (.lld (.lo 34) 1 false),
 vG 33 true (.bin .eql (.l 35) (cI 100)),
 vA (.pick (.l 33) (.l 36) (.c (.b false))),
 vA (.mov (.l 37)),
 vG 38 true (.lld (.sl 1) 8 true),
 vG 38 true (.lld (.sl 6) 8 true),
 vG 38 true (.call 12 [(.l 39), (.l 40)]),
 vA (.pick (.l 38) (.l 41) (.c (.b false))),
 vB 0 (.mov (.l 42))] none)
 .ret))))), true, false, none, false⟩
def tm6 : List Nat := [0, 1, 2, 4, 6, 3, 5]
def bs6 : List Nat := [1, 6]
def v7l0 : VCode :=
 (.seq (.seq (.reg [vA (.mov (.s 6)),
 vA (.mov (.s 0)),
 vA (.len 0 (.l 1)),
 vB 2 (.bin .lss (.l 0) (.l 2))] none)
 (.cond (.s 2) .skip
 (.exit 0)))
 (.seq (.block 1 (.seq (.reg [vA (.mov (.s 0)),
 vA (.mov (.s 6)),
 vA (.ixs (.l 0) (.l 1)),
 vB 3 (.bin .eql (.l 2) (.c (.i .u8 10)))] none)
 (.cond (.s 3) (.seq (.reg [vA (.mov (.s 4)),
 vA (.mov (.s 0)),
 vA (.mov (.s 5)),
 vA (.mov (.s 6)),
 vA (.bin .add (.l 3) (cI 1)),
 vA (.sli true 0 (.l 1) (some (.l 2)) (some (.l 4)) none),
 vA (.bsv 1 1 [(.s [])] [(0, (.l 5))]),
 vA (.app (.l 0) (.l 6) 1 16 true),
 vB 4 (.mov (.l 7))] none)
 (.reg [vA (.mov (.s 6)),
 vA (.bin .add (.l 0) (cI 1)),
 vB 5 (.mov (.l 1))] none))
 .skip)))
 (.reg [vA (.mov (.s 6)),
 vA (.bin .add (.l 0) (cI 1)),
 vB 6 (.mov (.l 1))] none)))
def v7 : VFunc :=
 ⟨1, 7, [.s 1],
 (.seq (.reg [vB 1 (.mov (.c .nil))] none)
 (.seq (.reg [vB 4 (.mov (.c .nil))] none)
 (.seq (.reg [vB 5 (.mov (cI 0))] none)
 (.seq (.seq (.reg [vB 6 (.mov (cI 0))] none)
 (.block 0 (.loop v7l0)))
 (.seq (.reg [vA (.mov (.s 4)),
 vB 1 (.mov (.l 0))] none)
 .ret))))), true, false, none, false⟩
def tm7 : List Nat := [0, 2, 9, 15, 3, 4, 5]
def bs7 : List Nat := []
def v8l0 : VCode :=
 (.seq (.seq (.reg [vA (.mov (.s 20)),
 vB 3 (.bin .lss (.l 0) (cI 2))] none)
 (.cond (.s 3) .skip
 (.exit 4)))
 (.seq (.block 5 (.seq (.reg [vA (.call 11 [(.c (.s exText))]),
 vA (.mov (.l 0)),
 vA (.ext (.l 1) 0),
 vA (.ext (.l 1) 1),
 vB 23 (.lal [(.i .i64 0), (.i .i64 0), (.i .i64 0), .nil, (.i .i64 0), (.i .i64 0), (.i .i64 0), (.i .i64 0)]),
 vA (.lst (.sl 23) (.l 2) 8),
 vA (.mov (.l 3))] none)
 (.seq (.reg [vA (.mov (.s 18)),
 vA (.mov (.s 17)),
 vA (.iad (.l 0) (.l 1) 1),
 vA (.ld (.l 2) 1 false),
 vB 22 (.mov (.l 3))] none)
 (.seq (.seq (.reg [vB 21 (.mov (.s 19))] none)
 (.block 6 (.seq (.reg [vA (.bin .eql (.s 21) (cI 0)),
 vB 4 (.mov (.l 0))] none)
 (.cond (.s 4) (.reg [vA (.mov (.s 22)),
 vA (.lfa (.sl 23) 0),
 vA (.lst (.lo 1) (.l 0) 1)] none)
 (.seq (.reg [vA (.bin .eql (.s 21) (cI 1)),
 vB 5 (.mov (.l 0))] none)
 (.cond (.s 5) (.reg [vA (.mov (.s 22)),
 vA (.lfa (.sl 23) 1),
 vA (.lst (.lo 1) (.l 0) 1)] none)
 (.seq (.reg [vA (.bin .eql (.s 21) (cI 2)),
 vB 6 (.mov (.l 0))] none)
 (.cond (.s 6) (.reg [vA (.mov (.s 22)),
 vA (.lfa (.sl 23) 2),
 vA (.lst (.lo 1) (.l 0) 1)] none)
 (.seq (.reg [vA (.bin .eql (.s 21) (cI 3)),
 vB 7 (.mov (.l 0))] none)
 (.cond (.s 7) (.reg [vA (.mov (.s 22)),
 vA (.lfa (.sl 23) 4),
 vA (.lst (.lo 1) (.l 0) 1)] none)
 (.seq (.reg [vA (.bin .eql (.s 21) (cI 4)),
 vB 8 (.mov (.l 0))] none)
 (.cond (.s 8) (.reg [vA (.mov (.s 22)),
 vA (.lfa (.sl 23) 5),
 vA (.lst (.lo 1) (.l 0) 1)] none)
 (.seq (.reg [vA (.bin .eql (.s 21) (cI 5)),
 vB 9 (.mov (.l 0))] none)
 (.cond (.s 9) (.reg [vA (.mov (.s 22)),
 vA (.lfa (.sl 23) 6),
 vA (.lst (.lo 1) (.l 0) 1)] none)
 (.seq (.reg [vA (.bin .eql (.s 21) (cI 6)),
 vB 10 (.mov (.l 0))] none)
 (.cond (.s 10) (.reg [vA (.mov (.s 22)),
 vA (.lfa (.sl 23) 7),
 vA (.lst (.lo 1) (.l 0) 1)] none)
 (.seq (.reg [vA (.bin .eql (.s 21) (cI 7)),
 vB 11 (.mov (.l 0))] none)
 (.cond (.s 11) (.reg [vA (.lfa (.sl 23) 3),
 vA (.lld (.lo 0) 1 false),
 vA (.mov (.s 22)),
 vA (.iad (.l 1) (cI 0) 4),
 vA (.fad (.l 3) 0),
 vA (.st (.l 4) (.l 2) 1)] none)
 (.seq (.reg [vA (.bin .eql (.s 21) (cI 8)),
 vB 12 (.mov (.l 0))] none)
 (.cond (.s 12) (.reg [vA (.lfa (.sl 23) 3),
 vA (.lld (.lo 0) 1 false),
 vA (.mov (.s 22)),
 vA (.iad (.l 1) (cI 1) 4),
 vA (.fad (.l 3) 0),
 vA (.st (.l 4) (.l 2) 1)] none)
 (.seq (.reg [vA (.bin .eql (.s 21) (cI 9)),
 vB 13 (.mov (.l 0))] none)
 (.cond (.s 13) (.reg [vA (.lfa (.sl 23) 3),
 vA (.lld (.lo 0) 1 false),
 vA (.mov (.s 22)),
 vA (.iad (.l 1) (cI 0) 4),
 vA (.fad (.l 3) 1),
 vA (.st (.l 4) (.l 2) 1)] none)
 (.seq (.reg [vA (.bin .eql (.s 21) (cI 10)),
 vB 14 (.mov (.l 0))] none)
 (.cond (.s 14) (.reg [vA (.lfa (.sl 23) 3),
 vA (.lld (.lo 0) 1 false),
 vA (.mov (.s 22)),
 vA (.iad (.l 1) (cI 0) 4),
 vA (.fad (.l 3) 2),
 vA (.st (.l 4) (.l 2) 1)] none)
 (.reg [vA (.lfa (.sl 23) 3),
 vA (.lld (.lo 0) 1 false),
 vA (.mov (.s 22)),
 vA (.iad (.l 1) (cI 1) 4),
 vA (.fad (.l 3) 3),
 vA (.st (.l 4) (.l 2) 1)] none)))))))))))))))))))))))))
 (.seq (.seq (.reg [vA (.mov (.s 20)),
 vB 15 (.bin .eql (.l 0) (cI 1))] none)
 (.cond (.s 15) (.seq (.reg [vA (.lfa (.sl 23) 3),
 vA (.lld (.lo 0) 1 false),
 vA (.lfa (.sl 23) 3),
 vA (.lld (.lo 2) 1 false),
 vA (.iad (.l 3) (cI 0) 4),
 vA (.fad (.l 4) 1),
 vA (.ld (.l 5) 1 false),
 vA (.lfa (.sl 23) 3),
 vA (.lld (.lo 7) 1 false),
 vA (.iad (.l 8) (cI 0) 4),
 vA (.fad (.l 9) 2),
 vA (.ld (.l 10) 1 false),
 vA (.bin .sub (.l 6) (.l 11)),
 vA (.iad (.l 1) (cI 0) 4),
 vA (.fad (.l 13) 3),
 vA (.st (.l 14) (.l 12) 1)] (some false))
 (.seq (.reg [vA (.lfa (.sl 23) 3),
 vA (.lld (.lo 0) 1 false),
 vA (.lfa (.sl 23) 3),
 vA (.lld (.lo 2) 1 false),
 vA (.iad (.l 3) (cI 1) 4),
 vA (.fad (.l 4) 1),
 vA (.ld (.l 5) 1 false),
 vA (.lfa (.sl 23) 3),
 vA (.lld (.lo 7) 1 false),
 vA (.iad (.l 8) (cI 1) 4),
 vA (.fad (.l 9) 3),
 vA (.ld (.l 10) 1 false),
 vA (.bin .sub (.l 6) (.l 11)),
 vA (.iad (.l 1) (cI 1) 4),
 vA (.fad (.l 13) 2),
 vA (.st (.l 14) (.l 12) 1)] (some false))
 (.seq (.reg [vA (.lfa (.sl 23) 1),
 vA (.lld (.lo 0) 1 false),
 vA (.lfa (.sl 23) 3),
 vA (.lld (.lo 2) 1 false),
 vA (.iad (.l 3) (cI 0) 4),
 vA (.fad (.l 4) 3),
 vA (.ld (.l 5) 1 false),
 vA (.bin .add (.l 1) (.l 6)),
 vA (.lfa (.sl 23) 3),
 vA (.lld (.lo 8) 1 false),
 vA (.iad (.l 9) (cI 1) 4),
 vA (.fad (.l 10) 3),
 vA (.ld (.l 11) 1 false),
 vA (.bin .add (.l 7) (.l 12)),
 vA (.lfa (.sl 23) 2),
 vA (.lst (.lo 14) (.l 13) 1)] (some false))
 (.reg [vA (.lfa (.sl 23) 4),
 vA (.lld (.lo 0) 1 false),
 vA (.lfa (.sl 23) 5),
 vA (.lld (.lo 2) 1 false),
 vA (.bin .sub (.l 1) (.l 3)),
 vA (.lfa (.sl 23) 6),
 vA (.lst (.lo 5) (.l 4) 1)] none))))
 .skip))
 (.seq (.reg [vA (.lld (.sl 23) 8 true),
 vA (.call 13 [(.l 0)]),
 vA (.call 17 [(.l 1)]),
 vB 16 (.un .not (.l 2))] none)
 (.cond (.s 16) (.seq (.reg [vB 0 (.mov (.c (.b false)))] none)
 .ret)
 .skip)))))))
 (.reg [vA (.mov (.s 20)),
 vA (.bin .add (.l 0) (cI 1)),
 vB 20 (.mov (.l 1))] none)))
def v8l1 : VCode :=
 (.seq (.seq (.reg [vA (.mov (.s 19)),
 vB 2 (.bin .lss (.l 0) (cI 12))] none)
 (.cond (.s 2) .skip
 (.exit 2)))
 (.seq (.block 3 (.seq (.reg [vB 20 (.mov (cI 0))] none)
 (.block 4 (.loop v8l0))))
 (.reg [vA (.mov (.s 19)),
 vA (.bin .add (.l 0) (cI 1)),
 vB 19 (.mov (.l 1))] none)))
def v8l2 : VCode :=
 (.seq (.seq (.reg [vA (.mov (.s 17)),
 vA (.mov (.s 18)),
 vA (.len 1 (.l 1)),
 vB 1 (.bin .lss (.l 0) (.l 2))] none)
 (.cond (.s 1) .skip
 (.exit 0)))
 (.seq (.block 1 (.seq (.reg [vB 19 (.mov (cI 0))] none)
 (.block 2 (.loop v8l1))))
 (.reg [vA (.mov (.s 17)),
 vA (.bin .add (.l 0) (cI 1)),
 vB 17 (.mov (.l 1))] none)))
def v8 : VFunc :=
 ⟨0, 24, [.s 0],
 (.seq (.reg [vB 0 (.mov (.c (.b false)))] none)
 (.seq (.reg [vA (.bsl 1 19 [(.i .i64 0)] [(0, (cI (-9223372036854775808))), (1, (cI (-9007199254740993))), (2, (cI (-9007199254740992))), (3, (cI (-1))), (4, (cI 0)), (5, (cI 1)), (6, (cI 1099511627776)), (7, (cI 1099511627777)), (8, (cI 9007199254740992)), (9, (cI 9007199254740993)), (10, (cI 9223372036854775807)), (11, (cI 1899)), (12, (cI 1900)), (13, (cI 2079)), (14, (cI 2080)), (15, (cI 1499)), (16, (cI 1500)), (17, (cI 1511)), (18, (cI 1512))] true),
 vB 18 (.mov (.l 0))] none)
 (.seq (.seq (.reg [vB 17 (.mov (cI 0))] none)
 (.block 0 (.loop v8l2)))
 (.seq (.reg [vB 0 (.mov (.c (.b true)))] none)
 .ret)))), true, false, none, false⟩
def tm8 : List Nat := [0, 12, 16, 20, 37, 41, 45, 49, 53, 57, 61, 65, 72, 79, 86, 94, 149, 2, 1, 3, 4, 31, 7, 5]
def bs8 : List Nat := [23]
def v9l0 : VCode :=
 (.seq (.seq (.reg [vA (.mov (.s 20)),
 vB 15 (.bin .lss (.l 0) (cI 8))] none)
 (.cond (.s 15) .skip
 (.exit 3)))
 (.seq (.block 4 (.seq (.reg [vA (.lld (.sl 18) 7 true),
 vA (.bsv 1 8 [(.i .i64 0)] [(0, (cI 1899)), (1, (cI 1900)), (2, (cI 2024)), (3, (cI 2025)), (4, (cI 2026)), (5, (cI 2027)), (6, (cI 2079)), (7, (cI 2080))]),
 vA (.mov (.s 20)),
 vA (.iad (.l 1) (.l 2) 1),
 vA (.ld (.l 3) 1 false),
 vA (.call 18 [(.l 0), (.l 4)]),
 vB 16 (.un .not (.l 5))] (some false))
 (.cond (.s 16) (.seq (.reg [vB 0 (.mov (.c (.b false)))] none)
 .ret)
 .skip)))
 (.reg [vA (.mov (.s 20)),
 vA (.bin .add (.l 0) (cI 1)),
 vB 20 (.mov (.l 1))] none)))
def v9l1 : VCode :=
 (.seq (.seq (.reg [vA (.mov (.s 17)),
 vB 1 (.bin .lss (.l 0) (cI 14))] none)
 (.cond (.s 1) .skip
 (.exit 0)))
 (.seq (.block 1 (.seq (.reg [vA (.call 15 []),
 vB 18 (.lal [(.i .i64 0), .nil, .nil, (.i .i64 0), (.i .i64 0), (.i .i64 0), .nil]),
 vA (.lst (.sl 18) (.l 0) 7)] none)
 (.seq (.reg [vA (.lfa (.sl 18) 6),
 vA (.lld (.lo 0) 1 false),
 vA (.agc [(.i .i64 0), (.i .i64 0), (.i .i64 0), (.i .i64 0), (.i .i64 0)] [(0, 1, (cI 2)), (1, 1, (cI 7)), (2, 1, (cI 5)), (3, 1, (cI 6))]),
 vA (.agc [(.i .i64 0), (.i .i64 0), (.i .i64 0), (.i .i64 0), (.i .i64 0), (.i .i64 0), (.i .i64 0), (.i .i64 0), (.i .i64 0), (.b false)] [(0, 1, (cI 1512)), (1, 1, (cI 20)), (2, 1, (cI 1)), (3, 1, (cI 1)), (4, 5, (.l 2))]),
 vA (.bsv 10 1 [(.i .i64 0), (.i .i64 0), (.i .i64 0), (.i .i64 0), (.i .i64 0), (.i .i64 0), (.i .i64 0), (.i .i64 0), (.i .i64 0), (.b false)] [(0, (.l 3))]),
 vA (.app (.l 1) (.l 4) 10 80 true),
 vA (.lfa (.sl 18) 6),
 vA (.lst (.lo 6) (.l 5) 1)] none)
 (.seq (.seq (.reg [vB 19 (.mov (.s 17))] none)
 (.block 2 (.seq (.reg [vA (.bin .eql (.s 19) (cI 1)),
 vB 2 (.mov (.l 0))] none)
 (.cond (.s 2) (.reg [vA (.lfa (.sl 18) 6),
 vA (.lld (.lo 0) 1 false),
 vA (.iad (.l 1) (cI 0) 10),
 vA (.fad (.l 2) 9),
 vA (.st (.l 3) (.c (.b true)) 1)] none)
 (.seq (.reg [vA (.bin .eql (.s 19) (cI 2)),
 vB 3 (.mov (.l 0))] none)
 (.cond (.s 3) (.reg [vA (.lfa (.sl 18) 0),
 vA (.lfa (.lo 0) 0),
 vA (.lst (.lo 1) (cI 1498) 1)] none)
 (.seq (.reg [vA (.bin .eql (.s 19) (cI 3)),
 vB 4 (.mov (.l 0))] none)
 (.cond (.s 4) (.reg [vA (.lfa (.sl 18) 0),
 vA (.lfa (.lo 0) 2),
 vA (.lld (.lo 1) 1 false),
 vA (.iad (.l 2) (cI 0) 4),
 vA (.fad (.l 3) 2),
 vA (.st (.l 4) (.c (.i .u8 3)) 1)] none)
 (.seq (.reg [vA (.bin .eql (.s 19) (cI 4)),
 vB 5 (.mov (.l 0))] none)
 (.cond (.s 5) (.reg [vA (.lfa (.sl 18) 0),
 vA (.lfa (.lo 0) 2),
 vA (.lld (.lo 1) 1 false),
 vA (.iad (.l 2) (cI 0) 4),
 vA (.fad (.l 3) 1),
 vA (.st (.l 4) (cI 1503) 1)] none)
 (.seq (.reg [vA (.bin .eql (.s 19) (cI 5)),
 vB 6 (.mov (.l 0))] none)
 (.cond (.s 6) (.reg [vA (.lfa (.sl 18) 6),
 vA (.lld (.lo 0) 1 false),
 vA (.iad (.l 1) (cI 0) 10),
 vA (.fad (.l 2) 3),
 vA (.st (.l 3) (cI 2) 1)] none)
 (.seq (.reg [vA (.bin .eql (.s 19) (cI 6)),
 vB 7 (.mov (.l 0))] none)
 (.cond (.s 7) (.reg [vA (.lfa (.sl 18) 6),
 vA (.lld (.lo 0) 1 false),
 vA (.iad (.l 1) (cI 1) 10),
 vA (.fad (.l 2) 2),
 vA (.st (.l 3) (cI 0) 1)] none)
 (.seq (.reg [vA (.bin .eql (.s 19) (cI 7)),
 vB 8 (.mov (.l 0))] none)
 (.cond (.s 8) (.reg [vA (.lfa (.sl 18) 6),
 vA (.lld (.lo 0) 1 false),
 vA (.iad (.l 1) (cI 1) 10),
 vA (.fad (.l 2) 0),
 vA (.st (.l 3) (cI 1501) 1)] none)
 (.seq (.reg [vA (.bin .eql (.s 19) (cI 8)),
 vB 9 (.mov (.l 0))] none)
 (.cond (.s 9) (.reg [vA (.lfa (.sl 18) 6),
 vA (.lld (.lo 0) 1 false),
 vA (.iad (.l 1) (cI 1) 10),
 vA (.fad (.l 2) 4),
 vA (.fad (.l 3) 0),
 vA (.st (.l 4) (cI 1) 1)] none)
 (.seq (.reg [vA (.bin .eql (.s 19) (cI 9)),
 vB 10 (.mov (.l 0))] none)
 (.cond (.s 10) (.reg [vA (.lfa (.sl 18) 3),
 vA (.lfa (.lo 0) 0),
 vA (.lst (.lo 1) (cI 2154) 1)] none)
 (.seq (.reg [vA (.bin .eql (.s 19) (cI 10)),
 vB 11 (.mov (.l 0))] none)
 (.cond (.s 11) (.seq (.reg [vA (.lfa (.sl 18) 0),
 vA (.lfa (.lo 0) 1),
 vA (.lst (.lo 1) (.c .nil) 1)] none)
 (.reg [vA (.lfa (.sl 18) 0),
 vA (.lfa (.lo 0) 2),
 vA (.lst (.lo 1) (.c .nil) 1)] none))
 (.seq (.reg [vA (.bin .eql (.s 19) (cI 11)),
 vB 12 (.mov (.l 0))] none)
 (.cond (.s 12) (.reg [vA (.lfa (.sl 18) 0),
 vA (.lfa (.lo 0) 1),
 vA (.lld (.lo 1) 1 false),
 vA (.app (.l 2) (.c (.im 1 [[(.i .i64 0)], [(.i .i64 0)], [(.i .i64 0)], [(.i .i64 0)], [(.i .i64 0)], [(.i .i64 0)], [(.i .i64 0)], [(.i .i64 0)], [(.i .i64 0)], [(.i .i64 0)], [(.i .i64 0)], [(.i .i64 0)], [(.i .i64 0)], [(.i .i64 0)], [(.i .i64 0)], [(.i .i64 0)], [(.i .i64 0)], [(.i .i64 0)], [(.i .i64 0)], [(.i .i64 0)], [(.i .i64 0)], [(.i .i64 0)], [(.i .i64 0)], [(.i .i64 0)], [(.i .i64 0)], [(.i .i64 0)], [(.i .i64 0)], [(.i .i64 0)], [(.i .i64 0)], [(.i .i64 0)]])) 1 8 true),
 vA (.lfa (.sl 18) 0),
 vA (.lfa (.lo 4) 1),
 vA (.lst (.lo 5) (.l 3) 1)] none)
 (.seq (.reg [vA (.bin .eql (.s 19) (cI 12)),
 vB 13 (.mov (.l 0))] none)
 (.cond (.s 13) (.reg [vA (.lfa (.sl 18) 6),
 vA (.lld (.lo 0) 1 false),
 vA (.iad (.l 1) (cI 0) 10),
 vA (.fad (.l 2) 4),
 vA (.fad (.l 3) 4),
 vA (.st (.l 4) (cI 7) 1)] none)
 (.seq (.reg [vA (.bin .eql (.s 19) (cI 13)),
 vB 14 (.mov (.l 0))] none)
 (.cond (.s 14) (.reg [vA (.lfa (.sl 18) 0),
 vA (.lfa (.lo 0) 1),
 vA (.lld (.lo 1) 1 false),
 vA (.iad (.l 2) (cI 1) 1),
 vA (.st (.l 3) (cI 1099511627777) 1)] none)
 .skip))))))))))))))))))))))))))))
 (.seq (.reg [vB 20 (.mov (cI 0))] none)
 (.block 3 (.loop v9l0)))))))
 (.reg [vA (.mov (.s 17)),
 vA (.bin .add (.l 0) (cI 1)),
 vB 17 (.mov (.l 1))] none)))
def v9 : VFunc :=
 ⟨0, 21, [.s 0],
 (.seq (.reg [vB 0 (.mov (.c (.b false)))] none)
 (.seq (.seq (.reg [vB 17 (.mov (cI 0))] none)
 (.block 0 (.loop v9l1)))
 (.seq (.reg [vB 0 (.mov (.c (.b true)))] none)
 .ret))), true, false, none, false⟩
def tm9 : List Nat := [0, 5, 17, 23, 27, 34, 41, 47, 53, 59, 66, 70, 76, 84, 91, 98, 107, 1, 2, 16, 3]
def bs9 : List Nat := [18]
def v10 : VFunc :=
 ⟨1, 9, [.bx 1 8 true, .s 2],
 (.seq (.reg [vB 1 (.lal [(.i .i64 0), (.i .i64 0), (.i .i64 0), .nil, (.i .i64 0), (.i .i64 0), (.i .i64 0), (.i .i64 0)]),
 vB 2 (.mov (cI 0))] none)
 (.seq (.reg [vA (.mov (.s 0)),
 vA (.call 19 [(.l 0)]),
 vA (.mov (.l 1)),
 vA (.ext (.l 2) 0),
 vA (.ext (.l 2) 1),
 vB 6 (.lal [(.i .i64 0), (.i .i64 0), (.i .i64 0), .nil, (.i .i64 0), (.i .i64 0), (.i .i64 0), (.i .i64 0)]),
 vA (.lst (.sl 6) (.l 3) 8),
 vB 5 (.mov (.l 4))] none)
 (.seq (.seq (.reg [vA (.mov (.s 5)),
 vB 3 (.un .not (.l 0))] none)
 (.cond (.s 3) (.seq (.reg [vA (.agc [(.i .i64 0), (.i .i64 0), (.i .i64 0), .nil, (.i .i64 0), (.i .i64 0), (.i .i64 0), (.i .i64 0)] []),
 vA (.lst (.sl 1) (.l 0) 8),
 vB 2 (.mov (cI 390))] none)
 .ret)
 .skip))
 (.seq (.seq (.reg [vA (.lld (.sl 6) 8 true),
 vA (.call 16 [(.l 0)]),
 vA (.mov (.l 1)),
 vA (.ext (.l 2) 0),
 vA (.ext (.l 2) 1),
 vB 8 (.mov (.l 3)),
 vB 7 (.mov (.l 4))] none)
 (.seq (.reg [vA (.mov (.s 7)),
 vA (.bin .neq (.l 0) (cI 0)),
 vA (.mov (.l 1)),
 vG 2 false (.mov (.s 8)),
 vG 2 false (.mov (.s 0)),
 vG 2 false (.bin .neq (.l 3) (.l 4)),
 vB 4 (.pick (.l 2) (.c (.b true)) (.l 5))] none)
 (.cond (.s 4) (.seq (.reg [vA (.agc [(.i .i64 0), (.i .i64 0), (.i .i64 0), .nil, (.i .i64 0), (.i .i64 0), (.i .i64 0), (.i .i64 0)] []),
 vA (.lst (.sl 1) (.l 0) 8),
 vB 2 (.mov (cI 390))] none)
 .ret)
 .skip)))
 (.seq (.reg [vA (.lld (.sl 6) 8 true),
 vA (.lst (.sl 1) (.l 0) 8),
 vB 2 (.mov (cI 0))] none)
 .ret))))), true, false, none, false⟩
def tm10 : List Nat := [0, 2, 3, 14, 27, 5, 4, 7, 6]
def bs10 : List Nat := [1, 6]
def v11l0 : VCode :=
 (.seq (.seq (.reg [vA (.mov (.s 9)),
 vB 4 (.bin .lss (.l 0) (cI 12))] none)
 (.cond (.s 4) .skip
 (.exit 2)))
 (.seq (.block 3 (.seq (.reg [vA (.lfa (.sl 10) 0),
 vA (.lld (.lo 0) 1 false),
 vA (.bin .geq (.l 1) (cI 1900)),
 vA (.mov (.l 2)),
 vG 3 true (.lfa (.sl 10) 0),
 vG 3 true (.lld (.lo 4) 1 false),
 vG 3 true (.bin .leq (.l 5) (cI 2079)),
 vA (.pick (.l 3) (.l 6) (.c (.b false))),
 vA (.mov (.l 7)),
 vG 8 true (.lfa (.sl 10) 0),
 vG 8 true (.lld (.lo 9) 1 false),
 vG 8 true (.bin .sub (.l 10) (cI 1900)),
 vG 8 true (.bin .mul (cI 12) (.l 11)),
 vG 8 true (.mov (.s 9)),
 vG 8 true (.bin .add (.l 12) (.l 13)),
 vG 8 true (.call 22 [(.l 14)]),
 vG 8 true (.mov (.s 7)),
 vG 8 true (.mov (.s 8)),
 vG 8 true (.bin .add (.l 17) (cI 1)),
 vG 8 true (.iad (.l 16) (.l 18) 1),
 vG 8 true (.ld (.l 19) 1 false),
 vG 8 true (.bin .eql (.l 15) (.l 20)),
 vB 5 (.pick (.l 8) (.l 21) (.c (.b false)))] (some false))
 (.cond (.s 5) (.reg [vA (.lfa (.sl 10) 0),
 vA (.lld (.lo 0) 1 false),
 vA (.bin .sub (.l 1) (cI 1900)),
 vA (.bin .mul (cI 12) (.l 2)),
 vA (.mov (.s 9)),
 vA (.bin .add (.l 3) (.l 4)),
 vA (.lfa (.sl 11) 0),
 vA (.lst (.lo 6) (.l 5) 1)] none)
 .skip)))
 (.reg [vA (.mov (.s 9)),
 vA (.bin .add (.l 0) (cI 1)),
 vB 9 (.mov (.l 1))] none)))
def v11l1 : VCode :=
 (.seq (.seq (.reg [vA (.mov (.s 8)),
 vA (.bin .add (.l 0) (cI 7)),
 vA (.mov (.s 7)),
 vA (.len 1 (.l 2)),
 vA (.bin .lss (.l 1) (.l 3)),
 vA (.mov (.l 4)),
 vG 5 true (.mov (.s 7)),
 vG 5 true (.mov (.s 8)),
 vG 5 true (.iad (.l 6) (.l 7) 1),
 vG 5 true (.ld (.l 8) 1 false),
 vG 5 true (.bin .eql (.l 9) (.c (.s [109, 111, 110, 116, 104]))),
 vB 3 (.pick (.l 5) (.l 10) (.c (.b false)))] none)
 (.cond (.s 3) .skip
 (.exit 0)))
 (.block 1 (.seq (.reg [vB 11 (.lal [(.i .i64 0), (.i .i64 0), (.i .i64 0), (.i .i64 0)])] none)
 (.seq (.seq (.reg [vB 9 (.mov (cI 0))] none)
 (.block 2 (.loop v11l0)))
 (.seq (.reg [vA (.mov (.s 7)),
 vA (.mov (.s 8)),
 vA (.bin .add (.l 1) (cI 3)),
 vA (.call 21 [(.l 0), (.l 2)]),
 vA (.lfa (.sl 11) 1),
 vA (.lst (.lo 4) (.l 3) 1)] none)
 (.seq (.reg [vA (.mov (.s 7)),
 vA (.mov (.s 8)),
 vA (.bin .add (.l 1) (cI 5)),
 vA (.call 21 [(.l 0), (.l 2)]),
 vA (.lfa (.sl 11) 2),
 vA (.lst (.lo 4) (.l 3) 1)] none)
 (.seq (.reg [vA (.mov (.s 7)),
 vA (.mov (.s 8)),
 vA (.bin .add (.l 1) (cI 7)),
 vA (.call 21 [(.l 0), (.l 2)]),
 vA (.lfa (.sl 11) 3),
 vA (.lst (.lo 4) (.l 3) 1)] none)
 (.seq (.reg [vA (.lfa (.sl 10) 3),
 vA (.lld (.lo 0) 1 false),
 vA (.lld (.sl 11) 4 true),
 vA (.bsv 4 1 [(.i .i64 0), (.i .i64 0), (.i .i64 0), (.i .i64 0)] [(0, (.l 2))]),
 vA (.app (.l 1) (.l 3) 4 32 true),
 vA (.lfa (.sl 10) 3),
 vA (.lst (.lo 5) (.l 4) 1)] none)
 (.reg [vA (.mov (.s 8)),
 vA (.bin .add (.l 0) (cI 8)),
 vB 8 (.mov (.l 1))] none)))))))))
def v11 : VFunc :=
 ⟨1, 12, [.bx 1 8 true, .s 2],
 (.seq (.reg [vB 1 (.lal [(.i .i64 0), (.i .i64 0), (.i .i64 0), .nil, (.i .i64 0), (.i .i64 0), (.i .i64 0), (.i .i64 0)]),
 vB 2 (.mov (cI 0))] none)
 (.seq (.reg [vA (.mov (.s 0)),
 vA (.call 20 [(.l 0)]),
 vB 7 (.mov (.l 1))] none)
 (.seq (.reg [vA (.mov (.s 7)),
 vA (.call 21 [(.l 0), (cI 1)]),
 vA (.mov (.s 7)),
 vA (.call 21 [(.l 2), (cI 3)]),
 vA (.agc [(.i .i64 0), (.i .i64 0), (.i .i64 0), .nil, (.i .i64 0), (.i .i64 0), (.i .i64 0), (.i .i64 0)] [(0, 1, (.l 1)), (1, 1, (.l 3))]),
 vB 10 (.lal [(.i .i64 0), (.i .i64 0), (.i .i64 0), .nil, (.i .i64 0), (.i .i64 0), (.i .i64 0), (.i .i64 0)]),
 vA (.lst (.sl 10) (.l 4) 8)] none)
 (.seq (.reg [vB 8 (.mov (cI 4))] none)
 (.seq (.block 0 (.loop v11l1))
 (.seq (.reg [vA (.mov (.s 7)),
 vA (.mov (.s 8)),
 vA (.bin .add (.l 1) (cI 1)),
 vA (.call 21 [(.l 0), (.l 2)]),
 vA (.lfa (.sl 10) 4),
 vA (.lst (.lo 4) (.l 3) 1)] none)
 (.seq (.reg [vA (.mov (.s 7)),
 vA (.mov (.s 8)),
 vA (.bin .add (.l 1) (cI 3)),
 vA (.call 21 [(.l 0), (.l 2)]),
 vA (.lfa (.sl 10) 5),
 vA (.lst (.lo 4) (.l 3) 1)] none)
 (.seq (.reg [vA (.mov (.s 7)),
 vA (.mov (.s 8)),
 vA (.bin .add (.l 1) (cI 5)),
 vA (.call 21 [(.l 0), (.l 2)]),
 vA (.lfa (.sl 10) 6),
 vA (.lst (.lo 4) (.l 3) 1)] none)
 (.seq (.reg [vA (.mov (.s 7)),
 vA (.mov (.s 8)),
 vA (.bin .add (.l 1) (cI 7)),
 vA (.call 21 [(.l 0), (.l 2)]),
 vA (.lfa (.sl 10) 7),
 vA (.lst (.lo 4) (.l 3) 1)] none)
 (.seq (.reg [vA (.mov (.s 7)),
 vA (.mov (.s 8)),
 vA (.bin .add (.l 1) (cI 9)),
 vA (.call 21 [(.l 0), (.l 2)]),
 vA (.lfa (.sl 10) 2),
 vA (.lst (.lo 4) (.l 3) 1)] none)
 (.seq (.seq (.reg [vA (.lld (.sl 10) 8 true),
 vA (.call 23 [(.l 0)]),
 vA (.un .not (.l 1)),
 vA (.mov (.l 2)),
 vG 3 false (.lld (.sl 10) 8 true),
 vG 3 false (.call 24 [(.l 4)]),
 vG 3 false (.mov (.s 0)),
 vG 3 false (.bin .neq (.l 5) (.l 6)),
 vB 6 (.pick (.l 3) (.c (.b true)) (.l 7))] none)
 (.cond (.s 6) (.seq (.reg [vA (.agc [(.i .i64 0), (.i .i64 0), (.i .i64 0), .nil, (.i .i64 0), (.i .i64 0), (.i .i64 0), (.i .i64 0)] []),
 vA (.lst (.sl 1) (.l 0) 8),
 vB 2 (.mov (cI 390))] none)
 .ret)
 .skip))
 (.seq (.reg [vA (.lld (.sl 10) 8 true),
 vA (.lst (.sl 1) (.l 0) 8),
 vB 2 (.mov (cI 0))] none)
 .ret)))))))))))), true, false, none, false⟩
def tm11 : List Nat := [0, 2, 3, 27, 29, 54, 118, 4, 6, 8, 5, 7]
def bs11 : List Nat := [1, 10, 11]
def v12l0 : VCode :=
 (.seq (.seq (.reg [vA (.mov (.s 8)),
 vA (.lfa (.sl 6) 3),
 vA (.lld (.lo 1) 1 false),
 vA (.len 1 (.l 2)),
 vB 4 (.bin .lss (.l 0) (.l 3))] none)
 (.cond (.s 4) .skip
 (.exit 0)))
 (.seq (.block 1 (.seq (.reg [vA (.lfa (.sl 6) 3),
 vA (.lld (.lo 0) 1 false),
 vA (.mov (.s 8)),
 vA (.iad (.l 1) (.l 2) 4),
 vA (.ld (.l 3) 4 true),
 vA (.lfa (.sl 7) 3),
 vA (.lld (.lo 5) 1 false),
 vA (.mov (.s 8)),
 vA (.iad (.l 6) (.l 7) 4),
 vA (.ld (.l 8) 4 true),
 vB 5 (.eqv true (.st [1, 1, 1, 1]) (.l 4) (.l 9))] (some false))
 (.cond (.s 5) (.seq (.reg [vB 2 (.mov (.c (.b false)))] none)
 .ret)
 .skip)))
 (.reg [vA (.mov (.s 8)),
 vA (.bin .add (.l 0) (cI 1)),
 vB 8 (.mov (.l 1))] none)))
def v12 : VFunc :=
 ⟨2, 9, [.s 2],
 (.seq (.reg [vB 6 (.lbx (.s 0) 8),
 vB 7 (.lbx (.s 1) 8),
 vB 2 (.mov (.c (.b false)))] none)
 (.seq (.seq (.reg [vA (.lfa (.sl 6) 0),
 vA (.lld (.lo 0) 1 false),
 vA (.lfa (.sl 7) 0),
 vA (.lld (.lo 2) 1 false),
 vA (.bin .neq (.l 1) (.l 3)),
 vA (.mov (.l 4)),
 vG 5 false (.lfa (.sl 6) 1),
 vG 5 false (.lld (.lo 6) 1 false),
 vG 5 false (.lfa (.sl 7) 1),
 vG 5 false (.lld (.lo 8) 1 false),
 vG 5 false (.bin .neq (.l 7) (.l 9)),
 vA (.pick (.l 5) (.c (.b true)) (.l 10)),
 vA (.mov (.l 11)),
 vG 12 false (.lfa (.sl 6) 2),
 vG 12 false (.lld (.lo 13) 1 false),
 vG 12 false (.lfa (.sl 7) 2),
 vG 12 false (.lld (.lo 15) 1 false),
 vG 12 false (.bin .neq (.l 14) (.l 16)),
 vA (.pick (.l 12) (.c (.b true)) (.l 17)),
 vA (.mov (.l 18)),
 vG 19 false (.lfa (.sl 6) 4),
 vG 19 false (.lld (.lo 20) 1 false),
 vG 19 false (.lfa (.sl 7) 4),
 vG 19 false (.lld (.lo 22) 1 false),
 vG 19 false (.bin .neq (.l 21) (.l 23)),
 vA (.pick (.l 19) (.c (.b true)) (.l 24)),
 vA (.mov (.l 25)),
 vG 26 false (.lfa (.sl 6) 5),
 vG 26 false (.lld (.lo 27) 1 false),
 vG 26 false (.lfa (.sl 7) 5),
 vG 26 false (.lld (.lo 29) 1 false),
 vG 26 false (.bin .neq (.l 28) (.l 30)),
 vA (.pick (.l 26) (.c (.b true)) (.l 31)),
 vA (.mov (.l 32)),
 vG 33 false (.lfa (.sl 6) 6),
 vG 33 false (.lld (.lo 34) 1 false),
 vG 33 false (.lfa (.sl 7) 6),
 vG 33 false (.lld (.lo 36) 1 false),
 vG 33 false (.bin .neq (.l 35) (.l 37)),
 vA (.pick (.l 33) (.c (.b true)) (.l 38)),
 vA (.mov (.l 39)),
 vG 40 false (.lfa (.sl 6) 7),
 vG 40 false (.lld (.lo 41) 1 false),
 vG 40 false (.lfa (.sl 7) 7),
 vG 40 false (.lld (.lo 43) 1 false),
 vG 40 false (.bin .neq (.l 42) (.l 44)),
 vA (.pick (.l 40) (.c (.b true)) (.l 45)),
 vA (.mov (.l 46)),
 vG 47 false (.lfa (.sl 6) 3),
 vG 47 false (.lld (.lo 48) 1 false),
 vG 47 false (.len 1 (.l 49)),
 vG 47 false (.lfa (.sl 7) 3),
 vG 47 false (.lld (.lo 51) 1 false),
 vG 47 false (.len 1 (.l 52)),
 vG 47 false (.bin .neq (.l 50) (.l 53)),
 vB 3 (.pick (.l 47) (.c (.b true)) (.l 54))] none)
 (.cond (.s 3) (.seq (.reg [vB 2 (.mov (.c (.b false)))] none)
 .ret)
 .skip))
 (.seq (.seq (.reg [vB 8 (.mov (cI 0))] none)
 (.block 0 (.loop v12l0)))
 (.seq (.reg [vB 2 (.mov (.c (.b true)))] none)
 .ret)))), true, false, none, false⟩
def tm12 : List Nat := [0, 1, 4, 61, 66, 79, 2, 3, 5]
def bs12 : List Nat := [6, 7]
def v13l0 : VCode :=
 (.seq (.seq (.reg [vA (.mov (.s 4)),
 vA (.lfa (.sl 3) 3),
 vA (.lld (.lo 1) 1 false),
 vA (.len 1 (.l 2)),
 vB 2 (.bin .lss (.l 0) (.l 3))] none)
 (.cond (.s 2) .skip
 (.exit 0)))
 (.seq (.block 1 (.reg [vA (.lfa (.sl 5) 3),
 vA (.lld (.lo 0) 1 false),
 vA (.lfa (.sl 3) 3),
 vA (.lld (.lo 2) 1 false),
 vA (.mov (.s 4)),
 vA (.iad (.l 3) (.l 4) 4),
 vA (.fad (.l 5) 0),
 vA (.ld (.l 6) 1 false),
 vA (.lfa (.sl 3) 3),
 vA (.lld (.lo 8) 1 false),
 vA (.mov (.s 4)),
 vA (.iad (.l 9) (.l 10) 4),
 vA (.fad (.l 11) 1),
 vA (.ld (.l 12) 1 false),
 vA (.lfa (.sl 3) 3),
 vA (.lld (.lo 14) 1 false),
 vA (.mov (.s 4)),
 vA (.iad (.l 15) (.l 16) 4),
 vA (.fad (.l 17) 2),
 vA (.ld (.l 18) 1 false),
 vA (.lfa (.sl 3) 3),
 vA (.lld (.lo 20) 1 false),
 vA (.mov (.s 4)),
 vA (.iad (.l 21) (.l 22) 4),
 vA (.fad (.l 23) 3),
 vA (.ld (.l 24) 1 false),
 vA (.agc [(.i .i64 0), (.i .i64 0), (.i .i64 0), (.i .i64 0)] [(0, 1, (.l 7)), (1, 1, (.l 13)), (2, 1, (.l 19)), (3, 1, (.l 25))]),
 vA (.bsv 4 1 [(.i .i64 0), (.i .i64 0), (.i .i64 0), (.i .i64 0)] [(0, (.l 26))]),
 vA (.app (.l 1) (.l 27) 4 32 true),
 vA (.lfa (.sl 5) 3),
 vA (.lst (.lo 29) (.l 28) 1)] (some false)))
 (.reg [vA (.mov (.s 4)),
 vA (.bin .add (.l 0) (cI 1)),
 vB 4 (.mov (.l 1))] none)))
def v13 : VFunc :=
 ⟨1, 6, [.bx 1 8 true],
 (.seq (.reg [vB 3 (.lbx (.s 0) 8),
 vB 1 (.lal [(.i .i64 0), (.i .i64 0), (.i .i64 0), .nil, (.i .i64 0), (.i .i64 0), (.i .i64 0), (.i .i64 0)])] none)
 (.seq (.reg [vA (.lfa (.sl 3) 0),
 vA (.lld (.lo 0) 1 false),
 vA (.lfa (.sl 3) 1),
 vA (.lld (.lo 2) 1 false),
 vA (.lfa (.sl 3) 2),
 vA (.lld (.lo 4) 1 false),
 vA (.lfa (.sl 3) 4),
 vA (.lld (.lo 6) 1 false),
 vA (.lfa (.sl 3) 5),
 vA (.lld (.lo 8) 1 false),
 vA (.lfa (.sl 3) 6),
 vA (.lld (.lo 10) 1 false),
 vA (.lfa (.sl 3) 7),
 vA (.lld (.lo 12) 1 false),
 vA (.agc [(.i .i64 0), (.i .i64 0), (.i .i64 0), .nil, (.i .i64 0), (.i .i64 0), (.i .i64 0), (.i .i64 0)] [(0, 1, (.l 1)), (1, 1, (.l 3)), (2, 1, (.l 5)), (4, 1, (.l 7)), (5, 1, (.l 9)), (6, 1, (.l 11)), (7, 1, (.l 13))]),
 vB 5 (.lal [(.i .i64 0), (.i .i64 0), (.i .i64 0), .nil, (.i .i64 0), (.i .i64 0), (.i .i64 0), (.i .i64 0)]),
 vA (.lst (.sl 5) (.l 14) 8)] none)
 (.seq (.seq (.reg [vB 4 (.mov (cI 0))] none)
 (.block 0 (.loop v13l0)))
 (.seq (.reg [vA (.lld (.sl 5) 8 true),
 vA (.lst (.sl 1) (.l 0) 8)] none)
 .ret)))), true, true, none, false⟩
def tm13 : List Nat := [0, 2, 24, 1, 4, 3]
def bs13 : List Nat := [1, 3, 5]
def v14l0 : VCode :=
 (.seq (.seq (.reg [vA (.mov (.s 15)),
 vA (.mov (.s 13)),
 vA (.bin .add (.l 1) (cI 12)),
 vA (.fad (.s 11) 0),
 vA (.fad (.l 3) 0),
 vA (.ld (.l 4) 1 false),
 vA (.fad (.s 11) 0),
 vA (.fad (.l 6) 1),
 vA (.ld (.l 7) 1 false),
 vA (.len 1 (.l 8)),
 vA (.bin .add (.l 5) (.l 9)),
 vA (.mn [(.l 2), (.l 10)]),
 vB 7 (.bin .lss (.l 0) (.l 11))] none)
 (.cond (.s 7) .skip
 (.exit 0)))
 (.seq (.block 1 (.seq (.reg [vA (.fad (.s 11) 0),
 vA (.ld (.l 0) 3 true),
 vA (.mov (.s 15)),
 vA (.call 28 [(.l 1), (.l 2)]),
 vA (.mov (.l 3)),
 vA (.ext (.l 4) 0),
 vA (.ext (.l 4) 1),
 vB 18 (.mov (.l 5)),
 vB 16 (.mov (.l 6))] none)
 (.seq (.seq (.reg [vA (.mov (.s 16)),
 vB 8 (.bin .neq (.l 0) (cI 0))] none)
 (.cond (.s 8) (.seq (.reg [vA (.agc [(.i .i64 0), (.i .i64 0), (.i .i64 0), .nil, (.i .i64 0), (.i .i64 0), (.i .i64 0), (.i .i64 0)] []),
 vA (.mov (.s 16)),
 vA (.lst (.sl 2) (.l 0) 8),
 vB 3 (.mov (.l 1))] none)
 .ret)
 .skip))
 (.seq (.reg [vA (.fad (.s 11) 0),
 vA (.fad (.l 0) 1),
 vA (.ld (.l 1) 1 false),
 vA (.mov (.s 15)),
 vA (.fad (.s 11) 0),
 vA (.fad (.l 4) 0),
 vA (.ld (.l 5) 1 false),
 vA (.bin .sub (.l 3) (.l 6)),
 vA (.iad (.l 2) (.l 7) 1),
 vA (.ld (.l 8) 1 false),
 vB 17 (.mov (.l 9))] none)
 (.reg [vA (.lfa (.sl 14) 3),
 vA (.lld (.lo 0) 1 false),
 vA (.mov (.s 15)),
 vA (.mov (.s 17)),
 vA (.mov (.s 18)),
 vA (.mov (.s 17)),
 vA (.mov (.s 18)),
 vA (.bin .sub (.l 5) (.l 6)),
 vA (.agc [(.i .i64 0), (.i .i64 0), (.i .i64 0), (.i .i64 0)] [(0, 1, (.l 2)), (1, 1, (.l 3)), (2, 1, (.l 4)), (3, 1, (.l 7))]),
 vA (.bsv 4 1 [(.i .i64 0), (.i .i64 0), (.i .i64 0), (.i .i64 0)] [(0, (.l 8))]),
 vA (.app (.l 1) (.l 9) 4 32 true),
 vA (.lfa (.sl 14) 3),
 vA (.lst (.lo 11) (.l 10) 1)] none)))))
 (.reg [vA (.mov (.s 15)),
 vA (.bin .add (.l 0) (cI 1)),
 vB 15 (.mov (.l 1))] none)))
def v14l1 : VCode :=
 (.seq (.reg [vB 9 (.bin .lss (.s 20) (.s 21))] none)
 (.seq (.cond (.s 9) .skip
 (.exit 2))
 (.seq (.block 3 (.seq (.reg [vA (.iad (.s 22) (.s 20) 10),
 vA (.ld (.l 0) 10 true),
 vB 23 (.lal [(.i .i64 0), (.i .i64 0), (.i .i64 0), (.i .i64 0), (.i .i64 0), (.i .i64 0), (.i .i64 0), (.i .i64 0), (.i .i64 0), (.b false)]),
 vA (.lst (.sl 23) (.l 1) 10)] none)
 (.seq (.reg [vA (.lfa (.sl 23) 9),
 vA (.lld (.lo 0) 1 false),
 vA (.un .not (.l 1)),
 vA (.mov (.l 2)),
 vG 3 true (.lfa (.sl 23) 0),
 vG 3 true (.lld (.lo 4) 1 false),
 vG 3 true (.call 29 [(.l 5)]),
 vG 3 true (.mov (.s 1)),
 vG 3 true (.bin .eql (.l 6) (.l 7)),
 vB 10 (.pick (.l 3) (.l 8) (.c (.b false)))] none)
 (.cond (.s 10) (.reg [vA (.mov (.s 19)),
 vA (.lld (.sl 23) 10 true),
 vA (.bsv 10 1 [(.i .i64 0), (.i .i64 0), (.i .i64 0), (.i .i64 0), (.i .i64 0), (.i .i64 0), (.i .i64 0), (.i .i64 0), (.i .i64 0), (.b false)] [(0, (.l 1))]),
 vA (.app (.l 0) (.l 2) 10 80 true),
 vB 19 (.mov (.l 3))] none)
 .skip))))
 (.reg [vA (.bin .add (.s 20) (cI 1)),
 vB 20 (.mov (.l 0))] none))))
def v14 : VFunc :=
 ⟨2, 24, [.bx 2 8 true, .s 3],
 (.seq (.reg [vB 11 (.hbx 48 (.s 0) 7),
 vB 2 (.lal [(.i .i64 0), (.i .i64 0), (.i .i64 0), .nil, (.i .i64 0), (.i .i64 0), (.i .i64 0), (.i .i64 0)]),
 vB 3 (.mov (cI 0))] none)
 (.seq (.seq (.reg [vA (.ld (.s 11) 7 true),
 vA (.call 25 [(.l 0)]),
 vA (.un .not (.l 1)),
 vA (.mov (.l 2)),
 vG 3 false (.mov (.s 1)),
 vG 3 false (.call 26 [(.l 4)]),
 vG 3 false (.un .not (.l 5)),
 vB 4 (.pick (.l 3) (.c (.b true)) (.l 6))] none)
 (.cond (.s 4) (.seq (.reg [vA (.agc [(.i .i64 0), (.i .i64 0), (.i .i64 0), .nil, (.i .i64 0), (.i .i64 0), (.i .i64 0), (.i .i64 0)] []),
 vA (.lst (.sl 2) (.l 0) 8),
 vB 3 (.mov (cI 2))] none)
 .ret)
 .skip))
 (.seq (.reg [vA (.mov (.s 1)),
 vA (.bin .sub (.l 0) (cI 1900)),
 vA (.bin .mul (cI 12) (.l 1)),
 vB 13 (.mov (.l 2))] none)
 (.seq (.reg [vA (.mov (.s 1)),
 vA (.agc [(.i .i64 0), (.i .i64 0), (.i .i64 0), .nil, (.i .i64 0), (.i .i64 0), (.i .i64 0), (.i .i64 0)] [(0, 1, (.l 0))]),
 vB 14 (.lal [(.i .i64 0), (.i .i64 0), (.i .i64 0), .nil, (.i .i64 0), (.i .i64 0), (.i .i64 0), (.i .i64 0)]),
 vA (.lst (.sl 14) (.l 1) 8)] none)
 (.seq (.reg [vB 12 (.mov (cI 0))] none)
 (.seq (.seq (.reg [vA (.fad (.s 11) 0),
 vA (.ld (.l 0) 3 true),
 vA (.mov (.s 13)),
 vA (.call 27 [(.l 1), (.l 2)]),
 vA (.mov (.l 3)),
 vA (.ext (.l 4) 0),
 vA (.ext (.l 4) 1),
 vA (.lfa (.sl 14) 1),
 vA (.lst (.lo 7) (.l 5) 1),
 vB 12 (.mov (.l 6))] none)
 (.seq (.reg [vA (.mov (.s 12)),
 vB 5 (.bin .neq (.l 0) (cI 0))] none)
 (.cond (.s 5) (.seq (.reg [vA (.agc [(.i .i64 0), (.i .i64 0), (.i .i64 0), .nil, (.i .i64 0), (.i .i64 0), (.i .i64 0), (.i .i64 0)] []),
 vA (.mov (.s 12)),
 vA (.lst (.sl 2) (.l 0) 8),
 vB 3 (.mov (.l 1))] none)
 .ret)
 .skip)))
 (.seq (.seq (.reg [vA (.fad (.s 11) 0),
 vA (.ld (.l 0) 3 true),
 vA (.mov (.s 13)),
 vA (.bin .add (.l 2) (cI 12)),
 vA (.call 27 [(.l 1), (.l 3)]),
 vA (.mov (.l 4)),
 vA (.ext (.l 5) 0),
 vA (.ext (.l 5) 1),
 vA (.lfa (.sl 14) 2),
 vA (.lst (.lo 8) (.l 6) 1),
 vB 12 (.mov (.l 7))] none)
 (.seq (.reg [vA (.mov (.s 12)),
 vB 6 (.bin .neq (.l 0) (cI 0))] none)
 (.cond (.s 6) (.seq (.reg [vA (.agc [(.i .i64 0), (.i .i64 0), (.i .i64 0), .nil, (.i .i64 0), (.i .i64 0), (.i .i64 0), (.i .i64 0)] []),
 vA (.mov (.s 12)),
 vA (.lst (.sl 2) (.l 0) 8),
 vB 3 (.mov (.l 1))] none)
 .ret)
 .skip)))
 (.seq (.seq (.reg [vA (.mov (.s 13)),
 vA (.fad (.s 11) 0),
 vA (.fad (.l 1) 0),
 vA (.ld (.l 2) 1 false),
 vA (.mx [(.l 0), (.l 3)]),
 vB 15 (.mov (.l 4))] none)
 (.block 0 (.loop v14l0)))
 (.seq (.reg [vB 19 (.mov (.c .nil))] none)
 (.seq (.seq (.reg [vA (.fad (.s 11) 6),
 vB 22 (.ld (.l 0) 1 false),
 vB 21 (.len 1 (.s 22)),
 vB 20 (.mov (cI 0))] none)
 (.block 2 (.loop v14l1)))
 (.seq (.reg [vA (.mov (.s 19)),
 vA (.call 30 [(.l 0), (.c (.fn (.func 31) [] []))]),
 vA (.lfa (.sl 14) 4),
 vA (.lst (.lo 2) (.l 1) 1)] none)
 (.seq (.reg [vA (.mov (.s 19)),
 vA (.call 30 [(.l 0), (.c (.fn (.func 32) [] []))]),
 vA (.lfa (.sl 14) 5),
 vA (.lst (.lo 2) (.l 1) 1)] none)
 (.seq (.reg [vA (.lfa (.sl 14) 4),
 vA (.lld (.lo 0) 1 false),
 vA (.lfa (.sl 14) 5),
 vA (.lld (.lo 2) 1 false),
 vA (.bin .sub (.l 1) (.l 3)),
 vA (.lfa (.sl 14) 6),
 vA (.lst (.lo 5) (.l 4) 1)] none)
 (.seq (.reg [vA (.mov (.s 19)),
 vA (.mkf (.func 33) [] [(.s 11)]),
 vA (.call 30 [(.l 0), (.l 1)]),
 vA (.lfa (.sl 14) 7),
 vA (.lst (.lo 3) (.l 2) 1)] none)
 (.seq (.reg [vA (.lld (.sl 14) 8 true),
 vA (.lst (.sl 2) (.l 0) 8),
 vB 3 (.mov (cI 0))] none)
 .ret))))))))))))))), true, false, none, false⟩
def tm14 : List Nat := [0, 1, 4, 5, 23, 39, 52, 72, 83, 112, 124, 2, 8, 6, 7, 9, 11, 12, 10, 13, 111, 110, 109, 15]
def bs14 : List Nat := [2, 14, 23]
def v15 : VFunc :=
 ⟨0, 1, [.bx 0 7 true],
 (.seq (.reg [vB 0 (.lal [(.i .i64 0), .nil, .nil, (.i .i64 0), (.i .i64 0), (.i .i64 0), .nil])] none)
 (.seq (.reg [vA (.bsl 1 2 [(.i .i64 0)] [(0, (cI 100)), (1, (cI 100))] true),
 vA (.agc [(.i .i64 0), (.i .i64 0), (.i .u8 0), (.i .i64 0)] [(0, 1, (cI 10)), (1, 1, (cI 1501)), (2, 1, (.c (.i .u8 1))), (3, 1, (cI 120))]),
 vA (.bsl 4 1 [(.i .i64 0), (.i .i64 0), (.i .u8 0), (.i .i64 0)] [(0, (.l 1))] true),
 vA (.agc [(.i .i64 0), .nil, .nil] [(0, 1, (cI 1501)), (1, 1, (.l 0)), (2, 1, (.l 2))]),
 vA (.agc [(.i .i64 0), (.i .i64 0), (.i .i64 0), (.i .i64 0), (.i .i64 0)] [(0, 1, (cI 1)), (1, 1, (cI 7)), (2, 1, (cI 120)), (3, 1, (cI 20)), (4, 1, (cI 100))]),
 vA (.agc [(.i .i64 0), (.i .i64 0), (.i .i64 0), (.i .i64 0), (.i .i64 0), (.i .i64 0), (.i .i64 0), (.i .i64 0), (.i .i64 0), (.b false)] [(0, 1, (cI 1501)), (1, 1, (cI 10)), (3, 1, (cI 1)), (4, 5, (.l 4))]),
 vA (.bsl 10 1 [(.i .i64 0), (.i .i64 0), (.i .i64 0), (.i .i64 0), (.i .i64 0), (.i .i64 0), (.i .i64 0), (.i .i64 0), (.i .i64 0), (.b false)] [(0, (.l 5))] true),
 vA (.agc [(.i .i64 0), .nil, .nil, (.i .i64 0), (.i .i64 0), (.i .i64 0), .nil] [(0, 3, (.l 3)), (6, 1, (.l 6))]),
 vA (.lst (.sl 0) (.l 7) 7)] none)
 .ret)), true, false, none, false⟩
def tm15 : List Nat := [0]
def bs15 : List Nat := [0]
def v16l0 : VCode :=
 (.seq (.reg [vB 4 (.bin .lss (.s 7) (.s 8))] none)
 (.seq (.cond (.s 4) .skip
 (.exit 0))
 (.seq (.block 1 (.seq (.reg [vA (.iad (.s 9) (.s 7) 4),
 vA (.ld (.l 0) 4 true),
 vB 10 (.lal [(.i .i64 0), (.i .i64 0), (.i .i64 0), (.i .i64 0)]),
 vA (.lst (.sl 10) (.l 1) 4)] none)
 (.reg [vA (.mki 9 (.c (.s [109, 111, 110, 116, 104]))),
 vA (.lfa (.sl 10) 0),
 vA (.lld (.lo 1) 1 false),
 vA (.call 39 [(.l 2)]),
 vA (.mki 9 (.l 3)),
 vA (.mki 9 (.c (.s [100, 117, 101]))),
 vA (.lfa (.sl 10) 1),
 vA (.lld (.lo 6) 1 false),
 vA (.mki 3 (.l 7)),
 vA (.mki 9 (.c (.s [112, 111, 115, 116, 101, 100]))),
 vA (.lfa (.sl 10) 2),
 vA (.lld (.lo 10) 1 false),
 vA (.mki 3 (.l 11)),
 vA (.mki 9 (.c (.s [111, 112, 101, 110]))),
 vA (.lfa (.sl 10) 3),
 vA (.lld (.lo 14) 1 false),
 vA (.mki 3 (.l 15)),
 vA (.bsv 1 8 [.ni] [(0, (.l 0)), (1, (.l 4)), (2, (.l 5)), (3, (.l 8)), (4, (.l 9)), (5, (.l 12)), (6, (.l 13)), (7, (.l 16))]),
 vA (.call 38 [(.l 17)]),
 vA (.call 37 [(.s 6), (.l 18)])] (some false))))
 (.reg [vA (.bin .add (.s 7) (cI 1)),
 vB 7 (.mov (.l 0))] none))))
def v16 : VFunc :=
 ⟨1, 11, [.s 1, .s 2],
 (.seq (.reg [vB 5 (.lbx (.s 0) 8),
 vB 1 (.mov (.c (.s []))),
 vB 2 (.mov (cI 0))] none)
 (.seq (.seq (.reg [vA (.lld (.sl 5) 8 true),
 vA (.call 36 [(.l 0)]),
 vB 3 (.un .not (.l 1))] none)
 (.cond (.s 3) (.seq (.reg [vB 1 (.mov (.c (.s []))),
 vB 2 (.mov (cI 2))] none)
 .ret)
 .skip))
 (.seq (.reg [vB 6 (.hal 81 [.np, .nil])] none)
 (.seq (.reg [vA (.mki 9 (.c (.s [115, 116, 97, 116, 101, 109, 101, 110, 116]))),
 vA (.lfa (.sl 5) 0),
 vA (.lld (.lo 1) 1 false),
 vA (.mki 3 (.l 2)),
 vA (.bsv 1 2 [.ni] [(0, (.l 0)), (1, (.l 3))]),
 vA (.call 38 [(.l 4)]),
 vA (.call 37 [(.s 6), (.l 5)])] none)
 (.seq (.reg [vA (.mki 9 (.c (.s [98, 101, 102, 111, 114, 101]))),
 vA (.lfa (.sl 5) 1),
 vA (.lld (.lo 1) 1 false),
 vA (.mki 3 (.l 2)),
 vA (.bsv 1 2 [.ni] [(0, (.l 0)), (1, (.l 3))]),
 vA (.call 38 [(.l 4)]),
 vA (.call 37 [(.s 6), (.l 5)])] none)
 (.seq (.seq (.reg [vA (.lfa (.sl 5) 3),
 vB 9 (.lld (.lo 0) 1 false),
 vB 8 (.len 1 (.s 9)),
 vB 7 (.mov (cI 0))] none)
 (.block 0 (.loop v16l0)))
 (.seq (.reg [vA (.mki 9 (.c (.s [103, 114, 111, 115, 115]))),
 vA (.lfa (.sl 5) 4),
 vA (.lld (.lo 1) 1 false),
 vA (.mki 3 (.l 2)),
 vA (.mki 9 (.c (.s [116, 97, 120]))),
 vA (.lfa (.sl 5) 5),
 vA (.lld (.lo 5) 1 false),
 vA (.mki 3 (.l 6)),
 vA (.mki 9 (.c (.s [110, 101, 116]))),
 vA (.lfa (.sl 5) 6),
 vA (.lld (.lo 9) 1 false),
 vA (.mki 3 (.l 10)),
 vA (.mki 9 (.c (.s [105, 110, 116, 101, 114, 101, 115, 116]))),
 vA (.lfa (.sl 5) 7),
 vA (.lld (.lo 13) 1 false),
 vA (.mki 3 (.l 14)),
 vA (.bsv 1 8 [.ni] [(0, (.l 0)), (1, (.l 3)), (2, (.l 4)), (3, (.l 7)), (4, (.l 8)), (5, (.l 11)), (6, (.l 12)), (7, (.l 15))]),
 vA (.call 38 [(.l 16)]),
 vA (.call 37 [(.s 6), (.l 17)])] none)
 (.seq (.reg [vA (.mki 9 (.c (.s [97, 102, 116, 101, 114]))),
 vA (.lfa (.sl 5) 2),
 vA (.lld (.lo 1) 1 false),
 vA (.mki 3 (.l 2)),
 vA (.bsv 1 2 [.ni] [(0, (.l 0)), (1, (.l 3))]),
 vA (.call 38 [(.l 4)]),
 vA (.call 37 [(.s 6), (.l 5)])] none)
 (.seq (.reg [vA (.call 40 [(.s 6)]),
 vB 1 (.mov (.l 0)),
 vB 2 (.mov (cI 0))] none)
 .ret))))))))), true, false, none, false⟩
def tm16 : List Nat := [0, 2, 3, 9, 28, 1, 4, 27, 26, 25, 6]
def bs16 : List Nat := [5, 10]
def v17 : VFunc :=
 ⟨1, 8, [.s 1],
 (.seq (.reg [vB 2 (.lbx (.s 0) 8),
 vB 1 (.mov (.c (.b false)))] none)
 (.seq (.reg [vA (.lld (.sl 2) 8 true),
 vA (.call 41 [(.l 0)]),
 vA (.call 13 [(.l 1)]),
 vB 3 (.lal [(.i .i64 0), (.i .i64 0), (.i .i64 0), .nil, (.i .i64 0), (.i .i64 0), (.i .i64 0), (.i .i64 0)]),
 vA (.lst (.sl 3) (.l 2) 8)] none)
 (.seq (.reg [vA (.lld (.sl 3) 8 true),
 vA (.call 16 [(.l 0)]),
 vA (.mov (.l 1)),
 vA (.ext (.l 2) 0),
 vA (.ext (.l 2) 1),
 vB 4 (.mov (.l 3)),
 vB 6 (.mov (.l 4))] none)
 (.seq (.reg [vA (.lld (.sl 2) 8 true),
 vA (.call 41 [(.l 0)]),
 vA (.call 42 [(.l 1)]),
 vA (.mov (.l 2)),
 vA (.ext (.l 3) 0),
 vA (.ext (.l 3) 1),
 vB 5 (.mov (.l 4)),
 vB 7 (.mov (.l 5))] none)
 (.seq (.reg [vA (.mov (.s 4)),
 vA (.mov (.s 5)),
 vA (.bin .eql (.l 0) (.l 1)),
 vA (.mov (.l 2)),
 vG 3 true (.mov (.s 6)),
 vG 3 true (.mov (.s 7)),
 vG 3 true (.bin .eql (.l 4) (.l 5)),
 vA (.pick (.l 3) (.l 6) (.c (.b false))),
 vA (.mov (.l 7)),
 vG 8 true (.lld (.sl 3) 8 true),
 vG 8 true (.call 36 [(.l 9)]),
 vG 8 true (.lld (.sl 2) 8 true),
 vG 8 true (.call 41 [(.l 11)]),
 vG 8 true (.call 23 [(.l 12)]),
 vG 8 true (.eqv false .b (.l 10) (.l 13)),
 vA (.pick (.l 8) (.l 14) (.c (.b false))),
 vA (.mov (.l 15)),
 vG 16 true (.lld (.sl 3) 8 true),
 vG 16 true (.lld (.sl 2) 8 true),
 vG 16 true (.call 12 [(.l 17), (.l 18)]),
 vA (.pick (.l 16) (.l 19) (.c (.b false))),
 vB 1 (.mov (.l 20))] (some false))
 .ret))))), true, false, none, false⟩
def tm17 : List Nat := [0, 2, 1, 3, 4, 6, 5, 7]
def bs17 : List Nat := [2, 3]
def v18 : VFunc :=
 ⟨2, 9, [.s 2],
 (.seq (.reg [vB 3 (.lbx (.s 0) 7),
 vB 2 (.mov (.c (.b false)))] none)
 (.seq (.reg [vA (.lld (.sl 3) 7 true),
 vA (.call 43 [(.l 0)]),
 vB 4 (.lal [(.i .i64 0), .nil, .nil, (.i .i64 0), (.i .i64 0), (.i .i64 0), .nil]),
 vA (.lst (.sl 4) (.l 1) 7)] none)
 (.seq (.reg [vA (.lld (.sl 4) 7 true),
 vA (.mov (.s 1)),
 vA (.call 14 [(.l 0), (.l 1)]),
 vA (.mov (.l 2)),
 vA (.ext (.l 3) 0),
 vA (.ext (.l 3) 1),
 vB 7 (.lal [(.i .i64 0), (.i .i64 0), (.i .i64 0), .nil, (.i .i64 0), (.i .i64 0), (.i .i64 0), (.i .i64 0)]),
 vA (.lst (.sl 7) (.l 4) 8),
 vB 5 (.mov (.l 5))] none)
 (.seq (.reg [vA (.lld (.sl 3) 7 true),
 vA (.call 45 [(.l 0)]),
 vA (.mov (.s 1)),
 vA (.call 44 [(.l 1), (.l 2)]),
 vA (.mov (.l 3)),
 vA (.ext (.l 4) 0),
 vA (.ext (.l 4) 1),
 vB 8 (.lal [(.i .i64 0), (.i .i64 0), (.i .i64 0), .nil, (.i .i64 0), (.i .i64 0), (.i .i64 0), (.i .i64 0)]),
 vA (.lst (.sl 8) (.l 5) 8),
 vB 6 (.mov (.l 6))] none)
 (.seq (.reg [vA (.mov (.s 5)),
 vA (.mov (.s 6)),
 vA (.bin .eql (.l 0) (.l 1)),
 vA (.mov (.l 2)),
 vG 3 true (.lld (.sl 7) 8 true),
 vG 3 true (.lld (.sl 8) 8 true),
 vG 3 true (.call 13 [(.l 5)]),
 vG 3 true (.call 12 [(.l 4), (.l 6)]),
 vA (.pick (.l 3) (.l 7) (.c (.b false))),
 vA (.mov (.l 8)),
 vG 9 true (.lld (.sl 4) 7 true),
 vG 9 true (.lld (.sl 3) 7 true),
 vG 9 true (.call 46 [(.l 10), (.l 11)]),
 vA (.pick (.l 9) (.l 12) (.c (.b false))),
 vB 2 (.mov (.l 13))] (some false))
 .ret))))), true, false, none, false⟩
def tm18 : List Nat := [0, 1, 4, 2, 5, 7, 9, 6, 8]
def bs18 : List Nat := [3, 4, 7, 8]
def v19d : Dfr :=
 ⟨(.reg [vB 1 (.hal 28 [(.i .i64 0), (.i .i64 0), (.i .i64 0), .nil, (.i .i64 0), (.i .i64 0), (.i .i64 0), (.i .i64 0)]),
 vB 2 (.hal 4 [(.b false)])] none), [1, 2], 47, 4, 3,
 (.seq (.reg [vA (.mov (.s 3)),
 vB 2 (.eqv true .ifc (.l 0) (.c .ni))] none)
 (.cond (.s 2) (.reg [vA (.agc [(.i .i64 0), (.i .i64 0), (.i .i64 0), .nil, (.i .i64 0), (.i .i64 0), (.i .i64 0), (.i .i64 0)] []),
 vA (.st (.s 0) (.l 0) 8),
 vA (.st (.s 1) (.c (.b false)) 1)] none)
 .skip)), [0, 1, 5, 2], []⟩
def v19 : VFunc :=
 ⟨1, 4, [.hb 1 8 true, .hb 2 1 false],
 (.seq (.reg [vA (.mov (.s 0)),
 vA (.agc [(.s [])] [(0, 1, (.l 0))]),
 vB 3 (.hal 101 [(.s [])]),
 vA (.st (.s 3) (.l 1) 1)] none)
 (.seq (.reg [vA (.call 48 [(.s 3)]),
 vA (.st (.s 1) (.l 0) 8)] none)
 (.seq (.reg [vA (.ldq (.s 1) 8 true),
 vA (.fad (.s 3) 0),
 vA (.ld (.l 1) 1 false),
 vA (.bin .eql (.l 2) (.c (.s []))),
 vA (.st (.s 1) (.l 0) 8),
 vA (.st (.s 2) (.l 3) 1)] (some true))
 .ret))), true, false, (some v19d), false⟩
def tm19 : List Nat := [0, 2, 3, 4]
def bs19 : List Nat := []
def v20l0 : VCode :=
 (.seq (.seq (.reg [vA (.mov (.s 5)),
 vA (.mov (.s 0)),
 vA (.len 0 (.l 1)),
 vB 2 (.bin .lss (.l 0) (.l 2))] none)
 (.cond (.s 2) .skip
 (.exit 0)))
 (.seq (.block 1 (.seq (.reg [vA (.mov (.s 0)),
 vA (.mov (.s 5)),
 vA (.ixs (.l 0) (.l 1)),
 vA (.bin .eql (.l 2) (.c (.i .u8 32))),
 vA (.mov (.l 3)),
 vG 4 false (.mov (.s 0)),
 vG 4 false (.mov (.s 5)),
 vG 4 false (.ixs (.l 5) (.l 6)),
 vG 4 false (.bin .eql (.l 7) (.c (.i .u8 10))),
 vB 3 (.pick (.l 4) (.c (.b true)) (.l 8))] none)
 (.cond (.s 3) (.reg [vA (.mov (.s 4)),
 vA (.bsv 1 1 [(.s [])] [(0, (.c (.s [])))]),
 vA (.app (.l 0) (.l 1) 1 16 true),
 vB 4 (.mov (.l 2))] none)
 (.reg [vA (.mov (.s 4)),
 vA (.mov (.s 4)),
 vA (.len 1 (.l 1)),
 vA (.bin .sub (.l 2) (cI 1)),
 vA (.mov (.s 4)),
 vA (.mov (.s 4)),
 vA (.len 1 (.l 5)),
 vA (.bin .sub (.l 6) (cI 1)),
 vA (.iad (.l 4) (.l 7) 1),
 vA (.ld (.l 8) 1 false),
 vA (.mov (.s 0)),
 vA (.mov (.s 5)),
 vA (.mov (.s 5)),
 vA (.bin .add (.l 12) (cI 1)),
 vA (.sli true 0 (.l 10) (some (.l 11)) (some (.l 13)) none),
 vA (.bin .add (.l 9) (.l 14)),
 vA (.iad (.l 0) (.l 3) 1),
 vA (.st (.l 16) (.l 15) 1)] (some false)))))
 (.reg [vA (.mov (.s 5)),
 vA (.bin .add (.l 0) (cI 1)),
 vB 5 (.mov (.l 1))] none)))
def v20 : VFunc :=
 ⟨1, 6, [.s 1],
 (.seq (.reg [vB 1 (.mov (.c .nil))] none)
 (.seq (.reg [vA (.bsl 1 1 [(.s [])] [(0, (.c (.s [])))] true),
 vB 4 (.mov (.l 0))] none)
 (.seq (.seq (.reg [vB 5 (.mov (cI 0))] none)
 (.block 0 (.loop v20l0)))
 (.seq (.reg [vA (.mov (.s 4)),
 vB 1 (.mov (.l 0))] none)
 .ret)))), true, false, none, false⟩
def tm20 : List Nat := [0, 2, 9, 21, 3, 4]
def bs20 : List Nat := []
def v21 : VFunc :=
 ⟨2, 9, [.s 2],
 (.seq (.reg [vB 2 (.mov (cI 0))] none)
 (.seq (.seq (.reg [vA (.mov (.s 1)),
 vA (.mov (.s 0)),
 vA (.len 1 (.l 1)),
 vB 3 (.bin .geq (.l 0) (.l 2))] none)
 (.cond (.s 3) (.seq (.reg [vB 2 (.mov (cI 0))] none)
 .ret)
 .skip))
 (.seq (.reg [vA (.mov (.s 0)),
 vA (.mov (.s 1)),
 vA (.iad (.l 0) (.l 1) 1),
 vA (.ld (.l 2) 1 false),
 vA (.call 49 [(.l 3)]),
 vA (.mov (.l 4)),
 vA (.ext (.l 5) 0),
 vA (.ext (.l 5) 1),
 vB 5 (.lal [(.b false), .nil]),
 vA (.lst (.sl 5) (.l 6) 2),
 vB 6 (.mov (.l 7))] none)
 (.seq (.reg [vA (.lld (.sl 5) 2 true),
 vA (.call 50 [(.l 0)]),
 vA (.mov (.l 1)),
 vA (.ext (.l 2) 0),
 vA (.ext (.l 2) 1),
 vB 8 (.mov (.l 3)),
 vB 7 (.mov (.l 4))] none)
 (.seq (.seq (.reg [vA (.mov (.s 6)),
 vA (.bin .neq (.l 0) (cI 0)),
 vA (.mov (.l 1)),
 vG 2 false (.mov (.s 7)),
 vG 2 false (.bin .neq (.l 3) (cI 0)),
 vB 4 (.pick (.l 2) (.c (.b true)) (.l 4))] none)
 (.cond (.s 4) (.seq (.reg [vB 2 (.mov (cI 0))] none)
 .ret)
 .skip))
 (.seq (.reg [vA (.mov (.s 8)),
 vB 2 (.mov (.l 0))] none)
 .ret)))))), true, false, none, false⟩
def tm21 : List Nat := [0, 1, 4, 12, 31, 5, 6, 8, 7]
def bs21 : List Nat := [5]
def v22 : VFunc :=
 ⟨1, 3, [.s 1],
 (.seq (.reg [vB 1 (.mov (.c (.s [])))] none)
 (.seq (.reg [vA (.mov (.s 0)),
 vA (.bin .rem (.l 0) (cI 12)),
 vA (.call 51 [(.l 1)]),
 vA (.mov (.l 2)),
 vA (.ext (.l 3) 0),
 vA (.ext (.l 3) 1),
 vB 2 (.mov (.l 4)),
 vA (.mov (.l 5))] none)
 (.seq (.reg [vA (.mov (.s 0)),
 vA (.bin .quo (.l 0) (cI 12)),
 vA (.bin .add (cI 1900) (.l 1)),
 vA (.call 52 [(.l 2)]),
 vA (.mov (.s 2)),
 vA (.call 53 [(.l 4)]),
 vA (.sli true 0 (.l 5) (some (cI 4)) (some (cI 7)) none),
 vA (.bin .add (.l 3) (.l 6)),
 vB 1 (.mov (.l 7))] none)
 .ret))), true, false, none, false⟩
def tm22 : List Nat := [0, 2, 3]
def bs22 : List Nat := []
def v23l0 : VCode :=
 (.seq (.seq (.reg [vA (.mov (.s 7)),
 vA (.lfa (.sl 5) 3),
 vA (.lld (.lo 1) 1 false),
 vA (.len 1 (.l 2)),
 vB 3 (.bin .lss (.l 0) (.l 3))] none)
 (.cond (.s 3) .skip
 (.exit 0)))
 (.seq (.block 1 (.seq (.reg [vA (.lfa (.sl 5) 3),
 vA (.lld (.lo 0) 1 false),
 vA (.mov (.s 7)),
 vA (.iad (.l 1) (.l 2) 4),
 vA (.ld (.l 3) 4 true),
 vB 8 (.lal [(.i .i64 0), (.i .i64 0), (.i .i64 0), (.i .i64 0)]),
 vA (.lst (.sl 8) (.l 4) 4)] none)
 (.seq (.seq (.reg [vA (.lfa (.sl 8) 0),
 vA (.lld (.lo 0) 1 false),
 vA (.lfa (.sl 5) 0),
 vA (.lld (.lo 2) 1 false),
 vA (.call 55 [(.l 1), (.l 3)]),
 vA (.un .not (.l 4)),
 vA (.mov (.l 5)),
 vG 6 false (.mov (.s 7)),
 vG 6 false (.bin .gtr (.l 7) (cI 0)),
 vG 6 false (.mov (.l 8)),
 vG 9 true (.lfa (.sl 5) 3),
 vG 9 true (.lld (.lo 10) 1 false),
 vG 9 true (.mov (.s 7)),
 vG 9 true (.bin .sub (.l 12) (cI 1)),
 vG 9 true (.iad (.l 11) (.l 13) 4),
 vG 9 true (.fad (.l 14) 0),
 vG 9 true (.ld (.l 15) 1 false),
 vG 9 true (.bin .add (.l 16) (cI 1)),
 vG 9 true (.lfa (.sl 8) 0),
 vG 9 true (.lld (.lo 18) 1 false),
 vG 9 true (.bin .neq (.l 17) (.l 19)),
 vG 6 false (.pick (.l 9) (.l 20) (.c (.b false))),
 vA (.pick (.l 6) (.c (.b true)) (.l 21)),
 vA (.mov (.l 22)),
 vG 23 false (.lfa (.sl 8) 1),
 vG 23 false (.lld (.lo 24) 1 false),
 vG 23 false (.bin .lss (.l 25) (cI 0)),
 vA (.pick (.l 23) (.c (.b true)) (.l 26)),
 vA (.mov (.l 27)),
 vG 28 false (.lfa (.sl 8) 1),
 vG 28 false (.lld (.lo 29) 1 false),
 vG 28 false (.bin .gtr (.l 30) (cI 1099511627776)),
 vA (.pick (.l 28) (.c (.b true)) (.l 31)),
 vA (.mov (.l 32)),
 vG 33 false (.lfa (.sl 8) 2),
 vG 33 false (.lld (.lo 34) 1 false),
 vG 33 false (.call 54 [(.l 35)]),
 vG 33 false (.un .not (.l 36)),
 vA (.pick (.l 33) (.c (.b true)) (.l 37)),
 vA (.mov (.l 38)),
 vG 39 false (.lfa (.sl 8) 3),
 vG 39 false (.lld (.lo 40) 1 false),
 vG 39 false (.call 54 [(.l 41)]),
 vG 39 false (.un .not (.l 42)),
 vA (.pick (.l 39) (.c (.b true)) (.l 43)),
 vA (.mov (.l 44)),
 vG 45 false (.lfa (.sl 8) 2),
 vG 45 false (.lld (.lo 46) 1 false),
 vG 45 false (.lfa (.sl 8) 3),
 vG 45 false (.lld (.lo 48) 1 false),
 vG 45 false (.bin .add (.l 47) (.l 49)),
 vG 45 false (.lfa (.sl 8) 1),
 vG 45 false (.lld (.lo 51) 1 false),
 vG 45 false (.bin .neq (.l 50) (.l 52)),
 vB 4 (.pick (.l 45) (.c (.b true)) (.l 53))] (some false))
 (.cond (.s 4) (.seq (.reg [vB 1 (.mov (.c (.b false)))] none)
 .ret)
 .skip))
 (.reg [vA (.mov (.s 6)),
 vA (.lfa (.sl 8) 3),
 vA (.lld (.lo 1) 1 false),
 vA (.bin .add (.l 0) (.l 2)),
 vB 6 (.mov (.l 3))] none))))
 (.reg [vA (.mov (.s 7)),
 vA (.bin .add (.l 0) (cI 1)),
 vB 7 (.mov (.l 1))] none)))
def v23 : VFunc :=
 ⟨1, 9, [.s 1],
 (.seq (.reg [vB 5 (.lbx (.s 0) 8),
 vB 1 (.mov (.c (.b false)))] none)
 (.seq (.seq (.reg [vA (.lfa (.sl 5) 0),
 vA (.lld (.lo 0) 1 false),
 vA (.bin .lss (.l 1) (cI 1900)),
 vA (.mov (.l 2)),
 vG 3 false (.lfa (.sl 5) 0),
 vG 3 false (.lld (.lo 4) 1 false),
 vG 3 false (.bin .gtr (.l 5) (cI 2079)),
 vA (.pick (.l 3) (.c (.b true)) (.l 6)),
 vA (.mov (.l 7)),
 vG 8 false (.lfa (.sl 5) 1),
 vG 8 false (.lld (.lo 9) 1 false),
 vG 8 false (.call 54 [(.l 10)]),
 vG 8 false (.un .not (.l 11)),
 vA (.pick (.l 8) (.c (.b true)) (.l 12)),
 vA (.mov (.l 13)),
 vG 14 false (.lfa (.sl 5) 2),
 vG 14 false (.lld (.lo 15) 1 false),
 vG 14 false (.call 54 [(.l 16)]),
 vG 14 false (.un .not (.l 17)),
 vA (.pick (.l 14) (.c (.b true)) (.l 18)),
 vA (.mov (.l 19)),
 vG 20 false (.lfa (.sl 5) 4),
 vG 20 false (.lld (.lo 21) 1 false),
 vG 20 false (.call 54 [(.l 22)]),
 vG 20 false (.un .not (.l 23)),
 vA (.pick (.l 20) (.c (.b true)) (.l 24)),
 vA (.mov (.l 25)),
 vG 26 false (.lfa (.sl 5) 5),
 vG 26 false (.lld (.lo 27) 1 false),
 vG 26 false (.call 54 [(.l 28)]),
 vG 26 false (.un .not (.l 29)),
 vA (.pick (.l 26) (.c (.b true)) (.l 30)),
 vA (.mov (.l 31)),
 vG 32 false (.lfa (.sl 5) 6),
 vG 32 false (.lld (.lo 33) 1 false),
 vG 32 false (.call 54 [(.l 34)]),
 vG 32 false (.un .not (.l 35)),
 vA (.pick (.l 32) (.c (.b true)) (.l 36)),
 vA (.mov (.l 37)),
 vG 38 false (.lfa (.sl 5) 7),
 vG 38 false (.lld (.lo 39) 1 false),
 vG 38 false (.call 54 [(.l 40)]),
 vG 38 false (.un .not (.l 41)),
 vB 2 (.pick (.l 38) (.c (.b true)) (.l 42))] none)
 (.cond (.s 2) (.seq (.reg [vB 1 (.mov (.c (.b false)))] none)
 .ret)
 .skip))
 (.seq (.reg [vA (.lfa (.sl 5) 1),
 vA (.lld (.lo 0) 1 false),
 vB 6 (.mov (.l 1))] none)
 (.seq (.seq (.reg [vB 7 (.mov (cI 0))] none)
 (.block 0 (.loop v23l0)))
 (.seq (.reg [vA (.mov (.s 6)),
 vA (.lfa (.sl 5) 2),
 vA (.lld (.lo 1) 1 false),
 vA (.bin .eql (.l 0) (.l 2)),
 vA (.mov (.l 3)),
 vG 4 true (.lfa (.sl 5) 4),
 vG 4 true (.lld (.lo 5) 1 false),
 vG 4 true (.lfa (.sl 5) 5),
 vG 4 true (.lld (.lo 7) 1 false),
 vG 4 true (.lfa (.sl 5) 6),
 vG 4 true (.lld (.lo 9) 1 false),
 vG 4 true (.bin .add (.l 8) (.l 10)),
 vG 4 true (.bin .eql (.l 6) (.l 11)),
 vA (.pick (.l 4) (.l 12) (.c (.b false))),
 vB 1 (.mov (.l 13))] none)
 .ret))))), true, false, none, false⟩
def tm23 : List Nat := [0, 2, 49, 56, 118, 1, 3, 4, 5]
def bs23 : List Nat := [5, 8]
def v24l0 : VCode :=
 (.seq (.seq (.reg [vA (.mov (.s 5)),
 vA (.lfa (.sl 3) 3),
 vA (.lld (.lo 1) 1 false),
 vA (.len 1 (.l 2)),
 vB 2 (.bin .lss (.l 0) (.l 3))] none)
 (.cond (.s 2) .skip
 (.exit 0)))
 (.seq (.block 1 (.seq (.reg [vA (.lfa (.sl 3) 3),
 vA (.lld (.lo 0) 1 false),
 vA (.mov (.s 5)),
 vA (.iad (.l 1) (.l 2) 4),
 vA (.ld (.l 3) 4 true),
 vB 6 (.lal [(.i .i64 0), (.i .i64 0), (.i .i64 0), (.i .i64 0)]),
 vA (.lst (.sl 6) (.l 4) 4)] none)
 (.reg [vA (.mov (.s 4)),
 vA (.bin .add (.l 0) (.c (.s [109, 111, 110, 116, 104, 32]))),
 vA (.lfa (.sl 6) 0),
 vA (.lld (.lo 2) 1 false),
 vA (.call 22 [(.l 3)]),
 vA (.bin .add (.l 1) (.l 4)),
 vA (.bin .add (.l 5) (.c (.s [32, 100, 117, 101, 32]))),
 vA (.lfa (.sl 6) 1),
 vA (.lld (.lo 7) 1 false),
 vA (.call 52 [(.l 8)]),
 vA (.bin .add (.l 6) (.l 9)),
 vA (.bin .add (.l 10) (.c (.s [32, 112, 111, 115, 116, 101, 100, 32]))),
 vA (.lfa (.sl 6) 2),
 vA (.lld (.lo 12) 1 false),
 vA (.call 52 [(.l 13)]),
 vA (.bin .add (.l 11) (.l 14)),
 vA (.bin .add (.l 15) (.c (.s [32, 111, 112, 101, 110, 32]))),
 vA (.lfa (.sl 6) 3),
 vA (.lld (.lo 17) 1 false),
 vA (.call 52 [(.l 18)]),
 vA (.bin .add (.l 16) (.l 19)),
 vA (.bin .add (.l 20) (.c (.s [10]))),
 vB 4 (.mov (.l 21))] (some false))))
 (.reg [vA (.mov (.s 5)),
 vA (.bin .add (.l 0) (cI 1)),
 vB 5 (.mov (.l 1))] none)))
def v24 : VFunc :=
 ⟨1, 7, [.s 1],
 (.seq (.reg [vB 3 (.lbx (.s 0) 8),
 vB 1 (.mov (.c (.s [])))] none)
 (.seq (.reg [vA (.lfa (.sl 3) 0),
 vA (.lld (.lo 0) 1 false),
 vA (.call 52 [(.l 1)]),
 vA (.bin .add (.c (.s [115, 116, 97, 116, 101, 109, 101, 110, 116, 32])) (.l 2)),
 vA (.bin .add (.l 3) (.c (.s [10, 98, 101, 102, 111, 114, 101, 32]))),
 vA (.lfa (.sl 3) 1),
 vA (.lld (.lo 5) 1 false),
 vA (.call 52 [(.l 6)]),
 vA (.bin .add (.l 4) (.l 7)),
 vA (.bin .add (.l 8) (.c (.s [10]))),
 vB 4 (.mov (.l 9))] (some false))
 (.seq (.seq (.reg [vB 5 (.mov (cI 0))] none)
 (.block 0 (.loop v24l0)))
 (.seq (.reg [vA (.mov (.s 4)),
 vA (.bin .add (.l 0) (.c (.s [103, 114, 111, 115, 115, 32]))),
 vA (.lfa (.sl 3) 4),
 vA (.lld (.lo 2) 1 false),
 vA (.call 52 [(.l 3)]),
 vA (.bin .add (.l 1) (.l 4)),
 vA (.bin .add (.l 5) (.c (.s [32, 116, 97, 120, 32]))),
 vA (.lfa (.sl 3) 5),
 vA (.lld (.lo 7) 1 false),
 vA (.call 52 [(.l 8)]),
 vA (.bin .add (.l 6) (.l 9)),
 vA (.bin .add (.l 10) (.c (.s [32, 110, 101, 116, 32]))),
 vA (.lfa (.sl 3) 6),
 vA (.lld (.lo 12) 1 false),
 vA (.call 52 [(.l 13)]),
 vA (.bin .add (.l 11) (.l 14)),
 vA (.bin .add (.l 15) (.c (.s [32, 105, 110, 116, 101, 114, 101, 115, 116, 32]))),
 vA (.lfa (.sl 3) 7),
 vA (.lld (.lo 17) 1 false),
 vA (.call 52 [(.l 18)]),
 vA (.bin .add (.l 16) (.l 19)),
 vA (.bin .add (.l 20) (.c (.s [10, 97, 102, 116, 101, 114, 32]))),
 vA (.lfa (.sl 3) 2),
 vA (.lld (.lo 22) 1 false),
 vA (.call 52 [(.l 23)]),
 vA (.bin .add (.l 21) (.l 24)),
 vA (.bin .add (.l 25) (.c (.s [10]))),
 vB 1 (.mov (.l 26))] (some false))
 .ret)))), true, false, none, false⟩
def tm24 : List Nat := [0, 2, 20, 1, 3, 4, 5]
def bs24 : List Nat := [3, 6]
def v25l0 : VCode :=
 (.seq (.reg [vB 4 (.bin .lss (.s 12) (.s 13))] none)
 (.seq (.cond (.s 4) .skip
 (.exit 0))
 (.seq (.block 1 (.seq (.reg [vA (.iad (.s 14) (.s 12) 10),
 vA (.ld (.l 0) 10 true),
 vB 15 (.lal [(.i .i64 0), (.i .i64 0), (.i .i64 0), (.i .i64 0), (.i .i64 0), (.i .i64 0), (.i .i64 0), (.i .i64 0), (.i .i64 0), (.b false)]),
 vA (.lst (.sl 15) (.l 1) 10)] none)
 (.seq (.seq (.reg [vA (.lfa (.sl 15) 0),
 vA (.lld (.lo 0) 1 false),
 vA (.mov (.s 9)),
 vA (.bin .leq (.l 1) (.l 2)),
 vA (.mov (.l 3)),
 vG 4 false (.lfa (.sl 15) 4),
 vG 4 false (.lfa (.lo 5) 0),
 vG 4 false (.lld (.lo 6) 1 false),
 vG 4 false (.mov (.s 10)),
 vG 4 false (.bin .leq (.l 7) (.l 8)),
 vB 5 (.pick (.l 4) (.c (.b true)) (.l 9))] none)
 (.cond (.s 5) (.seq (.reg [vB 1 (.mov (.c (.b false)))] none)
 .ret)
 .skip))
 (.seq (.seq (.reg [vA (.lfa (.sl 15) 2),
 vA (.lld (.lo 0) 1 false),
 vA (.mov (.s 11)),
 vA (.bin .lss (.l 1) (.l 2)),
 vA (.mov (.l 3)),
 vG 4 false (.lfa (.sl 15) 3),
 vG 4 false (.lld (.lo 5) 1 false),
 vG 4 false (.lfa (.sl 15) 2),
 vG 4 false (.lld (.lo 7) 1 false),
 vG 4 false (.bin .lss (.l 6) (.l 8)),
 vA (.pick (.l 4) (.c (.b true)) (.l 9)),
 vA (.mov (.l 10)),
 vG 11 false (.lfa (.sl 15) 3),
 vG 11 false (.lld (.lo 12) 1 false),
 vG 11 false (.lfa (.sl 8) 0),
 vG 11 false (.lfa (.lo 14) 2),
 vG 11 false (.lld (.lo 15) 1 false),
 vG 11 false (.len 1 (.l 16)),
 vG 11 false (.bin .gtr (.l 13) (.l 17)),
 vB 6 (.pick (.l 11) (.c (.b true)) (.l 18))] none)
 (.cond (.s 6) (.seq (.reg [vB 1 (.mov (.c (.b false)))] none)
 .ret)
 .skip))
 (.seq (.seq (.reg [vA (.lfa (.sl 15) 4),
 vA (.lfa (.lo 0) 2),
 vA (.lld (.lo 1) 1 false),
 vA (.call 57 [(.l 2)]),
 vA (.un .not (.l 3)),
 vA (.mov (.l 4)),
 vG 5 false (.lfa (.sl 15) 4),
 vG 5 false (.lfa (.lo 6) 3),
 vG 5 false (.lld (.lo 7) 1 false),
 vG 5 false (.call 58 [(.l 8)]),
 vG 5 false (.un .not (.l 9)),
 vB 7 (.pick (.l 5) (.c (.b true)) (.l 10))] none)
 (.cond (.s 7) (.seq (.reg [vB 1 (.mov (.c (.b false)))] none)
 .ret)
 .skip))
 (.reg [vA (.lfa (.sl 15) 0),
 vA (.lld (.lo 0) 1 false),
 vA (.lfa (.sl 15) 4),
 vA (.lfa (.lo 2) 0),
 vA (.lld (.lo 3) 1 false),
 vA (.lfa (.sl 15) 3),
 vA (.lld (.lo 5) 1 false),
 vB 9 (.mov (.l 1)),
 vB 10 (.mov (.l 4)),
 vB 11 (.mov (.l 6))] (some false)))))))
 (.reg [vA (.bin .add (.s 12) (cI 1)),
 vB 12 (.mov (.l 0))] none))))
def v25 : VFunc :=
 ⟨1, 16, [.s 1],
 (.seq (.reg [vB 8 (.lbx (.s 0) 7),
 vB 1 (.mov (.c (.b false)))] none)
 (.seq (.seq (.reg [vA (.lfa (.sl 8) 0),
 vA (.lld (.lo 0) 3 true),
 vA (.call 56 [(.l 1)]),
 vA (.un .not (.l 2)),
 vA (.mov (.l 3)),
 vG 4 false (.lfa (.sl 8) 6),
 vG 4 false (.lld (.lo 5) 1 false),
 vG 4 false (.len 1 (.l 6)),
 vG 4 false (.bin .gtr (.l 7) (cI 1200)),
 vB 2 (.pick (.l 4) (.c (.b true)) (.l 8))] none)
 (.cond (.s 2) (.seq (.reg [vB 1 (.mov (.c (.b false)))] none)
 .ret)
 .skip))
 (.seq (.seq (.reg [vA (.lfa (.sl 8) 3),
 vA (.lfa (.lo 0) 0),
 vA (.lld (.lo 1) 1 false),
 vA (.bin .lss (.l 2) (cI 0)),
 vA (.mov (.l 3)),
 vG 4 false (.lfa (.sl 8) 3),
 vG 4 false (.lfa (.lo 5) 0),
 vG 4 false (.lld (.lo 6) 1 false),
 vG 4 false (.bin .gtr (.l 7) (cI 2153)),
 vA (.pick (.l 4) (.c (.b true)) (.l 8)),
 vA (.mov (.l 9)),
 vG 10 false (.lfa (.sl 8) 3),
 vG 10 false (.lfa (.lo 11) 1),
 vG 10 false (.lld (.lo 12) 1 false),
 vG 10 false (.call 57 [(.l 13)]),
 vG 10 false (.un .not (.l 14)),
 vA (.pick (.l 10) (.c (.b true)) (.l 15)),
 vA (.mov (.l 16)),
 vG 17 false (.lfa (.sl 8) 3),
 vG 17 false (.lfa (.lo 18) 2),
 vG 17 false (.lld (.lo 19) 1 false),
 vG 17 false (.call 58 [(.l 20)]),
 vG 17 false (.un .not (.l 21)),
 vB 3 (.pick (.l 17) (.c (.b true)) (.l 22))] none)
 (.cond (.s 3) (.seq (.reg [vB 1 (.mov (.c (.b false)))] none)
 .ret)
 .skip))
 (.seq (.reg [vB 9 (.mov (cI (-1))),
 vB 10 (.mov (cI (-1))),
 vB 11 (.mov (cI 0))] none)
 (.seq (.seq (.reg [vA (.lfa (.sl 8) 6),
 vB 14 (.lld (.lo 0) 1 false),
 vB 13 (.len 1 (.s 14)),
 vB 12 (.mov (cI 0))] none)
 (.block 0 (.loop v25l0)))
 (.seq (.reg [vB 1 (.mov (.c (.b true)))] none)
 .ret)))))), true, false, none, false⟩
def tm25 : List Nat := [0, 2, 17, 41, 46, 59, 79, 91, 1, 3, 4, 5, 45, 44, 43, 7]
def bs25 : List Nat := [8, 15]
def v26 : VFunc :=
 ⟨1, 2, [.s 1],
 (.seq (.reg [vB 1 (.mov (.c (.b false)))] none)
 (.seq (.reg [vA (.mov (.s 0)),
 vA (.bin .leq (cI 1900) (.l 0)),
 vA (.mov (.l 1)),
 vG 2 true (.mov (.s 0)),
 vG 2 true (.bin .leq (.l 3) (cI 2079)),
 vA (.pick (.l 2) (.l 4) (.c (.b false))),
 vB 1 (.mov (.l 5))] none)
 .ret)), true, false, none, false⟩
def tm26 : List Nat := [0, 2]
def bs26 : List Nat := []
def v27 : VFunc :=
 ⟨2, 10, [.s 2, .s 3],
 (.seq (.reg [vB 5 (.lbx (.s 0) 3),
 vB 6 (.hbx 3 (.s 1) 1),
 vB 2 (.mov (cI 0)),
 vB 3 (.mov (cI 0))] none)
 (.seq (.seq (.reg [vA (.lld (.sl 5) 3 true),
 vA (.call 56 [(.l 0)]),
 vB 4 (.un .not (.l 1))] none)
 (.cond (.s 4) (.seq (.reg [vB 2 (.mov (cI 0)),
 vB 3 (.mov (cI 2))] none)
 .ret)
 .skip))
 (.seq (.reg [vA (.ld (.s 6) 1 false),
 vA (.lfa (.sl 5) 0),
 vA (.lld (.lo 1) 1 false),
 vA (.mx [(.l 0), (.l 2)]),
 vA (.lfa (.sl 5) 0),
 vA (.lld (.lo 4) 1 false),
 vA (.lfa (.sl 5) 1),
 vA (.lld (.lo 6) 1 false),
 vA (.len 1 (.l 7)),
 vA (.bin .add (.l 5) (.l 8)),
 vA (.mn [(.l 3), (.l 9)]),
 vB 7 (.mov (.l 10))] none)
 (.seq (.reg [vA (.lfa (.sl 5) 1),
 vA (.lld (.lo 0) 1 false),
 vA (.mov (.s 7)),
 vA (.lfa (.sl 5) 0),
 vA (.lld (.lo 3) 1 false),
 vA (.bin .sub (.l 2) (.l 4)),
 vA (.sli false 1 (.l 1) none (some (.l 5)) none),
 vA (.call 59 [(.l 6), (.c (.fn (.func 60) [] []))]),
 vB 8 (.mov (.l 7))] none)
 (.seq (.reg [vA (.lfa (.sl 5) 2),
 vA (.lld (.lo 0) 1 false),
 vA (.mkf (.func 62) [] [(.s 6)]),
 vA (.call 61 [(.l 1), (.l 2)]),
 vB 9 (.mov (.l 3))] none)
 (.seq (.reg [vA (.mov (.s 8)),
 vA (.mov (.s 9)),
 vA (.bin .sub (.l 0) (.l 1)),
 vB 2 (.mov (.l 2)),
 vB 3 (.mov (cI 0))] none)
 .ret)))))), true, false, none, false⟩
def tm27 : List Nat := [0, 1, 4, 5, 11, 2, 3, 6, 7, 8]
def bs27 : List Nat := [5]
def v28 : VFunc :=
 ⟨2, 7, [.s 2, .s 3],
 (.seq (.reg [vB 6 (.lbx (.s 0) 3),
 vB 2 (.mov (cI 0)),
 vB 3 (.mov (cI 0))] none)
 (.seq (.seq (.reg [vA (.lld (.sl 6) 3 true),
 vA (.call 56 [(.l 0)]),
 vB 4 (.un .not (.l 1))] none)
 (.cond (.s 4) (.seq (.reg [vB 2 (.mov (cI 0)),
 vB 3 (.mov (cI 2))] none)
 .ret)
 .skip))
 (.seq (.seq (.reg [vA (.lld (.sl 6) 3 true),
 vA (.mov (.s 1)),
 vA (.call 64 [(.l 0), (.l 1)]),
 vB 5 (.un .not (.l 2))] none)
 (.cond (.s 5) (.seq (.reg [vB 2 (.mov (cI 0)),
 vB 3 (.mov (cI 6))] none)
 .ret)
 .skip))
 (.seq (.reg [vA (.lld (.sl 6) 3 true),
 vA (.mov (.s 1)),
 vA (.call 65 [(.l 0), (.l 1)]),
 vB 2 (.mov (.l 2)),
 vB 3 (.mov (cI 0))] none)
 .ret)))), true, false, none, false⟩
def tm28 : List Nat := [0, 1, 4, 5, 8, 12, 2]
def bs28 : List Nat := [6]
def v29 : VFunc :=
 ⟨1, 2, [.s 1],
 (.seq (.reg [vB 1 (.mov (cI 0))] none)
 (.seq (.reg [vA (.mov (.s 0)),
 vA (.bin .quo (.l 0) (cI 12)),
 vA (.bin .add (cI 1900) (.l 1)),
 vB 1 (.mov (.l 2))] none)
 .ret)), true, false, none, false⟩
def tm29 : List Nat := [0, 2]
def bs29 : List Nat := []
def v30l0 : VCode :=
 (.seq (.reg [vB 3 (.bin .lss (.s 5) (.s 6))] none)
 (.seq (.cond (.s 3) .skip
 (.exit 0))
 (.seq (.block 1 (.seq (.reg [vA (.iad (.s 7) (.s 5) 10),
 vA (.ld (.l 0) 10 true),
 vB 8 (.lal [(.i .i64 0), (.i .i64 0), (.i .i64 0), (.i .i64 0), (.i .i64 0), (.i .i64 0), (.i .i64 0), (.i .i64 0), (.i .i64 0), (.b false)]),
 vA (.lst (.sl 8) (.l 1) 10)] none)
 (.reg [vA (.mov (.s 4)),
 vA (.mov (.s 1)),
 vA (.lld (.sl 8) 10 true),
 vA (.calv (.l 1) [(.l 2)]),
 vA (.bin .add (.l 0) (.l 3)),
 vB 4 (.mov (.l 4))] none)))
 (.reg [vA (.bin .add (.s 5) (cI 1)),
 vB 5 (.mov (.l 0))] none))))
def v30 : VFunc :=
 ⟨2, 9, [.s 2],
 (.seq (.reg [vB 2 (.mov (cI 0))] none)
 (.seq (.reg [vB 4 (.mov (cI 0))] none)
 (.seq (.seq (.reg [vB 7 (.mov (.s 0)),
 vB 6 (.len 1 (.s 7)),
 vB 5 (.mov (cI 0))] none)
 (.block 0 (.loop v30l0)))
 (.seq (.reg [vA (.mov (.s 4)),
 vB 2 (.mov (.l 0))] none)
 .ret)))), false, false, none, false⟩
def tm30 : List Nat := [0, 1, 4, 11, 5, 10, 9, 8, 7]
def bs30 : List Nat := [8]
def v31 : VFunc :=
 ⟨1, 3, [.s 1],
 (.seq (.reg [vB 2 (.lbx (.s 0) 10),
 vB 1 (.mov (cI 0))] none)
 (.seq (.reg [vA (.lfa (.sl 2) 4),
 vA (.lfa (.lo 0) 2),
 vA (.lld (.lo 1) 1 false),
 vB 1 (.mov (.l 2))] none)
 .ret)), true, false, none, false⟩
def tm31 : List Nat := [0, 2, 1]
def bs31 : List Nat := [2]
def v32 : VFunc :=
 ⟨1, 3, [.s 1],
 (.seq (.reg [vB 2 (.lbx (.s 0) 10),
 vB 1 (.mov (cI 0))] none)
 (.seq (.reg [vA (.lfa (.sl 2) 4),
 vA (.lfa (.lo 0) 3),
 vA (.lld (.lo 1) 1 false),
 vB 1 (.mov (.l 2))] none)
 .ret)), true, false, none, false⟩
def tm32 : List Nat := [0, 2, 1]
def bs32 : List Nat := [2]
def v33 : VFunc :=
 ⟨2, 4, [.s 2],
 (.seq (.reg [vB 3 (.lbx (.s 0) 10),
 vB 2 (.mov (cI 0))] none)
 (.seq (.reg [vA (.fad (.s 1) 0),
 vA (.fad (.l 0) 2),
 vA (.ld (.l 1) 1 false),
 vA (.lfa (.sl 3) 2),
 vA (.lld (.lo 3) 1 false),
 vA (.lfa (.sl 3) 3),
 vA (.lld (.lo 5) 1 false),
 vA (.sli false 4 (.l 2) (some (.l 4)) (some (.l 6)) none),
 vA (.call 34 [(.l 7), (.c (.fn (.func 35) [] []))]),
 vB 2 (.mov (.l 8))] none)
 .ret)), false, false, none, false⟩
def tm33 : List Nat := [0, 1, 3, 2]
def bs33 : List Nat := [3]
def v34l0 : VCode :=
 (.seq (.reg [vB 3 (.bin .lss (.s 5) (.s 6))] none)
 (.seq (.cond (.s 3) .skip
 (.exit 0))
 (.seq (.block 1 (.seq (.reg [vA (.iad (.s 7) (.s 5) 4),
 vA (.ld (.l 0) 4 true),
 vB 8 (.lal [(.i .i64 0), (.i .i64 0), (.i .u8 0), (.i .i64 0)]),
 vA (.lst (.sl 8) (.l 1) 4)] none)
 (.reg [vA (.mov (.s 4)),
 vA (.mov (.s 1)),
 vA (.lld (.sl 8) 4 true),
 vA (.calv (.l 1) [(.l 2)]),
 vA (.bin .add (.l 0) (.l 3)),
 vB 4 (.mov (.l 4))] none)))
 (.reg [vA (.bin .add (.s 5) (cI 1)),
 vB 5 (.mov (.l 0))] none))))
def v34 : VFunc :=
 ⟨2, 9, [.s 2],
 (.seq (.reg [vB 2 (.mov (cI 0))] none)
 (.seq (.reg [vB 4 (.mov (cI 0))] none)
 (.seq (.seq (.reg [vB 7 (.mov (.s 0)),
 vB 6 (.len 1 (.s 7)),
 vB 5 (.mov (cI 0))] none)
 (.block 0 (.loop v34l0)))
 (.seq (.reg [vA (.mov (.s 4)),
 vB 2 (.mov (.l 0))] none)
 .ret)))), false, false, none, false⟩
def tm34 : List Nat := [0, 1, 4, 11, 5, 10, 9, 8, 7]
def bs34 : List Nat := [8]
def v35 : VFunc :=
 ⟨1, 4, [.s 1],
 (.seq (.reg [vB 3 (.lbx (.s 0) 4),
 vB 1 (.mov (cI 0))] none)
 (.seq (.seq (.reg [vA (.lfa (.sl 3) 2),
 vA (.lld (.lo 0) 1 false),
 vB 2 (.bin .neq (.l 1) (.c (.i .u8 3)))] none)
 (.cond (.s 2) (.seq (.reg [vB 1 (.mov (cI 0))] none)
 .ret)
 .skip))
 (.seq (.reg [vA (.lfa (.sl 3) 3),
 vA (.lld (.lo 0) 1 false),
 vB 1 (.mov (.l 1))] none)
 .ret))), true, false, none, false⟩
def tm35 : List Nat := [0, 2, 5, 1]
def bs35 : List Nat := [3]
def v36l0 : VCode :=
 (.seq (.reg [vB 4 (.bin .lss (.s 8) (.s 9))] none)
 (.seq (.cond (.s 4) .skip
 (.exit 0))
 (.seq (.block 1 (.seq (.reg [vA (.mov (.s 8)),
 vA (.iad (.s 10) (.s 8) 4),
 vA (.ld (.l 1) 4 true),
 vB 11 (.lal [(.i .i64 0), (.i .i64 0), (.i .i64 0), (.i .i64 0)]),
 vB 12 (.mov (.l 0)),
 vA (.lst (.sl 11) (.l 2) 4)] none)
 (.seq (.seq (.reg [vA (.lfa (.sl 11) 0),
 vA (.lld (.lo 0) 1 false),
 vA (.bin .lss (.l 1) (cI 0)),
 vA (.mov (.l 2)),
 vG 3 false (.lfa (.sl 11) 0),
 vG 3 false (.lld (.lo 4) 1 false),
 vG 3 false (.call 29 [(.l 5)]),
 vG 3 false (.lfa (.sl 7) 0),
 vG 3 false (.lld (.lo 7) 1 false),
 vG 3 false (.bin .neq (.l 6) (.l 8)),
 vA (.pick (.l 3) (.c (.b true)) (.l 9)),
 vA (.mov (.l 10)),
 vG 11 false (.mov (.s 12)),
 vG 11 false (.bin .gtr (.l 12) (cI 0)),
 vG 11 false (.mov (.l 13)),
 vG 14 true (.lfa (.sl 11) 0),
 vG 14 true (.lld (.lo 15) 1 false),
 vG 14 true (.lfa (.sl 7) 3),
 vG 14 true (.lld (.lo 17) 1 false),
 vG 14 true (.mov (.s 12)),
 vG 14 true (.bin .sub (.l 19) (cI 1)),
 vG 14 true (.iad (.l 18) (.l 20) 4),
 vG 14 true (.fad (.l 21) 0),
 vG 14 true (.ld (.l 22) 1 false),
 vG 14 true (.bin .add (.l 23) (cI 1)),
 vG 14 true (.bin .neq (.l 16) (.l 24)),
 vG 11 false (.pick (.l 14) (.l 25) (.c (.b false))),
 vB 5 (.pick (.l 11) (.c (.b true)) (.l 26))] (some false))
 (.cond (.s 5) (.seq (.reg [vB 1 (.mov (.c (.b false)))] none)
 .ret)
 .skip))
 (.seq (.reg [vA (.lfa (.sl 11) 1),
 vA (.lld (.lo 0) 1 false),
 vA (.bin .lss (.l 1) (cI 0)),
 vA (.mov (.l 2)),
 vG 3 false (.lfa (.sl 11) 1),
 vG 3 false (.lld (.lo 4) 1 false),
 vG 3 false (.bin .gtr (.l 5) (cI 1099511627776)),
 vA (.pick (.l 3) (.c (.b true)) (.l 6)),
 vA (.mov (.l 7)),
 vG 8 false (.lfa (.sl 11) 2),
 vG 8 false (.lld (.lo 9) 1 false),
 vG 8 false (.lfa (.sl 11) 3),
 vG 8 false (.lld (.lo 11) 1 false),
 vG 8 false (.bsv 1 2 [(.i .i64 0)] [(0, (.l 10)), (1, (.l 12))]),
 vG 8 false (.call 66 [(.l 13)]),
 vG 8 false (.un .not (.l 14)),
 vA (.pick (.l 8) (.c (.b true)) (.l 15)),
 vA (.mov (.l 16)),
 vG 17 false (.lfa (.sl 11) 3),
 vG 17 false (.lld (.lo 18) 1 false),
 vG 17 false (.lfa (.sl 11) 1),
 vG 17 false (.lld (.lo 20) 1 false),
 vG 17 false (.lfa (.sl 11) 2),
 vG 17 false (.lld (.lo 22) 1 false),
 vG 17 false (.bin .sub (.l 21) (.l 23)),
 vG 17 false (.bin .neq (.l 19) (.l 24)),
 vB 6 (.pick (.l 17) (.c (.b true)) (.l 25))] none)
 (.cond (.s 6) (.seq (.reg [vB 1 (.mov (.c (.b false)))] none)
 .ret)
 .skip)))))
 (.reg [vA (.bin .add (.s 8) (cI 1)),
 vB 8 (.mov (.l 0))] none))))
def v36 : VFunc :=
 ⟨1, 13, [.s 1],
 (.seq (.reg [vB 7 (.lbx (.s 0) 8),
 vB 1 (.mov (.c (.b false)))] none)
 (.seq (.seq (.reg [vA (.lfa (.sl 7) 0),
 vA (.lld (.lo 0) 1 false),
 vA (.call 26 [(.l 1)]),
 vA (.un .not (.l 2)),
 vA (.mov (.l 3)),
 vG 4 false (.lfa (.sl 7) 3),
 vG 4 false (.lld (.lo 5) 1 false),
 vG 4 false (.len 1 (.l 6)),
 vG 4 false (.bin .gtr (.l 7) (cI 12)),
 vB 2 (.pick (.l 4) (.c (.b true)) (.l 8))] none)
 (.cond (.s 2) (.seq (.reg [vB 1 (.mov (.c (.b false)))] none)
 .ret)
 .skip))
 (.seq (.seq (.reg [vA (.lfa (.sl 7) 1),
 vA (.lld (.lo 0) 1 false),
 vA (.lfa (.sl 7) 2),
 vA (.lld (.lo 2) 1 false),
 vA (.lfa (.sl 7) 4),
 vA (.lld (.lo 4) 1 false),
 vA (.lfa (.sl 7) 5),
 vA (.lld (.lo 6) 1 false),
 vA (.lfa (.sl 7) 6),
 vA (.lld (.lo 8) 1 false),
 vA (.lfa (.sl 7) 7),
 vA (.lld (.lo 10) 1 false),
 vA (.bsv 1 6 [(.i .i64 0)] [(0, (.l 1)), (1, (.l 3)), (2, (.l 5)), (3, (.l 7)), (4, (.l 9)), (5, (.l 11))]),
 vA (.call 66 [(.l 12)]),
 vA (.un .not (.l 13)),
 vA (.mov (.l 14)),
 vG 15 false (.lfa (.sl 7) 6),
 vG 15 false (.lld (.lo 16) 1 false),
 vG 15 false (.lfa (.sl 7) 4),
 vG 15 false (.lld (.lo 18) 1 false),
 vG 15 false (.lfa (.sl 7) 5),
 vG 15 false (.lld (.lo 20) 1 false),
 vG 15 false (.bin .sub (.l 19) (.l 21)),
 vG 15 false (.bin .neq (.l 17) (.l 22)),
 vB 3 (.pick (.l 15) (.c (.b true)) (.l 23))] none)
 (.cond (.s 3) (.seq (.reg [vB 1 (.mov (.c (.b false)))] none)
 .ret)
 .skip))
 (.seq (.seq (.reg [vA (.lfa (.sl 7) 3),
 vB 10 (.lld (.lo 0) 1 false),
 vB 9 (.len 1 (.s 10)),
 vB 8 (.mov (cI 0))] none)
 (.block 0 (.loop v36l0)))
 (.seq (.reg [vA (.lfa (.sl 7) 2),
 vA (.lld (.lo 0) 1 false),
 vA (.lfa (.sl 7) 1),
 vA (.lld (.lo 2) 1 false),
 vA (.lfa (.sl 7) 3),
 vA (.lld (.lo 4) 1 false),
 vA (.call 67 [(.l 5), (.c (.fn (.func 68) [] []))]),
 vA (.bin .add (.l 3) (.l 6)),
 vA (.bin .eql (.l 1) (.l 7)),
 vB 1 (.mov (.l 8))] (some false))
 .ret))))), true, false, none, false⟩
def tm36 : List Nat := [0, 2, 14, 39, 44, 75, 102, 1, 43, 42, 41, 4, 3]
def bs36 : List Nat := [7, 11]
def v37 : VFunc :=
 ⟨2, 4, [.s 2, .s 3],
 (.seq (.reg [vB 2 (.mov (cI 0)),
 vB 3 (.mov (.c .ni))] none)
 (.seq (.reg [vA (.mov (.s 0)),
 vA (.call 69 [(.l 0)])] none)
 (.seq (.reg [vA (.mov (.s 0)),
 vA (.mov (.s 0)),
 vA (.nck (.l 1)),
 vA (.fad (.l 2) 1),
 vA (.ld (.l 3) 1 false),
 vA (.mov (.s 1)),
 vA (.app (.l 4) (.l 5) 1 1 true),
 vA (.nck (.l 0)),
 vA (.fad (.l 7) 1),
 vA (.st (.l 8) (.l 6) 1)] none)
 (.seq (.reg [vA (.mov (.s 1)),
 vA (.len 0 (.l 0)),
 vB 2 (.mov (.l 1)),
 vB 3 (.mov (.c .ni))] none)
 .ret)))), false, false, none, false⟩
def tm37 : List Nat := [0, 1, 4, 5]
def bs37 : List Nat := []
def v38l0 : VCode :=
 (.seq (.reg [vB 2 (.bin .lss (.s 5) (.s 6))] none)
 (.seq (.cond (.s 2) .skip
 (.exit 0))
 (.seq (.block 1 (.seq (.reg [vA (.mov (.s 5)),
 vA (.iad (.s 7) (.s 5) 1),
 vA (.ld (.l 1) 1 false),
 vB 12 (.mov (.l 0)),
 vB 8 (.mov (.l 2))] none)
 (.seq (.reg [vB 9 (.mov (.s 8))] none)
 (.block 2 (.seq (.reg [vA (.tas (.s 9) 9 true (.s [])),
 vB 3 (.ext (.l 0) 1),
 vB 10 (.ext (.l 0) 0)] none)
 (.cond (.s 3) (.seq (.reg [vB 13 (.mov (.s 10))] none)
 (.reg [vA (.mov (.s 11)),
 vA (.mov (.s 12)),
 vA (.mov (.s 13)),
 vA (.iad (.l 0) (.l 1) 1),
 vA (.st (.l 3) (.l 2) 1)] none))
 (.seq (.reg [vA (.tas (.s 9) 3 true (.i .i64 0)),
 vB 4 (.ext (.l 0) 1),
 vB 14 (.ext (.l 0) 0)] none)
 (.cond (.s 4) (.seq (.reg [vB 15 (.mov (.s 14))] none)
 (.reg [vA (.mov (.s 11)),
 vA (.mov (.s 12)),
 vA (.mov (.s 15)),
 vA (.call 70 [(.l 2)]),
 vA (.iad (.l 0) (.l 1) 1),
 vA (.st (.l 4) (.l 3) 1)] none))
 .skip))))))))
 (.reg [vA (.bin .add (.s 5) (cI 1)),
 vB 5 (.mov (.l 0))] none))))
def v38 : VFunc :=
 ⟨1, 16, [.s 1],
 (.seq (.reg [vB 1 (.mov (.c (.s [])))] none)
 (.seq (.reg [vA (.mov (.s 0)),
 vA (.len 1 (.l 0)),
 vA (.mks (.l 1) (.l 1) 1 16 [(.s [])] true),
 vB 11 (.mov (.l 2))] none)
 (.seq (.seq (.reg [vB 7 (.mov (.s 0)),
 vB 6 (.len 1 (.s 7)),
 vB 5 (.mov (cI 0))] none)
 (.block 0 (.loop v38l0)))
 (.seq (.reg [vA (.mov (.s 11)),
 vA (.call 71 [(.l 0), (.c (.s [32]))]),
 vA (.bin .add (.l 1) (.c (.s [10]))),
 vB 1 (.mov (.l 2))] none)
 .ret)))), true, false, none, false⟩
def tm38 : List Nat := [0, 2, 14, 20, 27, 13, 12, 11, 5, 18, 21, 3, 4, 6, 28, 7]
def bs38 : List Nat := []
def v39 : VFunc :=
 ⟨1, 4, [.s 1],
 (.seq (.reg [vB 1 (.mov (.c (.s [])))] none)
 (.seq (.reg [vA (.mov (.s 0)),
 vA (.bin .rem (.l 0) (cI 12)),
 vA (.bin .add (.l 1) (cI 1)),
 vA (.call 70 [(.l 2)]),
 vB 3 (.mov (.l 3))] none)
 (.seq (.seq (.reg [vA (.mov (.s 3)),
 vA (.len 0 (.l 0)),
 vB 2 (.bin .lss (.l 1) (cI 2))] none)
 (.cond (.s 2) (.reg [vA (.mov (.s 3)),
 vA (.bin .add (.c (.s [48])) (.l 0)),
 vB 3 (.mov (.l 1))] none)
 .skip))
 (.seq (.reg [vA (.mov (.s 0)),
 vA (.call 29 [(.l 0)]),
 vA (.call 70 [(.l 1)]),
 vA (.bin .add (.l 2) (.c (.s [45]))),
 vA (.mov (.s 3)),
 vA (.bin .add (.l 3) (.l 4)),
 vB 1 (.mov (.l 5))] none)
 .ret)))), true, false, none, false⟩
def tm39 : List Nat := [0, 2, 10, 3]
def bs39 : List Nat := []
def v41l0 : VCode :=
 (.seq (.seq (.reg [vA (.mov (.s 4)),
 vA (.lfa (.sl 3) 3),
 vA (.lld (.lo 1) 1 false),
 vA (.len 1 (.l 2)),
 vB 2 (.bin .lss (.l 0) (.l 3))] none)
 (.cond (.s 2) .skip
 (.exit 0)))
 (.seq (.block 1 (.reg [vA (.lfa (.sl 5) 3),
 vA (.lld (.lo 0) 1 false),
 vA (.lfa (.sl 3) 3),
 vA (.lld (.lo 2) 1 false),
 vA (.mov (.s 4)),
 vA (.iad (.l 3) (.l 4) 4),
 vA (.fad (.l 5) 0),
 vA (.ld (.l 6) 1 false),
 vA (.lfa (.sl 3) 3),
 vA (.lld (.lo 8) 1 false),
 vA (.mov (.s 4)),
 vA (.iad (.l 9) (.l 10) 4),
 vA (.fad (.l 11) 1),
 vA (.ld (.l 12) 1 false),
 vA (.lfa (.sl 3) 3),
 vA (.lld (.lo 14) 1 false),
 vA (.mov (.s 4)),
 vA (.iad (.l 15) (.l 16) 4),
 vA (.fad (.l 17) 2),
 vA (.ld (.l 18) 1 false),
 vA (.lfa (.sl 3) 3),
 vA (.lld (.lo 20) 1 false),
 vA (.mov (.s 4)),
 vA (.iad (.l 21) (.l 22) 4),
 vA (.fad (.l 23) 3),
 vA (.ld (.l 24) 1 false),
 vA (.agc [(.i .i64 0), (.i .i64 0), (.i .i64 0), (.i .i64 0)] [(0, 1, (.l 7)), (1, 1, (.l 13)), (2, 1, (.l 19)), (3, 1, (.l 25))]),
 vA (.bsv 4 1 [(.i .i64 0), (.i .i64 0), (.i .i64 0), (.i .i64 0)] [(0, (.l 26))]),
 vA (.app (.l 1) (.l 27) 4 32 true),
 vA (.lfa (.sl 5) 3),
 vA (.lst (.lo 29) (.l 28) 1)] (some false)))
 (.reg [vA (.mov (.s 4)),
 vA (.bin .add (.l 0) (cI 1)),
 vB 4 (.mov (.l 1))] none)))
def v41 : VFunc :=
 ⟨1, 6, [.bx 1 8 true],
 (.seq (.reg [vB 3 (.lbx (.s 0) 8),
 vB 1 (.lal [(.i .i64 0), (.i .i64 0), (.i .i64 0), .nil, (.i .i64 0), (.i .i64 0), (.i .i64 0), (.i .i64 0)])] none)
 (.seq (.reg [vA (.lfa (.sl 3) 0),
 vA (.lld (.lo 0) 1 false),
 vA (.lfa (.sl 3) 1),
 vA (.lld (.lo 2) 1 false),
 vA (.lfa (.sl 3) 2),
 vA (.lld (.lo 4) 1 false),
 vA (.lfa (.sl 3) 4),
 vA (.lld (.lo 6) 1 false),
 vA (.lfa (.sl 3) 5),
 vA (.lld (.lo 8) 1 false),
 vA (.lfa (.sl 3) 6),
 vA (.lld (.lo 10) 1 false),
 vA (.lfa (.sl 3) 7),
 vA (.lld (.lo 12) 1 false),
 vA (.agc [(.i .i64 0), (.i .i64 0), (.i .i64 0), .nil, (.i .i64 0), (.i .i64 0), (.i .i64 0), (.i .i64 0)] [(0, 1, (.l 1)), (1, 1, (.l 3)), (2, 1, (.l 5)), (4, 1, (.l 7)), (5, 1, (.l 9)), (6, 1, (.l 11)), (7, 1, (.l 13))]),
 vB 5 (.lal [(.i .i64 0), (.i .i64 0), (.i .i64 0), .nil, (.i .i64 0), (.i .i64 0), (.i .i64 0), (.i .i64 0)]),
 vA (.lst (.sl 5) (.l 14) 8)] none)
 (.seq (.seq (.reg [vB 4 (.mov (cI 0))] none)
 (.block 0 (.loop v41l0)))
 (.seq (.reg [vA (.lld (.sl 5) 8 true),
 vA (.lst (.sl 1) (.l 0) 8)] none)
 .ret)))), true, false, none, false⟩
def tm41 : List Nat := [0, 2, 24, 1, 4, 3]
def bs41 : List Nat := [1, 3, 5]
def v42 : VFunc :=
 ⟨1, 5, [.s 1, .s 2],
 (.seq (.reg [vB 4 (.lbx (.s 0) 8),
 vB 1 (.mov (.c (.s []))),
 vB 2 (.mov (cI 0))] none)
 (.seq (.seq (.reg [vA (.lld (.sl 4) 8 true),
 vA (.call 23 [(.l 0)]),
 vB 3 (.un .not (.l 1))] none)
 (.cond (.s 3) (.seq (.reg [vB 1 (.mov (.c (.s []))),
 vB 2 (.mov (cI 2))] none)
 .ret)
 .skip))
 (.seq (.reg [vA (.lld (.sl 4) 8 true),
 vA (.call 24 [(.l 0)]),
 vB 1 (.mov (.l 1)),
 vB 2 (.mov (cI 0))] none)
 .ret))), true, false, none, false⟩
def tm42 : List Nat := [0, 2, 3, 6, 1]
def bs42 : List Nat := [4]
def v43 : VFunc :=
 ⟨1, 4, [.bx 1 7 true],
 (.seq (.reg [vB 2 (.lbx (.s 0) 7),
 vB 1 (.lal [(.i .i64 0), .nil, .nil, (.i .i64 0), (.i .i64 0), (.i .i64 0), .nil])] none)
 (.seq (.reg [vA (.lfa (.sl 2) 0),
 vA (.lfa (.lo 0) 0),
 vA (.lld (.lo 1) 1 false),
 vA (.lfa (.sl 2) 0),
 vA (.lfa (.lo 3) 1),
 vA (.lld (.lo 4) 1 false),
 vA (.call 72 [(.l 5)]),
 vA (.lfa (.sl 2) 0),
 vA (.lfa (.lo 7) 2),
 vA (.lld (.lo 8) 1 false),
 vA (.call 73 [(.l 9)]),
 vA (.agc [(.i .i64 0), .nil, .nil] [(0, 1, (.l 2)), (1, 1, (.l 6)), (2, 1, (.l 10))]),
 vA (.lfa (.sl 2) 3),
 vA (.lld (.lo 12) 3 true),
 vA (.agc [(.i .i64 0), .nil, .nil, (.i .i64 0), (.i .i64 0), (.i .i64 0), .nil] [(0, 3, (.l 11)), (3, 3, (.l 13))]),
 vB 3 (.lal [(.i .i64 0), .nil, .nil, (.i .i64 0), (.i .i64 0), (.i .i64 0), .nil]),
 vA (.lst (.sl 3) (.l 14) 7)] (some false))
 (.seq (.reg [vA (.lfa (.sl 3) 6),
 vA (.lld (.lo 0) 1 false),
 vA (.lfa (.sl 2) 6),
 vA (.lld (.lo 2) 1 false),
 vA (.app (.l 1) (.l 3) 10 80 true),
 vA (.lfa (.sl 3) 6),
 vA (.lst (.lo 5) (.l 4) 1)] none)
 (.seq (.reg [vA (.lld (.sl 3) 7 true),
 vA (.lst (.sl 1) (.l 0) 7)] none)
 .ret)))), true, false, none, false⟩
def tm43 : List Nat := [0, 2, 1, 3]
def bs43 : List Nat := [1, 2, 3]
def v44l0 : VCode :=
 (.seq (.seq (.reg [vA (.mov (.s 13)),
 vA (.mov (.s 1)),
 vA (.bin .sub (.l 1) (cI 1900)),
 vA (.bin .mul (cI 12) (.l 2)),
 vA (.bin .add (.l 3) (cI 12)),
 vB 5 (.bin .lss (.l 0) (.l 4))] none)
 (.cond (.s 5) .skip
 (.exit 0)))
 (.seq (.block 1 (.seq (.reg [vA (.lfa (.sl 11) 0),
 vA (.lld (.lo 0) 3 true),
 vA (.mov (.s 13)),
 vB 6 (.call 76 [(.l 1), (.l 2)])] none)
 (.cond (.s 6) (.seq (.reg [vA (.lfa (.sl 11) 0),
 vA (.lfa (.lo 0) 1),
 vA (.lld (.lo 1) 1 false),
 vA (.mov (.s 13)),
 vA (.lfa (.sl 11) 0),
 vA (.lfa (.lo 4) 0),
 vA (.lld (.lo 5) 1 false),
 vA (.bin .sub (.l 3) (.l 6)),
 vA (.iad (.l 2) (.l 7) 1),
 vA (.ld (.l 8) 1 false),
 vB 14 (.mov (.l 9))] none)
 (.seq (.reg [vA (.lfa (.sl 11) 0),
 vA (.lld (.lo 0) 3 true),
 vA (.mov (.s 13)),
 vA (.call 77 [(.l 1), (.l 2)]),
 vB 15 (.mov (.l 3))] none)
 (.reg [vA (.lfa (.sl 12) 3),
 vA (.lld (.lo 0) 1 false),
 vA (.mov (.s 13)),
 vA (.mov (.s 14)),
 vA (.mov (.s 15)),
 vA (.mov (.s 14)),
 vA (.mov (.s 15)),
 vA (.bin .sub (.l 5) (.l 6)),
 vA (.agc [(.i .i64 0), (.i .i64 0), (.i .i64 0), (.i .i64 0)] [(0, 1, (.l 2)), (1, 1, (.l 3)), (2, 1, (.l 4)), (3, 1, (.l 7))]),
 vA (.bsv 4 1 [(.i .i64 0), (.i .i64 0), (.i .i64 0), (.i .i64 0)] [(0, (.l 8))]),
 vA (.app (.l 1) (.l 9) 4 32 true),
 vA (.lfa (.sl 12) 3),
 vA (.lst (.lo 11) (.l 10) 1)] none)))
 .skip)))
 (.reg [vA (.mov (.s 13)),
 vA (.bin .add (.l 0) (cI 1)),
 vB 13 (.mov (.l 1))] none)))
def v44l1 : VCode :=
 (.seq (.seq (.reg [vA (.mov (.s 18)),
 vA (.lfa (.sl 17) 3),
 vA (.lld (.lo 1) 1 false),
 vB 9 (.bin .lss (.l 0) (.l 2))] none)
 (.cond (.s 9) .skip
 (.exit 4)))
 (.seq (.block 5 (.seq (.reg [vA (.lfa (.sl 11) 0),
 vA (.lfa (.lo 0) 2),
 vA (.lld (.lo 1) 1 false),
 vA (.mov (.s 18)),
 vA (.iad (.l 2) (.l 3) 4),
 vA (.fad (.l 4) 2),
 vA (.ld (.l 5) 1 false),
 vB 10 (.bin .eql (.l 6) (.c (.i .u8 3)))] none)
 (.cond (.s 10) (.reg [vA (.lfa (.sl 12) 7),
 vA (.lld (.lo 0) 1 false),
 vA (.lfa (.sl 11) 0),
 vA (.lfa (.lo 2) 2),
 vA (.lld (.lo 3) 1 false),
 vA (.mov (.s 18)),
 vA (.iad (.l 4) (.l 5) 4),
 vA (.fad (.l 6) 3),
 vA (.ld (.l 7) 1 false),
 vA (.bin .add (.l 1) (.l 8)),
 vA (.lfa (.sl 12) 7),
 vA (.lst (.lo 10) (.l 9) 1)] (some false))
 .skip)))
 (.reg [vA (.mov (.s 18)),
 vA (.bin .add (.l 0) (cI 1)),
 vB 18 (.mov (.l 1))] none)))
def v44l2 : VCode :=
 (.seq (.seq (.reg [vA (.mov (.s 16)),
 vA (.lfa (.sl 11) 6),
 vA (.lld (.lo 1) 1 false),
 vA (.len 1 (.l 2)),
 vB 7 (.bin .lss (.l 0) (.l 3))] none)
 (.cond (.s 7) .skip
 (.exit 2)))
 (.seq (.block 3 (.seq (.reg [vA (.lfa (.sl 11) 6),
 vA (.lld (.lo 0) 1 false),
 vA (.mov (.s 16)),
 vA (.iad (.l 1) (.l 2) 10),
 vA (.ld (.l 3) 10 true),
 vB 17 (.lal [(.i .i64 0), (.i .i64 0), (.i .i64 0), (.i .i64 0), (.i .i64 0), (.i .i64 0), (.i .i64 0), (.i .i64 0), (.i .i64 0), (.b false)]),
 vA (.lst (.sl 17) (.l 4) 10)] none)
 (.seq (.seq (.reg [vA (.lfa (.sl 17) 9),
 vA (.lld (.lo 0) 1 false),
 vA (.mov (.l 1)),
 vG 2 false (.lfa (.sl 17) 0),
 vG 2 false (.lld (.lo 3) 1 false),
 vG 2 false (.mov (.s 1)),
 vG 2 false (.call 55 [(.l 4), (.l 5)]),
 vG 2 false (.un .not (.l 6)),
 vB 8 (.pick (.l 2) (.c (.b true)) (.l 7))] none)
 (.cond (.s 8) (.exit 3)
 .skip))
 (.seq (.reg [vA (.lfa (.sl 12) 4),
 vA (.lld (.lo 0) 1 false),
 vA (.lfa (.sl 17) 4),
 vA (.lfa (.lo 2) 2),
 vA (.lld (.lo 3) 1 false),
 vA (.bin .add (.l 1) (.l 4)),
 vA (.lfa (.sl 12) 4),
 vA (.lst (.lo 6) (.l 5) 1)] none)
 (.seq (.reg [vA (.lfa (.sl 12) 5),
 vA (.lld (.lo 0) 1 false),
 vA (.lfa (.sl 17) 4),
 vA (.lfa (.lo 2) 3),
 vA (.lld (.lo 3) 1 false),
 vA (.bin .add (.l 1) (.l 4)),
 vA (.lfa (.sl 12) 5),
 vA (.lst (.lo 6) (.l 5) 1)] none)
 (.seq (.reg [vA (.lfa (.sl 17) 2),
 vA (.lld (.lo 0) 1 false),
 vB 18 (.mov (.l 1))] none)
 (.block 4 (.loop v44l1))))))))
 (.reg [vA (.mov (.s 16)),
 vA (.bin .add (.l 0) (cI 1)),
 vB 16 (.mov (.l 1))] none)))
def v44 : VFunc :=
 ⟨2, 19, [.bx 2 8 true, .s 3],
 (.seq (.reg [vB 11 (.lbx (.s 0) 7),
 vB 2 (.lal [(.i .i64 0), (.i .i64 0), (.i .i64 0), .nil, (.i .i64 0), (.i .i64 0), (.i .i64 0), (.i .i64 0)]),
 vB 3 (.mov (cI 0))] none)
 (.seq (.seq (.reg [vA (.lld (.sl 11) 7 true),
 vA (.call 74 [(.l 0)]),
 vA (.un .not (.l 1)),
 vA (.mov (.l 2)),
 vG 3 false (.mov (.s 1)),
 vG 3 false (.bin .lss (.l 4) (cI 1900)),
 vA (.pick (.l 3) (.c (.b true)) (.l 5)),
 vA (.mov (.l 6)),
 vG 7 false (.mov (.s 1)),
 vG 7 false (.bin .gtr (.l 8) (cI 2079)),
 vB 4 (.pick (.l 7) (.c (.b true)) (.l 9))] none)
 (.cond (.s 4) (.seq (.reg [vA (.agc [(.i .i64 0), (.i .i64 0), (.i .i64 0), .nil, (.i .i64 0), (.i .i64 0), (.i .i64 0), (.i .i64 0)] []),
 vA (.lst (.sl 2) (.l 0) 8),
 vB 3 (.mov (cI 2))] none)
 .ret)
 .skip))
 (.seq (.reg [vA (.mov (.s 1)),
 vA (.agc [(.i .i64 0), (.i .i64 0), (.i .i64 0), .nil, (.i .i64 0), (.i .i64 0), (.i .i64 0), (.i .i64 0)] [(0, 1, (.l 0))]),
 vB 12 (.lal [(.i .i64 0), (.i .i64 0), (.i .i64 0), .nil, (.i .i64 0), (.i .i64 0), (.i .i64 0), (.i .i64 0)]),
 vA (.lst (.sl 12) (.l 1) 8)] none)
 (.seq (.reg [vA (.lfa (.sl 11) 0),
 vA (.lld (.lo 0) 3 true),
 vA (.mov (.s 1)),
 vA (.bin .sub (.l 2) (cI 1900)),
 vA (.bin .mul (cI 12) (.l 3)),
 vA (.call 75 [(.l 1), (.l 4)]),
 vA (.lfa (.sl 12) 1),
 vA (.lst (.lo 6) (.l 5) 1)] none)
 (.seq (.reg [vA (.lfa (.sl 11) 0),
 vA (.lld (.lo 0) 3 true),
 vA (.mov (.s 1)),
 vA (.bin .sub (.l 2) (cI 1900)),
 vA (.bin .mul (cI 12) (.l 3)),
 vA (.bin .add (.l 4) (cI 12)),
 vA (.call 75 [(.l 1), (.l 5)]),
 vA (.lfa (.sl 12) 2),
 vA (.lst (.lo 7) (.l 6) 1)] none)
 (.seq (.seq (.reg [vA (.mov (.s 1)),
 vA (.bin .sub (.l 0) (cI 1900)),
 vA (.bin .mul (cI 12) (.l 1)),
 vB 13 (.mov (.l 2))] none)
 (.block 0 (.loop v44l0)))
 (.seq (.seq (.reg [vB 16 (.mov (cI 0))] none)
 (.block 2 (.loop v44l2)))
 (.seq (.reg [vA (.lfa (.sl 12) 4),
 vA (.lld (.lo 0) 1 false),
 vA (.lfa (.sl 12) 5),
 vA (.lld (.lo 2) 1 false),
 vA (.bin .sub (.l 1) (.l 3)),
 vA (.lfa (.sl 12) 6),
 vA (.lst (.lo 5) (.l 4) 1)] none)
 (.seq (.reg [vA (.lld (.sl 12) 8 true),
 vA (.lst (.sl 2) (.l 0) 8),
 vB 3 (.mov (cI 0))] none)
 .ret))))))))), true, false, none, false⟩
def tm44 : List Nat := [0, 1, 4, 5, 23, 50, 56, 87, 103, 123, 133, 2, 6, 7, 8, 9, 10, 11, 12]
def bs44 : List Nat := [2, 11, 12, 17]
def v45l0 : VCode :=
 (.seq (.seq (.reg [vA (.mov (.s 4)),
 vA (.lfa (.sl 3) 6),
 vA (.lld (.lo 1) 1 false),
 vA (.len 1 (.l 2)),
 vB 2 (.bin .lss (.l 0) (.l 3))] none)
 (.cond (.s 2) .skip
 (.exit 0)))
 (.seq (.block 1 (.seq (.reg [vA (.lfa (.sl 3) 6),
 vA (.lld (.lo 0) 1 false),
 vA (.mov (.s 4)),
 vA (.iad (.l 1) (.l 2) 10),
 vA (.ld (.l 3) 10 true),
 vB 6 (.lal [(.i .i64 0), (.i .i64 0), (.i .i64 0), (.i .i64 0), (.i .i64 0), (.i .i64 0), (.i .i64 0), (.i .i64 0), (.i .i64 0), (.b false)]),
 vA (.lst (.sl 6) (.l 4) 10)] none)
 (.reg [vA (.lfa (.sl 5) 6),
 vA (.lld (.lo 0) 1 false),
 vA (.lfa (.sl 6) 0),
 vA (.lld (.lo 2) 1 false),
 vA (.lfa (.sl 6) 1),
 vA (.lld (.lo 4) 1 false),
 vA (.lfa (.sl 6) 2),
 vA (.lld (.lo 6) 1 false),
 vA (.lfa (.sl 6) 3),
 vA (.lld (.lo 8) 1 false),
 vA (.lfa (.sl 6) 4),
 vA (.lld (.lo 10) 5 true),
 vA (.lfa (.sl 6) 9),
 vA (.lld (.lo 12) 1 false),
 vA (.agc [(.i .i64 0), (.i .i64 0), (.i .i64 0), (.i .i64 0), (.i .i64 0), (.i .i64 0), (.i .i64 0), (.i .i64 0), (.i .i64 0), (.b false)] [(0, 1, (.l 3)), (1, 1, (.l 5)), (2, 1, (.l 7)), (3, 1, (.l 9)), (4, 5, (.l 11)), (9, 1, (.l 13))]),
 vA (.bsv 10 1 [(.i .i64 0), (.i .i64 0), (.i .i64 0), (.i .i64 0), (.i .i64 0), (.i .i64 0), (.i .i64 0), (.i .i64 0), (.i .i64 0), (.b false)] [(0, (.l 14))]),
 vA (.app (.l 1) (.l 15) 10 80 true),
 vA (.lfa (.sl 5) 6),
 vA (.lst (.lo 17) (.l 16) 1)] none)))
 (.reg [vA (.mov (.s 4)),
 vA (.bin .add (.l 0) (cI 1)),
 vB 4 (.mov (.l 1))] none)))
def v45 : VFunc :=
 ⟨1, 7, [.bx 1 7 true],
 (.seq (.reg [vB 3 (.lbx (.s 0) 7),
 vB 1 (.lal [(.i .i64 0), .nil, .nil, (.i .i64 0), (.i .i64 0), (.i .i64 0), .nil])] none)
 (.seq (.reg [vA (.lfa (.sl 3) 0),
 vA (.lfa (.lo 0) 0),
 vA (.lld (.lo 1) 1 false),
 vA (.lfa (.sl 3) 0),
 vA (.lfa (.lo 3) 1),
 vA (.lld (.lo 4) 1 false),
 vA (.call 72 [(.l 5)]),
 vA (.lfa (.sl 3) 0),
 vA (.lfa (.lo 7) 2),
 vA (.lld (.lo 8) 1 false),
 vA (.call 73 [(.l 9)]),
 vA (.agc [(.i .i64 0), .nil, .nil] [(0, 1, (.l 2)), (1, 1, (.l 6)), (2, 1, (.l 10))]),
 vA (.lfa (.sl 3) 3),
 vA (.lfa (.lo 12) 0),
 vA (.lld (.lo 13) 1 false),
 vA (.lfa (.sl 3) 3),
 vA (.lfa (.lo 15) 1),
 vA (.lld (.lo 16) 1 false),
 vA (.lfa (.sl 3) 3),
 vA (.lfa (.lo 18) 2),
 vA (.lld (.lo 19) 1 false),
 vA (.agc [(.i .i64 0), (.i .i64 0), (.i .i64 0)] [(0, 1, (.l 14)), (1, 1, (.l 17)), (2, 1, (.l 20))]),
 vA (.agc [(.i .i64 0), .nil, .nil, (.i .i64 0), (.i .i64 0), (.i .i64 0), .nil] [(0, 3, (.l 11)), (3, 3, (.l 21))]),
 vB 5 (.lal [(.i .i64 0), .nil, .nil, (.i .i64 0), (.i .i64 0), (.i .i64 0), .nil]),
 vA (.lst (.sl 5) (.l 22) 7)] (some false))
 (.seq (.seq (.reg [vB 4 (.mov (cI 0))] none)
 (.block 0 (.loop v45l0)))
 (.seq (.reg [vA (.lld (.sl 5) 7 true),
 vA (.lst (.sl 1) (.l 0) 7)] none)
 .ret)))), true, false, none, false⟩
def tm45 : List Nat := [0, 2, 33, 1, 4, 3, 5]
def bs45 : List Nat := [1, 3, 5, 6]
def v46l0 : VCode :=
 (.seq (.reg [vB 4 (.bin .lss (.s 8) (.s 9))] none)
 (.seq (.cond (.s 4) .skip
 (.exit 0))
 (.seq (.block 1 (.seq (.reg [vA (.mov (.s 8)),
 vB 10 (.mov (.l 0))] none)
 (.seq (.reg [vA (.lfa (.sl 6) 6),
 vA (.lld (.lo 0) 1 false),
 vA (.mov (.s 10)),
 vA (.iad (.l 1) (.l 2) 10),
 vA (.ld (.l 3) 10 true),
 vA (.lfa (.sl 7) 6),
 vA (.lld (.lo 5) 1 false),
 vA (.mov (.s 10)),
 vA (.iad (.l 6) (.l 7) 10),
 vA (.ld (.l 8) 10 true),
 vB 5 (.eqv true (.st [1, 1, 1, 1, 1, 1, 1, 1, 1, 0]) (.l 4) (.l 9))] (some false))
 (.cond (.s 5) (.seq (.reg [vB 2 (.mov (.c (.b false)))] none)
 .ret)
 .skip))))
 (.reg [vA (.bin .add (.s 8) (cI 1)),
 vB 8 (.mov (.l 0))] none))))
def v46 : VFunc :=
 ⟨2, 11, [.s 2],
 (.seq (.reg [vB 6 (.lbx (.s 0) 7),
 vB 7 (.lbx (.s 1) 7),
 vB 2 (.mov (.c (.b false)))] none)
 (.seq (.seq (.reg [vA (.lfa (.sl 6) 0),
 vA (.lld (.lo 0) 3 true),
 vA (.lfa (.sl 7) 0),
 vA (.lld (.lo 2) 3 true),
 vA (.call 78 [(.l 1), (.l 3)]),
 vA (.un .not (.l 4)),
 vA (.mov (.l 5)),
 vG 6 false (.lfa (.sl 6) 3),
 vG 6 false (.lld (.lo 7) 3 true),
 vG 6 false (.lfa (.sl 7) 3),
 vG 6 false (.lld (.lo 9) 3 true),
 vG 6 false (.eqv true (.st [1, 1, 1]) (.l 8) (.l 10)),
 vA (.pick (.l 6) (.c (.b true)) (.l 11)),
 vA (.mov (.l 12)),
 vG 13 false (.lfa (.sl 6) 6),
 vG 13 false (.lld (.lo 14) 1 false),
 vG 13 false (.len 1 (.l 15)),
 vG 13 false (.lfa (.sl 7) 6),
 vG 13 false (.lld (.lo 17) 1 false),
 vG 13 false (.len 1 (.l 18)),
 vG 13 false (.bin .neq (.l 16) (.l 19)),
 vB 3 (.pick (.l 13) (.c (.b true)) (.l 20))] none)
 (.cond (.s 3) (.seq (.reg [vB 2 (.mov (.c (.b false)))] none)
 .ret)
 .skip))
 (.seq (.seq (.reg [vA (.lfa (.sl 6) 6),
 vA (.lld (.lo 0) 1 false),
 vB 9 (.len 1 (.l 1)),
 vB 8 (.mov (cI 0))] none)
 (.block 0 (.loop v46l0)))
 (.seq (.reg [vB 2 (.mov (.c (.b true)))] none)
 .ret)))), true, false, none, false⟩
def tm46 : List Nat := [0, 1, 4, 27, 32, 44, 2, 3, 31, 30, 5]
def bs46 : List Nat := [6, 7]
def v47 : VFunc :=
 ⟨2, 4, [],
 (.seq (.reg [vA (.stk),
 vB 3 (.mov (.l 0))] none)
 (.seq (.reg [vA (.mov (.s 3)),
 vB 2 (.eqv true .ifc (.l 0) (.c .ni))] none)
 (.cond (.s 2) (.reg [vA (.agc [(.i .i64 0), (.i .i64 0), (.i .i64 0), .nil, (.i .i64 0), (.i .i64 0), (.i .i64 0), (.i .i64 0)] []),
 vA (.st (.s 0) (.l 0) 8),
 vA (.st (.s 1) (.c (.b false)) 1)] none)
 .skip))), false, false, none, false⟩
def tm47 : List Nat := [0, 1, 5, 2]
def bs47 : List Nat := []
def v48l0 : VCode :=
 (.seq (.seq (.reg [vA (.mov (.s 0)),
 vB 2 (.call 80 [(.l 0), (.c (.s [10, 109, 111, 110, 116, 104, 32]))])] none)
 (.cond (.s 2) .skip
 (.exit 0)))
 (.block 1 (.seq (.seq (.reg [vA (.lfa (.sl 4) 3),
 vA (.lld (.lo 0) 1 false),
 vA (.len 1 (.l 1)),
 vB 3 (.bin .eql (.l 2) (cI 12))] none)
 (.cond (.s 3) (.reg [vA (.agc [] []),
 vA (.mki 131 (.l 0)),
 vA (.pan (.l 1))] none)
 .skip))
 (.seq (.reg [vA (.mov (.s 0)),
 vA (.call 81 [(.l 0)]),
 vA (.agc [(.i .i64 0), (.i .i64 0), (.i .i64 0), (.i .i64 0)] [(0, 1, (.l 1))]),
 vB 5 (.lal [(.i .i64 0), (.i .i64 0), (.i .i64 0), (.i .i64 0)]),
 vA (.lst (.sl 5) (.l 2) 4)] none)
 (.seq (.reg [vA (.mov (.s 0)),
 vA (.call 79 [(.l 0), (.c (.s [32, 100, 117, 101, 32]))]),
 vA (.lfa (.sl 5) 1),
 vA (.lst (.lo 2) (.l 1) 1)] none)
 (.seq (.reg [vA (.mov (.s 0)),
 vA (.call 79 [(.l 0), (.c (.s [32, 112, 111, 115, 116, 101, 100, 32]))]),
 vA (.lfa (.sl 5) 2),
 vA (.lst (.lo 2) (.l 1) 1)] none)
 (.seq (.reg [vA (.mov (.s 0)),
 vA (.call 79 [(.l 0), (.c (.s [32, 111, 112, 101, 110, 32]))]),
 vA (.lfa (.sl 5) 3),
 vA (.lst (.lo 2) (.l 1) 1)] none)
 (.reg [vA (.lfa (.sl 4) 3),
 vA (.lld (.lo 0) 1 false),
 vA (.lld (.sl 5) 4 true),
 vA (.bsv 4 1 [(.i .i64 0), (.i .i64 0), (.i .i64 0), (.i .i64 0)] [(0, (.l 2))]),
 vA (.app (.l 1) (.l 3) 4 32 true),
 vA (.lfa (.sl 4) 3),
 vA (.lst (.lo 5) (.l 4) 1)] none))))))))
def v48 : VFunc :=
 ⟨1, 6, [.bx 1 8 true],
 (.seq (.reg [vB 1 (.lal [(.i .i64 0), (.i .i64 0), (.i .i64 0), .nil, (.i .i64 0), (.i .i64 0), (.i .i64 0), (.i .i64 0)])] none)
 (.seq (.reg [vB 4 (.lal [(.i .i64 0), (.i .i64 0), (.i .i64 0), .nil, (.i .i64 0), (.i .i64 0), (.i .i64 0), (.i .i64 0)])] none)
 (.seq (.reg [vA (.mov (.s 0)),
 vA (.call 79 [(.l 0), (.c (.s [115, 116, 97, 116, 101, 109, 101, 110, 116, 32]))]),
 vA (.lfa (.sl 4) 0),
 vA (.lst (.lo 2) (.l 1) 1)] none)
 (.seq (.reg [vA (.mov (.s 0)),
 vA (.call 79 [(.l 0), (.c (.s [10, 98, 101, 102, 111, 114, 101, 32]))]),
 vA (.lfa (.sl 4) 1),
 vA (.lst (.lo 2) (.l 1) 1)] none)
 (.seq (.block 0 (.loop v48l0))
 (.seq (.reg [vA (.mov (.s 0)),
 vA (.call 79 [(.l 0), (.c (.s [10, 103, 114, 111, 115, 115, 32]))]),
 vA (.lfa (.sl 4) 4),
 vA (.lst (.lo 2) (.l 1) 1)] none)
 (.seq (.reg [vA (.mov (.s 0)),
 vA (.call 79 [(.l 0), (.c (.s [32, 116, 97, 120, 32]))]),
 vA (.lfa (.sl 4) 5),
 vA (.lst (.lo 2) (.l 1) 1)] none)
 (.seq (.reg [vA (.mov (.s 0)),
 vA (.call 79 [(.l 0), (.c (.s [32, 110, 101, 116, 32]))]),
 vA (.lfa (.sl 4) 6),
 vA (.lst (.lo 2) (.l 1) 1)] none)
 (.seq (.reg [vA (.mov (.s 0)),
 vA (.call 79 [(.l 0), (.c (.s [32, 105, 110, 116, 101, 114, 101, 115, 116, 32]))]),
 vA (.lfa (.sl 4) 7),
 vA (.lst (.lo 2) (.l 1) 1)] none)
 (.seq (.reg [vA (.mov (.s 0)),
 vA (.call 79 [(.l 0), (.c (.s [10, 97, 102, 116, 101, 114, 32]))]),
 vA (.lfa (.sl 4) 2),
 vA (.lst (.lo 2) (.l 1) 1)] none)
 (.seq (.reg [vA (.mov (.s 0)),
 vA (.call 82 [(.l 0), (.c (.s [10]))])] none)
 (.seq (.reg [vA (.lld (.sl 4) 8 true),
 vA (.lst (.sl 1) (.l 0) 8)] none)
 .ret)))))))))))), false, false, none, false⟩
def tm48 : List Nat := [0, 2, 12, 16, 3, 4]
def bs48 : List Nat := [1, 4, 5]
def v49l0 : VCode :=
 (.seq (.seq (.reg [vA (.mov (.s 7)),
 vA (.mov (.s 0)),
 vA (.len 0 (.l 1)),
 vA (.bin .lss (.l 0) (.l 2)),
 vA (.mov (.l 3)),
 vG 4 true (.mov (.s 6)),
 vG 4 true (.len 1 (.l 5)),
 vG 4 true (.bin .leq (.l 6) (cI 1024)),
 vB 4 (.pick (.l 4) (.l 7) (.c (.b false)))] none)
 (.cond (.s 4) .skip
 (.exit 0)))
 (.seq (.block 1 (.seq (.reg [vA (.mov (.s 0)),
 vA (.mov (.s 7)),
 vA (.ixs (.l 0) (.l 1)),
 vB 5 (.bin .neq (.l 2) (.c (.i .u8 45)))] none)
 (.cond (.s 5) (.reg [vA (.mov (.s 6)),
 vA (.bsv 1 1 [(.i .u16 0)] [(0, (.c (.i .u16 10)))]),
 vA (.call 85 [(.l 0), (.l 1)]),
 vA (.mov (.s 0)),
 vA (.mov (.s 7)),
 vA (.ixs (.l 3) (.l 4)),
 vA (.bin .sub (.l 5) (.c (.i .u8 48))),
 vA (.cvi .u16 (.l 6)),
 vA (.bsv 1 1 [(.i .u16 0)] [(0, (.l 7))]),
 vA (.call 86 [(.l 8)]),
 vA (.call 84 [(.l 2), (.l 9)]),
 vB 6 (.mov (.l 10))] (some false))
 .skip)))
 (.reg [vA (.mov (.s 7)),
 vA (.bin .add (.l 0) (cI 1)),
 vB 7 (.mov (.l 1))] none)))
def v49 : VFunc :=
 ⟨1, 8, [.bx 1 2 true, .s 2],
 (.seq (.reg [vB 1 (.lal [(.b false), .nil]),
 vB 2 (.mov (cI 0))] none)
 (.seq (.seq (.reg [vA (.mov (.s 0)),
 vA (.call 83 [(.l 0)]),
 vB 3 (.un .not (.l 1))] none)
 (.cond (.s 3) (.seq (.reg [vA (.agc [(.b false), .nil] []),
 vA (.lst (.sl 1) (.l 0) 2),
 vB 2 (.mov (cI 10))] none)
 .ret)
 .skip))
 (.seq (.reg [vB 6 (.mov (.c .nil))] none)
 (.seq (.seq (.reg [vB 7 (.mov (cI 0))] none)
 (.block 0 (.loop v49l0)))
 (.seq (.reg [vA (.mov (.s 0)),
 vA (.ixs (.l 0) (cI 0)),
 vA (.bin .eql (.l 1) (.c (.i .u8 45))),
 vA (.mov (.s 6)),
 vA (.call 88 [(.l 2), (.l 3)]),
 vA (.call 87 [(.l 4)]),
 vA (.ext (.l 5) 0),
 vA (.ext (.l 5) 1),
 vA (.lst (.sl 1) (.l 6) 2),
 vB 2 (.mov (.l 7))] none)
 .ret))))), true, false, none, false⟩
def tm49 : List Nat := [0, 2, 3, 8, 18, 24, 4, 5]
def bs49 : List Nat := [1]
def v50l0 : VCode :=
 (.seq (.seq (.reg [vA (.mov (.s 10)),
 vB 5 (.bin .geq (.l 0) (cI 0))] none)
 (.cond (.s 5) .skip
 (.exit 0)))
 (.seq (.block 1 (.reg [vA (.mov (.s 9)),
 vA (.bin .mul (.l 0) (.c (.i .u64 65536))),
 vA (.lfa (.sl 8) 1),
 vA (.lld (.lo 2) 1 false),
 vA (.mov (.s 10)),
 vA (.iad (.l 3) (.l 4) 1),
 vA (.ld (.l 5) 1 false),
 vA (.cvi .u64 (.l 6)),
 vA (.bin .add (.l 1) (.l 7)),
 vB 9 (.mov (.l 8))] none))
 (.reg [vA (.mov (.s 10)),
 vA (.bin .sub (.l 0) (cI 1)),
 vB 10 (.mov (.l 1))] none)))
def v50 : VFunc :=
 ⟨1, 11, [.s 1, .s 2],
 (.seq (.reg [vB 8 (.lbx (.s 0) 2),
 vB 1 (.mov (cI 0)),
 vB 2 (.mov (cI 0))] none)
 (.seq (.seq (.reg [vA (.lld (.sl 8) 2 true),
 vA (.call 89 [(.l 0)]),
 vB 3 (.un .not (.l 1))] none)
 (.cond (.s 3) (.seq (.reg [vB 1 (.mov (cI 0)),
 vB 2 (.mov (cI 2))] none)
 .ret)
 .skip))
 (.seq (.seq (.reg [vA (.lfa (.sl 8) 1),
 vA (.lld (.lo 0) 1 false),
 vA (.len 1 (.l 1)),
 vB 4 (.bin .gtr (.l 2) (cI 4))] none)
 (.cond (.s 4) (.seq (.reg [vB 1 (.mov (cI 0)),
 vB 2 (.mov (cI 3))] none)
 .ret)
 .skip))
 (.seq (.reg [vB 9 (.mov (.c (.i .u64 0)))] none)
 (.seq (.seq (.reg [vA (.lfa (.sl 8) 1),
 vA (.lld (.lo 0) 1 false),
 vA (.len 1 (.l 1)),
 vA (.bin .sub (.l 2) (cI 1)),
 vB 10 (.mov (.l 3))] none)
 (.block 0 (.loop v50l0)))
 (.seq (.seq (.reg [vA (.lfa (.sl 8) 0),
 vA (.lld (.lo 0) 1 false),
 vA (.mov (.l 1)),
 vG 2 true (.mov (.s 9)),
 vG 2 true (.bin .leq (.l 3) (.c (.i .u64 9223372036854775808))),
 vB 6 (.pick (.l 2) (.l 4) (.c (.b false)))] none)
 (.cond (.s 6) (.seq (.reg [vA (.mov (.s 9)),
 vA (.un .neg (.l 0)),
 vA (.cvi .i64 (.l 1)),
 vB 1 (.mov (.l 2)),
 vB 2 (.mov (cI 0))] none)
 .ret)
 .skip))
 (.seq (.seq (.reg [vA (.lfa (.sl 8) 0),
 vA (.lld (.lo 0) 1 false),
 vA (.un .not (.l 1)),
 vA (.mov (.l 2)),
 vG 3 true (.mov (.s 9)),
 vG 3 true (.bin .lss (.l 4) (.c (.i .u64 9223372036854775808))),
 vB 7 (.pick (.l 3) (.l 5) (.c (.b false)))] none)
 (.cond (.s 7) (.seq (.reg [vA (.mov (.s 9)),
 vA (.cvi .i64 (.l 0)),
 vB 1 (.mov (.l 1)),
 vB 2 (.mov (cI 0))] none)
 .ret)
 .skip))
 (.seq (.reg [vB 1 (.mov (cI 0)),
 vB 2 (.mov (cI 3))] none)
 .ret)))))))), true, false, none, false⟩
def tm50 : List Nat := [0, 2, 3, 8, 12, 18, 35, 45, 1, 4, 5]
def bs50 : List Nat := [8]
def v51 : VFunc :=
 ⟨1, 5, [.s 1, .s 2],
 (.seq (.reg [vB 1 (.mov (cI 0)),
 vB 2 (.mov (cI 0))] none)
 (.seq (.seq (.reg [vA (.mov (.s 0)),
 vA (.bin .lss (.l 0) (cI 0)),
 vA (.mov (.l 1)),
 vG 2 false (.mov (.s 0)),
 vG 2 false (.bin .gtr (.l 3) (cI 2153)),
 vB 3 (.pick (.l 2) (.c (.b true)) (.l 4))] none)
 (.cond (.s 3) (.seq (.reg [vB 1 (.mov (cI 0)),
 vB 2 (.mov (cI 2))] none)
 .ret)
 .skip))
 (.seq (.reg [vA (.mov (.s 0)),
 vA (.bin .quo (.l 0) (cI 12)),
 vA (.bin .add (cI 1900) (.l 1)),
 vA (.mov (.s 0)),
 vA (.bin .rem (.l 3) (cI 12)),
 vA (.bin .add (.l 4) (cI 1)),
 vA (.call 90 [(.l 2), (.l 5), (cI 1)]),
 vA (.mov (.l 6)),
 vA (.ext (.l 7) 0),
 vA (.ext (.l 7) 1),
 vB 4 (.mov (.l 8)),
 vA (.mov (.l 9))] none)
 (.seq (.reg [vA (.mov (.s 4)),
 vB 1 (.mov (.l 0)),
 vB 2 (.mov (cI 0))] none)
 .ret)))), true, false, none, false⟩
def tm51 : List Nat := [0, 2, 3, 11, 4]
def bs51 : List Nat := []
def v52 : VFunc :=
 ⟨1, 3, [.s 1],
 (.seq (.reg [vB 1 (.mov (.c (.s [])))] none)
 (.seq (.reg [vA (.mov (.s 0)),
 vA (.call 92 [(.l 0)]),
 vA (.call 91 [(.l 1)]),
 vA (.mov (.l 2)),
 vA (.ext (.l 3) 0),
 vA (.ext (.l 3) 1),
 vB 2 (.mov (.l 4)),
 vA (.mov (.l 5))] none)
 (.seq (.reg [vA (.mov (.s 2)),
 vB 1 (.mov (.l 0))] none)
 .ret))), true, false, none, false⟩
def tm52 : List Nat := [0, 2, 3]
def bs52 : List Nat := []
def v53 : VFunc :=
 ⟨1, 7, [.s 1],
 (.seq (.reg [vB 1 (.mov (.c (.s [])))] none)
 (.seq (.reg [vA (.mov (.s 0)),
 vA (.call 93 [(.l 0)]),
 vA (.mov (.l 1)),
 vA (.ext (.l 2) 0),
 vA (.ext (.l 2) 1),
 vA (.ext (.l 2) 2),
 vA (.ext (.l 2) 3),
 vB 4 (.mov (.l 3)),
 vB 5 (.mov (.l 4)),
 vB 6 (.mov (.l 5)),
 vB 3 (.mov (.l 6))] none)
 (.seq (.seq (.reg [vA (.mov (.s 3)),
 vB 2 (.bin .neq (.l 0) (cI 0))] none)
 (.cond (.s 2) (.seq (.reg [vB 1 (.mov (.c (.s [])))] none)
 .ret)
 .skip))
 (.seq (.reg [vA (.mov (.s 4)),
 vA (.call 94 [(.l 0), (cI 4)]),
 vA (.bin .add (.l 1) (.c (.s [45]))),
 vA (.mov (.s 5)),
 vA (.call 94 [(.l 3), (cI 2)]),
 vA (.bin .add (.l 2) (.l 4)),
 vA (.bin .add (.l 5) (.c (.s [45]))),
 vA (.mov (.s 6)),
 vA (.call 94 [(.l 7), (cI 2)]),
 vA (.bin .add (.l 6) (.l 8)),
 vB 1 (.mov (.l 9))] none)
 .ret)))), true, false, none, false⟩
def tm53 : List Nat := [0, 2, 15, 6, 3, 4, 5]
def bs53 : List Nat := []
def v54 : VFunc :=
 ⟨1, 2, [.s 1],
 (.seq (.reg [vB 1 (.mov (.c (.b false)))] none)
 (.seq (.reg [vA (.mov (.s 0)),
 vA (.bin .geq (.l 0) (cI (-9007199254740992))),
 vA (.mov (.l 1)),
 vG 2 true (.mov (.s 0)),
 vG 2 true (.bin .leq (.l 3) (cI 9007199254740992)),
 vA (.pick (.l 2) (.l 4) (.c (.b false))),
 vB 1 (.mov (.l 5))] none)
 .ret)), true, false, none, false⟩
def tm54 : List Nat := [0, 2]
def bs54 : List Nat := []
def v55 : VFunc :=
 ⟨2, 3, [.s 2],
 (.seq (.reg [vB 2 (.mov (.c (.b false)))] none)
 (.seq (.reg [vA (.mov (.s 0)),
 vA (.mov (.s 1)),
 vA (.bin .sub (.l 1) (cI 1900)),
 vA (.bin .mul (cI 12) (.l 2)),
 vA (.bin .geq (.l 0) (.l 3)),
 vA (.mov (.l 4)),
 vG 5 true (.mov (.s 0)),
 vG 5 true (.mov (.s 1)),
 vG 5 true (.bin .sub (.l 7) (cI 1900)),
 vG 5 true (.bin .mul (cI 12) (.l 8)),
 vG 5 true (.bin .add (.l 9) (cI 11)),
 vG 5 true (.bin .leq (.l 6) (.l 10)),
 vA (.pick (.l 5) (.l 11) (.c (.b false))),
 vB 2 (.mov (.l 12))] none)
 .ret)), true, false, none, false⟩
def tm55 : List Nat := [0, 1, 4]
def bs55 : List Nat := []
def v56 : VFunc :=
 ⟨1, 5, [.s 1],
 (.seq (.reg [vB 4 (.lbx (.s 0) 3),
 vB 1 (.mov (.c (.b false)))] none)
 (.seq (.seq (.reg [vA (.lfa (.sl 4) 0),
 vA (.lld (.lo 0) 1 false),
 vA (.bin .lss (.l 1) (cI 0)),
 vA (.mov (.l 2)),
 vG 3 false (.lfa (.sl 4) 0),
 vG 3 false (.lld (.lo 4) 1 false),
 vG 3 false (.bin .gtr (.l 5) (cI 2400)),
 vA (.pick (.l 3) (.c (.b true)) (.l 6)),
 vA (.mov (.l 7)),
 vG 8 false (.lfa (.sl 4) 1),
 vG 8 false (.lld (.lo 9) 1 false),
 vG 8 false (.len 1 (.l 10)),
 vG 8 false (.bin .gtr (.l 11) (cI 1200)),
 vA (.pick (.l 8) (.c (.b true)) (.l 12)),
 vA (.mov (.l 13)),
 vG 14 false (.lfa (.sl 4) 0),
 vG 14 false (.lld (.lo 15) 1 false),
 vG 14 false (.lfa (.sl 4) 1),
 vG 14 false (.lld (.lo 17) 1 false),
 vG 14 false (.len 1 (.l 18)),
 vG 14 false (.bin .add (.l 16) (.l 19)),
 vG 14 false (.bin .gtr (.l 20) (cI 2400)),
 vB 2 (.pick (.l 14) (.c (.b true)) (.l 21))] none)
 (.cond (.s 2) (.seq (.reg [vB 1 (.mov (.c (.b false)))] none)
 .ret)
 .skip))
 (.seq (.seq (.reg [vA (.lfa (.sl 4) 1),
 vA (.lld (.lo 0) 1 false),
 vB 3 (.call 95 [(.l 1), (.c (.fn (.func 96) [] []))])] none)
 (.cond (.s 3) (.seq (.reg [vB 1 (.mov (.c (.b false)))] none)
 .ret)
 .skip))
 (.seq (.reg [vA (.lfa (.sl 4) 2),
 vA (.lld (.lo 0) 1 false),
 vA (.len 1 (.l 1)),
 vA (.bin .leq (.l 2) (cI 4000)),
 vA (.mov (.l 3)),
 vG 4 true (.lld (.sl 4) 3 true),
 vG 4 true (.lfa (.sl 4) 2),
 vG 4 true (.lld (.lo 6) 1 false),
 vG 4 true (.call 97 [(.l 5), (.l 7), (cI 0)]),
 vA (.pick (.l 4) (.l 8) (.c (.b false))),
 vB 1 (.mov (.l 9))] none)
 .ret)))), true, false, none, false⟩
def tm56 : List Nat := [0, 2, 25, 28, 1]
def bs56 : List Nat := [4]
def v57 : VFunc :=
 ⟨1, 2, [.s 1],
 (.seq (.reg [vB 1 (.mov (.c (.b false)))] none)
 (.seq (.reg [vA (.mov (.s 0)),
 vA (.bin .leq (cI 0) (.l 0)),
 vA (.mov (.l 1)),
 vG 2 true (.mov (.s 0)),
 vG 2 true (.bin .leq (.l 3) (cI 1099511627776)),
 vA (.pick (.l 2) (.l 4) (.c (.b false))),
 vB 1 (.mov (.l 5))] none)
 .ret)), true, false, none, false⟩
def tm57 : List Nat := [0, 2]
def bs57 : List Nat := []
def v58 : VFunc :=
 ⟨1, 2, [.s 1],
 (.seq (.reg [vB 1 (.mov (.c (.b false)))] none)
 (.seq (.reg [vA (.mov (.s 0)),
 vA (.bin .leq (cI (-1099511627776)) (.l 0)),
 vA (.mov (.l 1)),
 vG 2 true (.mov (.s 0)),
 vG 2 true (.bin .leq (.l 3) (cI 1099511627776)),
 vA (.pick (.l 2) (.l 4) (.c (.b false))),
 vB 1 (.mov (.l 5))] none)
 .ret)), true, false, none, false⟩
def tm58 : List Nat := [0, 2]
def bs58 : List Nat := []
def v59l0 : VCode :=
 (.seq (.reg [vB 3 (.bin .lss (.s 5) (.s 6))] none)
 (.seq (.cond (.s 3) .skip
 (.exit 0))
 (.seq (.block 1 (.seq (.reg [vA (.iad (.s 7) (.s 5) 1),
 vA (.ld (.l 0) 1 false),
 vB 8 (.mov (.l 1))] none)
 (.reg [vA (.mov (.s 4)),
 vA (.mov (.s 1)),
 vA (.mov (.s 8)),
 vA (.calv (.l 1) [(.l 2)]),
 vA (.bin .add (.l 0) (.l 3)),
 vB 4 (.mov (.l 4))] none)))
 (.reg [vA (.bin .add (.s 5) (cI 1)),
 vB 5 (.mov (.l 0))] none))))
def v59 : VFunc :=
 ⟨2, 9, [.s 2],
 (.seq (.reg [vB 2 (.mov (cI 0))] none)
 (.seq (.reg [vB 4 (.mov (cI 0))] none)
 (.seq (.seq (.reg [vB 7 (.mov (.s 0)),
 vB 6 (.len 1 (.s 7)),
 vB 5 (.mov (cI 0))] none)
 (.block 0 (.loop v59l0)))
 (.seq (.reg [vA (.mov (.s 4)),
 vB 2 (.mov (.l 0))] none)
 .ret)))), false, false, none, false⟩
def tm59 : List Nat := [0, 1, 4, 11, 5, 10, 9, 8, 7]
def bs59 : List Nat := []
def v60 : VFunc :=
 ⟨1, 2, [.s 1],
 (.seq (.reg [vB 1 (.mov (cI 0))] none)
 (.seq (.reg [vA (.mov (.s 0)),
 vB 1 (.mov (.l 0))] none)
 .ret)), true, false, none, false⟩
def tm60 : List Nat := [0, 2]
def bs60 : List Nat := []
def v61l0 : VCode :=
 (.seq (.reg [vB 3 (.bin .lss (.s 5) (.s 6))] none)
 (.seq (.cond (.s 3) .skip
 (.exit 0))
 (.seq (.block 1 (.seq (.reg [vA (.iad (.s 7) (.s 5) 4),
 vA (.ld (.l 0) 4 true),
 vB 8 (.lal [(.i .i64 0), (.i .i64 0), (.i .u8 0), (.i .i64 0)]),
 vA (.lst (.sl 8) (.l 1) 4)] none)
 (.reg [vA (.mov (.s 4)),
 vA (.mov (.s 1)),
 vA (.lld (.sl 8) 4 true),
 vA (.calv (.l 1) [(.l 2)]),
 vA (.bin .add (.l 0) (.l 3)),
 vB 4 (.mov (.l 4))] none)))
 (.reg [vA (.bin .add (.s 5) (cI 1)),
 vB 5 (.mov (.l 0))] none))))
def v61 : VFunc :=
 ⟨2, 9, [.s 2],
 (.seq (.reg [vB 2 (.mov (cI 0))] none)
 (.seq (.reg [vB 4 (.mov (cI 0))] none)
 (.seq (.seq (.reg [vB 7 (.mov (.s 0)),
 vB 6 (.len 1 (.s 7)),
 vB 5 (.mov (cI 0))] none)
 (.block 0 (.loop v61l0)))
 (.seq (.reg [vA (.mov (.s 4)),
 vB 2 (.mov (.l 0))] none)
 .ret)))), false, false, none, false⟩
def tm61 : List Nat := [0, 1, 4, 11, 5, 10, 9, 8, 7]
def bs61 : List Nat := [8]
def v62 : VFunc :=
 ⟨2, 5, [.s 2],
 (.seq (.reg [vB 4 (.lbx (.s 0) 4),
 vB 2 (.mov (cI 0))] none)
 (.seq (.seq (.reg [vA (.lfa (.sl 4) 1),
 vA (.lld (.lo 0) 1 false),
 vA (.ld (.s 1) 1 false),
 vB 3 (.bin .geq (.l 1) (.l 2))] none)
 (.cond (.s 3) (.seq (.reg [vB 2 (.mov (cI 0))] none)
 .ret)
 .skip))
 (.seq (.reg [vA (.lld (.sl 4) 4 true),
 vA (.call 63 [(.l 0)]),
 vB 2 (.mov (.l 1))] none)
 .ret))), false, false, none, false⟩
def tm62 : List Nat := [0, 1, 3, 7, 2]
def bs62 : List Nat := [4]
def v63 : VFunc :=
 ⟨1, 4, [.s 1],
 (.seq (.reg [vB 3 (.lbx (.s 0) 4),
 vB 1 (.mov (cI 0))] none)
 (.seq (.seq (.reg [vA (.lfa (.sl 3) 2),
 vA (.lld (.lo 0) 1 false),
 vB 2 (.bin .eql (.l 1) (.c (.i .u8 3)))] none)
 (.cond (.s 2) (.seq (.reg [vB 1 (.mov (cI 0))] none)
 .ret)
 .skip))
 (.seq (.reg [vA (.lfa (.sl 3) 3),
 vA (.lld (.lo 0) 1 false),
 vB 1 (.mov (.l 1))] none)
 .ret))), true, false, none, false⟩
def tm63 : List Nat := [0, 2, 5, 1]
def bs63 : List Nat := [3]
def v64 : VFunc :=
 ⟨2, 4, [.s 2],
 (.seq (.reg [vB 3 (.lbx (.s 0) 3),
 vB 2 (.mov (.c (.b false)))] none)
 (.seq (.reg [vA (.lfa (.sl 3) 0),
 vA (.lld (.lo 0) 1 false),
 vA (.mov (.s 1)),
 vA (.bin .leq (.l 1) (.l 2)),
 vA (.mov (.l 3)),
 vG 4 true (.mov (.s 1)),
 vG 4 true (.lfa (.sl 3) 0),
 vG 4 true (.lld (.lo 6) 1 false),
 vG 4 true (.lfa (.sl 3) 1),
 vG 4 true (.lld (.lo 8) 1 false),
 vG 4 true (.len 1 (.l 9)),
 vG 4 true (.bin .add (.l 7) (.l 10)),
 vG 4 true (.bin .lss (.l 5) (.l 11)),
 vA (.pick (.l 4) (.l 12) (.c (.b false))),
 vB 2 (.mov (.l 13))] none)
 .ret)), true, false, none, false⟩
def tm64 : List Nat := [0, 1, 4, 2]
def bs64 : List Nat := [3]
def v65 : VFunc :=
 ⟨2, 5, [.s 2],
 (.seq (.reg [vB 3 (.lbx (.s 0) 3),
 vB 4 (.hbx 3 (.s 1) 1),
 vB 2 (.mov (cI 0))] none)
 (.seq (.reg [vA (.lfa (.sl 3) 2),
 vA (.lld (.lo 0) 1 false),
 vA (.mkf (.func 98) [] [(.s 4)]),
 vA (.call 61 [(.l 1), (.l 2)]),
 vB 2 (.mov (.l 3))] none)
 .ret)), true, false, none, false⟩
def tm65 : List Nat := [0, 1, 4, 2, 3]
def bs65 : List Nat := [3]
def v66l0 : VCode :=
 (.seq (.reg [vB 2 (.bin .lss (.s 4) (.s 5))] none)
 (.seq (.cond (.s 2) .skip
 (.exit 0))
 (.seq (.block 1 (.seq (.reg [vA (.iad (.s 6) (.s 4) 1),
 vA (.ld (.l 0) 1 false),
 vB 7 (.mov (.l 1))] none)
 (.seq (.reg [vA (.mov (.s 7)),
 vA (.bin .lss (.l 0) (cI (-9007199254740992))),
 vA (.mov (.l 1)),
 vG 2 false (.mov (.s 7)),
 vG 2 false (.bin .gtr (.l 3) (cI 9007199254740992)),
 vB 3 (.pick (.l 2) (.c (.b true)) (.l 4))] none)
 (.cond (.s 3) (.seq (.reg [vB 1 (.mov (.c (.b false)))] none)
 .ret)
 .skip))))
 (.reg [vA (.bin .add (.s 4) (cI 1)),
 vB 4 (.mov (.l 0))] none))))
def v66 : VFunc :=
 ⟨1, 8, [.s 1],
 (.seq (.reg [vB 1 (.mov (.c (.b false)))] none)
 (.seq (.seq (.reg [vB 6 (.mov (.s 0)),
 vB 5 (.len 1 (.s 6)),
 vB 4 (.mov (cI 0))] none)
 (.block 0 (.loop v66l0)))
 (.seq (.reg [vB 1 (.mov (.c (.b true)))] none)
 .ret))), true, false, none, false⟩
def tm66 : List Nat := [0, 2, 8, 16, 7, 6, 5, 4]
def bs66 : List Nat := []
def v67l0 : VCode :=
 (.seq (.reg [vB 3 (.bin .lss (.s 5) (.s 6))] none)
 (.seq (.cond (.s 3) .skip
 (.exit 0))
 (.seq (.block 1 (.seq (.reg [vA (.iad (.s 7) (.s 5) 4),
 vA (.ld (.l 0) 4 true),
 vB 8 (.lal [(.i .i64 0), (.i .i64 0), (.i .i64 0), (.i .i64 0)]),
 vA (.lst (.sl 8) (.l 1) 4)] none)
 (.reg [vA (.mov (.s 4)),
 vA (.mov (.s 1)),
 vA (.lld (.sl 8) 4 true),
 vA (.calv (.l 1) [(.l 2)]),
 vA (.bin .add (.l 0) (.l 3)),
 vB 4 (.mov (.l 4))] none)))
 (.reg [vA (.bin .add (.s 5) (cI 1)),
 vB 5 (.mov (.l 0))] none))))
def v67 : VFunc :=
 ⟨2, 9, [.s 2],
 (.seq (.reg [vB 2 (.mov (cI 0))] none)
 (.seq (.reg [vB 4 (.mov (cI 0))] none)
 (.seq (.seq (.reg [vB 7 (.mov (.s 0)),
 vB 6 (.len 1 (.s 7)),
 vB 5 (.mov (cI 0))] none)
 (.block 0 (.loop v67l0)))
 (.seq (.reg [vA (.mov (.s 4)),
 vB 2 (.mov (.l 0))] none)
 .ret)))), false, false, none, false⟩
def tm67 : List Nat := [0, 1, 4, 11, 5, 10, 9, 8, 7]
def bs67 : List Nat := [8]
def v68 : VFunc :=
 ⟨1, 3, [.s 1],
 (.seq (.reg [vB 2 (.lbx (.s 0) 4),
 vB 1 (.mov (cI 0))] none)
 (.seq (.reg [vA (.lfa (.sl 2) 3),
 vA (.lld (.lo 0) 1 false),
 vB 1 (.mov (.l 1))] none)
 .ret)), true, false, none, false⟩
def tm68 : List Nat := [0, 2, 1]
def bs68 : List Nat := [2]
def v70 : VFunc :=
 ⟨1, 2, [.s 1],
 (.seq (.reg [vB 1 (.mov (.c (.s [])))] none)
 (.seq (.reg [vA (.mov (.s 0)),
 vA (.call 100 [(.l 0)]),
 vB 1 (.mov (.l 1))] none)
 .ret)), true, false, none, false⟩
def tm70 : List Nat := [0, 2]
def bs70 : List Nat := []
def v71l0 : VCode :=
 (.seq (.reg [vB 7 (.bin .lss (.s 12) (.s 13))] none)
 (.seq (.cond (.s 7) .skip
 (.exit 1))
 (.seq (.block 2 (.seq (.reg [vA (.iad (.s 14) (.s 12) 1),
 vA (.ld (.l 0) 1 false),
 vB 15 (.mov (.l 1))] none)
 (.seq (.seq (.reg [vA (.mov (.s 15)),
 vA (.len 0 (.l 0)),
 vA (.mov (.s 11)),
 vA (.bin .sub (cI 9223372036854775807) (.l 2)),
 vB 8 (.bin .gtr (.l 1) (.l 3))] none)
 (.cond (.s 8) (.reg [vA (.mki 9 (.c (.s [115, 116, 114, 105, 110, 103, 115, 58, 32, 74, 111, 105, 110, 32, 111, 117, 116, 112, 117, 116, 32, 108, 101, 110, 103, 116, 104, 32, 111, 118, 101, 114, 102, 108, 111, 119]))),
 vA (.pan (.l 0))] none)
 .skip))
 (.reg [vA (.mov (.s 11)),
 vA (.mov (.s 15)),
 vA (.len 0 (.l 1)),
 vA (.bin .add (.l 0) (.l 2)),
 vB 11 (.mov (.l 3))] none))))
 (.reg [vA (.bin .add (.s 12) (cI 1)),
 vB 12 (.mov (.l 0))] none))))
def v71l1 : VCode :=
 (.seq (.reg [vB 9 (.bin .lss (.s 17) (.s 18))] none)
 (.seq (.cond (.s 9) .skip
 (.exit 3))
 (.seq (.block 4 (.seq (.reg [vA (.iad (.s 19) (.s 17) 1),
 vA (.ld (.l 0) 1 false),
 vB 20 (.mov (.l 1))] none)
 (.seq (.reg [vA (.mov (.s 1)),
 vA (.call 37 [(.s 16), (.l 0)])] none)
 (.reg [vA (.mov (.s 20)),
 vA (.call 37 [(.s 16), (.l 0)])] none))))
 (.reg [vA (.bin .add (.s 17) (cI 1)),
 vB 17 (.mov (.l 0))] none))))
def v71 : VFunc :=
 ⟨2, 21, [.s 2],
 (.seq (.reg [vB 2 (.mov (.c (.s [])))] none)
 (.seq (.seq (.reg [vA (.mov (.s 0)),
 vB 10 (.len 1 (.l 0))] none)
 (.block 0 (.seq (.reg [vA (.bin .eql (.s 10) (cI 0)),
 vB 3 (.mov (.l 0))] none)
 (.cond (.s 3) (.seq (.reg [vB 2 (.mov (.c (.s [])))] none)
 .ret)
 (.seq (.reg [vA (.bin .eql (.s 10) (cI 1)),
 vB 4 (.mov (.l 0))] none)
 (.cond (.s 4) (.seq (.reg [vA (.mov (.s 0)),
 vA (.iad (.l 0) (cI 0) 1),
 vA (.ld (.l 1) 1 false),
 vB 2 (.mov (.l 2))] none)
 .ret)
 .skip))))))
 (.seq (.reg [vB 11 (.mov (cI 0))] none)
 (.seq (.seq (.reg [vA (.mov (.s 1)),
 vA (.len 0 (.l 0)),
 vB 5 (.bin .gtr (.l 1) (cI 0))] none)
 (.cond (.s 5) (.seq (.seq (.reg [vA (.mov (.s 1)),
 vA (.len 0 (.l 0)),
 vA (.mov (.s 0)),
 vA (.len 1 (.l 2)),
 vA (.bin .sub (.l 3) (cI 1)),
 vA (.bin .quo (cI 9223372036854775807) (.l 4)),
 vB 6 (.bin .geq (.l 1) (.l 5))] none)
 (.cond (.s 6) (.reg [vA (.mki 9 (.c (.s [115, 116, 114, 105, 110, 103, 115, 58, 32, 74, 111, 105, 110, 32, 111, 117, 116, 112, 117, 116, 32, 108, 101, 110, 103, 116, 104, 32, 111, 118, 101, 114, 102, 108, 111, 119]))),
 vA (.pan (.l 0))] none)
 .skip))
 (.reg [vA (.mov (.s 11)),
 vA (.mov (.s 1)),
 vA (.len 0 (.l 1)),
 vA (.mov (.s 0)),
 vA (.len 1 (.l 3)),
 vA (.bin .sub (.l 4) (cI 1)),
 vA (.bin .mul (.l 2) (.l 5)),
 vA (.bin .add (.l 0) (.l 6)),
 vB 11 (.mov (.l 7))] none))
 .skip))
 (.seq (.seq (.reg [vB 14 (.mov (.s 0)),
 vB 13 (.len 1 (.s 14)),
 vB 12 (.mov (cI 0))] none)
 (.block 1 (.loop v71l0)))
 (.seq (.reg [vB 16 (.hal 81 [.np, .nil])] none)
 (.seq (.reg [vA (.mov (.s 11)),
 vA (.call 101 [(.s 16), (.l 0)])] none)
 (.seq (.reg [vA (.mov (.s 0)),
 vA (.iad (.l 0) (cI 0) 1),
 vA (.ld (.l 1) 1 false),
 vA (.call 37 [(.s 16), (.l 2)])] none)
 (.seq (.seq (.reg [vA (.mov (.s 0)),
 vB 19 (.sli false 1 (.l 0) (some (cI 1)) none none),
 vB 18 (.len 1 (.s 19)),
 vB 17 (.mov (cI 0))] none)
 (.block 3 (.loop v71l1)))
 (.seq (.reg [vA (.call 40 [(.s 16)]),
 vB 2 (.mov (.l 0))] none)
 .ret)))))))))), true, false, none, false⟩
def tm71 : List Nat := [0, 1, 4, 13, 15, 22, 29, 42, 49, 66, 12, 5, 41, 40, 39, 7, 8, 65, 64, 63, 10]
def bs71 : List Nat := []
def v72 : VFunc :=
 ⟨1, 3, [.s 1],
 (.seq (.reg [vB 1 (.mov (.c .nil))] none)
 (.seq (.reg [vB 2 (.mov (.c .nil))] none)
 (.seq (.reg [vA (.mov (.s 2)),
 vA (.mov (.s 0)),
 vA (.app (.l 0) (.l 1) 1 8 true),
 vB 1 (.mov (.l 2))] none)
 .ret))), true, false, none, false⟩
def tm72 : List Nat := [0, 2, 3]
def bs72 : List Nat := []
def v73 : VFunc :=
 ⟨1, 3, [.s 1],
 (.seq (.reg [vB 1 (.mov (.c .nil))] none)
 (.seq (.reg [vB 2 (.mov (.c .nil))] none)
 (.seq (.reg [vA (.mov (.s 2)),
 vA (.mov (.s 0)),
 vA (.app (.l 0) (.l 1) 4 32 true),
 vB 1 (.mov (.l 2))] none)
 .ret))), true, false, none, false⟩
def tm73 : List Nat := [0, 2, 3]
def bs73 : List Nat := []
def v74l0 : VCode :=
 (.seq (.seq (.reg [vA (.mov (.s 7)),
 vA (.lfa (.sl 6) 6),
 vA (.lld (.lo 1) 1 false),
 vA (.len 1 (.l 2)),
 vB 3 (.bin .lss (.l 0) (.l 3))] none)
 (.cond (.s 3) .skip
 (.exit 0)))
 (.seq (.block 1 (.seq (.reg [vA (.lfa (.sl 6) 6),
 vA (.lld (.lo 0) 1 false),
 vA (.mov (.s 7)),
 vA (.iad (.l 1) (.l 2) 10),
 vA (.ld (.l 3) 10 true),
 vB 8 (.lal [(.i .i64 0), (.i .i64 0), (.i .i64 0), (.i .i64 0), (.i .i64 0), (.i .i64 0), (.i .i64 0), (.i .i64 0), (.i .i64 0), (.b false)]),
 vA (.lst (.sl 8) (.l 4) 10)] none)
 (.seq (.seq (.reg [vA (.lfa (.sl 8) 0),
 vA (.lld (.lo 0) 1 false),
 vA (.bin .lss (.l 1) (cI 0)),
 vA (.mov (.l 2)),
 vG 3 false (.lfa (.sl 8) 4),
 vG 3 false (.lfa (.lo 4) 0),
 vG 3 false (.lld (.lo 5) 1 false),
 vG 3 false (.bin .lss (.l 6) (cI 0)),
 vA (.pick (.l 3) (.c (.b true)) (.l 7)),
 vA (.mov (.l 8)),
 vG 9 false (.lfa (.sl 8) 2),
 vG 9 false (.lld (.lo 10) 1 false),
 vG 9 false (.bin .lss (.l 11) (cI 0)),
 vA (.pick (.l 9) (.c (.b true)) (.l 12)),
 vA (.mov (.l 13)),
 vG 14 false (.lfa (.sl 8) 2),
 vG 14 false (.lld (.lo 15) 1 false),
 vG 14 false (.lfa (.sl 8) 3),
 vG 14 false (.lld (.lo 17) 1 false),
 vG 14 false (.bin .gtr (.l 16) (.l 18)),
 vA (.pick (.l 14) (.c (.b true)) (.l 19)),
 vA (.mov (.l 20)),
 vG 21 false (.lfa (.sl 8) 3),
 vG 21 false (.lld (.lo 22) 1 false),
 vG 21 false (.lfa (.sl 6) 0),
 vG 21 false (.lfa (.lo 24) 2),
 vG 21 false (.lld (.lo 25) 1 false),
 vG 21 false (.len 1 (.l 26)),
 vG 21 false (.bin .gtr (.l 23) (.l 27)),
 vA (.pick (.l 21) (.c (.b true)) (.l 28)),
 vA (.mov (.l 29)),
 vG 30 false (.lfa (.sl 8) 4),
 vG 30 false (.lfa (.lo 31) 2),
 vG 30 false (.lld (.lo 32) 1 false),
 vG 30 false (.bin .lss (.l 33) (cI 0)),
 vA (.pick (.l 30) (.c (.b true)) (.l 34)),
 vA (.mov (.l 35)),
 vG 36 false (.lfa (.sl 8) 4),
 vG 36 false (.lfa (.lo 37) 2),
 vG 36 false (.lld (.lo 38) 1 false),
 vG 36 false (.bin .gtr (.l 39) (cI 1099511627776)),
 vA (.pick (.l 36) (.c (.b true)) (.l 40)),
 vA (.mov (.l 41)),
 vG 42 false (.lfa (.sl 8) 4),
 vG 42 false (.lfa (.lo 43) 3),
 vG 42 false (.lld (.lo 44) 1 false),
 vG 42 false (.bin .lss (.l 45) (cI (-1099511627776))),
 vA (.pick (.l 42) (.c (.b true)) (.l 46)),
 vA (.mov (.l 47)),
 vG 48 false (.lfa (.sl 8) 4),
 vG 48 false (.lfa (.lo 49) 3),
 vG 48 false (.lld (.lo 50) 1 false),
 vG 48 false (.bin .gtr (.l 51) (cI 1099511627776)),
 vB 4 (.pick (.l 48) (.c (.b true)) (.l 52))] none)
 (.cond (.s 4) (.seq (.reg [vB 1 (.mov (.c (.b false)))] none)
 .ret)
 .skip))
 (.seq (.reg [vA (.mov (.s 7)),
 vA (.bin .gtr (.l 0) (cI 0)),
 vA (.mov (.l 1)),
 vG 2 true (.lfa (.sl 6) 6),
 vG 2 true (.lld (.lo 3) 1 false),
 vG 2 true (.mov (.s 7)),
 vG 2 true (.bin .sub (.l 5) (cI 1)),
 vG 2 true (.iad (.l 4) (.l 6) 10),
 vG 2 true (.fad (.l 7) 0),
 vG 2 true (.ld (.l 8) 1 false),
 vG 2 true (.lfa (.sl 8) 0),
 vG 2 true (.lld (.lo 10) 1 false),
 vG 2 true (.bin .geq (.l 9) (.l 11)),
 vG 2 true (.mov (.l 12)),
 vG 13 false (.lfa (.sl 6) 6),
 vG 13 false (.lld (.lo 14) 1 false),
 vG 13 false (.mov (.s 7)),
 vG 13 false (.bin .sub (.l 16) (cI 1)),
 vG 13 false (.iad (.l 15) (.l 17) 10),
 vG 13 false (.fad (.l 18) 4),
 vG 13 false (.fad (.l 19) 0),
 vG 13 false (.ld (.l 20) 1 false),
 vG 13 false (.lfa (.sl 8) 4),
 vG 13 false (.lfa (.lo 22) 0),
 vG 13 false (.lld (.lo 23) 1 false),
 vG 13 false (.bin .geq (.l 21) (.l 24)),
 vG 2 true (.pick (.l 13) (.c (.b true)) (.l 25)),
 vG 2 true (.mov (.l 26)),
 vG 27 false (.lfa (.sl 6) 6),
 vG 27 false (.lld (.lo 28) 1 false),
 vG 27 false (.mov (.s 7)),
 vG 27 false (.bin .sub (.l 30) (cI 1)),
 vG 27 false (.iad (.l 29) (.l 31) 10),
 vG 27 false (.fad (.l 32) 3),
 vG 27 false (.ld (.l 33) 1 false),
 vG 27 false (.lfa (.sl 8) 2),
 vG 27 false (.lld (.lo 35) 1 false),
 vG 27 false (.bin .gtr (.l 34) (.l 36)),
 vG 2 true (.pick (.l 27) (.c (.b true)) (.l 37)),
 vB 5 (.pick (.l 2) (.l 38) (.c (.b false)))] (some false))
 (.cond (.s 5) (.seq (.reg [vB 1 (.mov (.c (.b false)))] none)
 .ret)
 .skip)))))
 (.reg [vA (.mov (.s 7)),
 vA (.bin .add (.l 0) (cI 1)),
 vB 7 (.mov (.l 1))] none)))
def v74 : VFunc :=
 ⟨1, 9, [.s 1],
 (.seq (.reg [vB 6 (.lbx (.s 0) 7),
 vB 1 (.mov (.c (.b false)))] none)
 (.seq (.seq (.reg [vA (.lfa (.sl 6) 0),
 vA (.lld (.lo 0) 3 true),
 vA (.call 102 [(.l 1)]),
 vA (.un .not (.l 2)),
 vA (.mov (.l 3)),
 vG 4 false (.lfa (.sl 6) 3),
 vG 4 false (.lfa (.lo 5) 0),
 vG 4 false (.lld (.lo 6) 1 false),
 vG 4 false (.bin .lss (.l 7) (cI 0)),
 vA (.pick (.l 4) (.c (.b true)) (.l 8)),
 vA (.mov (.l 9)),
 vG 10 false (.lfa (.sl 6) 3),
 vG 10 false (.lfa (.lo 11) 0),
 vG 10 false (.lld (.lo 12) 1 false),
 vG 10 false (.bin .gtr (.l 13) (cI 2153)),
 vA (.pick (.l 10) (.c (.b true)) (.l 14)),
 vA (.mov (.l 15)),
 vG 16 false (.lfa (.sl 6) 3),
 vG 16 false (.lfa (.lo 17) 1),
 vG 16 false (.lld (.lo 18) 1 false),
 vG 16 false (.bin .lss (.l 19) (cI 0)),
 vA (.pick (.l 16) (.c (.b true)) (.l 20)),
 vA (.mov (.l 21)),
 vG 22 false (.lfa (.sl 6) 3),
 vG 22 false (.lfa (.lo 23) 1),
 vG 22 false (.lld (.lo 24) 1 false),
 vG 22 false (.bin .gtr (.l 25) (cI 1099511627776)),
 vA (.pick (.l 22) (.c (.b true)) (.l 26)),
 vA (.mov (.l 27)),
 vG 28 false (.lfa (.sl 6) 3),
 vG 28 false (.lfa (.lo 29) 2),
 vG 28 false (.lld (.lo 30) 1 false),
 vG 28 false (.bin .lss (.l 31) (cI (-1099511627776))),
 vA (.pick (.l 28) (.c (.b true)) (.l 32)),
 vA (.mov (.l 33)),
 vG 34 false (.lfa (.sl 6) 3),
 vG 34 false (.lfa (.lo 35) 2),
 vG 34 false (.lld (.lo 36) 1 false),
 vG 34 false (.bin .gtr (.l 37) (cI 1099511627776)),
 vA (.pick (.l 34) (.c (.b true)) (.l 38)),
 vA (.mov (.l 39)),
 vG 40 false (.lfa (.sl 6) 6),
 vG 40 false (.lld (.lo 41) 1 false),
 vG 40 false (.len 1 (.l 42)),
 vG 40 false (.bin .gtr (.l 43) (cI 1200)),
 vB 2 (.pick (.l 40) (.c (.b true)) (.l 44))] none)
 (.cond (.s 2) (.seq (.reg [vB 1 (.mov (.c (.b false)))] none)
 .ret)
 .skip))
 (.seq (.seq (.reg [vB 7 (.mov (cI 0))] none)
 (.block 0 (.loop v74l0)))
 (.seq (.reg [vB 1 (.mov (.c (.b true)))] none)
 .ret)))), true, false, none, false⟩
def tm74 : List Nat := [0, 2, 50, 55, 116, 156, 1, 3, 4]
def bs74 : List Nat := [6, 8]
def v75l0 : VCode :=
 (.seq (.seq (.reg [vA (.mov (.s 6)),
 vA (.lfa (.sl 7) 1),
 vA (.lld (.lo 1) 1 false),
 vA (.len 1 (.l 2)),
 vB 3 (.bin .lss (.l 0) (.l 3))] none)
 (.cond (.s 3) .skip
 (.exit 0)))
 (.seq (.block 1 (.seq (.reg [vA (.lfa (.sl 7) 0),
 vA (.lld (.lo 0) 1 false),
 vA (.mov (.s 6)),
 vA (.bin .add (.l 1) (.l 2)),
 vA (.mov (.s 1)),
 vB 4 (.bin .lss (.l 3) (.l 4))] none)
 (.cond (.s 4) (.reg [vA (.mov (.s 5)),
 vA (.lfa (.sl 7) 1),
 vA (.lld (.lo 1) 1 false),
 vA (.mov (.s 6)),
 vA (.iad (.l 2) (.l 3) 1),
 vA (.ld (.l 4) 1 false),
 vA (.bin .add (.l 0) (.l 5)),
 vA (.lld (.sl 7) 3 true),
 vA (.lfa (.sl 7) 0),
 vA (.lld (.lo 8) 1 false),
 vA (.mov (.s 6)),
 vA (.bin .add (.l 9) (.l 10)),
 vA (.call 77 [(.l 7), (.l 11)]),
 vA (.bin .sub (.l 6) (.l 12)),
 vB 5 (.mov (.l 13))] (some false))
 .skip)))
 (.reg [vA (.mov (.s 6)),
 vA (.bin .add (.l 0) (cI 1)),
 vB 6 (.mov (.l 1))] none)))
def v75 : VFunc :=
 ⟨2, 8, [.s 2],
 (.seq (.reg [vB 7 (.lbx (.s 0) 3),
 vB 2 (.mov (cI 0))] none)
 (.seq (.reg [vB 5 (.mov (cI 0))] none)
 (.seq (.seq (.reg [vB 6 (.mov (cI 0))] none)
 (.block 0 (.loop v75l0)))
 (.seq (.reg [vA (.mov (.s 5)),
 vB 2 (.mov (.l 0))] none)
 .ret)))), true, false, none, false⟩
def tm75 : List Nat := [0, 1, 4, 11, 19, 5, 6, 2]
def bs75 : List Nat := [7]
def v76l0 : VCode :=
 (.seq (.seq (.reg [vA (.mov (.s 5)),
 vA (.lfa (.sl 6) 1),
 vA (.lld (.lo 1) 1 false),
 vA (.len 1 (.l 2)),
 vB 3 (.bin .lss (.l 0) (.l 3))] none)
 (.cond (.s 3) .skip
 (.exit 0)))
 (.seq (.block 1 (.seq (.reg [vA (.lfa (.sl 6) 0),
 vA (.lld (.lo 0) 1 false),
 vA (.mov (.s 5)),
 vA (.bin .add (.l 1) (.l 2)),
 vA (.mov (.s 1)),
 vB 4 (.bin .eql (.l 3) (.l 4))] none)
 (.cond (.s 4) (.seq (.reg [vB 2 (.mov (.c (.b true)))] none)
 .ret)
 .skip)))
 (.reg [vA (.mov (.s 5)),
 vA (.bin .add (.l 0) (cI 1)),
 vB 5 (.mov (.l 1))] none)))
def v76 : VFunc :=
 ⟨2, 7, [.s 2],
 (.seq (.reg [vB 6 (.lbx (.s 0) 3),
 vB 2 (.mov (.c (.b false)))] none)
 (.seq (.seq (.reg [vB 5 (.mov (cI 0))] none)
 (.block 0 (.loop v76l0)))
 (.seq (.reg [vB 2 (.mov (.c (.b false)))] none)
 .ret))), true, false, none, false⟩
def tm76 : List Nat := [0, 1, 4, 10, 18, 5, 2]
def bs76 : List Nat := [6]
def v77l0 : VCode :=
 (.seq (.seq (.reg [vA (.mov (.s 6)),
 vA (.lfa (.sl 7) 2),
 vA (.lld (.lo 1) 1 false),
 vA (.len 1 (.l 2)),
 vB 3 (.bin .lss (.l 0) (.l 3))] none)
 (.cond (.s 3) .skip
 (.exit 0)))
 (.seq (.block 1 (.seq (.reg [vA (.lfa (.sl 7) 2),
 vA (.lld (.lo 0) 1 false),
 vA (.mov (.s 6)),
 vA (.iad (.l 1) (.l 2) 4),
 vA (.fad (.l 3) 1),
 vA (.ld (.l 4) 1 false),
 vA (.mov (.s 1)),
 vA (.bin .eql (.l 5) (.l 6)),
 vA (.mov (.l 7)),
 vG 8 true (.lfa (.sl 7) 2),
 vG 8 true (.lld (.lo 9) 1 false),
 vG 8 true (.mov (.s 6)),
 vG 8 true (.iad (.l 10) (.l 11) 4),
 vG 8 true (.fad (.l 12) 2),
 vG 8 true (.ld (.l 13) 1 false),
 vG 8 true (.bin .neq (.l 14) (.c (.i .u8 3))),
 vB 4 (.pick (.l 8) (.l 15) (.c (.b false)))] none)
 (.cond (.s 4) (.reg [vA (.mov (.s 5)),
 vA (.lfa (.sl 7) 2),
 vA (.lld (.lo 1) 1 false),
 vA (.mov (.s 6)),
 vA (.iad (.l 2) (.l 3) 4),
 vA (.fad (.l 4) 3),
 vA (.ld (.l 5) 1 false),
 vA (.bin .add (.l 0) (.l 6)),
 vB 5 (.mov (.l 7))] none)
 .skip)))
 (.reg [vA (.mov (.s 6)),
 vA (.bin .add (.l 0) (cI 1)),
 vB 6 (.mov (.l 1))] none)))
def v77 : VFunc :=
 ⟨2, 8, [.s 2],
 (.seq (.reg [vB 7 (.lbx (.s 0) 3),
 vB 2 (.mov (cI 0))] none)
 (.seq (.reg [vB 5 (.mov (cI 0))] none)
 (.seq (.seq (.reg [vB 6 (.mov (cI 0))] none)
 (.block 0 (.loop v77l0)))
 (.seq (.reg [vA (.mov (.s 5)),
 vB 2 (.mov (.l 0))] none)
 .ret)))), true, false, none, false⟩
def tm77 : List Nat := [0, 1, 4, 11, 30, 5, 6, 2]
def bs77 : List Nat := [7]
def v78l0 : VCode :=
 (.seq (.reg [vB 4 (.bin .lss (.s 10) (.s 11))] none)
 (.seq (.cond (.s 4) .skip
 (.exit 0))
 (.seq (.block 1 (.seq (.reg [vA (.mov (.s 10)),
 vB 12 (.mov (.l 0))] none)
 (.seq (.reg [vA (.lfa (.sl 8) 1),
 vA (.lld (.lo 0) 1 false),
 vA (.mov (.s 12)),
 vA (.iad (.l 1) (.l 2) 1),
 vA (.ld (.l 3) 1 false),
 vA (.lfa (.sl 9) 1),
 vA (.lld (.lo 5) 1 false),
 vA (.mov (.s 12)),
 vA (.iad (.l 6) (.l 7) 1),
 vA (.ld (.l 8) 1 false),
 vB 5 (.bin .neq (.l 4) (.l 9))] (some false))
 (.cond (.s 5) (.seq (.reg [vB 2 (.mov (.c (.b false)))] none)
 .ret)
 .skip))))
 (.reg [vA (.bin .add (.s 10) (cI 1)),
 vB 10 (.mov (.l 0))] none))))
def v78l1 : VCode :=
 (.seq (.reg [vB 6 (.bin .lss (.s 13) (.s 14))] none)
 (.seq (.cond (.s 6) .skip
 (.exit 2))
 (.seq (.block 3 (.seq (.reg [vA (.mov (.s 13)),
 vB 15 (.mov (.l 0))] none)
 (.seq (.reg [vA (.lfa (.sl 8) 2),
 vA (.lld (.lo 0) 1 false),
 vA (.mov (.s 15)),
 vA (.iad (.l 1) (.l 2) 4),
 vA (.ld (.l 3) 4 true),
 vA (.lfa (.sl 9) 2),
 vA (.lld (.lo 5) 1 false),
 vA (.mov (.s 15)),
 vA (.iad (.l 6) (.l 7) 4),
 vA (.ld (.l 8) 4 true),
 vB 7 (.eqv true (.st [1, 1, 1, 1]) (.l 4) (.l 9))] (some false))
 (.cond (.s 7) (.seq (.reg [vB 2 (.mov (.c (.b false)))] none)
 .ret)
 .skip))))
 (.reg [vA (.bin .add (.s 13) (cI 1)),
 vB 13 (.mov (.l 0))] none))))
def v78 : VFunc :=
 ⟨2, 16, [.s 2],
 (.seq (.reg [vB 8 (.lbx (.s 0) 3),
 vB 9 (.lbx (.s 1) 3),
 vB 2 (.mov (.c (.b false)))] none)
 (.seq (.seq (.reg [vA (.lfa (.sl 8) 0),
 vA (.lld (.lo 0) 1 false),
 vA (.lfa (.sl 9) 0),
 vA (.lld (.lo 2) 1 false),
 vA (.bin .neq (.l 1) (.l 3)),
 vA (.mov (.l 4)),
 vG 5 false (.lfa (.sl 8) 1),
 vG 5 false (.lld (.lo 6) 1 false),
 vG 5 false (.len 1 (.l 7)),
 vG 5 false (.lfa (.sl 9) 1),
 vG 5 false (.lld (.lo 9) 1 false),
 vG 5 false (.len 1 (.l 10)),
 vG 5 false (.bin .neq (.l 8) (.l 11)),
 vA (.pick (.l 5) (.c (.b true)) (.l 12)),
 vA (.mov (.l 13)),
 vG 14 false (.lfa (.sl 8) 2),
 vG 14 false (.lld (.lo 15) 1 false),
 vG 14 false (.len 1 (.l 16)),
 vG 14 false (.lfa (.sl 9) 2),
 vG 14 false (.lld (.lo 18) 1 false),
 vG 14 false (.len 1 (.l 19)),
 vG 14 false (.bin .neq (.l 17) (.l 20)),
 vB 3 (.pick (.l 14) (.c (.b true)) (.l 21))] none)
 (.cond (.s 3) (.seq (.reg [vB 2 (.mov (.c (.b false)))] none)
 .ret)
 .skip))
 (.seq (.seq (.reg [vA (.lfa (.sl 8) 1),
 vA (.lld (.lo 0) 1 false),
 vB 11 (.len 1 (.l 1)),
 vB 10 (.mov (cI 0))] none)
 (.block 0 (.loop v78l0)))
 (.seq (.seq (.reg [vA (.lfa (.sl 8) 2),
 vA (.lld (.lo 0) 1 false),
 vB 14 (.len 1 (.l 1)),
 vB 13 (.mov (cI 0))] none)
 (.block 2 (.loop v78l1)))
 (.seq (.reg [vB 2 (.mov (.c (.b true)))] none)
 .ret))))), true, false, none, false⟩
def tm78 : List Nat := [0, 1, 4, 29, 34, 46, 52, 64, 2, 3, 33, 32, 5, 51, 50, 6]
def bs78 : List Nat := [8, 9]
def v79l0 : VCode :=
 (.seq (.seq (.reg [vA (.mov (.s 9)),
 vA (.mov (.s 0)),
 vA (.nck (.l 1)),
 vA (.fad (.l 2) 0),
 vA (.ld (.l 3) 1 false),
 vA (.len 0 (.l 4)),
 vA (.bin .lss (.l 0) (.l 5)),
 vA (.mov (.l 6)),
 vG 7 true (.mov (.s 0)),
 vG 7 true (.nck (.l 8)),
 vG 7 true (.fad (.l 9) 0),
 vG 7 true (.ld (.l 10) 1 false),
 vG 7 true (.mov (.s 9)),
 vG 7 true (.ixs (.l 11) (.l 12)),
 vG 7 true (.bin .leq (.c (.i .u8 48)) (.l 13)),
 vA (.pick (.l 7) (.l 14) (.c (.b false))),
 vA (.mov (.l 15)),
 vG 16 true (.mov (.s 0)),
 vG 16 true (.nck (.l 17)),
 vG 16 true (.fad (.l 18) 0),
 vG 16 true (.ld (.l 19) 1 false),
 vG 16 true (.mov (.s 9)),
 vG 16 true (.ixs (.l 20) (.l 21)),
 vG 16 true (.bin .leq (.l 22) (.c (.i .u8 57))),
 vB 4 (.pick (.l 16) (.l 23) (.c (.b false)))] none)
 (.cond (.s 4) .skip
 (.exit 0)))
 (.seq (.block 1 (.seq (.reg [vA (.mov (.s 8)),
 vA (.bin .mul (cI 10) (.l 0)),
 vA (.mov (.s 0)),
 vA (.nck (.l 2)),
 vA (.fad (.l 3) 0),
 vA (.ld (.l 4) 1 false),
 vA (.mov (.s 9)),
 vA (.ixs (.l 5) (.l 6)),
 vA (.bin .sub (.l 7) (.c (.i .u8 48))),
 vA (.cvi .i64 (.l 8)),
 vA (.bin .add (.l 1) (.l 9)),
 vB 8 (.mov (.l 10))] none)
 (.seq (.reg [vA (.mov (.s 8)),
 vB 5 (.bin .gtr (.l 0) (cI 9007199254740992))] none)
 (.cond (.s 5) (.reg [vA (.agc [] []),
 vA (.mki 131 (.l 0)),
 vA (.pan (.l 1))] none)
 .skip))))
 (.reg [vA (.mov (.s 9)),
 vA (.bin .add (.l 0) (cI 1)),
 vB 9 (.mov (.l 1))] none)))
def v79 : VFunc :=
 ⟨2, 10, [.s 2],
 (.seq (.reg [vB 2 (.mov (cI 0))] none)
 (.seq (.reg [vA (.mov (.s 0)),
 vA (.mov (.s 1)),
 vA (.call 82 [(.l 0), (.l 1)])] none)
 (.seq (.reg [vB 8 (.mov (cI 0)),
 vB 7 (.mov (cI 1))] none)
 (.seq (.seq (.reg [vA (.mov (.s 0)),
 vB 3 (.call 80 [(.l 0), (.c (.s [45]))])] none)
 (.cond (.s 3) (.reg [vB 7 (.mov (cI (-1)))] none)
 .skip))
 (.seq (.reg [vB 9 (.mov (cI 0))] none)
 (.seq (.block 0 (.loop v79l0))
 (.seq (.seq (.reg [vA (.mov (.s 9)),
 vB 6 (.bin .eql (.l 0) (cI 0))] none)
 (.cond (.s 6) (.reg [vA (.agc [] []),
 vA (.mki 131 (.l 0)),
 vA (.pan (.l 1))] none)
 .skip))
 (.seq (.reg [vA (.mov (.s 0)),
 vA (.mov (.s 0)),
 vA (.nck (.l 1)),
 vA (.fad (.l 2) 0),
 vA (.ld (.l 3) 1 false),
 vA (.mov (.s 9)),
 vA (.sli true 0 (.l 4) (some (.l 5)) none none),
 vA (.nck (.l 0)),
 vA (.fad (.l 7) 0),
 vA (.st (.l 8) (.l 6) 1)] none)
 (.seq (.reg [vA (.mov (.s 7)),
 vA (.mov (.s 8)),
 vA (.bin .mul (.l 0) (.l 1)),
 vB 2 (.mov (.l 2))] none)
 .ret))))))))), false, false, none, false⟩
def tm79 : List Nat := [0, 1, 4, 12, 37, 52, 56, 6, 5, 7]
def bs79 : List Nat := []
def v80 : VFunc :=
 ⟨2, 5, [.s 2],
 (.seq (.reg [vB 2 (.mov (.c (.b false)))] none)
 (.seq (.reg [vA (.mov (.s 0)),
 vA (.nck (.l 0)),
 vA (.fad (.l 1) 0),
 vA (.ld (.l 2) 1 false),
 vA (.mov (.s 1)),
 vA (.call 103 [(.l 3), (.l 4)]),
 vA (.mov (.l 5)),
 vA (.ext (.l 6) 0),
 vA (.ext (.l 6) 1),
 vB 3 (.mov (.l 7)),
 vB 4 (.mov (.l 8))] none)
 (.seq (.reg [vA (.mov (.s 0)),
 vA (.mov (.s 3)),
 vA (.nck (.l 0)),
 vA (.fad (.l 2) 0),
 vA (.st (.l 3) (.l 1) 1)] none)
 (.seq (.reg [vA (.mov (.s 4)),
 vB 2 (.mov (.l 0))] none)
 .ret)))), false, false, none, false⟩
def tm80 : List Nat := [0, 1, 4, 5, 6]
def bs80 : List Nat := []
def v81 : VFunc :=
 ⟨1, 5, [.s 1],
 (.seq (.reg [vB 1 (.mov (cI 0))] none)
 (.seq (.reg [vA (.mov (.s 0)),
 vA (.call 79 [(.l 0), (.c (.s []))]),
 vB 3 (.mov (.l 1))] none)
 (.seq (.reg [vA (.mov (.s 0)),
 vA (.call 79 [(.l 0), (.c (.s [45]))]),
 vB 4 (.mov (.l 1))] none)
 (.seq (.seq (.reg [vA (.mov (.s 3)),
 vA (.call 26 [(.l 0)]),
 vA (.un .not (.l 1)),
 vA (.mov (.l 2)),
 vG 3 false (.mov (.s 4)),
 vG 3 false (.bin .lss (.l 4) (cI 1)),
 vA (.pick (.l 3) (.c (.b true)) (.l 5)),
 vA (.mov (.l 6)),
 vG 7 false (.mov (.s 4)),
 vG 7 false (.bin .gtr (.l 8) (cI 12)),
 vB 2 (.pick (.l 7) (.c (.b true)) (.l 9))] none)
 (.cond (.s 2) (.reg [vA (.agc [] []),
 vA (.mki 131 (.l 0)),
 vA (.pan (.l 1))] none)
 .skip))
 (.seq (.reg [vA (.mov (.s 3)),
 vA (.bin .sub (.l 0) (cI 1900)),
 vA (.bin .mul (cI 12) (.l 1)),
 vA (.mov (.s 4)),
 vA (.bin .add (.l 2) (.l 3)),
 vA (.bin .sub (.l 4) (cI 1)),
 vB 1 (.mov (.l 5))] none)
 .ret))))), false, false, none, false⟩
def tm81 : List Nat := [0, 2, 19, 3, 4]
def bs81 : List Nat := []
def v82 : VFunc :=
 ⟨2, 3, [],
 (.seq (.reg [vA (.mov (.s 0)),
 vA (.mov (.s 1)),
 vA (.call 80 [(.l 0), (.l 1)]),
 vB 2 (.un .not (.l 2))] none)
 (.cond (.s 2) (.reg [vA (.agc [] []),
 vA (.mki 131 (.l 0)),
 vA (.pan (.l 1))] none)
 .skip)), false, false, none, false⟩
def tm82 : List Nat := [0, 1, 7]
def bs82 : List Nat := []
def v83l0 : VCode :=
 (.seq (.seq (.reg [vA (.mov (.s 8)),
 vA (.mov (.s 0)),
 vA (.len 0 (.l 1)),
 vB 5 (.bin .lss (.l 0) (.l 2))] none)
 (.cond (.s 5) .skip
 (.exit 0)))
 (.seq (.block 1 (.seq (.reg [vA (.mov (.s 0)),
 vA (.mov (.s 8)),
 vA (.ixs (.l 0) (.l 1)),
 vA (.bin .lss (.l 2) (.c (.i .u8 48))),
 vA (.mov (.l 3)),
 vG 4 false (.mov (.s 0)),
 vG 4 false (.mov (.s 8)),
 vG 4 false (.ixs (.l 5) (.l 6)),
 vG 4 false (.bin .gtr (.l 7) (.c (.i .u8 57))),
 vB 6 (.pick (.l 4) (.c (.b true)) (.l 8))] none)
 (.cond (.s 6) (.seq (.reg [vB 1 (.mov (.c (.b false)))] none)
 .ret)
 .skip)))
 (.reg [vA (.mov (.s 8)),
 vA (.bin .add (.l 0) (cI 1)),
 vB 8 (.mov (.l 1))] none)))
def v83 : VFunc :=
 ⟨1, 9, [.s 1],
 (.seq (.reg [vB 1 (.mov (.c (.b false)))] none)
 (.seq (.reg [vB 7 (.mov (cI 0))] none)
 (.seq (.seq (.reg [vA (.mov (.s 0)),
 vA (.len 0 (.l 0)),
 vA (.bin .gtr (.l 1) (cI 1)),
 vA (.mov (.l 2)),
 vG 3 true (.mov (.s 0)),
 vG 3 true (.ixs (.l 4) (cI 0)),
 vG 3 true (.bin .eql (.l 5) (.c (.i .u8 45))),
 vB 2 (.pick (.l 3) (.l 6) (.c (.b false)))] none)
 (.cond (.s 2) (.seq (.reg [vB 7 (.mov (cI 1))] none)
 (.seq (.reg [vA (.mov (.s 0)),
 vA (.ixs (.l 0) (cI 1)),
 vB 3 (.bin .eql (.l 1) (.c (.i .u8 48)))] none)
 (.cond (.s 3) (.seq (.reg [vB 1 (.mov (.c (.b false)))] none)
 .ret)
 .skip)))
 .skip))
 (.seq (.seq (.reg [vA (.mov (.s 0)),
 vA (.len 0 (.l 0)),
 vA (.bin .eql (.l 1) (cI 0)),
 vA (.mov (.l 2)),
 vG 3 false (.mov (.s 0)),
 vG 3 false (.mov (.s 7)),
 vG 3 false (.ixs (.l 4) (.l 5)),
 vG 3 false (.bin .eql (.l 6) (.c (.i .u8 48))),
 vG 3 false (.mov (.l 7)),
 vG 8 true (.mov (.s 0)),
 vG 8 true (.len 0 (.l 9)),
 vG 8 true (.bin .gtr (.l 10) (cI 1)),
 vG 3 false (.pick (.l 8) (.l 11) (.c (.b false))),
 vB 4 (.pick (.l 3) (.c (.b true)) (.l 12))] none)
 (.cond (.s 4) (.seq (.reg [vB 1 (.mov (.c (.b false)))] none)
 .ret)
 .skip))
 (.seq (.seq (.reg [vA (.mov (.s 7)),
 vB 8 (.mov (.l 0))] none)
 (.block 0 (.loop v83l0)))
 (.seq (.reg [vB 1 (.mov (.c (.b true)))] none)
 .ret)))))), true, false, none, false⟩
def tm83 : List Nat := [0, 2, 12, 15, 29, 34, 46, 3, 4]
def bs83 : List Nat := []
def v84l0 : VCode :=
 (.seq (.seq (.reg [vA (.mov (.s 8)),
 vA (.mov (.s 0)),
 vA (.len 1 (.l 1)),
 vA (.bin .lss (.l 0) (.l 2)),
 vA (.mov (.l 3)),
 vG 4 false (.mov (.s 8)),
 vG 4 false (.mov (.s 1)),
 vG 4 false (.len 1 (.l 6)),
 vG 4 false (.bin .lss (.l 5) (.l 7)),
 vA (.pick (.l 4) (.c (.b true)) (.l 8)),
 vA (.mov (.l 9)),
 vG 10 false (.mov (.s 7)),
 vG 10 false (.bin .gtr (.l 11) (cI 0)),
 vB 3 (.pick (.l 10) (.c (.b true)) (.l 12))] none)
 (.cond (.s 3) .skip
 (.exit 0)))
 (.seq (.block 1 (.seq (.seq (.reg [vA (.mov (.s 8)),
 vA (.mov (.s 0)),
 vA (.len 1 (.l 1)),
 vB 4 (.bin .lss (.l 0) (.l 2))] none)
 (.cond (.s 4) (.reg [vA (.mov (.s 7)),
 vA (.mov (.s 0)),
 vA (.mov (.s 8)),
 vA (.iad (.l 1) (.l 2) 1),
 vA (.ld (.l 3) 1 false),
 vA (.cvi .i64 (.l 4)),
 vA (.bin .add (.l 0) (.l 5)),
 vB 7 (.mov (.l 6))] none)
 .skip))
 (.seq (.seq (.reg [vA (.mov (.s 8)),
 vA (.mov (.s 1)),
 vA (.len 1 (.l 1)),
 vB 5 (.bin .lss (.l 0) (.l 2))] none)
 (.cond (.s 5) (.reg [vA (.mov (.s 7)),
 vA (.mov (.s 1)),
 vA (.mov (.s 8)),
 vA (.iad (.l 1) (.l 2) 1),
 vA (.ld (.l 3) 1 false),
 vA (.cvi .i64 (.l 4)),
 vA (.bin .add (.l 0) (.l 5)),
 vB 7 (.mov (.l 6))] none)
 .skip))
 (.seq (.reg [vA (.mov (.s 6)),
 vA (.mov (.s 7)),
 vA (.bin .rem (.l 1) (cI 65536)),
 vA (.cvi .u16 (.l 2)),
 vA (.bsv 1 1 [(.i .u16 0)] [(0, (.l 3))]),
 vA (.app (.l 0) (.l 4) 1 2 true),
 vB 6 (.mov (.l 5))] none)
 (.reg [vA (.mov (.s 7)),
 vA (.bin .quo (.l 0) (cI 65536)),
 vB 7 (.mov (.l 1))] none)))))
 (.reg [vA (.mov (.s 8)),
 vA (.bin .add (.l 0) (cI 1)),
 vB 8 (.mov (.l 1))] none)))
def v84 : VFunc :=
 ⟨2, 9, [.s 2],
 (.seq (.reg [vB 2 (.mov (.c .nil))] none)
 (.seq (.reg [vB 6 (.mov (.c .nil))] none)
 (.seq (.reg [vB 7 (.mov (cI 0))] none)
 (.seq (.seq (.reg [vB 8 (.mov (cI 0))] none)
 (.block 0 (.loop v84l0)))
 (.seq (.reg [vA (.mov (.s 6)),
 vB 2 (.mov (.l 0))] none)
 .ret))))), true, false, none, false⟩
def tm84 : List Nat := [0, 1, 4, 21, 27, 38, 5, 6, 7]
def bs84 : List Nat := []
def v85l0 : VCode :=
 (.seq (.seq (.reg [vA (.mov (.s 7)),
 vA (.mov (.s 1)),
 vA (.len 1 (.l 1)),
 vB 4 (.bin .lss (.l 0) (.l 2))] none)
 (.cond (.s 4) .skip
 (.exit 2)))
 (.seq (.block 3 (.seq (.reg [vA (.mov (.s 6)),
 vA (.mov (.s 0)),
 vA (.mov (.s 5)),
 vA (.iad (.l 1) (.l 2) 1),
 vA (.ld (.l 3) 1 false),
 vA (.cvi .i64 (.l 4)),
 vA (.mov (.s 1)),
 vA (.mov (.s 7)),
 vA (.iad (.l 6) (.l 7) 1),
 vA (.ld (.l 8) 1 false),
 vA (.cvi .i64 (.l 9)),
 vA (.bin .mul (.l 5) (.l 10)),
 vA (.bin .add (.l 0) (.l 11)),
 vA (.mov (.s 8)),
 vA (.mov (.s 5)),
 vA (.mov (.s 7)),
 vA (.bin .add (.l 14) (.l 15)),
 vA (.iad (.l 13) (.l 16) 1),
 vA (.ld (.l 17) 1 false),
 vA (.cvi .i64 (.l 18)),
 vA (.bin .add (.l 12) (.l 19)),
 vB 6 (.mov (.l 20))] (some false))
 (.seq (.reg [vA (.mov (.s 8)),
 vA (.mov (.s 5)),
 vA (.mov (.s 7)),
 vA (.bin .add (.l 1) (.l 2)),
 vA (.mov (.s 6)),
 vA (.bin .rem (.l 4) (cI 65536)),
 vA (.cvi .u16 (.l 5)),
 vA (.iad (.l 0) (.l 3) 1),
 vA (.st (.l 7) (.l 6) 1)] none)
 (.reg [vA (.mov (.s 6)),
 vA (.bin .quo (.l 0) (cI 65536)),
 vB 6 (.mov (.l 1))] none))))
 (.reg [vA (.mov (.s 7)),
 vA (.bin .add (.l 0) (cI 1)),
 vB 7 (.mov (.l 1))] none)))
def v85l1 : VCode :=
 (.seq (.seq (.reg [vA (.mov (.s 5)),
 vA (.mov (.s 0)),
 vA (.len 1 (.l 1)),
 vB 3 (.bin .lss (.l 0) (.l 2))] none)
 (.cond (.s 3) .skip
 (.exit 0)))
 (.seq (.block 1 (.seq (.reg [vB 6 (.mov (cI 0))] none)
 (.seq (.seq (.reg [vB 7 (.mov (cI 0))] none)
 (.block 2 (.loop v85l0)))
 (.reg [vA (.mov (.s 8)),
 vA (.mov (.s 5)),
 vA (.mov (.s 1)),
 vA (.len 1 (.l 2)),
 vA (.bin .add (.l 1) (.l 3)),
 vA (.mov (.s 6)),
 vA (.cvi .u16 (.l 5)),
 vA (.iad (.l 0) (.l 4) 1),
 vA (.st (.l 7) (.l 6) 1)] none))))
 (.reg [vA (.mov (.s 5)),
 vA (.bin .add (.l 0) (cI 1)),
 vB 5 (.mov (.l 1))] none)))
def v85 : VFunc :=
 ⟨2, 9, [.s 2],
 (.seq (.reg [vB 2 (.mov (.c .nil))] none)
 (.seq (.reg [vA (.mov (.s 0)),
 vA (.len 1 (.l 0)),
 vA (.mov (.s 1)),
 vA (.len 1 (.l 2)),
 vA (.bin .add (.l 1) (.l 3)),
 vA (.mks (.l 4) (.l 4) 1 2 [(.i .u16 0)] true),
 vB 8 (.mov (.l 5))] none)
 (.seq (.seq (.reg [vB 5 (.mov (cI 0))] none)
 (.block 0 (.loop v85l1)))
 (.seq (.reg [vA (.mov (.s 8)),
 vA (.call 86 [(.l 0)]),
 vB 2 (.mov (.l 1))] none)
 .ret)))), true, false, none, false⟩
def tm85 : List Nat := [0, 1, 4, 18, 24, 6, 7, 8, 5]
def bs85 : List Nat := []
def v86l0 : VCode :=
 (.seq (.seq (.reg [vA (.mov (.s 3)),
 vA (.bin .gtr (.l 0) (cI 0)),
 vA (.mov (.l 1)),
 vG 2 true (.mov (.s 0)),
 vG 2 true (.mov (.s 3)),
 vG 2 true (.bin .sub (.l 4) (cI 1)),
 vG 2 true (.iad (.l 3) (.l 5) 1),
 vG 2 true (.ld (.l 6) 1 false),
 vG 2 true (.bin .eql (.l 7) (.c (.i .u16 0))),
 vB 2 (.pick (.l 2) (.l 8) (.c (.b false)))] none)
 (.cond (.s 2) .skip
 (.exit 0)))
 (.block 1 (.reg [vA (.mov (.s 3)),
 vA (.bin .sub (.l 0) (cI 1)),
 vB 3 (.mov (.l 1))] none)))
def v86 : VFunc :=
 ⟨1, 4, [.s 1],
 (.seq (.reg [vB 1 (.mov (.c .nil))] none)
 (.seq (.reg [vA (.mov (.s 0)),
 vA (.len 1 (.l 0)),
 vB 3 (.mov (.l 1))] none)
 (.seq (.block 0 (.loop v86l0))
 (.seq (.reg [vA (.mov (.s 0)),
 vA (.mov (.s 3)),
 vA (.sli false 1 (.l 0) none (some (.l 1)) none),
 vB 1 (.mov (.l 2))] none)
 .ret)))), true, false, none, false⟩
def tm86 : List Nat := [0, 2, 15, 3]
def bs86 : List Nat := []
def v87 : VFunc :=
 ⟨1, 5, [.bx 1 2 true, .s 2],
 (.seq (.reg [vB 4 (.lbx (.s 0) 2),
 vB 1 (.lal [(.b false), .nil]),
 vB 2 (.mov (cI 0))] none)
 (.seq (.seq (.reg [vA (.lfa (.sl 4) 1),
 vA (.lld (.lo 0) 1 false),
 vA (.len 1 (.l 1)),
 vB 3 (.bin .gtr (.l 2) (cI 1024))] none)
 (.cond (.s 3) (.seq (.reg [vA (.agc [(.b false), .nil] []),
 vA (.lst (.sl 1) (.l 0) 2),
 vB 2 (.mov (cI 3))] none)
 .ret)
 .skip))
 (.seq (.reg [vA (.lld (.sl 4) 2 true),
 vA (.lst (.sl 1) (.l 0) 2),
 vB 2 (.mov (cI 0))] none)
 .ret))), true, false, none, false⟩
def tm87 : List Nat := [0, 2, 3, 7, 1]
def bs87 : List Nat := [1, 4]
def v88 : VFunc :=
 ⟨2, 3, [.bx 2 2 true],
 (.seq (.reg [vB 2 (.lal [(.b false), .nil])] none)
 (.seq (.reg [vA (.mov (.s 0)),
 vA (.mov (.l 0)),
 vG 1 true (.mov (.s 1)),
 vG 1 true (.len 1 (.l 2)),
 vG 1 true (.bin .gtr (.l 3) (cI 0)),
 vA (.pick (.l 1) (.l 4) (.c (.b false))),
 vA (.mov (.s 1)),
 vA (.agc [(.b false), .nil] [(0, 1, (.l 5)), (1, 1, (.l 6))]),
 vA (.lst (.sl 2) (.l 7) 2)] none)
 .ret)), true, false, none, false⟩
def tm88 : List Nat := [0, 1, 4]
def bs88 : List Nat := [2]
def v89 : VFunc :=
 ⟨1, 4, [.s 1],
 (.seq (.reg [vB 3 (.lbx (.s 0) 2),
 vB 1 (.mov (.c (.b false)))] none)
 (.seq (.seq (.reg [vA (.lfa (.sl 3) 1),
 vA (.lld (.lo 0) 1 false),
 vA (.len 1 (.l 1)),
 vB 2 (.bin .eql (.l 2) (cI 0))] none)
 (.cond (.s 2) (.seq (.reg [vA (.lfa (.sl 3) 0),
 vA (.lld (.lo 0) 1 false),
 vA (.un .not (.l 1)),
 vB 1 (.mov (.l 2))] none)
 .ret)
 .skip))
 (.seq (.reg [vA (.lfa (.sl 3) 1),
 vA (.lld (.lo 0) 1 false),
 vA (.len 1 (.l 1)),
 vA (.bin .leq (.l 2) (cI 1024)),
 vA (.mov (.l 3)),
 vG 4 true (.lfa (.sl 3) 1),
 vG 4 true (.lld (.lo 5) 1 false),
 vG 4 true (.lfa (.sl 3) 1),
 vG 4 true (.lld (.lo 7) 1 false),
 vG 4 true (.len 1 (.l 8)),
 vG 4 true (.bin .sub (.l 9) (cI 1)),
 vG 4 true (.iad (.l 6) (.l 10) 1),
 vG 4 true (.ld (.l 11) 1 false),
 vG 4 true (.bin .neq (.l 12) (.c (.i .u16 0))),
 vA (.pick (.l 4) (.l 13) (.c (.b false))),
 vB 1 (.mov (.l 14))] none)
 .ret))), true, false, none, false⟩
def tm89 : List Nat := [0, 2, 6, 1]
def bs89 : List Nat := [3]
def v90l0 : VCode :=
 (.seq (.seq (.reg [vA (.mov (.s 11)),
 vA (.mov (.s 0)),
 vB 6 (.bin .lss (.l 0) (.l 1))] none)
 (.cond (.s 6) .skip
 (.exit 0)))
 (.seq (.block 1 (.seq (.reg [vA (.mov (.s 10)),
 vA (.bin .add (.l 0) (cI 365)),
 vB 10 (.mov (.l 1))] none)
 (.seq (.reg [vA (.mov (.s 11)),
 vB 7 (.call 105 [(.l 0)])] none)
 (.cond (.s 7) (.reg [vA (.mov (.s 10)),
 vA (.bin .add (.l 0) (cI 1)),
 vB 10 (.mov (.l 1))] none)
 .skip))))
 (.reg [vA (.mov (.s 11)),
 vA (.bin .add (.l 0) (cI 1)),
 vB 11 (.mov (.l 1))] none)))
def v90l1 : VCode :=
 (.seq (.seq (.reg [vA (.mov (.s 12)),
 vA (.mov (.s 1)),
 vB 8 (.bin .lss (.l 0) (.l 1))] none)
 (.cond (.s 8) .skip
 (.exit 2)))
 (.seq (.block 3 (.reg [vA (.mov (.s 10)),
 vA (.mov (.s 0)),
 vA (.mov (.s 12)),
 vA (.call 104 [(.l 1), (.l 2)]),
 vA (.bin .add (.l 0) (.l 3)),
 vB 10 (.mov (.l 4))] none))
 (.reg [vA (.mov (.s 12)),
 vA (.bin .add (.l 0) (cI 1)),
 vB 12 (.mov (.l 1))] none)))
def v90 : VFunc :=
 ⟨3, 13, [.s 3, .s 4],
 (.seq (.reg [vB 3 (.mov (cI 0)),
 vB 4 (.mov (cI 0))] none)
 (.seq (.seq (.reg [vA (.mov (.s 0)),
 vA (.bin .lss (.l 0) (cI 1900)),
 vA (.mov (.l 1)),
 vG 2 false (.mov (.s 0)),
 vG 2 false (.bin .gtr (.l 3) (cI 2079)),
 vA (.pick (.l 2) (.c (.b true)) (.l 4)),
 vA (.mov (.l 5)),
 vG 6 false (.mov (.s 1)),
 vG 6 false (.bin .lss (.l 7) (cI 1)),
 vA (.pick (.l 6) (.c (.b true)) (.l 8)),
 vA (.mov (.l 9)),
 vG 10 false (.mov (.s 1)),
 vG 10 false (.bin .gtr (.l 11) (cI 12)),
 vA (.pick (.l 10) (.c (.b true)) (.l 12)),
 vA (.mov (.l 13)),
 vG 14 false (.mov (.s 2)),
 vG 14 false (.bin .lss (.l 15) (cI 1)),
 vA (.pick (.l 14) (.c (.b true)) (.l 16)),
 vA (.mov (.l 17)),
 vG 18 false (.mov (.s 2)),
 vG 18 false (.mov (.s 0)),
 vG 18 false (.mov (.s 1)),
 vG 18 false (.call 104 [(.l 20), (.l 21)]),
 vG 18 false (.bin .gtr (.l 19) (.l 22)),
 vB 5 (.pick (.l 18) (.c (.b true)) (.l 23))] none)
 (.cond (.s 5) (.seq (.reg [vB 3 (.mov (cI 0)),
 vB 4 (.mov (cI 2))] none)
 .ret)
 .skip))
 (.seq (.reg [vA (.mov (.s 2)),
 vA (.bin .sub (.l 0) (cI 1)),
 vB 10 (.mov (.l 1))] none)
 (.seq (.seq (.reg [vB 11 (.mov (cI 1900))] none)
 (.block 0 (.loop v90l0)))
 (.seq (.seq (.reg [vB 12 (.mov (cI 1))] none)
 (.block 2 (.loop v90l1)))
 (.seq (.seq (.reg [vA (.mov (.s 10)),
 vB 9 (.bin .geq (.l 0) (cI 65536))] none)
 (.cond (.s 9) (.seq (.reg [vB 3 (.mov (cI 0)),
 vB 4 (.mov (cI 2))] none)
 .ret)
 .skip))
 (.seq (.reg [vA (.mov (.s 10)),
 vB 3 (.mov (.l 0)),
 vB 4 (.mov (cI 0))] none)
 .ret))))))), true, false, none, false⟩
def tm90 : List Nat := [0, 1, 2, 6, 7, 35, 40, 46, 51, 60, 8, 9, 10]
def bs90 : List Nat := []
def v91l0 : VCode :=
 (.seq (.seq (.reg [vA (.mov (.s 7)),
 vA (.len 1 (.l 0)),
 vB 4 (.bin .gtr (.l 1) (cI 0))] none)
 (.cond (.s 4) .skip
 (.exit 0)))
 (.block 1 (.seq (.reg [vA (.mov (.s 7)),
 vA (.call 106 [(.l 0)]),
 vA (.mov (.l 1)),
 vA (.ext (.l 2) 0),
 vA (.ext (.l 2) 1),
 vB 7 (.mov (.l 3)),
 vB 8 (.mov (.l 4))] none)
 (.reg [vA (.mov (.s 8)),
 vA (.bin .add (cI 48) (.l 0)),
 vA (.cvi .u8 (.l 1)),
 vA (.bsl 1 1 [(.i .u8 0)] [(0, (.l 2))] true),
 vA (.cbs (.l 3)),
 vA (.mov (.s 9)),
 vA (.bin .add (.l 4) (.l 5)),
 vB 9 (.mov (.l 6))] none))))
def v91 : VFunc :=
 ⟨1, 10, [.s 1, .s 2],
 (.seq (.reg [vB 6 (.lbx (.s 0) 2),
 vB 1 (.mov (.c (.s []))),
 vB 2 (.mov (cI 0))] none)
 (.seq (.seq (.reg [vA (.lld (.sl 6) 2 true),
 vA (.call 89 [(.l 0)]),
 vB 3 (.un .not (.l 1))] none)
 (.cond (.s 3) (.seq (.reg [vB 1 (.mov (.c (.s []))),
 vB 2 (.mov (cI 2))] none)
 .ret)
 .skip))
 (.seq (.reg [vA (.lfa (.sl 6) 1),
 vA (.lld (.lo 0) 1 false),
 vA (.call 106 [(.l 1)]),
 vA (.mov (.l 2)),
 vA (.ext (.l 3) 0),
 vA (.ext (.l 3) 1),
 vB 7 (.mov (.l 4)),
 vB 8 (.mov (.l 5))] none)
 (.seq (.reg [vA (.mov (.s 8)),
 vA (.bin .add (cI 48) (.l 0)),
 vA (.cvi .u8 (.l 1)),
 vA (.bsl 1 1 [(.i .u8 0)] [(0, (.l 2))] true),
 vA (.cbs (.l 3)),
 vB 9 (.mov (.l 4))] none)
 (.seq (.block 0 (.loop v91l0))
 (.seq (.seq (.reg [vA (.lfa (.sl 6) 0),
 vB 5 (.lld (.lo 0) 1 false)] none)
 (.cond (.s 5) (.reg [vA (.mov (.s 9)),
 vA (.bin .add (.c (.s [45])) (.l 0)),
 vB 9 (.mov (.l 1))] none)
 .skip))
 (.seq (.reg [vA (.mov (.s 9)),
 vB 1 (.mov (.l 0)),
 vB 2 (.mov (cI 0))] none)
 .ret))))))), true, false, none, false⟩
def tm91 : List Nat := [0, 2, 3, 9, 23, 37, 1, 4, 5, 6]
def bs91 : List Nat := [6]
def v92l0 : VCode :=
 (.seq (.seq (.reg [vA (.mov (.s 4)),
 vB 3 (.bin .gtr (.l 0) (.c (.i .u64 0)))] none)
 (.cond (.s 3) .skip
 (.exit 0)))
 (.block 1 (.seq (.reg [vA (.mov (.s 5)),
 vA (.mov (.s 4)),
 vA (.bin .rem (.l 1) (.c (.i .u64 65536))),
 vA (.cvi .u16 (.l 2)),
 vA (.bsv 1 1 [(.i .u16 0)] [(0, (.l 3))]),
 vA (.app (.l 0) (.l 4) 1 2 true),
 vB 5 (.mov (.l 5))] none)
 (.reg [vA (.mov (.s 4)),
 vA (.bin .quo (.l 0) (.c (.i .u64 65536))),
 vB 4 (.mov (.l 1))] none))))
def v92 : VFunc :=
 ⟨1, 6, [.bx 1 2 true],
 (.seq (.reg [vB 1 (.lal [(.b false), .nil])] none)
 (.seq (.reg [vA (.mov (.s 0)),
 vA (.cvi .u64 (.l 0)),
 vB 4 (.mov (.l 1))] none)
 (.seq (.seq (.reg [vA (.mov (.s 0)),
 vB 2 (.bin .lss (.l 0) (cI 0))] none)
 (.cond (.s 2) (.reg [vA (.mov (.s 4)),
 vA (.un .neg (.l 0)),
 vB 4 (.mov (.l 1))] none)
 .skip))
 (.seq (.reg [vB 5 (.mov (.c .nil))] none)
 (.seq (.block 0 (.loop v92l0))
 (.seq (.reg [vA (.mov (.s 0)),
 vA (.bin .lss (.l 0) (cI 0)),
 vA (.mov (.s 5)),
 vA (.call 88 [(.l 1), (.l 2)]),
 vA (.lst (.sl 1) (.l 3) 2)] none)
 .ret)))))), true, false, none, false⟩
def tm92 : List Nat := [0, 2, 8, 12, 3, 4]
def bs92 : List Nat := [1]
def v93l0 : VCode :=
 (.seq (.seq (.reg [vA (.mov (.s 10)),
 vA (.mov (.s 8)),
 vA (.mov (.s 9)),
 vA (.call 104 [(.l 1), (.l 2)]),
 vB 6 (.bin .geq (.l 0) (.l 3))] none)
 (.cond (.s 6) .skip
 (.exit 0)))
 (.block 1 (.seq (.reg [vA (.mov (.s 10)),
 vA (.mov (.s 8)),
 vA (.mov (.s 9)),
 vA (.call 104 [(.l 1), (.l 2)]),
 vA (.bin .sub (.l 0) (.l 3)),
 vB 10 (.mov (.l 4))] none)
 (.seq (.reg [vA (.mov (.s 9)),
 vA (.bin .add (.l 0) (cI 1)),
 vB 9 (.mov (.l 1))] none)
 (.seq (.reg [vA (.mov (.s 9)),
 vB 7 (.bin .gtr (.l 0) (cI 12))] none)
 (.cond (.s 7) (.seq (.reg [vB 9 (.mov (cI 1))] none)
 (.reg [vA (.mov (.s 8)),
 vA (.bin .add (.l 0) (cI 1)),
 vB 8 (.mov (.l 1))] none))
 .skip))))))
def v93 : VFunc :=
 ⟨1, 11, [.s 1, .s 2, .s 3, .s 4],
 (.seq (.reg [vB 1 (.mov (cI 0)),
 vB 2 (.mov (cI 0)),
 vB 3 (.mov (cI 0)),
 vB 4 (.mov (cI 0))] none)
 (.seq (.seq (.reg [vA (.mov (.s 0)),
 vA (.call 107 [(.l 0)]),
 vB 5 (.un .not (.l 1))] none)
 (.cond (.s 5) (.seq (.reg [vB 1 (.mov (cI 0)),
 vB 2 (.mov (cI 0)),
 vB 3 (.mov (cI 0)),
 vB 4 (.mov (cI 2))] none)
 .ret)
 .skip))
 (.seq (.reg [vB 8 (.mov (cI 1900))] none)
 (.seq (.reg [vB 9 (.mov (cI 1))] none)
 (.seq (.reg [vA (.mov (.s 0)),
 vB 10 (.mov (.l 0))] none)
 (.seq (.block 0 (.loop v93l0))
 (.seq (.reg [vA (.mov (.s 8)),
 vA (.mov (.s 9)),
 vA (.mov (.s 10)),
 vA (.bin .add (.l 2) (cI 1)),
 vB 1 (.mov (.l 0)),
 vB 2 (.mov (.l 1)),
 vB 3 (.mov (.l 3)),
 vB 4 (.mov (cI 0))] none)
 .ret))))))), true, false, none, false⟩
def tm93 : List Nat := [0, 2, 3, 4, 5, 11, 17, 26, 6, 7, 8]
def bs93 : List Nat := []
def v94l0 : VCode :=
 (.seq (.seq (.reg [vA (.mov (.s 5)),
 vA (.mov (.s 1)),
 vB 3 (.bin .lss (.l 0) (.l 1))] none)
 (.cond (.s 3) .skip
 (.exit 0)))
 (.seq (.block 1 (.seq (.reg [vA (.mov (.s 0)),
 vA (.bin .rem (.l 0) (cI 10)),
 vA (.bin .add (cI 48) (.l 1)),
 vA (.cvi .u8 (.l 2)),
 vA (.bsl 1 1 [(.i .u8 0)] [(0, (.l 3))] true),
 vA (.cbs (.l 4)),
 vA (.mov (.s 4)),
 vA (.bin .add (.l 5) (.l 6)),
 vB 4 (.mov (.l 7))] none)
 (.reg [vA (.mov (.s 0)),
 vA (.bin .quo (.l 0) (cI 10)),
 vB 0 (.mov (.l 1))] none)))
 (.reg [vA (.mov (.s 5)),
 vA (.bin .add (.l 0) (cI 1)),
 vB 5 (.mov (.l 1))] none)))
def v94 : VFunc :=
 ⟨2, 6, [.s 2],
 (.seq (.reg [vB 2 (.mov (.c (.s [])))] none)
 (.seq (.reg [vB 4 (.mov (.c (.s [])))] none)
 (.seq (.seq (.reg [vB 5 (.mov (cI 0))] none)
 (.block 0 (.loop v94l0)))
 (.seq (.reg [vA (.mov (.s 4)),
 vB 2 (.mov (.l 0))] none)
 .ret)))), true, false, none, false⟩
def tm94 : List Nat := [0, 1, 4, 9, 5, 6]
def bs94 : List Nat := []
def v95 : VFunc :=
 ⟨2, 3, [.s 2],
 (.seq (.reg [vB 2 (.mov (.c (.b false)))] none)
 (.seq (.reg [vA (.mov (.s 0)),
 vA (.mov (.s 1)),
 vA (.call 108 [(.l 0), (.l 1)]),
 vA (.bin .geq (.l 2) (cI 0)),
 vB 2 (.mov (.l 3))] none)
 .ret)), false, false, none, false⟩
def tm95 : List Nat := [0, 1, 4]
def bs95 : List Nat := []
def v96 : VFunc :=
 ⟨1, 2, [.s 1],
 (.seq (.reg [vB 1 (.mov (.c (.b false)))] none)
 (.seq (.reg [vA (.mov (.s 0)),
 vA (.bin .lss (.l 0) (cI 0)),
 vA (.mov (.l 1)),
 vG 2 false (.mov (.s 0)),
 vG 2 false (.bin .gtr (.l 3) (cI 1099511627776)),
 vA (.pick (.l 2) (.c (.b true)) (.l 4)),
 vB 1 (.mov (.l 5))] none)
 .ret)), true, false, none, false⟩
def tm96 : List Nat := [0, 2]
def bs96 : List Nat := []
def v97l0 : VCode :=
 (.seq (.reg [vB 4 (.bin .lss (.s 6) (.s 7))] none)
 (.seq (.cond (.s 4) .skip
 (.exit 0))
 (.seq (.block 1 (.seq (.reg [vA (.iad (.s 8) (.s 6) 4),
 vA (.ld (.l 0) 4 true),
 vB 10 (.lal [(.i .i64 0), (.i .i64 0), (.i .u8 0), (.i .i64 0)]),
 vA (.lst (.sl 10) (.l 1) 4)] none)
 (.seq (.seq (.reg [vA (.lld (.sl 9) 3 true),
 vA (.lld (.sl 10) 4 true),
 vA (.call 109 [(.l 0), (.l 1)]),
 vA (.un .not (.l 2)),
 vA (.mov (.l 3)),
 vG 4 false (.lfa (.sl 10) 0),
 vG 4 false (.lld (.lo 5) 1 false),
 vG 4 false (.mov (.s 2)),
 vG 4 false (.bin .lss (.l 6) (.l 7)),
 vB 5 (.pick (.l 4) (.c (.b true)) (.l 8))] none)
 (.cond (.s 5) (.seq (.reg [vB 3 (.mov (.c (.b false)))] none)
 .ret)
 .skip))
 (.reg [vA (.lfa (.sl 10) 0),
 vA (.lld (.lo 0) 1 false),
 vB 2 (.mov (.l 1))] none))))
 (.reg [vA (.bin .add (.s 6) (cI 1)),
 vB 6 (.mov (.l 0))] none))))
def v97 : VFunc :=
 ⟨3, 11, [.s 3],
 (.seq (.reg [vB 9 (.lbx (.s 0) 3),
 vB 3 (.mov (.c (.b false)))] none)
 (.seq (.seq (.reg [vB 8 (.mov (.s 1)),
 vB 7 (.len 1 (.s 8)),
 vB 6 (.mov (cI 0))] none)
 (.block 0 (.loop v97l0)))
 (.seq (.reg [vB 3 (.mov (.c (.b true)))] none)
 .ret))), true, false, none, false⟩
def tm97 : List Nat := [0, 1, 2, 6, 12, 24, 11, 10, 9, 3, 8]
def bs97 : List Nat := [9, 10]
def v98 : VFunc :=
 ⟨2, 5, [.s 2],
 (.seq (.reg [vB 4 (.lbx (.s 0) 4),
 vB 2 (.mov (cI 0))] none)
 (.seq (.seq (.reg [vA (.lfa (.sl 4) 1),
 vA (.lld (.lo 0) 1 false),
 vA (.ld (.s 1) 1 false),
 vB 3 (.bin .neq (.l 1) (.l 2))] none)
 (.cond (.s 3) (.seq (.reg [vB 2 (.mov (cI 0))] none)
 .ret)
 .skip))
 (.seq (.reg [vA (.lld (.sl 4) 4 true),
 vA (.call 63 [(.l 0)]),
 vB 2 (.mov (.l 1))] none)
 .ret))), false, false, none, false⟩
def tm98 : List Nat := [0, 1, 3, 7, 2]
def bs98 : List Nat := [4]
def v102l0 : VCode :=
 (.seq (.seq (.reg [vA (.mov (.s 6)),
 vA (.lfa (.sl 5) 1),
 vA (.lld (.lo 1) 1 false),
 vA (.len 1 (.l 2)),
 vB 3 (.bin .lss (.l 0) (.l 3))] none)
 (.cond (.s 3) .skip
 (.exit 0)))
 (.seq (.block 1 (.seq (.reg [vA (.lfa (.sl 5) 1),
 vA (.lld (.lo 0) 1 false),
 vA (.mov (.s 6)),
 vA (.iad (.l 1) (.l 2) 1),
 vA (.ld (.l 3) 1 false),
 vA (.bin .lss (.l 4) (cI 0)),
 vA (.mov (.l 5)),
 vG 6 false (.lfa (.sl 5) 1),
 vG 6 false (.lld (.lo 7) 1 false),
 vG 6 false (.mov (.s 6)),
 vG 6 false (.iad (.l 8) (.l 9) 1),
 vG 6 false (.ld (.l 10) 1 false),
 vG 6 false (.bin .gtr (.l 11) (cI 1099511627776)),
 vB 4 (.pick (.l 6) (.c (.b true)) (.l 12))] none)
 (.cond (.s 4) (.seq (.reg [vB 1 (.mov (.c (.b false)))] none)
 .ret)
 .skip)))
 (.reg [vA (.mov (.s 6)),
 vA (.bin .add (.l 0) (cI 1)),
 vB 6 (.mov (.l 1))] none)))
def v102 : VFunc :=
 ⟨1, 7, [.s 1],
 (.seq (.reg [vB 5 (.lbx (.s 0) 3),
 vB 1 (.mov (.c (.b false)))] none)
 (.seq (.seq (.reg [vA (.lfa (.sl 5) 0),
 vA (.lld (.lo 0) 1 false),
 vA (.bin .lss (.l 1) (cI 0)),
 vA (.mov (.l 2)),
 vG 3 false (.lfa (.sl 5) 0),
 vG 3 false (.lld (.lo 4) 1 false),
 vG 3 false (.bin .gtr (.l 5) (cI 2400)),
 vA (.pick (.l 3) (.c (.b true)) (.l 6)),
 vA (.mov (.l 7)),
 vG 8 false (.lfa (.sl 5) 1),
 vG 8 false (.lld (.lo 9) 1 false),
 vG 8 false (.len 1 (.l 10)),
 vG 8 false (.bin .gtr (.l 11) (cI 1200)),
 vA (.pick (.l 8) (.c (.b true)) (.l 12)),
 vA (.mov (.l 13)),
 vG 14 false (.lfa (.sl 5) 0),
 vG 14 false (.lld (.lo 15) 1 false),
 vG 14 false (.lfa (.sl 5) 1),
 vG 14 false (.lld (.lo 17) 1 false),
 vG 14 false (.len 1 (.l 18)),
 vG 14 false (.bin .add (.l 16) (.l 19)),
 vG 14 false (.bin .gtr (.l 20) (cI 2400)),
 vA (.pick (.l 14) (.c (.b true)) (.l 21)),
 vA (.mov (.l 22)),
 vG 23 false (.lfa (.sl 5) 2),
 vG 23 false (.lld (.lo 24) 1 false),
 vG 23 false (.len 1 (.l 25)),
 vG 23 false (.bin .gtr (.l 26) (cI 4000)),
 vB 2 (.pick (.l 23) (.c (.b true)) (.l 27))] none)
 (.cond (.s 2) (.seq (.reg [vB 1 (.mov (.c (.b false)))] none)
 .ret)
 .skip))
 (.seq (.seq (.reg [vB 6 (.mov (cI 0))] none)
 (.block 0 (.loop v102l0)))
 (.seq (.reg [vA (.lld (.sl 5) 3 true),
 vA (.lfa (.sl 5) 2),
 vA (.lld (.lo 1) 1 false),
 vA (.call 112 [(.l 0), (.l 2)]),
 vB 1 (.mov (.l 3))] none)
 .ret)))), true, false, none, false⟩
def tm102 : List Nat := [0, 2, 32, 37, 53, 1, 3]
def bs102 : List Nat := [5]
def v103 : VFunc :=
 ⟨2, 4, [.s 2, .s 3],
 (.seq (.reg [vB 2 (.mov (.c (.s []))),
 vB 3 (.mov (.c (.b false)))] none)
 (.seq (.reg [vA (.mov (.s 0)),
 vA (.mov (.s 1)),
 vA (.call 113 [(.l 0), (.l 1)]),
 vA (.ext (.l 2) 0),
 vA (.ext (.l 2) 1),
 vB 2 (.mov (.l 3)),
 vB 3 (.mov (.l 4))] none)
 .ret)), true, false, none, false⟩
def tm103 : List Nat := [0, 1, 4, 5]
def bs103 : List Nat := []
def v104 : VFunc :=
 ⟨2, 8, [.s 2],
 (.seq (.reg [vB 2 (.mov (cI 0))] none)
 (.seq (.seq (.reg [vB 7 (.mov (.s 1))] none)
 (.block 0 (.seq (.seq (.reg [vA (.bin .eql (.s 7) (cI 1)),
 vB 3 (.mov (.l 0))] none)
 (.cond (.s 3) .skip
 (.seq (.reg [vA (.bin .eql (.s 7) (cI 3)),
 vB 3 (.mov (.l 0))] none)
 (.cond (.s 3) .skip
 (.seq (.reg [vA (.bin .eql (.s 7) (cI 5)),
 vB 3 (.mov (.l 0))] none)
 (.cond (.s 3) .skip
 (.seq (.reg [vA (.bin .eql (.s 7) (cI 7)),
 vB 3 (.mov (.l 0))] none)
 (.cond (.s 3) .skip
 (.seq (.reg [vA (.bin .eql (.s 7) (cI 8)),
 vB 3 (.mov (.l 0))] none)
 (.cond (.s 3) .skip
 (.seq (.reg [vA (.bin .eql (.s 7) (cI 10)),
 vB 3 (.mov (.l 0))] none)
 (.cond (.s 3) .skip
 (.reg [vA (.bin .eql (.s 7) (cI 12)),
 vB 3 (.mov (.l 0))] none)))))))))))))
 (.cond (.s 3) (.seq (.reg [vB 2 (.mov (cI 31))] none)
 .ret)
 (.seq (.seq (.reg [vA (.bin .eql (.s 7) (cI 4)),
 vB 4 (.mov (.l 0))] none)
 (.cond (.s 4) .skip
 (.seq (.reg [vA (.bin .eql (.s 7) (cI 6)),
 vB 4 (.mov (.l 0))] none)
 (.cond (.s 4) .skip
 (.seq (.reg [vA (.bin .eql (.s 7) (cI 9)),
 vB 4 (.mov (.l 0))] none)
 (.cond (.s 4) .skip
 (.reg [vA (.bin .eql (.s 7) (cI 11)),
 vB 4 (.mov (.l 0))] none)))))))
 (.cond (.s 4) (.seq (.reg [vB 2 (.mov (cI 30))] none)
 .ret)
 (.seq (.reg [vA (.bin .eql (.s 7) (cI 2)),
 vB 5 (.mov (.l 0))] none)
 (.cond (.s 5) (.seq (.seq (.reg [vA (.mov (.s 0)),
 vB 6 (.call 105 [(.l 0)])] none)
 (.cond (.s 6) (.seq (.reg [vB 2 (.mov (cI 29))] none)
 .ret)
 .skip))
 (.seq (.reg [vB 2 (.mov (cI 28))] none)
 .ret))
 .skip))))))))
 (.seq (.reg [vB 2 (.mov (cI 0))] none)
 .ret))), true, false, none, false⟩
def tm104 : List Nat := [0, 1, 4, 6, 14, 19, 22, 5]
def bs104 : List Nat := []
def v105 : VFunc :=
 ⟨1, 3, [.s 1],
 (.seq (.reg [vB 1 (.mov (.c (.b false)))] none)
 (.seq (.seq (.reg [vA (.mov (.s 0)),
 vA (.bin .rem (.l 0) (cI 400)),
 vB 2 (.bin .eql (.l 1) (cI 0))] none)
 (.cond (.s 2) (.seq (.reg [vB 1 (.mov (.c (.b true)))] none)
 .ret)
 .skip))
 (.seq (.reg [vA (.mov (.s 0)),
 vA (.bin .rem (.l 0) (cI 4)),
 vA (.bin .eql (.l 1) (cI 0)),
 vA (.mov (.l 2)),
 vG 3 true (.mov (.s 0)),
 vG 3 true (.bin .rem (.l 4) (cI 100)),
 vG 3 true (.bin .neq (.l 5) (cI 0)),
 vA (.pick (.l 3) (.l 6) (.c (.b false))),
 vB 1 (.mov (.l 7))] none)
 .ret))), true, false, none, false⟩
def tm105 : List Nat := [0, 2, 5]
def bs105 : List Nat := []
def v106 : VFunc :=
 ⟨1, 6, [.s 1, .s 2],
 (.seq (.reg [vB 1 (.mov (.c .nil)),
 vB 2 (.mov (cI 0))] none)
 (.seq (.reg [vA (.mov (.s 0)),
 vA (.call 114 [(.l 0), (cI 10)]),
 vA (.mov (.l 1)),
 vA (.ext (.l 2) 0),
 vA (.ext (.l 2) 1),
 vB 5 (.mov (.l 3)),
 vB 4 (.mov (.l 4))] none)
 (.seq (.seq (.reg [vA (.mov (.s 4)),
 vA (.len 1 (.l 0)),
 vB 3 (.bin .eql (.l 1) (cI 0))] none)
 (.cond (.s 3) (.seq (.reg [vA (.mov (.s 5)),
 vB 1 (.mov (.l 0)),
 vB 2 (.mov (cI 0))] none)
 .ret)
 .skip))
 (.seq (.reg [vA (.mov (.s 5)),
 vA (.mov (.s 4)),
 vA (.iad (.l 1) (cI 0) 1),
 vA (.ld (.l 2) 1 false),
 vA (.cvi .i64 (.l 3)),
 vB 1 (.mov (.l 0)),
 vB 2 (.mov (.l 4))] (some false))
 .ret)))), true, false, none, false⟩
def tm106 : List Nat := [0, 2, 3, 13, 5, 4]
def bs106 : List Nat := []
def v107 : VFunc :=
 ⟨1, 2, [.s 1],
 (.seq (.reg [vB 1 (.mov (.c (.b false)))] none)
 (.seq (.reg [vA (.mov (.s 0)),
 vA (.bin .geq (.l 0) (cI 0)),
 vA (.mov (.l 1)),
 vG 2 true (.mov (.s 0)),
 vG 2 true (.bin .lss (.l 3) (cI 65536)),
 vA (.pick (.l 2) (.l 4) (.c (.b false))),
 vB 1 (.mov (.l 5))] none)
 .ret)), true, false, none, false⟩
def tm107 : List Nat := [0, 2]
def bs107 : List Nat := []
def v108l0 : VCode :=
 (.seq (.reg [vB 3 (.bin .lss (.s 5) (.s 6))] none)
 (.seq (.cond (.s 3) .skip
 (.exit 0))
 (.seq (.block 1 (.seq (.reg [vA (.mov (.s 5)),
 vB 7 (.mov (.l 0))] none)
 (.seq (.reg [vA (.mov (.s 1)),
 vA (.mov (.s 0)),
 vA (.mov (.s 7)),
 vA (.iad (.l 1) (.l 2) 1),
 vA (.ld (.l 3) 1 false),
 vB 4 (.calv (.l 0) [(.l 4)])] none)
 (.cond (.s 4) (.seq (.reg [vA (.mov (.s 7)),
 vB 2 (.mov (.l 0))] none)
 .ret)
 .skip))))
 (.reg [vA (.bin .add (.s 5) (cI 1)),
 vB 5 (.mov (.l 0))] none))))
def v108 : VFunc :=
 ⟨2, 8, [.s 2],
 (.seq (.reg [vB 2 (.mov (cI 0))] none)
 (.seq (.seq (.reg [vA (.mov (.s 0)),
 vB 6 (.len 1 (.l 0)),
 vB 5 (.mov (cI 0))] none)
 (.block 0 (.loop v108l0)))
 (.seq (.reg [vB 2 (.mov (cI (-1)))] none)
 .ret))), false, false, none, false⟩
def tm108 : List Nat := [0, 1, 4, 9, 16, 8, 7, 5]
def bs108 : List Nat := []
def v109 : VFunc :=
 ⟨2, 9, [.s 2],
 (.seq (.reg [vB 7 (.lbx (.s 0) 3),
 vB 6 (.lbx (.s 1) 4),
 vB 2 (.mov (.c (.b false)))] none)
 (.seq (.seq (.reg [vA (.lfa (.sl 6) 0),
 vA (.lld (.lo 0) 1 false),
 vA (.bin .lss (.l 1) (cI 0)),
 vA (.mov (.l 2)),
 vG 3 false (.lfa (.sl 6) 0),
 vG 3 false (.lld (.lo 4) 1 false),
 vG 3 false (.bin .geq (.l 5) (cI 65536)),
 vA (.pick (.l 3) (.c (.b true)) (.l 6)),
 vA (.mov (.l 7)),
 vG 8 false (.lld (.sl 7) 3 true),
 vG 8 false (.lfa (.sl 6) 1),
 vG 8 false (.lld (.lo 10) 1 false),
 vG 8 false (.call 64 [(.l 9), (.l 11)]),
 vG 8 false (.un .not (.l 12)),
 vB 3 (.pick (.l 8) (.c (.b true)) (.l 13))] none)
 (.cond (.s 3) (.seq (.reg [vB 2 (.mov (.c (.b false)))] none)
 .ret)
 .skip))
 (.seq (.seq (.reg [vA (.lfa (.sl 6) 2),
 vB 8 (.lld (.lo 0) 1 false)] none)
 (.block 0 (.seq (.seq (.reg [vA (.bin .eql (.s 8) (.c (.i .u8 1))),
 vB 4 (.mov (.l 0))] none)
 (.cond (.s 4) .skip
 (.seq (.reg [vA (.bin .eql (.s 8) (.c (.i .u8 2))),
 vB 4 (.mov (.l 0))] none)
 (.cond (.s 4) .skip
 (.seq (.reg [vA (.bin .eql (.s 8) (.c (.i .u8 3))),
 vB 4 (.mov (.l 0))] none)
 (.cond (.s 4) .skip
 (.reg [vA (.bin .eql (.s 8) (.c (.i .u8 6))),
 vB 4 (.mov (.l 0))] none)))))))
 (.cond (.s 4) (.seq (.reg [vA (.lfa (.sl 6) 3),
 vA (.lld (.lo 0) 1 false),
 vA (.bin .leq (cI 0) (.l 1)),
 vA (.mov (.l 2)),
 vG 3 true (.lfa (.sl 6) 3),
 vG 3 true (.lld (.lo 4) 1 false),
 vG 3 true (.bin .leq (.l 5) (cI 1099511627776)),
 vA (.pick (.l 3) (.l 6) (.c (.b false))),
 vB 2 (.mov (.l 7))] none)
 .ret)
 (.seq (.seq (.reg [vA (.bin .eql (.s 8) (.c (.i .u8 4))),
 vB 5 (.mov (.l 0))] none)
 (.cond (.s 5) .skip
 (.reg [vA (.bin .eql (.s 8) (.c (.i .u8 5))),
 vB 5 (.mov (.l 0))] none)))
 (.cond (.s 5) (.seq (.reg [vA (.lfa (.sl 6) 3),
 vA (.lld (.lo 0) 1 false),
 vA (.bin .leq (cI (-1099511627776)) (.l 1)),
 vA (.mov (.l 2)),
 vG 3 true (.lfa (.sl 6) 3),
 vG 3 true (.lld (.lo 4) 1 false),
 vG 3 true (.bin .leq (.l 5) (cI 0)),
 vA (.pick (.l 3) (.l 6) (.c (.b false))),
 vB 2 (.mov (.l 7))] none)
 .ret)
 .skip))))))
 (.seq (.reg [vB 2 (.mov (.c (.b false)))] none)
 .ret)))), true, false, none, false⟩
def tm109 : List Nat := [0, 1, 4, 19, 22, 35, 3, 2, 21]
def bs109 : List Nat := [6, 7]
def v112l0 : VCode :=
 (.seq (.seq (.reg [vA (.mov (.s 5)),
 vA (.mov (.s 1)),
 vA (.len 1 (.l 1)),
 vB 3 (.bin .lss (.l 0) (.l 2))] none)
 (.cond (.s 3) .skip
 (.exit 0)))
 (.seq (.block 1 (.seq (.reg [vA (.lld (.sl 6) 3 true),
 vA (.mov (.s 1)),
 vA (.mov (.s 5)),
 vA (.iad (.l 1) (.l 2) 4),
 vA (.ld (.l 3) 4 true),
 vA (.call 120 [(.l 0), (.l 4)]),
 vA (.un .not (.l 5)),
 vA (.mov (.l 6)),
 vG 7 false (.mov (.s 5)),
 vG 7 false (.bin .gtr (.l 8) (cI 0)),
 vG 7 false (.mov (.l 9)),
 vG 10 true (.mov (.s 1)),
 vG 10 true (.mov (.s 5)),
 vG 10 true (.bin .sub (.l 12) (cI 1)),
 vG 10 true (.iad (.l 11) (.l 13) 4),
 vG 10 true (.fad (.l 14) 0),
 vG 10 true (.ld (.l 15) 1 false),
 vG 10 true (.mov (.s 1)),
 vG 10 true (.mov (.s 5)),
 vG 10 true (.iad (.l 17) (.l 18) 4),
 vG 10 true (.fad (.l 19) 0),
 vG 10 true (.ld (.l 20) 1 false),
 vG 10 true (.bin .gtr (.l 16) (.l 21)),
 vG 7 false (.pick (.l 10) (.l 22) (.c (.b false))),
 vB 4 (.pick (.l 7) (.c (.b true)) (.l 23))] (some false))
 (.cond (.s 4) (.seq (.reg [vB 2 (.mov (.c (.b false)))] none)
 .ret)
 .skip)))
 (.reg [vA (.mov (.s 5)),
 vA (.bin .add (.l 0) (cI 1)),
 vB 5 (.mov (.l 1))] none)))
def v112 : VFunc :=
 ⟨2, 7, [.s 2],
 (.seq (.reg [vB 6 (.lbx (.s 0) 3),
 vB 2 (.mov (.c (.b false)))] none)
 (.seq (.seq (.reg [vB 5 (.mov (cI 0))] none)
 (.block 0 (.loop v112l0)))
 (.seq (.reg [vB 2 (.mov (.c (.b true)))] none)
 .ret))), true, false, none, false⟩
def tm112 : List Nat := [0, 1, 4, 9, 36, 5, 2]
def bs112 : List Nat := [6]
def v113 : VFunc :=
 ⟨2, 5, [.s 2, .s 3],
 (.seq (.reg [vB 2 (.mov (.c (.s []))),
 vB 3 (.mov (.c (.b false)))] none)
 (.seq (.seq (.reg [vA (.mov (.s 0)),
 vA (.mov (.s 1)),
 vA (.call 121 [(.l 0), (.l 1)]),
 vB 4 (.un .not (.l 2))] none)
 (.cond (.s 4) (.seq (.reg [vA (.mov (.s 0)),
 vB 2 (.mov (.l 0)),
 vB 3 (.mov (.c (.b false)))] none)
 .ret)
 .skip))
 (.seq (.reg [vA (.mov (.s 0)),
 vA (.mov (.s 1)),
 vA (.len 0 (.l 1)),
 vA (.sli true 0 (.l 0) (some (.l 2)) none none),
 vB 2 (.mov (.l 3)),
 vB 3 (.mov (.c (.b true)))] none)
 .ret))), true, false, none, false⟩
def tm113 : List Nat := [0, 1, 4, 5, 9]
def bs113 : List Nat := []
def v114l0 : VCode :=
 (.seq (.seq (.reg [vA (.mov (.s 6)),
 vB 4 (.bin .geq (.l 0) (cI 0))] none)
 (.cond (.s 4) .skip
 (.exit 0)))
 (.seq (.block 1 (.seq (.reg [vA (.mov (.s 5)),
 vA (.bin .mul (.l 0) (cI 65536)),
 vA (.mov (.s 0)),
 vA (.mov (.s 6)),
 vA (.iad (.l 2) (.l 3) 1),
 vA (.ld (.l 4) 1 false),
 vA (.cvi .i64 (.l 5)),
 vA (.bin .add (.l 1) (.l 6)),
 vB 5 (.mov (.l 7))] none)
 (.seq (.reg [vA (.mov (.s 7)),
 vA (.mov (.s 6)),
 vA (.mov (.s 5)),
 vA (.mov (.s 1)),
 vA (.bin .quo (.l 2) (.l 3)),
 vA (.cvi .u16 (.l 4)),
 vA (.iad (.l 0) (.l 1) 1),
 vA (.st (.l 6) (.l 5) 1)] none)
 (.reg [vA (.mov (.s 5)),
 vA (.mov (.s 1)),
 vA (.bin .rem (.l 0) (.l 1)),
 vB 5 (.mov (.l 2))] none))))
 (.reg [vA (.mov (.s 6)),
 vA (.bin .sub (.l 0) (cI 1)),
 vB 6 (.mov (.l 1))] none)))
def v114 : VFunc :=
 ⟨2, 8, [.s 2, .s 3],
 (.seq (.reg [vB 2 (.mov (.c .nil)),
 vB 3 (.mov (.c .nil))] none)
 (.seq (.reg [vA (.mov (.s 0)),
 vA (.len 1 (.l 0)),
 vA (.mks (.l 1) (.l 1) 1 2 [(.i .u16 0)] true),
 vB 7 (.mov (.l 2))] none)
 (.seq (.reg [vB 5 (.mov (cI 0))] none)
 (.seq (.seq (.reg [vA (.mov (.s 0)),
 vA (.len 1 (.l 0)),
 vA (.bin .sub (.l 1) (cI 1)),
 vB 6 (.mov (.l 2))] none)
 (.block 0 (.loop v114l0)))
 (.seq (.reg [vA (.mov (.s 7)),
 vA (.call 86 [(.l 0)]),
 vA (.mov (.s 5)),
 vA (.cvi .u16 (.l 2)),
 vA (.bsv 1 1 [(.i .u16 0)] [(0, (.l 3))]),
 vA (.call 86 [(.l 4)]),
 vB 2 (.mov (.l 1)),
 vB 3 (.mov (.l 5))] none)
 .ret))))), true, false, none, false⟩
def tm114 : List Nat := [0, 1, 4, 5, 16, 7, 8, 6]
def bs114 : List Nat := []
def v120 : VFunc :=
 ⟨2, 7, [.s 2],
 (.seq (.reg [vB 6 (.lbx (.s 0) 3),
 vB 5 (.lbx (.s 1) 4),
 vB 2 (.mov (.c (.b false)))] none)
 (.seq (.seq (.reg [vA (.lfa (.sl 5) 0),
 vA (.lld (.lo 0) 1 false),
 vA (.bin .lss (.l 1) (cI 0)),
 vA (.mov (.l 2)),
 vG 3 false (.lfa (.sl 5) 0),
 vG 3 false (.lld (.lo 4) 1 false),
 vG 3 false (.bin .geq (.l 5) (cI 65536)),
 vA (.pick (.l 3) (.c (.b true)) (.l 6)),
 vA (.mov (.l 7)),
 vG 8 false (.lld (.sl 6) 3 true),
 vG 8 false (.lfa (.sl 5) 1),
 vG 8 false (.lld (.lo 10) 1 false),
 vG 8 false (.call 76 [(.l 9), (.l 11)]),
 vG 8 false (.un .not (.l 12)),
 vA (.pick (.l 8) (.c (.b true)) (.l 13)),
 vA (.mov (.l 14)),
 vG 15 false (.lfa (.sl 5) 2),
 vG 15 false (.lld (.lo 16) 1 false),
 vG 15 false (.bin .lss (.l 17) (.c (.i .u8 1))),
 vA (.pick (.l 15) (.c (.b true)) (.l 18)),
 vA (.mov (.l 19)),
 vG 20 false (.lfa (.sl 5) 2),
 vG 20 false (.lld (.lo 21) 1 false),
 vG 20 false (.bin .gtr (.l 22) (.c (.i .u8 6))),
 vB 3 (.pick (.l 20) (.c (.b true)) (.l 23))] none)
 (.cond (.s 3) (.seq (.reg [vB 2 (.mov (.c (.b false)))] none)
 .ret)
 .skip))
 (.seq (.seq (.reg [vA (.lfa (.sl 5) 2),
 vA (.lld (.lo 0) 1 false),
 vA (.bin .leq (.l 1) (.c (.i .u8 3))),
 vA (.mov (.l 2)),
 vG 3 false (.lfa (.sl 5) 2),
 vG 3 false (.lld (.lo 4) 1 false),
 vG 3 false (.bin .eql (.l 5) (.c (.i .u8 6))),
 vB 4 (.pick (.l 3) (.c (.b true)) (.l 6))] none)
 (.cond (.s 4) (.seq (.reg [vA (.lfa (.sl 5) 3),
 vA (.lld (.lo 0) 1 false),
 vA (.bin .geq (.l 1) (cI 0)),
 vA (.mov (.l 2)),
 vG 3 true (.lfa (.sl 5) 3),
 vG 3 true (.lld (.lo 4) 1 false),
 vG 3 true (.bin .leq (.l 5) (cI 1099511627776)),
 vA (.pick (.l 3) (.l 6) (.c (.b false))),
 vB 2 (.mov (.l 7))] none)
 .ret)
 .skip))
 (.seq (.reg [vA (.lfa (.sl 5) 3),
 vA (.lld (.lo 0) 1 false),
 vA (.bin .leq (.l 1) (cI 0)),
 vA (.mov (.l 2)),
 vG 3 true (.lfa (.sl 5) 3),
 vG 3 true (.lld (.lo 4) 1 false),
 vG 3 true (.bin .geq (.l 5) (cI (-1099511627776))),
 vA (.pick (.l 3) (.l 6) (.c (.b false))),
 vB 2 (.mov (.l 7))] none)
 .ret)))), true, false, none, false⟩
def tm120 : List Nat := [0, 1, 4, 29, 37, 3, 2]
def bs120 : List Nat := [5, 6]
def v121 : VFunc :=
 ⟨2, 3, [.s 2],
 (.seq (.reg [vB 2 (.mov (.c (.b false)))] none)
 (.seq (.reg [vA (.mov (.s 0)),
 vA (.len 0 (.l 0)),
 vA (.mov (.s 1)),
 vA (.len 0 (.l 2)),
 vA (.bin .geq (.l 1) (.l 3)),
 vA (.mov (.l 4)),
 vG 5 true (.mov (.s 0)),
 vG 5 true (.mov (.s 1)),
 vG 5 true (.len 0 (.l 7)),
 vG 5 true (.sli true 0 (.l 6) none (some (.l 8)) none),
 vG 5 true (.mov (.s 1)),
 vG 5 true (.bin .eql (.l 9) (.l 10)),
 vA (.pick (.l 5) (.l 11) (.c (.b false))),
 vB 2 (.mov (.l 12))] none)
 .ret)), true, false, none, false⟩
def tm121 : List Nat := [0, 1, 4]
def bs121 : List Nat := []
def fnsA : List (FuncId × VFunc) :=
 [(3, v3), (7, v7), (11, v11), (15, v15), (19, v19), (23, v23), (27, v27), (31, v31), (35, v35), (39, v39), (44, v44), (48, v48), (52, v52), (56, v56), (60, v60), (64, v64), (68, v68), (73, v73), (77, v77), (81, v81), (85, v85), (89, v89), (93, v93), (97, v97), (104, v104), (108, v108), (114, v114)]
def fnsB : List (FuncId × VFunc) :=
 [(4, v4), (8, v8), (12, v12), (16, v16), (20, v20), (24, v24), (28, v28), (32, v32), (36, v36), (41, v41), (45, v45), (49, v49), (53, v53), (57, v57), (61, v61), (65, v65), (70, v70), (74, v74), (78, v78), (82, v82), (86, v86), (90, v90), (94, v94), (98, v98), (105, v105), (109, v109), (120, v120)]
def fnsC : List (FuncId × VFunc) :=
 [(5, v5), (9, v9), (13, v13), (17, v17), (21, v21), (25, v25), (29, v29), (33, v33), (37, v37), (42, v42), (46, v46), (50, v50), (54, v54), (58, v58), (62, v62), (66, v66), (71, v71), (75, v75), (79, v79), (83, v83), (87, v87), (91, v91), (95, v95), (102, v102), (106, v106), (112, v112), (121, v121)]
def fnsD : List (FuncId × VFunc) :=
 [(6, v6), (10, v10), (14, v14), (18, v18), (22, v22), (26, v26), (30, v30), (34, v34), (38, v38), (43, v43), (47, v47), (51, v51), (55, v55), (59, v59), (63, v63), (67, v67), (72, v72), (76, v76), (80, v80), (84, v84), (88, v88), (92, v92), (96, v96), (103, v103), (107, v107), (113, v113)]
def fns : List (FuncId × VFunc) := fnsA ++ (fnsB ++ (fnsC ++ fnsD))
def fnOf : List (FuncId × VFunc) → FuncId → Option VFunc
 | [], _ => none
 | (g, v) :: r, f => if g = f then some v else fnOf r f
def meths : TypeId → String → Option FuncId := fun _ _ => none
def globs : Nat → Option (Nat × List (List D)) := fun _ => none
def Vx (e : FuncId → List D → Heap → Option (D × Heap)) (p : FuncId → List D → Option D) : VProg := ⟨fnOf fns, meths, e, p, globs⟩
def V : VProg := Vx (fun _ _ _ => none) (fun _ _ => none)
end Go.Proofs.YtnhbopeopppojaaGreatDoor.Dv
