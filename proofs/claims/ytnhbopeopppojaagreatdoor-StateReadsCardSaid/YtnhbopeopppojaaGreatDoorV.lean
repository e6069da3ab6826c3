/-
  The machine's code of the program's functions, by program.
-/
import Derived.Test.YtnhbopeopppojaaGreatDoorDa
namespace Go.Proofs.YtnhbopeopppojaaGreatDoor.Dv
open Go.Dm

-- annuitant/annuitantlaw39.StateReads
def v3 : VFunc :=
 ⟨1, 2, [.s 1],
 (.seq (.reg [⟨.mov (.c (.b false)), some 1, none⟩] none)
 (.seq (.reg [⟨.mov (.s 0), none, none⟩,
 ⟨.len 0 (.l 0), none, none⟩,
 ⟨.bin .gtr (.l 1) (.c (.i .i64 3000)), none, none⟩,
 ⟨.mov (.l 2), none, none⟩,
 ⟨.mov (.s 0), none, some ((.l 3), false)⟩,
 ⟨.call 5 [(.l 4)], none, some ((.l 3), false)⟩,
 ⟨.pick (.l 3) (.c (.b true)) (.l 5), none, none⟩,
 ⟨.mov (.l 6), none, none⟩,
 ⟨.call 6 [], none, some ((.l 7), true)⟩,
 ⟨.pick (.l 7) (.l 8) (.c (.b false)), none, none⟩,
 ⟨.mov (.l 9), some 1, none⟩] none)
 .ret)), true, false, none⟩

def tm3 : List Nat := [0, 2]
def bs3 : List Nat := []

-- annuitant/annuitantlaw39.StateSmall
def v4l0 : VCode :=
 (.seq (.seq (.reg [⟨.mov (.s 14), none, none⟩,
 ⟨.mov (.s 15), none, none⟩,
 ⟨.len 0 (.l 1), none, none⟩,
 ⟨.bin .lss (.l 0) (.l 2), some 3, none⟩] none)
 (.cond (.s 3) .skip
 (.exit 2)))
 (.seq (.block 3 (.seq (.reg [⟨.mov (.s 13), none, none⟩,
 ⟨.sli true 0 (.c (.s [115, 116, 97, 116, 101, 109, 101, 110, 116, 32, 50, 48, 50, 53, 10, 98, 101, 102, 111, 114, 101, 32, 48, 10, 109, 111, 110, 116, 104, 32, 50, 48, 50, 53, 45, 48, 50, 32, 100, 117, 101, 32, 49, 48, 48, 32, 112, 111, 115, 116, 101, 100, 32, 49, 50, 48, 32, 111, 112, 101, 110, 32, 45, 50, 48, 10, 109, 111, 110, 116, 104, 32, 50, 48, 50, 53, 45, 48, 51, 32, 100, 117, 101, 32, 49, 48, 48, 32, 112, 111, 115, 116, 101, 100, 32, 48, 32, 111, 112, 101, 110, 32, 49, 48, 48, 10, 103, 114, 111, 115, 115, 32, 49, 50, 48, 32, 116, 97, 120, 32, 50, 48, 32, 110, 101, 116, 32, 49, 48, 48, 32, 105, 110, 116, 101, 114, 101, 115, 116, 32, 48, 10, 97, 102, 116, 101, 114, 32, 56, 48, 10])) none (some (.l 0)) none, none, none⟩,
 ⟨.mov (.s 15), none, none⟩,
 ⟨.mov (.s 14), none, none⟩,
 ⟨.mov (.s 14), none, none⟩,
 ⟨.bin .add (.l 4) (.c (.i .i64 1)), none, none⟩,
 ⟨.sli true 0 (.l 2) (some (.l 3)) (some (.l 5)) none, none, none⟩,
 ⟨.bin .add (.l 1) (.l 6), none, none⟩,
 ⟨.mov (.s 13), none, none⟩,
 ⟨.sli true 0 (.c (.s [115, 116, 97, 116, 101, 109, 101, 110, 116, 32, 50, 48, 50, 53, 10, 98, 101, 102, 111, 114, 101, 32, 48, 10, 109, 111, 110, 116, 104, 32, 50, 48, 50, 53, 45, 48, 50, 32, 100, 117, 101, 32, 49, 48, 48, 32, 112, 111, 115, 116, 101, 100, 32, 49, 50, 48, 32, 111, 112, 101, 110, 32, 45, 50, 48, 10, 109, 111, 110, 116, 104, 32, 50, 48, 50, 53, 45, 48, 51, 32, 100, 117, 101, 32, 49, 48, 48, 32, 112, 111, 115, 116, 101, 100, 32, 48, 32, 111, 112, 101, 110, 32, 49, 48, 48, 10, 103, 114, 111, 115, 115, 32, 49, 50, 48, 32, 116, 97, 120, 32, 50, 48, 32, 110, 101, 116, 32, 49, 48, 48, 32, 105, 110, 116, 101, 114, 101, 115, 116, 32, 48, 10, 97, 102, 116, 101, 114, 32, 56, 48, 10])) (some (.l 8)) none none, none, none⟩,
 ⟨.bin .add (.l 7) (.l 9), none, none⟩,
 ⟨.call 5 [(.l 10)], none, none⟩,
 ⟨.un .not (.l 11), none, none⟩,
 ⟨.mov (.l 12), none, none⟩,
 ⟨.mov (.s 13), none, some ((.l 13), false)⟩,
 ⟨.bin .lss (.l 14) (.c (.i .i64 151)), none, some ((.l 13), false)⟩,
 ⟨.mov (.l 15), none, some ((.l 13), false)⟩,
 ⟨.mov (.s 13), none, some ((.l 16), true)⟩,
 ⟨.sli true 0 (.c (.s [115, 116, 97, 116, 101, 109, 101, 110, 116, 32, 50, 48, 50, 53, 10, 98, 101, 102, 111, 114, 101, 32, 48, 10, 109, 111, 110, 116, 104, 32, 50, 48, 50, 53, 45, 48, 50, 32, 100, 117, 101, 32, 49, 48, 48, 32, 112, 111, 115, 116, 101, 100, 32, 49, 50, 48, 32, 111, 112, 101, 110, 32, 45, 50, 48, 10, 109, 111, 110, 116, 104, 32, 50, 48, 50, 53, 45, 48, 51, 32, 100, 117, 101, 32, 49, 48, 48, 32, 112, 111, 115, 116, 101, 100, 32, 48, 32, 111, 112, 101, 110, 32, 49, 48, 48, 10, 103, 114, 111, 115, 115, 32, 49, 50, 48, 32, 116, 97, 120, 32, 50, 48, 32, 110, 101, 116, 32, 49, 48, 48, 32, 105, 110, 116, 101, 114, 101, 115, 116, 32, 48, 10, 97, 102, 116, 101, 114, 32, 56, 48, 10])) none (some (.l 17)) none, none, some ((.l 16), true)⟩,
 ⟨.mov (.s 15), none, some ((.l 16), true)⟩,
 ⟨.mov (.s 14), none, some ((.l 16), true)⟩,
 ⟨.mov (.s 14), none, some ((.l 16), true)⟩,
 ⟨.bin .add (.l 21) (.c (.i .i64 1)), none, some ((.l 16), true)⟩,
 ⟨.sli true 0 (.l 19) (some (.l 20)) (some (.l 22)) none, none, some ((.l 16), true)⟩,
 ⟨.bin .add (.l 18) (.l 23), none, some ((.l 16), true)⟩,
 ⟨.mov (.s 13), none, some ((.l 16), true)⟩,
 ⟨.bin .add (.l 25) (.c (.i .i64 1)), none, some ((.l 16), true)⟩,
 ⟨.sli true 0 (.c (.s [115, 116, 97, 116, 101, 109, 101, 110, 116, 32, 50, 48, 50, 53, 10, 98, 101, 102, 111, 114, 101, 32, 48, 10, 109, 111, 110, 116, 104, 32, 50, 48, 50, 53, 45, 48, 50, 32, 100, 117, 101, 32, 49, 48, 48, 32, 112, 111, 115, 116, 101, 100, 32, 49, 50, 48, 32, 111, 112, 101, 110, 32, 45, 50, 48, 10, 109, 111, 110, 116, 104, 32, 50, 48, 50, 53, 45, 48, 51, 32, 100, 117, 101, 32, 49, 48, 48, 32, 112, 111, 115, 116, 101, 100, 32, 48, 32, 111, 112, 101, 110, 32, 49, 48, 48, 10, 103, 114, 111, 115, 115, 32, 49, 50, 48, 32, 116, 97, 120, 32, 50, 48, 32, 110, 101, 116, 32, 49, 48, 48, 32, 105, 110, 116, 101, 114, 101, 115, 116, 32, 48, 10, 97, 102, 116, 101, 114, 32, 56, 48, 10])) (some (.l 26)) none none, none, some ((.l 16), true)⟩,
 ⟨.bin .add (.l 24) (.l 27), none, some ((.l 16), true)⟩,
 ⟨.call 5 [(.l 28)], none, some ((.l 16), true)⟩,
 ⟨.un .not (.l 29), none, some ((.l 16), true)⟩,
 ⟨.pick (.l 16) (.l 30) (.c (.b false)), none, some ((.l 13), false)⟩,
 ⟨.pick (.l 13) (.c (.b true)) (.l 31), some 4, none⟩] (some false))
 (.cond (.s 4) (.seq (.reg [⟨.mov (.c (.b false)), some 0, none⟩] none)
 .ret)
 .skip)))
 (.reg [⟨.mov (.s 14), none, none⟩,
 ⟨.bin .add (.l 0) (.c (.i .i64 1)), none, none⟩,
 ⟨.mov (.l 1), some 14, none⟩] none)))
def v4l1 : VCode :=
 (.seq (.seq (.reg [⟨.mov (.s 13), none, none⟩,
 ⟨.bin .leq (.l 0) (.c (.i .i64 151)), some 1, none⟩] none)
 (.cond (.s 1) .skip
 (.exit 0)))
 (.seq (.block 1 (.seq (.seq (.reg [⟨.mov (.s 13), none, none⟩,
 ⟨.sli true 0 (.c (.s [115, 116, 97, 116, 101, 109, 101, 110, 116, 32, 50, 48, 50, 53, 10, 98, 101, 102, 111, 114, 101, 32, 48, 10, 109, 111, 110, 116, 104, 32, 50, 48, 50, 53, 45, 48, 50, 32, 100, 117, 101, 32, 49, 48, 48, 32, 112, 111, 115, 116, 101, 100, 32, 49, 50, 48, 32, 111, 112, 101, 110, 32, 45, 50, 48, 10, 109, 111, 110, 116, 104, 32, 50, 48, 50, 53, 45, 48, 51, 32, 100, 117, 101, 32, 49, 48, 48, 32, 112, 111, 115, 116, 101, 100, 32, 48, 32, 111, 112, 101, 110, 32, 49, 48, 48, 10, 103, 114, 111, 115, 115, 32, 49, 50, 48, 32, 116, 97, 120, 32, 50, 48, 32, 110, 101, 116, 32, 49, 48, 48, 32, 105, 110, 116, 101, 114, 101, 115, 116, 32, 48, 10, 97, 102, 116, 101, 114, 32, 56, 48, 10])) none (some (.l 0)) none, none, none⟩,
 ⟨.call 5 [(.l 1)], none, none⟩,
 ⟨.un .not (.l 2), none, none⟩,
 ⟨.mov (.l 3), none, none⟩,
 ⟨.mov (.s 13), none, some ((.l 4), false)⟩,
 ⟨.sli true 0 (.c (.s [115, 116, 97, 116, 101, 109, 101, 110, 116, 32, 50, 48, 50, 53, 10, 98, 101, 102, 111, 114, 101, 32, 48, 10, 109, 111, 110, 116, 104, 32, 50, 48, 50, 53, 45, 48, 50, 32, 100, 117, 101, 32, 49, 48, 48, 32, 112, 111, 115, 116, 101, 100, 32, 49, 50, 48, 32, 111, 112, 101, 110, 32, 45, 50, 48, 10, 109, 111, 110, 116, 104, 32, 50, 48, 50, 53, 45, 48, 51, 32, 100, 117, 101, 32, 49, 48, 48, 32, 112, 111, 115, 116, 101, 100, 32, 48, 32, 111, 112, 101, 110, 32, 49, 48, 48, 10, 103, 114, 111, 115, 115, 32, 49, 50, 48, 32, 116, 97, 120, 32, 50, 48, 32, 110, 101, 116, 32, 49, 48, 48, 32, 105, 110, 116, 101, 114, 101, 115, 116, 32, 48, 10, 97, 102, 116, 101, 114, 32, 56, 48, 10])) (some (.l 5)) none none, none, some ((.l 4), false)⟩,
 ⟨.call 5 [(.l 6)], none, some ((.l 4), false)⟩,
 ⟨.un .not (.l 7), none, some ((.l 4), false)⟩,
 ⟨.pick (.l 4) (.c (.b true)) (.l 8), none, none⟩,
 ⟨.mov (.l 9), none, none⟩,
 ⟨.mov (.s 13), none, some ((.l 10), false)⟩,
 ⟨.bin .lss (.l 11) (.c (.i .i64 151)), none, some ((.l 10), false)⟩,
 ⟨.mov (.l 12), none, some ((.l 10), false)⟩,
 ⟨.mov (.s 13), none, some ((.l 13), true)⟩,
 ⟨.sli true 0 (.c (.s [115, 116, 97, 116, 101, 109, 101, 110, 116, 32, 50, 48, 50, 53, 10, 98, 101, 102, 111, 114, 101, 32, 48, 10, 109, 111, 110, 116, 104, 32, 50, 48, 50, 53, 45, 48, 50, 32, 100, 117, 101, 32, 49, 48, 48, 32, 112, 111, 115, 116, 101, 100, 32, 49, 50, 48, 32, 111, 112, 101, 110, 32, 45, 50, 48, 10, 109, 111, 110, 116, 104, 32, 50, 48, 50, 53, 45, 48, 51, 32, 100, 117, 101, 32, 49, 48, 48, 32, 112, 111, 115, 116, 101, 100, 32, 48, 32, 111, 112, 101, 110, 32, 49, 48, 48, 10, 103, 114, 111, 115, 115, 32, 49, 50, 48, 32, 116, 97, 120, 32, 50, 48, 32, 110, 101, 116, 32, 49, 48, 48, 32, 105, 110, 116, 101, 114, 101, 115, 116, 32, 48, 10, 97, 102, 116, 101, 114, 32, 56, 48, 10])) none (some (.l 14)) none, none, some ((.l 13), true)⟩,
 ⟨.mov (.s 13), none, some ((.l 13), true)⟩,
 ⟨.bin .add (.l 16) (.c (.i .i64 1)), none, some ((.l 13), true)⟩,
 ⟨.sli true 0 (.c (.s [115, 116, 97, 116, 101, 109, 101, 110, 116, 32, 50, 48, 50, 53, 10, 98, 101, 102, 111, 114, 101, 32, 48, 10, 109, 111, 110, 116, 104, 32, 50, 48, 50, 53, 45, 48, 50, 32, 100, 117, 101, 32, 49, 48, 48, 32, 112, 111, 115, 116, 101, 100, 32, 49, 50, 48, 32, 111, 112, 101, 110, 32, 45, 50, 48, 10, 109, 111, 110, 116, 104, 32, 50, 48, 50, 53, 45, 48, 51, 32, 100, 117, 101, 32, 49, 48, 48, 32, 112, 111, 115, 116, 101, 100, 32, 48, 32, 111, 112, 101, 110, 32, 49, 48, 48, 10, 103, 114, 111, 115, 115, 32, 49, 50, 48, 32, 116, 97, 120, 32, 50, 48, 32, 110, 101, 116, 32, 49, 48, 48, 32, 105, 110, 116, 101, 114, 101, 115, 116, 32, 48, 10, 97, 102, 116, 101, 114, 32, 56, 48, 10])) (some (.l 17)) none none, none, some ((.l 13), true)⟩,
 ⟨.bin .add (.l 15) (.l 18), none, some ((.l 13), true)⟩,
 ⟨.call 5 [(.l 19)], none, some ((.l 13), true)⟩,
 ⟨.un .not (.l 20), none, some ((.l 13), true)⟩,
 ⟨.mov (.l 21), none, some ((.l 13), true)⟩,
 ⟨.mov (.s 13), none, some ((.l 22), false)⟩,
 ⟨.bin .add (.l 23) (.c (.i .i64 1)), none, some ((.l 22), false)⟩,
 ⟨.sli true 0 (.c (.s [115, 116, 97, 116, 101, 109, 101, 110, 116, 32, 50, 48, 50, 53, 10, 98, 101, 102, 111, 114, 101, 32, 48, 10, 109, 111, 110, 116, 104, 32, 50, 48, 50, 53, 45, 48, 50, 32, 100, 117, 101, 32, 49, 48, 48, 32, 112, 111, 115, 116, 101, 100, 32, 49, 50, 48, 32, 111, 112, 101, 110, 32, 45, 50, 48, 10, 109, 111, 110, 116, 104, 32, 50, 48, 50, 53, 45, 48, 51, 32, 100, 117, 101, 32, 49, 48, 48, 32, 112, 111, 115, 116, 101, 100, 32, 48, 32, 111, 112, 101, 110, 32, 49, 48, 48, 10, 103, 114, 111, 115, 115, 32, 49, 50, 48, 32, 116, 97, 120, 32, 50, 48, 32, 110, 101, 116, 32, 49, 48, 48, 32, 105, 110, 116, 101, 114, 101, 115, 116, 32, 48, 10, 97, 102, 116, 101, 114, 32, 56, 48, 10])) none (some (.l 24)) none, none, some ((.l 22), false)⟩,
 ⟨.mov (.s 13), none, some ((.l 22), false)⟩,
 ⟨.sli true 0 (.c (.s [115, 116, 97, 116, 101, 109, 101, 110, 116, 32, 50, 48, 50, 53, 10, 98, 101, 102, 111, 114, 101, 32, 48, 10, 109, 111, 110, 116, 104, 32, 50, 48, 50, 53, 45, 48, 50, 32, 100, 117, 101, 32, 49, 48, 48, 32, 112, 111, 115, 116, 101, 100, 32, 49, 50, 48, 32, 111, 112, 101, 110, 32, 45, 50, 48, 10, 109, 111, 110, 116, 104, 32, 50, 48, 50, 53, 45, 48, 51, 32, 100, 117, 101, 32, 49, 48, 48, 32, 112, 111, 115, 116, 101, 100, 32, 48, 32, 111, 112, 101, 110, 32, 49, 48, 48, 10, 103, 114, 111, 115, 115, 32, 49, 50, 48, 32, 116, 97, 120, 32, 50, 48, 32, 110, 101, 116, 32, 49, 48, 48, 32, 105, 110, 116, 101, 114, 101, 115, 116, 32, 48, 10, 97, 102, 116, 101, 114, 32, 56, 48, 10])) (some (.l 26)) none none, none, some ((.l 22), false)⟩,
 ⟨.bin .add (.l 25) (.l 27), none, some ((.l 22), false)⟩,
 ⟨.call 5 [(.l 28)], none, some ((.l 22), false)⟩,
 ⟨.un .not (.l 29), none, some ((.l 22), false)⟩,
 ⟨.pick (.l 22) (.c (.b true)) (.l 30), none, some ((.l 13), true)⟩,
 ⟨.pick (.l 13) (.l 31) (.c (.b false)), none, some ((.l 10), false)⟩,
 ⟨.pick (.l 10) (.c (.b true)) (.l 32), some 2, none⟩] (some false))
 (.cond (.s 2) (.seq (.reg [⟨.mov (.c (.b false)), some 0, none⟩] none)
 .ret)
 .skip))
 (.seq (.reg [⟨.mov (.c (.i .i64 0)), some 14, none⟩] none)
 (.block 2 (.loop v4l0)))))
 (.reg [⟨.mov (.s 13), none, none⟩,
 ⟨.bin .add (.l 0) (.c (.i .i64 1)), none, none⟩,
 ⟨.mov (.l 1), some 13, none⟩] none)))
def v4l2 : VCode :=
 (.seq (.seq (.reg [⟨.mov (.s 21), none, none⟩,
 ⟨.mov (.s 17), none, none⟩,
 ⟨.len 1 (.l 1), none, none⟩,
 ⟨.bin .lss (.l 0) (.l 2), some 7, none⟩] none)
 (.cond (.s 7) .skip
 (.exit 8)))
 (.seq (.block 9 (.seq (.reg [⟨.mov (.s 21), none, none⟩,
 ⟨.mov (.l 0), some 22, none⟩] none)
 (.seq (.seq (.reg [⟨.mov (.s 21), none, none⟩,
 ⟨.mov (.s 16), none, none⟩,
 ⟨.bin .eql (.l 0) (.l 1), some 8, none⟩] none)
 (.cond (.s 8) (.reg [⟨.mov (.s 18), none, none⟩,
 ⟨.mov (.l 0), some 22, none⟩] none)
 (.seq (.reg [⟨.mov (.s 21), none, none⟩,
 ⟨.mov (.s 18), none, none⟩,
 ⟨.bin .eql (.l 0) (.l 1), some 9, none⟩] none)
 (.cond (.s 9) (.reg [⟨.mov (.s 16), none, none⟩,
 ⟨.mov (.l 0), some 22, none⟩] none)
 .skip))))
 (.seq (.reg [⟨.mov (.s 19), none, none⟩,
 ⟨.mov (.s 17), none, none⟩,
 ⟨.mov (.s 22), none, none⟩,
 ⟨.iad (.l 1) (.l 2) 1, none, none⟩,
 ⟨.ld (.l 3) 1 false, none, none⟩,
 ⟨.bin .add (.l 0) (.l 4), none, none⟩,
 ⟨.mov (.l 5), some 19, none⟩] none)
 (.seq (.seq (.reg [⟨.mov (.s 21), none, none⟩,
 ⟨.mov (.s 16), none, none⟩,
 ⟨.bin .neq (.l 0) (.l 1), some 10, none⟩] none)
 (.cond (.s 10) (.reg [⟨.mov (.s 20), none, none⟩,
 ⟨.mov (.s 17), none, none⟩,
 ⟨.mov (.s 21), none, none⟩,
 ⟨.iad (.l 1) (.l 2) 1, none, none⟩,
 ⟨.ld (.l 3) 1 false, none, none⟩,
 ⟨.bin .add (.l 0) (.l 4), none, none⟩,
 ⟨.mov (.l 5), some 20, none⟩] none)
 .skip))
 (.seq (.reg [⟨.mov (.s 21), none, none⟩,
 ⟨.mov (.s 18), none, none⟩,
 ⟨.bin .eql (.l 0) (.l 1), some 11, none⟩] none)
 (.cond (.s 11) (.reg [⟨.mov (.s 20), none, none⟩,
 ⟨.mov (.s 17), none, none⟩,
 ⟨.mov (.s 16), none, none⟩,
 ⟨.iad (.l 1) (.l 2) 1, none, none⟩,
 ⟨.ld (.l 3) 1 false, none, none⟩,
 ⟨.bin .add (.l 0) (.l 4), none, none⟩,
 ⟨.mov (.l 5), some 20, none⟩] none)
 .skip)))))))
 (.reg [⟨.mov (.s 21), none, none⟩,
 ⟨.bin .add (.l 0) (.c (.i .i64 1)), none, none⟩,
 ⟨.mov (.l 1), some 21, none⟩] none)))
def v4l3 : VCode :=
 (.seq (.seq (.reg [⟨.mov (.s 18), none, none⟩,
 ⟨.mov (.s 17), none, none⟩,
 ⟨.len 1 (.l 1), none, none⟩,
 ⟨.bin .lss (.l 0) (.l 2), some 6, none⟩] none)
 (.cond (.s 6) .skip
 (.exit 6)))
 (.seq (.block 7 (.seq (.reg [⟨.mov (.c (.s [])), some 19, none⟩,
 ⟨.mov (.c (.s [])), some 20, none⟩] none)
 (.seq (.seq (.reg [⟨.mov (.c (.i .i64 0)), some 21, none⟩] none)
 (.block 8 (.loop v4l2)))
 (.seq (.reg [⟨.mov (.s 19), none, none⟩,
 ⟨.call 5 [(.l 0)], none, none⟩,
 ⟨.un .not (.l 1), none, none⟩,
 ⟨.mov (.l 2), none, none⟩,
 ⟨.mov (.s 20), none, some ((.l 3), false)⟩,
 ⟨.call 5 [(.l 4)], none, some ((.l 3), false)⟩,
 ⟨.un .not (.l 5), none, some ((.l 3), false)⟩,
 ⟨.pick (.l 3) (.c (.b true)) (.l 6), some 12, none⟩] none)
 (.cond (.s 12) (.seq (.reg [⟨.mov (.c (.b false)), some 0, none⟩] none)
 .ret)
 .skip)))))
 (.reg [⟨.mov (.s 18), none, none⟩,
 ⟨.bin .add (.l 0) (.c (.i .i64 1)), none, none⟩,
 ⟨.mov (.l 1), some 18, none⟩] none)))
def v4l4 : VCode :=
 (.seq (.seq (.reg [⟨.mov (.s 16), none, none⟩,
 ⟨.mov (.s 17), none, none⟩,
 ⟨.len 1 (.l 1), none, none⟩,
 ⟨.bin .lss (.l 0) (.l 2), some 5, none⟩] none)
 (.cond (.s 5) .skip
 (.exit 4)))
 (.seq (.block 5 (.seq (.reg [⟨.mov (.c (.i .i64 0)), some 18, none⟩] none)
 (.block 6 (.loop v4l3))))
 (.reg [⟨.mov (.s 16), none, none⟩,
 ⟨.bin .add (.l 0) (.c (.i .i64 1)), none, none⟩,
 ⟨.mov (.l 1), some 16, none⟩] none)))
def v4 : VFunc :=
 ⟨0, 23, [.s 0],
 (.seq (.reg [⟨.mov (.c (.b false)), some 0, none⟩] none)
 (.seq (.reg [⟨.mov (.c (.s [32, 10, 45, 48, 49, 50, 57, 109, 97, 111, 100, 116, 43])), some 15, none⟩] none)
 (.seq (.seq (.reg [⟨.mov (.c (.i .i64 0)), some 13, none⟩] none)
 (.block 0 (.loop v4l1)))
 (.seq (.reg [⟨.call 7 [(.c (.s [115, 116, 97, 116, 101, 109, 101, 110, 116, 32, 50, 48, 50, 53, 10, 98, 101, 102, 111, 114, 101, 32, 48, 10, 109, 111, 110, 116, 104, 32, 50, 48, 50, 53, 45, 48, 50, 32, 100, 117, 101, 32, 49, 48, 48, 32, 112, 111, 115, 116, 101, 100, 32, 49, 50, 48, 32, 111, 112, 101, 110, 32, 45, 50, 48, 10, 109, 111, 110, 116, 104, 32, 50, 48, 50, 53, 45, 48, 51, 32, 100, 117, 101, 32, 49, 48, 48, 32, 112, 111, 115, 116, 101, 100, 32, 48, 32, 111, 112, 101, 110, 32, 49, 48, 48, 10, 103, 114, 111, 115, 115, 32, 49, 50, 48, 32, 116, 97, 120, 32, 50, 48, 32, 110, 101, 116, 32, 49, 48, 48, 32, 105, 110, 116, 101, 114, 101, 115, 116, 32, 48, 10, 97, 102, 116, 101, 114, 32, 56, 48, 10]))], none, none⟩,
 ⟨.mov (.l 0), some 17, none⟩] none)
 (.seq (.seq (.reg [⟨.mov (.c (.i .i64 0)), some 16, none⟩] none)
 (.block 4 (.loop v4l4)))
 (.seq (.reg [⟨.call 8 [], none, none⟩,
 ⟨.mov (.l 0), none, none⟩,
 ⟨.call 9 [], none, some ((.l 1), true)⟩,
 ⟨.pick (.l 1) (.l 2) (.c (.b false)), none, none⟩,
 ⟨.mov (.l 3), none, none⟩,
 ⟨.call 6 [], none, some ((.l 4), true)⟩,
 ⟨.pick (.l 4) (.l 5) (.c (.b false)), none, none⟩,
 ⟨.mov (.l 6), some 0, none⟩] none)
 .ret)))))), true, false, none⟩

def tm4 : List Nat := [0, 12, 48, 52, 87, 92, 98, 104, 110, 114, 124, 133, 147, 2, 3, 1, 5, 4, 6, 7, 8, 9, 10]
def bs4 : List Nat := []

-- annuitant/annuitantlaw39.reads
def v5 : VFunc :=
 ⟨1, 6, [.s 1],
 (.seq (.reg [⟨.mov (.c (.b false)), some 1, none⟩] none)
 (.seq (.reg [⟨.mov (.s 0), none, none⟩,
 ⟨.call 10 [(.l 0)], none, none⟩,
 ⟨.mov (.l 1), none, none⟩,
 ⟨.ext (.l 2) 0, none, none⟩,
 ⟨.ext (.l 2) 1, none, none⟩,
 ⟨.lal [(.i .i64 0), (.i .i64 0), (.i .i64 0), .nil, (.i .i64 0), (.i .i64 0), (.i .i64 0), (.i .i64 0)], some 4, none⟩,
 ⟨.lst (.sl 4) (.l 3) 8, none, none⟩,
 ⟨.mov (.l 4), some 2, none⟩] none)
 (.seq (.reg [⟨.mov (.s 0), none, none⟩,
 ⟨.call 11 [(.l 0)], none, none⟩,
 ⟨.mov (.l 1), none, none⟩,
 ⟨.ext (.l 2) 0, none, none⟩,
 ⟨.ext (.l 2) 1, none, none⟩,
 ⟨.lal [(.i .i64 0), (.i .i64 0), (.i .i64 0), .nil, (.i .i64 0), (.i .i64 0), (.i .i64 0), (.i .i64 0)], some 5, none⟩,
 ⟨.lst (.sl 5) (.l 3) 8, none, none⟩,
 ⟨.mov (.l 4), some 3, none⟩] none)
 (.seq (.reg [⟨.mov (.s 2), none, none⟩,
 ⟨.mov (.s 3), none, none⟩,
 ⟨.bin .eql (.l 0) (.l 1), none, none⟩,
 ⟨.mov (.l 2), none, none⟩,
 ⟨.lld (.sl 4) 8 true, none, some ((.l 3), true)⟩,
 ⟨.lld (.sl 5) 8 true, none, some ((.l 3), true)⟩,
 ⟨.call 13 [(.l 5)], none, some ((.l 3), true)⟩,
 ⟨.call 12 [(.l 4), (.l 6)], none, some ((.l 3), true)⟩,
 ⟨.pick (.l 3) (.l 7) (.c (.b false)), none, none⟩,
 ⟨.mov (.l 8), some 1, none⟩] (some false))
 .ret)))), true, false, none⟩

def tm5 : List Nat := [0, 2, 4, 6, 3, 5]
def bs5 : List Nat := [4, 5]

-- annuitant/annuitantlaw39.awake
def v6 : VFunc :=
 ⟨0, 7, [.s 0],
 (.seq (.reg [⟨.mov (.c (.b false)), some 0, none⟩] none)
 (.seq (.reg [⟨.call 15 [], none, none⟩,
 ⟨.call 14 [(.l 0), (.c (.i .i64 2025))], none, none⟩,
 ⟨.mov (.l 1), none, none⟩,
 ⟨.ext (.l 2) 0, none, none⟩,
 ⟨.ext (.l 2) 1, none, none⟩,
 ⟨.lal [(.i .i64 0), (.i .i64 0), (.i .i64 0), .nil, (.i .i64 0), (.i .i64 0), (.i .i64 0), (.i .i64 0)], some 1, none⟩,
 ⟨.lst (.sl 1) (.l 3) 8, none, none⟩,
 ⟨.mov (.l 4), some 2, none⟩] none)
 (.seq (.reg [⟨.lld (.sl 1) 8 true, none, none⟩,
 ⟨.call 16 [(.l 0)], none, none⟩,
 ⟨.mov (.l 1), none, none⟩,
 ⟨.ext (.l 2) 0, none, none⟩,
 ⟨.ext (.l 2) 1, none, none⟩,
 ⟨.mov (.l 3), some 5, none⟩,
 ⟨.mov (.l 4), some 3, none⟩] none)
 (.seq (.reg [⟨.call 10 [(.c (.s [115, 116, 97, 116, 101, 109, 101, 110, 116, 32, 50, 48, 50, 53, 10, 98, 101, 102, 111, 114, 101, 32, 48, 10, 109, 111, 110, 116, 104, 32, 50, 48, 50, 53, 45, 48, 50, 32, 100, 117, 101, 32, 49, 48, 48, 32, 112, 111, 115, 116, 101, 100, 32, 49, 50, 48, 32, 111, 112, 101, 110, 32, 45, 50, 48, 10, 109, 111, 110, 116, 104, 32, 50, 48, 50, 53, 45, 48, 51, 32, 100, 117, 101, 32, 49, 48, 48, 32, 112, 111, 115, 116, 101, 100, 32, 48, 32, 111, 112, 101, 110, 32, 49, 48, 48, 10, 103, 114, 111, 115, 115, 32, 49, 50, 48, 32, 116, 97, 120, 32, 50, 48, 32, 110, 101, 116, 32, 49, 48, 48, 32, 105, 110, 116, 101, 114, 101, 115, 116, 32, 48, 10, 97, 102, 116, 101, 114, 32, 56, 48, 10]))], none, none⟩,
 ⟨.mov (.l 0), none, none⟩,
 ⟨.ext (.l 1) 0, none, none⟩,
 ⟨.ext (.l 1) 1, none, none⟩,
 ⟨.lal [(.i .i64 0), (.i .i64 0), (.i .i64 0), .nil, (.i .i64 0), (.i .i64 0), (.i .i64 0), (.i .i64 0)], some 6, none⟩,
 ⟨.lst (.sl 6) (.l 2) 8, none, none⟩,
 ⟨.mov (.l 3), some 4, none⟩] none)
 (.seq (.reg [⟨.mov (.s 2), none, none⟩,
 ⟨.bin .eql (.l 0) (.c (.i .i64 0)), none, none⟩,
 ⟨.mov (.l 1), none, none⟩,
 ⟨.mov (.s 3), none, some ((.l 2), true)⟩,
 ⟨.bin .eql (.l 3) (.c (.i .i64 0)), none, some ((.l 2), true)⟩,
 ⟨.pick (.l 2) (.l 4) (.c (.b false)), none, none⟩,
 ⟨.mov (.l 5), none, none⟩,
 ⟨.mov (.s 4), none, some ((.l 6), true)⟩,
 ⟨.bin .eql (.l 7) (.c (.i .i64 0)), none, some ((.l 6), true)⟩,
 ⟨.pick (.l 6) (.l 8) (.c (.b false)), none, none⟩,
 ⟨.mov (.l 9), none, none⟩,
 ⟨.mov (.s 5), none, some ((.l 10), true)⟩,
 ⟨.bin .eql (.l 11) (.c (.s [115, 116, 97, 116, 101, 109, 101, 110, 116, 32, 50, 48, 50, 53, 10, 98, 101, 102, 111, 114, 101, 32, 48, 10, 109, 111, 110, 116, 104, 32, 50, 48, 50, 53, 45, 48, 50, 32, 100, 117, 101, 32, 49, 48, 48, 32, 112, 111, 115, 116, 101, 100, 32, 49, 50, 48, 32, 111, 112, 101, 110, 32, 45, 50, 48, 10, 109, 111, 110, 116, 104, 32, 50, 48, 50, 53, 45, 48, 51, 32, 100, 117, 101, 32, 49, 48, 48, 32, 112, 111, 115, 116, 101, 100, 32, 48, 32, 111, 112, 101, 110, 32, 49, 48, 48, 10, 103, 114, 111, 115, 115, 32, 49, 50, 48, 32, 116, 97, 120, 32, 50, 48, 32, 110, 101, 116, 32, 49, 48, 48, 32, 105, 110, 116, 101, 114, 101, 115, 116, 32, 48, 10, 97, 102, 116, 101, 114, 32, 56, 48, 10])), none, some ((.l 10), true)⟩,
 ⟨.pick (.l 10) (.l 12) (.c (.b false)), none, none⟩,
 ⟨.mov (.l 13), none, none⟩,
 ⟨.lfa (.sl 1) 3, none, some ((.l 14), true)⟩,
 ⟨.lld (.lo 15) 1 false, none, some ((.l 14), true)⟩,
 ⟨.len 1 (.l 16), none, some ((.l 14), true)⟩,
 ⟨.bin .eql (.l 17) (.c (.i .i64 2)), none, some ((.l 14), true)⟩,
 ⟨.pick (.l 14) (.l 18) (.c (.b false)), none, none⟩,
 ⟨.mov (.l 19), none, none⟩,
 ⟨.lfa (.sl 1) 3, none, some ((.l 20), true)⟩,
 ⟨.lld (.lo 21) 1 false, none, some ((.l 20), true)⟩,
 ⟨.iad (.l 22) (.c (.i .i64 0)) 4, none, some ((.l 20), true)⟩,
 ⟨.ld (.l 23) 4 true, none, some ((.l 20), true)⟩,
 ⟨.agc [(.i .i64 0), (.i .i64 0), (.i .i64 0), (.i .i64 0)] [(0, 1, (.c (.i .i64 1501))), (1, 1, (.c (.i .i64 100))), (2, 1, (.c (.i .i64 120))), (3, 1, (.c (.i .i64 (-20))))], none, some ((.l 20), true)⟩,
 ⟨.eqv false (.st [1, 1, 1, 1]) (.l 24) (.l 25), none, some ((.l 20), true)⟩,
 ⟨.pick (.l 20) (.l 26) (.c (.b false)), none, none⟩,
 ⟨.mov (.l 27), none, none⟩,
 ⟨.lfa (.sl 1) 2, none, some ((.l 28), true)⟩,
 ⟨.lld (.lo 29) 1 false, none, some ((.l 28), true)⟩,
 ⟨.bin .eql (.l 30) (.c (.i .i64 80)), none, some ((.l 28), true)⟩,
 ⟨.pick (.l 28) (.l 31) (.c (.b false)), none, none⟩,
 ⟨.mov (.l 32), none, none⟩,
 ⟨.lfa (.sl 1) 6, none, some ((.l 33), true)⟩,
 ⟨.lld (.lo 34) 1 false, none, some ((.l 33), true)⟩,
 ⟨.bin .eql (.l 35) (.c (.i .i64 100)), none, some ((.l 33), true)⟩,
 ⟨.pick (.l 33) (.l 36) (.c (.b false)), none, none⟩,
 ⟨.mov (.l 37), none, none⟩,
 ⟨.lld (.sl 1) 8 true, none, some ((.l 38), true)⟩,
 ⟨.lld (.sl 6) 8 true, none, some ((.l 38), true)⟩,
 ⟨.call 12 [(.l 39), (.l 40)], none, some ((.l 38), true)⟩,
 ⟨.pick (.l 38) (.l 41) (.c (.b false)), none, none⟩,
 ⟨.mov (.l 42), some 0, none⟩] none)
 .ret))))), true, false, none⟩

def tm6 : List Nat := [0, 1, 2, 4, 6, 3, 5]
def bs6 : List Nat := [1, 6]

-- annuitant/annuitantlaw39.lines
def v7l0 : VCode :=
 (.seq (.seq (.reg [⟨.mov (.s 6), none, none⟩,
 ⟨.mov (.s 0), none, none⟩,
 ⟨.len 0 (.l 1), none, none⟩,
 ⟨.bin .lss (.l 0) (.l 2), some 2, none⟩] none)
 (.cond (.s 2) .skip
 (.exit 0)))
 (.seq (.block 1 (.seq (.reg [⟨.mov (.s 0), none, none⟩,
 ⟨.mov (.s 6), none, none⟩,
 ⟨.ixs (.l 0) (.l 1), none, none⟩,
 ⟨.bin .eql (.l 2) (.c (.i .u8 10)), some 3, none⟩] none)
 (.cond (.s 3) (.seq (.reg [⟨.mov (.s 4), none, none⟩,
 ⟨.mov (.s 0), none, none⟩,
 ⟨.mov (.s 5), none, none⟩,
 ⟨.mov (.s 6), none, none⟩,
 ⟨.bin .add (.l 3) (.c (.i .i64 1)), none, none⟩,
 ⟨.sli true 0 (.l 1) (some (.l 2)) (some (.l 4)) none, none, none⟩,
 ⟨.bsv 1 1 [(.s [])] [(0, (.l 5))], none, none⟩,
 ⟨.app (.l 0) (.l 6) 1 16 true, none, none⟩,
 ⟨.mov (.l 7), some 4, none⟩] none)
 (.reg [⟨.mov (.s 6), none, none⟩,
 ⟨.bin .add (.l 0) (.c (.i .i64 1)), none, none⟩,
 ⟨.mov (.l 1), some 5, none⟩] none))
 .skip)))
 (.reg [⟨.mov (.s 6), none, none⟩,
 ⟨.bin .add (.l 0) (.c (.i .i64 1)), none, none⟩,
 ⟨.mov (.l 1), some 6, none⟩] none)))
def v7 : VFunc :=
 ⟨1, 7, [.s 1],
 (.seq (.reg [⟨.mov (.c .nil), some 1, none⟩] none)
 (.seq (.reg [⟨.mov (.c .nil), some 4, none⟩] none)
 (.seq (.reg [⟨.mov (.c (.i .i64 0)), some 5, none⟩] none)
 (.seq (.seq (.reg [⟨.mov (.c (.i .i64 0)), some 6, none⟩] none)
 (.block 0 (.loop v7l0)))
 (.seq (.reg [⟨.mov (.s 4), none, none⟩,
 ⟨.mov (.l 0), some 1, none⟩] none)
 .ret))))), true, false, none⟩

def tm7 : List Nat := [0, 2, 9, 15, 3, 4, 5]
def bs7 : List Nat := []

-- annuitant/annuitantlaw39.numbers
def v8l0 : VCode :=
 (.seq (.seq (.reg [⟨.mov (.s 20), none, none⟩,
 ⟨.bin .lss (.l 0) (.c (.i .i64 2)), some 3, none⟩] none)
 (.cond (.s 3) .skip
 (.exit 4)))
 (.seq (.block 5 (.seq (.reg [⟨.call 11 [(.c (.s [115, 116, 97, 116, 101, 109, 101, 110, 116, 32, 50, 48, 50, 53, 10, 98, 101, 102, 111, 114, 101, 32, 48, 10, 109, 111, 110, 116, 104, 32, 50, 48, 50, 53, 45, 48, 50, 32, 100, 117, 101, 32, 49, 48, 48, 32, 112, 111, 115, 116, 101, 100, 32, 49, 50, 48, 32, 111, 112, 101, 110, 32, 45, 50, 48, 10, 109, 111, 110, 116, 104, 32, 50, 48, 50, 53, 45, 48, 51, 32, 100, 117, 101, 32, 49, 48, 48, 32, 112, 111, 115, 116, 101, 100, 32, 48, 32, 111, 112, 101, 110, 32, 49, 48, 48, 10, 103, 114, 111, 115, 115, 32, 49, 50, 48, 32, 116, 97, 120, 32, 50, 48, 32, 110, 101, 116, 32, 49, 48, 48, 32, 105, 110, 116, 101, 114, 101, 115, 116, 32, 48, 10, 97, 102, 116, 101, 114, 32, 56, 48, 10]))], none, none⟩,
 ⟨.mov (.l 0), none, none⟩,
 ⟨.ext (.l 1) 0, none, none⟩,
 ⟨.ext (.l 1) 1, none, none⟩,
 ⟨.lal [(.i .i64 0), (.i .i64 0), (.i .i64 0), .nil, (.i .i64 0), (.i .i64 0), (.i .i64 0), (.i .i64 0)], some 23, none⟩,
 ⟨.lst (.sl 23) (.l 2) 8, none, none⟩,
 ⟨.mov (.l 3), none, none⟩] none)
 (.seq (.reg [⟨.mov (.s 18), none, none⟩,
 ⟨.mov (.s 17), none, none⟩,
 ⟨.iad (.l 0) (.l 1) 1, none, none⟩,
 ⟨.ld (.l 2) 1 false, none, none⟩,
 ⟨.mov (.l 3), some 22, none⟩] none)
 (.seq (.seq (.reg [⟨.mov (.s 19), some 21, none⟩] none)
 (.block 6 (.seq (.reg [⟨.bin .eql (.s 21) (.c (.i .i64 0)), none, none⟩,
 ⟨.mov (.l 0), some 4, none⟩] none)
 (.cond (.s 4) (.reg [⟨.mov (.s 22), none, none⟩,
 ⟨.lfa (.sl 23) 0, none, none⟩,
 ⟨.lst (.lo 1) (.l 0) 1, none, none⟩] none)
 (.seq (.reg [⟨.bin .eql (.s 21) (.c (.i .i64 1)), none, none⟩,
 ⟨.mov (.l 0), some 5, none⟩] none)
 (.cond (.s 5) (.reg [⟨.mov (.s 22), none, none⟩,
 ⟨.lfa (.sl 23) 1, none, none⟩,
 ⟨.lst (.lo 1) (.l 0) 1, none, none⟩] none)
 (.seq (.reg [⟨.bin .eql (.s 21) (.c (.i .i64 2)), none, none⟩,
 ⟨.mov (.l 0), some 6, none⟩] none)
 (.cond (.s 6) (.reg [⟨.mov (.s 22), none, none⟩,
 ⟨.lfa (.sl 23) 2, none, none⟩,
 ⟨.lst (.lo 1) (.l 0) 1, none, none⟩] none)
 (.seq (.reg [⟨.bin .eql (.s 21) (.c (.i .i64 3)), none, none⟩,
 ⟨.mov (.l 0), some 7, none⟩] none)
 (.cond (.s 7) (.reg [⟨.mov (.s 22), none, none⟩,
 ⟨.lfa (.sl 23) 4, none, none⟩,
 ⟨.lst (.lo 1) (.l 0) 1, none, none⟩] none)
 (.seq (.reg [⟨.bin .eql (.s 21) (.c (.i .i64 4)), none, none⟩,
 ⟨.mov (.l 0), some 8, none⟩] none)
 (.cond (.s 8) (.reg [⟨.mov (.s 22), none, none⟩,
 ⟨.lfa (.sl 23) 5, none, none⟩,
 ⟨.lst (.lo 1) (.l 0) 1, none, none⟩] none)
 (.seq (.reg [⟨.bin .eql (.s 21) (.c (.i .i64 5)), none, none⟩,
 ⟨.mov (.l 0), some 9, none⟩] none)
 (.cond (.s 9) (.reg [⟨.mov (.s 22), none, none⟩,
 ⟨.lfa (.sl 23) 6, none, none⟩,
 ⟨.lst (.lo 1) (.l 0) 1, none, none⟩] none)
 (.seq (.reg [⟨.bin .eql (.s 21) (.c (.i .i64 6)), none, none⟩,
 ⟨.mov (.l 0), some 10, none⟩] none)
 (.cond (.s 10) (.reg [⟨.mov (.s 22), none, none⟩,
 ⟨.lfa (.sl 23) 7, none, none⟩,
 ⟨.lst (.lo 1) (.l 0) 1, none, none⟩] none)
 (.seq (.reg [⟨.bin .eql (.s 21) (.c (.i .i64 7)), none, none⟩,
 ⟨.mov (.l 0), some 11, none⟩] none)
 (.cond (.s 11) (.reg [⟨.lfa (.sl 23) 3, none, none⟩,
 ⟨.lld (.lo 0) 1 false, none, none⟩,
 ⟨.mov (.s 22), none, none⟩,
 ⟨.iad (.l 1) (.c (.i .i64 0)) 4, none, none⟩,
 ⟨.fad (.l 3) 0, none, none⟩,
 ⟨.st (.l 4) (.l 2) 1, none, none⟩] none)
 (.seq (.reg [⟨.bin .eql (.s 21) (.c (.i .i64 8)), none, none⟩,
 ⟨.mov (.l 0), some 12, none⟩] none)
 (.cond (.s 12) (.reg [⟨.lfa (.sl 23) 3, none, none⟩,
 ⟨.lld (.lo 0) 1 false, none, none⟩,
 ⟨.mov (.s 22), none, none⟩,
 ⟨.iad (.l 1) (.c (.i .i64 1)) 4, none, none⟩,
 ⟨.fad (.l 3) 0, none, none⟩,
 ⟨.st (.l 4) (.l 2) 1, none, none⟩] none)
 (.seq (.reg [⟨.bin .eql (.s 21) (.c (.i .i64 9)), none, none⟩,
 ⟨.mov (.l 0), some 13, none⟩] none)
 (.cond (.s 13) (.reg [⟨.lfa (.sl 23) 3, none, none⟩,
 ⟨.lld (.lo 0) 1 false, none, none⟩,
 ⟨.mov (.s 22), none, none⟩,
 ⟨.iad (.l 1) (.c (.i .i64 0)) 4, none, none⟩,
 ⟨.fad (.l 3) 1, none, none⟩,
 ⟨.st (.l 4) (.l 2) 1, none, none⟩] none)
 (.seq (.reg [⟨.bin .eql (.s 21) (.c (.i .i64 10)), none, none⟩,
 ⟨.mov (.l 0), some 14, none⟩] none)
 (.cond (.s 14) (.reg [⟨.lfa (.sl 23) 3, none, none⟩,
 ⟨.lld (.lo 0) 1 false, none, none⟩,
 ⟨.mov (.s 22), none, none⟩,
 ⟨.iad (.l 1) (.c (.i .i64 0)) 4, none, none⟩,
 ⟨.fad (.l 3) 2, none, none⟩,
 ⟨.st (.l 4) (.l 2) 1, none, none⟩] none)
 (.reg [⟨.lfa (.sl 23) 3, none, none⟩,
 ⟨.lld (.lo 0) 1 false, none, none⟩,
 ⟨.mov (.s 22), none, none⟩,
 ⟨.iad (.l 1) (.c (.i .i64 1)) 4, none, none⟩,
 ⟨.fad (.l 3) 3, none, none⟩,
 ⟨.st (.l 4) (.l 2) 1, none, none⟩] none)))))))))))))))))))))))))
 (.seq (.seq (.reg [⟨.mov (.s 20), none, none⟩,
 ⟨.bin .eql (.l 0) (.c (.i .i64 1)), some 15, none⟩] none)
 (.cond (.s 15) (.seq (.reg [⟨.lfa (.sl 23) 3, none, none⟩,
 ⟨.lld (.lo 0) 1 false, none, none⟩,
 ⟨.lfa (.sl 23) 3, none, none⟩,
 ⟨.lld (.lo 2) 1 false, none, none⟩,
 ⟨.iad (.l 3) (.c (.i .i64 0)) 4, none, none⟩,
 ⟨.fad (.l 4) 1, none, none⟩,
 ⟨.ld (.l 5) 1 false, none, none⟩,
 ⟨.lfa (.sl 23) 3, none, none⟩,
 ⟨.lld (.lo 7) 1 false, none, none⟩,
 ⟨.iad (.l 8) (.c (.i .i64 0)) 4, none, none⟩,
 ⟨.fad (.l 9) 2, none, none⟩,
 ⟨.ld (.l 10) 1 false, none, none⟩,
 ⟨.bin .sub (.l 6) (.l 11), none, none⟩,
 ⟨.iad (.l 1) (.c (.i .i64 0)) 4, none, none⟩,
 ⟨.fad (.l 13) 3, none, none⟩,
 ⟨.st (.l 14) (.l 12) 1, none, none⟩] (some false))
 (.seq (.reg [⟨.lfa (.sl 23) 3, none, none⟩,
 ⟨.lld (.lo 0) 1 false, none, none⟩,
 ⟨.lfa (.sl 23) 3, none, none⟩,
 ⟨.lld (.lo 2) 1 false, none, none⟩,
 ⟨.iad (.l 3) (.c (.i .i64 1)) 4, none, none⟩,
 ⟨.fad (.l 4) 1, none, none⟩,
 ⟨.ld (.l 5) 1 false, none, none⟩,
 ⟨.lfa (.sl 23) 3, none, none⟩,
 ⟨.lld (.lo 7) 1 false, none, none⟩,
 ⟨.iad (.l 8) (.c (.i .i64 1)) 4, none, none⟩,
 ⟨.fad (.l 9) 3, none, none⟩,
 ⟨.ld (.l 10) 1 false, none, none⟩,
 ⟨.bin .sub (.l 6) (.l 11), none, none⟩,
 ⟨.iad (.l 1) (.c (.i .i64 1)) 4, none, none⟩,
 ⟨.fad (.l 13) 2, none, none⟩,
 ⟨.st (.l 14) (.l 12) 1, none, none⟩] (some false))
 (.seq (.reg [⟨.lfa (.sl 23) 1, none, none⟩,
 ⟨.lld (.lo 0) 1 false, none, none⟩,
 ⟨.lfa (.sl 23) 3, none, none⟩,
 ⟨.lld (.lo 2) 1 false, none, none⟩,
 ⟨.iad (.l 3) (.c (.i .i64 0)) 4, none, none⟩,
 ⟨.fad (.l 4) 3, none, none⟩,
 ⟨.ld (.l 5) 1 false, none, none⟩,
 ⟨.bin .add (.l 1) (.l 6), none, none⟩,
 ⟨.lfa (.sl 23) 3, none, none⟩,
 ⟨.lld (.lo 8) 1 false, none, none⟩,
 ⟨.iad (.l 9) (.c (.i .i64 1)) 4, none, none⟩,
 ⟨.fad (.l 10) 3, none, none⟩,
 ⟨.ld (.l 11) 1 false, none, none⟩,
 ⟨.bin .add (.l 7) (.l 12), none, none⟩,
 ⟨.lfa (.sl 23) 2, none, none⟩,
 ⟨.lst (.lo 14) (.l 13) 1, none, none⟩] (some false))
 (.reg [⟨.lfa (.sl 23) 4, none, none⟩,
 ⟨.lld (.lo 0) 1 false, none, none⟩,
 ⟨.lfa (.sl 23) 5, none, none⟩,
 ⟨.lld (.lo 2) 1 false, none, none⟩,
 ⟨.bin .sub (.l 1) (.l 3), none, none⟩,
 ⟨.lfa (.sl 23) 6, none, none⟩,
 ⟨.lst (.lo 5) (.l 4) 1, none, none⟩] none))))
 .skip))
 (.seq (.reg [⟨.lld (.sl 23) 8 true, none, none⟩,
 ⟨.call 13 [(.l 0)], none, none⟩,
 ⟨.call 17 [(.l 1)], none, none⟩,
 ⟨.un .not (.l 2), some 16, none⟩] none)
 (.cond (.s 16) (.seq (.reg [⟨.mov (.c (.b false)), some 0, none⟩] none)
 .ret)
 .skip)))))))
 (.reg [⟨.mov (.s 20), none, none⟩,
 ⟨.bin .add (.l 0) (.c (.i .i64 1)), none, none⟩,
 ⟨.mov (.l 1), some 20, none⟩] none)))
def v8l1 : VCode :=
 (.seq (.seq (.reg [⟨.mov (.s 19), none, none⟩,
 ⟨.bin .lss (.l 0) (.c (.i .i64 12)), some 2, none⟩] none)
 (.cond (.s 2) .skip
 (.exit 2)))
 (.seq (.block 3 (.seq (.reg [⟨.mov (.c (.i .i64 0)), some 20, none⟩] none)
 (.block 4 (.loop v8l0))))
 (.reg [⟨.mov (.s 19), none, none⟩,
 ⟨.bin .add (.l 0) (.c (.i .i64 1)), none, none⟩,
 ⟨.mov (.l 1), some 19, none⟩] none)))
def v8l2 : VCode :=
 (.seq (.seq (.reg [⟨.mov (.s 17), none, none⟩,
 ⟨.mov (.s 18), none, none⟩,
 ⟨.len 1 (.l 1), none, none⟩,
 ⟨.bin .lss (.l 0) (.l 2), some 1, none⟩] none)
 (.cond (.s 1) .skip
 (.exit 0)))
 (.seq (.block 1 (.seq (.reg [⟨.mov (.c (.i .i64 0)), some 19, none⟩] none)
 (.block 2 (.loop v8l1))))
 (.reg [⟨.mov (.s 17), none, none⟩,
 ⟨.bin .add (.l 0) (.c (.i .i64 1)), none, none⟩,
 ⟨.mov (.l 1), some 17, none⟩] none)))
def v8 : VFunc :=
 ⟨0, 24, [.s 0],
 (.seq (.reg [⟨.mov (.c (.b false)), some 0, none⟩] none)
 (.seq (.reg [⟨.bsl 1 19 [(.i .i64 0)] [(0, (.c (.i .i64 (-9223372036854775808)))), (1, (.c (.i .i64 (-9007199254740993)))), (2, (.c (.i .i64 (-9007199254740992)))), (3, (.c (.i .i64 (-1)))), (4, (.c (.i .i64 0))), (5, (.c (.i .i64 1))), (6, (.c (.i .i64 1099511627776))), (7, (.c (.i .i64 1099511627777))), (8, (.c (.i .i64 9007199254740992))), (9, (.c (.i .i64 9007199254740993))), (10, (.c (.i .i64 9223372036854775807))), (11, (.c (.i .i64 1899))), (12, (.c (.i .i64 1900))), (13, (.c (.i .i64 2079))), (14, (.c (.i .i64 2080))), (15, (.c (.i .i64 1499))), (16, (.c (.i .i64 1500))), (17, (.c (.i .i64 1511))), (18, (.c (.i .i64 1512)))] true, none, none⟩,
 ⟨.mov (.l 0), some 18, none⟩] none)
 (.seq (.seq (.reg [⟨.mov (.c (.i .i64 0)), some 17, none⟩] none)
 (.block 0 (.loop v8l2)))
 (.seq (.reg [⟨.mov (.c (.b true)), some 0, none⟩] none)
 .ret)))), true, false, none⟩

def tm8 : List Nat := [0, 12, 16, 20, 37, 41, 45, 49, 53, 57, 61, 65, 72, 79, 86, 94, 149, 2, 1, 3, 4, 31, 7, 5]
def bs8 : List Nat := [23]

-- annuitant/state.Read
def v10 : VFunc :=
 ⟨1, 9, [.bx 1 8 true, .s 2],
 (.seq (.reg [⟨.lal [(.i .i64 0), (.i .i64 0), (.i .i64 0), .nil, (.i .i64 0), (.i .i64 0), (.i .i64 0), (.i .i64 0)], some 1, none⟩,
 ⟨.mov (.c (.i .i64 0)), some 2, none⟩] none)
 (.seq (.reg [⟨.mov (.s 0), none, none⟩,
 ⟨.call 19 [(.l 0)], none, none⟩,
 ⟨.mov (.l 1), none, none⟩,
 ⟨.ext (.l 2) 0, none, none⟩,
 ⟨.ext (.l 2) 1, none, none⟩,
 ⟨.lal [(.i .i64 0), (.i .i64 0), (.i .i64 0), .nil, (.i .i64 0), (.i .i64 0), (.i .i64 0), (.i .i64 0)], some 6, none⟩,
 ⟨.lst (.sl 6) (.l 3) 8, none, none⟩,
 ⟨.mov (.l 4), some 5, none⟩] none)
 (.seq (.seq (.reg [⟨.mov (.s 5), none, none⟩,
 ⟨.un .not (.l 0), some 3, none⟩] none)
 (.cond (.s 3) (.seq (.reg [⟨.agc [(.i .i64 0), (.i .i64 0), (.i .i64 0), .nil, (.i .i64 0), (.i .i64 0), (.i .i64 0), (.i .i64 0)] [], none, none⟩,
 ⟨.lst (.sl 1) (.l 0) 8, none, none⟩,
 ⟨.mov (.c (.i .i64 390)), some 2, none⟩] none)
 .ret)
 .skip))
 (.seq (.seq (.reg [⟨.lld (.sl 6) 8 true, none, none⟩,
 ⟨.call 16 [(.l 0)], none, none⟩,
 ⟨.mov (.l 1), none, none⟩,
 ⟨.ext (.l 2) 0, none, none⟩,
 ⟨.ext (.l 2) 1, none, none⟩,
 ⟨.mov (.l 3), some 8, none⟩,
 ⟨.mov (.l 4), some 7, none⟩] none)
 (.seq (.reg [⟨.mov (.s 7), none, none⟩,
 ⟨.bin .neq (.l 0) (.c (.i .i64 0)), none, none⟩,
 ⟨.mov (.l 1), none, none⟩,
 ⟨.mov (.s 8), none, some ((.l 2), false)⟩,
 ⟨.mov (.s 0), none, some ((.l 2), false)⟩,
 ⟨.bin .neq (.l 3) (.l 4), none, some ((.l 2), false)⟩,
 ⟨.pick (.l 2) (.c (.b true)) (.l 5), some 4, none⟩] none)
 (.cond (.s 4) (.seq (.reg [⟨.agc [(.i .i64 0), (.i .i64 0), (.i .i64 0), .nil, (.i .i64 0), (.i .i64 0), (.i .i64 0), (.i .i64 0)] [], none, none⟩,
 ⟨.lst (.sl 1) (.l 0) 8, none, none⟩,
 ⟨.mov (.c (.i .i64 390)), some 2, none⟩] none)
 .ret)
 .skip)))
 (.seq (.reg [⟨.lld (.sl 6) 8 true, none, none⟩,
 ⟨.lst (.sl 1) (.l 0) 8, none, none⟩,
 ⟨.mov (.c (.i .i64 0)), some 2, none⟩] none)
 .ret))))), true, false, none⟩

def tm10 : List Nat := [0, 2, 3, 14, 27, 5, 4, 7, 6]
def bs10 : List Nat := [1, 6]

-- annuitant/annuitantref39.Read
def v11l0 : VCode :=
 (.seq (.seq (.reg [⟨.mov (.s 9), none, none⟩,
 ⟨.bin .lss (.l 0) (.c (.i .i64 12)), some 4, none⟩] none)
 (.cond (.s 4) .skip
 (.exit 2)))
 (.seq (.block 3 (.seq (.reg [⟨.lfa (.sl 10) 0, none, none⟩,
 ⟨.lld (.lo 0) 1 false, none, none⟩,
 ⟨.bin .geq (.l 1) (.c (.i .i64 1900)), none, none⟩,
 ⟨.mov (.l 2), none, none⟩,
 ⟨.lfa (.sl 10) 0, none, some ((.l 3), true)⟩,
 ⟨.lld (.lo 4) 1 false, none, some ((.l 3), true)⟩,
 ⟨.bin .leq (.l 5) (.c (.i .i64 2079)), none, some ((.l 3), true)⟩,
 ⟨.pick (.l 3) (.l 6) (.c (.b false)), none, none⟩,
 ⟨.mov (.l 7), none, none⟩,
 ⟨.lfa (.sl 10) 0, none, some ((.l 8), true)⟩,
 ⟨.lld (.lo 9) 1 false, none, some ((.l 8), true)⟩,
 ⟨.bin .sub (.l 10) (.c (.i .i64 1900)), none, some ((.l 8), true)⟩,
 ⟨.bin .mul (.c (.i .i64 12)) (.l 11), none, some ((.l 8), true)⟩,
 ⟨.mov (.s 9), none, some ((.l 8), true)⟩,
 ⟨.bin .add (.l 12) (.l 13), none, some ((.l 8), true)⟩,
 ⟨.call 22 [(.l 14)], none, some ((.l 8), true)⟩,
 ⟨.mov (.s 7), none, some ((.l 8), true)⟩,
 ⟨.mov (.s 8), none, some ((.l 8), true)⟩,
 ⟨.bin .add (.l 17) (.c (.i .i64 1)), none, some ((.l 8), true)⟩,
 ⟨.iad (.l 16) (.l 18) 1, none, some ((.l 8), true)⟩,
 ⟨.ld (.l 19) 1 false, none, some ((.l 8), true)⟩,
 ⟨.bin .eql (.l 15) (.l 20), none, some ((.l 8), true)⟩,
 ⟨.pick (.l 8) (.l 21) (.c (.b false)), some 5, none⟩] (some false))
 (.cond (.s 5) (.reg [⟨.lfa (.sl 10) 0, none, none⟩,
 ⟨.lld (.lo 0) 1 false, none, none⟩,
 ⟨.bin .sub (.l 1) (.c (.i .i64 1900)), none, none⟩,
 ⟨.bin .mul (.c (.i .i64 12)) (.l 2), none, none⟩,
 ⟨.mov (.s 9), none, none⟩,
 ⟨.bin .add (.l 3) (.l 4), none, none⟩,
 ⟨.lfa (.sl 11) 0, none, none⟩,
 ⟨.lst (.lo 6) (.l 5) 1, none, none⟩] none)
 .skip)))
 (.reg [⟨.mov (.s 9), none, none⟩,
 ⟨.bin .add (.l 0) (.c (.i .i64 1)), none, none⟩,
 ⟨.mov (.l 1), some 9, none⟩] none)))
def v11l1 : VCode :=
 (.seq (.seq (.reg [⟨.mov (.s 8), none, none⟩,
 ⟨.bin .add (.l 0) (.c (.i .i64 7)), none, none⟩,
 ⟨.mov (.s 7), none, none⟩,
 ⟨.len 1 (.l 2), none, none⟩,
 ⟨.bin .lss (.l 1) (.l 3), none, none⟩,
 ⟨.mov (.l 4), none, none⟩,
 ⟨.mov (.s 7), none, some ((.l 5), true)⟩,
 ⟨.mov (.s 8), none, some ((.l 5), true)⟩,
 ⟨.iad (.l 6) (.l 7) 1, none, some ((.l 5), true)⟩,
 ⟨.ld (.l 8) 1 false, none, some ((.l 5), true)⟩,
 ⟨.bin .eql (.l 9) (.c (.s [109, 111, 110, 116, 104])), none, some ((.l 5), true)⟩,
 ⟨.pick (.l 5) (.l 10) (.c (.b false)), some 3, none⟩] none)
 (.cond (.s 3) .skip
 (.exit 0)))
 (.block 1 (.seq (.reg [⟨.lal [(.i .i64 0), (.i .i64 0), (.i .i64 0), (.i .i64 0)], some 11, none⟩] none)
 (.seq (.seq (.reg [⟨.mov (.c (.i .i64 0)), some 9, none⟩] none)
 (.block 2 (.loop v11l0)))
 (.seq (.reg [⟨.mov (.s 7), none, none⟩,
 ⟨.mov (.s 8), none, none⟩,
 ⟨.bin .add (.l 1) (.c (.i .i64 3)), none, none⟩,
 ⟨.call 21 [(.l 0), (.l 2)], none, none⟩,
 ⟨.lfa (.sl 11) 1, none, none⟩,
 ⟨.lst (.lo 4) (.l 3) 1, none, none⟩] none)
 (.seq (.reg [⟨.mov (.s 7), none, none⟩,
 ⟨.mov (.s 8), none, none⟩,
 ⟨.bin .add (.l 1) (.c (.i .i64 5)), none, none⟩,
 ⟨.call 21 [(.l 0), (.l 2)], none, none⟩,
 ⟨.lfa (.sl 11) 2, none, none⟩,
 ⟨.lst (.lo 4) (.l 3) 1, none, none⟩] none)
 (.seq (.reg [⟨.mov (.s 7), none, none⟩,
 ⟨.mov (.s 8), none, none⟩,
 ⟨.bin .add (.l 1) (.c (.i .i64 7)), none, none⟩,
 ⟨.call 21 [(.l 0), (.l 2)], none, none⟩,
 ⟨.lfa (.sl 11) 3, none, none⟩,
 ⟨.lst (.lo 4) (.l 3) 1, none, none⟩] none)
 (.seq (.reg [⟨.lfa (.sl 10) 3, none, none⟩,
 ⟨.lld (.lo 0) 1 false, none, none⟩,
 ⟨.lld (.sl 11) 4 true, none, none⟩,
 ⟨.bsv 4 1 [(.i .i64 0), (.i .i64 0), (.i .i64 0), (.i .i64 0)] [(0, (.l 2))], none, none⟩,
 ⟨.app (.l 1) (.l 3) 4 32 true, none, none⟩,
 ⟨.lfa (.sl 10) 3, none, none⟩,
 ⟨.lst (.lo 5) (.l 4) 1, none, none⟩] none)
 (.reg [⟨.mov (.s 8), none, none⟩,
 ⟨.bin .add (.l 0) (.c (.i .i64 8)), none, none⟩,
 ⟨.mov (.l 1), some 8, none⟩] none)))))))))
def v11 : VFunc :=
 ⟨1, 12, [.bx 1 8 true, .s 2],
 (.seq (.reg [⟨.lal [(.i .i64 0), (.i .i64 0), (.i .i64 0), .nil, (.i .i64 0), (.i .i64 0), (.i .i64 0), (.i .i64 0)], some 1, none⟩,
 ⟨.mov (.c (.i .i64 0)), some 2, none⟩] none)
 (.seq (.reg [⟨.mov (.s 0), none, none⟩,
 ⟨.call 20 [(.l 0)], none, none⟩,
 ⟨.mov (.l 1), some 7, none⟩] none)
 (.seq (.reg [⟨.mov (.s 7), none, none⟩,
 ⟨.call 21 [(.l 0), (.c (.i .i64 1))], none, none⟩,
 ⟨.mov (.s 7), none, none⟩,
 ⟨.call 21 [(.l 2), (.c (.i .i64 3))], none, none⟩,
 ⟨.agc [(.i .i64 0), (.i .i64 0), (.i .i64 0), .nil, (.i .i64 0), (.i .i64 0), (.i .i64 0), (.i .i64 0)] [(0, 1, (.l 1)), (1, 1, (.l 3))], none, none⟩,
 ⟨.lal [(.i .i64 0), (.i .i64 0), (.i .i64 0), .nil, (.i .i64 0), (.i .i64 0), (.i .i64 0), (.i .i64 0)], some 10, none⟩,
 ⟨.lst (.sl 10) (.l 4) 8, none, none⟩] none)
 (.seq (.reg [⟨.mov (.c (.i .i64 4)), some 8, none⟩] none)
 (.seq (.block 0 (.loop v11l1))
 (.seq (.reg [⟨.mov (.s 7), none, none⟩,
 ⟨.mov (.s 8), none, none⟩,
 ⟨.bin .add (.l 1) (.c (.i .i64 1)), none, none⟩,
 ⟨.call 21 [(.l 0), (.l 2)], none, none⟩,
 ⟨.lfa (.sl 10) 4, none, none⟩,
 ⟨.lst (.lo 4) (.l 3) 1, none, none⟩] none)
 (.seq (.reg [⟨.mov (.s 7), none, none⟩,
 ⟨.mov (.s 8), none, none⟩,
 ⟨.bin .add (.l 1) (.c (.i .i64 3)), none, none⟩,
 ⟨.call 21 [(.l 0), (.l 2)], none, none⟩,
 ⟨.lfa (.sl 10) 5, none, none⟩,
 ⟨.lst (.lo 4) (.l 3) 1, none, none⟩] none)
 (.seq (.reg [⟨.mov (.s 7), none, none⟩,
 ⟨.mov (.s 8), none, none⟩,
 ⟨.bin .add (.l 1) (.c (.i .i64 5)), none, none⟩,
 ⟨.call 21 [(.l 0), (.l 2)], none, none⟩,
 ⟨.lfa (.sl 10) 6, none, none⟩,
 ⟨.lst (.lo 4) (.l 3) 1, none, none⟩] none)
 (.seq (.reg [⟨.mov (.s 7), none, none⟩,
 ⟨.mov (.s 8), none, none⟩,
 ⟨.bin .add (.l 1) (.c (.i .i64 7)), none, none⟩,
 ⟨.call 21 [(.l 0), (.l 2)], none, none⟩,
 ⟨.lfa (.sl 10) 7, none, none⟩,
 ⟨.lst (.lo 4) (.l 3) 1, none, none⟩] none)
 (.seq (.reg [⟨.mov (.s 7), none, none⟩,
 ⟨.mov (.s 8), none, none⟩,
 ⟨.bin .add (.l 1) (.c (.i .i64 9)), none, none⟩,
 ⟨.call 21 [(.l 0), (.l 2)], none, none⟩,
 ⟨.lfa (.sl 10) 2, none, none⟩,
 ⟨.lst (.lo 4) (.l 3) 1, none, none⟩] none)
 (.seq (.seq (.reg [⟨.lld (.sl 10) 8 true, none, none⟩,
 ⟨.call 23 [(.l 0)], none, none⟩,
 ⟨.un .not (.l 1), none, none⟩,
 ⟨.mov (.l 2), none, none⟩,
 ⟨.lld (.sl 10) 8 true, none, some ((.l 3), false)⟩,
 ⟨.call 24 [(.l 4)], none, some ((.l 3), false)⟩,
 ⟨.mov (.s 0), none, some ((.l 3), false)⟩,
 ⟨.bin .neq (.l 5) (.l 6), none, some ((.l 3), false)⟩,
 ⟨.pick (.l 3) (.c (.b true)) (.l 7), some 6, none⟩] none)
 (.cond (.s 6) (.seq (.reg [⟨.agc [(.i .i64 0), (.i .i64 0), (.i .i64 0), .nil, (.i .i64 0), (.i .i64 0), (.i .i64 0), (.i .i64 0)] [], none, none⟩,
 ⟨.lst (.sl 1) (.l 0) 8, none, none⟩,
 ⟨.mov (.c (.i .i64 390)), some 2, none⟩] none)
 .ret)
 .skip))
 (.seq (.reg [⟨.lld (.sl 10) 8 true, none, none⟩,
 ⟨.lst (.sl 1) (.l 0) 8, none, none⟩,
 ⟨.mov (.c (.i .i64 0)), some 2, none⟩] none)
 .ret)))))))))))), true, false, none⟩

def tm11 : List Nat := [0, 2, 3, 27, 29, 54, 118, 4, 6, 8, 5, 7]
def bs11 : List Nat := [1, 10, 11]

-- annuitant/annuitantlaw39.Same
def v12l0 : VCode :=
 (.seq (.seq (.reg [⟨.mov (.s 8), none, none⟩,
 ⟨.lfa (.sl 6) 3, none, none⟩,
 ⟨.lld (.lo 1) 1 false, none, none⟩,
 ⟨.len 1 (.l 2), none, none⟩,
 ⟨.bin .lss (.l 0) (.l 3), some 4, none⟩] none)
 (.cond (.s 4) .skip
 (.exit 0)))
 (.seq (.block 1 (.seq (.reg [⟨.lfa (.sl 6) 3, none, none⟩,
 ⟨.lld (.lo 0) 1 false, none, none⟩,
 ⟨.mov (.s 8), none, none⟩,
 ⟨.iad (.l 1) (.l 2) 4, none, none⟩,
 ⟨.ld (.l 3) 4 true, none, none⟩,
 ⟨.lfa (.sl 7) 3, none, none⟩,
 ⟨.lld (.lo 5) 1 false, none, none⟩,
 ⟨.mov (.s 8), none, none⟩,
 ⟨.iad (.l 6) (.l 7) 4, none, none⟩,
 ⟨.ld (.l 8) 4 true, none, none⟩,
 ⟨.eqv true (.st [1, 1, 1, 1]) (.l 4) (.l 9), some 5, none⟩] (some false))
 (.cond (.s 5) (.seq (.reg [⟨.mov (.c (.b false)), some 2, none⟩] none)
 .ret)
 .skip)))
 (.reg [⟨.mov (.s 8), none, none⟩,
 ⟨.bin .add (.l 0) (.c (.i .i64 1)), none, none⟩,
 ⟨.mov (.l 1), some 8, none⟩] none)))
def v12 : VFunc :=
 ⟨2, 9, [.s 2],
 (.seq (.reg [⟨.lbx (.s 0) 8, some 6, none⟩,
 ⟨.lbx (.s 1) 8, some 7, none⟩,
 ⟨.mov (.c (.b false)), some 2, none⟩] none)
 (.seq (.seq (.reg [⟨.lfa (.sl 6) 0, none, none⟩,
 ⟨.lld (.lo 0) 1 false, none, none⟩,
 ⟨.lfa (.sl 7) 0, none, none⟩,
 ⟨.lld (.lo 2) 1 false, none, none⟩,
 ⟨.bin .neq (.l 1) (.l 3), none, none⟩,
 ⟨.mov (.l 4), none, none⟩,
 ⟨.lfa (.sl 6) 1, none, some ((.l 5), false)⟩,
 ⟨.lld (.lo 6) 1 false, none, some ((.l 5), false)⟩,
 ⟨.lfa (.sl 7) 1, none, some ((.l 5), false)⟩,
 ⟨.lld (.lo 8) 1 false, none, some ((.l 5), false)⟩,
 ⟨.bin .neq (.l 7) (.l 9), none, some ((.l 5), false)⟩,
 ⟨.pick (.l 5) (.c (.b true)) (.l 10), none, none⟩,
 ⟨.mov (.l 11), none, none⟩,
 ⟨.lfa (.sl 6) 2, none, some ((.l 12), false)⟩,
 ⟨.lld (.lo 13) 1 false, none, some ((.l 12), false)⟩,
 ⟨.lfa (.sl 7) 2, none, some ((.l 12), false)⟩,
 ⟨.lld (.lo 15) 1 false, none, some ((.l 12), false)⟩,
 ⟨.bin .neq (.l 14) (.l 16), none, some ((.l 12), false)⟩,
 ⟨.pick (.l 12) (.c (.b true)) (.l 17), none, none⟩,
 ⟨.mov (.l 18), none, none⟩,
 ⟨.lfa (.sl 6) 4, none, some ((.l 19), false)⟩,
 ⟨.lld (.lo 20) 1 false, none, some ((.l 19), false)⟩,
 ⟨.lfa (.sl 7) 4, none, some ((.l 19), false)⟩,
 ⟨.lld (.lo 22) 1 false, none, some ((.l 19), false)⟩,
 ⟨.bin .neq (.l 21) (.l 23), none, some ((.l 19), false)⟩,
 ⟨.pick (.l 19) (.c (.b true)) (.l 24), none, none⟩,
 ⟨.mov (.l 25), none, none⟩,
 ⟨.lfa (.sl 6) 5, none, some ((.l 26), false)⟩,
 ⟨.lld (.lo 27) 1 false, none, some ((.l 26), false)⟩,
 ⟨.lfa (.sl 7) 5, none, some ((.l 26), false)⟩,
 ⟨.lld (.lo 29) 1 false, none, some ((.l 26), false)⟩,
 ⟨.bin .neq (.l 28) (.l 30), none, some ((.l 26), false)⟩,
 ⟨.pick (.l 26) (.c (.b true)) (.l 31), none, none⟩,
 ⟨.mov (.l 32), none, none⟩,
 ⟨.lfa (.sl 6) 6, none, some ((.l 33), false)⟩,
 ⟨.lld (.lo 34) 1 false, none, some ((.l 33), false)⟩,
 ⟨.lfa (.sl 7) 6, none, some ((.l 33), false)⟩,
 ⟨.lld (.lo 36) 1 false, none, some ((.l 33), false)⟩,
 ⟨.bin .neq (.l 35) (.l 37), none, some ((.l 33), false)⟩,
 ⟨.pick (.l 33) (.c (.b true)) (.l 38), none, none⟩,
 ⟨.mov (.l 39), none, none⟩,
 ⟨.lfa (.sl 6) 7, none, some ((.l 40), false)⟩,
 ⟨.lld (.lo 41) 1 false, none, some ((.l 40), false)⟩,
 ⟨.lfa (.sl 7) 7, none, some ((.l 40), false)⟩,
 ⟨.lld (.lo 43) 1 false, none, some ((.l 40), false)⟩,
 ⟨.bin .neq (.l 42) (.l 44), none, some ((.l 40), false)⟩,
 ⟨.pick (.l 40) (.c (.b true)) (.l 45), none, none⟩,
 ⟨.mov (.l 46), none, none⟩,
 ⟨.lfa (.sl 6) 3, none, some ((.l 47), false)⟩,
 ⟨.lld (.lo 48) 1 false, none, some ((.l 47), false)⟩,
 ⟨.len 1 (.l 49), none, some ((.l 47), false)⟩,
 ⟨.lfa (.sl 7) 3, none, some ((.l 47), false)⟩,
 ⟨.lld (.lo 51) 1 false, none, some ((.l 47), false)⟩,
 ⟨.len 1 (.l 52), none, some ((.l 47), false)⟩,
 ⟨.bin .neq (.l 50) (.l 53), none, some ((.l 47), false)⟩,
 ⟨.pick (.l 47) (.c (.b true)) (.l 54), some 3, none⟩] none)
 (.cond (.s 3) (.seq (.reg [⟨.mov (.c (.b false)), some 2, none⟩] none)
 .ret)
 .skip))
 (.seq (.seq (.reg [⟨.mov (.c (.i .i64 0)), some 8, none⟩] none)
 (.block 0 (.loop v12l0)))
 (.seq (.reg [⟨.mov (.c (.b true)), some 2, none⟩] none)
 .ret)))), true, false, none⟩

def tm12 : List Nat := [0, 1, 4, 61, 66, 79, 2, 3, 5]
def bs12 : List Nat := [6, 7]

-- annuitant/annuitantlaw39.taken
def v13l0 : VCode :=
 (.seq (.seq (.reg [⟨.mov (.s 4), none, none⟩,
 ⟨.lfa (.sl 3) 3, none, none⟩,
 ⟨.lld (.lo 1) 1 false, none, none⟩,
 ⟨.len 1 (.l 2), none, none⟩,
 ⟨.bin .lss (.l 0) (.l 3), some 2, none⟩] none)
 (.cond (.s 2) .skip
 (.exit 0)))
 (.seq (.block 1 (.reg [⟨.lfa (.sl 5) 3, none, none⟩,
 ⟨.lld (.lo 0) 1 false, none, none⟩,
 ⟨.lfa (.sl 3) 3, none, none⟩,
 ⟨.lld (.lo 2) 1 false, none, none⟩,
 ⟨.mov (.s 4), none, none⟩,
 ⟨.iad (.l 3) (.l 4) 4, none, none⟩,
 ⟨.fad (.l 5) 0, none, none⟩,
 ⟨.ld (.l 6) 1 false, none, none⟩,
 ⟨.lfa (.sl 3) 3, none, none⟩,
 ⟨.lld (.lo 8) 1 false, none, none⟩,
 ⟨.mov (.s 4), none, none⟩,
 ⟨.iad (.l 9) (.l 10) 4, none, none⟩,
 ⟨.fad (.l 11) 1, none, none⟩,
 ⟨.ld (.l 12) 1 false, none, none⟩,
 ⟨.lfa (.sl 3) 3, none, none⟩,
 ⟨.lld (.lo 14) 1 false, none, none⟩,
 ⟨.mov (.s 4), none, none⟩,
 ⟨.iad (.l 15) (.l 16) 4, none, none⟩,
 ⟨.fad (.l 17) 2, none, none⟩,
 ⟨.ld (.l 18) 1 false, none, none⟩,
 ⟨.lfa (.sl 3) 3, none, none⟩,
 ⟨.lld (.lo 20) 1 false, none, none⟩,
 ⟨.mov (.s 4), none, none⟩,
 ⟨.iad (.l 21) (.l 22) 4, none, none⟩,
 ⟨.fad (.l 23) 3, none, none⟩,
 ⟨.ld (.l 24) 1 false, none, none⟩,
 ⟨.agc [(.i .i64 0), (.i .i64 0), (.i .i64 0), (.i .i64 0)] [(0, 1, (.l 7)), (1, 1, (.l 13)), (2, 1, (.l 19)), (3, 1, (.l 25))], none, none⟩,
 ⟨.bsv 4 1 [(.i .i64 0), (.i .i64 0), (.i .i64 0), (.i .i64 0)] [(0, (.l 26))], none, none⟩,
 ⟨.app (.l 1) (.l 27) 4 32 true, none, none⟩,
 ⟨.lfa (.sl 5) 3, none, none⟩,
 ⟨.lst (.lo 29) (.l 28) 1, none, none⟩] (some false)))
 (.reg [⟨.mov (.s 4), none, none⟩,
 ⟨.bin .add (.l 0) (.c (.i .i64 1)), none, none⟩,
 ⟨.mov (.l 1), some 4, none⟩] none)))
def v13 : VFunc :=
 ⟨1, 6, [.bx 1 8 true],
 (.seq (.reg [⟨.lbx (.s 0) 8, some 3, none⟩,
 ⟨.lal [(.i .i64 0), (.i .i64 0), (.i .i64 0), .nil, (.i .i64 0), (.i .i64 0), (.i .i64 0), (.i .i64 0)], some 1, none⟩] none)
 (.seq (.reg [⟨.lfa (.sl 3) 0, none, none⟩,
 ⟨.lld (.lo 0) 1 false, none, none⟩,
 ⟨.lfa (.sl 3) 1, none, none⟩,
 ⟨.lld (.lo 2) 1 false, none, none⟩,
 ⟨.lfa (.sl 3) 2, none, none⟩,
 ⟨.lld (.lo 4) 1 false, none, none⟩,
 ⟨.lfa (.sl 3) 4, none, none⟩,
 ⟨.lld (.lo 6) 1 false, none, none⟩,
 ⟨.lfa (.sl 3) 5, none, none⟩,
 ⟨.lld (.lo 8) 1 false, none, none⟩,
 ⟨.lfa (.sl 3) 6, none, none⟩,
 ⟨.lld (.lo 10) 1 false, none, none⟩,
 ⟨.lfa (.sl 3) 7, none, none⟩,
 ⟨.lld (.lo 12) 1 false, none, none⟩,
 ⟨.agc [(.i .i64 0), (.i .i64 0), (.i .i64 0), .nil, (.i .i64 0), (.i .i64 0), (.i .i64 0), (.i .i64 0)] [(0, 1, (.l 1)), (1, 1, (.l 3)), (2, 1, (.l 5)), (4, 1, (.l 7)), (5, 1, (.l 9)), (6, 1, (.l 11)), (7, 1, (.l 13))], none, none⟩,
 ⟨.lal [(.i .i64 0), (.i .i64 0), (.i .i64 0), .nil, (.i .i64 0), (.i .i64 0), (.i .i64 0), (.i .i64 0)], some 5, none⟩,
 ⟨.lst (.sl 5) (.l 14) 8, none, none⟩] none)
 (.seq (.seq (.reg [⟨.mov (.c (.i .i64 0)), some 4, none⟩] none)
 (.block 0 (.loop v13l0)))
 (.seq (.reg [⟨.lld (.sl 5) 8 true, none, none⟩,
 ⟨.lst (.sl 1) (.l 0) 8, none, none⟩] none)
 .ret)))), true, true, none⟩

def tm13 : List Nat := [0, 2, 24, 1, 4, 3]
def bs13 : List Nat := [1, 3, 5]

-- annuitant/state.Make
def v14l0 : VCode :=
 (.seq (.seq (.reg [⟨.mov (.s 15), none, none⟩,
 ⟨.mov (.s 13), none, none⟩,
 ⟨.bin .add (.l 1) (.c (.i .i64 12)), none, none⟩,
 ⟨.fad (.s 11) 0, none, none⟩,
 ⟨.fad (.l 3) 0, none, none⟩,
 ⟨.ld (.l 4) 1 false, none, none⟩,
 ⟨.fad (.s 11) 0, none, none⟩,
 ⟨.fad (.l 6) 1, none, none⟩,
 ⟨.ld (.l 7) 1 false, none, none⟩,
 ⟨.len 1 (.l 8), none, none⟩,
 ⟨.bin .add (.l 5) (.l 9), none, none⟩,
 ⟨.mn [(.l 2), (.l 10)], none, none⟩,
 ⟨.bin .lss (.l 0) (.l 11), some 7, none⟩] none)
 (.cond (.s 7) .skip
 (.exit 0)))
 (.seq (.block 1 (.seq (.reg [⟨.fad (.s 11) 0, none, none⟩,
 ⟨.ld (.l 0) 3 true, none, none⟩,
 ⟨.mov (.s 15), none, none⟩,
 ⟨.call 28 [(.l 1), (.l 2)], none, none⟩,
 ⟨.mov (.l 3), none, none⟩,
 ⟨.ext (.l 4) 0, none, none⟩,
 ⟨.ext (.l 4) 1, none, none⟩,
 ⟨.mov (.l 5), some 18, none⟩,
 ⟨.mov (.l 6), some 16, none⟩] none)
 (.seq (.seq (.reg [⟨.mov (.s 16), none, none⟩,
 ⟨.bin .neq (.l 0) (.c (.i .i64 0)), some 8, none⟩] none)
 (.cond (.s 8) (.seq (.reg [⟨.agc [(.i .i64 0), (.i .i64 0), (.i .i64 0), .nil, (.i .i64 0), (.i .i64 0), (.i .i64 0), (.i .i64 0)] [], none, none⟩,
 ⟨.mov (.s 16), none, none⟩,
 ⟨.lst (.sl 2) (.l 0) 8, none, none⟩,
 ⟨.mov (.l 1), some 3, none⟩] none)
 .ret)
 .skip))
 (.seq (.reg [⟨.fad (.s 11) 0, none, none⟩,
 ⟨.fad (.l 0) 1, none, none⟩,
 ⟨.ld (.l 1) 1 false, none, none⟩,
 ⟨.mov (.s 15), none, none⟩,
 ⟨.fad (.s 11) 0, none, none⟩,
 ⟨.fad (.l 4) 0, none, none⟩,
 ⟨.ld (.l 5) 1 false, none, none⟩,
 ⟨.bin .sub (.l 3) (.l 6), none, none⟩,
 ⟨.iad (.l 2) (.l 7) 1, none, none⟩,
 ⟨.ld (.l 8) 1 false, none, none⟩,
 ⟨.mov (.l 9), some 17, none⟩] none)
 (.reg [⟨.lfa (.sl 14) 3, none, none⟩,
 ⟨.lld (.lo 0) 1 false, none, none⟩,
 ⟨.mov (.s 15), none, none⟩,
 ⟨.mov (.s 17), none, none⟩,
 ⟨.mov (.s 18), none, none⟩,
 ⟨.mov (.s 17), none, none⟩,
 ⟨.mov (.s 18), none, none⟩,
 ⟨.bin .sub (.l 5) (.l 6), none, none⟩,
 ⟨.agc [(.i .i64 0), (.i .i64 0), (.i .i64 0), (.i .i64 0)] [(0, 1, (.l 2)), (1, 1, (.l 3)), (2, 1, (.l 4)), (3, 1, (.l 7))], none, none⟩,
 ⟨.bsv 4 1 [(.i .i64 0), (.i .i64 0), (.i .i64 0), (.i .i64 0)] [(0, (.l 8))], none, none⟩,
 ⟨.app (.l 1) (.l 9) 4 32 true, none, none⟩,
 ⟨.lfa (.sl 14) 3, none, none⟩,
 ⟨.lst (.lo 11) (.l 10) 1, none, none⟩] none)))))
 (.reg [⟨.mov (.s 15), none, none⟩,
 ⟨.bin .add (.l 0) (.c (.i .i64 1)), none, none⟩,
 ⟨.mov (.l 1), some 15, none⟩] none)))
def v14l1 : VCode :=
 (.seq (.reg [⟨.bin .lss (.s 20) (.s 21), some 9, none⟩] none)
 (.seq (.cond (.s 9) .skip
 (.exit 2))
 (.seq (.block 3 (.seq (.reg [⟨.iad (.s 22) (.s 20) 10, none, none⟩,
 ⟨.ld (.l 0) 10 true, none, none⟩,
 ⟨.lal [(.i .i64 0), (.i .i64 0), (.i .i64 0), (.i .i64 0), (.i .i64 0), (.i .i64 0), (.i .i64 0), (.i .i64 0), (.i .i64 0), (.b false)], some 23, none⟩,
 ⟨.lst (.sl 23) (.l 1) 10, none, none⟩] none)
 (.seq (.reg [⟨.lfa (.sl 23) 9, none, none⟩,
 ⟨.lld (.lo 0) 1 false, none, none⟩,
 ⟨.un .not (.l 1), none, none⟩,
 ⟨.mov (.l 2), none, none⟩,
 ⟨.lfa (.sl 23) 0, none, some ((.l 3), true)⟩,
 ⟨.lld (.lo 4) 1 false, none, some ((.l 3), true)⟩,
 ⟨.call 29 [(.l 5)], none, some ((.l 3), true)⟩,
 ⟨.mov (.s 1), none, some ((.l 3), true)⟩,
 ⟨.bin .eql (.l 6) (.l 7), none, some ((.l 3), true)⟩,
 ⟨.pick (.l 3) (.l 8) (.c (.b false)), some 10, none⟩] none)
 (.cond (.s 10) (.reg [⟨.mov (.s 19), none, none⟩,
 ⟨.lld (.sl 23) 10 true, none, none⟩,
 ⟨.bsv 10 1 [(.i .i64 0), (.i .i64 0), (.i .i64 0), (.i .i64 0), (.i .i64 0), (.i .i64 0), (.i .i64 0), (.i .i64 0), (.i .i64 0), (.b false)] [(0, (.l 1))], none, none⟩,
 ⟨.app (.l 0) (.l 2) 10 80 true, none, none⟩,
 ⟨.mov (.l 3), some 19, none⟩] none)
 .skip))))
 (.reg [⟨.bin .add (.s 20) (.c (.i .i64 1)), none, none⟩,
 ⟨.mov (.l 0), some 20, none⟩] none))))
def v14 : VFunc :=
 ⟨2, 24, [.bx 2 8 true, .s 3],
 (.seq (.reg [⟨.hbx 48 (.s 0) 7, some 11, none⟩,
 ⟨.lal [(.i .i64 0), (.i .i64 0), (.i .i64 0), .nil, (.i .i64 0), (.i .i64 0), (.i .i64 0), (.i .i64 0)], some 2, none⟩,
 ⟨.mov (.c (.i .i64 0)), some 3, none⟩] none)
 (.seq (.seq (.reg [⟨.ld (.s 11) 7 true, none, none⟩,
 ⟨.call 25 [(.l 0)], none, none⟩,
 ⟨.un .not (.l 1), none, none⟩,
 ⟨.mov (.l 2), none, none⟩,
 ⟨.mov (.s 1), none, some ((.l 3), false)⟩,
 ⟨.call 26 [(.l 4)], none, some ((.l 3), false)⟩,
 ⟨.un .not (.l 5), none, some ((.l 3), false)⟩,
 ⟨.pick (.l 3) (.c (.b true)) (.l 6), some 4, none⟩] none)
 (.cond (.s 4) (.seq (.reg [⟨.agc [(.i .i64 0), (.i .i64 0), (.i .i64 0), .nil, (.i .i64 0), (.i .i64 0), (.i .i64 0), (.i .i64 0)] [], none, none⟩,
 ⟨.lst (.sl 2) (.l 0) 8, none, none⟩,
 ⟨.mov (.c (.i .i64 2)), some 3, none⟩] none)
 .ret)
 .skip))
 (.seq (.reg [⟨.mov (.s 1), none, none⟩,
 ⟨.bin .sub (.l 0) (.c (.i .i64 1900)), none, none⟩,
 ⟨.bin .mul (.c (.i .i64 12)) (.l 1), none, none⟩,
 ⟨.mov (.l 2), some 13, none⟩] none)
 (.seq (.reg [⟨.mov (.s 1), none, none⟩,
 ⟨.agc [(.i .i64 0), (.i .i64 0), (.i .i64 0), .nil, (.i .i64 0), (.i .i64 0), (.i .i64 0), (.i .i64 0)] [(0, 1, (.l 0))], none, none⟩,
 ⟨.lal [(.i .i64 0), (.i .i64 0), (.i .i64 0), .nil, (.i .i64 0), (.i .i64 0), (.i .i64 0), (.i .i64 0)], some 14, none⟩,
 ⟨.lst (.sl 14) (.l 1) 8, none, none⟩] none)
 (.seq (.reg [⟨.mov (.c (.i .i64 0)), some 12, none⟩] none)
 (.seq (.seq (.reg [⟨.fad (.s 11) 0, none, none⟩,
 ⟨.ld (.l 0) 3 true, none, none⟩,
 ⟨.mov (.s 13), none, none⟩,
 ⟨.call 27 [(.l 1), (.l 2)], none, none⟩,
 ⟨.mov (.l 3), none, none⟩,
 ⟨.ext (.l 4) 0, none, none⟩,
 ⟨.ext (.l 4) 1, none, none⟩,
 ⟨.lfa (.sl 14) 1, none, none⟩,
 ⟨.lst (.lo 7) (.l 5) 1, none, none⟩,
 ⟨.mov (.l 6), some 12, none⟩] none)
 (.seq (.reg [⟨.mov (.s 12), none, none⟩,
 ⟨.bin .neq (.l 0) (.c (.i .i64 0)), some 5, none⟩] none)
 (.cond (.s 5) (.seq (.reg [⟨.agc [(.i .i64 0), (.i .i64 0), (.i .i64 0), .nil, (.i .i64 0), (.i .i64 0), (.i .i64 0), (.i .i64 0)] [], none, none⟩,
 ⟨.mov (.s 12), none, none⟩,
 ⟨.lst (.sl 2) (.l 0) 8, none, none⟩,
 ⟨.mov (.l 1), some 3, none⟩] none)
 .ret)
 .skip)))
 (.seq (.seq (.reg [⟨.fad (.s 11) 0, none, none⟩,
 ⟨.ld (.l 0) 3 true, none, none⟩,
 ⟨.mov (.s 13), none, none⟩,
 ⟨.bin .add (.l 2) (.c (.i .i64 12)), none, none⟩,
 ⟨.call 27 [(.l 1), (.l 3)], none, none⟩,
 ⟨.mov (.l 4), none, none⟩,
 ⟨.ext (.l 5) 0, none, none⟩,
 ⟨.ext (.l 5) 1, none, none⟩,
 ⟨.lfa (.sl 14) 2, none, none⟩,
 ⟨.lst (.lo 8) (.l 6) 1, none, none⟩,
 ⟨.mov (.l 7), some 12, none⟩] none)
 (.seq (.reg [⟨.mov (.s 12), none, none⟩,
 ⟨.bin .neq (.l 0) (.c (.i .i64 0)), some 6, none⟩] none)
 (.cond (.s 6) (.seq (.reg [⟨.agc [(.i .i64 0), (.i .i64 0), (.i .i64 0), .nil, (.i .i64 0), (.i .i64 0), (.i .i64 0), (.i .i64 0)] [], none, none⟩,
 ⟨.mov (.s 12), none, none⟩,
 ⟨.lst (.sl 2) (.l 0) 8, none, none⟩,
 ⟨.mov (.l 1), some 3, none⟩] none)
 .ret)
 .skip)))
 (.seq (.seq (.reg [⟨.mov (.s 13), none, none⟩,
 ⟨.fad (.s 11) 0, none, none⟩,
 ⟨.fad (.l 1) 0, none, none⟩,
 ⟨.ld (.l 2) 1 false, none, none⟩,
 ⟨.mx [(.l 0), (.l 3)], none, none⟩,
 ⟨.mov (.l 4), some 15, none⟩] none)
 (.block 0 (.loop v14l0)))
 (.seq (.reg [⟨.mov (.c .nil), some 19, none⟩] none)
 (.seq (.seq (.reg [⟨.fad (.s 11) 6, none, none⟩,
 ⟨.ld (.l 0) 1 false, some 22, none⟩,
 ⟨.len 1 (.s 22), some 21, none⟩,
 ⟨.mov (.c (.i .i64 0)), some 20, none⟩] none)
 (.block 2 (.loop v14l1)))
 (.seq (.reg [⟨.mov (.s 19), none, none⟩,
 ⟨.call 30 [(.l 0), (.c (.fn (.func 31) [] []))], none, none⟩,
 ⟨.lfa (.sl 14) 4, none, none⟩,
 ⟨.lst (.lo 2) (.l 1) 1, none, none⟩] none)
 (.seq (.reg [⟨.mov (.s 19), none, none⟩,
 ⟨.call 30 [(.l 0), (.c (.fn (.func 32) [] []))], none, none⟩,
 ⟨.lfa (.sl 14) 5, none, none⟩,
 ⟨.lst (.lo 2) (.l 1) 1, none, none⟩] none)
 (.seq (.reg [⟨.lfa (.sl 14) 4, none, none⟩,
 ⟨.lld (.lo 0) 1 false, none, none⟩,
 ⟨.lfa (.sl 14) 5, none, none⟩,
 ⟨.lld (.lo 2) 1 false, none, none⟩,
 ⟨.bin .sub (.l 1) (.l 3), none, none⟩,
 ⟨.lfa (.sl 14) 6, none, none⟩,
 ⟨.lst (.lo 5) (.l 4) 1, none, none⟩] none)
 (.seq (.reg [⟨.mov (.s 19), none, none⟩,
 ⟨.mkf (.func 33) [] [(.s 11)], none, none⟩,
 ⟨.call 30 [(.l 0), (.l 1)], none, none⟩,
 ⟨.lfa (.sl 14) 7, none, none⟩,
 ⟨.lst (.lo 3) (.l 2) 1, none, none⟩] none)
 (.seq (.reg [⟨.lld (.sl 14) 8 true, none, none⟩,
 ⟨.lst (.sl 2) (.l 0) 8, none, none⟩,
 ⟨.mov (.c (.i .i64 0)), some 3, none⟩] none)
 .ret))))))))))))))), true, false, none⟩

def tm14 : List Nat := [0, 1, 4, 5, 23, 39, 52, 72, 83, 112, 124, 2, 8, 6, 7, 9, 11, 12, 10, 13, 111, 110, 109, 15]
def bs14 : List Nat := [2, 14, 23]

-- annuitant/annuitantlaw39.example
def v15 : VFunc :=
 ⟨0, 1, [.bx 0 7 true],
 (.seq (.reg [⟨.lal [(.i .i64 0), .nil, .nil, (.i .i64 0), (.i .i64 0), (.i .i64 0), .nil], some 0, none⟩] none)
 (.seq (.reg [⟨.bsl 1 2 [(.i .i64 0)] [(0, (.c (.i .i64 100))), (1, (.c (.i .i64 100)))] true, none, none⟩,
 ⟨.agc [(.i .i64 0), (.i .i64 0), (.i .u8 0), (.i .i64 0)] [(0, 1, (.c (.i .i64 10))), (1, 1, (.c (.i .i64 1501))), (2, 1, (.c (.i .u8 1))), (3, 1, (.c (.i .i64 120)))], none, none⟩,
 ⟨.bsl 4 1 [(.i .i64 0), (.i .i64 0), (.i .u8 0), (.i .i64 0)] [(0, (.l 1))] true, none, none⟩,
 ⟨.agc [(.i .i64 0), .nil, .nil] [(0, 1, (.c (.i .i64 1501))), (1, 1, (.l 0)), (2, 1, (.l 2))], none, none⟩,
 ⟨.agc [(.i .i64 0), (.i .i64 0), (.i .i64 0), (.i .i64 0), (.i .i64 0)] [(0, 1, (.c (.i .i64 1))), (1, 1, (.c (.i .i64 7))), (2, 1, (.c (.i .i64 120))), (3, 1, (.c (.i .i64 20))), (4, 1, (.c (.i .i64 100)))], none, none⟩,
 ⟨.agc [(.i .i64 0), (.i .i64 0), (.i .i64 0), (.i .i64 0), (.i .i64 0), (.i .i64 0), (.i .i64 0), (.i .i64 0), (.i .i64 0), (.b false)] [(0, 1, (.c (.i .i64 1501))), (1, 1, (.c (.i .i64 10))), (3, 1, (.c (.i .i64 1))), (4, 5, (.l 4))], none, none⟩,
 ⟨.bsl 10 1 [(.i .i64 0), (.i .i64 0), (.i .i64 0), (.i .i64 0), (.i .i64 0), (.i .i64 0), (.i .i64 0), (.i .i64 0), (.i .i64 0), (.b false)] [(0, (.l 5))] true, none, none⟩,
 ⟨.agc [(.i .i64 0), .nil, .nil, (.i .i64 0), (.i .i64 0), (.i .i64 0), .nil] [(0, 3, (.l 3)), (6, 1, (.l 6))], none, none⟩,
 ⟨.lst (.sl 0) (.l 7) 7, none, none⟩] none)
 .ret)), true, false, none⟩

def tm15 : List Nat := [0]
def bs15 : List Nat := [0]

-- annuitant/state.Text
def v16l0 : VCode :=
 (.seq (.reg [⟨.bin .lss (.s 7) (.s 8), some 4, none⟩] none)
 (.seq (.cond (.s 4) .skip
 (.exit 0))
 (.seq (.block 1 (.seq (.reg [⟨.iad (.s 9) (.s 7) 4, none, none⟩,
 ⟨.ld (.l 0) 4 true, none, none⟩,
 ⟨.lal [(.i .i64 0), (.i .i64 0), (.i .i64 0), (.i .i64 0)], some 10, none⟩,
 ⟨.lst (.sl 10) (.l 1) 4, none, none⟩] none)
 (.reg [⟨.mki 9 (.c (.s [109, 111, 110, 116, 104])), none, none⟩,
 ⟨.lfa (.sl 10) 0, none, none⟩,
 ⟨.lld (.lo 1) 1 false, none, none⟩,
 ⟨.call 39 [(.l 2)], none, none⟩,
 ⟨.mki 9 (.l 3), none, none⟩,
 ⟨.mki 9 (.c (.s [100, 117, 101])), none, none⟩,
 ⟨.lfa (.sl 10) 1, none, none⟩,
 ⟨.lld (.lo 6) 1 false, none, none⟩,
 ⟨.mki 3 (.l 7), none, none⟩,
 ⟨.mki 9 (.c (.s [112, 111, 115, 116, 101, 100])), none, none⟩,
 ⟨.lfa (.sl 10) 2, none, none⟩,
 ⟨.lld (.lo 10) 1 false, none, none⟩,
 ⟨.mki 3 (.l 11), none, none⟩,
 ⟨.mki 9 (.c (.s [111, 112, 101, 110])), none, none⟩,
 ⟨.lfa (.sl 10) 3, none, none⟩,
 ⟨.lld (.lo 14) 1 false, none, none⟩,
 ⟨.mki 3 (.l 15), none, none⟩,
 ⟨.bsv 1 8 [.ni] [(0, (.l 0)), (1, (.l 4)), (2, (.l 5)), (3, (.l 8)), (4, (.l 9)), (5, (.l 12)), (6, (.l 13)), (7, (.l 16))], none, none⟩,
 ⟨.call 38 [(.l 17)], none, none⟩,
 ⟨.call 37 [(.s 6), (.l 18)], none, none⟩] (some false))))
 (.reg [⟨.bin .add (.s 7) (.c (.i .i64 1)), none, none⟩,
 ⟨.mov (.l 0), some 7, none⟩] none))))
def v16 : VFunc :=
 ⟨1, 11, [.s 1, .s 2],
 (.seq (.reg [⟨.lbx (.s 0) 8, some 5, none⟩,
 ⟨.mov (.c (.s [])), some 1, none⟩,
 ⟨.mov (.c (.i .i64 0)), some 2, none⟩] none)
 (.seq (.seq (.reg [⟨.lld (.sl 5) 8 true, none, none⟩,
 ⟨.call 36 [(.l 0)], none, none⟩,
 ⟨.un .not (.l 1), some 3, none⟩] none)
 (.cond (.s 3) (.seq (.reg [⟨.mov (.c (.s [])), some 1, none⟩,
 ⟨.mov (.c (.i .i64 2)), some 2, none⟩] none)
 .ret)
 .skip))
 (.seq (.reg [⟨.hal 81 [.np, .nil], some 6, none⟩] none)
 (.seq (.reg [⟨.mki 9 (.c (.s [115, 116, 97, 116, 101, 109, 101, 110, 116])), none, none⟩,
 ⟨.lfa (.sl 5) 0, none, none⟩,
 ⟨.lld (.lo 1) 1 false, none, none⟩,
 ⟨.mki 3 (.l 2), none, none⟩,
 ⟨.bsv 1 2 [.ni] [(0, (.l 0)), (1, (.l 3))], none, none⟩,
 ⟨.call 38 [(.l 4)], none, none⟩,
 ⟨.call 37 [(.s 6), (.l 5)], none, none⟩] none)
 (.seq (.reg [⟨.mki 9 (.c (.s [98, 101, 102, 111, 114, 101])), none, none⟩,
 ⟨.lfa (.sl 5) 1, none, none⟩,
 ⟨.lld (.lo 1) 1 false, none, none⟩,
 ⟨.mki 3 (.l 2), none, none⟩,
 ⟨.bsv 1 2 [.ni] [(0, (.l 0)), (1, (.l 3))], none, none⟩,
 ⟨.call 38 [(.l 4)], none, none⟩,
 ⟨.call 37 [(.s 6), (.l 5)], none, none⟩] none)
 (.seq (.seq (.reg [⟨.lfa (.sl 5) 3, none, none⟩,
 ⟨.lld (.lo 0) 1 false, some 9, none⟩,
 ⟨.len 1 (.s 9), some 8, none⟩,
 ⟨.mov (.c (.i .i64 0)), some 7, none⟩] none)
 (.block 0 (.loop v16l0)))
 (.seq (.reg [⟨.mki 9 (.c (.s [103, 114, 111, 115, 115])), none, none⟩,
 ⟨.lfa (.sl 5) 4, none, none⟩,
 ⟨.lld (.lo 1) 1 false, none, none⟩,
 ⟨.mki 3 (.l 2), none, none⟩,
 ⟨.mki 9 (.c (.s [116, 97, 120])), none, none⟩,
 ⟨.lfa (.sl 5) 5, none, none⟩,
 ⟨.lld (.lo 5) 1 false, none, none⟩,
 ⟨.mki 3 (.l 6), none, none⟩,
 ⟨.mki 9 (.c (.s [110, 101, 116])), none, none⟩,
 ⟨.lfa (.sl 5) 6, none, none⟩,
 ⟨.lld (.lo 9) 1 false, none, none⟩,
 ⟨.mki 3 (.l 10), none, none⟩,
 ⟨.mki 9 (.c (.s [105, 110, 116, 101, 114, 101, 115, 116])), none, none⟩,
 ⟨.lfa (.sl 5) 7, none, none⟩,
 ⟨.lld (.lo 13) 1 false, none, none⟩,
 ⟨.mki 3 (.l 14), none, none⟩,
 ⟨.bsv 1 8 [.ni] [(0, (.l 0)), (1, (.l 3)), (2, (.l 4)), (3, (.l 7)), (4, (.l 8)), (5, (.l 11)), (6, (.l 12)), (7, (.l 15))], none, none⟩,
 ⟨.call 38 [(.l 16)], none, none⟩,
 ⟨.call 37 [(.s 6), (.l 17)], none, none⟩] none)
 (.seq (.reg [⟨.mki 9 (.c (.s [97, 102, 116, 101, 114])), none, none⟩,
 ⟨.lfa (.sl 5) 2, none, none⟩,
 ⟨.lld (.lo 1) 1 false, none, none⟩,
 ⟨.mki 3 (.l 2), none, none⟩,
 ⟨.bsv 1 2 [.ni] [(0, (.l 0)), (1, (.l 3))], none, none⟩,
 ⟨.call 38 [(.l 4)], none, none⟩,
 ⟨.call 37 [(.s 6), (.l 5)], none, none⟩] none)
 (.seq (.reg [⟨.call 40 [(.s 6)], none, none⟩,
 ⟨.mov (.l 0), some 1, none⟩,
 ⟨.mov (.c (.i .i64 0)), some 2, none⟩] none)
 .ret))))))))), true, false, none⟩

def tm16 : List Nat := [0, 2, 3, 9, 28, 1, 4, 27, 26, 25, 6]
def bs16 : List Nat := [5, 10]

-- annuitant/annuitantlaw39.writes
def v17 : VFunc :=
 ⟨1, 8, [.s 1],
 (.seq (.reg [⟨.lbx (.s 0) 8, some 2, none⟩,
 ⟨.mov (.c (.b false)), some 1, none⟩] none)
 (.seq (.reg [⟨.lld (.sl 2) 8 true, none, none⟩,
 ⟨.call 41 [(.l 0)], none, none⟩,
 ⟨.call 13 [(.l 1)], none, none⟩,
 ⟨.lal [(.i .i64 0), (.i .i64 0), (.i .i64 0), .nil, (.i .i64 0), (.i .i64 0), (.i .i64 0), (.i .i64 0)], some 3, none⟩,
 ⟨.lst (.sl 3) (.l 2) 8, none, none⟩] none)
 (.seq (.reg [⟨.lld (.sl 3) 8 true, none, none⟩,
 ⟨.call 16 [(.l 0)], none, none⟩,
 ⟨.mov (.l 1), none, none⟩,
 ⟨.ext (.l 2) 0, none, none⟩,
 ⟨.ext (.l 2) 1, none, none⟩,
 ⟨.mov (.l 3), some 4, none⟩,
 ⟨.mov (.l 4), some 6, none⟩] none)
 (.seq (.reg [⟨.lld (.sl 2) 8 true, none, none⟩,
 ⟨.call 41 [(.l 0)], none, none⟩,
 ⟨.call 42 [(.l 1)], none, none⟩,
 ⟨.mov (.l 2), none, none⟩,
 ⟨.ext (.l 3) 0, none, none⟩,
 ⟨.ext (.l 3) 1, none, none⟩,
 ⟨.mov (.l 4), some 5, none⟩,
 ⟨.mov (.l 5), some 7, none⟩] none)
 (.seq (.reg [⟨.mov (.s 4), none, none⟩,
 ⟨.mov (.s 5), none, none⟩,
 ⟨.bin .eql (.l 0) (.l 1), none, none⟩,
 ⟨.mov (.l 2), none, none⟩,
 ⟨.mov (.s 6), none, some ((.l 3), true)⟩,
 ⟨.mov (.s 7), none, some ((.l 3), true)⟩,
 ⟨.bin .eql (.l 4) (.l 5), none, some ((.l 3), true)⟩,
 ⟨.pick (.l 3) (.l 6) (.c (.b false)), none, none⟩,
 ⟨.mov (.l 7), none, none⟩,
 ⟨.lld (.sl 3) 8 true, none, some ((.l 8), true)⟩,
 ⟨.call 36 [(.l 9)], none, some ((.l 8), true)⟩,
 ⟨.lld (.sl 2) 8 true, none, some ((.l 8), true)⟩,
 ⟨.call 41 [(.l 11)], none, some ((.l 8), true)⟩,
 ⟨.call 23 [(.l 12)], none, some ((.l 8), true)⟩,
 ⟨.eqv false .b (.l 10) (.l 13), none, some ((.l 8), true)⟩,
 ⟨.pick (.l 8) (.l 14) (.c (.b false)), none, none⟩,
 ⟨.mov (.l 15), none, none⟩,
 ⟨.lld (.sl 3) 8 true, none, some ((.l 16), true)⟩,
 ⟨.lld (.sl 2) 8 true, none, some ((.l 16), true)⟩,
 ⟨.call 12 [(.l 17), (.l 18)], none, some ((.l 16), true)⟩,
 ⟨.pick (.l 16) (.l 19) (.c (.b false)), none, none⟩,
 ⟨.mov (.l 20), some 1, none⟩] (some false))
 .ret))))), true, false, none⟩

def tm17 : List Nat := [0, 2, 1, 3, 4, 6, 5, 7]
def bs17 : List Nat := [2, 3]

-- annuitant/annuitantlaw39.makes
def v18 : VFunc :=
 ⟨2, 9, [.s 2],
 (.seq (.reg [⟨.lbx (.s 0) 7, some 3, none⟩,
 ⟨.mov (.c (.b false)), some 2, none⟩] none)
 (.seq (.reg [⟨.lld (.sl 3) 7 true, none, none⟩,
 ⟨.call 43 [(.l 0)], none, none⟩,
 ⟨.lal [(.i .i64 0), .nil, .nil, (.i .i64 0), (.i .i64 0), (.i .i64 0), .nil], some 4, none⟩,
 ⟨.lst (.sl 4) (.l 1) 7, none, none⟩] none)
 (.seq (.reg [⟨.lld (.sl 4) 7 true, none, none⟩,
 ⟨.mov (.s 1), none, none⟩,
 ⟨.call 14 [(.l 0), (.l 1)], none, none⟩,
 ⟨.mov (.l 2), none, none⟩,
 ⟨.ext (.l 3) 0, none, none⟩,
 ⟨.ext (.l 3) 1, none, none⟩,
 ⟨.lal [(.i .i64 0), (.i .i64 0), (.i .i64 0), .nil, (.i .i64 0), (.i .i64 0), (.i .i64 0), (.i .i64 0)], some 7, none⟩,
 ⟨.lst (.sl 7) (.l 4) 8, none, none⟩,
 ⟨.mov (.l 5), some 5, none⟩] none)
 (.seq (.reg [⟨.lld (.sl 3) 7 true, none, none⟩,
 ⟨.call 45 [(.l 0)], none, none⟩,
 ⟨.mov (.s 1), none, none⟩,
 ⟨.call 44 [(.l 1), (.l 2)], none, none⟩,
 ⟨.mov (.l 3), none, none⟩,
 ⟨.ext (.l 4) 0, none, none⟩,
 ⟨.ext (.l 4) 1, none, none⟩,
 ⟨.lal [(.i .i64 0), (.i .i64 0), (.i .i64 0), .nil, (.i .i64 0), (.i .i64 0), (.i .i64 0), (.i .i64 0)], some 8, none⟩,
 ⟨.lst (.sl 8) (.l 5) 8, none, none⟩,
 ⟨.mov (.l 6), some 6, none⟩] none)
 (.seq (.reg [⟨.mov (.s 5), none, none⟩,
 ⟨.mov (.s 6), none, none⟩,
 ⟨.bin .eql (.l 0) (.l 1), none, none⟩,
 ⟨.mov (.l 2), none, none⟩,
 ⟨.lld (.sl 7) 8 true, none, some ((.l 3), true)⟩,
 ⟨.lld (.sl 8) 8 true, none, some ((.l 3), true)⟩,
 ⟨.call 13 [(.l 5)], none, some ((.l 3), true)⟩,
 ⟨.call 12 [(.l 4), (.l 6)], none, some ((.l 3), true)⟩,
 ⟨.pick (.l 3) (.l 7) (.c (.b false)), none, none⟩,
 ⟨.mov (.l 8), none, none⟩,
 ⟨.lld (.sl 4) 7 true, none, some ((.l 9), true)⟩,
 ⟨.lld (.sl 3) 7 true, none, some ((.l 9), true)⟩,
 ⟨.call 46 [(.l 10), (.l 11)], none, some ((.l 9), true)⟩,
 ⟨.pick (.l 9) (.l 12) (.c (.b false)), none, none⟩,
 ⟨.mov (.l 13), some 2, none⟩] (some false))
 .ret))))), true, false, none⟩

def tm18 : List Nat := [0, 1, 4, 2, 5, 7, 9, 6, 8]
def bs18 : List Nat := [3, 4, 7, 8]

-- annuitant/state.read
def v19d : Dfr :=
 ⟨(.reg [⟨.hal 28 [(.i .i64 0), (.i .i64 0), (.i .i64 0), .nil, (.i .i64 0), (.i .i64 0), (.i .i64 0), (.i .i64 0)], some 1, none⟩,
 ⟨.hal 4 [(.b false)], some 2, none⟩] none), [1, 2], 47, 4, 3,
 (.seq (.reg [⟨.mov (.s 3), none, none⟩,
 ⟨.eqv true .ifc (.l 0) (.c .ni), some 2, none⟩] none)
 (.cond (.s 2) (.reg [⟨.agc [(.i .i64 0), (.i .i64 0), (.i .i64 0), .nil, (.i .i64 0), (.i .i64 0), (.i .i64 0), (.i .i64 0)] [], none, none⟩,
 ⟨.st (.s 0) (.l 0) 8, none, none⟩,
 ⟨.st (.s 1) (.c (.b false)) 1, none, none⟩] none)
 .skip)), [0, 1, 5, 2], []⟩
def v19 : VFunc :=
 ⟨1, 4, [.hb 1 8 true, .hb 2 1 false],
 (.seq (.reg [⟨.mov (.s 0), none, none⟩,
 ⟨.agc [(.s [])] [(0, 1, (.l 0))], none, none⟩,
 ⟨.hal 101 [(.s [])], some 3, none⟩,
 ⟨.st (.s 3) (.l 1) 1, none, none⟩] none)
 (.seq (.reg [⟨.call 48 [(.s 3)], none, none⟩,
 ⟨.st (.s 1) (.l 0) 8, none, none⟩] none)
 (.seq (.reg [⟨.ldq (.s 1) 8 true, none, none⟩,
 ⟨.fad (.s 3) 0, none, none⟩,
 ⟨.ld (.l 1) 1 false, none, none⟩,
 ⟨.bin .eql (.l 2) (.c (.s [])), none, none⟩,
 ⟨.st (.s 1) (.l 0) 8, none, none⟩,
 ⟨.st (.s 2) (.l 3) 1, none, none⟩] (some true))
 .ret))), true, false, (some v19d)⟩

def tm19 : List Nat := [0, 2, 3, 4]
def bs19 : List Nat := []

-- annuitant/annuitantref39.words
def v20l0 : VCode :=
 (.seq (.seq (.reg [⟨.mov (.s 5), none, none⟩,
 ⟨.mov (.s 0), none, none⟩,
 ⟨.len 0 (.l 1), none, none⟩,
 ⟨.bin .lss (.l 0) (.l 2), some 2, none⟩] none)
 (.cond (.s 2) .skip
 (.exit 0)))
 (.seq (.block 1 (.seq (.reg [⟨.mov (.s 0), none, none⟩,
 ⟨.mov (.s 5), none, none⟩,
 ⟨.ixs (.l 0) (.l 1), none, none⟩,
 ⟨.bin .eql (.l 2) (.c (.i .u8 32)), none, none⟩,
 ⟨.mov (.l 3), none, none⟩,
 ⟨.mov (.s 0), none, some ((.l 4), false)⟩,
 ⟨.mov (.s 5), none, some ((.l 4), false)⟩,
 ⟨.ixs (.l 5) (.l 6), none, some ((.l 4), false)⟩,
 ⟨.bin .eql (.l 7) (.c (.i .u8 10)), none, some ((.l 4), false)⟩,
 ⟨.pick (.l 4) (.c (.b true)) (.l 8), some 3, none⟩] none)
 (.cond (.s 3) (.reg [⟨.mov (.s 4), none, none⟩,
 ⟨.bsv 1 1 [(.s [])] [(0, (.c (.s [])))], none, none⟩,
 ⟨.app (.l 0) (.l 1) 1 16 true, none, none⟩,
 ⟨.mov (.l 2), some 4, none⟩] none)
 (.reg [⟨.mov (.s 4), none, none⟩,
 ⟨.mov (.s 4), none, none⟩,
 ⟨.len 1 (.l 1), none, none⟩,
 ⟨.bin .sub (.l 2) (.c (.i .i64 1)), none, none⟩,
 ⟨.mov (.s 4), none, none⟩,
 ⟨.mov (.s 4), none, none⟩,
 ⟨.len 1 (.l 5), none, none⟩,
 ⟨.bin .sub (.l 6) (.c (.i .i64 1)), none, none⟩,
 ⟨.iad (.l 4) (.l 7) 1, none, none⟩,
 ⟨.ld (.l 8) 1 false, none, none⟩,
 ⟨.mov (.s 0), none, none⟩,
 ⟨.mov (.s 5), none, none⟩,
 ⟨.mov (.s 5), none, none⟩,
 ⟨.bin .add (.l 12) (.c (.i .i64 1)), none, none⟩,
 ⟨.sli true 0 (.l 10) (some (.l 11)) (some (.l 13)) none, none, none⟩,
 ⟨.bin .add (.l 9) (.l 14), none, none⟩,
 ⟨.iad (.l 0) (.l 3) 1, none, none⟩,
 ⟨.st (.l 16) (.l 15) 1, none, none⟩] (some false)))))
 (.reg [⟨.mov (.s 5), none, none⟩,
 ⟨.bin .add (.l 0) (.c (.i .i64 1)), none, none⟩,
 ⟨.mov (.l 1), some 5, none⟩] none)))
def v20 : VFunc :=
 ⟨1, 6, [.s 1],
 (.seq (.reg [⟨.mov (.c .nil), some 1, none⟩] none)
 (.seq (.reg [⟨.bsl 1 1 [(.s [])] [(0, (.c (.s [])))] true, none, none⟩,
 ⟨.mov (.l 0), some 4, none⟩] none)
 (.seq (.seq (.reg [⟨.mov (.c (.i .i64 0)), some 5, none⟩] none)
 (.block 0 (.loop v20l0)))
 (.seq (.reg [⟨.mov (.s 4), none, none⟩,
 ⟨.mov (.l 0), some 1, none⟩] none)
 .ret)))), true, false, none⟩

def tm20 : List Nat := [0, 2, 9, 21, 3, 4]
def bs20 : List Nat := []

-- annuitant/annuitantref39.value
def v21 : VFunc :=
 ⟨2, 9, [.s 2],
 (.seq (.reg [⟨.mov (.c (.i .i64 0)), some 2, none⟩] none)
 (.seq (.seq (.reg [⟨.mov (.s 1), none, none⟩,
 ⟨.mov (.s 0), none, none⟩,
 ⟨.len 1 (.l 1), none, none⟩,
 ⟨.bin .geq (.l 0) (.l 2), some 3, none⟩] none)
 (.cond (.s 3) (.seq (.reg [⟨.mov (.c (.i .i64 0)), some 2, none⟩] none)
 .ret)
 .skip))
 (.seq (.reg [⟨.mov (.s 0), none, none⟩,
 ⟨.mov (.s 1), none, none⟩,
 ⟨.iad (.l 0) (.l 1) 1, none, none⟩,
 ⟨.ld (.l 2) 1 false, none, none⟩,
 ⟨.call 49 [(.l 3)], none, none⟩,
 ⟨.mov (.l 4), none, none⟩,
 ⟨.ext (.l 5) 0, none, none⟩,
 ⟨.ext (.l 5) 1, none, none⟩,
 ⟨.lal [(.b false), .nil], some 5, none⟩,
 ⟨.lst (.sl 5) (.l 6) 2, none, none⟩,
 ⟨.mov (.l 7), some 6, none⟩] none)
 (.seq (.reg [⟨.lld (.sl 5) 2 true, none, none⟩,
 ⟨.call 50 [(.l 0)], none, none⟩,
 ⟨.mov (.l 1), none, none⟩,
 ⟨.ext (.l 2) 0, none, none⟩,
 ⟨.ext (.l 2) 1, none, none⟩,
 ⟨.mov (.l 3), some 8, none⟩,
 ⟨.mov (.l 4), some 7, none⟩] none)
 (.seq (.seq (.reg [⟨.mov (.s 6), none, none⟩,
 ⟨.bin .neq (.l 0) (.c (.i .i64 0)), none, none⟩,
 ⟨.mov (.l 1), none, none⟩,
 ⟨.mov (.s 7), none, some ((.l 2), false)⟩,
 ⟨.bin .neq (.l 3) (.c (.i .i64 0)), none, some ((.l 2), false)⟩,
 ⟨.pick (.l 2) (.c (.b true)) (.l 4), some 4, none⟩] none)
 (.cond (.s 4) (.seq (.reg [⟨.mov (.c (.i .i64 0)), some 2, none⟩] none)
 .ret)
 .skip))
 (.seq (.reg [⟨.mov (.s 8), none, none⟩,
 ⟨.mov (.l 0), some 2, none⟩] none)
 .ret)))))), true, false, none⟩

def tm21 : List Nat := [0, 1, 4, 12, 31, 5, 6, 8, 7]
def bs21 : List Nat := [5]

-- annuitant/annuitantref39.Month
def v22 : VFunc :=
 ⟨1, 3, [.s 1],
 (.seq (.reg [⟨.mov (.c (.s [])), some 1, none⟩] none)
 (.seq (.reg [⟨.mov (.s 0), none, none⟩,
 ⟨.bin .rem (.l 0) (.c (.i .i64 12)), none, none⟩,
 ⟨.call 51 [(.l 1)], none, none⟩,
 ⟨.mov (.l 2), none, none⟩,
 ⟨.ext (.l 3) 0, none, none⟩,
 ⟨.ext (.l 3) 1, none, none⟩,
 ⟨.mov (.l 4), some 2, none⟩,
 ⟨.mov (.l 5), none, none⟩] none)
 (.seq (.reg [⟨.mov (.s 0), none, none⟩,
 ⟨.bin .quo (.l 0) (.c (.i .i64 12)), none, none⟩,
 ⟨.bin .add (.c (.i .i64 1900)) (.l 1), none, none⟩,
 ⟨.call 52 [(.l 2)], none, none⟩,
 ⟨.mov (.s 2), none, none⟩,
 ⟨.call 53 [(.l 4)], none, none⟩,
 ⟨.sli true 0 (.l 5) (some (.c (.i .i64 4))) (some (.c (.i .i64 7))) none, none, none⟩,
 ⟨.bin .add (.l 3) (.l 6), none, none⟩,
 ⟨.mov (.l 7), some 1, none⟩] none)
 .ret))), true, false, none⟩

def tm22 : List Nat := [0, 2, 3]
def bs22 : List Nat := []

-- annuitant/annuitantref39.Right
def v23l0 : VCode :=
 (.seq (.seq (.reg [⟨.mov (.s 7), none, none⟩,
 ⟨.lfa (.sl 5) 3, none, none⟩,
 ⟨.lld (.lo 1) 1 false, none, none⟩,
 ⟨.len 1 (.l 2), none, none⟩,
 ⟨.bin .lss (.l 0) (.l 3), some 3, none⟩] none)
 (.cond (.s 3) .skip
 (.exit 0)))
 (.seq (.block 1 (.seq (.reg [⟨.lfa (.sl 5) 3, none, none⟩,
 ⟨.lld (.lo 0) 1 false, none, none⟩,
 ⟨.mov (.s 7), none, none⟩,
 ⟨.iad (.l 1) (.l 2) 4, none, none⟩,
 ⟨.ld (.l 3) 4 true, none, none⟩,
 ⟨.lal [(.i .i64 0), (.i .i64 0), (.i .i64 0), (.i .i64 0)], some 8, none⟩,
 ⟨.lst (.sl 8) (.l 4) 4, none, none⟩] none)
 (.seq (.seq (.reg [⟨.lfa (.sl 8) 0, none, none⟩,
 ⟨.lld (.lo 0) 1 false, none, none⟩,
 ⟨.lfa (.sl 5) 0, none, none⟩,
 ⟨.lld (.lo 2) 1 false, none, none⟩,
 ⟨.call 55 [(.l 1), (.l 3)], none, none⟩,
 ⟨.un .not (.l 4), none, none⟩,
 ⟨.mov (.l 5), none, none⟩,
 ⟨.mov (.s 7), none, some ((.l 6), false)⟩,
 ⟨.bin .gtr (.l 7) (.c (.i .i64 0)), none, some ((.l 6), false)⟩,
 ⟨.mov (.l 8), none, some ((.l 6), false)⟩,
 ⟨.lfa (.sl 5) 3, none, some ((.l 9), true)⟩,
 ⟨.lld (.lo 10) 1 false, none, some ((.l 9), true)⟩,
 ⟨.mov (.s 7), none, some ((.l 9), true)⟩,
 ⟨.bin .sub (.l 12) (.c (.i .i64 1)), none, some ((.l 9), true)⟩,
 ⟨.iad (.l 11) (.l 13) 4, none, some ((.l 9), true)⟩,
 ⟨.fad (.l 14) 0, none, some ((.l 9), true)⟩,
 ⟨.ld (.l 15) 1 false, none, some ((.l 9), true)⟩,
 ⟨.bin .add (.l 16) (.c (.i .i64 1)), none, some ((.l 9), true)⟩,
 ⟨.lfa (.sl 8) 0, none, some ((.l 9), true)⟩,
 ⟨.lld (.lo 18) 1 false, none, some ((.l 9), true)⟩,
 ⟨.bin .neq (.l 17) (.l 19), none, some ((.l 9), true)⟩,
 ⟨.pick (.l 9) (.l 20) (.c (.b false)), none, some ((.l 6), false)⟩,
 ⟨.pick (.l 6) (.c (.b true)) (.l 21), none, none⟩,
 ⟨.mov (.l 22), none, none⟩,
 ⟨.lfa (.sl 8) 1, none, some ((.l 23), false)⟩,
 ⟨.lld (.lo 24) 1 false, none, some ((.l 23), false)⟩,
 ⟨.bin .lss (.l 25) (.c (.i .i64 0)), none, some ((.l 23), false)⟩,
 ⟨.pick (.l 23) (.c (.b true)) (.l 26), none, none⟩,
 ⟨.mov (.l 27), none, none⟩,
 ⟨.lfa (.sl 8) 1, none, some ((.l 28), false)⟩,
 ⟨.lld (.lo 29) 1 false, none, some ((.l 28), false)⟩,
 ⟨.bin .gtr (.l 30) (.c (.i .i64 1099511627776)), none, some ((.l 28), false)⟩,
 ⟨.pick (.l 28) (.c (.b true)) (.l 31), none, none⟩,
 ⟨.mov (.l 32), none, none⟩,
 ⟨.lfa (.sl 8) 2, none, some ((.l 33), false)⟩,
 ⟨.lld (.lo 34) 1 false, none, some ((.l 33), false)⟩,
 ⟨.call 54 [(.l 35)], none, some ((.l 33), false)⟩,
 ⟨.un .not (.l 36), none, some ((.l 33), false)⟩,
 ⟨.pick (.l 33) (.c (.b true)) (.l 37), none, none⟩,
 ⟨.mov (.l 38), none, none⟩,
 ⟨.lfa (.sl 8) 3, none, some ((.l 39), false)⟩,
 ⟨.lld (.lo 40) 1 false, none, some ((.l 39), false)⟩,
 ⟨.call 54 [(.l 41)], none, some ((.l 39), false)⟩,
 ⟨.un .not (.l 42), none, some ((.l 39), false)⟩,
 ⟨.pick (.l 39) (.c (.b true)) (.l 43), none, none⟩,
 ⟨.mov (.l 44), none, none⟩,
 ⟨.lfa (.sl 8) 2, none, some ((.l 45), false)⟩,
 ⟨.lld (.lo 46) 1 false, none, some ((.l 45), false)⟩,
 ⟨.lfa (.sl 8) 3, none, some ((.l 45), false)⟩,
 ⟨.lld (.lo 48) 1 false, none, some ((.l 45), false)⟩,
 ⟨.bin .add (.l 47) (.l 49), none, some ((.l 45), false)⟩,
 ⟨.lfa (.sl 8) 1, none, some ((.l 45), false)⟩,
 ⟨.lld (.lo 51) 1 false, none, some ((.l 45), false)⟩,
 ⟨.bin .neq (.l 50) (.l 52), none, some ((.l 45), false)⟩,
 ⟨.pick (.l 45) (.c (.b true)) (.l 53), some 4, none⟩] (some false))
 (.cond (.s 4) (.seq (.reg [⟨.mov (.c (.b false)), some 1, none⟩] none)
 .ret)
 .skip))
 (.reg [⟨.mov (.s 6), none, none⟩,
 ⟨.lfa (.sl 8) 3, none, none⟩,
 ⟨.lld (.lo 1) 1 false, none, none⟩,
 ⟨.bin .add (.l 0) (.l 2), none, none⟩,
 ⟨.mov (.l 3), some 6, none⟩] none))))
 (.reg [⟨.mov (.s 7), none, none⟩,
 ⟨.bin .add (.l 0) (.c (.i .i64 1)), none, none⟩,
 ⟨.mov (.l 1), some 7, none⟩] none)))
def v23 : VFunc :=
 ⟨1, 9, [.s 1],
 (.seq (.reg [⟨.lbx (.s 0) 8, some 5, none⟩,
 ⟨.mov (.c (.b false)), some 1, none⟩] none)
 (.seq (.seq (.reg [⟨.lfa (.sl 5) 0, none, none⟩,
 ⟨.lld (.lo 0) 1 false, none, none⟩,
 ⟨.bin .lss (.l 1) (.c (.i .i64 1900)), none, none⟩,
 ⟨.mov (.l 2), none, none⟩,
 ⟨.lfa (.sl 5) 0, none, some ((.l 3), false)⟩,
 ⟨.lld (.lo 4) 1 false, none, some ((.l 3), false)⟩,
 ⟨.bin .gtr (.l 5) (.c (.i .i64 2079)), none, some ((.l 3), false)⟩,
 ⟨.pick (.l 3) (.c (.b true)) (.l 6), none, none⟩,
 ⟨.mov (.l 7), none, none⟩,
 ⟨.lfa (.sl 5) 1, none, some ((.l 8), false)⟩,
 ⟨.lld (.lo 9) 1 false, none, some ((.l 8), false)⟩,
 ⟨.call 54 [(.l 10)], none, some ((.l 8), false)⟩,
 ⟨.un .not (.l 11), none, some ((.l 8), false)⟩,
 ⟨.pick (.l 8) (.c (.b true)) (.l 12), none, none⟩,
 ⟨.mov (.l 13), none, none⟩,
 ⟨.lfa (.sl 5) 2, none, some ((.l 14), false)⟩,
 ⟨.lld (.lo 15) 1 false, none, some ((.l 14), false)⟩,
 ⟨.call 54 [(.l 16)], none, some ((.l 14), false)⟩,
 ⟨.un .not (.l 17), none, some ((.l 14), false)⟩,
 ⟨.pick (.l 14) (.c (.b true)) (.l 18), none, none⟩,
 ⟨.mov (.l 19), none, none⟩,
 ⟨.lfa (.sl 5) 4, none, some ((.l 20), false)⟩,
 ⟨.lld (.lo 21) 1 false, none, some ((.l 20), false)⟩,
 ⟨.call 54 [(.l 22)], none, some ((.l 20), false)⟩,
 ⟨.un .not (.l 23), none, some ((.l 20), false)⟩,
 ⟨.pick (.l 20) (.c (.b true)) (.l 24), none, none⟩,
 ⟨.mov (.l 25), none, none⟩,
 ⟨.lfa (.sl 5) 5, none, some ((.l 26), false)⟩,
 ⟨.lld (.lo 27) 1 false, none, some ((.l 26), false)⟩,
 ⟨.call 54 [(.l 28)], none, some ((.l 26), false)⟩,
 ⟨.un .not (.l 29), none, some ((.l 26), false)⟩,
 ⟨.pick (.l 26) (.c (.b true)) (.l 30), none, none⟩,
 ⟨.mov (.l 31), none, none⟩,
 ⟨.lfa (.sl 5) 6, none, some ((.l 32), false)⟩,
 ⟨.lld (.lo 33) 1 false, none, some ((.l 32), false)⟩,
 ⟨.call 54 [(.l 34)], none, some ((.l 32), false)⟩,
 ⟨.un .not (.l 35), none, some ((.l 32), false)⟩,
 ⟨.pick (.l 32) (.c (.b true)) (.l 36), none, none⟩,
 ⟨.mov (.l 37), none, none⟩,
 ⟨.lfa (.sl 5) 7, none, some ((.l 38), false)⟩,
 ⟨.lld (.lo 39) 1 false, none, some ((.l 38), false)⟩,
 ⟨.call 54 [(.l 40)], none, some ((.l 38), false)⟩,
 ⟨.un .not (.l 41), none, some ((.l 38), false)⟩,
 ⟨.pick (.l 38) (.c (.b true)) (.l 42), some 2, none⟩] none)
 (.cond (.s 2) (.seq (.reg [⟨.mov (.c (.b false)), some 1, none⟩] none)
 .ret)
 .skip))
 (.seq (.reg [⟨.lfa (.sl 5) 1, none, none⟩,
 ⟨.lld (.lo 0) 1 false, none, none⟩,
 ⟨.mov (.l 1), some 6, none⟩] none)
 (.seq (.seq (.reg [⟨.mov (.c (.i .i64 0)), some 7, none⟩] none)
 (.block 0 (.loop v23l0)))
 (.seq (.reg [⟨.mov (.s 6), none, none⟩,
 ⟨.lfa (.sl 5) 2, none, none⟩,
 ⟨.lld (.lo 1) 1 false, none, none⟩,
 ⟨.bin .eql (.l 0) (.l 2), none, none⟩,
 ⟨.mov (.l 3), none, none⟩,
 ⟨.lfa (.sl 5) 4, none, some ((.l 4), true)⟩,
 ⟨.lld (.lo 5) 1 false, none, some ((.l 4), true)⟩,
 ⟨.lfa (.sl 5) 5, none, some ((.l 4), true)⟩,
 ⟨.lld (.lo 7) 1 false, none, some ((.l 4), true)⟩,
 ⟨.lfa (.sl 5) 6, none, some ((.l 4), true)⟩,
 ⟨.lld (.lo 9) 1 false, none, some ((.l 4), true)⟩,
 ⟨.bin .add (.l 8) (.l 10), none, some ((.l 4), true)⟩,
 ⟨.bin .eql (.l 6) (.l 11), none, some ((.l 4), true)⟩,
 ⟨.pick (.l 4) (.l 12) (.c (.b false)), none, none⟩,
 ⟨.mov (.l 13), some 1, none⟩] none)
 .ret))))), true, false, none⟩

def tm23 : List Nat := [0, 2, 49, 56, 118, 1, 3, 4, 5]
def bs23 : List Nat := [5, 8]

-- annuitant/annuitantref39.write
def v24l0 : VCode :=
 (.seq (.seq (.reg [⟨.mov (.s 5), none, none⟩,
 ⟨.lfa (.sl 3) 3, none, none⟩,
 ⟨.lld (.lo 1) 1 false, none, none⟩,
 ⟨.len 1 (.l 2), none, none⟩,
 ⟨.bin .lss (.l 0) (.l 3), some 2, none⟩] none)
 (.cond (.s 2) .skip
 (.exit 0)))
 (.seq (.block 1 (.seq (.reg [⟨.lfa (.sl 3) 3, none, none⟩,
 ⟨.lld (.lo 0) 1 false, none, none⟩,
 ⟨.mov (.s 5), none, none⟩,
 ⟨.iad (.l 1) (.l 2) 4, none, none⟩,
 ⟨.ld (.l 3) 4 true, none, none⟩,
 ⟨.lal [(.i .i64 0), (.i .i64 0), (.i .i64 0), (.i .i64 0)], some 6, none⟩,
 ⟨.lst (.sl 6) (.l 4) 4, none, none⟩] none)
 (.reg [⟨.mov (.s 4), none, none⟩,
 ⟨.bin .add (.l 0) (.c (.s [109, 111, 110, 116, 104, 32])), none, none⟩,
 ⟨.lfa (.sl 6) 0, none, none⟩,
 ⟨.lld (.lo 2) 1 false, none, none⟩,
 ⟨.call 22 [(.l 3)], none, none⟩,
 ⟨.bin .add (.l 1) (.l 4), none, none⟩,
 ⟨.bin .add (.l 5) (.c (.s [32, 100, 117, 101, 32])), none, none⟩,
 ⟨.lfa (.sl 6) 1, none, none⟩,
 ⟨.lld (.lo 7) 1 false, none, none⟩,
 ⟨.call 52 [(.l 8)], none, none⟩,
 ⟨.bin .add (.l 6) (.l 9), none, none⟩,
 ⟨.bin .add (.l 10) (.c (.s [32, 112, 111, 115, 116, 101, 100, 32])), none, none⟩,
 ⟨.lfa (.sl 6) 2, none, none⟩,
 ⟨.lld (.lo 12) 1 false, none, none⟩,
 ⟨.call 52 [(.l 13)], none, none⟩,
 ⟨.bin .add (.l 11) (.l 14), none, none⟩,
 ⟨.bin .add (.l 15) (.c (.s [32, 111, 112, 101, 110, 32])), none, none⟩,
 ⟨.lfa (.sl 6) 3, none, none⟩,
 ⟨.lld (.lo 17) 1 false, none, none⟩,
 ⟨.call 52 [(.l 18)], none, none⟩,
 ⟨.bin .add (.l 16) (.l 19), none, none⟩,
 ⟨.bin .add (.l 20) (.c (.s [10])), none, none⟩,
 ⟨.mov (.l 21), some 4, none⟩] (some false))))
 (.reg [⟨.mov (.s 5), none, none⟩,
 ⟨.bin .add (.l 0) (.c (.i .i64 1)), none, none⟩,
 ⟨.mov (.l 1), some 5, none⟩] none)))
def v24 : VFunc :=
 ⟨1, 7, [.s 1],
 (.seq (.reg [⟨.lbx (.s 0) 8, some 3, none⟩,
 ⟨.mov (.c (.s [])), some 1, none⟩] none)
 (.seq (.reg [⟨.lfa (.sl 3) 0, none, none⟩,
 ⟨.lld (.lo 0) 1 false, none, none⟩,
 ⟨.call 52 [(.l 1)], none, none⟩,
 ⟨.bin .add (.c (.s [115, 116, 97, 116, 101, 109, 101, 110, 116, 32])) (.l 2), none, none⟩,
 ⟨.bin .add (.l 3) (.c (.s [10, 98, 101, 102, 111, 114, 101, 32])), none, none⟩,
 ⟨.lfa (.sl 3) 1, none, none⟩,
 ⟨.lld (.lo 5) 1 false, none, none⟩,
 ⟨.call 52 [(.l 6)], none, none⟩,
 ⟨.bin .add (.l 4) (.l 7), none, none⟩,
 ⟨.bin .add (.l 8) (.c (.s [10])), none, none⟩,
 ⟨.mov (.l 9), some 4, none⟩] (some false))
 (.seq (.seq (.reg [⟨.mov (.c (.i .i64 0)), some 5, none⟩] none)
 (.block 0 (.loop v24l0)))
 (.seq (.reg [⟨.mov (.s 4), none, none⟩,
 ⟨.bin .add (.l 0) (.c (.s [103, 114, 111, 115, 115, 32])), none, none⟩,
 ⟨.lfa (.sl 3) 4, none, none⟩,
 ⟨.lld (.lo 2) 1 false, none, none⟩,
 ⟨.call 52 [(.l 3)], none, none⟩,
 ⟨.bin .add (.l 1) (.l 4), none, none⟩,
 ⟨.bin .add (.l 5) (.c (.s [32, 116, 97, 120, 32])), none, none⟩,
 ⟨.lfa (.sl 3) 5, none, none⟩,
 ⟨.lld (.lo 7) 1 false, none, none⟩,
 ⟨.call 52 [(.l 8)], none, none⟩,
 ⟨.bin .add (.l 6) (.l 9), none, none⟩,
 ⟨.bin .add (.l 10) (.c (.s [32, 110, 101, 116, 32])), none, none⟩,
 ⟨.lfa (.sl 3) 6, none, none⟩,
 ⟨.lld (.lo 12) 1 false, none, none⟩,
 ⟨.call 52 [(.l 13)], none, none⟩,
 ⟨.bin .add (.l 11) (.l 14), none, none⟩,
 ⟨.bin .add (.l 15) (.c (.s [32, 105, 110, 116, 101, 114, 101, 115, 116, 32])), none, none⟩,
 ⟨.lfa (.sl 3) 7, none, none⟩,
 ⟨.lld (.lo 17) 1 false, none, none⟩,
 ⟨.call 52 [(.l 18)], none, none⟩,
 ⟨.bin .add (.l 16) (.l 19), none, none⟩,
 ⟨.bin .add (.l 20) (.c (.s [10, 97, 102, 116, 101, 114, 32])), none, none⟩,
 ⟨.lfa (.sl 3) 2, none, none⟩,
 ⟨.lld (.lo 22) 1 false, none, none⟩,
 ⟨.call 52 [(.l 23)], none, none⟩,
 ⟨.bin .add (.l 21) (.l 24), none, none⟩,
 ⟨.bin .add (.l 25) (.c (.s [10])), none, none⟩,
 ⟨.mov (.l 26), some 1, none⟩] (some false))
 .ret)))), true, false, none⟩

def tm24 : List Nat := [0, 2, 20, 1, 3, 4, 5]
def bs24 : List Nat := [3, 6]

-- annuitant/run.Valid
def v25l0 : VCode :=
 (.seq (.reg [⟨.bin .lss (.s 12) (.s 13), some 4, none⟩] none)
 (.seq (.cond (.s 4) .skip
 (.exit 0))
 (.seq (.block 1 (.seq (.reg [⟨.iad (.s 14) (.s 12) 10, none, none⟩,
 ⟨.ld (.l 0) 10 true, none, none⟩,
 ⟨.lal [(.i .i64 0), (.i .i64 0), (.i .i64 0), (.i .i64 0), (.i .i64 0), (.i .i64 0), (.i .i64 0), (.i .i64 0), (.i .i64 0), (.b false)], some 15, none⟩,
 ⟨.lst (.sl 15) (.l 1) 10, none, none⟩] none)
 (.seq (.seq (.reg [⟨.lfa (.sl 15) 0, none, none⟩,
 ⟨.lld (.lo 0) 1 false, none, none⟩,
 ⟨.mov (.s 9), none, none⟩,
 ⟨.bin .leq (.l 1) (.l 2), none, none⟩,
 ⟨.mov (.l 3), none, none⟩,
 ⟨.lfa (.sl 15) 4, none, some ((.l 4), false)⟩,
 ⟨.lfa (.lo 5) 0, none, some ((.l 4), false)⟩,
 ⟨.lld (.lo 6) 1 false, none, some ((.l 4), false)⟩,
 ⟨.mov (.s 10), none, some ((.l 4), false)⟩,
 ⟨.bin .leq (.l 7) (.l 8), none, some ((.l 4), false)⟩,
 ⟨.pick (.l 4) (.c (.b true)) (.l 9), some 5, none⟩] none)
 (.cond (.s 5) (.seq (.reg [⟨.mov (.c (.b false)), some 1, none⟩] none)
 .ret)
 .skip))
 (.seq (.seq (.reg [⟨.lfa (.sl 15) 2, none, none⟩,
 ⟨.lld (.lo 0) 1 false, none, none⟩,
 ⟨.mov (.s 11), none, none⟩,
 ⟨.bin .lss (.l 1) (.l 2), none, none⟩,
 ⟨.mov (.l 3), none, none⟩,
 ⟨.lfa (.sl 15) 3, none, some ((.l 4), false)⟩,
 ⟨.lld (.lo 5) 1 false, none, some ((.l 4), false)⟩,
 ⟨.lfa (.sl 15) 2, none, some ((.l 4), false)⟩,
 ⟨.lld (.lo 7) 1 false, none, some ((.l 4), false)⟩,
 ⟨.bin .lss (.l 6) (.l 8), none, some ((.l 4), false)⟩,
 ⟨.pick (.l 4) (.c (.b true)) (.l 9), none, none⟩,
 ⟨.mov (.l 10), none, none⟩,
 ⟨.lfa (.sl 15) 3, none, some ((.l 11), false)⟩,
 ⟨.lld (.lo 12) 1 false, none, some ((.l 11), false)⟩,
 ⟨.lfa (.sl 8) 0, none, some ((.l 11), false)⟩,
 ⟨.lfa (.lo 14) 2, none, some ((.l 11), false)⟩,
 ⟨.lld (.lo 15) 1 false, none, some ((.l 11), false)⟩,
 ⟨.len 1 (.l 16), none, some ((.l 11), false)⟩,
 ⟨.bin .gtr (.l 13) (.l 17), none, some ((.l 11), false)⟩,
 ⟨.pick (.l 11) (.c (.b true)) (.l 18), some 6, none⟩] none)
 (.cond (.s 6) (.seq (.reg [⟨.mov (.c (.b false)), some 1, none⟩] none)
 .ret)
 .skip))
 (.seq (.seq (.reg [⟨.lfa (.sl 15) 4, none, none⟩,
 ⟨.lfa (.lo 0) 2, none, none⟩,
 ⟨.lld (.lo 1) 1 false, none, none⟩,
 ⟨.call 57 [(.l 2)], none, none⟩,
 ⟨.un .not (.l 3), none, none⟩,
 ⟨.mov (.l 4), none, none⟩,
 ⟨.lfa (.sl 15) 4, none, some ((.l 5), false)⟩,
 ⟨.lfa (.lo 6) 3, none, some ((.l 5), false)⟩,
 ⟨.lld (.lo 7) 1 false, none, some ((.l 5), false)⟩,
 ⟨.call 58 [(.l 8)], none, some ((.l 5), false)⟩,
 ⟨.un .not (.l 9), none, some ((.l 5), false)⟩,
 ⟨.pick (.l 5) (.c (.b true)) (.l 10), some 7, none⟩] none)
 (.cond (.s 7) (.seq (.reg [⟨.mov (.c (.b false)), some 1, none⟩] none)
 .ret)
 .skip))
 (.reg [⟨.lfa (.sl 15) 0, none, none⟩,
 ⟨.lld (.lo 0) 1 false, none, none⟩,
 ⟨.lfa (.sl 15) 4, none, none⟩,
 ⟨.lfa (.lo 2) 0, none, none⟩,
 ⟨.lld (.lo 3) 1 false, none, none⟩,
 ⟨.lfa (.sl 15) 3, none, none⟩,
 ⟨.lld (.lo 5) 1 false, none, none⟩,
 ⟨.mov (.l 1), some 9, none⟩,
 ⟨.mov (.l 4), some 10, none⟩,
 ⟨.mov (.l 6), some 11, none⟩] (some false)))))))
 (.reg [⟨.bin .add (.s 12) (.c (.i .i64 1)), none, none⟩,
 ⟨.mov (.l 0), some 12, none⟩] none))))
def v25 : VFunc :=
 ⟨1, 16, [.s 1],
 (.seq (.reg [⟨.lbx (.s 0) 7, some 8, none⟩,
 ⟨.mov (.c (.b false)), some 1, none⟩] none)
 (.seq (.seq (.reg [⟨.lfa (.sl 8) 0, none, none⟩,
 ⟨.lld (.lo 0) 3 true, none, none⟩,
 ⟨.call 56 [(.l 1)], none, none⟩,
 ⟨.un .not (.l 2), none, none⟩,
 ⟨.mov (.l 3), none, none⟩,
 ⟨.lfa (.sl 8) 6, none, some ((.l 4), false)⟩,
 ⟨.lld (.lo 5) 1 false, none, some ((.l 4), false)⟩,
 ⟨.len 1 (.l 6), none, some ((.l 4), false)⟩,
 ⟨.bin .gtr (.l 7) (.c (.i .i64 1200)), none, some ((.l 4), false)⟩,
 ⟨.pick (.l 4) (.c (.b true)) (.l 8), some 2, none⟩] none)
 (.cond (.s 2) (.seq (.reg [⟨.mov (.c (.b false)), some 1, none⟩] none)
 .ret)
 .skip))
 (.seq (.seq (.reg [⟨.lfa (.sl 8) 3, none, none⟩,
 ⟨.lfa (.lo 0) 0, none, none⟩,
 ⟨.lld (.lo 1) 1 false, none, none⟩,
 ⟨.bin .lss (.l 2) (.c (.i .i64 0)), none, none⟩,
 ⟨.mov (.l 3), none, none⟩,
 ⟨.lfa (.sl 8) 3, none, some ((.l 4), false)⟩,
 ⟨.lfa (.lo 5) 0, none, some ((.l 4), false)⟩,
 ⟨.lld (.lo 6) 1 false, none, some ((.l 4), false)⟩,
 ⟨.bin .gtr (.l 7) (.c (.i .i64 2153)), none, some ((.l 4), false)⟩,
 ⟨.pick (.l 4) (.c (.b true)) (.l 8), none, none⟩,
 ⟨.mov (.l 9), none, none⟩,
 ⟨.lfa (.sl 8) 3, none, some ((.l 10), false)⟩,
 ⟨.lfa (.lo 11) 1, none, some ((.l 10), false)⟩,
 ⟨.lld (.lo 12) 1 false, none, some ((.l 10), false)⟩,
 ⟨.call 57 [(.l 13)], none, some ((.l 10), false)⟩,
 ⟨.un .not (.l 14), none, some ((.l 10), false)⟩,
 ⟨.pick (.l 10) (.c (.b true)) (.l 15), none, none⟩,
 ⟨.mov (.l 16), none, none⟩,
 ⟨.lfa (.sl 8) 3, none, some ((.l 17), false)⟩,
 ⟨.lfa (.lo 18) 2, none, some ((.l 17), false)⟩,
 ⟨.lld (.lo 19) 1 false, none, some ((.l 17), false)⟩,
 ⟨.call 58 [(.l 20)], none, some ((.l 17), false)⟩,
 ⟨.un .not (.l 21), none, some ((.l 17), false)⟩,
 ⟨.pick (.l 17) (.c (.b true)) (.l 22), some 3, none⟩] none)
 (.cond (.s 3) (.seq (.reg [⟨.mov (.c (.b false)), some 1, none⟩] none)
 .ret)
 .skip))
 (.seq (.reg [⟨.mov (.c (.i .i64 (-1))), some 9, none⟩,
 ⟨.mov (.c (.i .i64 (-1))), some 10, none⟩,
 ⟨.mov (.c (.i .i64 0)), some 11, none⟩] none)
 (.seq (.seq (.reg [⟨.lfa (.sl 8) 6, none, none⟩,
 ⟨.lld (.lo 0) 1 false, some 14, none⟩,
 ⟨.len 1 (.s 14), some 13, none⟩,
 ⟨.mov (.c (.i .i64 0)), some 12, none⟩] none)
 (.block 0 (.loop v25l0)))
 (.seq (.reg [⟨.mov (.c (.b true)), some 1, none⟩] none)
 .ret)))))), true, false, none⟩

def tm25 : List Nat := [0, 2, 17, 41, 46, 59, 79, 91, 1, 3, 4, 5, 45, 44, 43, 7]
def bs25 : List Nat := [8, 15]

-- annuitant/state.isYear
def v26 : VFunc :=
 ⟨1, 2, [.s 1],
 (.seq (.reg [⟨.mov (.c (.b false)), some 1, none⟩] none)
 (.seq (.reg [⟨.mov (.s 0), none, none⟩,
 ⟨.bin .leq (.c (.i .i64 1900)) (.l 0), none, none⟩,
 ⟨.mov (.l 1), none, none⟩,
 ⟨.mov (.s 0), none, some ((.l 2), true)⟩,
 ⟨.bin .leq (.l 3) (.c (.i .i64 2079)), none, some ((.l 2), true)⟩,
 ⟨.pick (.l 2) (.l 4) (.c (.b false)), none, none⟩,
 ⟨.mov (.l 5), some 1, none⟩] none)
 .ret)), true, false, none⟩

def tm26 : List Nat := [0, 2]
def bs26 : List Nat := []

-- annuitant/ledger.Balance
def v27 : VFunc :=
 ⟨2, 10, [.s 2, .s 3],
 (.seq (.reg [⟨.lbx (.s 0) 3, some 5, none⟩,
 ⟨.hbx 3 (.s 1) 1, some 6, none⟩,
 ⟨.mov (.c (.i .i64 0)), some 2, none⟩,
 ⟨.mov (.c (.i .i64 0)), some 3, none⟩] none)
 (.seq (.seq (.reg [⟨.lld (.sl 5) 3 true, none, none⟩,
 ⟨.call 56 [(.l 0)], none, none⟩,
 ⟨.un .not (.l 1), some 4, none⟩] none)
 (.cond (.s 4) (.seq (.reg [⟨.mov (.c (.i .i64 0)), some 2, none⟩,
 ⟨.mov (.c (.i .i64 2)), some 3, none⟩] none)
 .ret)
 .skip))
 (.seq (.reg [⟨.ld (.s 6) 1 false, none, none⟩,
 ⟨.lfa (.sl 5) 0, none, none⟩,
 ⟨.lld (.lo 1) 1 false, none, none⟩,
 ⟨.mx [(.l 0), (.l 2)], none, none⟩,
 ⟨.lfa (.sl 5) 0, none, none⟩,
 ⟨.lld (.lo 4) 1 false, none, none⟩,
 ⟨.lfa (.sl 5) 1, none, none⟩,
 ⟨.lld (.lo 6) 1 false, none, none⟩,
 ⟨.len 1 (.l 7), none, none⟩,
 ⟨.bin .add (.l 5) (.l 8), none, none⟩,
 ⟨.mn [(.l 3), (.l 9)], none, none⟩,
 ⟨.mov (.l 10), some 7, none⟩] none)
 (.seq (.reg [⟨.lfa (.sl 5) 1, none, none⟩,
 ⟨.lld (.lo 0) 1 false, none, none⟩,
 ⟨.mov (.s 7), none, none⟩,
 ⟨.lfa (.sl 5) 0, none, none⟩,
 ⟨.lld (.lo 3) 1 false, none, none⟩,
 ⟨.bin .sub (.l 2) (.l 4), none, none⟩,
 ⟨.sli false 1 (.l 1) none (some (.l 5)) none, none, none⟩,
 ⟨.call 59 [(.l 6), (.c (.fn (.func 60) [] []))], none, none⟩,
 ⟨.mov (.l 7), some 8, none⟩] none)
 (.seq (.reg [⟨.lfa (.sl 5) 2, none, none⟩,
 ⟨.lld (.lo 0) 1 false, none, none⟩,
 ⟨.mkf (.func 62) [] [(.s 6)], none, none⟩,
 ⟨.call 61 [(.l 1), (.l 2)], none, none⟩,
 ⟨.mov (.l 3), some 9, none⟩] none)
 (.seq (.reg [⟨.mov (.s 8), none, none⟩,
 ⟨.mov (.s 9), none, none⟩,
 ⟨.bin .sub (.l 0) (.l 1), none, none⟩,
 ⟨.mov (.l 2), some 2, none⟩,
 ⟨.mov (.c (.i .i64 0)), some 3, none⟩] none)
 .ret)))))), true, false, none⟩

def tm27 : List Nat := [0, 1, 4, 5, 11, 2, 3, 6, 7, 8]
def bs27 : List Nat := [5]

-- annuitant/ledger.Posted
def v28 : VFunc :=
 ⟨2, 7, [.s 2, .s 3],
 (.seq (.reg [⟨.lbx (.s 0) 3, some 6, none⟩,
 ⟨.mov (.c (.i .i64 0)), some 2, none⟩,
 ⟨.mov (.c (.i .i64 0)), some 3, none⟩] none)
 (.seq (.seq (.reg [⟨.lld (.sl 6) 3 true, none, none⟩,
 ⟨.call 56 [(.l 0)], none, none⟩,
 ⟨.un .not (.l 1), some 4, none⟩] none)
 (.cond (.s 4) (.seq (.reg [⟨.mov (.c (.i .i64 0)), some 2, none⟩,
 ⟨.mov (.c (.i .i64 2)), some 3, none⟩] none)
 .ret)
 .skip))
 (.seq (.seq (.reg [⟨.lld (.sl 6) 3 true, none, none⟩,
 ⟨.mov (.s 1), none, none⟩,
 ⟨.call 64 [(.l 0), (.l 1)], none, none⟩,
 ⟨.un .not (.l 2), some 5, none⟩] none)
 (.cond (.s 5) (.seq (.reg [⟨.mov (.c (.i .i64 0)), some 2, none⟩,
 ⟨.mov (.c (.i .i64 6)), some 3, none⟩] none)
 .ret)
 .skip))
 (.seq (.reg [⟨.lld (.sl 6) 3 true, none, none⟩,
 ⟨.mov (.s 1), none, none⟩,
 ⟨.call 65 [(.l 0), (.l 1)], none, none⟩,
 ⟨.mov (.l 2), some 2, none⟩,
 ⟨.mov (.c (.i .i64 0)), some 3, none⟩] none)
 .ret)))), true, false, none⟩

def tm28 : List Nat := [0, 1, 4, 5, 8, 12, 2]
def bs28 : List Nat := [6]

-- annuitant/state.yearOf
def v29 : VFunc :=
 ⟨1, 2, [.s 1],
 (.seq (.reg [⟨.mov (.c (.i .i64 0)), some 1, none⟩] none)
 (.seq (.reg [⟨.mov (.s 0), none, none⟩,
 ⟨.bin .quo (.l 0) (.c (.i .i64 12)), none, none⟩,
 ⟨.bin .add (.c (.i .i64 1900)) (.l 1), none, none⟩,
 ⟨.mov (.l 2), some 1, none⟩] none)
 .ret)), true, false, none⟩

def tm29 : List Nat := [0, 2]
def bs29 : List Nat := []

-- annuitant/state.sum[annuitant/run.Slip]
def v30l0 : VCode :=
 (.seq (.reg [⟨.bin .lss (.s 5) (.s 6), some 3, none⟩] none)
 (.seq (.cond (.s 3) .skip
 (.exit 0))
 (.seq (.block 1 (.seq (.reg [⟨.iad (.s 7) (.s 5) 10, none, none⟩,
 ⟨.ld (.l 0) 10 true, none, none⟩,
 ⟨.lal [(.i .i64 0), (.i .i64 0), (.i .i64 0), (.i .i64 0), (.i .i64 0), (.i .i64 0), (.i .i64 0), (.i .i64 0), (.i .i64 0), (.b false)], some 8, none⟩,
 ⟨.lst (.sl 8) (.l 1) 10, none, none⟩] none)
 (.reg [⟨.mov (.s 4), none, none⟩,
 ⟨.mov (.s 1), none, none⟩,
 ⟨.lld (.sl 8) 10 true, none, none⟩,
 ⟨.calv (.l 1) [(.l 2)], none, none⟩,
 ⟨.bin .add (.l 0) (.l 3), none, none⟩,
 ⟨.mov (.l 4), some 4, none⟩] none)))
 (.reg [⟨.bin .add (.s 5) (.c (.i .i64 1)), none, none⟩,
 ⟨.mov (.l 0), some 5, none⟩] none))))
def v30 : VFunc :=
 ⟨2, 9, [.s 2],
 (.seq (.reg [⟨.mov (.c (.i .i64 0)), some 2, none⟩] none)
 (.seq (.reg [⟨.mov (.c (.i .i64 0)), some 4, none⟩] none)
 (.seq (.seq (.reg [⟨.mov (.s 0), some 7, none⟩,
 ⟨.len 1 (.s 7), some 6, none⟩,
 ⟨.mov (.c (.i .i64 0)), some 5, none⟩] none)
 (.block 0 (.loop v30l0)))
 (.seq (.reg [⟨.mov (.s 4), none, none⟩,
 ⟨.mov (.l 0), some 2, none⟩] none)
 .ret)))), false, false, none⟩

def tm30 : List Nat := [0, 1, 4, 11, 5, 10, 9, 8, 7]
def bs30 : List Nat := [8]

-- annuitant/state.Make$1
def v31 : VFunc :=
 ⟨1, 3, [.s 1],
 (.seq (.reg [⟨.lbx (.s 0) 10, some 2, none⟩,
 ⟨.mov (.c (.i .i64 0)), some 1, none⟩] none)
 (.seq (.reg [⟨.lfa (.sl 2) 4, none, none⟩,
 ⟨.lfa (.lo 0) 2, none, none⟩,
 ⟨.lld (.lo 1) 1 false, none, none⟩,
 ⟨.mov (.l 2), some 1, none⟩] none)
 .ret)), true, false, none⟩

def tm31 : List Nat := [0, 2, 1]
def bs31 : List Nat := [2]

-- annuitant/state.Make$2
def v32 : VFunc :=
 ⟨1, 3, [.s 1],
 (.seq (.reg [⟨.lbx (.s 0) 10, some 2, none⟩,
 ⟨.mov (.c (.i .i64 0)), some 1, none⟩] none)
 (.seq (.reg [⟨.lfa (.sl 2) 4, none, none⟩,
 ⟨.lfa (.lo 0) 3, none, none⟩,
 ⟨.lld (.lo 1) 1 false, none, none⟩,
 ⟨.mov (.l 2), some 1, none⟩] none)
 .ret)), true, false, none⟩

def tm32 : List Nat := [0, 2, 1]
def bs32 : List Nat := [2]

-- annuitant/state.Make$3
def v33 : VFunc :=
 ⟨2, 4, [.s 2],
 (.seq (.reg [⟨.lbx (.s 0) 10, some 3, none⟩,
 ⟨.mov (.c (.i .i64 0)), some 2, none⟩] none)
 (.seq (.reg [⟨.fad (.s 1) 0, none, none⟩,
 ⟨.fad (.l 0) 2, none, none⟩,
 ⟨.ld (.l 1) 1 false, none, none⟩,
 ⟨.lfa (.sl 3) 2, none, none⟩,
 ⟨.lld (.lo 3) 1 false, none, none⟩,
 ⟨.lfa (.sl 3) 3, none, none⟩,
 ⟨.lld (.lo 5) 1 false, none, none⟩,
 ⟨.sli false 4 (.l 2) (some (.l 4)) (some (.l 6)) none, none, none⟩,
 ⟨.call 34 [(.l 7), (.c (.fn (.func 35) [] []))], none, none⟩,
 ⟨.mov (.l 8), some 2, none⟩] none)
 .ret)), false, false, none⟩

def tm33 : List Nat := [0, 1, 3, 2]
def bs33 : List Nat := [3]

-- annuitant/state.sum[annuitant/api.Paid]
def v34l0 : VCode :=
 (.seq (.reg [⟨.bin .lss (.s 5) (.s 6), some 3, none⟩] none)
 (.seq (.cond (.s 3) .skip
 (.exit 0))
 (.seq (.block 1 (.seq (.reg [⟨.iad (.s 7) (.s 5) 4, none, none⟩,
 ⟨.ld (.l 0) 4 true, none, none⟩,
 ⟨.lal [(.i .i64 0), (.i .i64 0), (.i .u8 0), (.i .i64 0)], some 8, none⟩,
 ⟨.lst (.sl 8) (.l 1) 4, none, none⟩] none)
 (.reg [⟨.mov (.s 4), none, none⟩,
 ⟨.mov (.s 1), none, none⟩,
 ⟨.lld (.sl 8) 4 true, none, none⟩,
 ⟨.calv (.l 1) [(.l 2)], none, none⟩,
 ⟨.bin .add (.l 0) (.l 3), none, none⟩,
 ⟨.mov (.l 4), some 4, none⟩] none)))
 (.reg [⟨.bin .add (.s 5) (.c (.i .i64 1)), none, none⟩,
 ⟨.mov (.l 0), some 5, none⟩] none))))
def v34 : VFunc :=
 ⟨2, 9, [.s 2],
 (.seq (.reg [⟨.mov (.c (.i .i64 0)), some 2, none⟩] none)
 (.seq (.reg [⟨.mov (.c (.i .i64 0)), some 4, none⟩] none)
 (.seq (.seq (.reg [⟨.mov (.s 0), some 7, none⟩,
 ⟨.len 1 (.s 7), some 6, none⟩,
 ⟨.mov (.c (.i .i64 0)), some 5, none⟩] none)
 (.block 0 (.loop v34l0)))
 (.seq (.reg [⟨.mov (.s 4), none, none⟩,
 ⟨.mov (.l 0), some 2, none⟩] none)
 .ret)))), false, false, none⟩

def tm34 : List Nat := [0, 1, 4, 11, 5, 10, 9, 8, 7]
def bs34 : List Nat := [8]

-- annuitant/state.Make$3$1
def v35 : VFunc :=
 ⟨1, 4, [.s 1],
 (.seq (.reg [⟨.lbx (.s 0) 4, some 3, none⟩,
 ⟨.mov (.c (.i .i64 0)), some 1, none⟩] none)
 (.seq (.seq (.reg [⟨.lfa (.sl 3) 2, none, none⟩,
 ⟨.lld (.lo 0) 1 false, none, none⟩,
 ⟨.bin .neq (.l 1) (.c (.i .u8 3)), some 2, none⟩] none)
 (.cond (.s 2) (.seq (.reg [⟨.mov (.c (.i .i64 0)), some 1, none⟩] none)
 .ret)
 .skip))
 (.seq (.reg [⟨.lfa (.sl 3) 3, none, none⟩,
 ⟨.lld (.lo 0) 1 false, none, none⟩,
 ⟨.mov (.l 1), some 1, none⟩] none)
 .ret))), true, false, none⟩

def tm35 : List Nat := [0, 2, 5, 1]
def bs35 : List Nat := [3]

-- annuitant/state.Right
def v36l0 : VCode :=
 (.seq (.reg [⟨.bin .lss (.s 8) (.s 9), some 4, none⟩] none)
 (.seq (.cond (.s 4) .skip
 (.exit 0))
 (.seq (.block 1 (.seq (.reg [⟨.mov (.s 8), none, none⟩,
 ⟨.iad (.s 10) (.s 8) 4, none, none⟩,
 ⟨.ld (.l 1) 4 true, none, none⟩,
 ⟨.lal [(.i .i64 0), (.i .i64 0), (.i .i64 0), (.i .i64 0)], some 11, none⟩,
 ⟨.mov (.l 0), some 12, none⟩,
 ⟨.lst (.sl 11) (.l 2) 4, none, none⟩] none)
 (.seq (.seq (.reg [⟨.lfa (.sl 11) 0, none, none⟩,
 ⟨.lld (.lo 0) 1 false, none, none⟩,
 ⟨.bin .lss (.l 1) (.c (.i .i64 0)), none, none⟩,
 ⟨.mov (.l 2), none, none⟩,
 ⟨.lfa (.sl 11) 0, none, some ((.l 3), false)⟩,
 ⟨.lld (.lo 4) 1 false, none, some ((.l 3), false)⟩,
 ⟨.call 29 [(.l 5)], none, some ((.l 3), false)⟩,
 ⟨.lfa (.sl 7) 0, none, some ((.l 3), false)⟩,
 ⟨.lld (.lo 7) 1 false, none, some ((.l 3), false)⟩,
 ⟨.bin .neq (.l 6) (.l 8), none, some ((.l 3), false)⟩,
 ⟨.pick (.l 3) (.c (.b true)) (.l 9), none, none⟩,
 ⟨.mov (.l 10), none, none⟩,
 ⟨.mov (.s 12), none, some ((.l 11), false)⟩,
 ⟨.bin .gtr (.l 12) (.c (.i .i64 0)), none, some ((.l 11), false)⟩,
 ⟨.mov (.l 13), none, some ((.l 11), false)⟩,
 ⟨.lfa (.sl 11) 0, none, some ((.l 14), true)⟩,
 ⟨.lld (.lo 15) 1 false, none, some ((.l 14), true)⟩,
 ⟨.lfa (.sl 7) 3, none, some ((.l 14), true)⟩,
 ⟨.lld (.lo 17) 1 false, none, some ((.l 14), true)⟩,
 ⟨.mov (.s 12), none, some ((.l 14), true)⟩,
 ⟨.bin .sub (.l 19) (.c (.i .i64 1)), none, some ((.l 14), true)⟩,
 ⟨.iad (.l 18) (.l 20) 4, none, some ((.l 14), true)⟩,
 ⟨.fad (.l 21) 0, none, some ((.l 14), true)⟩,
 ⟨.ld (.l 22) 1 false, none, some ((.l 14), true)⟩,
 ⟨.bin .add (.l 23) (.c (.i .i64 1)), none, some ((.l 14), true)⟩,
 ⟨.bin .neq (.l 16) (.l 24), none, some ((.l 14), true)⟩,
 ⟨.pick (.l 14) (.l 25) (.c (.b false)), none, some ((.l 11), false)⟩,
 ⟨.pick (.l 11) (.c (.b true)) (.l 26), some 5, none⟩] (some false))
 (.cond (.s 5) (.seq (.reg [⟨.mov (.c (.b false)), some 1, none⟩] none)
 .ret)
 .skip))
 (.seq (.reg [⟨.lfa (.sl 11) 1, none, none⟩,
 ⟨.lld (.lo 0) 1 false, none, none⟩,
 ⟨.bin .lss (.l 1) (.c (.i .i64 0)), none, none⟩,
 ⟨.mov (.l 2), none, none⟩,
 ⟨.lfa (.sl 11) 1, none, some ((.l 3), false)⟩,
 ⟨.lld (.lo 4) 1 false, none, some ((.l 3), false)⟩,
 ⟨.bin .gtr (.l 5) (.c (.i .i64 1099511627776)), none, some ((.l 3), false)⟩,
 ⟨.pick (.l 3) (.c (.b true)) (.l 6), none, none⟩,
 ⟨.mov (.l 7), none, none⟩,
 ⟨.lfa (.sl 11) 2, none, some ((.l 8), false)⟩,
 ⟨.lld (.lo 9) 1 false, none, some ((.l 8), false)⟩,
 ⟨.lfa (.sl 11) 3, none, some ((.l 8), false)⟩,
 ⟨.lld (.lo 11) 1 false, none, some ((.l 8), false)⟩,
 ⟨.bsv 1 2 [(.i .i64 0)] [(0, (.l 10)), (1, (.l 12))], none, some ((.l 8), false)⟩,
 ⟨.call 66 [(.l 13)], none, some ((.l 8), false)⟩,
 ⟨.un .not (.l 14), none, some ((.l 8), false)⟩,
 ⟨.pick (.l 8) (.c (.b true)) (.l 15), none, none⟩,
 ⟨.mov (.l 16), none, none⟩,
 ⟨.lfa (.sl 11) 3, none, some ((.l 17), false)⟩,
 ⟨.lld (.lo 18) 1 false, none, some ((.l 17), false)⟩,
 ⟨.lfa (.sl 11) 1, none, some ((.l 17), false)⟩,
 ⟨.lld (.lo 20) 1 false, none, some ((.l 17), false)⟩,
 ⟨.lfa (.sl 11) 2, none, some ((.l 17), false)⟩,
 ⟨.lld (.lo 22) 1 false, none, some ((.l 17), false)⟩,
 ⟨.bin .sub (.l 21) (.l 23), none, some ((.l 17), false)⟩,
 ⟨.bin .neq (.l 19) (.l 24), none, some ((.l 17), false)⟩,
 ⟨.pick (.l 17) (.c (.b true)) (.l 25), some 6, none⟩] none)
 (.cond (.s 6) (.seq (.reg [⟨.mov (.c (.b false)), some 1, none⟩] none)
 .ret)
 .skip)))))
 (.reg [⟨.bin .add (.s 8) (.c (.i .i64 1)), none, none⟩,
 ⟨.mov (.l 0), some 8, none⟩] none))))
def v36 : VFunc :=
 ⟨1, 13, [.s 1],
 (.seq (.reg [⟨.lbx (.s 0) 8, some 7, none⟩,
 ⟨.mov (.c (.b false)), some 1, none⟩] none)
 (.seq (.seq (.reg [⟨.lfa (.sl 7) 0, none, none⟩,
 ⟨.lld (.lo 0) 1 false, none, none⟩,
 ⟨.call 26 [(.l 1)], none, none⟩,
 ⟨.un .not (.l 2), none, none⟩,
 ⟨.mov (.l 3), none, none⟩,
 ⟨.lfa (.sl 7) 3, none, some ((.l 4), false)⟩,
 ⟨.lld (.lo 5) 1 false, none, some ((.l 4), false)⟩,
 ⟨.len 1 (.l 6), none, some ((.l 4), false)⟩,
 ⟨.bin .gtr (.l 7) (.c (.i .i64 12)), none, some ((.l 4), false)⟩,
 ⟨.pick (.l 4) (.c (.b true)) (.l 8), some 2, none⟩] none)
 (.cond (.s 2) (.seq (.reg [⟨.mov (.c (.b false)), some 1, none⟩] none)
 .ret)
 .skip))
 (.seq (.seq (.reg [⟨.lfa (.sl 7) 1, none, none⟩,
 ⟨.lld (.lo 0) 1 false, none, none⟩,
 ⟨.lfa (.sl 7) 2, none, none⟩,
 ⟨.lld (.lo 2) 1 false, none, none⟩,
 ⟨.lfa (.sl 7) 4, none, none⟩,
 ⟨.lld (.lo 4) 1 false, none, none⟩,
 ⟨.lfa (.sl 7) 5, none, none⟩,
 ⟨.lld (.lo 6) 1 false, none, none⟩,
 ⟨.lfa (.sl 7) 6, none, none⟩,
 ⟨.lld (.lo 8) 1 false, none, none⟩,
 ⟨.lfa (.sl 7) 7, none, none⟩,
 ⟨.lld (.lo 10) 1 false, none, none⟩,
 ⟨.bsv 1 6 [(.i .i64 0)] [(0, (.l 1)), (1, (.l 3)), (2, (.l 5)), (3, (.l 7)), (4, (.l 9)), (5, (.l 11))], none, none⟩,
 ⟨.call 66 [(.l 12)], none, none⟩,
 ⟨.un .not (.l 13), none, none⟩,
 ⟨.mov (.l 14), none, none⟩,
 ⟨.lfa (.sl 7) 6, none, some ((.l 15), false)⟩,
 ⟨.lld (.lo 16) 1 false, none, some ((.l 15), false)⟩,
 ⟨.lfa (.sl 7) 4, none, some ((.l 15), false)⟩,
 ⟨.lld (.lo 18) 1 false, none, some ((.l 15), false)⟩,
 ⟨.lfa (.sl 7) 5, none, some ((.l 15), false)⟩,
 ⟨.lld (.lo 20) 1 false, none, some ((.l 15), false)⟩,
 ⟨.bin .sub (.l 19) (.l 21), none, some ((.l 15), false)⟩,
 ⟨.bin .neq (.l 17) (.l 22), none, some ((.l 15), false)⟩,
 ⟨.pick (.l 15) (.c (.b true)) (.l 23), some 3, none⟩] none)
 (.cond (.s 3) (.seq (.reg [⟨.mov (.c (.b false)), some 1, none⟩] none)
 .ret)
 .skip))
 (.seq (.seq (.reg [⟨.lfa (.sl 7) 3, none, none⟩,
 ⟨.lld (.lo 0) 1 false, some 10, none⟩,
 ⟨.len 1 (.s 10), some 9, none⟩,
 ⟨.mov (.c (.i .i64 0)), some 8, none⟩] none)
 (.block 0 (.loop v36l0)))
 (.seq (.reg [⟨.lfa (.sl 7) 2, none, none⟩,
 ⟨.lld (.lo 0) 1 false, none, none⟩,
 ⟨.lfa (.sl 7) 1, none, none⟩,
 ⟨.lld (.lo 2) 1 false, none, none⟩,
 ⟨.lfa (.sl 7) 3, none, none⟩,
 ⟨.lld (.lo 4) 1 false, none, none⟩,
 ⟨.call 67 [(.l 5), (.c (.fn (.func 68) [] []))], none, none⟩,
 ⟨.bin .add (.l 3) (.l 6), none, none⟩,
 ⟨.bin .eql (.l 1) (.l 7), none, none⟩,
 ⟨.mov (.l 8), some 1, none⟩] (some false))
 .ret))))), true, false, none⟩

def tm36 : List Nat := [0, 2, 14, 39, 44, 75, 102, 1, 43, 42, 41, 4, 3]
def bs36 : List Nat := [7, 11]

-- (*strings.Builder).WriteString
def v37 : VFunc :=
 ⟨2, 4, [.s 2, .s 3],
 (.seq (.reg [⟨.mov (.c (.i .i64 0)), some 2, none⟩,
 ⟨.mov (.c .ni), some 3, none⟩] none)
 (.seq (.reg [⟨.mov (.s 0), none, none⟩,
 ⟨.call 69 [(.l 0)], none, none⟩] none)
 (.seq (.reg [⟨.mov (.s 0), none, none⟩,
 ⟨.mov (.s 0), none, none⟩,
 ⟨.nck (.l 1), none, none⟩,
 ⟨.fad (.l 2) 1, none, none⟩,
 ⟨.ld (.l 3) 1 false, none, none⟩,
 ⟨.mov (.s 1), none, none⟩,
 ⟨.app (.l 4) (.l 5) 1 1 true, none, none⟩,
 ⟨.nck (.l 0), none, none⟩,
 ⟨.fad (.l 7) 1, none, none⟩,
 ⟨.st (.l 8) (.l 6) 1, none, none⟩] none)
 (.seq (.reg [⟨.mov (.s 1), none, none⟩,
 ⟨.len 0 (.l 0), none, none⟩,
 ⟨.mov (.l 1), some 2, none⟩,
 ⟨.mov (.c .ni), some 3, none⟩] none)
 .ret)))), false, false, none⟩

def tm37 : List Nat := [0, 1, 4, 5]
def bs37 : List Nat := []

-- annuitant/state.line
def v38l0 : VCode :=
 (.seq (.reg [⟨.bin .lss (.s 5) (.s 6), some 2, none⟩] none)
 (.seq (.cond (.s 2) .skip
 (.exit 0))
 (.seq (.block 1 (.seq (.reg [⟨.mov (.s 5), none, none⟩,
 ⟨.iad (.s 7) (.s 5) 1, none, none⟩,
 ⟨.ld (.l 1) 1 false, none, none⟩,
 ⟨.mov (.l 0), some 12, none⟩,
 ⟨.mov (.l 2), some 8, none⟩] none)
 (.seq (.reg [⟨.mov (.s 8), some 9, none⟩] none)
 (.block 2 (.seq (.reg [⟨.tas (.s 9) 9 true (.s []), none, none⟩,
 ⟨.ext (.l 0) 1, some 3, none⟩,
 ⟨.ext (.l 0) 0, some 10, none⟩] none)
 (.cond (.s 3) (.seq (.reg [⟨.mov (.s 10), some 13, none⟩] none)
 (.reg [⟨.mov (.s 11), none, none⟩,
 ⟨.mov (.s 12), none, none⟩,
 ⟨.mov (.s 13), none, none⟩,
 ⟨.iad (.l 0) (.l 1) 1, none, none⟩,
 ⟨.st (.l 3) (.l 2) 1, none, none⟩] none))
 (.seq (.reg [⟨.tas (.s 9) 3 true (.i .i64 0), none, none⟩,
 ⟨.ext (.l 0) 1, some 4, none⟩,
 ⟨.ext (.l 0) 0, some 14, none⟩] none)
 (.cond (.s 4) (.seq (.reg [⟨.mov (.s 14), some 15, none⟩] none)
 (.reg [⟨.mov (.s 11), none, none⟩,
 ⟨.mov (.s 12), none, none⟩,
 ⟨.mov (.s 15), none, none⟩,
 ⟨.call 70 [(.l 2)], none, none⟩,
 ⟨.iad (.l 0) (.l 1) 1, none, none⟩,
 ⟨.st (.l 4) (.l 3) 1, none, none⟩] none))
 .skip))))))))
 (.reg [⟨.bin .add (.s 5) (.c (.i .i64 1)), none, none⟩,
 ⟨.mov (.l 0), some 5, none⟩] none))))
def v38 : VFunc :=
 ⟨1, 16, [.s 1],
 (.seq (.reg [⟨.mov (.c (.s [])), some 1, none⟩] none)
 (.seq (.reg [⟨.mov (.s 0), none, none⟩,
 ⟨.len 1 (.l 0), none, none⟩,
 ⟨.mks (.l 1) (.l 1) 1 16 [(.s [])] true, none, none⟩,
 ⟨.mov (.l 2), some 11, none⟩] none)
 (.seq (.seq (.reg [⟨.mov (.s 0), some 7, none⟩,
 ⟨.len 1 (.s 7), some 6, none⟩,
 ⟨.mov (.c (.i .i64 0)), some 5, none⟩] none)
 (.block 0 (.loop v38l0)))
 (.seq (.reg [⟨.mov (.s 11), none, none⟩,
 ⟨.call 71 [(.l 0), (.c (.s [32]))], none, none⟩,
 ⟨.bin .add (.l 1) (.c (.s [10])), none, none⟩,
 ⟨.mov (.l 2), some 1, none⟩] none)
 .ret)))), true, false, none⟩

def tm38 : List Nat := [0, 2, 14, 20, 27, 13, 12, 11, 5, 18, 21, 3, 4, 6, 28, 7]
def bs38 : List Nat := []

-- annuitant/state.monthText
def v39 : VFunc :=
 ⟨1, 4, [.s 1],
 (.seq (.reg [⟨.mov (.c (.s [])), some 1, none⟩] none)
 (.seq (.reg [⟨.mov (.s 0), none, none⟩,
 ⟨.bin .rem (.l 0) (.c (.i .i64 12)), none, none⟩,
 ⟨.bin .add (.l 1) (.c (.i .i64 1)), none, none⟩,
 ⟨.call 70 [(.l 2)], none, none⟩,
 ⟨.mov (.l 3), some 3, none⟩] none)
 (.seq (.seq (.reg [⟨.mov (.s 3), none, none⟩,
 ⟨.len 0 (.l 0), none, none⟩,
 ⟨.bin .lss (.l 1) (.c (.i .i64 2)), some 2, none⟩] none)
 (.cond (.s 2) (.reg [⟨.mov (.s 3), none, none⟩,
 ⟨.bin .add (.c (.s [48])) (.l 0), none, none⟩,
 ⟨.mov (.l 1), some 3, none⟩] none)
 .skip))
 (.seq (.reg [⟨.mov (.s 0), none, none⟩,
 ⟨.call 29 [(.l 0)], none, none⟩,
 ⟨.call 70 [(.l 1)], none, none⟩,
 ⟨.bin .add (.l 2) (.c (.s [45])), none, none⟩,
 ⟨.mov (.s 3), none, none⟩,
 ⟨.bin .add (.l 3) (.l 4), none, none⟩,
 ⟨.mov (.l 5), some 1, none⟩] none)
 .ret)))), true, false, none⟩

def tm39 : List Nat := [0, 2, 10, 3]
def bs39 : List Nat := []

-- annuitant/annuitantlaw39.given
def v41l0 : VCode :=
 (.seq (.seq (.reg [⟨.mov (.s 4), none, none⟩,
 ⟨.lfa (.sl 3) 3, none, none⟩,
 ⟨.lld (.lo 1) 1 false, none, none⟩,
 ⟨.len 1 (.l 2), none, none⟩,
 ⟨.bin .lss (.l 0) (.l 3), some 2, none⟩] none)
 (.cond (.s 2) .skip
 (.exit 0)))
 (.seq (.block 1 (.reg [⟨.lfa (.sl 5) 3, none, none⟩,
 ⟨.lld (.lo 0) 1 false, none, none⟩,
 ⟨.lfa (.sl 3) 3, none, none⟩,
 ⟨.lld (.lo 2) 1 false, none, none⟩,
 ⟨.mov (.s 4), none, none⟩,
 ⟨.iad (.l 3) (.l 4) 4, none, none⟩,
 ⟨.fad (.l 5) 0, none, none⟩,
 ⟨.ld (.l 6) 1 false, none, none⟩,
 ⟨.lfa (.sl 3) 3, none, none⟩,
 ⟨.lld (.lo 8) 1 false, none, none⟩,
 ⟨.mov (.s 4), none, none⟩,
 ⟨.iad (.l 9) (.l 10) 4, none, none⟩,
 ⟨.fad (.l 11) 1, none, none⟩,
 ⟨.ld (.l 12) 1 false, none, none⟩,
 ⟨.lfa (.sl 3) 3, none, none⟩,
 ⟨.lld (.lo 14) 1 false, none, none⟩,
 ⟨.mov (.s 4), none, none⟩,
 ⟨.iad (.l 15) (.l 16) 4, none, none⟩,
 ⟨.fad (.l 17) 2, none, none⟩,
 ⟨.ld (.l 18) 1 false, none, none⟩,
 ⟨.lfa (.sl 3) 3, none, none⟩,
 ⟨.lld (.lo 20) 1 false, none, none⟩,
 ⟨.mov (.s 4), none, none⟩,
 ⟨.iad (.l 21) (.l 22) 4, none, none⟩,
 ⟨.fad (.l 23) 3, none, none⟩,
 ⟨.ld (.l 24) 1 false, none, none⟩,
 ⟨.agc [(.i .i64 0), (.i .i64 0), (.i .i64 0), (.i .i64 0)] [(0, 1, (.l 7)), (1, 1, (.l 13)), (2, 1, (.l 19)), (3, 1, (.l 25))], none, none⟩,
 ⟨.bsv 4 1 [(.i .i64 0), (.i .i64 0), (.i .i64 0), (.i .i64 0)] [(0, (.l 26))], none, none⟩,
 ⟨.app (.l 1) (.l 27) 4 32 true, none, none⟩,
 ⟨.lfa (.sl 5) 3, none, none⟩,
 ⟨.lst (.lo 29) (.l 28) 1, none, none⟩] (some false)))
 (.reg [⟨.mov (.s 4), none, none⟩,
 ⟨.bin .add (.l 0) (.c (.i .i64 1)), none, none⟩,
 ⟨.mov (.l 1), some 4, none⟩] none)))
def v41 : VFunc :=
 ⟨1, 6, [.bx 1 8 true],
 (.seq (.reg [⟨.lbx (.s 0) 8, some 3, none⟩,
 ⟨.lal [(.i .i64 0), (.i .i64 0), (.i .i64 0), .nil, (.i .i64 0), (.i .i64 0), (.i .i64 0), (.i .i64 0)], some 1, none⟩] none)
 (.seq (.reg [⟨.lfa (.sl 3) 0, none, none⟩,
 ⟨.lld (.lo 0) 1 false, none, none⟩,
 ⟨.lfa (.sl 3) 1, none, none⟩,
 ⟨.lld (.lo 2) 1 false, none, none⟩,
 ⟨.lfa (.sl 3) 2, none, none⟩,
 ⟨.lld (.lo 4) 1 false, none, none⟩,
 ⟨.lfa (.sl 3) 4, none, none⟩,
 ⟨.lld (.lo 6) 1 false, none, none⟩,
 ⟨.lfa (.sl 3) 5, none, none⟩,
 ⟨.lld (.lo 8) 1 false, none, none⟩,
 ⟨.lfa (.sl 3) 6, none, none⟩,
 ⟨.lld (.lo 10) 1 false, none, none⟩,
 ⟨.lfa (.sl 3) 7, none, none⟩,
 ⟨.lld (.lo 12) 1 false, none, none⟩,
 ⟨.agc [(.i .i64 0), (.i .i64 0), (.i .i64 0), .nil, (.i .i64 0), (.i .i64 0), (.i .i64 0), (.i .i64 0)] [(0, 1, (.l 1)), (1, 1, (.l 3)), (2, 1, (.l 5)), (4, 1, (.l 7)), (5, 1, (.l 9)), (6, 1, (.l 11)), (7, 1, (.l 13))], none, none⟩,
 ⟨.lal [(.i .i64 0), (.i .i64 0), (.i .i64 0), .nil, (.i .i64 0), (.i .i64 0), (.i .i64 0), (.i .i64 0)], some 5, none⟩,
 ⟨.lst (.sl 5) (.l 14) 8, none, none⟩] none)
 (.seq (.seq (.reg [⟨.mov (.c (.i .i64 0)), some 4, none⟩] none)
 (.block 0 (.loop v41l0)))
 (.seq (.reg [⟨.lld (.sl 5) 8 true, none, none⟩,
 ⟨.lst (.sl 1) (.l 0) 8, none, none⟩] none)
 .ret)))), true, false, none⟩

def tm41 : List Nat := [0, 2, 24, 1, 4, 3]
def bs41 : List Nat := [1, 3, 5]

-- annuitant/annuitantref39.Text
def v42 : VFunc :=
 ⟨1, 5, [.s 1, .s 2],
 (.seq (.reg [⟨.lbx (.s 0) 8, some 4, none⟩,
 ⟨.mov (.c (.s [])), some 1, none⟩,
 ⟨.mov (.c (.i .i64 0)), some 2, none⟩] none)
 (.seq (.seq (.reg [⟨.lld (.sl 4) 8 true, none, none⟩,
 ⟨.call 23 [(.l 0)], none, none⟩,
 ⟨.un .not (.l 1), some 3, none⟩] none)
 (.cond (.s 3) (.seq (.reg [⟨.mov (.c (.s [])), some 1, none⟩,
 ⟨.mov (.c (.i .i64 2)), some 2, none⟩] none)
 .ret)
 .skip))
 (.seq (.reg [⟨.lld (.sl 4) 8 true, none, none⟩,
 ⟨.call 24 [(.l 0)], none, none⟩,
 ⟨.mov (.l 1), some 1, none⟩,
 ⟨.mov (.c (.i .i64 0)), some 2, none⟩] none)
 .ret))), true, false, none⟩

def tm42 : List Nat := [0, 2, 3, 6, 1]
def bs42 : List Nat := [4]

-- annuitant/annuitantlaw39.copied
def v43 : VFunc :=
 ⟨1, 4, [.bx 1 7 true],
 (.seq (.reg [⟨.lbx (.s 0) 7, some 2, none⟩,
 ⟨.lal [(.i .i64 0), .nil, .nil, (.i .i64 0), (.i .i64 0), (.i .i64 0), .nil], some 1, none⟩] none)
 (.seq (.reg [⟨.lfa (.sl 2) 0, none, none⟩,
 ⟨.lfa (.lo 0) 0, none, none⟩,
 ⟨.lld (.lo 1) 1 false, none, none⟩,
 ⟨.lfa (.sl 2) 0, none, none⟩,
 ⟨.lfa (.lo 3) 1, none, none⟩,
 ⟨.lld (.lo 4) 1 false, none, none⟩,
 ⟨.call 72 [(.l 5)], none, none⟩,
 ⟨.lfa (.sl 2) 0, none, none⟩,
 ⟨.lfa (.lo 7) 2, none, none⟩,
 ⟨.lld (.lo 8) 1 false, none, none⟩,
 ⟨.call 73 [(.l 9)], none, none⟩,
 ⟨.agc [(.i .i64 0), .nil, .nil] [(0, 1, (.l 2)), (1, 1, (.l 6)), (2, 1, (.l 10))], none, none⟩,
 ⟨.lfa (.sl 2) 3, none, none⟩,
 ⟨.lld (.lo 12) 3 true, none, none⟩,
 ⟨.agc [(.i .i64 0), .nil, .nil, (.i .i64 0), (.i .i64 0), (.i .i64 0), .nil] [(0, 3, (.l 11)), (3, 3, (.l 13))], none, none⟩,
 ⟨.lal [(.i .i64 0), .nil, .nil, (.i .i64 0), (.i .i64 0), (.i .i64 0), .nil], some 3, none⟩,
 ⟨.lst (.sl 3) (.l 14) 7, none, none⟩] (some false))
 (.seq (.reg [⟨.lfa (.sl 3) 6, none, none⟩,
 ⟨.lld (.lo 0) 1 false, none, none⟩,
 ⟨.lfa (.sl 2) 6, none, none⟩,
 ⟨.lld (.lo 2) 1 false, none, none⟩,
 ⟨.app (.l 1) (.l 3) 10 80 true, none, none⟩,
 ⟨.lfa (.sl 3) 6, none, none⟩,
 ⟨.lst (.lo 5) (.l 4) 1, none, none⟩] none)
 (.seq (.reg [⟨.lld (.sl 3) 7 true, none, none⟩,
 ⟨.lst (.sl 1) (.l 0) 7, none, none⟩] none)
 .ret)))), true, false, none⟩

def tm43 : List Nat := [0, 2, 1, 3]
def bs43 : List Nat := [1, 2, 3]

-- annuitant/annuitantref39.Make
def v44l0 : VCode :=
 (.seq (.seq (.reg [⟨.mov (.s 13), none, none⟩,
 ⟨.mov (.s 1), none, none⟩,
 ⟨.bin .sub (.l 1) (.c (.i .i64 1900)), none, none⟩,
 ⟨.bin .mul (.c (.i .i64 12)) (.l 2), none, none⟩,
 ⟨.bin .add (.l 3) (.c (.i .i64 12)), none, none⟩,
 ⟨.bin .lss (.l 0) (.l 4), some 5, none⟩] none)
 (.cond (.s 5) .skip
 (.exit 0)))
 (.seq (.block 1 (.seq (.reg [⟨.lfa (.sl 11) 0, none, none⟩,
 ⟨.lld (.lo 0) 3 true, none, none⟩,
 ⟨.mov (.s 13), none, none⟩,
 ⟨.call 76 [(.l 1), (.l 2)], some 6, none⟩] none)
 (.cond (.s 6) (.seq (.reg [⟨.lfa (.sl 11) 0, none, none⟩,
 ⟨.lfa (.lo 0) 1, none, none⟩,
 ⟨.lld (.lo 1) 1 false, none, none⟩,
 ⟨.mov (.s 13), none, none⟩,
 ⟨.lfa (.sl 11) 0, none, none⟩,
 ⟨.lfa (.lo 4) 0, none, none⟩,
 ⟨.lld (.lo 5) 1 false, none, none⟩,
 ⟨.bin .sub (.l 3) (.l 6), none, none⟩,
 ⟨.iad (.l 2) (.l 7) 1, none, none⟩,
 ⟨.ld (.l 8) 1 false, none, none⟩,
 ⟨.mov (.l 9), some 14, none⟩] none)
 (.seq (.reg [⟨.lfa (.sl 11) 0, none, none⟩,
 ⟨.lld (.lo 0) 3 true, none, none⟩,
 ⟨.mov (.s 13), none, none⟩,
 ⟨.call 77 [(.l 1), (.l 2)], none, none⟩,
 ⟨.mov (.l 3), some 15, none⟩] none)
 (.reg [⟨.lfa (.sl 12) 3, none, none⟩,
 ⟨.lld (.lo 0) 1 false, none, none⟩,
 ⟨.mov (.s 13), none, none⟩,
 ⟨.mov (.s 14), none, none⟩,
 ⟨.mov (.s 15), none, none⟩,
 ⟨.mov (.s 14), none, none⟩,
 ⟨.mov (.s 15), none, none⟩,
 ⟨.bin .sub (.l 5) (.l 6), none, none⟩,
 ⟨.agc [(.i .i64 0), (.i .i64 0), (.i .i64 0), (.i .i64 0)] [(0, 1, (.l 2)), (1, 1, (.l 3)), (2, 1, (.l 4)), (3, 1, (.l 7))], none, none⟩,
 ⟨.bsv 4 1 [(.i .i64 0), (.i .i64 0), (.i .i64 0), (.i .i64 0)] [(0, (.l 8))], none, none⟩,
 ⟨.app (.l 1) (.l 9) 4 32 true, none, none⟩,
 ⟨.lfa (.sl 12) 3, none, none⟩,
 ⟨.lst (.lo 11) (.l 10) 1, none, none⟩] none)))
 .skip)))
 (.reg [⟨.mov (.s 13), none, none⟩,
 ⟨.bin .add (.l 0) (.c (.i .i64 1)), none, none⟩,
 ⟨.mov (.l 1), some 13, none⟩] none)))
def v44l1 : VCode :=
 (.seq (.seq (.reg [⟨.mov (.s 18), none, none⟩,
 ⟨.lfa (.sl 17) 3, none, none⟩,
 ⟨.lld (.lo 1) 1 false, none, none⟩,
 ⟨.bin .lss (.l 0) (.l 2), some 9, none⟩] none)
 (.cond (.s 9) .skip
 (.exit 4)))
 (.seq (.block 5 (.seq (.reg [⟨.lfa (.sl 11) 0, none, none⟩,
 ⟨.lfa (.lo 0) 2, none, none⟩,
 ⟨.lld (.lo 1) 1 false, none, none⟩,
 ⟨.mov (.s 18), none, none⟩,
 ⟨.iad (.l 2) (.l 3) 4, none, none⟩,
 ⟨.fad (.l 4) 2, none, none⟩,
 ⟨.ld (.l 5) 1 false, none, none⟩,
 ⟨.bin .eql (.l 6) (.c (.i .u8 3)), some 10, none⟩] none)
 (.cond (.s 10) (.reg [⟨.lfa (.sl 12) 7, none, none⟩,
 ⟨.lld (.lo 0) 1 false, none, none⟩,
 ⟨.lfa (.sl 11) 0, none, none⟩,
 ⟨.lfa (.lo 2) 2, none, none⟩,
 ⟨.lld (.lo 3) 1 false, none, none⟩,
 ⟨.mov (.s 18), none, none⟩,
 ⟨.iad (.l 4) (.l 5) 4, none, none⟩,
 ⟨.fad (.l 6) 3, none, none⟩,
 ⟨.ld (.l 7) 1 false, none, none⟩,
 ⟨.bin .add (.l 1) (.l 8), none, none⟩,
 ⟨.lfa (.sl 12) 7, none, none⟩,
 ⟨.lst (.lo 10) (.l 9) 1, none, none⟩] (some false))
 .skip)))
 (.reg [⟨.mov (.s 18), none, none⟩,
 ⟨.bin .add (.l 0) (.c (.i .i64 1)), none, none⟩,
 ⟨.mov (.l 1), some 18, none⟩] none)))
def v44l2 : VCode :=
 (.seq (.seq (.reg [⟨.mov (.s 16), none, none⟩,
 ⟨.lfa (.sl 11) 6, none, none⟩,
 ⟨.lld (.lo 1) 1 false, none, none⟩,
 ⟨.len 1 (.l 2), none, none⟩,
 ⟨.bin .lss (.l 0) (.l 3), some 7, none⟩] none)
 (.cond (.s 7) .skip
 (.exit 2)))
 (.seq (.block 3 (.seq (.reg [⟨.lfa (.sl 11) 6, none, none⟩,
 ⟨.lld (.lo 0) 1 false, none, none⟩,
 ⟨.mov (.s 16), none, none⟩,
 ⟨.iad (.l 1) (.l 2) 10, none, none⟩,
 ⟨.ld (.l 3) 10 true, none, none⟩,
 ⟨.lal [(.i .i64 0), (.i .i64 0), (.i .i64 0), (.i .i64 0), (.i .i64 0), (.i .i64 0), (.i .i64 0), (.i .i64 0), (.i .i64 0), (.b false)], some 17, none⟩,
 ⟨.lst (.sl 17) (.l 4) 10, none, none⟩] none)
 (.seq (.seq (.reg [⟨.lfa (.sl 17) 9, none, none⟩,
 ⟨.lld (.lo 0) 1 false, none, none⟩,
 ⟨.mov (.l 1), none, none⟩,
 ⟨.lfa (.sl 17) 0, none, some ((.l 2), false)⟩,
 ⟨.lld (.lo 3) 1 false, none, some ((.l 2), false)⟩,
 ⟨.mov (.s 1), none, some ((.l 2), false)⟩,
 ⟨.call 55 [(.l 4), (.l 5)], none, some ((.l 2), false)⟩,
 ⟨.un .not (.l 6), none, some ((.l 2), false)⟩,
 ⟨.pick (.l 2) (.c (.b true)) (.l 7), some 8, none⟩] none)
 (.cond (.s 8) (.exit 3)
 .skip))
 (.seq (.reg [⟨.lfa (.sl 12) 4, none, none⟩,
 ⟨.lld (.lo 0) 1 false, none, none⟩,
 ⟨.lfa (.sl 17) 4, none, none⟩,
 ⟨.lfa (.lo 2) 2, none, none⟩,
 ⟨.lld (.lo 3) 1 false, none, none⟩,
 ⟨.bin .add (.l 1) (.l 4), none, none⟩,
 ⟨.lfa (.sl 12) 4, none, none⟩,
 ⟨.lst (.lo 6) (.l 5) 1, none, none⟩] none)
 (.seq (.reg [⟨.lfa (.sl 12) 5, none, none⟩,
 ⟨.lld (.lo 0) 1 false, none, none⟩,
 ⟨.lfa (.sl 17) 4, none, none⟩,
 ⟨.lfa (.lo 2) 3, none, none⟩,
 ⟨.lld (.lo 3) 1 false, none, none⟩,
 ⟨.bin .add (.l 1) (.l 4), none, none⟩,
 ⟨.lfa (.sl 12) 5, none, none⟩,
 ⟨.lst (.lo 6) (.l 5) 1, none, none⟩] none)
 (.seq (.reg [⟨.lfa (.sl 17) 2, none, none⟩,
 ⟨.lld (.lo 0) 1 false, none, none⟩,
 ⟨.mov (.l 1), some 18, none⟩] none)
 (.block 4 (.loop v44l1))))))))
 (.reg [⟨.mov (.s 16), none, none⟩,
 ⟨.bin .add (.l 0) (.c (.i .i64 1)), none, none⟩,
 ⟨.mov (.l 1), some 16, none⟩] none)))
def v44 : VFunc :=
 ⟨2, 19, [.bx 2 8 true, .s 3],
 (.seq (.reg [⟨.lbx (.s 0) 7, some 11, none⟩,
 ⟨.lal [(.i .i64 0), (.i .i64 0), (.i .i64 0), .nil, (.i .i64 0), (.i .i64 0), (.i .i64 0), (.i .i64 0)], some 2, none⟩,
 ⟨.mov (.c (.i .i64 0)), some 3, none⟩] none)
 (.seq (.seq (.reg [⟨.lld (.sl 11) 7 true, none, none⟩,
 ⟨.call 74 [(.l 0)], none, none⟩,
 ⟨.un .not (.l 1), none, none⟩,
 ⟨.mov (.l 2), none, none⟩,
 ⟨.mov (.s 1), none, some ((.l 3), false)⟩,
 ⟨.bin .lss (.l 4) (.c (.i .i64 1900)), none, some ((.l 3), false)⟩,
 ⟨.pick (.l 3) (.c (.b true)) (.l 5), none, none⟩,
 ⟨.mov (.l 6), none, none⟩,
 ⟨.mov (.s 1), none, some ((.l 7), false)⟩,
 ⟨.bin .gtr (.l 8) (.c (.i .i64 2079)), none, some ((.l 7), false)⟩,
 ⟨.pick (.l 7) (.c (.b true)) (.l 9), some 4, none⟩] none)
 (.cond (.s 4) (.seq (.reg [⟨.agc [(.i .i64 0), (.i .i64 0), (.i .i64 0), .nil, (.i .i64 0), (.i .i64 0), (.i .i64 0), (.i .i64 0)] [], none, none⟩,
 ⟨.lst (.sl 2) (.l 0) 8, none, none⟩,
 ⟨.mov (.c (.i .i64 2)), some 3, none⟩] none)
 .ret)
 .skip))
 (.seq (.reg [⟨.mov (.s 1), none, none⟩,
 ⟨.agc [(.i .i64 0), (.i .i64 0), (.i .i64 0), .nil, (.i .i64 0), (.i .i64 0), (.i .i64 0), (.i .i64 0)] [(0, 1, (.l 0))], none, none⟩,
 ⟨.lal [(.i .i64 0), (.i .i64 0), (.i .i64 0), .nil, (.i .i64 0), (.i .i64 0), (.i .i64 0), (.i .i64 0)], some 12, none⟩,
 ⟨.lst (.sl 12) (.l 1) 8, none, none⟩] none)
 (.seq (.reg [⟨.lfa (.sl 11) 0, none, none⟩,
 ⟨.lld (.lo 0) 3 true, none, none⟩,
 ⟨.mov (.s 1), none, none⟩,
 ⟨.bin .sub (.l 2) (.c (.i .i64 1900)), none, none⟩,
 ⟨.bin .mul (.c (.i .i64 12)) (.l 3), none, none⟩,
 ⟨.call 75 [(.l 1), (.l 4)], none, none⟩,
 ⟨.lfa (.sl 12) 1, none, none⟩,
 ⟨.lst (.lo 6) (.l 5) 1, none, none⟩] none)
 (.seq (.reg [⟨.lfa (.sl 11) 0, none, none⟩,
 ⟨.lld (.lo 0) 3 true, none, none⟩,
 ⟨.mov (.s 1), none, none⟩,
 ⟨.bin .sub (.l 2) (.c (.i .i64 1900)), none, none⟩,
 ⟨.bin .mul (.c (.i .i64 12)) (.l 3), none, none⟩,
 ⟨.bin .add (.l 4) (.c (.i .i64 12)), none, none⟩,
 ⟨.call 75 [(.l 1), (.l 5)], none, none⟩,
 ⟨.lfa (.sl 12) 2, none, none⟩,
 ⟨.lst (.lo 7) (.l 6) 1, none, none⟩] none)
 (.seq (.seq (.reg [⟨.mov (.s 1), none, none⟩,
 ⟨.bin .sub (.l 0) (.c (.i .i64 1900)), none, none⟩,
 ⟨.bin .mul (.c (.i .i64 12)) (.l 1), none, none⟩,
 ⟨.mov (.l 2), some 13, none⟩] none)
 (.block 0 (.loop v44l0)))
 (.seq (.seq (.reg [⟨.mov (.c (.i .i64 0)), some 16, none⟩] none)
 (.block 2 (.loop v44l2)))
 (.seq (.reg [⟨.lfa (.sl 12) 4, none, none⟩,
 ⟨.lld (.lo 0) 1 false, none, none⟩,
 ⟨.lfa (.sl 12) 5, none, none⟩,
 ⟨.lld (.lo 2) 1 false, none, none⟩,
 ⟨.bin .sub (.l 1) (.l 3), none, none⟩,
 ⟨.lfa (.sl 12) 6, none, none⟩,
 ⟨.lst (.lo 5) (.l 4) 1, none, none⟩] none)
 (.seq (.reg [⟨.lld (.sl 12) 8 true, none, none⟩,
 ⟨.lst (.sl 2) (.l 0) 8, none, none⟩,
 ⟨.mov (.c (.i .i64 0)), some 3, none⟩] none)
 .ret))))))))), true, false, none⟩

def tm44 : List Nat := [0, 1, 4, 5, 23, 50, 56, 87, 103, 123, 133, 2, 6, 7, 8, 9, 10, 11, 12]
def bs44 : List Nat := [2, 11, 12, 17]

-- annuitant/annuitantlaw39.paid
def v45l0 : VCode :=
 (.seq (.seq (.reg [⟨.mov (.s 4), none, none⟩,
 ⟨.lfa (.sl 3) 6, none, none⟩,
 ⟨.lld (.lo 1) 1 false, none, none⟩,
 ⟨.len 1 (.l 2), none, none⟩,
 ⟨.bin .lss (.l 0) (.l 3), some 2, none⟩] none)
 (.cond (.s 2) .skip
 (.exit 0)))
 (.seq (.block 1 (.seq (.reg [⟨.lfa (.sl 3) 6, none, none⟩,
 ⟨.lld (.lo 0) 1 false, none, none⟩,
 ⟨.mov (.s 4), none, none⟩,
 ⟨.iad (.l 1) (.l 2) 10, none, none⟩,
 ⟨.ld (.l 3) 10 true, none, none⟩,
 ⟨.lal [(.i .i64 0), (.i .i64 0), (.i .i64 0), (.i .i64 0), (.i .i64 0), (.i .i64 0), (.i .i64 0), (.i .i64 0), (.i .i64 0), (.b false)], some 6, none⟩,
 ⟨.lst (.sl 6) (.l 4) 10, none, none⟩] none)
 (.reg [⟨.lfa (.sl 5) 6, none, none⟩,
 ⟨.lld (.lo 0) 1 false, none, none⟩,
 ⟨.lfa (.sl 6) 0, none, none⟩,
 ⟨.lld (.lo 2) 1 false, none, none⟩,
 ⟨.lfa (.sl 6) 1, none, none⟩,
 ⟨.lld (.lo 4) 1 false, none, none⟩,
 ⟨.lfa (.sl 6) 2, none, none⟩,
 ⟨.lld (.lo 6) 1 false, none, none⟩,
 ⟨.lfa (.sl 6) 3, none, none⟩,
 ⟨.lld (.lo 8) 1 false, none, none⟩,
 ⟨.lfa (.sl 6) 4, none, none⟩,
 ⟨.lld (.lo 10) 5 true, none, none⟩,
 ⟨.lfa (.sl 6) 9, none, none⟩,
 ⟨.lld (.lo 12) 1 false, none, none⟩,
 ⟨.agc [(.i .i64 0), (.i .i64 0), (.i .i64 0), (.i .i64 0), (.i .i64 0), (.i .i64 0), (.i .i64 0), (.i .i64 0), (.i .i64 0), (.b false)] [(0, 1, (.l 3)), (1, 1, (.l 5)), (2, 1, (.l 7)), (3, 1, (.l 9)), (4, 5, (.l 11)), (9, 1, (.l 13))], none, none⟩,
 ⟨.bsv 10 1 [(.i .i64 0), (.i .i64 0), (.i .i64 0), (.i .i64 0), (.i .i64 0), (.i .i64 0), (.i .i64 0), (.i .i64 0), (.i .i64 0), (.b false)] [(0, (.l 14))], none, none⟩,
 ⟨.app (.l 1) (.l 15) 10 80 true, none, none⟩,
 ⟨.lfa (.sl 5) 6, none, none⟩,
 ⟨.lst (.lo 17) (.l 16) 1, none, none⟩] none)))
 (.reg [⟨.mov (.s 4), none, none⟩,
 ⟨.bin .add (.l 0) (.c (.i .i64 1)), none, none⟩,
 ⟨.mov (.l 1), some 4, none⟩] none)))
def v45 : VFunc :=
 ⟨1, 7, [.bx 1 7 true],
 (.seq (.reg [⟨.lbx (.s 0) 7, some 3, none⟩,
 ⟨.lal [(.i .i64 0), .nil, .nil, (.i .i64 0), (.i .i64 0), (.i .i64 0), .nil], some 1, none⟩] none)
 (.seq (.reg [⟨.lfa (.sl 3) 0, none, none⟩,
 ⟨.lfa (.lo 0) 0, none, none⟩,
 ⟨.lld (.lo 1) 1 false, none, none⟩,
 ⟨.lfa (.sl 3) 0, none, none⟩,
 ⟨.lfa (.lo 3) 1, none, none⟩,
 ⟨.lld (.lo 4) 1 false, none, none⟩,
 ⟨.call 72 [(.l 5)], none, none⟩,
 ⟨.lfa (.sl 3) 0, none, none⟩,
 ⟨.lfa (.lo 7) 2, none, none⟩,
 ⟨.lld (.lo 8) 1 false, none, none⟩,
 ⟨.call 73 [(.l 9)], none, none⟩,
 ⟨.agc [(.i .i64 0), .nil, .nil] [(0, 1, (.l 2)), (1, 1, (.l 6)), (2, 1, (.l 10))], none, none⟩,
 ⟨.lfa (.sl 3) 3, none, none⟩,
 ⟨.lfa (.lo 12) 0, none, none⟩,
 ⟨.lld (.lo 13) 1 false, none, none⟩,
 ⟨.lfa (.sl 3) 3, none, none⟩,
 ⟨.lfa (.lo 15) 1, none, none⟩,
 ⟨.lld (.lo 16) 1 false, none, none⟩,
 ⟨.lfa (.sl 3) 3, none, none⟩,
 ⟨.lfa (.lo 18) 2, none, none⟩,
 ⟨.lld (.lo 19) 1 false, none, none⟩,
 ⟨.agc [(.i .i64 0), (.i .i64 0), (.i .i64 0)] [(0, 1, (.l 14)), (1, 1, (.l 17)), (2, 1, (.l 20))], none, none⟩,
 ⟨.agc [(.i .i64 0), .nil, .nil, (.i .i64 0), (.i .i64 0), (.i .i64 0), .nil] [(0, 3, (.l 11)), (3, 3, (.l 21))], none, none⟩,
 ⟨.lal [(.i .i64 0), .nil, .nil, (.i .i64 0), (.i .i64 0), (.i .i64 0), .nil], some 5, none⟩,
 ⟨.lst (.sl 5) (.l 22) 7, none, none⟩] (some false))
 (.seq (.seq (.reg [⟨.mov (.c (.i .i64 0)), some 4, none⟩] none)
 (.block 0 (.loop v45l0)))
 (.seq (.reg [⟨.lld (.sl 5) 7 true, none, none⟩,
 ⟨.lst (.sl 1) (.l 0) 7, none, none⟩] none)
 .ret)))), true, false, none⟩

def tm45 : List Nat := [0, 2, 33, 1, 4, 3, 5]
def bs45 : List Nat := [1, 3, 5, 6]

-- annuitant/annuitantlaw35.Same
def v46l0 : VCode :=
 (.seq (.reg [⟨.bin .lss (.s 8) (.s 9), some 4, none⟩] none)
 (.seq (.cond (.s 4) .skip
 (.exit 0))
 (.seq (.block 1 (.seq (.reg [⟨.mov (.s 8), none, none⟩,
 ⟨.mov (.l 0), some 10, none⟩] none)
 (.seq (.reg [⟨.lfa (.sl 6) 6, none, none⟩,
 ⟨.lld (.lo 0) 1 false, none, none⟩,
 ⟨.mov (.s 10), none, none⟩,
 ⟨.iad (.l 1) (.l 2) 10, none, none⟩,
 ⟨.ld (.l 3) 10 true, none, none⟩,
 ⟨.lfa (.sl 7) 6, none, none⟩,
 ⟨.lld (.lo 5) 1 false, none, none⟩,
 ⟨.mov (.s 10), none, none⟩,
 ⟨.iad (.l 6) (.l 7) 10, none, none⟩,
 ⟨.ld (.l 8) 10 true, none, none⟩,
 ⟨.eqv true (.st [1, 1, 1, 1, 1, 1, 1, 1, 1, 0]) (.l 4) (.l 9), some 5, none⟩] (some false))
 (.cond (.s 5) (.seq (.reg [⟨.mov (.c (.b false)), some 2, none⟩] none)
 .ret)
 .skip))))
 (.reg [⟨.bin .add (.s 8) (.c (.i .i64 1)), none, none⟩,
 ⟨.mov (.l 0), some 8, none⟩] none))))
def v46 : VFunc :=
 ⟨2, 11, [.s 2],
 (.seq (.reg [⟨.lbx (.s 0) 7, some 6, none⟩,
 ⟨.lbx (.s 1) 7, some 7, none⟩,
 ⟨.mov (.c (.b false)), some 2, none⟩] none)
 (.seq (.seq (.reg [⟨.lfa (.sl 6) 0, none, none⟩,
 ⟨.lld (.lo 0) 3 true, none, none⟩,
 ⟨.lfa (.sl 7) 0, none, none⟩,
 ⟨.lld (.lo 2) 3 true, none, none⟩,
 ⟨.call 78 [(.l 1), (.l 3)], none, none⟩,
 ⟨.un .not (.l 4), none, none⟩,
 ⟨.mov (.l 5), none, none⟩,
 ⟨.lfa (.sl 6) 3, none, some ((.l 6), false)⟩,
 ⟨.lld (.lo 7) 3 true, none, some ((.l 6), false)⟩,
 ⟨.lfa (.sl 7) 3, none, some ((.l 6), false)⟩,
 ⟨.lld (.lo 9) 3 true, none, some ((.l 6), false)⟩,
 ⟨.eqv true (.st [1, 1, 1]) (.l 8) (.l 10), none, some ((.l 6), false)⟩,
 ⟨.pick (.l 6) (.c (.b true)) (.l 11), none, none⟩,
 ⟨.mov (.l 12), none, none⟩,
 ⟨.lfa (.sl 6) 6, none, some ((.l 13), false)⟩,
 ⟨.lld (.lo 14) 1 false, none, some ((.l 13), false)⟩,
 ⟨.len 1 (.l 15), none, some ((.l 13), false)⟩,
 ⟨.lfa (.sl 7) 6, none, some ((.l 13), false)⟩,
 ⟨.lld (.lo 17) 1 false, none, some ((.l 13), false)⟩,
 ⟨.len 1 (.l 18), none, some ((.l 13), false)⟩,
 ⟨.bin .neq (.l 16) (.l 19), none, some ((.l 13), false)⟩,
 ⟨.pick (.l 13) (.c (.b true)) (.l 20), some 3, none⟩] none)
 (.cond (.s 3) (.seq (.reg [⟨.mov (.c (.b false)), some 2, none⟩] none)
 .ret)
 .skip))
 (.seq (.seq (.reg [⟨.lfa (.sl 6) 6, none, none⟩,
 ⟨.lld (.lo 0) 1 false, none, none⟩,
 ⟨.len 1 (.l 1), some 9, none⟩,
 ⟨.mov (.c (.i .i64 0)), some 8, none⟩] none)
 (.block 0 (.loop v46l0)))
 (.seq (.reg [⟨.mov (.c (.b true)), some 2, none⟩] none)
 .ret)))), true, false, none⟩

def tm46 : List Nat := [0, 1, 4, 27, 32, 44, 2, 3, 31, 30, 5]
def bs46 : List Nat := [6, 7]

-- (*annuitant/state.reader).statement
def v48l0 : VCode :=
 (.seq (.seq (.reg [⟨.mov (.s 0), none, none⟩,
 ⟨.call 80 [(.l 0), (.c (.s [10, 109, 111, 110, 116, 104, 32]))], some 2, none⟩] none)
 (.cond (.s 2) .skip
 (.exit 0)))
 (.block 1 (.seq (.seq (.reg [⟨.lfa (.sl 4) 3, none, none⟩,
 ⟨.lld (.lo 0) 1 false, none, none⟩,
 ⟨.len 1 (.l 1), none, none⟩,
 ⟨.bin .eql (.l 2) (.c (.i .i64 12)), some 3, none⟩] none)
 (.cond (.s 3) (.reg [⟨.agc [] [], none, none⟩,
 ⟨.mki 131 (.l 0), none, none⟩,
 ⟨.pan (.l 1), none, none⟩] none)
 .skip))
 (.seq (.reg [⟨.mov (.s 0), none, none⟩,
 ⟨.call 81 [(.l 0)], none, none⟩,
 ⟨.agc [(.i .i64 0), (.i .i64 0), (.i .i64 0), (.i .i64 0)] [(0, 1, (.l 1))], none, none⟩,
 ⟨.lal [(.i .i64 0), (.i .i64 0), (.i .i64 0), (.i .i64 0)], some 5, none⟩,
 ⟨.lst (.sl 5) (.l 2) 4, none, none⟩] none)
 (.seq (.reg [⟨.mov (.s 0), none, none⟩,
 ⟨.call 79 [(.l 0), (.c (.s [32, 100, 117, 101, 32]))], none, none⟩,
 ⟨.lfa (.sl 5) 1, none, none⟩,
 ⟨.lst (.lo 2) (.l 1) 1, none, none⟩] none)
 (.seq (.reg [⟨.mov (.s 0), none, none⟩,
 ⟨.call 79 [(.l 0), (.c (.s [32, 112, 111, 115, 116, 101, 100, 32]))], none, none⟩,
 ⟨.lfa (.sl 5) 2, none, none⟩,
 ⟨.lst (.lo 2) (.l 1) 1, none, none⟩] none)
 (.seq (.reg [⟨.mov (.s 0), none, none⟩,
 ⟨.call 79 [(.l 0), (.c (.s [32, 111, 112, 101, 110, 32]))], none, none⟩,
 ⟨.lfa (.sl 5) 3, none, none⟩,
 ⟨.lst (.lo 2) (.l 1) 1, none, none⟩] none)
 (.reg [⟨.lfa (.sl 4) 3, none, none⟩,
 ⟨.lld (.lo 0) 1 false, none, none⟩,
 ⟨.lld (.sl 5) 4 true, none, none⟩,
 ⟨.bsv 4 1 [(.i .i64 0), (.i .i64 0), (.i .i64 0), (.i .i64 0)] [(0, (.l 2))], none, none⟩,
 ⟨.app (.l 1) (.l 3) 4 32 true, none, none⟩,
 ⟨.lfa (.sl 4) 3, none, none⟩,
 ⟨.lst (.lo 5) (.l 4) 1, none, none⟩] none))))))))
def v48 : VFunc :=
 ⟨1, 6, [.bx 1 8 true],
 (.seq (.reg [⟨.lal [(.i .i64 0), (.i .i64 0), (.i .i64 0), .nil, (.i .i64 0), (.i .i64 0), (.i .i64 0), (.i .i64 0)], some 1, none⟩] none)
 (.seq (.reg [⟨.lal [(.i .i64 0), (.i .i64 0), (.i .i64 0), .nil, (.i .i64 0), (.i .i64 0), (.i .i64 0), (.i .i64 0)], some 4, none⟩] none)
 (.seq (.reg [⟨.mov (.s 0), none, none⟩,
 ⟨.call 79 [(.l 0), (.c (.s [115, 116, 97, 116, 101, 109, 101, 110, 116, 32]))], none, none⟩,
 ⟨.lfa (.sl 4) 0, none, none⟩,
 ⟨.lst (.lo 2) (.l 1) 1, none, none⟩] none)
 (.seq (.reg [⟨.mov (.s 0), none, none⟩,
 ⟨.call 79 [(.l 0), (.c (.s [10, 98, 101, 102, 111, 114, 101, 32]))], none, none⟩,
 ⟨.lfa (.sl 4) 1, none, none⟩,
 ⟨.lst (.lo 2) (.l 1) 1, none, none⟩] none)
 (.seq (.block 0 (.loop v48l0))
 (.seq (.reg [⟨.mov (.s 0), none, none⟩,
 ⟨.call 79 [(.l 0), (.c (.s [10, 103, 114, 111, 115, 115, 32]))], none, none⟩,
 ⟨.lfa (.sl 4) 4, none, none⟩,
 ⟨.lst (.lo 2) (.l 1) 1, none, none⟩] none)
 (.seq (.reg [⟨.mov (.s 0), none, none⟩,
 ⟨.call 79 [(.l 0), (.c (.s [32, 116, 97, 120, 32]))], none, none⟩,
 ⟨.lfa (.sl 4) 5, none, none⟩,
 ⟨.lst (.lo 2) (.l 1) 1, none, none⟩] none)
 (.seq (.reg [⟨.mov (.s 0), none, none⟩,
 ⟨.call 79 [(.l 0), (.c (.s [32, 110, 101, 116, 32]))], none, none⟩,
 ⟨.lfa (.sl 4) 6, none, none⟩,
 ⟨.lst (.lo 2) (.l 1) 1, none, none⟩] none)
 (.seq (.reg [⟨.mov (.s 0), none, none⟩,
 ⟨.call 79 [(.l 0), (.c (.s [32, 105, 110, 116, 101, 114, 101, 115, 116, 32]))], none, none⟩,
 ⟨.lfa (.sl 4) 7, none, none⟩,
 ⟨.lst (.lo 2) (.l 1) 1, none, none⟩] none)
 (.seq (.reg [⟨.mov (.s 0), none, none⟩,
 ⟨.call 79 [(.l 0), (.c (.s [10, 97, 102, 116, 101, 114, 32]))], none, none⟩,
 ⟨.lfa (.sl 4) 2, none, none⟩,
 ⟨.lst (.lo 2) (.l 1) 1, none, none⟩] none)
 (.seq (.reg [⟨.mov (.s 0), none, none⟩,
 ⟨.call 82 [(.l 0), (.c (.s [10]))], none, none⟩] none)
 (.seq (.reg [⟨.lld (.sl 4) 8 true, none, none⟩,
 ⟨.lst (.sl 1) (.l 0) 8, none, none⟩] none)
 .ret)))))))))))), false, false, none⟩

def tm48 : List Nat := [0, 2, 12, 16, 3, 4]
def bs48 : List Nat := [1, 4, 5]

-- annuitant/annuitantref01.Parse
def v49l0 : VCode :=
 (.seq (.seq (.reg [⟨.mov (.s 7), none, none⟩,
 ⟨.mov (.s 0), none, none⟩,
 ⟨.len 0 (.l 1), none, none⟩,
 ⟨.bin .lss (.l 0) (.l 2), none, none⟩,
 ⟨.mov (.l 3), none, none⟩,
 ⟨.mov (.s 6), none, some ((.l 4), true)⟩,
 ⟨.len 1 (.l 5), none, some ((.l 4), true)⟩,
 ⟨.bin .leq (.l 6) (.c (.i .i64 1024)), none, some ((.l 4), true)⟩,
 ⟨.pick (.l 4) (.l 7) (.c (.b false)), some 4, none⟩] none)
 (.cond (.s 4) .skip
 (.exit 0)))
 (.seq (.block 1 (.seq (.reg [⟨.mov (.s 0), none, none⟩,
 ⟨.mov (.s 7), none, none⟩,
 ⟨.ixs (.l 0) (.l 1), none, none⟩,
 ⟨.bin .neq (.l 2) (.c (.i .u8 45)), some 5, none⟩] none)
 (.cond (.s 5) (.reg [⟨.mov (.s 6), none, none⟩,
 ⟨.bsv 1 1 [(.i .u16 0)] [(0, (.c (.i .u16 10)))], none, none⟩,
 ⟨.call 85 [(.l 0), (.l 1)], none, none⟩,
 ⟨.mov (.s 0), none, none⟩,
 ⟨.mov (.s 7), none, none⟩,
 ⟨.ixs (.l 3) (.l 4), none, none⟩,
 ⟨.bin .sub (.l 5) (.c (.i .u8 48)), none, none⟩,
 ⟨.cvi .u16 (.l 6), none, none⟩,
 ⟨.bsv 1 1 [(.i .u16 0)] [(0, (.l 7))], none, none⟩,
 ⟨.call 86 [(.l 8)], none, none⟩,
 ⟨.call 84 [(.l 2), (.l 9)], none, none⟩,
 ⟨.mov (.l 10), some 6, none⟩] (some false))
 .skip)))
 (.reg [⟨.mov (.s 7), none, none⟩,
 ⟨.bin .add (.l 0) (.c (.i .i64 1)), none, none⟩,
 ⟨.mov (.l 1), some 7, none⟩] none)))
def v49 : VFunc :=
 ⟨1, 8, [.bx 1 2 true, .s 2],
 (.seq (.reg [⟨.lal [(.b false), .nil], some 1, none⟩,
 ⟨.mov (.c (.i .i64 0)), some 2, none⟩] none)
 (.seq (.seq (.reg [⟨.mov (.s 0), none, none⟩,
 ⟨.call 83 [(.l 0)], none, none⟩,
 ⟨.un .not (.l 1), some 3, none⟩] none)
 (.cond (.s 3) (.seq (.reg [⟨.agc [(.b false), .nil] [], none, none⟩,
 ⟨.lst (.sl 1) (.l 0) 2, none, none⟩,
 ⟨.mov (.c (.i .i64 10)), some 2, none⟩] none)
 .ret)
 .skip))
 (.seq (.reg [⟨.mov (.c .nil), some 6, none⟩] none)
 (.seq (.seq (.reg [⟨.mov (.c (.i .i64 0)), some 7, none⟩] none)
 (.block 0 (.loop v49l0)))
 (.seq (.reg [⟨.mov (.s 0), none, none⟩,
 ⟨.ixs (.l 0) (.c (.i .i64 0)), none, none⟩,
 ⟨.bin .eql (.l 1) (.c (.i .u8 45)), none, none⟩,
 ⟨.mov (.s 6), none, none⟩,
 ⟨.call 88 [(.l 2), (.l 3)], none, none⟩,
 ⟨.call 87 [(.l 4)], none, none⟩,
 ⟨.ext (.l 5) 0, none, none⟩,
 ⟨.ext (.l 5) 1, none, none⟩,
 ⟨.lst (.sl 1) (.l 6) 2, none, none⟩,
 ⟨.mov (.l 7), some 2, none⟩] none)
 .ret))))), true, false, none⟩

def tm49 : List Nat := [0, 2, 3, 8, 18, 24, 4, 5]
def bs49 : List Nat := [1]

-- annuitant/annuitantref01.Int
def v50l0 : VCode :=
 (.seq (.seq (.reg [⟨.mov (.s 10), none, none⟩,
 ⟨.bin .geq (.l 0) (.c (.i .i64 0)), some 5, none⟩] none)
 (.cond (.s 5) .skip
 (.exit 0)))
 (.seq (.block 1 (.reg [⟨.mov (.s 9), none, none⟩,
 ⟨.bin .mul (.l 0) (.c (.i .u64 65536)), none, none⟩,
 ⟨.lfa (.sl 8) 1, none, none⟩,
 ⟨.lld (.lo 2) 1 false, none, none⟩,
 ⟨.mov (.s 10), none, none⟩,
 ⟨.iad (.l 3) (.l 4) 1, none, none⟩,
 ⟨.ld (.l 5) 1 false, none, none⟩,
 ⟨.cvi .u64 (.l 6), none, none⟩,
 ⟨.bin .add (.l 1) (.l 7), none, none⟩,
 ⟨.mov (.l 8), some 9, none⟩] none))
 (.reg [⟨.mov (.s 10), none, none⟩,
 ⟨.bin .sub (.l 0) (.c (.i .i64 1)), none, none⟩,
 ⟨.mov (.l 1), some 10, none⟩] none)))
def v50 : VFunc :=
 ⟨1, 11, [.s 1, .s 2],
 (.seq (.reg [⟨.lbx (.s 0) 2, some 8, none⟩,
 ⟨.mov (.c (.i .i64 0)), some 1, none⟩,
 ⟨.mov (.c (.i .i64 0)), some 2, none⟩] none)
 (.seq (.seq (.reg [⟨.lld (.sl 8) 2 true, none, none⟩,
 ⟨.call 89 [(.l 0)], none, none⟩,
 ⟨.un .not (.l 1), some 3, none⟩] none)
 (.cond (.s 3) (.seq (.reg [⟨.mov (.c (.i .i64 0)), some 1, none⟩,
 ⟨.mov (.c (.i .i64 2)), some 2, none⟩] none)
 .ret)
 .skip))
 (.seq (.seq (.reg [⟨.lfa (.sl 8) 1, none, none⟩,
 ⟨.lld (.lo 0) 1 false, none, none⟩,
 ⟨.len 1 (.l 1), none, none⟩,
 ⟨.bin .gtr (.l 2) (.c (.i .i64 4)), some 4, none⟩] none)
 (.cond (.s 4) (.seq (.reg [⟨.mov (.c (.i .i64 0)), some 1, none⟩,
 ⟨.mov (.c (.i .i64 3)), some 2, none⟩] none)
 .ret)
 .skip))
 (.seq (.reg [⟨.mov (.c (.i .u64 0)), some 9, none⟩] none)
 (.seq (.seq (.reg [⟨.lfa (.sl 8) 1, none, none⟩,
 ⟨.lld (.lo 0) 1 false, none, none⟩,
 ⟨.len 1 (.l 1), none, none⟩,
 ⟨.bin .sub (.l 2) (.c (.i .i64 1)), none, none⟩,
 ⟨.mov (.l 3), some 10, none⟩] none)
 (.block 0 (.loop v50l0)))
 (.seq (.seq (.reg [⟨.lfa (.sl 8) 0, none, none⟩,
 ⟨.lld (.lo 0) 1 false, none, none⟩,
 ⟨.mov (.l 1), none, none⟩,
 ⟨.mov (.s 9), none, some ((.l 2), true)⟩,
 ⟨.bin .leq (.l 3) (.c (.i .u64 9223372036854775808)), none, some ((.l 2), true)⟩,
 ⟨.pick (.l 2) (.l 4) (.c (.b false)), some 6, none⟩] none)
 (.cond (.s 6) (.seq (.reg [⟨.mov (.s 9), none, none⟩,
 ⟨.un .neg (.l 0), none, none⟩,
 ⟨.cvi .i64 (.l 1), none, none⟩,
 ⟨.mov (.l 2), some 1, none⟩,
 ⟨.mov (.c (.i .i64 0)), some 2, none⟩] none)
 .ret)
 .skip))
 (.seq (.seq (.reg [⟨.lfa (.sl 8) 0, none, none⟩,
 ⟨.lld (.lo 0) 1 false, none, none⟩,
 ⟨.un .not (.l 1), none, none⟩,
 ⟨.mov (.l 2), none, none⟩,
 ⟨.mov (.s 9), none, some ((.l 3), true)⟩,
 ⟨.bin .lss (.l 4) (.c (.i .u64 9223372036854775808)), none, some ((.l 3), true)⟩,
 ⟨.pick (.l 3) (.l 5) (.c (.b false)), some 7, none⟩] none)
 (.cond (.s 7) (.seq (.reg [⟨.mov (.s 9), none, none⟩,
 ⟨.cvi .i64 (.l 0), none, none⟩,
 ⟨.mov (.l 1), some 1, none⟩,
 ⟨.mov (.c (.i .i64 0)), some 2, none⟩] none)
 .ret)
 .skip))
 (.seq (.reg [⟨.mov (.c (.i .i64 0)), some 1, none⟩,
 ⟨.mov (.c (.i .i64 3)), some 2, none⟩] none)
 .ret)))))))), true, false, none⟩

def tm50 : List Nat := [0, 2, 3, 8, 12, 18, 35, 45, 1, 4, 5]
def bs50 : List Nat := [8]

-- annuitant/annuitantref03.First
def v51 : VFunc :=
 ⟨1, 5, [.s 1, .s 2],
 (.seq (.reg [⟨.mov (.c (.i .i64 0)), some 1, none⟩,
 ⟨.mov (.c (.i .i64 0)), some 2, none⟩] none)
 (.seq (.seq (.reg [⟨.mov (.s 0), none, none⟩,
 ⟨.bin .lss (.l 0) (.c (.i .i64 0)), none, none⟩,
 ⟨.mov (.l 1), none, none⟩,
 ⟨.mov (.s 0), none, some ((.l 2), false)⟩,
 ⟨.bin .gtr (.l 3) (.c (.i .i64 2153)), none, some ((.l 2), false)⟩,
 ⟨.pick (.l 2) (.c (.b true)) (.l 4), some 3, none⟩] none)
 (.cond (.s 3) (.seq (.reg [⟨.mov (.c (.i .i64 0)), some 1, none⟩,
 ⟨.mov (.c (.i .i64 2)), some 2, none⟩] none)
 .ret)
 .skip))
 (.seq (.reg [⟨.mov (.s 0), none, none⟩,
 ⟨.bin .quo (.l 0) (.c (.i .i64 12)), none, none⟩,
 ⟨.bin .add (.c (.i .i64 1900)) (.l 1), none, none⟩,
 ⟨.mov (.s 0), none, none⟩,
 ⟨.bin .rem (.l 3) (.c (.i .i64 12)), none, none⟩,
 ⟨.bin .add (.l 4) (.c (.i .i64 1)), none, none⟩,
 ⟨.call 90 [(.l 2), (.l 5), (.c (.i .i64 1))], none, none⟩,
 ⟨.mov (.l 6), none, none⟩,
 ⟨.ext (.l 7) 0, none, none⟩,
 ⟨.ext (.l 7) 1, none, none⟩,
 ⟨.mov (.l 8), some 4, none⟩,
 ⟨.mov (.l 9), none, none⟩] none)
 (.seq (.reg [⟨.mov (.s 4), none, none⟩,
 ⟨.mov (.l 0), some 1, none⟩,
 ⟨.mov (.c (.i .i64 0)), some 2, none⟩] none)
 .ret)))), true, false, none⟩

def tm51 : List Nat := [0, 2, 3, 11, 4]
def bs51 : List Nat := []

-- annuitant/annuitantref39.number
def v52 : VFunc :=
 ⟨1, 3, [.s 1],
 (.seq (.reg [⟨.mov (.c (.s [])), some 1, none⟩] none)
 (.seq (.reg [⟨.mov (.s 0), none, none⟩,
 ⟨.call 92 [(.l 0)], none, none⟩,
 ⟨.call 91 [(.l 1)], none, none⟩,
 ⟨.mov (.l 2), none, none⟩,
 ⟨.ext (.l 3) 0, none, none⟩,
 ⟨.ext (.l 3) 1, none, none⟩,
 ⟨.mov (.l 4), some 2, none⟩,
 ⟨.mov (.l 5), none, none⟩] none)
 (.seq (.reg [⟨.mov (.s 2), none, none⟩,
 ⟨.mov (.l 0), some 1, none⟩] none)
 .ret))), true, false, none⟩

def tm52 : List Nat := [0, 2, 3]
def bs52 : List Nat := []

-- annuitant/annuitantref03.Text
def v53 : VFunc :=
 ⟨1, 7, [.s 1],
 (.seq (.reg [⟨.mov (.c (.s [])), some 1, none⟩] none)
 (.seq (.reg [⟨.mov (.s 0), none, none⟩,
 ⟨.call 93 [(.l 0)], none, none⟩,
 ⟨.mov (.l 1), none, none⟩,
 ⟨.ext (.l 2) 0, none, none⟩,
 ⟨.ext (.l 2) 1, none, none⟩,
 ⟨.ext (.l 2) 2, none, none⟩,
 ⟨.ext (.l 2) 3, none, none⟩,
 ⟨.mov (.l 3), some 4, none⟩,
 ⟨.mov (.l 4), some 5, none⟩,
 ⟨.mov (.l 5), some 6, none⟩,
 ⟨.mov (.l 6), some 3, none⟩] none)
 (.seq (.seq (.reg [⟨.mov (.s 3), none, none⟩,
 ⟨.bin .neq (.l 0) (.c (.i .i64 0)), some 2, none⟩] none)
 (.cond (.s 2) (.seq (.reg [⟨.mov (.c (.s [])), some 1, none⟩] none)
 .ret)
 .skip))
 (.seq (.reg [⟨.mov (.s 4), none, none⟩,
 ⟨.call 94 [(.l 0), (.c (.i .i64 4))], none, none⟩,
 ⟨.bin .add (.l 1) (.c (.s [45])), none, none⟩,
 ⟨.mov (.s 5), none, none⟩,
 ⟨.call 94 [(.l 3), (.c (.i .i64 2))], none, none⟩,
 ⟨.bin .add (.l 2) (.l 4), none, none⟩,
 ⟨.bin .add (.l 5) (.c (.s [45])), none, none⟩,
 ⟨.mov (.s 6), none, none⟩,
 ⟨.call 94 [(.l 7), (.c (.i .i64 2))], none, none⟩,
 ⟨.bin .add (.l 6) (.l 8), none, none⟩,
 ⟨.mov (.l 9), some 1, none⟩] none)
 .ret)))), true, false, none⟩

def tm53 : List Nat := [0, 2, 15, 6, 3, 4, 5]
def bs53 : List Nat := []

-- annuitant/annuitantref39.near
def v54 : VFunc :=
 ⟨1, 2, [.s 1],
 (.seq (.reg [⟨.mov (.c (.b false)), some 1, none⟩] none)
 (.seq (.reg [⟨.mov (.s 0), none, none⟩,
 ⟨.bin .geq (.l 0) (.c (.i .i64 (-9007199254740992))), none, none⟩,
 ⟨.mov (.l 1), none, none⟩,
 ⟨.mov (.s 0), none, some ((.l 2), true)⟩,
 ⟨.bin .leq (.l 3) (.c (.i .i64 9007199254740992)), none, some ((.l 2), true)⟩,
 ⟨.pick (.l 2) (.l 4) (.c (.b false)), none, none⟩,
 ⟨.mov (.l 5), some 1, none⟩] none)
 .ret)), true, false, none⟩

def tm54 : List Nat := [0, 2]
def bs54 : List Nat := []

-- annuitant/annuitantref39.of
def v55 : VFunc :=
 ⟨2, 3, [.s 2],
 (.seq (.reg [⟨.mov (.c (.b false)), some 2, none⟩] none)
 (.seq (.reg [⟨.mov (.s 0), none, none⟩,
 ⟨.mov (.s 1), none, none⟩,
 ⟨.bin .sub (.l 1) (.c (.i .i64 1900)), none, none⟩,
 ⟨.bin .mul (.c (.i .i64 12)) (.l 2), none, none⟩,
 ⟨.bin .geq (.l 0) (.l 3), none, none⟩,
 ⟨.mov (.l 4), none, none⟩,
 ⟨.mov (.s 0), none, some ((.l 5), true)⟩,
 ⟨.mov (.s 1), none, some ((.l 5), true)⟩,
 ⟨.bin .sub (.l 7) (.c (.i .i64 1900)), none, some ((.l 5), true)⟩,
 ⟨.bin .mul (.c (.i .i64 12)) (.l 8), none, some ((.l 5), true)⟩,
 ⟨.bin .add (.l 9) (.c (.i .i64 11)), none, some ((.l 5), true)⟩,
 ⟨.bin .leq (.l 6) (.l 10), none, some ((.l 5), true)⟩,
 ⟨.pick (.l 5) (.l 11) (.c (.b false)), none, none⟩,
 ⟨.mov (.l 12), some 2, none⟩] none)
 .ret)), true, false, none⟩

def tm55 : List Nat := [0, 1, 4]
def bs55 : List Nat := []

-- annuitant/ledger.Valid
def v56 : VFunc :=
 ⟨1, 5, [.s 1],
 (.seq (.reg [⟨.lbx (.s 0) 3, some 4, none⟩,
 ⟨.mov (.c (.b false)), some 1, none⟩] none)
 (.seq (.seq (.reg [⟨.lfa (.sl 4) 0, none, none⟩,
 ⟨.lld (.lo 0) 1 false, none, none⟩,
 ⟨.bin .lss (.l 1) (.c (.i .i64 0)), none, none⟩,
 ⟨.mov (.l 2), none, none⟩,
 ⟨.lfa (.sl 4) 0, none, some ((.l 3), false)⟩,
 ⟨.lld (.lo 4) 1 false, none, some ((.l 3), false)⟩,
 ⟨.bin .gtr (.l 5) (.c (.i .i64 2400)), none, some ((.l 3), false)⟩,
 ⟨.pick (.l 3) (.c (.b true)) (.l 6), none, none⟩,
 ⟨.mov (.l 7), none, none⟩,
 ⟨.lfa (.sl 4) 1, none, some ((.l 8), false)⟩,
 ⟨.lld (.lo 9) 1 false, none, some ((.l 8), false)⟩,
 ⟨.len 1 (.l 10), none, some ((.l 8), false)⟩,
 ⟨.bin .gtr (.l 11) (.c (.i .i64 1200)), none, some ((.l 8), false)⟩,
 ⟨.pick (.l 8) (.c (.b true)) (.l 12), none, none⟩,
 ⟨.mov (.l 13), none, none⟩,
 ⟨.lfa (.sl 4) 0, none, some ((.l 14), false)⟩,
 ⟨.lld (.lo 15) 1 false, none, some ((.l 14), false)⟩,
 ⟨.lfa (.sl 4) 1, none, some ((.l 14), false)⟩,
 ⟨.lld (.lo 17) 1 false, none, some ((.l 14), false)⟩,
 ⟨.len 1 (.l 18), none, some ((.l 14), false)⟩,
 ⟨.bin .add (.l 16) (.l 19), none, some ((.l 14), false)⟩,
 ⟨.bin .gtr (.l 20) (.c (.i .i64 2400)), none, some ((.l 14), false)⟩,
 ⟨.pick (.l 14) (.c (.b true)) (.l 21), some 2, none⟩] none)
 (.cond (.s 2) (.seq (.reg [⟨.mov (.c (.b false)), some 1, none⟩] none)
 .ret)
 .skip))
 (.seq (.seq (.reg [⟨.lfa (.sl 4) 1, none, none⟩,
 ⟨.lld (.lo 0) 1 false, none, none⟩,
 ⟨.call 95 [(.l 1), (.c (.fn (.func 96) [] []))], some 3, none⟩] none)
 (.cond (.s 3) (.seq (.reg [⟨.mov (.c (.b false)), some 1, none⟩] none)
 .ret)
 .skip))
 (.seq (.reg [⟨.lfa (.sl 4) 2, none, none⟩,
 ⟨.lld (.lo 0) 1 false, none, none⟩,
 ⟨.len 1 (.l 1), none, none⟩,
 ⟨.bin .leq (.l 2) (.c (.i .i64 4000)), none, none⟩,
 ⟨.mov (.l 3), none, none⟩,
 ⟨.lld (.sl 4) 3 true, none, some ((.l 4), true)⟩,
 ⟨.lfa (.sl 4) 2, none, some ((.l 4), true)⟩,
 ⟨.lld (.lo 6) 1 false, none, some ((.l 4), true)⟩,
 ⟨.call 97 [(.l 5), (.l 7), (.c (.i .i64 0))], none, some ((.l 4), true)⟩,
 ⟨.pick (.l 4) (.l 8) (.c (.b false)), none, none⟩,
 ⟨.mov (.l 9), some 1, none⟩] none)
 .ret)))), true, false, none⟩

def tm56 : List Nat := [0, 2, 25, 28, 1]
def bs56 : List Nat := [4]

-- annuitant/run.isAmount
def v57 : VFunc :=
 ⟨1, 2, [.s 1],
 (.seq (.reg [⟨.mov (.c (.b false)), some 1, none⟩] none)
 (.seq (.reg [⟨.mov (.s 0), none, none⟩,
 ⟨.bin .leq (.c (.i .i64 0)) (.l 0), none, none⟩,
 ⟨.mov (.l 1), none, none⟩,
 ⟨.mov (.s 0), none, some ((.l 2), true)⟩,
 ⟨.bin .leq (.l 3) (.c (.i .i64 1099511627776)), none, some ((.l 2), true)⟩,
 ⟨.pick (.l 2) (.l 4) (.c (.b false)), none, none⟩,
 ⟨.mov (.l 5), some 1, none⟩] none)
 .ret)), true, false, none⟩

def tm57 : List Nat := [0, 2]
def bs57 : List Nat := []

-- annuitant/run.isTax
def v58 : VFunc :=
 ⟨1, 2, [.s 1],
 (.seq (.reg [⟨.mov (.c (.b false)), some 1, none⟩] none)
 (.seq (.reg [⟨.mov (.s 0), none, none⟩,
 ⟨.bin .leq (.c (.i .i64 (-1099511627776))) (.l 0), none, none⟩,
 ⟨.mov (.l 1), none, none⟩,
 ⟨.mov (.s 0), none, some ((.l 2), true)⟩,
 ⟨.bin .leq (.l 3) (.c (.i .i64 1099511627776)), none, some ((.l 2), true)⟩,
 ⟨.pick (.l 2) (.l 4) (.c (.b false)), none, none⟩,
 ⟨.mov (.l 5), some 1, none⟩] none)
 .ret)), true, false, none⟩

def tm58 : List Nat := [0, 2]
def bs58 : List Nat := []

-- annuitant/ledger.sum[int]
def v59l0 : VCode :=
 (.seq (.reg [⟨.bin .lss (.s 5) (.s 6), some 3, none⟩] none)
 (.seq (.cond (.s 3) .skip
 (.exit 0))
 (.seq (.block 1 (.seq (.reg [⟨.iad (.s 7) (.s 5) 1, none, none⟩,
 ⟨.ld (.l 0) 1 false, none, none⟩,
 ⟨.mov (.l 1), some 8, none⟩] none)
 (.reg [⟨.mov (.s 4), none, none⟩,
 ⟨.mov (.s 1), none, none⟩,
 ⟨.mov (.s 8), none, none⟩,
 ⟨.calv (.l 1) [(.l 2)], none, none⟩,
 ⟨.bin .add (.l 0) (.l 3), none, none⟩,
 ⟨.mov (.l 4), some 4, none⟩] none)))
 (.reg [⟨.bin .add (.s 5) (.c (.i .i64 1)), none, none⟩,
 ⟨.mov (.l 0), some 5, none⟩] none))))
def v59 : VFunc :=
 ⟨2, 9, [.s 2],
 (.seq (.reg [⟨.mov (.c (.i .i64 0)), some 2, none⟩] none)
 (.seq (.reg [⟨.mov (.c (.i .i64 0)), some 4, none⟩] none)
 (.seq (.seq (.reg [⟨.mov (.s 0), some 7, none⟩,
 ⟨.len 1 (.s 7), some 6, none⟩,
 ⟨.mov (.c (.i .i64 0)), some 5, none⟩] none)
 (.block 0 (.loop v59l0)))
 (.seq (.reg [⟨.mov (.s 4), none, none⟩,
 ⟨.mov (.l 0), some 2, none⟩] none)
 .ret)))), false, false, none⟩

def tm59 : List Nat := [0, 1, 4, 11, 5, 10, 9, 8, 7]
def bs59 : List Nat := []

-- annuitant/ledger.Balance$1
def v60 : VFunc :=
 ⟨1, 2, [.s 1],
 (.seq (.reg [⟨.mov (.c (.i .i64 0)), some 1, none⟩] none)
 (.seq (.reg [⟨.mov (.s 0), none, none⟩,
 ⟨.mov (.l 0), some 1, none⟩] none)
 .ret)), true, false, none⟩

def tm60 : List Nat := [0, 2]
def bs60 : List Nat := []

-- annuitant/ledger.sum[annuitant/api.Paid]
def v61l0 : VCode :=
 (.seq (.reg [⟨.bin .lss (.s 5) (.s 6), some 3, none⟩] none)
 (.seq (.cond (.s 3) .skip
 (.exit 0))
 (.seq (.block 1 (.seq (.reg [⟨.iad (.s 7) (.s 5) 4, none, none⟩,
 ⟨.ld (.l 0) 4 true, none, none⟩,
 ⟨.lal [(.i .i64 0), (.i .i64 0), (.i .u8 0), (.i .i64 0)], some 8, none⟩,
 ⟨.lst (.sl 8) (.l 1) 4, none, none⟩] none)
 (.reg [⟨.mov (.s 4), none, none⟩,
 ⟨.mov (.s 1), none, none⟩,
 ⟨.lld (.sl 8) 4 true, none, none⟩,
 ⟨.calv (.l 1) [(.l 2)], none, none⟩,
 ⟨.bin .add (.l 0) (.l 3), none, none⟩,
 ⟨.mov (.l 4), some 4, none⟩] none)))
 (.reg [⟨.bin .add (.s 5) (.c (.i .i64 1)), none, none⟩,
 ⟨.mov (.l 0), some 5, none⟩] none))))
def v61 : VFunc :=
 ⟨2, 9, [.s 2],
 (.seq (.reg [⟨.mov (.c (.i .i64 0)), some 2, none⟩] none)
 (.seq (.reg [⟨.mov (.c (.i .i64 0)), some 4, none⟩] none)
 (.seq (.seq (.reg [⟨.mov (.s 0), some 7, none⟩,
 ⟨.len 1 (.s 7), some 6, none⟩,
 ⟨.mov (.c (.i .i64 0)), some 5, none⟩] none)
 (.block 0 (.loop v61l0)))
 (.seq (.reg [⟨.mov (.s 4), none, none⟩,
 ⟨.mov (.l 0), some 2, none⟩] none)
 .ret)))), false, false, none⟩

def tm61 : List Nat := [0, 1, 4, 11, 5, 10, 9, 8, 7]
def bs61 : List Nat := [8]

-- annuitant/ledger.Balance$2
def v62 : VFunc :=
 ⟨2, 5, [.s 2],
 (.seq (.reg [⟨.lbx (.s 0) 4, some 4, none⟩,
 ⟨.mov (.c (.i .i64 0)), some 2, none⟩] none)
 (.seq (.seq (.reg [⟨.lfa (.sl 4) 1, none, none⟩,
 ⟨.lld (.lo 0) 1 false, none, none⟩,
 ⟨.ld (.s 1) 1 false, none, none⟩,
 ⟨.bin .geq (.l 1) (.l 2), some 3, none⟩] none)
 (.cond (.s 3) (.seq (.reg [⟨.mov (.c (.i .i64 0)), some 2, none⟩] none)
 .ret)
 .skip))
 (.seq (.reg [⟨.lld (.sl 4) 4 true, none, none⟩,
 ⟨.call 63 [(.l 0)], none, none⟩,
 ⟨.mov (.l 1), some 2, none⟩] none)
 .ret))), false, false, none⟩

def tm62 : List Nat := [0, 1, 3, 7, 2]
def bs62 : List Nat := [4]

-- annuitant/ledger.principal
def v63 : VFunc :=
 ⟨1, 4, [.s 1],
 (.seq (.reg [⟨.lbx (.s 0) 4, some 3, none⟩,
 ⟨.mov (.c (.i .i64 0)), some 1, none⟩] none)
 (.seq (.seq (.reg [⟨.lfa (.sl 3) 2, none, none⟩,
 ⟨.lld (.lo 0) 1 false, none, none⟩,
 ⟨.bin .eql (.l 1) (.c (.i .u8 3)), some 2, none⟩] none)
 (.cond (.s 2) (.seq (.reg [⟨.mov (.c (.i .i64 0)), some 1, none⟩] none)
 .ret)
 .skip))
 (.seq (.reg [⟨.lfa (.sl 3) 3, none, none⟩,
 ⟨.lld (.lo 0) 1 false, none, none⟩,
 ⟨.mov (.l 1), some 1, none⟩] none)
 .ret))), true, false, none⟩

def tm63 : List Nat := [0, 2, 5, 1]
def bs63 : List Nat := [3]

-- annuitant/ledger.has
def v64 : VFunc :=
 ⟨2, 4, [.s 2],
 (.seq (.reg [⟨.lbx (.s 0) 3, some 3, none⟩,
 ⟨.mov (.c (.b false)), some 2, none⟩] none)
 (.seq (.reg [⟨.lfa (.sl 3) 0, none, none⟩,
 ⟨.lld (.lo 0) 1 false, none, none⟩,
 ⟨.mov (.s 1), none, none⟩,
 ⟨.bin .leq (.l 1) (.l 2), none, none⟩,
 ⟨.mov (.l 3), none, none⟩,
 ⟨.mov (.s 1), none, some ((.l 4), true)⟩,
 ⟨.lfa (.sl 3) 0, none, some ((.l 4), true)⟩,
 ⟨.lld (.lo 6) 1 false, none, some ((.l 4), true)⟩,
 ⟨.lfa (.sl 3) 1, none, some ((.l 4), true)⟩,
 ⟨.lld (.lo 8) 1 false, none, some ((.l 4), true)⟩,
 ⟨.len 1 (.l 9), none, some ((.l 4), true)⟩,
 ⟨.bin .add (.l 7) (.l 10), none, some ((.l 4), true)⟩,
 ⟨.bin .lss (.l 5) (.l 11), none, some ((.l 4), true)⟩,
 ⟨.pick (.l 4) (.l 12) (.c (.b false)), none, none⟩,
 ⟨.mov (.l 13), some 2, none⟩] none)
 .ret)), true, false, none⟩

def tm64 : List Nat := [0, 1, 4, 2]
def bs64 : List Nat := [3]

-- annuitant/ledger.posted
def v65 : VFunc :=
 ⟨2, 5, [.s 2],
 (.seq (.reg [⟨.lbx (.s 0) 3, some 3, none⟩,
 ⟨.hbx 3 (.s 1) 1, some 4, none⟩,
 ⟨.mov (.c (.i .i64 0)), some 2, none⟩] none)
 (.seq (.reg [⟨.lfa (.sl 3) 2, none, none⟩,
 ⟨.lld (.lo 0) 1 false, none, none⟩,
 ⟨.mkf (.func 98) [] [(.s 4)], none, none⟩,
 ⟨.call 61 [(.l 1), (.l 2)], none, none⟩,
 ⟨.mov (.l 3), some 2, none⟩] none)
 .ret)), true, false, none⟩

def tm65 : List Nat := [0, 1, 4, 2, 3]
def bs65 : List Nat := [3]

-- annuitant/state.areSums
def v66l0 : VCode :=
 (.seq (.reg [⟨.bin .lss (.s 4) (.s 5), some 2, none⟩] none)
 (.seq (.cond (.s 2) .skip
 (.exit 0))
 (.seq (.block 1 (.seq (.reg [⟨.iad (.s 6) (.s 4) 1, none, none⟩,
 ⟨.ld (.l 0) 1 false, none, none⟩,
 ⟨.mov (.l 1), some 7, none⟩] none)
 (.seq (.reg [⟨.mov (.s 7), none, none⟩,
 ⟨.bin .lss (.l 0) (.c (.i .i64 (-9007199254740992))), none, none⟩,
 ⟨.mov (.l 1), none, none⟩,
 ⟨.mov (.s 7), none, some ((.l 2), false)⟩,
 ⟨.bin .gtr (.l 3) (.c (.i .i64 9007199254740992)), none, some ((.l 2), false)⟩,
 ⟨.pick (.l 2) (.c (.b true)) (.l 4), some 3, none⟩] none)
 (.cond (.s 3) (.seq (.reg [⟨.mov (.c (.b false)), some 1, none⟩] none)
 .ret)
 .skip))))
 (.reg [⟨.bin .add (.s 4) (.c (.i .i64 1)), none, none⟩,
 ⟨.mov (.l 0), some 4, none⟩] none))))
def v66 : VFunc :=
 ⟨1, 8, [.s 1],
 (.seq (.reg [⟨.mov (.c (.b false)), some 1, none⟩] none)
 (.seq (.seq (.reg [⟨.mov (.s 0), some 6, none⟩,
 ⟨.len 1 (.s 6), some 5, none⟩,
 ⟨.mov (.c (.i .i64 0)), some 4, none⟩] none)
 (.block 0 (.loop v66l0)))
 (.seq (.reg [⟨.mov (.c (.b true)), some 1, none⟩] none)
 .ret))), true, false, none⟩

def tm66 : List Nat := [0, 2, 8, 16, 7, 6, 5, 4]
def bs66 : List Nat := []

-- annuitant/state.sum[annuitant/state.Line]
def v67l0 : VCode :=
 (.seq (.reg [⟨.bin .lss (.s 5) (.s 6), some 3, none⟩] none)
 (.seq (.cond (.s 3) .skip
 (.exit 0))
 (.seq (.block 1 (.seq (.reg [⟨.iad (.s 7) (.s 5) 4, none, none⟩,
 ⟨.ld (.l 0) 4 true, none, none⟩,
 ⟨.lal [(.i .i64 0), (.i .i64 0), (.i .i64 0), (.i .i64 0)], some 8, none⟩,
 ⟨.lst (.sl 8) (.l 1) 4, none, none⟩] none)
 (.reg [⟨.mov (.s 4), none, none⟩,
 ⟨.mov (.s 1), none, none⟩,
 ⟨.lld (.sl 8) 4 true, none, none⟩,
 ⟨.calv (.l 1) [(.l 2)], none, none⟩,
 ⟨.bin .add (.l 0) (.l 3), none, none⟩,
 ⟨.mov (.l 4), some 4, none⟩] none)))
 (.reg [⟨.bin .add (.s 5) (.c (.i .i64 1)), none, none⟩,
 ⟨.mov (.l 0), some 5, none⟩] none))))
def v67 : VFunc :=
 ⟨2, 9, [.s 2],
 (.seq (.reg [⟨.mov (.c (.i .i64 0)), some 2, none⟩] none)
 (.seq (.reg [⟨.mov (.c (.i .i64 0)), some 4, none⟩] none)
 (.seq (.seq (.reg [⟨.mov (.s 0), some 7, none⟩,
 ⟨.len 1 (.s 7), some 6, none⟩,
 ⟨.mov (.c (.i .i64 0)), some 5, none⟩] none)
 (.block 0 (.loop v67l0)))
 (.seq (.reg [⟨.mov (.s 4), none, none⟩,
 ⟨.mov (.l 0), some 2, none⟩] none)
 .ret)))), false, false, none⟩

def tm67 : List Nat := [0, 1, 4, 11, 5, 10, 9, 8, 7]
def bs67 : List Nat := [8]

-- annuitant/state.Right$1
def v68 : VFunc :=
 ⟨1, 3, [.s 1],
 (.seq (.reg [⟨.lbx (.s 0) 4, some 2, none⟩,
 ⟨.mov (.c (.i .i64 0)), some 1, none⟩] none)
 (.seq (.reg [⟨.lfa (.sl 2) 3, none, none⟩,
 ⟨.lld (.lo 0) 1 false, none, none⟩,
 ⟨.mov (.l 1), some 1, none⟩] none)
 .ret)), true, false, none⟩

def tm68 : List Nat := [0, 2, 1]
def bs68 : List Nat := [2]

-- strconv.Itoa
def v70 : VFunc :=
 ⟨1, 2, [.s 1],
 (.seq (.reg [⟨.mov (.c (.s [])), some 1, none⟩] none)
 (.seq (.reg [⟨.mov (.s 0), none, none⟩,
 ⟨.call 100 [(.l 0)], none, none⟩,
 ⟨.mov (.l 1), some 1, none⟩] none)
 .ret)), true, false, none⟩

def tm70 : List Nat := [0, 2]
def bs70 : List Nat := []

-- strings.Join
def v71l0 : VCode :=
 (.seq (.reg [⟨.bin .lss (.s 12) (.s 13), some 7, none⟩] none)
 (.seq (.cond (.s 7) .skip
 (.exit 1))
 (.seq (.block 2 (.seq (.reg [⟨.iad (.s 14) (.s 12) 1, none, none⟩,
 ⟨.ld (.l 0) 1 false, none, none⟩,
 ⟨.mov (.l 1), some 15, none⟩] none)
 (.seq (.seq (.reg [⟨.mov (.s 15), none, none⟩,
 ⟨.len 0 (.l 0), none, none⟩,
 ⟨.mov (.s 11), none, none⟩,
 ⟨.bin .sub (.c (.i .i64 9223372036854775807)) (.l 2), none, none⟩,
 ⟨.bin .gtr (.l 1) (.l 3), some 8, none⟩] none)
 (.cond (.s 8) (.reg [⟨.mki 9 (.c (.s [115, 116, 114, 105, 110, 103, 115, 58, 32, 74, 111, 105, 110, 32, 111, 117, 116, 112, 117, 116, 32, 108, 101, 110, 103, 116, 104, 32, 111, 118, 101, 114, 102, 108, 111, 119])), none, none⟩,
 ⟨.pan (.l 0), none, none⟩] none)
 .skip))
 (.reg [⟨.mov (.s 11), none, none⟩,
 ⟨.mov (.s 15), none, none⟩,
 ⟨.len 0 (.l 1), none, none⟩,
 ⟨.bin .add (.l 0) (.l 2), none, none⟩,
 ⟨.mov (.l 3), some 11, none⟩] none))))
 (.reg [⟨.bin .add (.s 12) (.c (.i .i64 1)), none, none⟩,
 ⟨.mov (.l 0), some 12, none⟩] none))))
def v71l1 : VCode :=
 (.seq (.reg [⟨.bin .lss (.s 17) (.s 18), some 9, none⟩] none)
 (.seq (.cond (.s 9) .skip
 (.exit 3))
 (.seq (.block 4 (.seq (.reg [⟨.iad (.s 19) (.s 17) 1, none, none⟩,
 ⟨.ld (.l 0) 1 false, none, none⟩,
 ⟨.mov (.l 1), some 20, none⟩] none)
 (.seq (.reg [⟨.mov (.s 1), none, none⟩,
 ⟨.call 37 [(.s 16), (.l 0)], none, none⟩] none)
 (.reg [⟨.mov (.s 20), none, none⟩,
 ⟨.call 37 [(.s 16), (.l 0)], none, none⟩] none))))
 (.reg [⟨.bin .add (.s 17) (.c (.i .i64 1)), none, none⟩,
 ⟨.mov (.l 0), some 17, none⟩] none))))
def v71 : VFunc :=
 ⟨2, 21, [.s 2],
 (.seq (.reg [⟨.mov (.c (.s [])), some 2, none⟩] none)
 (.seq (.seq (.reg [⟨.mov (.s 0), none, none⟩,
 ⟨.len 1 (.l 0), some 10, none⟩] none)
 (.block 0 (.seq (.reg [⟨.bin .eql (.s 10) (.c (.i .i64 0)), none, none⟩,
 ⟨.mov (.l 0), some 3, none⟩] none)
 (.cond (.s 3) (.seq (.reg [⟨.mov (.c (.s [])), some 2, none⟩] none)
 .ret)
 (.seq (.reg [⟨.bin .eql (.s 10) (.c (.i .i64 1)), none, none⟩,
 ⟨.mov (.l 0), some 4, none⟩] none)
 (.cond (.s 4) (.seq (.reg [⟨.mov (.s 0), none, none⟩,
 ⟨.iad (.l 0) (.c (.i .i64 0)) 1, none, none⟩,
 ⟨.ld (.l 1) 1 false, none, none⟩,
 ⟨.mov (.l 2), some 2, none⟩] none)
 .ret)
 .skip))))))
 (.seq (.reg [⟨.mov (.c (.i .i64 0)), some 11, none⟩] none)
 (.seq (.seq (.reg [⟨.mov (.s 1), none, none⟩,
 ⟨.len 0 (.l 0), none, none⟩,
 ⟨.bin .gtr (.l 1) (.c (.i .i64 0)), some 5, none⟩] none)
 (.cond (.s 5) (.seq (.seq (.reg [⟨.mov (.s 1), none, none⟩,
 ⟨.len 0 (.l 0), none, none⟩,
 ⟨.mov (.s 0), none, none⟩,
 ⟨.len 1 (.l 2), none, none⟩,
 ⟨.bin .sub (.l 3) (.c (.i .i64 1)), none, none⟩,
 ⟨.bin .quo (.c (.i .i64 9223372036854775807)) (.l 4), none, none⟩,
 ⟨.bin .geq (.l 1) (.l 5), some 6, none⟩] none)
 (.cond (.s 6) (.reg [⟨.mki 9 (.c (.s [115, 116, 114, 105, 110, 103, 115, 58, 32, 74, 111, 105, 110, 32, 111, 117, 116, 112, 117, 116, 32, 108, 101, 110, 103, 116, 104, 32, 111, 118, 101, 114, 102, 108, 111, 119])), none, none⟩,
 ⟨.pan (.l 0), none, none⟩] none)
 .skip))
 (.reg [⟨.mov (.s 11), none, none⟩,
 ⟨.mov (.s 1), none, none⟩,
 ⟨.len 0 (.l 1), none, none⟩,
 ⟨.mov (.s 0), none, none⟩,
 ⟨.len 1 (.l 3), none, none⟩,
 ⟨.bin .sub (.l 4) (.c (.i .i64 1)), none, none⟩,
 ⟨.bin .mul (.l 2) (.l 5), none, none⟩,
 ⟨.bin .add (.l 0) (.l 6), none, none⟩,
 ⟨.mov (.l 7), some 11, none⟩] none))
 .skip))
 (.seq (.seq (.reg [⟨.mov (.s 0), some 14, none⟩,
 ⟨.len 1 (.s 14), some 13, none⟩,
 ⟨.mov (.c (.i .i64 0)), some 12, none⟩] none)
 (.block 1 (.loop v71l0)))
 (.seq (.reg [⟨.hal 81 [.np, .nil], some 16, none⟩] none)
 (.seq (.reg [⟨.mov (.s 11), none, none⟩,
 ⟨.call 101 [(.s 16), (.l 0)], none, none⟩] none)
 (.seq (.reg [⟨.mov (.s 0), none, none⟩,
 ⟨.iad (.l 0) (.c (.i .i64 0)) 1, none, none⟩,
 ⟨.ld (.l 1) 1 false, none, none⟩,
 ⟨.call 37 [(.s 16), (.l 2)], none, none⟩] none)
 (.seq (.seq (.reg [⟨.mov (.s 0), none, none⟩,
 ⟨.sli false 1 (.l 0) (some (.c (.i .i64 1))) none none, some 19, none⟩,
 ⟨.len 1 (.s 19), some 18, none⟩,
 ⟨.mov (.c (.i .i64 0)), some 17, none⟩] none)
 (.block 3 (.loop v71l1)))
 (.seq (.reg [⟨.call 40 [(.s 16)], none, none⟩,
 ⟨.mov (.l 0), some 2, none⟩] none)
 .ret)))))))))), true, false, none⟩

def tm71 : List Nat := [0, 1, 4, 13, 15, 22, 29, 42, 49, 66, 12, 5, 41, 40, 39, 7, 8, 65, 64, 63, 10]
def bs71 : List Nat := []

-- annuitant/annuitantkit.CopyInts
def v72 : VFunc :=
 ⟨1, 3, [.s 1],
 (.seq (.reg [⟨.mov (.c .nil), some 1, none⟩] none)
 (.seq (.reg [⟨.mov (.c .nil), some 2, none⟩] none)
 (.seq (.reg [⟨.mov (.s 2), none, none⟩,
 ⟨.mov (.s 0), none, none⟩,
 ⟨.app (.l 0) (.l 1) 1 8 true, none, none⟩,
 ⟨.mov (.l 2), some 1, none⟩] none)
 .ret))), true, false, none⟩

def tm72 : List Nat := [0, 2, 3]
def bs72 : List Nat := []

-- annuitant/annuitantkit.CopyPostings
def v73 : VFunc :=
 ⟨1, 3, [.s 1],
 (.seq (.reg [⟨.mov (.c .nil), some 1, none⟩] none)
 (.seq (.reg [⟨.mov (.c .nil), some 2, none⟩] none)
 (.seq (.reg [⟨.mov (.s 2), none, none⟩,
 ⟨.mov (.s 0), none, none⟩,
 ⟨.app (.l 0) (.l 1) 4 32 true, none, none⟩,
 ⟨.mov (.l 2), some 1, none⟩] none)
 .ret))), true, false, none⟩

def tm73 : List Nat := [0, 2, 3]
def bs73 : List Nat := []

-- annuitant/annuitantref35.Valid
def v74l0 : VCode :=
 (.seq (.seq (.reg [⟨.mov (.s 7), none, none⟩,
 ⟨.lfa (.sl 6) 6, none, none⟩,
 ⟨.lld (.lo 1) 1 false, none, none⟩,
 ⟨.len 1 (.l 2), none, none⟩,
 ⟨.bin .lss (.l 0) (.l 3), some 3, none⟩] none)
 (.cond (.s 3) .skip
 (.exit 0)))
 (.seq (.block 1 (.seq (.reg [⟨.lfa (.sl 6) 6, none, none⟩,
 ⟨.lld (.lo 0) 1 false, none, none⟩,
 ⟨.mov (.s 7), none, none⟩,
 ⟨.iad (.l 1) (.l 2) 10, none, none⟩,
 ⟨.ld (.l 3) 10 true, none, none⟩,
 ⟨.lal [(.i .i64 0), (.i .i64 0), (.i .i64 0), (.i .i64 0), (.i .i64 0), (.i .i64 0), (.i .i64 0), (.i .i64 0), (.i .i64 0), (.b false)], some 8, none⟩,
 ⟨.lst (.sl 8) (.l 4) 10, none, none⟩] none)
 (.seq (.seq (.reg [⟨.lfa (.sl 8) 0, none, none⟩,
 ⟨.lld (.lo 0) 1 false, none, none⟩,
 ⟨.bin .lss (.l 1) (.c (.i .i64 0)), none, none⟩,
 ⟨.mov (.l 2), none, none⟩,
 ⟨.lfa (.sl 8) 4, none, some ((.l 3), false)⟩,
 ⟨.lfa (.lo 4) 0, none, some ((.l 3), false)⟩,
 ⟨.lld (.lo 5) 1 false, none, some ((.l 3), false)⟩,
 ⟨.bin .lss (.l 6) (.c (.i .i64 0)), none, some ((.l 3), false)⟩,
 ⟨.pick (.l 3) (.c (.b true)) (.l 7), none, none⟩,
 ⟨.mov (.l 8), none, none⟩,
 ⟨.lfa (.sl 8) 2, none, some ((.l 9), false)⟩,
 ⟨.lld (.lo 10) 1 false, none, some ((.l 9), false)⟩,
 ⟨.bin .lss (.l 11) (.c (.i .i64 0)), none, some ((.l 9), false)⟩,
 ⟨.pick (.l 9) (.c (.b true)) (.l 12), none, none⟩,
 ⟨.mov (.l 13), none, none⟩,
 ⟨.lfa (.sl 8) 2, none, some ((.l 14), false)⟩,
 ⟨.lld (.lo 15) 1 false, none, some ((.l 14), false)⟩,
 ⟨.lfa (.sl 8) 3, none, some ((.l 14), false)⟩,
 ⟨.lld (.lo 17) 1 false, none, some ((.l 14), false)⟩,
 ⟨.bin .gtr (.l 16) (.l 18), none, some ((.l 14), false)⟩,
 ⟨.pick (.l 14) (.c (.b true)) (.l 19), none, none⟩,
 ⟨.mov (.l 20), none, none⟩,
 ⟨.lfa (.sl 8) 3, none, some ((.l 21), false)⟩,
 ⟨.lld (.lo 22) 1 false, none, some ((.l 21), false)⟩,
 ⟨.lfa (.sl 6) 0, none, some ((.l 21), false)⟩,
 ⟨.lfa (.lo 24) 2, none, some ((.l 21), false)⟩,
 ⟨.lld (.lo 25) 1 false, none, some ((.l 21), false)⟩,
 ⟨.len 1 (.l 26), none, some ((.l 21), false)⟩,
 ⟨.bin .gtr (.l 23) (.l 27), none, some ((.l 21), false)⟩,
 ⟨.pick (.l 21) (.c (.b true)) (.l 28), none, none⟩,
 ⟨.mov (.l 29), none, none⟩,
 ⟨.lfa (.sl 8) 4, none, some ((.l 30), false)⟩,
 ⟨.lfa (.lo 31) 2, none, some ((.l 30), false)⟩,
 ⟨.lld (.lo 32) 1 false, none, some ((.l 30), false)⟩,
 ⟨.bin .lss (.l 33) (.c (.i .i64 0)), none, some ((.l 30), false)⟩,
 ⟨.pick (.l 30) (.c (.b true)) (.l 34), none, none⟩,
 ⟨.mov (.l 35), none, none⟩,
 ⟨.lfa (.sl 8) 4, none, some ((.l 36), false)⟩,
 ⟨.lfa (.lo 37) 2, none, some ((.l 36), false)⟩,
 ⟨.lld (.lo 38) 1 false, none, some ((.l 36), false)⟩,
 ⟨.bin .gtr (.l 39) (.c (.i .i64 1099511627776)), none, some ((.l 36), false)⟩,
 ⟨.pick (.l 36) (.c (.b true)) (.l 40), none, none⟩,
 ⟨.mov (.l 41), none, none⟩,
 ⟨.lfa (.sl 8) 4, none, some ((.l 42), false)⟩,
 ⟨.lfa (.lo 43) 3, none, some ((.l 42), false)⟩,
 ⟨.lld (.lo 44) 1 false, none, some ((.l 42), false)⟩,
 ⟨.bin .lss (.l 45) (.c (.i .i64 (-1099511627776))), none, some ((.l 42), false)⟩,
 ⟨.pick (.l 42) (.c (.b true)) (.l 46), none, none⟩,
 ⟨.mov (.l 47), none, none⟩,
 ⟨.lfa (.sl 8) 4, none, some ((.l 48), false)⟩,
 ⟨.lfa (.lo 49) 3, none, some ((.l 48), false)⟩,
 ⟨.lld (.lo 50) 1 false, none, some ((.l 48), false)⟩,
 ⟨.bin .gtr (.l 51) (.c (.i .i64 1099511627776)), none, some ((.l 48), false)⟩,
 ⟨.pick (.l 48) (.c (.b true)) (.l 52), some 4, none⟩] none)
 (.cond (.s 4) (.seq (.reg [⟨.mov (.c (.b false)), some 1, none⟩] none)
 .ret)
 .skip))
 (.seq (.reg [⟨.mov (.s 7), none, none⟩,
 ⟨.bin .gtr (.l 0) (.c (.i .i64 0)), none, none⟩,
 ⟨.mov (.l 1), none, none⟩,
 ⟨.lfa (.sl 6) 6, none, some ((.l 2), true)⟩,
 ⟨.lld (.lo 3) 1 false, none, some ((.l 2), true)⟩,
 ⟨.mov (.s 7), none, some ((.l 2), true)⟩,
 ⟨.bin .sub (.l 5) (.c (.i .i64 1)), none, some ((.l 2), true)⟩,
 ⟨.iad (.l 4) (.l 6) 10, none, some ((.l 2), true)⟩,
 ⟨.fad (.l 7) 0, none, some ((.l 2), true)⟩,
 ⟨.ld (.l 8) 1 false, none, some ((.l 2), true)⟩,
 ⟨.lfa (.sl 8) 0, none, some ((.l 2), true)⟩,
 ⟨.lld (.lo 10) 1 false, none, some ((.l 2), true)⟩,
 ⟨.bin .geq (.l 9) (.l 11), none, some ((.l 2), true)⟩,
 ⟨.mov (.l 12), none, some ((.l 2), true)⟩,
 ⟨.lfa (.sl 6) 6, none, some ((.l 13), false)⟩,
 ⟨.lld (.lo 14) 1 false, none, some ((.l 13), false)⟩,
 ⟨.mov (.s 7), none, some ((.l 13), false)⟩,
 ⟨.bin .sub (.l 16) (.c (.i .i64 1)), none, some ((.l 13), false)⟩,
 ⟨.iad (.l 15) (.l 17) 10, none, some ((.l 13), false)⟩,
 ⟨.fad (.l 18) 4, none, some ((.l 13), false)⟩,
 ⟨.fad (.l 19) 0, none, some ((.l 13), false)⟩,
 ⟨.ld (.l 20) 1 false, none, some ((.l 13), false)⟩,
 ⟨.lfa (.sl 8) 4, none, some ((.l 13), false)⟩,
 ⟨.lfa (.lo 22) 0, none, some ((.l 13), false)⟩,
 ⟨.lld (.lo 23) 1 false, none, some ((.l 13), false)⟩,
 ⟨.bin .geq (.l 21) (.l 24), none, some ((.l 13), false)⟩,
 ⟨.pick (.l 13) (.c (.b true)) (.l 25), none, some ((.l 2), true)⟩,
 ⟨.mov (.l 26), none, some ((.l 2), true)⟩,
 ⟨.lfa (.sl 6) 6, none, some ((.l 27), false)⟩,
 ⟨.lld (.lo 28) 1 false, none, some ((.l 27), false)⟩,
 ⟨.mov (.s 7), none, some ((.l 27), false)⟩,
 ⟨.bin .sub (.l 30) (.c (.i .i64 1)), none, some ((.l 27), false)⟩,
 ⟨.iad (.l 29) (.l 31) 10, none, some ((.l 27), false)⟩,
 ⟨.fad (.l 32) 3, none, some ((.l 27), false)⟩,
 ⟨.ld (.l 33) 1 false, none, some ((.l 27), false)⟩,
 ⟨.lfa (.sl 8) 2, none, some ((.l 27), false)⟩,
 ⟨.lld (.lo 35) 1 false, none, some ((.l 27), false)⟩,
 ⟨.bin .gtr (.l 34) (.l 36), none, some ((.l 27), false)⟩,
 ⟨.pick (.l 27) (.c (.b true)) (.l 37), none, some ((.l 2), true)⟩,
 ⟨.pick (.l 2) (.l 38) (.c (.b false)), some 5, none⟩] (some false))
 (.cond (.s 5) (.seq (.reg [⟨.mov (.c (.b false)), some 1, none⟩] none)
 .ret)
 .skip)))))
 (.reg [⟨.mov (.s 7), none, none⟩,
 ⟨.bin .add (.l 0) (.c (.i .i64 1)), none, none⟩,
 ⟨.mov (.l 1), some 7, none⟩] none)))
def v74 : VFunc :=
 ⟨1, 9, [.s 1],
 (.seq (.reg [⟨.lbx (.s 0) 7, some 6, none⟩,
 ⟨.mov (.c (.b false)), some 1, none⟩] none)
 (.seq (.seq (.reg [⟨.lfa (.sl 6) 0, none, none⟩,
 ⟨.lld (.lo 0) 3 true, none, none⟩,
 ⟨.call 102 [(.l 1)], none, none⟩,
 ⟨.un .not (.l 2), none, none⟩,
 ⟨.mov (.l 3), none, none⟩,
 ⟨.lfa (.sl 6) 3, none, some ((.l 4), false)⟩,
 ⟨.lfa (.lo 5) 0, none, some ((.l 4), false)⟩,
 ⟨.lld (.lo 6) 1 false, none, some ((.l 4), false)⟩,
 ⟨.bin .lss (.l 7) (.c (.i .i64 0)), none, some ((.l 4), false)⟩,
 ⟨.pick (.l 4) (.c (.b true)) (.l 8), none, none⟩,
 ⟨.mov (.l 9), none, none⟩,
 ⟨.lfa (.sl 6) 3, none, some ((.l 10), false)⟩,
 ⟨.lfa (.lo 11) 0, none, some ((.l 10), false)⟩,
 ⟨.lld (.lo 12) 1 false, none, some ((.l 10), false)⟩,
 ⟨.bin .gtr (.l 13) (.c (.i .i64 2153)), none, some ((.l 10), false)⟩,
 ⟨.pick (.l 10) (.c (.b true)) (.l 14), none, none⟩,
 ⟨.mov (.l 15), none, none⟩,
 ⟨.lfa (.sl 6) 3, none, some ((.l 16), false)⟩,
 ⟨.lfa (.lo 17) 1, none, some ((.l 16), false)⟩,
 ⟨.lld (.lo 18) 1 false, none, some ((.l 16), false)⟩,
 ⟨.bin .lss (.l 19) (.c (.i .i64 0)), none, some ((.l 16), false)⟩,
 ⟨.pick (.l 16) (.c (.b true)) (.l 20), none, none⟩,
 ⟨.mov (.l 21), none, none⟩,
 ⟨.lfa (.sl 6) 3, none, some ((.l 22), false)⟩,
 ⟨.lfa (.lo 23) 1, none, some ((.l 22), false)⟩,
 ⟨.lld (.lo 24) 1 false, none, some ((.l 22), false)⟩,
 ⟨.bin .gtr (.l 25) (.c (.i .i64 1099511627776)), none, some ((.l 22), false)⟩,
 ⟨.pick (.l 22) (.c (.b true)) (.l 26), none, none⟩,
 ⟨.mov (.l 27), none, none⟩,
 ⟨.lfa (.sl 6) 3, none, some ((.l 28), false)⟩,
 ⟨.lfa (.lo 29) 2, none, some ((.l 28), false)⟩,
 ⟨.lld (.lo 30) 1 false, none, some ((.l 28), false)⟩,
 ⟨.bin .lss (.l 31) (.c (.i .i64 (-1099511627776))), none, some ((.l 28), false)⟩,
 ⟨.pick (.l 28) (.c (.b true)) (.l 32), none, none⟩,
 ⟨.mov (.l 33), none, none⟩,
 ⟨.lfa (.sl 6) 3, none, some ((.l 34), false)⟩,
 ⟨.lfa (.lo 35) 2, none, some ((.l 34), false)⟩,
 ⟨.lld (.lo 36) 1 false, none, some ((.l 34), false)⟩,
 ⟨.bin .gtr (.l 37) (.c (.i .i64 1099511627776)), none, some ((.l 34), false)⟩,
 ⟨.pick (.l 34) (.c (.b true)) (.l 38), none, none⟩,
 ⟨.mov (.l 39), none, none⟩,
 ⟨.lfa (.sl 6) 6, none, some ((.l 40), false)⟩,
 ⟨.lld (.lo 41) 1 false, none, some ((.l 40), false)⟩,
 ⟨.len 1 (.l 42), none, some ((.l 40), false)⟩,
 ⟨.bin .gtr (.l 43) (.c (.i .i64 1200)), none, some ((.l 40), false)⟩,
 ⟨.pick (.l 40) (.c (.b true)) (.l 44), some 2, none⟩] none)
 (.cond (.s 2) (.seq (.reg [⟨.mov (.c (.b false)), some 1, none⟩] none)
 .ret)
 .skip))
 (.seq (.seq (.reg [⟨.mov (.c (.i .i64 0)), some 7, none⟩] none)
 (.block 0 (.loop v74l0)))
 (.seq (.reg [⟨.mov (.c (.b true)), some 1, none⟩] none)
 .ret)))), true, false, none⟩

def tm74 : List Nat := [0, 2, 50, 55, 116, 156, 1, 3, 4]
def bs74 : List Nat := [6, 8]

-- annuitant/annuitantref27.Balance
def v75l0 : VCode :=
 (.seq (.seq (.reg [⟨.mov (.s 6), none, none⟩,
 ⟨.lfa (.sl 7) 1, none, none⟩,
 ⟨.lld (.lo 1) 1 false, none, none⟩,
 ⟨.len 1 (.l 2), none, none⟩,
 ⟨.bin .lss (.l 0) (.l 3), some 3, none⟩] none)
 (.cond (.s 3) .skip
 (.exit 0)))
 (.seq (.block 1 (.seq (.reg [⟨.lfa (.sl 7) 0, none, none⟩,
 ⟨.lld (.lo 0) 1 false, none, none⟩,
 ⟨.mov (.s 6), none, none⟩,
 ⟨.bin .add (.l 1) (.l 2), none, none⟩,
 ⟨.mov (.s 1), none, none⟩,
 ⟨.bin .lss (.l 3) (.l 4), some 4, none⟩] none)
 (.cond (.s 4) (.reg [⟨.mov (.s 5), none, none⟩,
 ⟨.lfa (.sl 7) 1, none, none⟩,
 ⟨.lld (.lo 1) 1 false, none, none⟩,
 ⟨.mov (.s 6), none, none⟩,
 ⟨.iad (.l 2) (.l 3) 1, none, none⟩,
 ⟨.ld (.l 4) 1 false, none, none⟩,
 ⟨.bin .add (.l 0) (.l 5), none, none⟩,
 ⟨.lld (.sl 7) 3 true, none, none⟩,
 ⟨.lfa (.sl 7) 0, none, none⟩,
 ⟨.lld (.lo 8) 1 false, none, none⟩,
 ⟨.mov (.s 6), none, none⟩,
 ⟨.bin .add (.l 9) (.l 10), none, none⟩,
 ⟨.call 77 [(.l 7), (.l 11)], none, none⟩,
 ⟨.bin .sub (.l 6) (.l 12), none, none⟩,
 ⟨.mov (.l 13), some 5, none⟩] (some false))
 .skip)))
 (.reg [⟨.mov (.s 6), none, none⟩,
 ⟨.bin .add (.l 0) (.c (.i .i64 1)), none, none⟩,
 ⟨.mov (.l 1), some 6, none⟩] none)))
def v75 : VFunc :=
 ⟨2, 8, [.s 2],
 (.seq (.reg [⟨.lbx (.s 0) 3, some 7, none⟩,
 ⟨.mov (.c (.i .i64 0)), some 2, none⟩] none)
 (.seq (.reg [⟨.mov (.c (.i .i64 0)), some 5, none⟩] none)
 (.seq (.seq (.reg [⟨.mov (.c (.i .i64 0)), some 6, none⟩] none)
 (.block 0 (.loop v75l0)))
 (.seq (.reg [⟨.mov (.s 5), none, none⟩,
 ⟨.mov (.l 0), some 2, none⟩] none)
 .ret)))), true, false, none⟩

def tm75 : List Nat := [0, 1, 4, 11, 19, 5, 6, 2]
def bs75 : List Nat := [7]

-- annuitant/annuitantref27.Has
def v76l0 : VCode :=
 (.seq (.seq (.reg [⟨.mov (.s 5), none, none⟩,
 ⟨.lfa (.sl 6) 1, none, none⟩,
 ⟨.lld (.lo 1) 1 false, none, none⟩,
 ⟨.len 1 (.l 2), none, none⟩,
 ⟨.bin .lss (.l 0) (.l 3), some 3, none⟩] none)
 (.cond (.s 3) .skip
 (.exit 0)))
 (.seq (.block 1 (.seq (.reg [⟨.lfa (.sl 6) 0, none, none⟩,
 ⟨.lld (.lo 0) 1 false, none, none⟩,
 ⟨.mov (.s 5), none, none⟩,
 ⟨.bin .add (.l 1) (.l 2), none, none⟩,
 ⟨.mov (.s 1), none, none⟩,
 ⟨.bin .eql (.l 3) (.l 4), some 4, none⟩] none)
 (.cond (.s 4) (.seq (.reg [⟨.mov (.c (.b true)), some 2, none⟩] none)
 .ret)
 .skip)))
 (.reg [⟨.mov (.s 5), none, none⟩,
 ⟨.bin .add (.l 0) (.c (.i .i64 1)), none, none⟩,
 ⟨.mov (.l 1), some 5, none⟩] none)))
def v76 : VFunc :=
 ⟨2, 7, [.s 2],
 (.seq (.reg [⟨.lbx (.s 0) 3, some 6, none⟩,
 ⟨.mov (.c (.b false)), some 2, none⟩] none)
 (.seq (.seq (.reg [⟨.mov (.c (.i .i64 0)), some 5, none⟩] none)
 (.block 0 (.loop v76l0)))
 (.seq (.reg [⟨.mov (.c (.b false)), some 2, none⟩] none)
 .ret))), true, false, none⟩

def tm76 : List Nat := [0, 1, 4, 10, 18, 5, 2]
def bs76 : List Nat := [6]

-- annuitant/annuitantref27.Posted
def v77l0 : VCode :=
 (.seq (.seq (.reg [⟨.mov (.s 6), none, none⟩,
 ⟨.lfa (.sl 7) 2, none, none⟩,
 ⟨.lld (.lo 1) 1 false, none, none⟩,
 ⟨.len 1 (.l 2), none, none⟩,
 ⟨.bin .lss (.l 0) (.l 3), some 3, none⟩] none)
 (.cond (.s 3) .skip
 (.exit 0)))
 (.seq (.block 1 (.seq (.reg [⟨.lfa (.sl 7) 2, none, none⟩,
 ⟨.lld (.lo 0) 1 false, none, none⟩,
 ⟨.mov (.s 6), none, none⟩,
 ⟨.iad (.l 1) (.l 2) 4, none, none⟩,
 ⟨.fad (.l 3) 1, none, none⟩,
 ⟨.ld (.l 4) 1 false, none, none⟩,
 ⟨.mov (.s 1), none, none⟩,
 ⟨.bin .eql (.l 5) (.l 6), none, none⟩,
 ⟨.mov (.l 7), none, none⟩,
 ⟨.lfa (.sl 7) 2, none, some ((.l 8), true)⟩,
 ⟨.lld (.lo 9) 1 false, none, some ((.l 8), true)⟩,
 ⟨.mov (.s 6), none, some ((.l 8), true)⟩,
 ⟨.iad (.l 10) (.l 11) 4, none, some ((.l 8), true)⟩,
 ⟨.fad (.l 12) 2, none, some ((.l 8), true)⟩,
 ⟨.ld (.l 13) 1 false, none, some ((.l 8), true)⟩,
 ⟨.bin .neq (.l 14) (.c (.i .u8 3)), none, some ((.l 8), true)⟩,
 ⟨.pick (.l 8) (.l 15) (.c (.b false)), some 4, none⟩] none)
 (.cond (.s 4) (.reg [⟨.mov (.s 5), none, none⟩,
 ⟨.lfa (.sl 7) 2, none, none⟩,
 ⟨.lld (.lo 1) 1 false, none, none⟩,
 ⟨.mov (.s 6), none, none⟩,
 ⟨.iad (.l 2) (.l 3) 4, none, none⟩,
 ⟨.fad (.l 4) 3, none, none⟩,
 ⟨.ld (.l 5) 1 false, none, none⟩,
 ⟨.bin .add (.l 0) (.l 6), none, none⟩,
 ⟨.mov (.l 7), some 5, none⟩] none)
 .skip)))
 (.reg [⟨.mov (.s 6), none, none⟩,
 ⟨.bin .add (.l 0) (.c (.i .i64 1)), none, none⟩,
 ⟨.mov (.l 1), some 6, none⟩] none)))
def v77 : VFunc :=
 ⟨2, 8, [.s 2],
 (.seq (.reg [⟨.lbx (.s 0) 3, some 7, none⟩,
 ⟨.mov (.c (.i .i64 0)), some 2, none⟩] none)
 (.seq (.reg [⟨.mov (.c (.i .i64 0)), some 5, none⟩] none)
 (.seq (.seq (.reg [⟨.mov (.c (.i .i64 0)), some 6, none⟩] none)
 (.block 0 (.loop v77l0)))
 (.seq (.reg [⟨.mov (.s 5), none, none⟩,
 ⟨.mov (.l 0), some 2, none⟩] none)
 .ret)))), true, false, none⟩

def tm77 : List Nat := [0, 1, 4, 11, 30, 5, 6, 2]
def bs77 : List Nat := [7]

-- annuitant/annuitantlaw27.Same
def v78l0 : VCode :=
 (.seq (.reg [⟨.bin .lss (.s 10) (.s 11), some 4, none⟩] none)
 (.seq (.cond (.s 4) .skip
 (.exit 0))
 (.seq (.block 1 (.seq (.reg [⟨.mov (.s 10), none, none⟩,
 ⟨.mov (.l 0), some 12, none⟩] none)
 (.seq (.reg [⟨.lfa (.sl 8) 1, none, none⟩,
 ⟨.lld (.lo 0) 1 false, none, none⟩,
 ⟨.mov (.s 12), none, none⟩,
 ⟨.iad (.l 1) (.l 2) 1, none, none⟩,
 ⟨.ld (.l 3) 1 false, none, none⟩,
 ⟨.lfa (.sl 9) 1, none, none⟩,
 ⟨.lld (.lo 5) 1 false, none, none⟩,
 ⟨.mov (.s 12), none, none⟩,
 ⟨.iad (.l 6) (.l 7) 1, none, none⟩,
 ⟨.ld (.l 8) 1 false, none, none⟩,
 ⟨.bin .neq (.l 4) (.l 9), some 5, none⟩] (some false))
 (.cond (.s 5) (.seq (.reg [⟨.mov (.c (.b false)), some 2, none⟩] none)
 .ret)
 .skip))))
 (.reg [⟨.bin .add (.s 10) (.c (.i .i64 1)), none, none⟩,
 ⟨.mov (.l 0), some 10, none⟩] none))))
def v78l1 : VCode :=
 (.seq (.reg [⟨.bin .lss (.s 13) (.s 14), some 6, none⟩] none)
 (.seq (.cond (.s 6) .skip
 (.exit 2))
 (.seq (.block 3 (.seq (.reg [⟨.mov (.s 13), none, none⟩,
 ⟨.mov (.l 0), some 15, none⟩] none)
 (.seq (.reg [⟨.lfa (.sl 8) 2, none, none⟩,
 ⟨.lld (.lo 0) 1 false, none, none⟩,
 ⟨.mov (.s 15), none, none⟩,
 ⟨.iad (.l 1) (.l 2) 4, none, none⟩,
 ⟨.ld (.l 3) 4 true, none, none⟩,
 ⟨.lfa (.sl 9) 2, none, none⟩,
 ⟨.lld (.lo 5) 1 false, none, none⟩,
 ⟨.mov (.s 15), none, none⟩,
 ⟨.iad (.l 6) (.l 7) 4, none, none⟩,
 ⟨.ld (.l 8) 4 true, none, none⟩,
 ⟨.eqv true (.st [1, 1, 1, 1]) (.l 4) (.l 9), some 7, none⟩] (some false))
 (.cond (.s 7) (.seq (.reg [⟨.mov (.c (.b false)), some 2, none⟩] none)
 .ret)
 .skip))))
 (.reg [⟨.bin .add (.s 13) (.c (.i .i64 1)), none, none⟩,
 ⟨.mov (.l 0), some 13, none⟩] none))))
def v78 : VFunc :=
 ⟨2, 16, [.s 2],
 (.seq (.reg [⟨.lbx (.s 0) 3, some 8, none⟩,
 ⟨.lbx (.s 1) 3, some 9, none⟩,
 ⟨.mov (.c (.b false)), some 2, none⟩] none)
 (.seq (.seq (.reg [⟨.lfa (.sl 8) 0, none, none⟩,
 ⟨.lld (.lo 0) 1 false, none, none⟩,
 ⟨.lfa (.sl 9) 0, none, none⟩,
 ⟨.lld (.lo 2) 1 false, none, none⟩,
 ⟨.bin .neq (.l 1) (.l 3), none, none⟩,
 ⟨.mov (.l 4), none, none⟩,
 ⟨.lfa (.sl 8) 1, none, some ((.l 5), false)⟩,
 ⟨.lld (.lo 6) 1 false, none, some ((.l 5), false)⟩,
 ⟨.len 1 (.l 7), none, some ((.l 5), false)⟩,
 ⟨.lfa (.sl 9) 1, none, some ((.l 5), false)⟩,
 ⟨.lld (.lo 9) 1 false, none, some ((.l 5), false)⟩,
 ⟨.len 1 (.l 10), none, some ((.l 5), false)⟩,
 ⟨.bin .neq (.l 8) (.l 11), none, some ((.l 5), false)⟩,
 ⟨.pick (.l 5) (.c (.b true)) (.l 12), none, none⟩,
 ⟨.mov (.l 13), none, none⟩,
 ⟨.lfa (.sl 8) 2, none, some ((.l 14), false)⟩,
 ⟨.lld (.lo 15) 1 false, none, some ((.l 14), false)⟩,
 ⟨.len 1 (.l 16), none, some ((.l 14), false)⟩,
 ⟨.lfa (.sl 9) 2, none, some ((.l 14), false)⟩,
 ⟨.lld (.lo 18) 1 false, none, some ((.l 14), false)⟩,
 ⟨.len 1 (.l 19), none, some ((.l 14), false)⟩,
 ⟨.bin .neq (.l 17) (.l 20), none, some ((.l 14), false)⟩,
 ⟨.pick (.l 14) (.c (.b true)) (.l 21), some 3, none⟩] none)
 (.cond (.s 3) (.seq (.reg [⟨.mov (.c (.b false)), some 2, none⟩] none)
 .ret)
 .skip))
 (.seq (.seq (.reg [⟨.lfa (.sl 8) 1, none, none⟩,
 ⟨.lld (.lo 0) 1 false, none, none⟩,
 ⟨.len 1 (.l 1), some 11, none⟩,
 ⟨.mov (.c (.i .i64 0)), some 10, none⟩] none)
 (.block 0 (.loop v78l0)))
 (.seq (.seq (.reg [⟨.lfa (.sl 8) 2, none, none⟩,
 ⟨.lld (.lo 0) 1 false, none, none⟩,
 ⟨.len 1 (.l 1), some 14, none⟩,
 ⟨.mov (.c (.i .i64 0)), some 13, none⟩] none)
 (.block 2 (.loop v78l1)))
 (.seq (.reg [⟨.mov (.c (.b true)), some 2, none⟩] none)
 .ret))))), true, false, none⟩

def tm78 : List Nat := [0, 1, 4, 29, 34, 46, 52, 64, 2, 3, 33, 32, 5, 51, 50, 6]
def bs78 : List Nat := [8, 9]

-- (*annuitant/state.reader).number
def v79l0 : VCode :=
 (.seq (.seq (.reg [⟨.mov (.s 9), none, none⟩,
 ⟨.mov (.s 0), none, none⟩,
 ⟨.nck (.l 1), none, none⟩,
 ⟨.fad (.l 2) 0, none, none⟩,
 ⟨.ld (.l 3) 1 false, none, none⟩,
 ⟨.len 0 (.l 4), none, none⟩,
 ⟨.bin .lss (.l 0) (.l 5), none, none⟩,
 ⟨.mov (.l 6), none, none⟩,
 ⟨.mov (.s 0), none, some ((.l 7), true)⟩,
 ⟨.nck (.l 8), none, some ((.l 7), true)⟩,
 ⟨.fad (.l 9) 0, none, some ((.l 7), true)⟩,
 ⟨.ld (.l 10) 1 false, none, some ((.l 7), true)⟩,
 ⟨.mov (.s 9), none, some ((.l 7), true)⟩,
 ⟨.ixs (.l 11) (.l 12), none, some ((.l 7), true)⟩,
 ⟨.bin .leq (.c (.i .u8 48)) (.l 13), none, some ((.l 7), true)⟩,
 ⟨.pick (.l 7) (.l 14) (.c (.b false)), none, none⟩,
 ⟨.mov (.l 15), none, none⟩,
 ⟨.mov (.s 0), none, some ((.l 16), true)⟩,
 ⟨.nck (.l 17), none, some ((.l 16), true)⟩,
 ⟨.fad (.l 18) 0, none, some ((.l 16), true)⟩,
 ⟨.ld (.l 19) 1 false, none, some ((.l 16), true)⟩,
 ⟨.mov (.s 9), none, some ((.l 16), true)⟩,
 ⟨.ixs (.l 20) (.l 21), none, some ((.l 16), true)⟩,
 ⟨.bin .leq (.l 22) (.c (.i .u8 57)), none, some ((.l 16), true)⟩,
 ⟨.pick (.l 16) (.l 23) (.c (.b false)), some 4, none⟩] none)
 (.cond (.s 4) .skip
 (.exit 0)))
 (.seq (.block 1 (.seq (.reg [⟨.mov (.s 8), none, none⟩,
 ⟨.bin .mul (.c (.i .i64 10)) (.l 0), none, none⟩,
 ⟨.mov (.s 0), none, none⟩,
 ⟨.nck (.l 2), none, none⟩,
 ⟨.fad (.l 3) 0, none, none⟩,
 ⟨.ld (.l 4) 1 false, none, none⟩,
 ⟨.mov (.s 9), none, none⟩,
 ⟨.ixs (.l 5) (.l 6), none, none⟩,
 ⟨.bin .sub (.l 7) (.c (.i .u8 48)), none, none⟩,
 ⟨.cvi .i64 (.l 8), none, none⟩,
 ⟨.bin .add (.l 1) (.l 9), none, none⟩,
 ⟨.mov (.l 10), some 8, none⟩] none)
 (.seq (.reg [⟨.mov (.s 8), none, none⟩,
 ⟨.bin .gtr (.l 0) (.c (.i .i64 9007199254740992)), some 5, none⟩] none)
 (.cond (.s 5) (.reg [⟨.agc [] [], none, none⟩,
 ⟨.mki 131 (.l 0), none, none⟩,
 ⟨.pan (.l 1), none, none⟩] none)
 .skip))))
 (.reg [⟨.mov (.s 9), none, none⟩,
 ⟨.bin .add (.l 0) (.c (.i .i64 1)), none, none⟩,
 ⟨.mov (.l 1), some 9, none⟩] none)))
def v79 : VFunc :=
 ⟨2, 10, [.s 2],
 (.seq (.reg [⟨.mov (.c (.i .i64 0)), some 2, none⟩] none)
 (.seq (.reg [⟨.mov (.s 0), none, none⟩,
 ⟨.mov (.s 1), none, none⟩,
 ⟨.call 82 [(.l 0), (.l 1)], none, none⟩] none)
 (.seq (.reg [⟨.mov (.c (.i .i64 0)), some 8, none⟩,
 ⟨.mov (.c (.i .i64 1)), some 7, none⟩] none)
 (.seq (.seq (.reg [⟨.mov (.s 0), none, none⟩,
 ⟨.call 80 [(.l 0), (.c (.s [45]))], some 3, none⟩] none)
 (.cond (.s 3) (.reg [⟨.mov (.c (.i .i64 (-1))), some 7, none⟩] none)
 .skip))
 (.seq (.reg [⟨.mov (.c (.i .i64 0)), some 9, none⟩] none)
 (.seq (.block 0 (.loop v79l0))
 (.seq (.seq (.reg [⟨.mov (.s 9), none, none⟩,
 ⟨.bin .eql (.l 0) (.c (.i .i64 0)), some 6, none⟩] none)
 (.cond (.s 6) (.reg [⟨.agc [] [], none, none⟩,
 ⟨.mki 131 (.l 0), none, none⟩,
 ⟨.pan (.l 1), none, none⟩] none)
 .skip))
 (.seq (.reg [⟨.mov (.s 0), none, none⟩,
 ⟨.mov (.s 0), none, none⟩,
 ⟨.nck (.l 1), none, none⟩,
 ⟨.fad (.l 2) 0, none, none⟩,
 ⟨.ld (.l 3) 1 false, none, none⟩,
 ⟨.mov (.s 9), none, none⟩,
 ⟨.sli true 0 (.l 4) (some (.l 5)) none none, none, none⟩,
 ⟨.nck (.l 0), none, none⟩,
 ⟨.fad (.l 7) 0, none, none⟩,
 ⟨.st (.l 8) (.l 6) 1, none, none⟩] none)
 (.seq (.reg [⟨.mov (.s 7), none, none⟩,
 ⟨.mov (.s 8), none, none⟩,
 ⟨.bin .mul (.l 0) (.l 1), none, none⟩,
 ⟨.mov (.l 2), some 2, none⟩] none)
 .ret))))))))), false, false, none⟩

def tm79 : List Nat := [0, 1, 4, 12, 37, 52, 56, 6, 5, 7]
def bs79 : List Nat := []

-- (*annuitant/state.reader).has
def v80 : VFunc :=
 ⟨2, 5, [.s 2],
 (.seq (.reg [⟨.mov (.c (.b false)), some 2, none⟩] none)
 (.seq (.reg [⟨.mov (.s 0), none, none⟩,
 ⟨.nck (.l 0), none, none⟩,
 ⟨.fad (.l 1) 0, none, none⟩,
 ⟨.ld (.l 2) 1 false, none, none⟩,
 ⟨.mov (.s 1), none, none⟩,
 ⟨.call 103 [(.l 3), (.l 4)], none, none⟩,
 ⟨.mov (.l 5), none, none⟩,
 ⟨.ext (.l 6) 0, none, none⟩,
 ⟨.ext (.l 6) 1, none, none⟩,
 ⟨.mov (.l 7), some 3, none⟩,
 ⟨.mov (.l 8), some 4, none⟩] none)
 (.seq (.reg [⟨.mov (.s 0), none, none⟩,
 ⟨.mov (.s 3), none, none⟩,
 ⟨.nck (.l 0), none, none⟩,
 ⟨.fad (.l 2) 0, none, none⟩,
 ⟨.st (.l 3) (.l 1) 1, none, none⟩] none)
 (.seq (.reg [⟨.mov (.s 4), none, none⟩,
 ⟨.mov (.l 0), some 2, none⟩] none)
 .ret)))), false, false, none⟩

def tm80 : List Nat := [0, 1, 4, 5, 6]
def bs80 : List Nat := []

-- (*annuitant/state.reader).month
def v81 : VFunc :=
 ⟨1, 5, [.s 1],
 (.seq (.reg [⟨.mov (.c (.i .i64 0)), some 1, none⟩] none)
 (.seq (.reg [⟨.mov (.s 0), none, none⟩,
 ⟨.call 79 [(.l 0), (.c (.s []))], none, none⟩,
 ⟨.mov (.l 1), some 3, none⟩] none)
 (.seq (.reg [⟨.mov (.s 0), none, none⟩,
 ⟨.call 79 [(.l 0), (.c (.s [45]))], none, none⟩,
 ⟨.mov (.l 1), some 4, none⟩] none)
 (.seq (.seq (.reg [⟨.mov (.s 3), none, none⟩,
 ⟨.call 26 [(.l 0)], none, none⟩,
 ⟨.un .not (.l 1), none, none⟩,
 ⟨.mov (.l 2), none, none⟩,
 ⟨.mov (.s 4), none, some ((.l 3), false)⟩,
 ⟨.bin .lss (.l 4) (.c (.i .i64 1)), none, some ((.l 3), false)⟩,
 ⟨.pick (.l 3) (.c (.b true)) (.l 5), none, none⟩,
 ⟨.mov (.l 6), none, none⟩,
 ⟨.mov (.s 4), none, some ((.l 7), false)⟩,
 ⟨.bin .gtr (.l 8) (.c (.i .i64 12)), none, some ((.l 7), false)⟩,
 ⟨.pick (.l 7) (.c (.b true)) (.l 9), some 2, none⟩] none)
 (.cond (.s 2) (.reg [⟨.agc [] [], none, none⟩,
 ⟨.mki 131 (.l 0), none, none⟩,
 ⟨.pan (.l 1), none, none⟩] none)
 .skip))
 (.seq (.reg [⟨.mov (.s 3), none, none⟩,
 ⟨.bin .sub (.l 0) (.c (.i .i64 1900)), none, none⟩,
 ⟨.bin .mul (.c (.i .i64 12)) (.l 1), none, none⟩,
 ⟨.mov (.s 4), none, none⟩,
 ⟨.bin .add (.l 2) (.l 3), none, none⟩,
 ⟨.bin .sub (.l 4) (.c (.i .i64 1)), none, none⟩,
 ⟨.mov (.l 5), some 1, none⟩] none)
 .ret))))), false, false, none⟩

def tm81 : List Nat := [0, 2, 19, 3, 4]
def bs81 : List Nat := []

-- (*annuitant/state.reader).want
def v82 : VFunc :=
 ⟨2, 3, [],
 (.seq (.reg [⟨.mov (.s 0), none, none⟩,
 ⟨.mov (.s 1), none, none⟩,
 ⟨.call 80 [(.l 0), (.l 1)], none, none⟩,
 ⟨.un .not (.l 2), some 2, none⟩] none)
 (.cond (.s 2) (.reg [⟨.agc [] [], none, none⟩,
 ⟨.mki 131 (.l 0), none, none⟩,
 ⟨.pan (.l 1), none, none⟩] none)
 .skip)), false, false, none⟩

def tm82 : List Nat := [0, 1, 7]
def bs82 : List Nat := []

-- annuitant/annuitantref01.decimal
def v83l0 : VCode :=
 (.seq (.seq (.reg [⟨.mov (.s 8), none, none⟩,
 ⟨.mov (.s 0), none, none⟩,
 ⟨.len 0 (.l 1), none, none⟩,
 ⟨.bin .lss (.l 0) (.l 2), some 5, none⟩] none)
 (.cond (.s 5) .skip
 (.exit 0)))
 (.seq (.block 1 (.seq (.reg [⟨.mov (.s 0), none, none⟩,
 ⟨.mov (.s 8), none, none⟩,
 ⟨.ixs (.l 0) (.l 1), none, none⟩,
 ⟨.bin .lss (.l 2) (.c (.i .u8 48)), none, none⟩,
 ⟨.mov (.l 3), none, none⟩,
 ⟨.mov (.s 0), none, some ((.l 4), false)⟩,
 ⟨.mov (.s 8), none, some ((.l 4), false)⟩,
 ⟨.ixs (.l 5) (.l 6), none, some ((.l 4), false)⟩,
 ⟨.bin .gtr (.l 7) (.c (.i .u8 57)), none, some ((.l 4), false)⟩,
 ⟨.pick (.l 4) (.c (.b true)) (.l 8), some 6, none⟩] none)
 (.cond (.s 6) (.seq (.reg [⟨.mov (.c (.b false)), some 1, none⟩] none)
 .ret)
 .skip)))
 (.reg [⟨.mov (.s 8), none, none⟩,
 ⟨.bin .add (.l 0) (.c (.i .i64 1)), none, none⟩,
 ⟨.mov (.l 1), some 8, none⟩] none)))
def v83 : VFunc :=
 ⟨1, 9, [.s 1],
 (.seq (.reg [⟨.mov (.c (.b false)), some 1, none⟩] none)
 (.seq (.reg [⟨.mov (.c (.i .i64 0)), some 7, none⟩] none)
 (.seq (.seq (.reg [⟨.mov (.s 0), none, none⟩,
 ⟨.len 0 (.l 0), none, none⟩,
 ⟨.bin .gtr (.l 1) (.c (.i .i64 1)), none, none⟩,
 ⟨.mov (.l 2), none, none⟩,
 ⟨.mov (.s 0), none, some ((.l 3), true)⟩,
 ⟨.ixs (.l 4) (.c (.i .i64 0)), none, some ((.l 3), true)⟩,
 ⟨.bin .eql (.l 5) (.c (.i .u8 45)), none, some ((.l 3), true)⟩,
 ⟨.pick (.l 3) (.l 6) (.c (.b false)), some 2, none⟩] none)
 (.cond (.s 2) (.seq (.reg [⟨.mov (.c (.i .i64 1)), some 7, none⟩] none)
 (.seq (.reg [⟨.mov (.s 0), none, none⟩,
 ⟨.ixs (.l 0) (.c (.i .i64 1)), none, none⟩,
 ⟨.bin .eql (.l 1) (.c (.i .u8 48)), some 3, none⟩] none)
 (.cond (.s 3) (.seq (.reg [⟨.mov (.c (.b false)), some 1, none⟩] none)
 .ret)
 .skip)))
 .skip))
 (.seq (.seq (.reg [⟨.mov (.s 0), none, none⟩,
 ⟨.len 0 (.l 0), none, none⟩,
 ⟨.bin .eql (.l 1) (.c (.i .i64 0)), none, none⟩,
 ⟨.mov (.l 2), none, none⟩,
 ⟨.mov (.s 0), none, some ((.l 3), false)⟩,
 ⟨.mov (.s 7), none, some ((.l 3), false)⟩,
 ⟨.ixs (.l 4) (.l 5), none, some ((.l 3), false)⟩,
 ⟨.bin .eql (.l 6) (.c (.i .u8 48)), none, some ((.l 3), false)⟩,
 ⟨.mov (.l 7), none, some ((.l 3), false)⟩,
 ⟨.mov (.s 0), none, some ((.l 8), true)⟩,
 ⟨.len 0 (.l 9), none, some ((.l 8), true)⟩,
 ⟨.bin .gtr (.l 10) (.c (.i .i64 1)), none, some ((.l 8), true)⟩,
 ⟨.pick (.l 8) (.l 11) (.c (.b false)), none, some ((.l 3), false)⟩,
 ⟨.pick (.l 3) (.c (.b true)) (.l 12), some 4, none⟩] none)
 (.cond (.s 4) (.seq (.reg [⟨.mov (.c (.b false)), some 1, none⟩] none)
 .ret)
 .skip))
 (.seq (.seq (.reg [⟨.mov (.s 7), none, none⟩,
 ⟨.mov (.l 0), some 8, none⟩] none)
 (.block 0 (.loop v83l0)))
 (.seq (.reg [⟨.mov (.c (.b true)), some 1, none⟩] none)
 .ret)))))), true, false, none⟩

def tm83 : List Nat := [0, 2, 12, 15, 29, 34, 46, 3, 4]
def bs83 : List Nat := []

-- annuitant/annuitantref01.Plus
def v84l0 : VCode :=
 (.seq (.seq (.reg [⟨.mov (.s 8), none, none⟩,
 ⟨.mov (.s 0), none, none⟩,
 ⟨.len 1 (.l 1), none, none⟩,
 ⟨.bin .lss (.l 0) (.l 2), none, none⟩,
 ⟨.mov (.l 3), none, none⟩,
 ⟨.mov (.s 8), none, some ((.l 4), false)⟩,
 ⟨.mov (.s 1), none, some ((.l 4), false)⟩,
 ⟨.len 1 (.l 6), none, some ((.l 4), false)⟩,
 ⟨.bin .lss (.l 5) (.l 7), none, some ((.l 4), false)⟩,
 ⟨.pick (.l 4) (.c (.b true)) (.l 8), none, none⟩,
 ⟨.mov (.l 9), none, none⟩,
 ⟨.mov (.s 7), none, some ((.l 10), false)⟩,
 ⟨.bin .gtr (.l 11) (.c (.i .i64 0)), none, some ((.l 10), false)⟩,
 ⟨.pick (.l 10) (.c (.b true)) (.l 12), some 3, none⟩] none)
 (.cond (.s 3) .skip
 (.exit 0)))
 (.seq (.block 1 (.seq (.seq (.reg [⟨.mov (.s 8), none, none⟩,
 ⟨.mov (.s 0), none, none⟩,
 ⟨.len 1 (.l 1), none, none⟩,
 ⟨.bin .lss (.l 0) (.l 2), some 4, none⟩] none)
 (.cond (.s 4) (.reg [⟨.mov (.s 7), none, none⟩,
 ⟨.mov (.s 0), none, none⟩,
 ⟨.mov (.s 8), none, none⟩,
 ⟨.iad (.l 1) (.l 2) 1, none, none⟩,
 ⟨.ld (.l 3) 1 false, none, none⟩,
 ⟨.cvi .i64 (.l 4), none, none⟩,
 ⟨.bin .add (.l 0) (.l 5), none, none⟩,
 ⟨.mov (.l 6), some 7, none⟩] none)
 .skip))
 (.seq (.seq (.reg [⟨.mov (.s 8), none, none⟩,
 ⟨.mov (.s 1), none, none⟩,
 ⟨.len 1 (.l 1), none, none⟩,
 ⟨.bin .lss (.l 0) (.l 2), some 5, none⟩] none)
 (.cond (.s 5) (.reg [⟨.mov (.s 7), none, none⟩,
 ⟨.mov (.s 1), none, none⟩,
 ⟨.mov (.s 8), none, none⟩,
 ⟨.iad (.l 1) (.l 2) 1, none, none⟩,
 ⟨.ld (.l 3) 1 false, none, none⟩,
 ⟨.cvi .i64 (.l 4), none, none⟩,
 ⟨.bin .add (.l 0) (.l 5), none, none⟩,
 ⟨.mov (.l 6), some 7, none⟩] none)
 .skip))
 (.seq (.reg [⟨.mov (.s 6), none, none⟩,
 ⟨.mov (.s 7), none, none⟩,
 ⟨.bin .rem (.l 1) (.c (.i .i64 65536)), none, none⟩,
 ⟨.cvi .u16 (.l 2), none, none⟩,
 ⟨.bsv 1 1 [(.i .u16 0)] [(0, (.l 3))], none, none⟩,
 ⟨.app (.l 0) (.l 4) 1 2 true, none, none⟩,
 ⟨.mov (.l 5), some 6, none⟩] none)
 (.reg [⟨.mov (.s 7), none, none⟩,
 ⟨.bin .quo (.l 0) (.c (.i .i64 65536)), none, none⟩,
 ⟨.mov (.l 1), some 7, none⟩] none)))))
 (.reg [⟨.mov (.s 8), none, none⟩,
 ⟨.bin .add (.l 0) (.c (.i .i64 1)), none, none⟩,
 ⟨.mov (.l 1), some 8, none⟩] none)))
def v84 : VFunc :=
 ⟨2, 9, [.s 2],
 (.seq (.reg [⟨.mov (.c .nil), some 2, none⟩] none)
 (.seq (.reg [⟨.mov (.c .nil), some 6, none⟩] none)
 (.seq (.reg [⟨.mov (.c (.i .i64 0)), some 7, none⟩] none)
 (.seq (.seq (.reg [⟨.mov (.c (.i .i64 0)), some 8, none⟩] none)
 (.block 0 (.loop v84l0)))
 (.seq (.reg [⟨.mov (.s 6), none, none⟩,
 ⟨.mov (.l 0), some 2, none⟩] none)
 .ret))))), true, false, none⟩

def tm84 : List Nat := [0, 1, 4, 21, 27, 38, 5, 6, 7]
def bs84 : List Nat := []

-- annuitant/annuitantref01.Times
def v85l0 : VCode :=
 (.seq (.seq (.reg [⟨.mov (.s 7), none, none⟩,
 ⟨.mov (.s 1), none, none⟩,
 ⟨.len 1 (.l 1), none, none⟩,
 ⟨.bin .lss (.l 0) (.l 2), some 4, none⟩] none)
 (.cond (.s 4) .skip
 (.exit 2)))
 (.seq (.block 3 (.seq (.reg [⟨.mov (.s 6), none, none⟩,
 ⟨.mov (.s 0), none, none⟩,
 ⟨.mov (.s 5), none, none⟩,
 ⟨.iad (.l 1) (.l 2) 1, none, none⟩,
 ⟨.ld (.l 3) 1 false, none, none⟩,
 ⟨.cvi .i64 (.l 4), none, none⟩,
 ⟨.mov (.s 1), none, none⟩,
 ⟨.mov (.s 7), none, none⟩,
 ⟨.iad (.l 6) (.l 7) 1, none, none⟩,
 ⟨.ld (.l 8) 1 false, none, none⟩,
 ⟨.cvi .i64 (.l 9), none, none⟩,
 ⟨.bin .mul (.l 5) (.l 10), none, none⟩,
 ⟨.bin .add (.l 0) (.l 11), none, none⟩,
 ⟨.mov (.s 8), none, none⟩,
 ⟨.mov (.s 5), none, none⟩,
 ⟨.mov (.s 7), none, none⟩,
 ⟨.bin .add (.l 14) (.l 15), none, none⟩,
 ⟨.iad (.l 13) (.l 16) 1, none, none⟩,
 ⟨.ld (.l 17) 1 false, none, none⟩,
 ⟨.cvi .i64 (.l 18), none, none⟩,
 ⟨.bin .add (.l 12) (.l 19), none, none⟩,
 ⟨.mov (.l 20), some 6, none⟩] (some false))
 (.seq (.reg [⟨.mov (.s 8), none, none⟩,
 ⟨.mov (.s 5), none, none⟩,
 ⟨.mov (.s 7), none, none⟩,
 ⟨.bin .add (.l 1) (.l 2), none, none⟩,
 ⟨.mov (.s 6), none, none⟩,
 ⟨.bin .rem (.l 4) (.c (.i .i64 65536)), none, none⟩,
 ⟨.cvi .u16 (.l 5), none, none⟩,
 ⟨.iad (.l 0) (.l 3) 1, none, none⟩,
 ⟨.st (.l 7) (.l 6) 1, none, none⟩] none)
 (.reg [⟨.mov (.s 6), none, none⟩,
 ⟨.bin .quo (.l 0) (.c (.i .i64 65536)), none, none⟩,
 ⟨.mov (.l 1), some 6, none⟩] none))))
 (.reg [⟨.mov (.s 7), none, none⟩,
 ⟨.bin .add (.l 0) (.c (.i .i64 1)), none, none⟩,
 ⟨.mov (.l 1), some 7, none⟩] none)))
def v85l1 : VCode :=
 (.seq (.seq (.reg [⟨.mov (.s 5), none, none⟩,
 ⟨.mov (.s 0), none, none⟩,
 ⟨.len 1 (.l 1), none, none⟩,
 ⟨.bin .lss (.l 0) (.l 2), some 3, none⟩] none)
 (.cond (.s 3) .skip
 (.exit 0)))
 (.seq (.block 1 (.seq (.reg [⟨.mov (.c (.i .i64 0)), some 6, none⟩] none)
 (.seq (.seq (.reg [⟨.mov (.c (.i .i64 0)), some 7, none⟩] none)
 (.block 2 (.loop v85l0)))
 (.reg [⟨.mov (.s 8), none, none⟩,
 ⟨.mov (.s 5), none, none⟩,
 ⟨.mov (.s 1), none, none⟩,
 ⟨.len 1 (.l 2), none, none⟩,
 ⟨.bin .add (.l 1) (.l 3), none, none⟩,
 ⟨.mov (.s 6), none, none⟩,
 ⟨.cvi .u16 (.l 5), none, none⟩,
 ⟨.iad (.l 0) (.l 4) 1, none, none⟩,
 ⟨.st (.l 7) (.l 6) 1, none, none⟩] none))))
 (.reg [⟨.mov (.s 5), none, none⟩,
 ⟨.bin .add (.l 0) (.c (.i .i64 1)), none, none⟩,
 ⟨.mov (.l 1), some 5, none⟩] none)))
def v85 : VFunc :=
 ⟨2, 9, [.s 2],
 (.seq (.reg [⟨.mov (.c .nil), some 2, none⟩] none)
 (.seq (.reg [⟨.mov (.s 0), none, none⟩,
 ⟨.len 1 (.l 0), none, none⟩,
 ⟨.mov (.s 1), none, none⟩,
 ⟨.len 1 (.l 2), none, none⟩,
 ⟨.bin .add (.l 1) (.l 3), none, none⟩,
 ⟨.mks (.l 4) (.l 4) 1 2 [(.i .u16 0)] true, none, none⟩,
 ⟨.mov (.l 5), some 8, none⟩] none)
 (.seq (.seq (.reg [⟨.mov (.c (.i .i64 0)), some 5, none⟩] none)
 (.block 0 (.loop v85l1)))
 (.seq (.reg [⟨.mov (.s 8), none, none⟩,
 ⟨.call 86 [(.l 0)], none, none⟩,
 ⟨.mov (.l 1), some 2, none⟩] none)
 .ret)))), true, false, none⟩

def tm85 : List Nat := [0, 1, 4, 18, 24, 6, 7, 8, 5]
def bs85 : List Nat := []

-- annuitant/annuitantref01.Trim
def v86l0 : VCode :=
 (.seq (.seq (.reg [⟨.mov (.s 3), none, none⟩,
 ⟨.bin .gtr (.l 0) (.c (.i .i64 0)), none, none⟩,
 ⟨.mov (.l 1), none, none⟩,
 ⟨.mov (.s 0), none, some ((.l 2), true)⟩,
 ⟨.mov (.s 3), none, some ((.l 2), true)⟩,
 ⟨.bin .sub (.l 4) (.c (.i .i64 1)), none, some ((.l 2), true)⟩,
 ⟨.iad (.l 3) (.l 5) 1, none, some ((.l 2), true)⟩,
 ⟨.ld (.l 6) 1 false, none, some ((.l 2), true)⟩,
 ⟨.bin .eql (.l 7) (.c (.i .u16 0)), none, some ((.l 2), true)⟩,
 ⟨.pick (.l 2) (.l 8) (.c (.b false)), some 2, none⟩] none)
 (.cond (.s 2) .skip
 (.exit 0)))
 (.block 1 (.reg [⟨.mov (.s 3), none, none⟩,
 ⟨.bin .sub (.l 0) (.c (.i .i64 1)), none, none⟩,
 ⟨.mov (.l 1), some 3, none⟩] none)))
def v86 : VFunc :=
 ⟨1, 4, [.s 1],
 (.seq (.reg [⟨.mov (.c .nil), some 1, none⟩] none)
 (.seq (.reg [⟨.mov (.s 0), none, none⟩,
 ⟨.len 1 (.l 0), none, none⟩,
 ⟨.mov (.l 1), some 3, none⟩] none)
 (.seq (.block 0 (.loop v86l0))
 (.seq (.reg [⟨.mov (.s 0), none, none⟩,
 ⟨.mov (.s 3), none, none⟩,
 ⟨.sli false 1 (.l 0) none (some (.l 1)) none, none, none⟩,
 ⟨.mov (.l 2), some 1, none⟩] none)
 .ret)))), true, false, none⟩

def tm86 : List Nat := [0, 2, 15, 3]
def bs86 : List Nat := []

-- annuitant/annuitantref01.fits
def v87 : VFunc :=
 ⟨1, 5, [.bx 1 2 true, .s 2],
 (.seq (.reg [⟨.lbx (.s 0) 2, some 4, none⟩,
 ⟨.lal [(.b false), .nil], some 1, none⟩,
 ⟨.mov (.c (.i .i64 0)), some 2, none⟩] none)
 (.seq (.seq (.reg [⟨.lfa (.sl 4) 1, none, none⟩,
 ⟨.lld (.lo 0) 1 false, none, none⟩,
 ⟨.len 1 (.l 1), none, none⟩,
 ⟨.bin .gtr (.l 2) (.c (.i .i64 1024)), some 3, none⟩] none)
 (.cond (.s 3) (.seq (.reg [⟨.agc [(.b false), .nil] [], none, none⟩,
 ⟨.lst (.sl 1) (.l 0) 2, none, none⟩,
 ⟨.mov (.c (.i .i64 3)), some 2, none⟩] none)
 .ret)
 .skip))
 (.seq (.reg [⟨.lld (.sl 4) 2 true, none, none⟩,
 ⟨.lst (.sl 1) (.l 0) 2, none, none⟩,
 ⟨.mov (.c (.i .i64 0)), some 2, none⟩] none)
 .ret))), true, false, none⟩

def tm87 : List Nat := [0, 2, 3, 7, 1]
def bs87 : List Nat := [1, 4]

-- annuitant/annuitantref01.Make
def v88 : VFunc :=
 ⟨2, 3, [.bx 2 2 true],
 (.seq (.reg [⟨.lal [(.b false), .nil], some 2, none⟩] none)
 (.seq (.reg [⟨.mov (.s 0), none, none⟩,
 ⟨.mov (.l 0), none, none⟩,
 ⟨.mov (.s 1), none, some ((.l 1), true)⟩,
 ⟨.len 1 (.l 2), none, some ((.l 1), true)⟩,
 ⟨.bin .gtr (.l 3) (.c (.i .i64 0)), none, some ((.l 1), true)⟩,
 ⟨.pick (.l 1) (.l 4) (.c (.b false)), none, none⟩,
 ⟨.mov (.s 1), none, none⟩,
 ⟨.agc [(.b false), .nil] [(0, 1, (.l 5)), (1, 1, (.l 6))], none, none⟩,
 ⟨.lst (.sl 2) (.l 7) 2, none, none⟩] none)
 .ret)), true, false, none⟩

def tm88 : List Nat := [0, 1, 4]
def bs88 : List Nat := [2]

-- annuitant/annuitantref01.Valid
def v89 : VFunc :=
 ⟨1, 4, [.s 1],
 (.seq (.reg [⟨.lbx (.s 0) 2, some 3, none⟩,
 ⟨.mov (.c (.b false)), some 1, none⟩] none)
 (.seq (.seq (.reg [⟨.lfa (.sl 3) 1, none, none⟩,
 ⟨.lld (.lo 0) 1 false, none, none⟩,
 ⟨.len 1 (.l 1), none, none⟩,
 ⟨.bin .eql (.l 2) (.c (.i .i64 0)), some 2, none⟩] none)
 (.cond (.s 2) (.seq (.reg [⟨.lfa (.sl 3) 0, none, none⟩,
 ⟨.lld (.lo 0) 1 false, none, none⟩,
 ⟨.un .not (.l 1), none, none⟩,
 ⟨.mov (.l 2), some 1, none⟩] none)
 .ret)
 .skip))
 (.seq (.reg [⟨.lfa (.sl 3) 1, none, none⟩,
 ⟨.lld (.lo 0) 1 false, none, none⟩,
 ⟨.len 1 (.l 1), none, none⟩,
 ⟨.bin .leq (.l 2) (.c (.i .i64 1024)), none, none⟩,
 ⟨.mov (.l 3), none, none⟩,
 ⟨.lfa (.sl 3) 1, none, some ((.l 4), true)⟩,
 ⟨.lld (.lo 5) 1 false, none, some ((.l 4), true)⟩,
 ⟨.lfa (.sl 3) 1, none, some ((.l 4), true)⟩,
 ⟨.lld (.lo 7) 1 false, none, some ((.l 4), true)⟩,
 ⟨.len 1 (.l 8), none, some ((.l 4), true)⟩,
 ⟨.bin .sub (.l 9) (.c (.i .i64 1)), none, some ((.l 4), true)⟩,
 ⟨.iad (.l 6) (.l 10) 1, none, some ((.l 4), true)⟩,
 ⟨.ld (.l 11) 1 false, none, some ((.l 4), true)⟩,
 ⟨.bin .neq (.l 12) (.c (.i .u16 0)), none, some ((.l 4), true)⟩,
 ⟨.pick (.l 4) (.l 13) (.c (.b false)), none, none⟩,
 ⟨.mov (.l 14), some 1, none⟩] none)
 .ret))), true, false, none⟩

def tm89 : List Nat := [0, 2, 6, 1]
def bs89 : List Nat := [3]

-- annuitant/annuitantref03.Day
def v90l0 : VCode :=
 (.seq (.seq (.reg [⟨.mov (.s 11), none, none⟩,
 ⟨.mov (.s 0), none, none⟩,
 ⟨.bin .lss (.l 0) (.l 1), some 6, none⟩] none)
 (.cond (.s 6) .skip
 (.exit 0)))
 (.seq (.block 1 (.seq (.reg [⟨.mov (.s 10), none, none⟩,
 ⟨.bin .add (.l 0) (.c (.i .i64 365)), none, none⟩,
 ⟨.mov (.l 1), some 10, none⟩] none)
 (.seq (.reg [⟨.mov (.s 11), none, none⟩,
 ⟨.call 105 [(.l 0)], some 7, none⟩] none)
 (.cond (.s 7) (.reg [⟨.mov (.s 10), none, none⟩,
 ⟨.bin .add (.l 0) (.c (.i .i64 1)), none, none⟩,
 ⟨.mov (.l 1), some 10, none⟩] none)
 .skip))))
 (.reg [⟨.mov (.s 11), none, none⟩,
 ⟨.bin .add (.l 0) (.c (.i .i64 1)), none, none⟩,
 ⟨.mov (.l 1), some 11, none⟩] none)))
def v90l1 : VCode :=
 (.seq (.seq (.reg [⟨.mov (.s 12), none, none⟩,
 ⟨.mov (.s 1), none, none⟩,
 ⟨.bin .lss (.l 0) (.l 1), some 8, none⟩] none)
 (.cond (.s 8) .skip
 (.exit 2)))
 (.seq (.block 3 (.reg [⟨.mov (.s 10), none, none⟩,
 ⟨.mov (.s 0), none, none⟩,
 ⟨.mov (.s 12), none, none⟩,
 ⟨.call 104 [(.l 1), (.l 2)], none, none⟩,
 ⟨.bin .add (.l 0) (.l 3), none, none⟩,
 ⟨.mov (.l 4), some 10, none⟩] none))
 (.reg [⟨.mov (.s 12), none, none⟩,
 ⟨.bin .add (.l 0) (.c (.i .i64 1)), none, none⟩,
 ⟨.mov (.l 1), some 12, none⟩] none)))
def v90 : VFunc :=
 ⟨3, 13, [.s 3, .s 4],
 (.seq (.reg [⟨.mov (.c (.i .i64 0)), some 3, none⟩,
 ⟨.mov (.c (.i .i64 0)), some 4, none⟩] none)
 (.seq (.seq (.reg [⟨.mov (.s 0), none, none⟩,
 ⟨.bin .lss (.l 0) (.c (.i .i64 1900)), none, none⟩,
 ⟨.mov (.l 1), none, none⟩,
 ⟨.mov (.s 0), none, some ((.l 2), false)⟩,
 ⟨.bin .gtr (.l 3) (.c (.i .i64 2079)), none, some ((.l 2), false)⟩,
 ⟨.pick (.l 2) (.c (.b true)) (.l 4), none, none⟩,
 ⟨.mov (.l 5), none, none⟩,
 ⟨.mov (.s 1), none, some ((.l 6), false)⟩,
 ⟨.bin .lss (.l 7) (.c (.i .i64 1)), none, some ((.l 6), false)⟩,
 ⟨.pick (.l 6) (.c (.b true)) (.l 8), none, none⟩,
 ⟨.mov (.l 9), none, none⟩,
 ⟨.mov (.s 1), none, some ((.l 10), false)⟩,
 ⟨.bin .gtr (.l 11) (.c (.i .i64 12)), none, some ((.l 10), false)⟩,
 ⟨.pick (.l 10) (.c (.b true)) (.l 12), none, none⟩,
 ⟨.mov (.l 13), none, none⟩,
 ⟨.mov (.s 2), none, some ((.l 14), false)⟩,
 ⟨.bin .lss (.l 15) (.c (.i .i64 1)), none, some ((.l 14), false)⟩,
 ⟨.pick (.l 14) (.c (.b true)) (.l 16), none, none⟩,
 ⟨.mov (.l 17), none, none⟩,
 ⟨.mov (.s 2), none, some ((.l 18), false)⟩,
 ⟨.mov (.s 0), none, some ((.l 18), false)⟩,
 ⟨.mov (.s 1), none, some ((.l 18), false)⟩,
 ⟨.call 104 [(.l 20), (.l 21)], none, some ((.l 18), false)⟩,
 ⟨.bin .gtr (.l 19) (.l 22), none, some ((.l 18), false)⟩,
 ⟨.pick (.l 18) (.c (.b true)) (.l 23), some 5, none⟩] none)
 (.cond (.s 5) (.seq (.reg [⟨.mov (.c (.i .i64 0)), some 3, none⟩,
 ⟨.mov (.c (.i .i64 2)), some 4, none⟩] none)
 .ret)
 .skip))
 (.seq (.reg [⟨.mov (.s 2), none, none⟩,
 ⟨.bin .sub (.l 0) (.c (.i .i64 1)), none, none⟩,
 ⟨.mov (.l 1), some 10, none⟩] none)
 (.seq (.seq (.reg [⟨.mov (.c (.i .i64 1900)), some 11, none⟩] none)
 (.block 0 (.loop v90l0)))
 (.seq (.seq (.reg [⟨.mov (.c (.i .i64 1)), some 12, none⟩] none)
 (.block 2 (.loop v90l1)))
 (.seq (.seq (.reg [⟨.mov (.s 10), none, none⟩,
 ⟨.bin .geq (.l 0) (.c (.i .i64 65536)), some 9, none⟩] none)
 (.cond (.s 9) (.seq (.reg [⟨.mov (.c (.i .i64 0)), some 3, none⟩,
 ⟨.mov (.c (.i .i64 2)), some 4, none⟩] none)
 .ret)
 .skip))
 (.seq (.reg [⟨.mov (.s 10), none, none⟩,
 ⟨.mov (.l 0), some 3, none⟩,
 ⟨.mov (.c (.i .i64 0)), some 4, none⟩] none)
 .ret))))))), true, false, none⟩

def tm90 : List Nat := [0, 1, 2, 6, 7, 35, 40, 46, 51, 60, 8, 9, 10]
def bs90 : List Nat := []

-- annuitant/annuitantref01.Text
def v91l0 : VCode :=
 (.seq (.seq (.reg [⟨.mov (.s 7), none, none⟩,
 ⟨.len 1 (.l 0), none, none⟩,
 ⟨.bin .gtr (.l 1) (.c (.i .i64 0)), some 4, none⟩] none)
 (.cond (.s 4) .skip
 (.exit 0)))
 (.block 1 (.seq (.reg [⟨.mov (.s 7), none, none⟩,
 ⟨.call 106 [(.l 0)], none, none⟩,
 ⟨.mov (.l 1), none, none⟩,
 ⟨.ext (.l 2) 0, none, none⟩,
 ⟨.ext (.l 2) 1, none, none⟩,
 ⟨.mov (.l 3), some 7, none⟩,
 ⟨.mov (.l 4), some 8, none⟩] none)
 (.reg [⟨.mov (.s 8), none, none⟩,
 ⟨.bin .add (.c (.i .i64 48)) (.l 0), none, none⟩,
 ⟨.cvi .u8 (.l 1), none, none⟩,
 ⟨.bsl 1 1 [(.i .u8 0)] [(0, (.l 2))] true, none, none⟩,
 ⟨.cbs (.l 3), none, none⟩,
 ⟨.mov (.s 9), none, none⟩,
 ⟨.bin .add (.l 4) (.l 5), none, none⟩,
 ⟨.mov (.l 6), some 9, none⟩] none))))
def v91 : VFunc :=
 ⟨1, 10, [.s 1, .s 2],
 (.seq (.reg [⟨.lbx (.s 0) 2, some 6, none⟩,
 ⟨.mov (.c (.s [])), some 1, none⟩,
 ⟨.mov (.c (.i .i64 0)), some 2, none⟩] none)
 (.seq (.seq (.reg [⟨.lld (.sl 6) 2 true, none, none⟩,
 ⟨.call 89 [(.l 0)], none, none⟩,
 ⟨.un .not (.l 1), some 3, none⟩] none)
 (.cond (.s 3) (.seq (.reg [⟨.mov (.c (.s [])), some 1, none⟩,
 ⟨.mov (.c (.i .i64 2)), some 2, none⟩] none)
 .ret)
 .skip))
 (.seq (.reg [⟨.lfa (.sl 6) 1, none, none⟩,
 ⟨.lld (.lo 0) 1 false, none, none⟩,
 ⟨.call 106 [(.l 1)], none, none⟩,
 ⟨.mov (.l 2), none, none⟩,
 ⟨.ext (.l 3) 0, none, none⟩,
 ⟨.ext (.l 3) 1, none, none⟩,
 ⟨.mov (.l 4), some 7, none⟩,
 ⟨.mov (.l 5), some 8, none⟩] none)
 (.seq (.reg [⟨.mov (.s 8), none, none⟩,
 ⟨.bin .add (.c (.i .i64 48)) (.l 0), none, none⟩,
 ⟨.cvi .u8 (.l 1), none, none⟩,
 ⟨.bsl 1 1 [(.i .u8 0)] [(0, (.l 2))] true, none, none⟩,
 ⟨.cbs (.l 3), none, none⟩,
 ⟨.mov (.l 4), some 9, none⟩] none)
 (.seq (.block 0 (.loop v91l0))
 (.seq (.seq (.reg [⟨.lfa (.sl 6) 0, none, none⟩,
 ⟨.lld (.lo 0) 1 false, some 5, none⟩] none)
 (.cond (.s 5) (.reg [⟨.mov (.s 9), none, none⟩,
 ⟨.bin .add (.c (.s [45])) (.l 0), none, none⟩,
 ⟨.mov (.l 1), some 9, none⟩] none)
 .skip))
 (.seq (.reg [⟨.mov (.s 9), none, none⟩,
 ⟨.mov (.l 0), some 1, none⟩,
 ⟨.mov (.c (.i .i64 0)), some 2, none⟩] none)
 .ret))))))), true, false, none⟩

def tm91 : List Nat := [0, 2, 3, 9, 23, 37, 1, 4, 5, 6]
def bs91 : List Nat := [6]

-- annuitant/annuitantref01.FromInt
def v92l0 : VCode :=
 (.seq (.seq (.reg [⟨.mov (.s 4), none, none⟩,
 ⟨.bin .gtr (.l 0) (.c (.i .u64 0)), some 3, none⟩] none)
 (.cond (.s 3) .skip
 (.exit 0)))
 (.block 1 (.seq (.reg [⟨.mov (.s 5), none, none⟩,
 ⟨.mov (.s 4), none, none⟩,
 ⟨.bin .rem (.l 1) (.c (.i .u64 65536)), none, none⟩,
 ⟨.cvi .u16 (.l 2), none, none⟩,
 ⟨.bsv 1 1 [(.i .u16 0)] [(0, (.l 3))], none, none⟩,
 ⟨.app (.l 0) (.l 4) 1 2 true, none, none⟩,
 ⟨.mov (.l 5), some 5, none⟩] none)
 (.reg [⟨.mov (.s 4), none, none⟩,
 ⟨.bin .quo (.l 0) (.c (.i .u64 65536)), none, none⟩,
 ⟨.mov (.l 1), some 4, none⟩] none))))
def v92 : VFunc :=
 ⟨1, 6, [.bx 1 2 true],
 (.seq (.reg [⟨.lal [(.b false), .nil], some 1, none⟩] none)
 (.seq (.reg [⟨.mov (.s 0), none, none⟩,
 ⟨.cvi .u64 (.l 0), none, none⟩,
 ⟨.mov (.l 1), some 4, none⟩] none)
 (.seq (.seq (.reg [⟨.mov (.s 0), none, none⟩,
 ⟨.bin .lss (.l 0) (.c (.i .i64 0)), some 2, none⟩] none)
 (.cond (.s 2) (.reg [⟨.mov (.s 4), none, none⟩,
 ⟨.un .neg (.l 0), none, none⟩,
 ⟨.mov (.l 1), some 4, none⟩] none)
 .skip))
 (.seq (.reg [⟨.mov (.c .nil), some 5, none⟩] none)
 (.seq (.block 0 (.loop v92l0))
 (.seq (.reg [⟨.mov (.s 0), none, none⟩,
 ⟨.bin .lss (.l 0) (.c (.i .i64 0)), none, none⟩,
 ⟨.mov (.s 5), none, none⟩,
 ⟨.call 88 [(.l 1), (.l 2)], none, none⟩,
 ⟨.lst (.sl 1) (.l 3) 2, none, none⟩] none)
 .ret)))))), true, false, none⟩

def tm92 : List Nat := [0, 2, 8, 12, 3, 4]
def bs92 : List Nat := [1]

-- annuitant/annuitantref03.YMD
def v93l0 : VCode :=
 (.seq (.seq (.reg [⟨.mov (.s 10), none, none⟩,
 ⟨.mov (.s 8), none, none⟩,
 ⟨.mov (.s 9), none, none⟩,
 ⟨.call 104 [(.l 1), (.l 2)], none, none⟩,
 ⟨.bin .geq (.l 0) (.l 3), some 6, none⟩] none)
 (.cond (.s 6) .skip
 (.exit 0)))
 (.block 1 (.seq (.reg [⟨.mov (.s 10), none, none⟩,
 ⟨.mov (.s 8), none, none⟩,
 ⟨.mov (.s 9), none, none⟩,
 ⟨.call 104 [(.l 1), (.l 2)], none, none⟩,
 ⟨.bin .sub (.l 0) (.l 3), none, none⟩,
 ⟨.mov (.l 4), some 10, none⟩] none)
 (.seq (.reg [⟨.mov (.s 9), none, none⟩,
 ⟨.bin .add (.l 0) (.c (.i .i64 1)), none, none⟩,
 ⟨.mov (.l 1), some 9, none⟩] none)
 (.seq (.reg [⟨.mov (.s 9), none, none⟩,
 ⟨.bin .gtr (.l 0) (.c (.i .i64 12)), some 7, none⟩] none)
 (.cond (.s 7) (.seq (.reg [⟨.mov (.c (.i .i64 1)), some 9, none⟩] none)
 (.reg [⟨.mov (.s 8), none, none⟩,
 ⟨.bin .add (.l 0) (.c (.i .i64 1)), none, none⟩,
 ⟨.mov (.l 1), some 8, none⟩] none))
 .skip))))))
def v93 : VFunc :=
 ⟨1, 11, [.s 1, .s 2, .s 3, .s 4],
 (.seq (.reg [⟨.mov (.c (.i .i64 0)), some 1, none⟩,
 ⟨.mov (.c (.i .i64 0)), some 2, none⟩,
 ⟨.mov (.c (.i .i64 0)), some 3, none⟩,
 ⟨.mov (.c (.i .i64 0)), some 4, none⟩] none)
 (.seq (.seq (.reg [⟨.mov (.s 0), none, none⟩,
 ⟨.call 107 [(.l 0)], none, none⟩,
 ⟨.un .not (.l 1), some 5, none⟩] none)
 (.cond (.s 5) (.seq (.reg [⟨.mov (.c (.i .i64 0)), some 1, none⟩,
 ⟨.mov (.c (.i .i64 0)), some 2, none⟩,
 ⟨.mov (.c (.i .i64 0)), some 3, none⟩,
 ⟨.mov (.c (.i .i64 2)), some 4, none⟩] none)
 .ret)
 .skip))
 (.seq (.reg [⟨.mov (.c (.i .i64 1900)), some 8, none⟩] none)
 (.seq (.reg [⟨.mov (.c (.i .i64 1)), some 9, none⟩] none)
 (.seq (.reg [⟨.mov (.s 0), none, none⟩,
 ⟨.mov (.l 0), some 10, none⟩] none)
 (.seq (.block 0 (.loop v93l0))
 (.seq (.reg [⟨.mov (.s 8), none, none⟩,
 ⟨.mov (.s 9), none, none⟩,
 ⟨.mov (.s 10), none, none⟩,
 ⟨.bin .add (.l 2) (.c (.i .i64 1)), none, none⟩,
 ⟨.mov (.l 0), some 1, none⟩,
 ⟨.mov (.l 1), some 2, none⟩,
 ⟨.mov (.l 3), some 3, none⟩,
 ⟨.mov (.c (.i .i64 0)), some 4, none⟩] none)
 .ret))))))), true, false, none⟩

def tm93 : List Nat := [0, 2, 3, 4, 5, 11, 17, 26, 6, 7, 8]
def bs93 : List Nat := []

-- annuitant/annuitantref03.digits
def v94l0 : VCode :=
 (.seq (.seq (.reg [⟨.mov (.s 5), none, none⟩,
 ⟨.mov (.s 1), none, none⟩,
 ⟨.bin .lss (.l 0) (.l 1), some 3, none⟩] none)
 (.cond (.s 3) .skip
 (.exit 0)))
 (.seq (.block 1 (.seq (.reg [⟨.mov (.s 0), none, none⟩,
 ⟨.bin .rem (.l 0) (.c (.i .i64 10)), none, none⟩,
 ⟨.bin .add (.c (.i .i64 48)) (.l 1), none, none⟩,
 ⟨.cvi .u8 (.l 2), none, none⟩,
 ⟨.bsl 1 1 [(.i .u8 0)] [(0, (.l 3))] true, none, none⟩,
 ⟨.cbs (.l 4), none, none⟩,
 ⟨.mov (.s 4), none, none⟩,
 ⟨.bin .add (.l 5) (.l 6), none, none⟩,
 ⟨.mov (.l 7), some 4, none⟩] none)
 (.reg [⟨.mov (.s 0), none, none⟩,
 ⟨.bin .quo (.l 0) (.c (.i .i64 10)), none, none⟩,
 ⟨.mov (.l 1), some 0, none⟩] none)))
 (.reg [⟨.mov (.s 5), none, none⟩,
 ⟨.bin .add (.l 0) (.c (.i .i64 1)), none, none⟩,
 ⟨.mov (.l 1), some 5, none⟩] none)))
def v94 : VFunc :=
 ⟨2, 6, [.s 2],
 (.seq (.reg [⟨.mov (.c (.s [])), some 2, none⟩] none)
 (.seq (.reg [⟨.mov (.c (.s [])), some 4, none⟩] none)
 (.seq (.seq (.reg [⟨.mov (.c (.i .i64 0)), some 5, none⟩] none)
 (.block 0 (.loop v94l0)))
 (.seq (.reg [⟨.mov (.s 4), none, none⟩,
 ⟨.mov (.l 0), some 2, none⟩] none)
 .ret)))), true, false, none⟩

def tm94 : List Nat := [0, 1, 4, 9, 5, 6]
def bs94 : List Nat := []

-- slices.ContainsFunc[[]int,int]
def v95 : VFunc :=
 ⟨2, 3, [.s 2],
 (.seq (.reg [⟨.mov (.c (.b false)), some 2, none⟩] none)
 (.seq (.reg [⟨.mov (.s 0), none, none⟩,
 ⟨.mov (.s 1), none, none⟩,
 ⟨.call 108 [(.l 0), (.l 1)], none, none⟩,
 ⟨.bin .geq (.l 2) (.c (.i .i64 0)), none, none⟩,
 ⟨.mov (.l 3), some 2, none⟩] none)
 .ret)), false, false, none⟩

def tm95 : List Nat := [0, 1, 4]
def bs95 : List Nat := []

-- annuitant/ledger.Valid$1
def v96 : VFunc :=
 ⟨1, 2, [.s 1],
 (.seq (.reg [⟨.mov (.c (.b false)), some 1, none⟩] none)
 (.seq (.reg [⟨.mov (.s 0), none, none⟩,
 ⟨.bin .lss (.l 0) (.c (.i .i64 0)), none, none⟩,
 ⟨.mov (.l 1), none, none⟩,
 ⟨.mov (.s 0), none, some ((.l 2), false)⟩,
 ⟨.bin .gtr (.l 3) (.c (.i .i64 1099511627776)), none, some ((.l 2), false)⟩,
 ⟨.pick (.l 2) (.c (.b true)) (.l 4), none, none⟩,
 ⟨.mov (.l 5), some 1, none⟩] none)
 .ret)), true, false, none⟩

def tm96 : List Nat := [0, 2]
def bs96 : List Nat := []

-- annuitant/ledger.follow
def v97l0 : VCode :=
 (.seq (.reg [⟨.bin .lss (.s 6) (.s 7), some 4, none⟩] none)
 (.seq (.cond (.s 4) .skip
 (.exit 0))
 (.seq (.block 1 (.seq (.reg [⟨.iad (.s 8) (.s 6) 4, none, none⟩,
 ⟨.ld (.l 0) 4 true, none, none⟩,
 ⟨.lal [(.i .i64 0), (.i .i64 0), (.i .u8 0), (.i .i64 0)], some 10, none⟩,
 ⟨.lst (.sl 10) (.l 1) 4, none, none⟩] none)
 (.seq (.seq (.reg [⟨.lld (.sl 9) 3 true, none, none⟩,
 ⟨.lld (.sl 10) 4 true, none, none⟩,
 ⟨.call 109 [(.l 0), (.l 1)], none, none⟩,
 ⟨.un .not (.l 2), none, none⟩,
 ⟨.mov (.l 3), none, none⟩,
 ⟨.lfa (.sl 10) 0, none, some ((.l 4), false)⟩,
 ⟨.lld (.lo 5) 1 false, none, some ((.l 4), false)⟩,
 ⟨.mov (.s 2), none, some ((.l 4), false)⟩,
 ⟨.bin .lss (.l 6) (.l 7), none, some ((.l 4), false)⟩,
 ⟨.pick (.l 4) (.c (.b true)) (.l 8), some 5, none⟩] none)
 (.cond (.s 5) (.seq (.reg [⟨.mov (.c (.b false)), some 3, none⟩] none)
 .ret)
 .skip))
 (.reg [⟨.lfa (.sl 10) 0, none, none⟩,
 ⟨.lld (.lo 0) 1 false, none, none⟩,
 ⟨.mov (.l 1), some 2, none⟩] none))))
 (.reg [⟨.bin .add (.s 6) (.c (.i .i64 1)), none, none⟩,
 ⟨.mov (.l 0), some 6, none⟩] none))))
def v97 : VFunc :=
 ⟨3, 11, [.s 3],
 (.seq (.reg [⟨.lbx (.s 0) 3, some 9, none⟩,
 ⟨.mov (.c (.b false)), some 3, none⟩] none)
 (.seq (.seq (.reg [⟨.mov (.s 1), some 8, none⟩,
 ⟨.len 1 (.s 8), some 7, none⟩,
 ⟨.mov (.c (.i .i64 0)), some 6, none⟩] none)
 (.block 0 (.loop v97l0)))
 (.seq (.reg [⟨.mov (.c (.b true)), some 3, none⟩] none)
 .ret))), true, false, none⟩

def tm97 : List Nat := [0, 1, 2, 6, 12, 24, 11, 10, 9, 3, 8]
def bs97 : List Nat := [9, 10]

-- annuitant/ledger.posted$1
def v98 : VFunc :=
 ⟨2, 5, [.s 2],
 (.seq (.reg [⟨.lbx (.s 0) 4, some 4, none⟩,
 ⟨.mov (.c (.i .i64 0)), some 2, none⟩] none)
 (.seq (.seq (.reg [⟨.lfa (.sl 4) 1, none, none⟩,
 ⟨.lld (.lo 0) 1 false, none, none⟩,
 ⟨.ld (.s 1) 1 false, none, none⟩,
 ⟨.bin .neq (.l 1) (.l 2), some 3, none⟩] none)
 (.cond (.s 3) (.seq (.reg [⟨.mov (.c (.i .i64 0)), some 2, none⟩] none)
 .ret)
 .skip))
 (.seq (.reg [⟨.lld (.sl 4) 4 true, none, none⟩,
 ⟨.call 63 [(.l 0)], none, none⟩,
 ⟨.mov (.l 1), some 2, none⟩] none)
 .ret))), false, false, none⟩

def tm98 : List Nat := [0, 1, 3, 7, 2]
def bs98 : List Nat := [4]

-- annuitant/annuitantref27.Valid
def v102l0 : VCode :=
 (.seq (.seq (.reg [⟨.mov (.s 6), none, none⟩,
 ⟨.lfa (.sl 5) 1, none, none⟩,
 ⟨.lld (.lo 1) 1 false, none, none⟩,
 ⟨.len 1 (.l 2), none, none⟩,
 ⟨.bin .lss (.l 0) (.l 3), some 3, none⟩] none)
 (.cond (.s 3) .skip
 (.exit 0)))
 (.seq (.block 1 (.seq (.reg [⟨.lfa (.sl 5) 1, none, none⟩,
 ⟨.lld (.lo 0) 1 false, none, none⟩,
 ⟨.mov (.s 6), none, none⟩,
 ⟨.iad (.l 1) (.l 2) 1, none, none⟩,
 ⟨.ld (.l 3) 1 false, none, none⟩,
 ⟨.bin .lss (.l 4) (.c (.i .i64 0)), none, none⟩,
 ⟨.mov (.l 5), none, none⟩,
 ⟨.lfa (.sl 5) 1, none, some ((.l 6), false)⟩,
 ⟨.lld (.lo 7) 1 false, none, some ((.l 6), false)⟩,
 ⟨.mov (.s 6), none, some ((.l 6), false)⟩,
 ⟨.iad (.l 8) (.l 9) 1, none, some ((.l 6), false)⟩,
 ⟨.ld (.l 10) 1 false, none, some ((.l 6), false)⟩,
 ⟨.bin .gtr (.l 11) (.c (.i .i64 1099511627776)), none, some ((.l 6), false)⟩,
 ⟨.pick (.l 6) (.c (.b true)) (.l 12), some 4, none⟩] none)
 (.cond (.s 4) (.seq (.reg [⟨.mov (.c (.b false)), some 1, none⟩] none)
 .ret)
 .skip)))
 (.reg [⟨.mov (.s 6), none, none⟩,
 ⟨.bin .add (.l 0) (.c (.i .i64 1)), none, none⟩,
 ⟨.mov (.l 1), some 6, none⟩] none)))
def v102 : VFunc :=
 ⟨1, 7, [.s 1],
 (.seq (.reg [⟨.lbx (.s 0) 3, some 5, none⟩,
 ⟨.mov (.c (.b false)), some 1, none⟩] none)
 (.seq (.seq (.reg [⟨.lfa (.sl 5) 0, none, none⟩,
 ⟨.lld (.lo 0) 1 false, none, none⟩,
 ⟨.bin .lss (.l 1) (.c (.i .i64 0)), none, none⟩,
 ⟨.mov (.l 2), none, none⟩,
 ⟨.lfa (.sl 5) 0, none, some ((.l 3), false)⟩,
 ⟨.lld (.lo 4) 1 false, none, some ((.l 3), false)⟩,
 ⟨.bin .gtr (.l 5) (.c (.i .i64 2400)), none, some ((.l 3), false)⟩,
 ⟨.pick (.l 3) (.c (.b true)) (.l 6), none, none⟩,
 ⟨.mov (.l 7), none, none⟩,
 ⟨.lfa (.sl 5) 1, none, some ((.l 8), false)⟩,
 ⟨.lld (.lo 9) 1 false, none, some ((.l 8), false)⟩,
 ⟨.len 1 (.l 10), none, some ((.l 8), false)⟩,
 ⟨.bin .gtr (.l 11) (.c (.i .i64 1200)), none, some ((.l 8), false)⟩,
 ⟨.pick (.l 8) (.c (.b true)) (.l 12), none, none⟩,
 ⟨.mov (.l 13), none, none⟩,
 ⟨.lfa (.sl 5) 0, none, some ((.l 14), false)⟩,
 ⟨.lld (.lo 15) 1 false, none, some ((.l 14), false)⟩,
 ⟨.lfa (.sl 5) 1, none, some ((.l 14), false)⟩,
 ⟨.lld (.lo 17) 1 false, none, some ((.l 14), false)⟩,
 ⟨.len 1 (.l 18), none, some ((.l 14), false)⟩,
 ⟨.bin .add (.l 16) (.l 19), none, some ((.l 14), false)⟩,
 ⟨.bin .gtr (.l 20) (.c (.i .i64 2400)), none, some ((.l 14), false)⟩,
 ⟨.pick (.l 14) (.c (.b true)) (.l 21), none, none⟩,
 ⟨.mov (.l 22), none, none⟩,
 ⟨.lfa (.sl 5) 2, none, some ((.l 23), false)⟩,
 ⟨.lld (.lo 24) 1 false, none, some ((.l 23), false)⟩,
 ⟨.len 1 (.l 25), none, some ((.l 23), false)⟩,
 ⟨.bin .gtr (.l 26) (.c (.i .i64 4000)), none, some ((.l 23), false)⟩,
 ⟨.pick (.l 23) (.c (.b true)) (.l 27), some 2, none⟩] none)
 (.cond (.s 2) (.seq (.reg [⟨.mov (.c (.b false)), some 1, none⟩] none)
 .ret)
 .skip))
 (.seq (.seq (.reg [⟨.mov (.c (.i .i64 0)), some 6, none⟩] none)
 (.block 0 (.loop v102l0)))
 (.seq (.reg [⟨.lld (.sl 5) 3 true, none, none⟩,
 ⟨.lfa (.sl 5) 2, none, none⟩,
 ⟨.lld (.lo 1) 1 false, none, none⟩,
 ⟨.call 112 [(.l 0), (.l 2)], none, none⟩,
 ⟨.mov (.l 3), some 1, none⟩] none)
 .ret)))), true, false, none⟩

def tm102 : List Nat := [0, 2, 32, 37, 53, 1, 3]
def bs102 : List Nat := [5]

-- strings.CutPrefix
def v103 : VFunc :=
 ⟨2, 4, [.s 2, .s 3],
 (.seq (.reg [⟨.mov (.c (.s [])), some 2, none⟩,
 ⟨.mov (.c (.b false)), some 3, none⟩] none)
 (.seq (.reg [⟨.mov (.s 0), none, none⟩,
 ⟨.mov (.s 1), none, none⟩,
 ⟨.call 113 [(.l 0), (.l 1)], none, none⟩,
 ⟨.ext (.l 2) 0, none, none⟩,
 ⟨.ext (.l 2) 1, none, none⟩,
 ⟨.mov (.l 3), some 2, none⟩,
 ⟨.mov (.l 4), some 3, none⟩] none)
 .ret)), true, false, none⟩

def tm103 : List Nat := [0, 1, 4, 5]
def bs103 : List Nat := []

-- annuitant/annuitantref03.Len
def v104 : VFunc :=
 ⟨2, 8, [.s 2],
 (.seq (.reg [⟨.mov (.c (.i .i64 0)), some 2, none⟩] none)
 (.seq (.seq (.reg [⟨.mov (.s 1), some 7, none⟩] none)
 (.block 0 (.seq (.seq (.reg [⟨.bin .eql (.s 7) (.c (.i .i64 1)), none, none⟩,
 ⟨.mov (.l 0), some 3, none⟩] none)
 (.cond (.s 3) .skip
 (.seq (.reg [⟨.bin .eql (.s 7) (.c (.i .i64 3)), none, none⟩,
 ⟨.mov (.l 0), some 3, none⟩] none)
 (.cond (.s 3) .skip
 (.seq (.reg [⟨.bin .eql (.s 7) (.c (.i .i64 5)), none, none⟩,
 ⟨.mov (.l 0), some 3, none⟩] none)
 (.cond (.s 3) .skip
 (.seq (.reg [⟨.bin .eql (.s 7) (.c (.i .i64 7)), none, none⟩,
 ⟨.mov (.l 0), some 3, none⟩] none)
 (.cond (.s 3) .skip
 (.seq (.reg [⟨.bin .eql (.s 7) (.c (.i .i64 8)), none, none⟩,
 ⟨.mov (.l 0), some 3, none⟩] none)
 (.cond (.s 3) .skip
 (.seq (.reg [⟨.bin .eql (.s 7) (.c (.i .i64 10)), none, none⟩,
 ⟨.mov (.l 0), some 3, none⟩] none)
 (.cond (.s 3) .skip
 (.reg [⟨.bin .eql (.s 7) (.c (.i .i64 12)), none, none⟩,
 ⟨.mov (.l 0), some 3, none⟩] none)))))))))))))
 (.cond (.s 3) (.seq (.reg [⟨.mov (.c (.i .i64 31)), some 2, none⟩] none)
 .ret)
 (.seq (.seq (.reg [⟨.bin .eql (.s 7) (.c (.i .i64 4)), none, none⟩,
 ⟨.mov (.l 0), some 4, none⟩] none)
 (.cond (.s 4) .skip
 (.seq (.reg [⟨.bin .eql (.s 7) (.c (.i .i64 6)), none, none⟩,
 ⟨.mov (.l 0), some 4, none⟩] none)
 (.cond (.s 4) .skip
 (.seq (.reg [⟨.bin .eql (.s 7) (.c (.i .i64 9)), none, none⟩,
 ⟨.mov (.l 0), some 4, none⟩] none)
 (.cond (.s 4) .skip
 (.reg [⟨.bin .eql (.s 7) (.c (.i .i64 11)), none, none⟩,
 ⟨.mov (.l 0), some 4, none⟩] none)))))))
 (.cond (.s 4) (.seq (.reg [⟨.mov (.c (.i .i64 30)), some 2, none⟩] none)
 .ret)
 (.seq (.reg [⟨.bin .eql (.s 7) (.c (.i .i64 2)), none, none⟩,
 ⟨.mov (.l 0), some 5, none⟩] none)
 (.cond (.s 5) (.seq (.seq (.reg [⟨.mov (.s 0), none, none⟩,
 ⟨.call 105 [(.l 0)], some 6, none⟩] none)
 (.cond (.s 6) (.seq (.reg [⟨.mov (.c (.i .i64 29)), some 2, none⟩] none)
 .ret)
 .skip))
 (.seq (.reg [⟨.mov (.c (.i .i64 28)), some 2, none⟩] none)
 .ret))
 .skip))))))))
 (.seq (.reg [⟨.mov (.c (.i .i64 0)), some 2, none⟩] none)
 .ret))), true, false, none⟩

def tm104 : List Nat := [0, 1, 4, 6, 14, 19, 22, 5]
def bs104 : List Nat := []

-- annuitant/annuitantref03.Leap
def v105 : VFunc :=
 ⟨1, 3, [.s 1],
 (.seq (.reg [⟨.mov (.c (.b false)), some 1, none⟩] none)
 (.seq (.seq (.reg [⟨.mov (.s 0), none, none⟩,
 ⟨.bin .rem (.l 0) (.c (.i .i64 400)), none, none⟩,
 ⟨.bin .eql (.l 1) (.c (.i .i64 0)), some 2, none⟩] none)
 (.cond (.s 2) (.seq (.reg [⟨.mov (.c (.b true)), some 1, none⟩] none)
 .ret)
 .skip))
 (.seq (.reg [⟨.mov (.s 0), none, none⟩,
 ⟨.bin .rem (.l 0) (.c (.i .i64 4)), none, none⟩,
 ⟨.bin .eql (.l 1) (.c (.i .i64 0)), none, none⟩,
 ⟨.mov (.l 2), none, none⟩,
 ⟨.mov (.s 0), none, some ((.l 3), true)⟩,
 ⟨.bin .rem (.l 4) (.c (.i .i64 100)), none, some ((.l 3), true)⟩,
 ⟨.bin .neq (.l 5) (.c (.i .i64 0)), none, some ((.l 3), true)⟩,
 ⟨.pick (.l 3) (.l 6) (.c (.b false)), none, none⟩,
 ⟨.mov (.l 7), some 1, none⟩] none)
 .ret))), true, false, none⟩

def tm105 : List Nat := [0, 2, 5]
def bs105 : List Nat := []

-- annuitant/annuitantref01.tenth
def v106 : VFunc :=
 ⟨1, 6, [.s 1, .s 2],
 (.seq (.reg [⟨.mov (.c .nil), some 1, none⟩,
 ⟨.mov (.c (.i .i64 0)), some 2, none⟩] none)
 (.seq (.reg [⟨.mov (.s 0), none, none⟩,
 ⟨.call 114 [(.l 0), (.c (.i .i64 10))], none, none⟩,
 ⟨.mov (.l 1), none, none⟩,
 ⟨.ext (.l 2) 0, none, none⟩,
 ⟨.ext (.l 2) 1, none, none⟩,
 ⟨.mov (.l 3), some 5, none⟩,
 ⟨.mov (.l 4), some 4, none⟩] none)
 (.seq (.seq (.reg [⟨.mov (.s 4), none, none⟩,
 ⟨.len 1 (.l 0), none, none⟩,
 ⟨.bin .eql (.l 1) (.c (.i .i64 0)), some 3, none⟩] none)
 (.cond (.s 3) (.seq (.reg [⟨.mov (.s 5), none, none⟩,
 ⟨.mov (.l 0), some 1, none⟩,
 ⟨.mov (.c (.i .i64 0)), some 2, none⟩] none)
 .ret)
 .skip))
 (.seq (.reg [⟨.mov (.s 5), none, none⟩,
 ⟨.mov (.s 4), none, none⟩,
 ⟨.iad (.l 1) (.c (.i .i64 0)) 1, none, none⟩,
 ⟨.ld (.l 2) 1 false, none, none⟩,
 ⟨.cvi .i64 (.l 3), none, none⟩,
 ⟨.mov (.l 0), some 1, none⟩,
 ⟨.mov (.l 4), some 2, none⟩] (some false))
 .ret)))), true, false, none⟩

def tm106 : List Nat := [0, 2, 3, 13, 5, 4]
def bs106 : List Nat := []

-- annuitant/annuitantref03.Is
def v107 : VFunc :=
 ⟨1, 2, [.s 1],
 (.seq (.reg [⟨.mov (.c (.b false)), some 1, none⟩] none)
 (.seq (.reg [⟨.mov (.s 0), none, none⟩,
 ⟨.bin .geq (.l 0) (.c (.i .i64 0)), none, none⟩,
 ⟨.mov (.l 1), none, none⟩,
 ⟨.mov (.s 0), none, some ((.l 2), true)⟩,
 ⟨.bin .lss (.l 3) (.c (.i .i64 65536)), none, some ((.l 2), true)⟩,
 ⟨.pick (.l 2) (.l 4) (.c (.b false)), none, none⟩,
 ⟨.mov (.l 5), some 1, none⟩] none)
 .ret)), true, false, none⟩

def tm107 : List Nat := [0, 2]
def bs107 : List Nat := []

-- slices.IndexFunc[[]int,int]
def v108l0 : VCode :=
 (.seq (.reg [⟨.bin .lss (.s 5) (.s 6), some 3, none⟩] none)
 (.seq (.cond (.s 3) .skip
 (.exit 0))
 (.seq (.block 1 (.seq (.reg [⟨.mov (.s 5), none, none⟩,
 ⟨.mov (.l 0), some 7, none⟩] none)
 (.seq (.reg [⟨.mov (.s 1), none, none⟩,
 ⟨.mov (.s 0), none, none⟩,
 ⟨.mov (.s 7), none, none⟩,
 ⟨.iad (.l 1) (.l 2) 1, none, none⟩,
 ⟨.ld (.l 3) 1 false, none, none⟩,
 ⟨.calv (.l 0) [(.l 4)], some 4, none⟩] none)
 (.cond (.s 4) (.seq (.reg [⟨.mov (.s 7), none, none⟩,
 ⟨.mov (.l 0), some 2, none⟩] none)
 .ret)
 .skip))))
 (.reg [⟨.bin .add (.s 5) (.c (.i .i64 1)), none, none⟩,
 ⟨.mov (.l 0), some 5, none⟩] none))))
def v108 : VFunc :=
 ⟨2, 8, [.s 2],
 (.seq (.reg [⟨.mov (.c (.i .i64 0)), some 2, none⟩] none)
 (.seq (.seq (.reg [⟨.mov (.s 0), none, none⟩,
 ⟨.len 1 (.l 0), some 6, none⟩,
 ⟨.mov (.c (.i .i64 0)), some 5, none⟩] none)
 (.block 0 (.loop v108l0)))
 (.seq (.reg [⟨.mov (.c (.i .i64 (-1))), some 2, none⟩] none)
 .ret))), false, false, none⟩

def tm108 : List Nat := [0, 1, 4, 9, 16, 8, 7, 5]
def bs108 : List Nat := []

-- annuitant/ledger.fits
def v109 : VFunc :=
 ⟨2, 9, [.s 2],
 (.seq (.reg [⟨.lbx (.s 0) 3, some 7, none⟩,
 ⟨.lbx (.s 1) 4, some 6, none⟩,
 ⟨.mov (.c (.b false)), some 2, none⟩] none)
 (.seq (.seq (.reg [⟨.lfa (.sl 6) 0, none, none⟩,
 ⟨.lld (.lo 0) 1 false, none, none⟩,
 ⟨.bin .lss (.l 1) (.c (.i .i64 0)), none, none⟩,
 ⟨.mov (.l 2), none, none⟩,
 ⟨.lfa (.sl 6) 0, none, some ((.l 3), false)⟩,
 ⟨.lld (.lo 4) 1 false, none, some ((.l 3), false)⟩,
 ⟨.bin .geq (.l 5) (.c (.i .i64 65536)), none, some ((.l 3), false)⟩,
 ⟨.pick (.l 3) (.c (.b true)) (.l 6), none, none⟩,
 ⟨.mov (.l 7), none, none⟩,
 ⟨.lld (.sl 7) 3 true, none, some ((.l 8), false)⟩,
 ⟨.lfa (.sl 6) 1, none, some ((.l 8), false)⟩,
 ⟨.lld (.lo 10) 1 false, none, some ((.l 8), false)⟩,
 ⟨.call 64 [(.l 9), (.l 11)], none, some ((.l 8), false)⟩,
 ⟨.un .not (.l 12), none, some ((.l 8), false)⟩,
 ⟨.pick (.l 8) (.c (.b true)) (.l 13), some 3, none⟩] none)
 (.cond (.s 3) (.seq (.reg [⟨.mov (.c (.b false)), some 2, none⟩] none)
 .ret)
 .skip))
 (.seq (.seq (.reg [⟨.lfa (.sl 6) 2, none, none⟩,
 ⟨.lld (.lo 0) 1 false, some 8, none⟩] none)
 (.block 0 (.seq (.seq (.reg [⟨.bin .eql (.s 8) (.c (.i .u8 1)), none, none⟩,
 ⟨.mov (.l 0), some 4, none⟩] none)
 (.cond (.s 4) .skip
 (.seq (.reg [⟨.bin .eql (.s 8) (.c (.i .u8 2)), none, none⟩,
 ⟨.mov (.l 0), some 4, none⟩] none)
 (.cond (.s 4) .skip
 (.seq (.reg [⟨.bin .eql (.s 8) (.c (.i .u8 3)), none, none⟩,
 ⟨.mov (.l 0), some 4, none⟩] none)
 (.cond (.s 4) .skip
 (.reg [⟨.bin .eql (.s 8) (.c (.i .u8 6)), none, none⟩,
 ⟨.mov (.l 0), some 4, none⟩] none)))))))
 (.cond (.s 4) (.seq (.reg [⟨.lfa (.sl 6) 3, none, none⟩,
 ⟨.lld (.lo 0) 1 false, none, none⟩,
 ⟨.bin .leq (.c (.i .i64 0)) (.l 1), none, none⟩,
 ⟨.mov (.l 2), none, none⟩,
 ⟨.lfa (.sl 6) 3, none, some ((.l 3), true)⟩,
 ⟨.lld (.lo 4) 1 false, none, some ((.l 3), true)⟩,
 ⟨.bin .leq (.l 5) (.c (.i .i64 1099511627776)), none, some ((.l 3), true)⟩,
 ⟨.pick (.l 3) (.l 6) (.c (.b false)), none, none⟩,
 ⟨.mov (.l 7), some 2, none⟩] none)
 .ret)
 (.seq (.seq (.reg [⟨.bin .eql (.s 8) (.c (.i .u8 4)), none, none⟩,
 ⟨.mov (.l 0), some 5, none⟩] none)
 (.cond (.s 5) .skip
 (.reg [⟨.bin .eql (.s 8) (.c (.i .u8 5)), none, none⟩,
 ⟨.mov (.l 0), some 5, none⟩] none)))
 (.cond (.s 5) (.seq (.reg [⟨.lfa (.sl 6) 3, none, none⟩,
 ⟨.lld (.lo 0) 1 false, none, none⟩,
 ⟨.bin .leq (.c (.i .i64 (-1099511627776))) (.l 1), none, none⟩,
 ⟨.mov (.l 2), none, none⟩,
 ⟨.lfa (.sl 6) 3, none, some ((.l 3), true)⟩,
 ⟨.lld (.lo 4) 1 false, none, some ((.l 3), true)⟩,
 ⟨.bin .leq (.l 5) (.c (.i .i64 0)), none, some ((.l 3), true)⟩,
 ⟨.pick (.l 3) (.l 6) (.c (.b false)), none, none⟩,
 ⟨.mov (.l 7), some 2, none⟩] none)
 .ret)
 .skip))))))
 (.seq (.reg [⟨.mov (.c (.b false)), some 2, none⟩] none)
 .ret)))), true, false, none⟩

def tm109 : List Nat := [0, 1, 4, 19, 22, 35, 3, 2, 21]
def bs109 : List Nat := [6, 7]

-- annuitant/annuitantref27.Posts
def v112l0 : VCode :=
 (.seq (.seq (.reg [⟨.mov (.s 5), none, none⟩,
 ⟨.mov (.s 1), none, none⟩,
 ⟨.len 1 (.l 1), none, none⟩,
 ⟨.bin .lss (.l 0) (.l 2), some 3, none⟩] none)
 (.cond (.s 3) .skip
 (.exit 0)))
 (.seq (.block 1 (.seq (.reg [⟨.lld (.sl 6) 3 true, none, none⟩,
 ⟨.mov (.s 1), none, none⟩,
 ⟨.mov (.s 5), none, none⟩,
 ⟨.iad (.l 1) (.l 2) 4, none, none⟩,
 ⟨.ld (.l 3) 4 true, none, none⟩,
 ⟨.call 120 [(.l 0), (.l 4)], none, none⟩,
 ⟨.un .not (.l 5), none, none⟩,
 ⟨.mov (.l 6), none, none⟩,
 ⟨.mov (.s 5), none, some ((.l 7), false)⟩,
 ⟨.bin .gtr (.l 8) (.c (.i .i64 0)), none, some ((.l 7), false)⟩,
 ⟨.mov (.l 9), none, some ((.l 7), false)⟩,
 ⟨.mov (.s 1), none, some ((.l 10), true)⟩,
 ⟨.mov (.s 5), none, some ((.l 10), true)⟩,
 ⟨.bin .sub (.l 12) (.c (.i .i64 1)), none, some ((.l 10), true)⟩,
 ⟨.iad (.l 11) (.l 13) 4, none, some ((.l 10), true)⟩,
 ⟨.fad (.l 14) 0, none, some ((.l 10), true)⟩,
 ⟨.ld (.l 15) 1 false, none, some ((.l 10), true)⟩,
 ⟨.mov (.s 1), none, some ((.l 10), true)⟩,
 ⟨.mov (.s 5), none, some ((.l 10), true)⟩,
 ⟨.iad (.l 17) (.l 18) 4, none, some ((.l 10), true)⟩,
 ⟨.fad (.l 19) 0, none, some ((.l 10), true)⟩,
 ⟨.ld (.l 20) 1 false, none, some ((.l 10), true)⟩,
 ⟨.bin .gtr (.l 16) (.l 21), none, some ((.l 10), true)⟩,
 ⟨.pick (.l 10) (.l 22) (.c (.b false)), none, some ((.l 7), false)⟩,
 ⟨.pick (.l 7) (.c (.b true)) (.l 23), some 4, none⟩] (some false))
 (.cond (.s 4) (.seq (.reg [⟨.mov (.c (.b false)), some 2, none⟩] none)
 .ret)
 .skip)))
 (.reg [⟨.mov (.s 5), none, none⟩,
 ⟨.bin .add (.l 0) (.c (.i .i64 1)), none, none⟩,
 ⟨.mov (.l 1), some 5, none⟩] none)))
def v112 : VFunc :=
 ⟨2, 7, [.s 2],
 (.seq (.reg [⟨.lbx (.s 0) 3, some 6, none⟩,
 ⟨.mov (.c (.b false)), some 2, none⟩] none)
 (.seq (.seq (.reg [⟨.mov (.c (.i .i64 0)), some 5, none⟩] none)
 (.block 0 (.loop v112l0)))
 (.seq (.reg [⟨.mov (.c (.b true)), some 2, none⟩] none)
 .ret))), true, false, none⟩

def tm112 : List Nat := [0, 1, 4, 9, 36, 5, 2]
def bs112 : List Nat := [6]

-- internal/stringslite.CutPrefix
def v113 : VFunc :=
 ⟨2, 5, [.s 2, .s 3],
 (.seq (.reg [⟨.mov (.c (.s [])), some 2, none⟩,
 ⟨.mov (.c (.b false)), some 3, none⟩] none)
 (.seq (.seq (.reg [⟨.mov (.s 0), none, none⟩,
 ⟨.mov (.s 1), none, none⟩,
 ⟨.call 121 [(.l 0), (.l 1)], none, none⟩,
 ⟨.un .not (.l 2), some 4, none⟩] none)
 (.cond (.s 4) (.seq (.reg [⟨.mov (.s 0), none, none⟩,
 ⟨.mov (.l 0), some 2, none⟩,
 ⟨.mov (.c (.b false)), some 3, none⟩] none)
 .ret)
 .skip))
 (.seq (.reg [⟨.mov (.s 0), none, none⟩,
 ⟨.mov (.s 1), none, none⟩,
 ⟨.len 0 (.l 1), none, none⟩,
 ⟨.sli true 0 (.l 0) (some (.l 2)) none none, none, none⟩,
 ⟨.mov (.l 3), some 2, none⟩,
 ⟨.mov (.c (.b true)), some 3, none⟩] none)
 .ret))), true, false, none⟩

def tm113 : List Nat := [0, 1, 4, 5, 9]
def bs113 : List Nat := []

-- annuitant/annuitantref01.short
def v114l0 : VCode :=
 (.seq (.seq (.reg [⟨.mov (.s 6), none, none⟩,
 ⟨.bin .geq (.l 0) (.c (.i .i64 0)), some 4, none⟩] none)
 (.cond (.s 4) .skip
 (.exit 0)))
 (.seq (.block 1 (.seq (.reg [⟨.mov (.s 5), none, none⟩,
 ⟨.bin .mul (.l 0) (.c (.i .i64 65536)), none, none⟩,
 ⟨.mov (.s 0), none, none⟩,
 ⟨.mov (.s 6), none, none⟩,
 ⟨.iad (.l 2) (.l 3) 1, none, none⟩,
 ⟨.ld (.l 4) 1 false, none, none⟩,
 ⟨.cvi .i64 (.l 5), none, none⟩,
 ⟨.bin .add (.l 1) (.l 6), none, none⟩,
 ⟨.mov (.l 7), some 5, none⟩] none)
 (.seq (.reg [⟨.mov (.s 7), none, none⟩,
 ⟨.mov (.s 6), none, none⟩,
 ⟨.mov (.s 5), none, none⟩,
 ⟨.mov (.s 1), none, none⟩,
 ⟨.bin .quo (.l 2) (.l 3), none, none⟩,
 ⟨.cvi .u16 (.l 4), none, none⟩,
 ⟨.iad (.l 0) (.l 1) 1, none, none⟩,
 ⟨.st (.l 6) (.l 5) 1, none, none⟩] none)
 (.reg [⟨.mov (.s 5), none, none⟩,
 ⟨.mov (.s 1), none, none⟩,
 ⟨.bin .rem (.l 0) (.l 1), none, none⟩,
 ⟨.mov (.l 2), some 5, none⟩] none))))
 (.reg [⟨.mov (.s 6), none, none⟩,
 ⟨.bin .sub (.l 0) (.c (.i .i64 1)), none, none⟩,
 ⟨.mov (.l 1), some 6, none⟩] none)))
def v114 : VFunc :=
 ⟨2, 8, [.s 2, .s 3],
 (.seq (.reg [⟨.mov (.c .nil), some 2, none⟩,
 ⟨.mov (.c .nil), some 3, none⟩] none)
 (.seq (.reg [⟨.mov (.s 0), none, none⟩,
 ⟨.len 1 (.l 0), none, none⟩,
 ⟨.mks (.l 1) (.l 1) 1 2 [(.i .u16 0)] true, none, none⟩,
 ⟨.mov (.l 2), some 7, none⟩] none)
 (.seq (.reg [⟨.mov (.c (.i .i64 0)), some 5, none⟩] none)
 (.seq (.seq (.reg [⟨.mov (.s 0), none, none⟩,
 ⟨.len 1 (.l 0), none, none⟩,
 ⟨.bin .sub (.l 1) (.c (.i .i64 1)), none, none⟩,
 ⟨.mov (.l 2), some 6, none⟩] none)
 (.block 0 (.loop v114l0)))
 (.seq (.reg [⟨.mov (.s 7), none, none⟩,
 ⟨.call 86 [(.l 0)], none, none⟩,
 ⟨.mov (.s 5), none, none⟩,
 ⟨.cvi .u16 (.l 2), none, none⟩,
 ⟨.bsv 1 1 [(.i .u16 0)] [(0, (.l 3))], none, none⟩,
 ⟨.call 86 [(.l 4)], none, none⟩,
 ⟨.mov (.l 1), some 2, none⟩,
 ⟨.mov (.l 5), some 3, none⟩] none)
 .ret))))), true, false, none⟩

def tm114 : List Nat := [0, 1, 4, 5, 16, 7, 8, 6]
def bs114 : List Nat := []

-- annuitant/annuitantref27.Right
def v120 : VFunc :=
 ⟨2, 7, [.s 2],
 (.seq (.reg [⟨.lbx (.s 0) 3, some 6, none⟩,
 ⟨.lbx (.s 1) 4, some 5, none⟩,
 ⟨.mov (.c (.b false)), some 2, none⟩] none)
 (.seq (.seq (.reg [⟨.lfa (.sl 5) 0, none, none⟩,
 ⟨.lld (.lo 0) 1 false, none, none⟩,
 ⟨.bin .lss (.l 1) (.c (.i .i64 0)), none, none⟩,
 ⟨.mov (.l 2), none, none⟩,
 ⟨.lfa (.sl 5) 0, none, some ((.l 3), false)⟩,
 ⟨.lld (.lo 4) 1 false, none, some ((.l 3), false)⟩,
 ⟨.bin .geq (.l 5) (.c (.i .i64 65536)), none, some ((.l 3), false)⟩,
 ⟨.pick (.l 3) (.c (.b true)) (.l 6), none, none⟩,
 ⟨.mov (.l 7), none, none⟩,
 ⟨.lld (.sl 6) 3 true, none, some ((.l 8), false)⟩,
 ⟨.lfa (.sl 5) 1, none, some ((.l 8), false)⟩,
 ⟨.lld (.lo 10) 1 false, none, some ((.l 8), false)⟩,
 ⟨.call 76 [(.l 9), (.l 11)], none, some ((.l 8), false)⟩,
 ⟨.un .not (.l 12), none, some ((.l 8), false)⟩,
 ⟨.pick (.l 8) (.c (.b true)) (.l 13), none, none⟩,
 ⟨.mov (.l 14), none, none⟩,
 ⟨.lfa (.sl 5) 2, none, some ((.l 15), false)⟩,
 ⟨.lld (.lo 16) 1 false, none, some ((.l 15), false)⟩,
 ⟨.bin .lss (.l 17) (.c (.i .u8 1)), none, some ((.l 15), false)⟩,
 ⟨.pick (.l 15) (.c (.b true)) (.l 18), none, none⟩,
 ⟨.mov (.l 19), none, none⟩,
 ⟨.lfa (.sl 5) 2, none, some ((.l 20), false)⟩,
 ⟨.lld (.lo 21) 1 false, none, some ((.l 20), false)⟩,
 ⟨.bin .gtr (.l 22) (.c (.i .u8 6)), none, some ((.l 20), false)⟩,
 ⟨.pick (.l 20) (.c (.b true)) (.l 23), some 3, none⟩] none)
 (.cond (.s 3) (.seq (.reg [⟨.mov (.c (.b false)), some 2, none⟩] none)
 .ret)
 .skip))
 (.seq (.seq (.reg [⟨.lfa (.sl 5) 2, none, none⟩,
 ⟨.lld (.lo 0) 1 false, none, none⟩,
 ⟨.bin .leq (.l 1) (.c (.i .u8 3)), none, none⟩,
 ⟨.mov (.l 2), none, none⟩,
 ⟨.lfa (.sl 5) 2, none, some ((.l 3), false)⟩,
 ⟨.lld (.lo 4) 1 false, none, some ((.l 3), false)⟩,
 ⟨.bin .eql (.l 5) (.c (.i .u8 6)), none, some ((.l 3), false)⟩,
 ⟨.pick (.l 3) (.c (.b true)) (.l 6), some 4, none⟩] none)
 (.cond (.s 4) (.seq (.reg [⟨.lfa (.sl 5) 3, none, none⟩,
 ⟨.lld (.lo 0) 1 false, none, none⟩,
 ⟨.bin .geq (.l 1) (.c (.i .i64 0)), none, none⟩,
 ⟨.mov (.l 2), none, none⟩,
 ⟨.lfa (.sl 5) 3, none, some ((.l 3), true)⟩,
 ⟨.lld (.lo 4) 1 false, none, some ((.l 3), true)⟩,
 ⟨.bin .leq (.l 5) (.c (.i .i64 1099511627776)), none, some ((.l 3), true)⟩,
 ⟨.pick (.l 3) (.l 6) (.c (.b false)), none, none⟩,
 ⟨.mov (.l 7), some 2, none⟩] none)
 .ret)
 .skip))
 (.seq (.reg [⟨.lfa (.sl 5) 3, none, none⟩,
 ⟨.lld (.lo 0) 1 false, none, none⟩,
 ⟨.bin .leq (.l 1) (.c (.i .i64 0)), none, none⟩,
 ⟨.mov (.l 2), none, none⟩,
 ⟨.lfa (.sl 5) 3, none, some ((.l 3), true)⟩,
 ⟨.lld (.lo 4) 1 false, none, some ((.l 3), true)⟩,
 ⟨.bin .geq (.l 5) (.c (.i .i64 (-1099511627776))), none, some ((.l 3), true)⟩,
 ⟨.pick (.l 3) (.l 6) (.c (.b false)), none, none⟩,
 ⟨.mov (.l 7), some 2, none⟩] none)
 .ret)))), true, false, none⟩

def tm120 : List Nat := [0, 1, 4, 29, 37, 3, 2]
def bs120 : List Nat := [5, 6]

-- internal/stringslite.HasPrefix
def v121 : VFunc :=
 ⟨2, 3, [.s 2],
 (.seq (.reg [⟨.mov (.c (.b false)), some 2, none⟩] none)
 (.seq (.reg [⟨.mov (.s 0), none, none⟩,
 ⟨.len 0 (.l 0), none, none⟩,
 ⟨.mov (.s 1), none, none⟩,
 ⟨.len 0 (.l 2), none, none⟩,
 ⟨.bin .geq (.l 1) (.l 3), none, none⟩,
 ⟨.mov (.l 4), none, none⟩,
 ⟨.mov (.s 0), none, some ((.l 5), true)⟩,
 ⟨.mov (.s 1), none, some ((.l 5), true)⟩,
 ⟨.len 0 (.l 7), none, some ((.l 5), true)⟩,
 ⟨.sli true 0 (.l 6) none (some (.l 8)) none, none, some ((.l 5), true)⟩,
 ⟨.mov (.s 1), none, some ((.l 5), true)⟩,
 ⟨.bin .eql (.l 9) (.l 10), none, some ((.l 5), true)⟩,
 ⟨.pick (.l 5) (.l 11) (.c (.b false)), none, none⟩,
 ⟨.mov (.l 12), some 2, none⟩] none)
 .ret)), true, false, none⟩

def tm121 : List Nat := [0, 1, 4]
def bs121 : List Nat := []

def fns : List (FuncId × VFunc) :=
  [(3, v3), (4, v4), (5, v5), (6, v6), (7, v7), (8, v8), (10, v10), (11, v11), (12, v12), (13, v13), (14, v14), (15, v15), (16, v16), (17, v17), (18, v18), (19, v19), (20, v20), (21, v21), (22, v22), (23, v23), (24, v24), (25, v25), (26, v26), (27, v27), (28, v28), (29, v29), (30, v30), (31, v31), (32, v32), (33, v33), (34, v34), (35, v35), (36, v36), (37, v37), (38, v38), (39, v39), (41, v41), (42, v42), (43, v43), (44, v44), (45, v45), (46, v46), (48, v48), (49, v49), (50, v50), (51, v51), (52, v52), (53, v53), (54, v54), (55, v55), (56, v56), (57, v57), (58, v58), (59, v59), (60, v60), (61, v61), (62, v62), (63, v63), (64, v64), (65, v65), (66, v66), (67, v67), (68, v68), (70, v70), (71, v71), (72, v72), (73, v73), (74, v74), (75, v75), (76, v76), (77, v77), (78, v78), (79, v79), (80, v80), (81, v81), (82, v82), (83, v83), (84, v84), (85, v85), (86, v86), (87, v87), (88, v88), (89, v89), (90, v90), (91, v91), (92, v92), (93, v93), (94, v94), (95, v95), (96, v96), (97, v97), (98, v98), (102, v102), (103, v103), (104, v104), (105, v105), (106, v106), (107, v107), (108, v108), (109, v109), (112, v112), (113, v113), (114, v114), (120, v120), (121, v121)]
def fnOf : List (FuncId × VFunc) → FuncId → Option VFunc
  | [], _ => none
  | (g, v) :: r, f => if g = f then some v else fnOf r f
/-- .. with what is shown beside the machine. -/
def Vx (e : FuncId → List D → Heap → Option (D × Heap)) (p : FuncId → List D → Option D) : VProg := ⟨fnOf fns, fun _ _ => none, e, p⟩
def V : VProg := Vx (fun _ _ _ => none) (fun _ _ => none)
end Go.Proofs.YtnhbopeopppojaaGreatDoor.Dv
