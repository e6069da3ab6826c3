/-
  The machine's code of the program's functions, by program.
-/
import Derived.Test.YtkogdbgccjmaoaaDa
namespace Go.Proofs.Ytkogdbgccjmaoaa.Dv
open Go.Dm

-- annuitant/annuitantlaw25.DependMerges
def v5l0 : VCode :=
  (.seq (.reg [⟨.bin .lss (.s 17) (.s 18), some 8, none⟩] none)
  (.seq (.cond (.s 8) .skip
  (.exit 0))
  (.seq (.block 1 (.seq (.reg [⟨.iad (.s 19) (.s 17) 3, none, none⟩,
     ⟨.ld (.l 0) 3 true, none, none⟩,
     ⟨.lal [(.s []), (.b false), .nil], some 20, none⟩,
     ⟨.lst (.sl 20) (.l 1) 3, none, none⟩] none)
   (.seq (.reg [⟨.lfa (.sl 20) 2, none, none⟩,
     ⟨.lld (.lo 0) 1 false, none, none⟩,
     ⟨.len 1 (.l 1), none, none⟩,
     ⟨.bin .gtr (.l 2) (.c (.i .i64 20)), some 9, none⟩] none)
   (.cond (.s 9) (.seq (.reg [⟨.call 8 [], none, none⟩,
      ⟨.mov (.l 0), some 6, none⟩] none)
    .ret)
   .skip))))
  (.reg [⟨.bin .add (.s 17) (.c (.i .i64 1)), none, none⟩,
    ⟨.mov (.l 0), some 17, none⟩] none))))
def v5l1 : VCode :=
  (.seq (.reg [⟨.bin .lss (.s 25) (.s 26), some 11, none⟩] none)
  (.seq (.cond (.s 11) .skip
  (.exit 2))
  (.seq (.block 3 (.seq (.reg [⟨.mov (.s 25), none, none⟩,
     ⟨.mov (.l 0), some 27, none⟩] none)
   (.reg [⟨.lfa (.sl 23) 0, none, none⟩,
     ⟨.lld (.lo 0) 1 false, none, none⟩,
     ⟨.mov (.s 27), none, none⟩,
     ⟨.iad (.l 1) (.l 2) 2, none, none⟩,
     ⟨.fad (.l 3) 1, none, none⟩,
     ⟨.ld (.l 4) 1 false, none, none⟩,
     ⟨.bin .add (.l 5) (.c (.i .i64 1)), none, none⟩,
     ⟨.iad (.l 1) (.l 2) 2, none, none⟩,
     ⟨.fad (.l 7) 1, none, none⟩,
     ⟨.st (.l 8) (.l 6) 1, none, none⟩] none)))
  (.reg [⟨.bin .add (.s 25) (.c (.i .i64 1)), none, none⟩,
    ⟨.mov (.l 0), some 25, none⟩] none))))
def v5l2 : VCode :=
  (.seq (.reg [⟨.bin .lss (.s 28) (.s 29), some 12, none⟩] none)
  (.seq (.cond (.s 12) .skip
  (.exit 4))
  (.seq (.block 5 (.seq (.reg [⟨.mov (.s 28), none, none⟩,
     ⟨.mov (.l 0), some 30, none⟩] none)
   (.reg [⟨.lfa (.sl 23) 1, none, none⟩,
     ⟨.lld (.lo 0) 1 false, none, none⟩,
     ⟨.mov (.s 30), none, none⟩,
     ⟨.iad (.l 1) (.l 2) 3, none, none⟩,
     ⟨.fad (.l 3) 1, none, none⟩,
     ⟨.ld (.l 4) 1 false, none, none⟩,
     ⟨.bin .add (.l 5) (.c (.i .i64 1)), none, none⟩,
     ⟨.iad (.l 1) (.l 2) 3, none, none⟩,
     ⟨.fad (.l 7) 1, none, none⟩,
     ⟨.st (.l 8) (.l 6) 1, none, none⟩] none)))
  (.reg [⟨.bin .add (.s 28) (.c (.i .i64 1)), none, none⟩,
    ⟨.mov (.l 0), some 28, none⟩] none))))
def v5l3 : VCode :=
  (.seq (.reg [⟨.bin .lss (.s 31) (.s 32), some 13, none⟩] none)
  (.seq (.cond (.s 13) .skip
  (.exit 6))
  (.seq (.block 7 (.seq (.reg [⟨.mov (.s 31), none, none⟩,
     ⟨.mov (.l 0), some 33, none⟩] none)
   (.reg [⟨.lfa (.sl 23) 2, none, none⟩,
     ⟨.lld (.lo 0) 1 false, none, none⟩,
     ⟨.mov (.s 33), none, none⟩,
     ⟨.iad (.l 1) (.l 2) 1, none, none⟩,
     ⟨.ld (.l 3) 1 false, none, none⟩,
     ⟨.bin .add (.l 4) (.c (.s [120])), none, none⟩,
     ⟨.iad (.l 1) (.l 2) 1, none, none⟩,
     ⟨.st (.l 6) (.l 5) 1, none, none⟩] none)))
  (.reg [⟨.bin .add (.s 31) (.c (.i .i64 1)), none, none⟩,
    ⟨.mov (.l 0), some 31, none⟩] none))))
def v5 : VFunc :=
  ⟨6, 34, [.s 6],
  (.seq (.reg [⟨.lbx (.s 0) 3, some 14, none⟩,
    ⟨.lbx (.s 1) 3, some 15, none⟩,
    ⟨.lbx (.s 2) 4, some 16, none⟩,
    ⟨.mov (.c (.b false)), some 6, none⟩] none)
  (.seq (.seq (.reg [⟨.lld (.sl 14) 3 true, none, none⟩,
    ⟨.call 7 [(.l 0)], none, none⟩,
    ⟨.un .not (.l 1), none, none⟩,
    ⟨.mov (.l 2), none, none⟩,
    ⟨.lld (.sl 15) 3 true, none, some ((.l 3), false)⟩,
    ⟨.call 7 [(.l 4)], none, some ((.l 3), false)⟩,
    ⟨.un .not (.l 5), none, some ((.l 3), false)⟩,
    ⟨.pick (.l 3) (.c (.b true)) (.l 6), none, none⟩,
    ⟨.mov (.l 7), none, none⟩,
    ⟨.lfa (.sl 16) 3, none, some ((.l 8), false)⟩,
    ⟨.lld (.lo 9) 1 false, none, some ((.l 8), false)⟩,
    ⟨.len 1 (.l 10), none, some ((.l 8), false)⟩,
    ⟨.bin .gtr (.l 11) (.c (.i .i64 30)), none, some ((.l 8), false)⟩,
    ⟨.pick (.l 8) (.c (.b true)) (.l 12), none, none⟩,
    ⟨.mov (.l 13), none, none⟩,
    ⟨.lfa (.sl 16) 2, none, some ((.l 14), false)⟩,
    ⟨.lld (.lo 15) 1 false, none, some ((.l 14), false)⟩,
    ⟨.len 1 (.l 16), none, some ((.l 14), false)⟩,
    ⟨.bin .gtr (.l 17) (.c (.i .i64 6)), none, some ((.l 14), false)⟩,
    ⟨.pick (.l 14) (.c (.b true)) (.l 18), none, none⟩,
    ⟨.mov (.l 19), none, none⟩,
    ⟨.mov (.s 3), none, some ((.l 20), false)⟩,
    ⟨.len 1 (.l 21), none, some ((.l 20), false)⟩,
    ⟨.bin .gtr (.l 22) (.c (.i .i64 40)), none, some ((.l 20), false)⟩,
    ⟨.pick (.l 20) (.c (.b true)) (.l 23), some 7, none⟩] none)
  (.cond (.s 7) (.seq (.reg [⟨.call 8 [], none, none⟩,
     ⟨.mov (.l 0), some 6, none⟩] none)
   .ret)
  .skip))
  (.seq (.seq (.reg [⟨.lfa (.sl 16) 2, none, none⟩,
    ⟨.lld (.lo 0) 1 false, some 19, none⟩,
    ⟨.len 1 (.s 19), some 18, none⟩,
    ⟨.mov (.c (.i .i64 0)), some 17, none⟩] none)
  (.block 0 (.loop v5l0)))
  (.seq (.reg [⟨.lld (.sl 14) 3 true, none, none⟩,
    ⟨.call 9 [(.l 0)], none, none⟩,
    ⟨.lld (.sl 15) 3 true, none, none⟩,
    ⟨.call 9 [(.l 2)], none, none⟩,
    ⟨.lal [.nil, .nil, .nil], some 21, none⟩,
    ⟨.lal [.nil, .nil, .nil], some 22, none⟩,
    ⟨.lst (.sl 21) (.l 1) 3, none, none⟩,
    ⟨.lst (.sl 22) (.l 3) 3, none, none⟩] (some false))
  (.seq (.reg [⟨.lld (.sl 14) 3 true, none, none⟩,
    ⟨.lld (.sl 15) 3 true, none, none⟩,
    ⟨.call 21 [(.l 0), (.l 1)], none, none⟩,
    ⟨.lal [.nil, .nil, .nil], some 23, none⟩,
    ⟨.lst (.sl 23) (.l 2) 3, none, none⟩] none)
  (.seq (.reg [⟨.lld (.sl 21) 3 true, none, none⟩,
    ⟨.lld (.sl 22) 3 true, none, none⟩,
    ⟨.call 24 [(.l 0), (.l 1)], none, none⟩,
    ⟨.lal [.nil, .nil, .nil], some 24, none⟩,
    ⟨.lst (.sl 24) (.l 2) 3, none, none⟩] none)
  (.seq (.seq (.reg [⟨.lld (.sl 23) 3 true, none, none⟩,
    ⟨.lld (.sl 24) 3 true, none, none⟩,
    ⟨.call 25 [(.l 1)], none, none⟩,
    ⟨.call 23 [(.l 0), (.l 2)], none, none⟩,
    ⟨.un .not (.l 3), none, none⟩,
    ⟨.mov (.l 4), none, none⟩,
    ⟨.lld (.sl 14) 3 true, none, some ((.l 5), false)⟩,
    ⟨.lld (.sl 15) 3 true, none, some ((.l 5), false)⟩,
    ⟨.call 22 [(.l 6), (.l 7)], none, some ((.l 5), false)⟩,
    ⟨.lld (.sl 21) 3 true, none, some ((.l 5), false)⟩,
    ⟨.lld (.sl 22) 3 true, none, some ((.l 5), false)⟩,
    ⟨.call 26 [(.l 9), (.l 10)], none, some ((.l 5), false)⟩,
    ⟨.eqv true .b (.l 8) (.l 11), none, some ((.l 5), false)⟩,
    ⟨.pick (.l 5) (.c (.b true)) (.l 12), none, none⟩,
    ⟨.mov (.l 13), none, none⟩,
    ⟨.lld (.sl 16) 4 true, none, some ((.l 14), false)⟩,
    ⟨.mov (.s 3), none, some ((.l 14), false)⟩,
    ⟨.lld (.sl 14) 3 true, none, some ((.l 14), false)⟩,
    ⟨.mov (.s 4), none, some ((.l 14), false)⟩,
    ⟨.mov (.s 5), none, some ((.l 14), false)⟩,
    ⟨.call 27 [(.l 15), (.l 16), (.l 17), (.l 18), (.l 19)], none, some ((.l 14), false)⟩,
    ⟨.lld (.sl 16) 4 true, none, some ((.l 14), false)⟩,
    ⟨.mov (.s 3), none, some ((.l 14), false)⟩,
    ⟨.lld (.sl 21) 3 true, none, some ((.l 14), false)⟩,
    ⟨.mov (.s 4), none, some ((.l 14), false)⟩,
    ⟨.mov (.s 5), none, some ((.l 14), false)⟩,
    ⟨.call 28 [(.l 21), (.l 22), (.l 23), (.l 24), (.l 25)], none, some ((.l 14), false)⟩,
    ⟨.eqv true .b (.l 20) (.l 26), none, some ((.l 14), false)⟩,
    ⟨.pick (.l 14) (.c (.b true)) (.l 27), some 10, none⟩] (some false))
  (.cond (.s 10) (.seq (.reg [⟨.mov (.c (.b false)), some 6, none⟩] none)
   .ret)
  .skip))
  (.seq (.seq (.reg [⟨.lfa (.sl 23) 0, none, none⟩,
    ⟨.lld (.lo 0) 1 false, none, none⟩,
    ⟨.len 1 (.l 1), some 26, none⟩,
    ⟨.mov (.c (.i .i64 0)), some 25, none⟩] none)
  (.block 2 (.loop v5l1)))
  (.seq (.seq (.reg [⟨.lfa (.sl 23) 1, none, none⟩,
    ⟨.lld (.lo 0) 1 false, none, none⟩,
    ⟨.len 1 (.l 1), some 29, none⟩,
    ⟨.mov (.c (.i .i64 0)), some 28, none⟩] none)
  (.block 4 (.loop v5l2)))
  (.seq (.seq (.reg [⟨.lfa (.sl 23) 2, none, none⟩,
    ⟨.lld (.lo 0) 1 false, none, none⟩,
    ⟨.len 1 (.l 1), some 32, none⟩,
    ⟨.mov (.c (.i .i64 0)), some 31, none⟩] none)
  (.block 6 (.loop v5l3)))
  (.seq (.reg [⟨.lld (.sl 14) 3 true, none, none⟩,
    ⟨.lld (.sl 21) 3 true, none, none⟩,
    ⟨.call 25 [(.l 1)], none, none⟩,
    ⟨.call 23 [(.l 0), (.l 2)], none, none⟩,
    ⟨.mov (.l 3), none, none⟩,
    ⟨.lld (.sl 15) 3 true, none, some ((.l 4), true)⟩,
    ⟨.lld (.sl 22) 3 true, none, some ((.l 4), true)⟩,
    ⟨.call 25 [(.l 6)], none, some ((.l 4), true)⟩,
    ⟨.call 23 [(.l 5), (.l 7)], none, some ((.l 4), true)⟩,
    ⟨.pick (.l 4) (.l 8) (.c (.b false)), none, none⟩,
    ⟨.mov (.l 9), none, none⟩,
    ⟨.call 8 [], none, some ((.l 10), true)⟩,
    ⟨.pick (.l 10) (.l 11) (.c (.b false)), none, none⟩,
    ⟨.mov (.l 12), some 6, none⟩] (some false))
  .ret))))))))))), true⟩

def tm5 : List Nat := [0, 1, 2, 3, 4, 5, 12, 46, 52, 58, 99, 104, 120, 136, 6, 7, 8, 51, 50, 49, 14, 15, 16, 17, 18, 103, 102, 19, 119, 118, 20, 135, 134, 21]
def bs5 : List Nat := [14, 15, 16, 20, 21, 22, 23, 24]

-- annuitant/annuitantlaw25.Few
def v7 : VFunc :=
  ⟨1, 3, [.s 1],
  (.seq (.reg [⟨.lbx (.s 0) 3, some 2, none⟩,
    ⟨.mov (.c (.b false)), some 1, none⟩] none)
  (.seq (.reg [⟨.lfa (.sl 2) 0, none, none⟩,
    ⟨.lld (.lo 0) 1 false, none, none⟩,
    ⟨.len 1 (.l 1), none, none⟩,
    ⟨.bin .leq (.l 2) (.c (.i .i64 40)), none, none⟩,
    ⟨.mov (.l 3), none, none⟩,
    ⟨.lfa (.sl 2) 1, none, some ((.l 4), true)⟩,
    ⟨.lld (.lo 5) 1 false, none, some ((.l 4), true)⟩,
    ⟨.len 1 (.l 6), none, some ((.l 4), true)⟩,
    ⟨.bin .leq (.l 7) (.c (.i .i64 40)), none, some ((.l 4), true)⟩,
    ⟨.pick (.l 4) (.l 8) (.c (.b false)), none, none⟩,
    ⟨.mov (.l 9), none, none⟩,
    ⟨.lfa (.sl 2) 2, none, some ((.l 10), true)⟩,
    ⟨.lld (.lo 11) 1 false, none, some ((.l 10), true)⟩,
    ⟨.len 1 (.l 12), none, some ((.l 10), true)⟩,
    ⟨.bin .leq (.l 13) (.c (.i .i64 40)), none, some ((.l 10), true)⟩,
    ⟨.pick (.l 10) (.l 14) (.c (.b false)), none, none⟩,
    ⟨.mov (.l 15), some 1, none⟩] none)
  .ret)), true⟩

def tm7 : List Nat := [0, 2, 1]
def bs7 : List Nat := [2]

-- annuitant/annuitantlaw25.awake
def v8 : VFunc :=
  ⟨0, 9, [.s 0],
  (.seq (.reg [⟨.mov (.c (.b false)), some 0, none⟩] none)
  (.seq (.reg [⟨.agc [(.s []), (.i .i64 0)] [(0, 1, (.c (.s [112, 101, 110, 115, 105, 111, 110]))), (1, 1, (.c (.i .i64 100)))], none, none⟩,
    ⟨.bsl 2 1 [(.s []), (.i .i64 0)] [(0, (.l 0))] true, none, none⟩,
    ⟨.agc [(.s []), (.i .i64 0), (.i .i64 0)] [(0, 1, (.c (.s [112, 97, 121]))), (1, 1, (.c (.i .i64 100))), (2, 1, (.c (.i .i64 101)))], none, none⟩,
    ⟨.agc [(.s []), (.i .i64 0), (.i .i64 0)] [(0, 1, (.c (.s [112, 97, 121]))), (1, 1, (.c (.i .i64 50))), (2, 1, (.c (.i .i64 90)))], none, none⟩,
    ⟨.bsl 3 2 [(.s []), (.i .i64 0), (.i .i64 0)] [(0, (.l 2)), (1, (.l 3))] true, none, none⟩,
    ⟨.bsl 1 1 [(.s [])] [(0, (.c (.s [116])))] true, none, none⟩,
    ⟨.agc [.nil, .nil, .nil] [(0, 1, (.l 1)), (1, 1, (.l 4)), (2, 1, (.l 5))], none, none⟩,
    ⟨.lal [.nil, .nil, .nil], some 4, none⟩,
    ⟨.lst (.sl 4) (.l 6) 3, none, none⟩] none)
  (.seq (.reg [⟨.agc [(.s []), (.i .i64 0), (.i .i64 0), (.i .i64 0), (.b false), (.i .u8 0), (.b false), .nil, (.b false), .nil, (.i .i64 0)] [(0, 1, (.c (.s [112, 97, 121]))), (1, 1, (.c (.i .i64 89))), (2, 1, (.c (.i .i64 95))), (3, 1, (.c (.i .i64 7)))], none, none⟩,
    ⟨.lal [(.s []), (.i .i64 0), (.i .i64 0), (.i .i64 0), (.b false), (.i .u8 0), (.b false), .nil, (.b false), .nil, (.i .i64 0)], some 1, none⟩,
    ⟨.lst (.sl 1) (.l 0) 11, none, none⟩] none)
  (.seq (.reg [⟨.lld (.sl 1) 11 true, none, none⟩,
    ⟨.lld (.sl 1) 11 true, none, none⟩,
    ⟨.lal [(.s []), (.i .i64 0), (.i .i64 0), (.i .i64 0), (.b false), (.i .u8 0), (.b false), .nil, (.b false), .nil, (.i .i64 0)], some 2, none⟩,
    ⟨.lal [(.s []), (.i .i64 0), (.i .i64 0), (.i .i64 0), (.b false), (.i .u8 0), (.b false), .nil, (.b false), .nil, (.i .i64 0)], some 3, none⟩,
    ⟨.lst (.sl 2) (.l 0) 11, none, none⟩,
    ⟨.lst (.sl 3) (.l 1) 11, none, none⟩] (some false))
  (.seq (.reg [⟨.lfa (.sl 2) 1, none, none⟩,
    ⟨.lst (.lo 0) (.c (.i .i64 90)) 1, none, none⟩,
    ⟨.lfa (.sl 2) 2, none, none⟩,
    ⟨.lst (.lo 2) (.c (.i .i64 100)) 1, none, none⟩,
    ⟨.lfa (.sl 3) 0, none, none⟩,
    ⟨.lst (.lo 4) (.c (.s [97, 103, 101])) 1, none, none⟩] none)
  (.seq (.reg [⟨.agc [(.s []), (.s []), (.i .i64 0), (.i .i64 0), (.i .i64 0), (.b false), (.i .u8 0), (.s []), (.i .u8 0), (.b false), .nil, (.b false), .nil, (.i .i64 0), .nil, (.i .u8 0), (.s []), (.i .u8 0), (.b false), .nil, (.b false), .nil, (.i .i64 0), .nil] [(0, 1, (.c (.s [112, 101, 110, 115, 105, 111, 110]))), (3, 1, (.c (.i .i64 100)))], none, none⟩,
    ⟨.lal [(.s []), (.s []), (.i .i64 0), (.i .i64 0), (.i .i64 0), (.b false), (.i .u8 0), (.s []), (.i .u8 0), (.b false), .nil, (.b false), .nil, (.i .i64 0), .nil, (.i .u8 0), (.s []), (.i .u8 0), (.b false), .nil, (.b false), .nil, (.i .i64 0), .nil], some 5, none⟩,
    ⟨.lst (.sl 5) (.l 0) 24, none, none⟩] none)
  (.seq (.reg [⟨.agc [(.s []), (.s []), (.i .i64 0), (.i .i64 0), (.i .i64 0), (.b false), (.i .u8 0), (.s []), (.i .u8 0), (.b false), .nil, (.b false), .nil, (.i .i64 0), .nil, (.i .u8 0), (.s []), (.i .u8 0), (.b false), .nil, (.b false), .nil, (.i .i64 0), .nil] [(0, 1, (.c (.s [112, 101, 110, 115, 105, 111, 110]))), (2, 1, (.c (.i .i64 100))), (3, 1, (.c (.i .i64 101)))], none, none⟩,
    ⟨.lal [(.s []), (.s []), (.i .i64 0), (.i .i64 0), (.i .i64 0), (.b false), (.i .u8 0), (.s []), (.i .u8 0), (.b false), .nil, (.b false), .nil, (.i .i64 0), .nil, (.i .u8 0), (.s []), (.i .u8 0), (.b false), .nil, (.b false), .nil, (.i .i64 0), .nil], some 6, none⟩,
    ⟨.lst (.sl 6) (.l 0) 24, none, none⟩] none)
  (.seq (.reg [⟨.lld (.sl 4) 3 true, none, none⟩,
    ⟨.call 16 [(.l 0), (.c (.s [112, 97, 121]))], none, none⟩,
    ⟨.mov (.l 1), none, none⟩,
    ⟨.ext (.l 2) 0, none, none⟩,
    ⟨.ext (.l 2) 1, none, none⟩,
    ⟨.mov (.l 3), some 8, none⟩,
    ⟨.mov (.l 4), some 7, none⟩] none)
  (.seq (.reg [⟨.lld (.sl 4) 3 true, none, none⟩,
    ⟨.lld (.sl 1) 11 true, none, none⟩,
    ⟨.call 10 [(.l 0), (.l 1), (.c (.i .i64 7))], none, none⟩,
    ⟨.mov (.l 2), none, none⟩,
    ⟨.lld (.sl 4) 3 true, none, some ((.l 3), true)⟩,
    ⟨.lld (.sl 1) 11 true, none, some ((.l 3), true)⟩,
    ⟨.call 10 [(.l 4), (.l 5), (.c (.i .i64 6))], none, some ((.l 3), true)⟩,
    ⟨.un .not (.l 6), none, some ((.l 3), true)⟩,
    ⟨.pick (.l 3) (.l 7) (.c (.b false)), none, none⟩,
    ⟨.mov (.l 8), none, none⟩,
    ⟨.lld (.sl 4) 3 true, none, some ((.l 9), true)⟩,
    ⟨.lld (.sl 2) 11 true, none, some ((.l 9), true)⟩,
    ⟨.call 10 [(.l 10), (.l 11), (.c (.i .i64 7))], none, some ((.l 9), true)⟩,
    ⟨.un .not (.l 12), none, some ((.l 9), true)⟩,
    ⟨.pick (.l 9) (.l 13) (.c (.b false)), none, none⟩,
    ⟨.mov (.l 14), none, none⟩,
    ⟨.lld (.sl 4) 3 true, none, some ((.l 15), true)⟩,
    ⟨.lld (.sl 3) 11 true, none, some ((.l 15), true)⟩,
    ⟨.call 10 [(.l 16), (.l 17), (.c (.i .i64 7))], none, some ((.l 15), true)⟩,
    ⟨.un .not (.l 18), none, some ((.l 15), true)⟩,
    ⟨.pick (.l 15) (.l 19) (.c (.b false)), none, none⟩,
    ⟨.mov (.l 20), none, none⟩,
    ⟨.lld (.sl 4) 3 true, none, some ((.l 21), true)⟩,
    ⟨.lld (.sl 5) 24 true, none, some ((.l 21), true)⟩,
    ⟨.call 12 [(.l 22), (.l 23), (.c (.i .i64 0))], none, some ((.l 21), true)⟩,
    ⟨.un .not (.l 24), none, some ((.l 21), true)⟩,
    ⟨.pick (.l 21) (.l 25) (.c (.b false)), none, none⟩,
    ⟨.mov (.l 26), none, none⟩,
    ⟨.lld (.sl 4) 3 true, none, some ((.l 27), true)⟩,
    ⟨.lld (.sl 6) 24 true, none, some ((.l 27), true)⟩,
    ⟨.call 12 [(.l 28), (.l 29), (.c (.i .i64 0))], none, some ((.l 27), true)⟩,
    ⟨.pick (.l 27) (.l 30) (.c (.b false)), none, none⟩,
    ⟨.mov (.l 31), none, none⟩,
    ⟨.lld (.sl 4) 3 true, none, some ((.l 32), true)⟩,
    ⟨.agc [(.i .i64 0), (.i .i64 0), (.i .i64 0), (.b false), .nil, (.b false), .nil] [], none, some ((.l 32), true)⟩,
    ⟨.call 14 [(.l 33), (.c (.s [116])), (.l 34), (.c (.i .i64 0))], none, some ((.l 32), true)⟩,
    ⟨.pick (.l 32) (.l 35) (.c (.b false)), none, none⟩,
    ⟨.mov (.l 36), none, none⟩,
    ⟨.lld (.sl 4) 3 true, none, some ((.l 37), true)⟩,
    ⟨.agc [(.i .i64 0), (.i .i64 0), (.i .i64 0), (.b false), .nil, (.b false), .nil] [], none, some ((.l 37), true)⟩,
    ⟨.call 14 [(.l 38), (.c (.s [117])), (.l 39), (.c (.i .i64 0))], none, some ((.l 37), true)⟩,
    ⟨.un .not (.l 40), none, some ((.l 37), true)⟩,
    ⟨.pick (.l 37) (.l 41) (.c (.b false)), none, none⟩,
    ⟨.mov (.l 42), none, none⟩,
    ⟨.mov (.s 7), none, some ((.l 43), true)⟩,
    ⟨.bin .eql (.l 44) (.c (.i .i64 0)), none, some ((.l 43), true)⟩,
    ⟨.pick (.l 43) (.l 45) (.c (.b false)), none, none⟩,
    ⟨.mov (.l 46), none, none⟩,
    ⟨.mov (.s 8), none, some ((.l 47), true)⟩,
    ⟨.agc [(.i .i64 0), (.i .i64 0)] [(0, 1, (.c (.i .i64 50))), (1, 1, (.c (.i .i64 90)))], none, some ((.l 47), true)⟩,
    ⟨.agc [(.i .i64 0), (.i .i64 0)] [(0, 1, (.c (.i .i64 100))), (1, 1, (.c (.i .i64 101)))], none, some ((.l 47), true)⟩,
    ⟨.bsv 2 2 [(.i .i64 0), (.i .i64 0)] [(0, (.l 49)), (1, (.l 50))], none, some ((.l 47), true)⟩,
    ⟨.call 20 [(.l 48), (.l 51)], none, some ((.l 47), true)⟩,
    ⟨.pick (.l 47) (.l 52) (.c (.b false)), none, none⟩,
    ⟨.mov (.l 53), some 0, none⟩] none)
  .ret))))))))), true⟩

def tm8 : List Nat := [0, 2, 3, 4, 1, 5, 6, 8, 7]
def bs8 : List Nat := [1, 2, 3, 4, 5, 6]

-- annuitant/annuitantlaw25.converted
def v9l0 : VCode :=
  (.seq (.reg [⟨.bin .lss (.s 5) (.s 6), some 2, none⟩] none)
  (.seq (.cond (.s 2) .skip
  (.exit 0))
  (.seq (.block 1 (.seq (.reg [⟨.iad (.s 7) (.s 5) 2, none, none⟩,
     ⟨.ld (.l 0) 2 true, none, none⟩,
     ⟨.lal [(.s []), (.i .i64 0)], some 9, none⟩,
     ⟨.lst (.sl 9) (.l 1) 2, none, none⟩] none)
   (.reg [⟨.lfa (.sl 8) 0, none, none⟩,
     ⟨.lld (.lo 0) 1 false, none, none⟩,
     ⟨.lld (.sl 9) 2 true, none, none⟩,
     ⟨.bsv 2 1 [(.s []), (.i .i64 0)] [(0, (.l 2))], none, none⟩,
     ⟨.app (.l 1) (.l 3) 2 24 true, none, none⟩,
     ⟨.lfa (.sl 8) 0, none, none⟩,
     ⟨.lst (.lo 5) (.l 4) 1, none, none⟩] none)))
  (.reg [⟨.bin .add (.s 5) (.c (.i .i64 1)), none, none⟩,
    ⟨.mov (.l 0), some 5, none⟩] none))))
def v9l1 : VCode :=
  (.seq (.reg [⟨.bin .lss (.s 10) (.s 11), some 3, none⟩] none)
  (.seq (.cond (.s 3) .skip
  (.exit 2))
  (.seq (.block 3 (.seq (.reg [⟨.iad (.s 12) (.s 10) 3, none, none⟩,
     ⟨.ld (.l 0) 3 true, none, none⟩,
     ⟨.lal [(.s []), (.i .i64 0), (.i .i64 0)], some 13, none⟩,
     ⟨.lst (.sl 13) (.l 1) 3, none, none⟩] none)
   (.reg [⟨.lfa (.sl 8) 1, none, none⟩,
     ⟨.lld (.lo 0) 1 false, none, none⟩,
     ⟨.lld (.sl 13) 3 true, none, none⟩,
     ⟨.bsv 3 1 [(.s []), (.i .i64 0), (.i .i64 0)] [(0, (.l 2))], none, none⟩,
     ⟨.app (.l 1) (.l 3) 3 32 true, none, none⟩,
     ⟨.lfa (.sl 8) 1, none, none⟩,
     ⟨.lst (.lo 5) (.l 4) 1, none, none⟩] none)))
  (.reg [⟨.bin .add (.s 10) (.c (.i .i64 1)), none, none⟩,
    ⟨.mov (.l 0), some 10, none⟩] none))))
def v9 : VFunc :=
  ⟨1, 14, [.bx 1 3 true],
  (.seq (.reg [⟨.lbx (.s 0) 3, some 4, none⟩,
    ⟨.lal [.nil, .nil, .nil], some 1, none⟩] none)
  (.seq (.reg [⟨.bsl 1 0 [(.s [])] [] true, none, none⟩,
    ⟨.lfa (.sl 4) 2, none, none⟩,
    ⟨.lld (.lo 1) 1 false, none, none⟩,
    ⟨.app (.l 0) (.l 2) 1 16 true, none, none⟩,
    ⟨.agc [.nil, .nil, .nil] [(2, 1, (.l 3))], none, none⟩,
    ⟨.lal [.nil, .nil, .nil], some 8, none⟩,
    ⟨.lst (.sl 8) (.l 4) 3, none, none⟩] none)
  (.seq (.seq (.reg [⟨.lfa (.sl 4) 0, none, none⟩,
    ⟨.lld (.lo 0) 1 false, some 7, none⟩,
    ⟨.len 1 (.s 7), some 6, none⟩,
    ⟨.mov (.c (.i .i64 0)), some 5, none⟩] none)
  (.block 0 (.loop v9l0)))
  (.seq (.seq (.reg [⟨.lfa (.sl 4) 1, none, none⟩,
    ⟨.lld (.lo 0) 1 false, some 12, none⟩,
    ⟨.len 1 (.s 12), some 11, none⟩,
    ⟨.mov (.c (.i .i64 0)), some 10, none⟩] none)
  (.block 2 (.loop v9l1)))
  (.seq (.reg [⟨.lld (.sl 8) 3 true, none, none⟩,
    ⟨.lst (.sl 1) (.l 0) 3, none, none⟩] none)
  .ret))))), true⟩

def tm9 : List Nat := [0, 2, 17, 31, 1, 16, 15, 14, 3, 5, 30, 29, 28, 7]
def bs9 : List Nat := [1, 4, 8, 9, 13]

-- annuitant/depend.Fact
def v10 : VFunc :=
  ⟨3, 6, [.s 3],
  (.seq (.reg [⟨.lbx (.s 0) 3, some 5, none⟩,
    ⟨.hbx (.s 1) 11, some 4, none⟩,
    ⟨.mov (.c (.b false)), some 3, none⟩] none)
  (.seq (.reg [⟨.fad (.s 4) 3, none, none⟩,
    ⟨.ld (.l 0) 1 false, none, none⟩,
    ⟨.mov (.s 2), none, none⟩,
    ⟨.bin .leq (.l 1) (.l 2), none, none⟩,
    ⟨.mov (.l 3), none, none⟩,
    ⟨.lfa (.sl 5) 1, none, some ((.l 4), true)⟩,
    ⟨.lld (.lo 5) 1 false, none, some ((.l 4), true)⟩,
    ⟨.mkf (.func 31) [] [(.s 4)], none, some ((.l 4), true)⟩,
    ⟨.call 30 [(.l 6), (.l 7)], none, some ((.l 4), true)⟩,
    ⟨.pick (.l 4) (.l 8) (.c (.b false)), none, none⟩,
    ⟨.mov (.l 9), some 3, none⟩] none)
  .ret)), true⟩

def tm10 : List Nat := [0, 1, 2, 6, 4, 3]
def bs10 : List Nat := [5]

-- annuitant/annuitantref25.Fact
def v11l0 : VCode :=
  (.seq (.seq (.reg [⟨.mov (.s 9), none, none⟩,
    ⟨.lfa (.sl 10) 1, none, none⟩,
    ⟨.lld (.lo 1) 1 false, none, none⟩,
    ⟨.len 1 (.l 2), none, none⟩,
    ⟨.bin .lss (.l 0) (.l 3), some 5, none⟩] none)
  (.cond (.s 5) .skip
  (.exit 0)))
  (.seq (.block 1 (.seq (.reg [⟨.lfa (.sl 10) 1, none, none⟩,
     ⟨.lld (.lo 0) 1 false, none, none⟩,
     ⟨.mov (.s 9), none, none⟩,
     ⟨.iad (.l 1) (.l 2) 3, none, none⟩,
     ⟨.ld (.l 3) 3 true, none, none⟩,
     ⟨.lal [(.s []), (.i .i64 0), (.i .i64 0)], some 11, none⟩,
     ⟨.lst (.sl 11) (.l 4) 3, none, none⟩] none)
   (.seq (.reg [⟨.lfa (.sl 11) 1, none, none⟩,
     ⟨.lld (.lo 0) 1 false, none, none⟩,
     ⟨.mov (.l 1), some 12, none⟩] none)
   (.seq (.seq (.reg [⟨.lfa (.sl 8) 1, none, none⟩,
     ⟨.lld (.lo 0) 1 false, none, none⟩,
     ⟨.mov (.s 12), none, none⟩,
     ⟨.bin .gtr (.l 1) (.l 2), some 6, none⟩] none)
   (.cond (.s 6) (.reg [⟨.lfa (.sl 8) 1, none, none⟩,
      ⟨.lld (.lo 0) 1 false, none, none⟩,
      ⟨.mov (.l 1), some 12, none⟩] none)
   .skip))
   (.seq (.reg [⟨.lfa (.sl 11) 0, none, none⟩,
     ⟨.lld (.lo 0) 1 false, none, none⟩,
     ⟨.lfa (.sl 8) 0, none, none⟩,
     ⟨.lld (.lo 2) 1 false, none, none⟩,
     ⟨.bin .eql (.l 1) (.l 3), none, none⟩,
     ⟨.mov (.l 4), none, none⟩,
     ⟨.mov (.s 12), none, some ((.l 5), true)⟩,
     ⟨.lfa (.sl 11) 2, none, some ((.l 5), true)⟩,
     ⟨.lld (.lo 7) 1 false, none, some ((.l 5), true)⟩,
     ⟨.bin .lss (.l 6) (.l 8), none, some ((.l 5), true)⟩,
     ⟨.pick (.l 5) (.l 9) (.c (.b false)), none, none⟩,
     ⟨.mov (.l 10), none, none⟩,
     ⟨.mov (.s 12), none, some ((.l 11), true)⟩,
     ⟨.lfa (.sl 8) 2, none, some ((.l 11), true)⟩,
     ⟨.lld (.lo 13) 1 false, none, some ((.l 11), true)⟩,
     ⟨.bin .lss (.l 12) (.l 14), none, some ((.l 11), true)⟩,
     ⟨.pick (.l 11) (.l 15) (.c (.b false)), some 7, none⟩] none)
   (.cond (.s 7) (.seq (.reg [⟨.mov (.c (.b true)), some 3, none⟩] none)
    .ret)
   .skip))))))
  (.reg [⟨.mov (.s 9), none, none⟩,
    ⟨.bin .add (.l 0) (.c (.i .i64 1)), none, none⟩,
    ⟨.mov (.l 1), some 9, none⟩] none)))
def v11 : VFunc :=
  ⟨3, 13, [.s 3],
  (.seq (.reg [⟨.lbx (.s 0) 3, some 10, none⟩,
    ⟨.lbx (.s 1) 11, some 8, none⟩,
    ⟨.mov (.c (.b false)), some 3, none⟩] none)
  (.seq (.seq (.reg [⟨.lfa (.sl 8) 3, none, none⟩,
    ⟨.lld (.lo 0) 1 false, none, none⟩,
    ⟨.mov (.s 2), none, none⟩,
    ⟨.bin .gtr (.l 1) (.l 2), some 4, none⟩] none)
  (.cond (.s 4) (.seq (.reg [⟨.mov (.c (.b false)), some 3, none⟩] none)
   .ret)
  .skip))
  (.seq (.seq (.reg [⟨.mov (.c (.i .i64 0)), some 9, none⟩] none)
  (.block 0 (.loop v11l0)))
  (.seq (.reg [⟨.mov (.c (.b false)), some 3, none⟩] none)
  .ret)))), true⟩

def tm11 : List Nat := [0, 1, 2, 6, 13, 18, 31, 50, 4, 7, 3, 8, 9]
def bs11 : List Nat := [8, 10, 11]

-- annuitant/depend.Clause
def v12 : VFunc :=
  ⟨3, 6, [.s 3],
  (.seq (.reg [⟨.lbx (.s 0) 3, some 5, none⟩,
    ⟨.hbx (.s 1) 24, some 4, none⟩,
    ⟨.mov (.c (.b false)), some 3, none⟩] none)
  (.seq (.reg [⟨.fad (.s 4) 4, none, none⟩,
    ⟨.ld (.l 0) 1 false, none, none⟩,
    ⟨.mov (.s 2), none, none⟩,
    ⟨.bin .leq (.l 1) (.l 2), none, none⟩,
    ⟨.mov (.l 3), none, none⟩,
    ⟨.lfa (.sl 5) 0, none, some ((.l 4), true)⟩,
    ⟨.lld (.lo 5) 1 false, none, some ((.l 4), true)⟩,
    ⟨.mkf (.func 33) [] [(.s 4)], none, some ((.l 4), true)⟩,
    ⟨.call 32 [(.l 6), (.l 7)], none, some ((.l 4), true)⟩,
    ⟨.pick (.l 4) (.l 8) (.c (.b false)), none, none⟩,
    ⟨.mov (.l 9), some 3, none⟩] none)
  .ret)), true⟩

def tm12 : List Nat := [0, 1, 2, 6, 4, 3]
def bs12 : List Nat := [5]

-- annuitant/annuitantref25.Clause
def v13l0 : VCode :=
  (.seq (.seq (.reg [⟨.mov (.s 8), none, none⟩,
    ⟨.lfa (.sl 9) 0, none, none⟩,
    ⟨.lld (.lo 1) 1 false, none, none⟩,
    ⟨.len 1 (.l 2), none, none⟩,
    ⟨.bin .lss (.l 0) (.l 3), some 5, none⟩] none)
  (.cond (.s 5) .skip
  (.exit 0)))
  (.seq (.block 1 (.seq (.reg [⟨.lfa (.sl 9) 0, none, none⟩,
     ⟨.lld (.lo 0) 1 false, none, none⟩,
     ⟨.mov (.s 8), none, none⟩,
     ⟨.iad (.l 1) (.l 2) 2, none, none⟩,
     ⟨.fad (.l 3) 0, none, none⟩,
     ⟨.ld (.l 4) 1 false, none, none⟩,
     ⟨.lfa (.sl 7) 0, none, none⟩,
     ⟨.lld (.lo 6) 1 false, none, none⟩,
     ⟨.bin .eql (.l 5) (.l 7), none, none⟩,
     ⟨.mov (.l 8), none, none⟩,
     ⟨.lfa (.sl 9) 0, none, some ((.l 9), true)⟩,
     ⟨.lld (.lo 10) 1 false, none, some ((.l 9), true)⟩,
     ⟨.mov (.s 8), none, some ((.l 9), true)⟩,
     ⟨.iad (.l 11) (.l 12) 2, none, some ((.l 9), true)⟩,
     ⟨.fad (.l 13) 1, none, some ((.l 9), true)⟩,
     ⟨.ld (.l 14) 1 false, none, some ((.l 9), true)⟩,
     ⟨.lfa (.sl 7) 2, none, some ((.l 9), true)⟩,
     ⟨.lld (.lo 16) 1 false, none, some ((.l 9), true)⟩,
     ⟨.bin .geq (.l 15) (.l 17), none, some ((.l 9), true)⟩,
     ⟨.pick (.l 9) (.l 18) (.c (.b false)), none, none⟩,
     ⟨.mov (.l 19), none, none⟩,
     ⟨.lfa (.sl 9) 0, none, some ((.l 20), true)⟩,
     ⟨.lld (.lo 21) 1 false, none, some ((.l 20), true)⟩,
     ⟨.mov (.s 8), none, some ((.l 20), true)⟩,
     ⟨.iad (.l 22) (.l 23) 2, none, some ((.l 20), true)⟩,
     ⟨.fad (.l 24) 1, none, some ((.l 20), true)⟩,
     ⟨.ld (.l 25) 1 false, none, some ((.l 20), true)⟩,
     ⟨.lfa (.sl 7) 3, none, some ((.l 20), true)⟩,
     ⟨.lld (.lo 27) 1 false, none, some ((.l 20), true)⟩,
     ⟨.bin .lss (.l 26) (.l 28), none, some ((.l 20), true)⟩,
     ⟨.pick (.l 20) (.l 29) (.c (.b false)), some 6, none⟩] (some false))
   (.cond (.s 6) (.seq (.reg [⟨.mov (.c (.b true)), some 3, none⟩] none)
    .ret)
   .skip)))
  (.reg [⟨.mov (.s 8), none, none⟩,
    ⟨.bin .add (.l 0) (.c (.i .i64 1)), none, none⟩,
    ⟨.mov (.l 1), some 8, none⟩] none)))
def v13 : VFunc :=
  ⟨3, 10, [.s 3],
  (.seq (.reg [⟨.lbx (.s 0) 3, some 9, none⟩,
    ⟨.lbx (.s 1) 24, some 7, none⟩,
    ⟨.mov (.c (.b false)), some 3, none⟩] none)
  (.seq (.seq (.reg [⟨.lfa (.sl 7) 4, none, none⟩,
    ⟨.lld (.lo 0) 1 false, none, none⟩,
    ⟨.mov (.s 2), none, none⟩,
    ⟨.bin .gtr (.l 1) (.l 2), some 4, none⟩] none)
  (.cond (.s 4) (.seq (.reg [⟨.mov (.c (.b false)), some 3, none⟩] none)
   .ret)
  .skip))
  (.seq (.seq (.reg [⟨.mov (.c (.i .i64 0)), some 8, none⟩] none)
  (.block 0 (.loop v13l0)))
  (.seq (.reg [⟨.mov (.c (.b false)), some 3, none⟩] none)
  .ret)))), true⟩

def tm13 : List Nat := [0, 1, 2, 6, 11, 16, 49, 4, 7, 3]
def bs13 : List Nat := [7, 9]

-- annuitant/depend.Row
def v14 : VFunc :=
  ⟨4, 7, [.s 4],
  (.seq (.reg [⟨.lbx (.s 0) 3, some 6, none⟩,
    ⟨.lbx (.s 2) 7, some 5, none⟩,
    ⟨.mov (.c (.b false)), some 4, none⟩] none)
  (.seq (.reg [⟨.lfa (.sl 5) 2, none, none⟩,
    ⟨.lld (.lo 0) 1 false, none, none⟩,
    ⟨.mov (.s 3), none, none⟩,
    ⟨.bin .leq (.l 1) (.l 2), none, none⟩,
    ⟨.mov (.l 3), none, none⟩,
    ⟨.lfa (.sl 6) 2, none, some ((.l 4), true)⟩,
    ⟨.lld (.lo 5) 1 false, none, some ((.l 4), true)⟩,
    ⟨.mov (.s 1), none, some ((.l 4), true)⟩,
    ⟨.call 34 [(.l 6), (.l 7)], none, some ((.l 4), true)⟩,
    ⟨.pick (.l 4) (.l 8) (.c (.b false)), none, none⟩,
    ⟨.mov (.l 9), some 4, none⟩] none)
  .ret)), true⟩

def tm14 : List Nat := [0, 1, 2, 3, 8, 6, 4]
def bs14 : List Nat := [5, 6]

-- annuitant/annuitantref25.Row
def v15l0 : VCode :=
  (.seq (.seq (.reg [⟨.mov (.s 7), none, none⟩,
    ⟨.lfa (.sl 8) 2, none, none⟩,
    ⟨.lld (.lo 1) 1 false, none, none⟩,
    ⟨.len 1 (.l 2), none, none⟩,
    ⟨.bin .lss (.l 0) (.l 3), some 5, none⟩] none)
  (.cond (.s 5) .skip
  (.exit 0)))
  (.seq (.block 1 (.seq (.reg [⟨.lfa (.sl 8) 2, none, none⟩,
     ⟨.lld (.lo 0) 1 false, none, none⟩,
     ⟨.mov (.s 7), none, none⟩,
     ⟨.iad (.l 1) (.l 2) 1, none, none⟩,
     ⟨.ld (.l 3) 1 false, none, none⟩,
     ⟨.mov (.s 1), none, none⟩,
     ⟨.bin .eql (.l 4) (.l 5), none, none⟩,
     ⟨.mov (.l 6), none, none⟩,
     ⟨.lfa (.sl 9) 2, none, some ((.l 7), true)⟩,
     ⟨.lld (.lo 8) 1 false, none, some ((.l 7), true)⟩,
     ⟨.mov (.s 3), none, some ((.l 7), true)⟩,
     ⟨.bin .leq (.l 9) (.l 10), none, some ((.l 7), true)⟩,
     ⟨.pick (.l 7) (.l 11) (.c (.b false)), some 6, none⟩] none)
   (.cond (.s 6) (.seq (.reg [⟨.mov (.c (.b true)), some 4, none⟩] none)
    .ret)
   .skip)))
  (.reg [⟨.mov (.s 7), none, none⟩,
    ⟨.bin .add (.l 0) (.c (.i .i64 1)), none, none⟩,
    ⟨.mov (.l 1), some 7, none⟩] none)))
def v15 : VFunc :=
  ⟨4, 10, [.s 4],
  (.seq (.reg [⟨.lbx (.s 0) 3, some 8, none⟩,
    ⟨.lbx (.s 2) 7, some 9, none⟩,
    ⟨.mov (.c (.b false)), some 4, none⟩] none)
  (.seq (.seq (.reg [⟨.mov (.c (.i .i64 0)), some 7, none⟩] none)
  (.block 0 (.loop v15l0)))
  (.seq (.reg [⟨.mov (.c (.b false)), some 4, none⟩] none)
  .ret))), true⟩

def tm15 : List Nat := [0, 1, 2, 3, 8, 14, 29, 9, 4, 6]
def bs15 : List Nat := [8, 9]

-- annuitant/depend.Days
def v16l0 : VCode :=
  (.seq (.reg [⟨.bin .lss (.s 8) (.s 9), some 4, none⟩] none)
  (.seq (.cond (.s 4) .skip
  (.exit 0))
  (.seq (.block 1 (.seq (.reg [⟨.iad (.s 10) (.s 8) 3, none, none⟩,
     ⟨.ld (.l 0) 3 true, none, none⟩,
     ⟨.lal [(.s []), (.i .i64 0), (.i .i64 0)], some 11, none⟩,
     ⟨.lst (.sl 11) (.l 1) 3, none, none⟩] none)
   (.seq (.reg [⟨.lfa (.sl 11) 0, none, none⟩,
     ⟨.lld (.lo 0) 1 false, none, none⟩,
     ⟨.mov (.s 1), none, none⟩,
     ⟨.bin .eql (.l 1) (.l 2), none, none⟩,
     ⟨.mov (.l 3), none, none⟩,
     ⟨.lfa (.sl 11) 1, none, some ((.l 4), true)⟩,
     ⟨.lld (.lo 5) 1 false, none, some ((.l 4), true)⟩,
     ⟨.lfa (.sl 11) 2, none, some ((.l 4), true)⟩,
     ⟨.lld (.lo 7) 1 false, none, some ((.l 4), true)⟩,
     ⟨.bin .lss (.l 6) (.l 8), none, some ((.l 4), true)⟩,
     ⟨.pick (.l 4) (.l 9) (.c (.b false)), some 5, none⟩] none)
   (.cond (.s 5) (.reg [⟨.mov (.s 6), none, none⟩,
      ⟨.lfa (.sl 11) 1, none, none⟩,
      ⟨.lld (.lo 1) 1 false, none, none⟩,
      ⟨.lfa (.sl 11) 2, none, none⟩,
      ⟨.lld (.lo 3) 1 false, none, none⟩,
      ⟨.agc [(.i .i64 0), (.i .i64 0)] [(0, 1, (.l 2)), (1, 1, (.l 4))], none, none⟩,
      ⟨.bsv 2 1 [(.i .i64 0), (.i .i64 0)] [(0, (.l 5))], none, none⟩,
      ⟨.app (.l 0) (.l 6) 2 16 true, none, none⟩,
      ⟨.mov (.l 7), some 6, none⟩] none)
   .skip))))
  (.reg [⟨.bin .add (.s 8) (.c (.i .i64 1)), none, none⟩,
    ⟨.mov (.l 0), some 8, none⟩] none))))
def v16 : VFunc :=
  ⟨2, 12, [.s 2, .s 3],
  (.seq (.reg [⟨.lbx (.s 0) 3, some 7, none⟩,
    ⟨.mov (.c .nil), some 2, none⟩,
    ⟨.mov (.c (.i .i64 0)), some 3, none⟩] none)
  (.seq (.reg [⟨.mov (.c .nil), some 6, none⟩] none)
  (.seq (.seq (.reg [⟨.lfa (.sl 7) 1, none, none⟩,
    ⟨.lld (.lo 0) 1 false, some 10, none⟩,
    ⟨.len 1 (.s 10), some 9, none⟩,
    ⟨.mov (.c (.i .i64 0)), some 8, none⟩] none)
  (.block 0 (.loop v16l0)))
  (.seq (.reg [⟨.mov (.s 6), none, none⟩,
    ⟨.call 35 [(.l 0)], none, none⟩,
    ⟨.ext (.l 1) 0, none, none⟩,
    ⟨.ext (.l 1) 1, none, none⟩,
    ⟨.mov (.l 2), some 2, none⟩,
    ⟨.mov (.l 3), some 3, none⟩] none)
  .ret)))), true⟩

def tm16 : List Nat := [0, 1, 4, 5, 13, 26, 6, 2, 12, 11, 10, 8]
def bs16 : List Nat := [7, 11]

-- annuitant/annuitantlaw25.spans
def v20l0 : VCode :=
  (.seq (.reg [⟨.bin .lss (.s 6) (.s 7), some 4, none⟩] none)
  (.seq (.cond (.s 4) .skip
  (.exit 0))
  (.seq (.block 1 (.seq (.reg [⟨.mov (.s 6), none, none⟩,
     ⟨.mov (.l 0), some 8, none⟩] none)
   (.seq (.reg [⟨.mov (.s 0), none, none⟩,
     ⟨.mov (.s 8), none, none⟩,
     ⟨.iad (.l 0) (.l 1) 2, none, none⟩,
     ⟨.ld (.l 2) 2 true, none, none⟩,
     ⟨.mov (.s 1), none, none⟩,
     ⟨.mov (.s 8), none, none⟩,
     ⟨.iad (.l 4) (.l 5) 2, none, none⟩,
     ⟨.ld (.l 6) 2 true, none, none⟩,
     ⟨.eqv true (.st [1, 1]) (.l 3) (.l 7), some 5, none⟩] (some false))
   (.cond (.s 5) (.seq (.reg [⟨.mov (.c (.b false)), some 2, none⟩] none)
    .ret)
   .skip))))
  (.reg [⟨.bin .add (.s 6) (.c (.i .i64 1)), none, none⟩,
    ⟨.mov (.l 0), some 6, none⟩] none))))
def v20 : VFunc :=
  ⟨2, 9, [.s 2],
  (.seq (.reg [⟨.mov (.c (.b false)), some 2, none⟩] none)
  (.seq (.seq (.reg [⟨.mov (.s 0), none, none⟩,
    ⟨.len 1 (.l 0), none, none⟩,
    ⟨.mov (.s 1), none, none⟩,
    ⟨.len 1 (.l 2), none, none⟩,
    ⟨.bin .neq (.l 1) (.l 3), some 3, none⟩] none)
  (.cond (.s 3) (.seq (.reg [⟨.mov (.c (.b false)), some 2, none⟩] none)
   .ret)
  .skip))
  (.seq (.seq (.reg [⟨.mov (.s 0), none, none⟩,
    ⟨.len 1 (.l 0), some 7, none⟩,
    ⟨.mov (.c (.i .i64 0)), some 6, none⟩] none)
  (.block 0 (.loop v20l0)))
  (.seq (.reg [⟨.mov (.c (.b true)), some 2, none⟩] none)
  .ret)))), true⟩

def tm20 : List Nat := [0, 1, 4, 10, 14, 24, 13, 12, 5]
def bs20 : List Nat := []

-- annuitant/depend.Merge
def v21 : VFunc :=
  ⟨2, 5, [.bx 2 3 true],
  (.seq (.reg [⟨.lbx (.s 0) 3, some 3, none⟩,
    ⟨.lbx (.s 1) 3, some 4, none⟩,
    ⟨.lal [.nil, .nil, .nil], some 2, none⟩] none)
  (.seq (.reg [⟨.lfa (.sl 3) 0, none, none⟩,
    ⟨.lld (.lo 0) 1 false, none, none⟩,
    ⟨.lfa (.sl 4) 0, none, none⟩,
    ⟨.lld (.lo 2) 1 false, none, none⟩,
    ⟨.call 38 [(.l 1), (.l 3)], none, none⟩,
    ⟨.lfa (.sl 3) 1, none, none⟩,
    ⟨.lld (.lo 5) 1 false, none, none⟩,
    ⟨.lfa (.sl 4) 1, none, none⟩,
    ⟨.lld (.lo 7) 1 false, none, none⟩,
    ⟨.call 39 [(.l 6), (.l 8)], none, none⟩,
    ⟨.lfa (.sl 3) 2, none, none⟩,
    ⟨.lld (.lo 10) 1 false, none, none⟩,
    ⟨.lfa (.sl 4) 2, none, none⟩,
    ⟨.lld (.lo 12) 1 false, none, none⟩,
    ⟨.call 37 [(.l 11), (.l 13)], none, none⟩,
    ⟨.agc [.nil, .nil, .nil] [(0, 1, (.l 4)), (1, 1, (.l 9)), (2, 1, (.l 14))], none, none⟩,
    ⟨.lst (.sl 2) (.l 15) 3, none, none⟩] (some false))
  .ret)), true⟩

def tm21 : List Nat := [0, 1, 4, 2, 3]
def bs21 : List Nat := [2, 3, 4]

-- annuitant/depend.Within
def v22 : VFunc :=
  ⟨2, 5, [.s 2],
  (.seq (.reg [⟨.lbx (.s 0) 3, some 3, none⟩,
    ⟨.lbx (.s 1) 3, some 4, none⟩,
    ⟨.mov (.c (.b false)), some 2, none⟩] none)
  (.seq (.reg [⟨.lfa (.sl 3) 0, none, none⟩,
    ⟨.lld (.lo 0) 1 false, none, none⟩,
    ⟨.lfa (.sl 4) 0, none, none⟩,
    ⟨.lld (.lo 2) 1 false, none, none⟩,
    ⟨.call 40 [(.l 1), (.l 3)], none, none⟩,
    ⟨.mov (.l 4), none, none⟩,
    ⟨.lfa (.sl 3) 1, none, some ((.l 5), true)⟩,
    ⟨.lld (.lo 6) 1 false, none, some ((.l 5), true)⟩,
    ⟨.lfa (.sl 4) 1, none, some ((.l 5), true)⟩,
    ⟨.lld (.lo 8) 1 false, none, some ((.l 5), true)⟩,
    ⟨.call 41 [(.l 7), (.l 9)], none, some ((.l 5), true)⟩,
    ⟨.pick (.l 5) (.l 10) (.c (.b false)), none, none⟩,
    ⟨.mov (.l 11), none, none⟩,
    ⟨.lfa (.sl 3) 2, none, some ((.l 12), true)⟩,
    ⟨.lld (.lo 13) 1 false, none, some ((.l 12), true)⟩,
    ⟨.lfa (.sl 4) 2, none, some ((.l 12), true)⟩,
    ⟨.lld (.lo 15) 1 false, none, some ((.l 12), true)⟩,
    ⟨.call 42 [(.l 14), (.l 16)], none, some ((.l 12), true)⟩,
    ⟨.pick (.l 12) (.l 17) (.c (.b false)), none, none⟩,
    ⟨.mov (.l 18), some 2, none⟩] none)
  .ret)), true⟩

def tm22 : List Nat := [0, 1, 4, 2, 3]
def bs22 : List Nat := [3, 4]

-- annuitant/annuitantlaw25.Same
def v23l0 : VCode :=
  (.seq (.reg [⟨.bin .lss (.s 12) (.s 13), some 4, none⟩] none)
  (.seq (.cond (.s 4) .skip
  (.exit 0))
  (.seq (.block 1 (.seq (.reg [⟨.mov (.s 12), none, none⟩,
     ⟨.mov (.l 0), some 14, none⟩] none)
   (.seq (.reg [⟨.lfa (.sl 10) 0, none, none⟩,
     ⟨.lld (.lo 0) 1 false, none, none⟩,
     ⟨.mov (.s 14), none, none⟩,
     ⟨.iad (.l 1) (.l 2) 2, none, none⟩,
     ⟨.ld (.l 3) 2 true, none, none⟩,
     ⟨.lfa (.sl 11) 0, none, none⟩,
     ⟨.lld (.lo 5) 1 false, none, none⟩,
     ⟨.mov (.s 14), none, none⟩,
     ⟨.iad (.l 6) (.l 7) 2, none, none⟩,
     ⟨.ld (.l 8) 2 true, none, none⟩,
     ⟨.eqv true (.st [2, 1]) (.l 4) (.l 9), some 5, none⟩] (some false))
   (.cond (.s 5) (.seq (.reg [⟨.mov (.c (.b false)), some 2, none⟩] none)
    .ret)
   .skip))))
  (.reg [⟨.bin .add (.s 12) (.c (.i .i64 1)), none, none⟩,
    ⟨.mov (.l 0), some 12, none⟩] none))))
def v23l1 : VCode :=
  (.seq (.reg [⟨.bin .lss (.s 15) (.s 16), some 6, none⟩] none)
  (.seq (.cond (.s 6) .skip
  (.exit 2))
  (.seq (.block 3 (.seq (.reg [⟨.mov (.s 15), none, none⟩,
     ⟨.mov (.l 0), some 17, none⟩] none)
   (.seq (.reg [⟨.lfa (.sl 10) 1, none, none⟩,
     ⟨.lld (.lo 0) 1 false, none, none⟩,
     ⟨.mov (.s 17), none, none⟩,
     ⟨.iad (.l 1) (.l 2) 3, none, none⟩,
     ⟨.ld (.l 3) 3 true, none, none⟩,
     ⟨.lfa (.sl 11) 1, none, none⟩,
     ⟨.lld (.lo 5) 1 false, none, none⟩,
     ⟨.mov (.s 17), none, none⟩,
     ⟨.iad (.l 6) (.l 7) 3, none, none⟩,
     ⟨.ld (.l 8) 3 true, none, none⟩,
     ⟨.eqv true (.st [2, 1, 1]) (.l 4) (.l 9), some 7, none⟩] (some false))
   (.cond (.s 7) (.seq (.reg [⟨.mov (.c (.b false)), some 2, none⟩] none)
    .ret)
   .skip))))
  (.reg [⟨.bin .add (.s 15) (.c (.i .i64 1)), none, none⟩,
    ⟨.mov (.l 0), some 15, none⟩] none))))
def v23l2 : VCode :=
  (.seq (.reg [⟨.bin .lss (.s 18) (.s 19), some 8, none⟩] none)
  (.seq (.cond (.s 8) .skip
  (.exit 4))
  (.seq (.block 5 (.seq (.reg [⟨.mov (.s 18), none, none⟩,
     ⟨.mov (.l 0), some 20, none⟩] none)
   (.seq (.reg [⟨.lfa (.sl 10) 2, none, none⟩,
     ⟨.lld (.lo 0) 1 false, none, none⟩,
     ⟨.mov (.s 20), none, none⟩,
     ⟨.iad (.l 1) (.l 2) 1, none, none⟩,
     ⟨.ld (.l 3) 1 false, none, none⟩,
     ⟨.lfa (.sl 11) 2, none, none⟩,
     ⟨.lld (.lo 5) 1 false, none, none⟩,
     ⟨.mov (.s 20), none, none⟩,
     ⟨.iad (.l 6) (.l 7) 1, none, none⟩,
     ⟨.ld (.l 8) 1 false, none, none⟩,
     ⟨.bin .neq (.l 4) (.l 9), some 9, none⟩] (some false))
   (.cond (.s 9) (.seq (.reg [⟨.mov (.c (.b false)), some 2, none⟩] none)
    .ret)
   .skip))))
  (.reg [⟨.bin .add (.s 18) (.c (.i .i64 1)), none, none⟩,
    ⟨.mov (.l 0), some 18, none⟩] none))))
def v23 : VFunc :=
  ⟨2, 21, [.s 2],
  (.seq (.reg [⟨.lbx (.s 0) 3, some 10, none⟩,
    ⟨.lbx (.s 1) 3, some 11, none⟩,
    ⟨.mov (.c (.b false)), some 2, none⟩] none)
  (.seq (.seq (.reg [⟨.lfa (.sl 10) 0, none, none⟩,
    ⟨.lld (.lo 0) 1 false, none, none⟩,
    ⟨.len 1 (.l 1), none, none⟩,
    ⟨.lfa (.sl 11) 0, none, none⟩,
    ⟨.lld (.lo 3) 1 false, none, none⟩,
    ⟨.len 1 (.l 4), none, none⟩,
    ⟨.bin .neq (.l 2) (.l 5), none, none⟩,
    ⟨.mov (.l 6), none, none⟩,
    ⟨.lfa (.sl 10) 1, none, some ((.l 7), false)⟩,
    ⟨.lld (.lo 8) 1 false, none, some ((.l 7), false)⟩,
    ⟨.len 1 (.l 9), none, some ((.l 7), false)⟩,
    ⟨.lfa (.sl 11) 1, none, some ((.l 7), false)⟩,
    ⟨.lld (.lo 11) 1 false, none, some ((.l 7), false)⟩,
    ⟨.len 1 (.l 12), none, some ((.l 7), false)⟩,
    ⟨.bin .neq (.l 10) (.l 13), none, some ((.l 7), false)⟩,
    ⟨.pick (.l 7) (.c (.b true)) (.l 14), none, none⟩,
    ⟨.mov (.l 15), none, none⟩,
    ⟨.lfa (.sl 10) 2, none, some ((.l 16), false)⟩,
    ⟨.lld (.lo 17) 1 false, none, some ((.l 16), false)⟩,
    ⟨.len 1 (.l 18), none, some ((.l 16), false)⟩,
    ⟨.lfa (.sl 11) 2, none, some ((.l 16), false)⟩,
    ⟨.lld (.lo 20) 1 false, none, some ((.l 16), false)⟩,
    ⟨.len 1 (.l 21), none, some ((.l 16), false)⟩,
    ⟨.bin .neq (.l 19) (.l 22), none, some ((.l 16), false)⟩,
    ⟨.pick (.l 16) (.c (.b true)) (.l 23), some 3, none⟩] none)
  (.cond (.s 3) (.seq (.reg [⟨.mov (.c (.b false)), some 2, none⟩] none)
   .ret)
  .skip))
  (.seq (.seq (.reg [⟨.lfa (.sl 10) 0, none, none⟩,
    ⟨.lld (.lo 0) 1 false, none, none⟩,
    ⟨.len 1 (.l 1), some 13, none⟩,
    ⟨.mov (.c (.i .i64 0)), some 12, none⟩] none)
  (.block 0 (.loop v23l0)))
  (.seq (.seq (.reg [⟨.lfa (.sl 10) 1, none, none⟩,
    ⟨.lld (.lo 0) 1 false, none, none⟩,
    ⟨.len 1 (.l 1), some 16, none⟩,
    ⟨.mov (.c (.i .i64 0)), some 15, none⟩] none)
  (.block 2 (.loop v23l1)))
  (.seq (.seq (.reg [⟨.lfa (.sl 10) 2, none, none⟩,
    ⟨.lld (.lo 0) 1 false, none, none⟩,
    ⟨.len 1 (.l 1), some 19, none⟩,
    ⟨.mov (.c (.i .i64 0)), some 18, none⟩] none)
  (.block 4 (.loop v23l2)))
  (.seq (.reg [⟨.mov (.c (.b true)), some 2, none⟩] none)
  .ret)))))), false⟩

def tm23 : List Nat := [0, 1, 4, 32, 37, 49, 55, 67, 73, 85, 2, 3, 36, 35, 5, 54, 53, 6, 72, 71, 7]
def bs23 : List Nat := [10, 11]

-- annuitant/annuitantref25.Merge
def v24 : VFunc :=
  ⟨2, 5, [.bx 2 3 true],
  (.seq (.reg [⟨.lbx (.s 0) 3, some 3, none⟩,
    ⟨.lbx (.s 1) 3, some 4, none⟩,
    ⟨.lal [.nil, .nil, .nil], some 2, none⟩] none)
  (.seq (.reg [⟨.agc [.nil, .nil, .nil] [], none, none⟩,
    ⟨.lld (.sl 3) 3 true, none, none⟩,
    ⟨.call 43 [(.l 0), (.l 1)], none, none⟩,
    ⟨.lld (.sl 4) 3 true, none, none⟩,
    ⟨.call 43 [(.l 2), (.l 3)], none, none⟩,
    ⟨.lst (.sl 2) (.l 4) 3, none, none⟩] (some false))
  .ret)), true⟩

def tm24 : List Nat := [0, 1, 4, 2, 3]
def bs24 : List Nat := [2, 3, 4]

-- annuitant/annuitantlaw25.back
def v25l0 : VCode :=
  (.seq (.reg [⟨.bin .lss (.s 6) (.s 7), some 2, none⟩] none)
  (.seq (.cond (.s 2) .skip
  (.exit 0))
  (.seq (.block 1 (.seq (.reg [⟨.iad (.s 8) (.s 6) 2, none, none⟩,
     ⟨.ld (.l 0) 2 true, none, none⟩,
     ⟨.lal [(.s []), (.i .i64 0)], some 9, none⟩,
     ⟨.lst (.sl 9) (.l 1) 2, none, none⟩] none)
   (.reg [⟨.lfa (.sl 4) 0, none, none⟩,
     ⟨.lld (.lo 0) 1 false, none, none⟩,
     ⟨.lld (.sl 9) 2 true, none, none⟩,
     ⟨.bsv 2 1 [(.s []), (.i .i64 0)] [(0, (.l 2))], none, none⟩,
     ⟨.app (.l 1) (.l 3) 2 24 true, none, none⟩,
     ⟨.lfa (.sl 4) 0, none, none⟩,
     ⟨.lst (.lo 5) (.l 4) 1, none, none⟩] none)))
  (.reg [⟨.bin .add (.s 6) (.c (.i .i64 1)), none, none⟩,
    ⟨.mov (.l 0), some 6, none⟩] none))))
def v25l1 : VCode :=
  (.seq (.reg [⟨.bin .lss (.s 10) (.s 11), some 3, none⟩] none)
  (.seq (.cond (.s 3) .skip
  (.exit 2))
  (.seq (.block 3 (.seq (.reg [⟨.iad (.s 12) (.s 10) 3, none, none⟩,
     ⟨.ld (.l 0) 3 true, none, none⟩,
     ⟨.lal [(.s []), (.i .i64 0), (.i .i64 0)], some 13, none⟩,
     ⟨.lst (.sl 13) (.l 1) 3, none, none⟩] none)
   (.reg [⟨.lfa (.sl 4) 1, none, none⟩,
     ⟨.lld (.lo 0) 1 false, none, none⟩,
     ⟨.lld (.sl 13) 3 true, none, none⟩,
     ⟨.bsv 3 1 [(.s []), (.i .i64 0), (.i .i64 0)] [(0, (.l 2))], none, none⟩,
     ⟨.app (.l 1) (.l 3) 3 32 true, none, none⟩,
     ⟨.lfa (.sl 4) 1, none, none⟩,
     ⟨.lst (.lo 5) (.l 4) 1, none, none⟩] none)))
  (.reg [⟨.bin .add (.s 10) (.c (.i .i64 1)), none, none⟩,
    ⟨.mov (.l 0), some 10, none⟩] none))))
def v25 : VFunc :=
  ⟨1, 14, [.bx 1 3 true],
  (.seq (.reg [⟨.lbx (.s 0) 3, some 5, none⟩,
    ⟨.lal [.nil, .nil, .nil], some 1, none⟩] none)
  (.seq (.reg [⟨.lal [.nil, .nil, .nil], some 4, none⟩] none)
  (.seq (.reg [⟨.lfa (.sl 4) 2, none, none⟩,
    ⟨.lld (.lo 0) 1 false, none, none⟩,
    ⟨.lfa (.sl 5) 2, none, none⟩,
    ⟨.lld (.lo 2) 1 false, none, none⟩,
    ⟨.app (.l 1) (.l 3) 1 16 true, none, none⟩,
    ⟨.lfa (.sl 4) 2, none, none⟩,
    ⟨.lst (.lo 5) (.l 4) 1, none, none⟩] none)
  (.seq (.seq (.reg [⟨.lfa (.sl 5) 0, none, none⟩,
    ⟨.lld (.lo 0) 1 false, some 8, none⟩,
    ⟨.len 1 (.s 8), some 7, none⟩,
    ⟨.mov (.c (.i .i64 0)), some 6, none⟩] none)
  (.block 0 (.loop v25l0)))
  (.seq (.seq (.reg [⟨.lfa (.sl 5) 1, none, none⟩,
    ⟨.lld (.lo 0) 1 false, some 12, none⟩,
    ⟨.len 1 (.s 12), some 11, none⟩,
    ⟨.mov (.c (.i .i64 0)), some 10, none⟩] none)
  (.block 2 (.loop v25l1)))
  (.seq (.reg [⟨.lld (.sl 4) 3 true, none, none⟩,
    ⟨.lst (.sl 1) (.l 0) 3, none, none⟩] none)
  .ret)))))), true⟩

def tm25 : List Nat := [0, 2, 18, 32, 3, 1, 17, 16, 15, 5, 31, 30, 29, 7]
def bs25 : List Nat := [1, 4, 5, 9, 13]

-- annuitant/annuitantref25.Within
def v26l0 : VCode :=
  (.seq (.seq (.reg [⟨.mov (.s 9), none, none⟩,
    ⟨.lfa (.sl 10) 0, none, none⟩,
    ⟨.lld (.lo 1) 1 false, none, none⟩,
    ⟨.len 1 (.l 2), none, none⟩,
    ⟨.bin .lss (.l 0) (.l 3), some 3, none⟩] none)
  (.cond (.s 3) .skip
  (.exit 0)))
  (.seq (.block 1 (.seq (.reg [⟨.lld (.sl 11) 3 true, none, none⟩,
     ⟨.lfa (.sl 10) 0, none, none⟩,
     ⟨.lld (.lo 1) 1 false, none, none⟩,
     ⟨.mov (.s 9), none, none⟩,
     ⟨.iad (.l 2) (.l 3) 2, none, none⟩,
     ⟨.ld (.l 4) 2 true, none, none⟩,
     ⟨.call 44 [(.l 0), (.l 5)], none, none⟩,
     ⟨.un .not (.l 6), some 4, none⟩] (some false))
   (.cond (.s 4) (.seq (.reg [⟨.mov (.c (.b false)), some 2, none⟩] none)
    .ret)
   .skip)))
  (.reg [⟨.mov (.s 9), none, none⟩,
    ⟨.bin .add (.l 0) (.c (.i .i64 1)), none, none⟩,
    ⟨.mov (.l 1), some 9, none⟩] none)))
def v26l1 : VCode :=
  (.seq (.seq (.reg [⟨.mov (.s 12), none, none⟩,
    ⟨.lfa (.sl 10) 1, none, none⟩,
    ⟨.lld (.lo 1) 1 false, none, none⟩,
    ⟨.len 1 (.l 2), none, none⟩,
    ⟨.bin .lss (.l 0) (.l 3), some 5, none⟩] none)
  (.cond (.s 5) .skip
  (.exit 2)))
  (.seq (.block 3 (.seq (.reg [⟨.lld (.sl 11) 3 true, none, none⟩,
     ⟨.lfa (.sl 10) 1, none, none⟩,
     ⟨.lld (.lo 1) 1 false, none, none⟩,
     ⟨.mov (.s 12), none, none⟩,
     ⟨.iad (.l 2) (.l 3) 3, none, none⟩,
     ⟨.ld (.l 4) 3 true, none, none⟩,
     ⟨.call 45 [(.l 0), (.l 5)], none, none⟩,
     ⟨.un .not (.l 6), some 6, none⟩] (some false))
   (.cond (.s 6) (.seq (.reg [⟨.mov (.c (.b false)), some 2, none⟩] none)
    .ret)
   .skip)))
  (.reg [⟨.mov (.s 12), none, none⟩,
    ⟨.bin .add (.l 0) (.c (.i .i64 1)), none, none⟩,
    ⟨.mov (.l 1), some 12, none⟩] none)))
def v26l2 : VCode :=
  (.seq (.seq (.reg [⟨.mov (.s 13), none, none⟩,
    ⟨.lfa (.sl 10) 2, none, none⟩,
    ⟨.lld (.lo 1) 1 false, none, none⟩,
    ⟨.len 1 (.l 2), none, none⟩,
    ⟨.bin .lss (.l 0) (.l 3), some 7, none⟩] none)
  (.cond (.s 7) .skip
  (.exit 4)))
  (.seq (.block 5 (.seq (.reg [⟨.lld (.sl 11) 3 true, none, none⟩,
     ⟨.lfa (.sl 10) 2, none, none⟩,
     ⟨.lld (.lo 1) 1 false, none, none⟩,
     ⟨.mov (.s 13), none, none⟩,
     ⟨.iad (.l 2) (.l 3) 1, none, none⟩,
     ⟨.ld (.l 4) 1 false, none, none⟩,
     ⟨.call 46 [(.l 0), (.l 5)], none, none⟩,
     ⟨.un .not (.l 6), some 8, none⟩] (some false))
   (.cond (.s 8) (.seq (.reg [⟨.mov (.c (.b false)), some 2, none⟩] none)
    .ret)
   .skip)))
  (.reg [⟨.mov (.s 13), none, none⟩,
    ⟨.bin .add (.l 0) (.c (.i .i64 1)), none, none⟩,
    ⟨.mov (.l 1), some 13, none⟩] none)))
def v26 : VFunc :=
  ⟨2, 14, [.s 2],
  (.seq (.reg [⟨.lbx (.s 0) 3, some 10, none⟩,
    ⟨.lbx (.s 1) 3, some 11, none⟩,
    ⟨.mov (.c (.b false)), some 2, none⟩] none)
  (.seq (.seq (.reg [⟨.mov (.c (.i .i64 0)), some 9, none⟩] none)
  (.block 0 (.loop v26l0)))
  (.seq (.seq (.reg [⟨.mov (.c (.i .i64 0)), some 12, none⟩] none)
  (.block 2 (.loop v26l1)))
  (.seq (.seq (.reg [⟨.mov (.c (.i .i64 0)), some 13, none⟩] none)
  (.block 4 (.loop v26l2)))
  (.seq (.reg [⟨.mov (.c (.b true)), some 2, none⟩] none)
  .ret))))), true⟩

def tm26 : List Nat := [0, 1, 4, 12, 22, 27, 37, 42, 52, 5, 2, 3, 6, 7]
def bs26 : List Nat := [10, 11]

-- annuitant/depend.News
def v27 : VFunc :=
  ⟨5, 12, [.s 5],
  (.seq (.reg [⟨.lbx (.s 0) 4, some 11, none⟩,
    ⟨.hbx (.s 2) 3, some 9, none⟩,
    ⟨.hbx (.s 3) 1, some 8, none⟩,
    ⟨.hbx (.s 4) 1, some 10, none⟩,
    ⟨.mov (.c (.b false)), some 5, none⟩] none)
  (.seq (.seq (.reg [⟨.mov (.s 1), none, none⟩,
    ⟨.mkf (.func 48) [] [(.s 8), (.s 9), (.s 10)], none, none⟩,
    ⟨.call 47 [(.l 0), (.l 1)], some 6, none⟩] none)
  (.cond (.s 6) (.seq (.reg [⟨.mov (.c (.b true)), some 5, none⟩] none)
   .ret)
  .skip))
  (.seq (.seq (.reg [⟨.lfa (.sl 11) 3, none, none⟩,
    ⟨.lld (.lo 0) 1 false, none, none⟩,
    ⟨.mkf (.func 50) [] [(.s 8), (.s 9), (.s 10)], none, none⟩,
    ⟨.call 49 [(.l 1), (.l 2)], some 7, none⟩] none)
  (.cond (.s 7) (.seq (.reg [⟨.mov (.c (.b true)), some 5, none⟩] none)
   .ret)
  .skip))
  (.seq (.reg [⟨.lfa (.sl 11) 2, none, none⟩,
    ⟨.lld (.lo 0) 1 false, none, none⟩,
    ⟨.mkf (.func 52) [] [(.s 8), (.s 9), (.s 10)], none, none⟩,
    ⟨.call 51 [(.l 1), (.l 2)], none, none⟩,
    ⟨.mov (.l 3), some 5, none⟩] none)
  .ret)))), true⟩

def tm27 : List Nat := [0, 1, 2, 3, 4, 10, 13, 17, 8, 7, 9, 5]
def bs27 : List Nat := [11]

-- annuitant/annuitantref25.News
def v28l0 : VCode :=
  (.seq (.seq (.reg [⟨.mov (.s 11), none, none⟩,
    ⟨.mov (.s 1), none, none⟩,
    ⟨.len 1 (.l 1), none, none⟩,
    ⟨.bin .lss (.l 0) (.l 2), some 6, none⟩] none)
  (.cond (.s 6) .skip
  (.exit 0)))
  (.seq (.block 1 (.reg [⟨.mov (.s 10), none, none⟩,
     ⟨.mov (.l 0), none, none⟩,
     ⟨.mov (.s 1), none, some ((.l 1), false)⟩,
     ⟨.mov (.s 11), none, some ((.l 1), false)⟩,
     ⟨.iad (.l 2) (.l 3) 11, none, some ((.l 1), false)⟩,
     ⟨.fad (.l 4) 3, none, some ((.l 1), false)⟩,
     ⟨.ld (.l 5) 1 false, none, some ((.l 1), false)⟩,
     ⟨.mov (.s 3), none, some ((.l 1), false)⟩,
     ⟨.bin .gtr (.l 6) (.l 7), none, some ((.l 1), false)⟩,
     ⟨.mov (.l 8), none, some ((.l 1), false)⟩,
     ⟨.lld (.sl 12) 3 true, none, some ((.l 9), true)⟩,
     ⟨.mov (.s 1), none, some ((.l 9), true)⟩,
     ⟨.mov (.s 11), none, some ((.l 9), true)⟩,
     ⟨.iad (.l 11) (.l 12) 11, none, some ((.l 9), true)⟩,
     ⟨.ld (.l 13) 11 true, none, some ((.l 9), true)⟩,
     ⟨.mov (.s 4), none, some ((.l 9), true)⟩,
     ⟨.call 11 [(.l 10), (.l 14), (.l 15)], none, some ((.l 9), true)⟩,
     ⟨.pick (.l 9) (.l 16) (.c (.b false)), none, some ((.l 1), false)⟩,
     ⟨.pick (.l 1) (.c (.b true)) (.l 17), none, none⟩,
     ⟨.mov (.l 18), some 10, none⟩] (some false)))
  (.reg [⟨.mov (.s 11), none, none⟩,
    ⟨.bin .add (.l 0) (.c (.i .i64 1)), none, none⟩,
    ⟨.mov (.l 1), some 11, none⟩] none)))
def v28l1 : VCode :=
  (.seq (.seq (.reg [⟨.mov (.s 13), none, none⟩,
    ⟨.lfa (.sl 14) 3, none, none⟩,
    ⟨.lld (.lo 1) 1 false, none, none⟩,
    ⟨.len 1 (.l 2), none, none⟩,
    ⟨.bin .lss (.l 0) (.l 3), some 7, none⟩] none)
  (.cond (.s 7) .skip
  (.exit 2)))
  (.seq (.block 3 (.reg [⟨.mov (.s 10), none, none⟩,
     ⟨.mov (.l 0), none, none⟩,
     ⟨.lfa (.sl 14) 3, none, some ((.l 1), false)⟩,
     ⟨.lld (.lo 2) 1 false, none, some ((.l 1), false)⟩,
     ⟨.mov (.s 13), none, some ((.l 1), false)⟩,
     ⟨.iad (.l 3) (.l 4) 24, none, some ((.l 1), false)⟩,
     ⟨.fad (.l 5) 4, none, some ((.l 1), false)⟩,
     ⟨.ld (.l 6) 1 false, none, some ((.l 1), false)⟩,
     ⟨.mov (.s 3), none, some ((.l 1), false)⟩,
     ⟨.bin .gtr (.l 7) (.l 8), none, some ((.l 1), false)⟩,
     ⟨.mov (.l 9), none, some ((.l 1), false)⟩,
     ⟨.lld (.sl 12) 3 true, none, some ((.l 10), true)⟩,
     ⟨.lfa (.sl 14) 3, none, some ((.l 10), true)⟩,
     ⟨.lld (.lo 12) 1 false, none, some ((.l 10), true)⟩,
     ⟨.mov (.s 13), none, some ((.l 10), true)⟩,
     ⟨.iad (.l 13) (.l 14) 24, none, some ((.l 10), true)⟩,
     ⟨.ld (.l 15) 24 true, none, some ((.l 10), true)⟩,
     ⟨.mov (.s 4), none, some ((.l 10), true)⟩,
     ⟨.call 13 [(.l 11), (.l 16), (.l 17)], none, some ((.l 10), true)⟩,
     ⟨.pick (.l 10) (.l 18) (.c (.b false)), none, some ((.l 1), false)⟩,
     ⟨.pick (.l 1) (.c (.b true)) (.l 19), none, none⟩,
     ⟨.mov (.l 20), some 10, none⟩] (some false)))
  (.reg [⟨.mov (.s 13), none, none⟩,
    ⟨.bin .add (.l 0) (.c (.i .i64 1)), none, none⟩,
    ⟨.mov (.l 1), some 13, none⟩] none)))
def v28l2 : VCode :=
  (.seq (.seq (.reg [⟨.mov (.s 16), none, none⟩,
    ⟨.lfa (.sl 14) 2, none, none⟩,
    ⟨.lld (.lo 1) 1 false, none, none⟩,
    ⟨.mov (.s 15), none, none⟩,
    ⟨.iad (.l 2) (.l 3) 3, none, none⟩,
    ⟨.fad (.l 4) 2, none, none⟩,
    ⟨.ld (.l 5) 1 false, none, none⟩,
    ⟨.len 1 (.l 6), none, none⟩,
    ⟨.bin .lss (.l 0) (.l 7), some 9, none⟩] none)
  (.cond (.s 9) .skip
  (.exit 6)))
  (.seq (.block 7 (.seq (.reg [⟨.lfa (.sl 14) 2, none, none⟩,
     ⟨.lld (.lo 0) 1 false, none, none⟩,
     ⟨.mov (.s 15), none, none⟩,
     ⟨.iad (.l 1) (.l 2) 3, none, none⟩,
     ⟨.fad (.l 3) 2, none, none⟩,
     ⟨.ld (.l 4) 1 false, none, none⟩,
     ⟨.mov (.s 16), none, none⟩,
     ⟨.iad (.l 5) (.l 6) 7, none, none⟩,
     ⟨.ld (.l 7) 7 true, none, none⟩,
     ⟨.lal [(.i .i64 0), (.i .i64 0), (.i .i64 0), (.b false), .nil, (.b false), .nil], some 17, none⟩,
     ⟨.lst (.sl 17) (.l 8) 7, none, none⟩] none)
   (.reg [⟨.mov (.s 10), none, none⟩,
     ⟨.mov (.l 0), none, none⟩,
     ⟨.lfa (.sl 17) 2, none, some ((.l 1), false)⟩,
     ⟨.lld (.lo 2) 1 false, none, some ((.l 1), false)⟩,
     ⟨.mov (.s 3), none, some ((.l 1), false)⟩,
     ⟨.bin .gtr (.l 3) (.l 4), none, some ((.l 1), false)⟩,
     ⟨.mov (.l 5), none, some ((.l 1), false)⟩,
     ⟨.lld (.sl 12) 3 true, none, some ((.l 6), true)⟩,
     ⟨.lfa (.sl 14) 2, none, some ((.l 6), true)⟩,
     ⟨.lld (.lo 8) 1 false, none, some ((.l 6), true)⟩,
     ⟨.mov (.s 15), none, some ((.l 6), true)⟩,
     ⟨.iad (.l 9) (.l 10) 3, none, some ((.l 6), true)⟩,
     ⟨.fad (.l 11) 0, none, some ((.l 6), true)⟩,
     ⟨.ld (.l 12) 1 false, none, some ((.l 6), true)⟩,
     ⟨.lld (.sl 17) 7 true, none, some ((.l 6), true)⟩,
     ⟨.mov (.s 4), none, some ((.l 6), true)⟩,
     ⟨.call 15 [(.l 7), (.l 13), (.l 14), (.l 15)], none, some ((.l 6), true)⟩,
     ⟨.pick (.l 6) (.l 16) (.c (.b false)), none, some ((.l 1), false)⟩,
     ⟨.pick (.l 1) (.c (.b true)) (.l 17), none, none⟩,
     ⟨.mov (.l 18), some 10, none⟩] (some false))))
  (.reg [⟨.mov (.s 16), none, none⟩,
    ⟨.bin .add (.l 0) (.c (.i .i64 1)), none, none⟩,
    ⟨.mov (.l 1), some 16, none⟩] none)))
def v28l3 : VCode :=
  (.seq (.seq (.reg [⟨.mov (.s 15), none, none⟩,
    ⟨.lfa (.sl 14) 2, none, none⟩,
    ⟨.lld (.lo 1) 1 false, none, none⟩,
    ⟨.len 1 (.l 2), none, none⟩,
    ⟨.bin .lss (.l 0) (.l 3), some 8, none⟩] none)
  (.cond (.s 8) .skip
  (.exit 4)))
  (.seq (.block 5 (.seq (.reg [⟨.mov (.c (.i .i64 0)), some 16, none⟩] none)
   (.block 6 (.loop v28l2))))
  (.reg [⟨.mov (.s 15), none, none⟩,
    ⟨.bin .add (.l 0) (.c (.i .i64 1)), none, none⟩,
    ⟨.mov (.l 1), some 15, none⟩] none)))
def v28 : VFunc :=
  ⟨5, 18, [.s 5],
  (.seq (.reg [⟨.lbx (.s 0) 4, some 14, none⟩,
    ⟨.lbx (.s 2) 3, some 12, none⟩,
    ⟨.mov (.c (.b false)), some 5, none⟩] none)
  (.seq (.reg [⟨.mov (.c (.b false)), some 10, none⟩] none)
  (.seq (.seq (.reg [⟨.mov (.c (.i .i64 0)), some 11, none⟩] none)
  (.block 0 (.loop v28l0)))
  (.seq (.seq (.reg [⟨.mov (.c (.i .i64 0)), some 13, none⟩] none)
  (.block 2 (.loop v28l1)))
  (.seq (.seq (.reg [⟨.mov (.c (.i .i64 0)), some 15, none⟩] none)
  (.block 4 (.loop v28l3)))
  (.seq (.reg [⟨.mov (.s 10), none, none⟩,
    ⟨.mov (.l 0), some 5, none⟩] none)
  .ret)))))), true⟩

def tm28 : List Nat := [0, 1, 2, 3, 4, 10, 20, 46, 74, 85, 11, 12, 7, 13, 5, 14, 15, 16]
def bs28 : List Nat := [12, 14, 17]

-- slices.ContainsFunc[[]annuitant/eval.Read,annuitant/eval.Read]
def v30 : VFunc :=
  ⟨2, 3, [.s 2],
  (.seq (.reg [⟨.mov (.c (.b false)), some 2, none⟩] none)
  (.seq (.reg [⟨.mov (.s 0), none, none⟩,
    ⟨.mov (.s 1), none, none⟩,
    ⟨.call 57 [(.l 0), (.l 1)], none, none⟩,
    ⟨.bin .geq (.l 2) (.c (.i .i64 0)), none, none⟩,
    ⟨.mov (.l 3), some 2, none⟩] none)
  .ret)), false⟩

def tm30 : List Nat := [0, 1, 4]
def bs30 : List Nat := []

-- annuitant/depend.Fact$1
def v31 : VFunc :=
  ⟨2, 4, [.s 2],
  (.seq (.reg [⟨.lbx (.s 0) 3, some 3, none⟩,
    ⟨.mov (.c (.b false)), some 2, none⟩] none)
  (.seq (.reg [⟨.lfa (.sl 3) 0, none, none⟩,
    ⟨.lld (.lo 0) 1 false, none, none⟩,
    ⟨.fad (.s 1) 0, none, none⟩,
    ⟨.ld (.l 2) 1 false, none, none⟩,
    ⟨.bin .eql (.l 1) (.l 3), none, none⟩,
    ⟨.mov (.l 4), none, none⟩,
    ⟨.lfa (.sl 3) 1, none, some ((.l 5), true)⟩,
    ⟨.lld (.lo 6) 1 false, none, some ((.l 5), true)⟩,
    ⟨.fad (.s 1) 1, none, some ((.l 5), true)⟩,
    ⟨.ld (.l 8) 1 false, none, some ((.l 5), true)⟩,
    ⟨.mx [(.l 7), (.l 9)], none, some ((.l 5), true)⟩,
    ⟨.lfa (.sl 3) 2, none, some ((.l 5), true)⟩,
    ⟨.lld (.lo 11) 1 false, none, some ((.l 5), true)⟩,
    ⟨.fad (.s 1) 2, none, some ((.l 5), true)⟩,
    ⟨.ld (.l 13) 1 false, none, some ((.l 5), true)⟩,
    ⟨.mn [(.l 12), (.l 14)], none, some ((.l 5), true)⟩,
    ⟨.bin .lss (.l 10) (.l 15), none, some ((.l 5), true)⟩,
    ⟨.pick (.l 5) (.l 16) (.c (.b false)), none, none⟩,
    ⟨.mov (.l 17), some 2, none⟩] none)
  .ret)), false⟩

def tm31 : List Nat := [0, 1, 3, 2]
def bs31 : List Nat := [3]

-- slices.ContainsFunc[[]annuitant/eval.Pair,annuitant/eval.Pair]
def v32 : VFunc :=
  ⟨2, 3, [.s 2],
  (.seq (.reg [⟨.mov (.c (.b false)), some 2, none⟩] none)
  (.seq (.reg [⟨.mov (.s 0), none, none⟩,
    ⟨.mov (.s 1), none, none⟩,
    ⟨.call 58 [(.l 0), (.l 1)], none, none⟩,
    ⟨.bin .geq (.l 2) (.c (.i .i64 0)), none, none⟩,
    ⟨.mov (.l 3), some 2, none⟩] none)
  .ret)), false⟩

def tm32 : List Nat := [0, 1, 4]
def bs32 : List Nat := []

-- annuitant/depend.Clause$1
def v33 : VFunc :=
  ⟨2, 4, [.s 2],
  (.seq (.reg [⟨.lbx (.s 0) 2, some 3, none⟩,
    ⟨.mov (.c (.b false)), some 2, none⟩] none)
  (.seq (.reg [⟨.lfa (.sl 3) 0, none, none⟩,
    ⟨.lld (.lo 0) 1 false, none, none⟩,
    ⟨.fad (.s 1) 0, none, none⟩,
    ⟨.ld (.l 2) 1 false, none, none⟩,
    ⟨.bin .eql (.l 1) (.l 3), none, none⟩,
    ⟨.mov (.l 4), none, none⟩,
    ⟨.fad (.s 1) 2, none, some ((.l 5), true)⟩,
    ⟨.ld (.l 6) 1 false, none, some ((.l 5), true)⟩,
    ⟨.lfa (.sl 3) 1, none, some ((.l 5), true)⟩,
    ⟨.lld (.lo 8) 1 false, none, some ((.l 5), true)⟩,
    ⟨.bin .leq (.l 7) (.l 9), none, some ((.l 5), true)⟩,
    ⟨.pick (.l 5) (.l 10) (.c (.b false)), none, none⟩,
    ⟨.mov (.l 11), none, none⟩,
    ⟨.lfa (.sl 3) 1, none, some ((.l 12), true)⟩,
    ⟨.lld (.lo 13) 1 false, none, some ((.l 12), true)⟩,
    ⟨.fad (.s 1) 3, none, some ((.l 12), true)⟩,
    ⟨.ld (.l 15) 1 false, none, some ((.l 12), true)⟩,
    ⟨.bin .lss (.l 14) (.l 16), none, some ((.l 12), true)⟩,
    ⟨.pick (.l 12) (.l 17) (.c (.b false)), none, none⟩,
    ⟨.mov (.l 18), some 2, none⟩] none)
  .ret)), false⟩

def tm33 : List Nat := [0, 1, 3, 2]
def bs33 : List Nat := [3]

-- slices.Contains[[]string,string]
def v34 : VFunc :=
  ⟨2, 3, [.s 2],
  (.seq (.reg [⟨.mov (.c (.b false)), some 2, none⟩] none)
  (.seq (.reg [⟨.mov (.s 0), none, none⟩,
    ⟨.mov (.s 1), none, none⟩,
    ⟨.call 59 [(.l 0), (.l 1)], none, none⟩,
    ⟨.bin .geq (.l 2) (.c (.i .i64 0)), none, none⟩,
    ⟨.mov (.l 3), some 2, none⟩] none)
  .ret)), true⟩

def tm34 : List Nat := [0, 1, 4]
def bs34 : List Nat := []

-- annuitant/span.Make
def v35l0 : VCode :=
  (.seq (.reg [⟨.bin .lss (.s 9) (.s 10), some 3, none⟩] none)
  (.seq (.cond (.s 3) .skip
  (.exit 0))
  (.seq (.block 1 (.seq (.reg [⟨.iad (.s 11) (.s 9) 2, none, none⟩,
     ⟨.ld (.l 0) 2 true, none, none⟩,
     ⟨.lal [(.i .i64 0), (.i .i64 0)], some 12, none⟩,
     ⟨.lst (.sl 12) (.l 1) 2, none, none⟩] none)
   (.seq (.seq (.reg [⟨.lld (.sl 12) 2 true, none, none⟩,
     ⟨.call 60 [(.l 0)], none, none⟩,
     ⟨.un .not (.l 1), some 4, none⟩] none)
   (.cond (.s 4) (.seq (.reg [⟨.mov (.c .nil), some 1, none⟩,
      ⟨.mov (.c (.i .i64 2)), some 2, none⟩] none)
    .ret)
   .skip))
   (.seq (.reg [⟨.lfa (.sl 12) 0, none, none⟩,
     ⟨.lld (.lo 0) 1 false, none, none⟩,
     ⟨.lfa (.sl 12) 1, none, none⟩,
     ⟨.lld (.lo 2) 1 false, none, none⟩,
     ⟨.bin .lss (.l 1) (.l 3), some 5, none⟩] none)
   (.cond (.s 5) (.reg [⟨.mov (.s 8), none, none⟩,
      ⟨.lld (.sl 12) 2 true, none, none⟩,
      ⟨.bsv 2 1 [(.i .i64 0), (.i .i64 0)] [(0, (.l 1))], none, none⟩,
      ⟨.app (.l 0) (.l 2) 2 16 true, none, none⟩,
      ⟨.mov (.l 3), some 8, none⟩] none)
   .skip)))))
  (.reg [⟨.bin .add (.s 9) (.c (.i .i64 1)), none, none⟩,
    ⟨.mov (.l 0), some 9, none⟩] none))))
def v35l1 : VCode :=
  (.seq (.reg [⟨.bin .lss (.s 14) (.s 15), some 6, none⟩] none)
  (.seq (.cond (.s 6) .skip
  (.exit 2))
  (.seq (.block 3 (.seq (.reg [⟨.iad (.s 16) (.s 14) 2, none, none⟩,
     ⟨.ld (.l 0) 2 true, none, none⟩,
     ⟨.lal [(.i .i64 0), (.i .i64 0)], some 18, none⟩,
     ⟨.lst (.sl 18) (.l 1) 2, none, none⟩] none)
   (.seq (.reg [⟨.mov (.s 13), none, none⟩,
     ⟨.len 1 (.l 0), none, none⟩,
     ⟨.mov (.l 1), some 17, none⟩] none)
   (.seq (.reg [⟨.mov (.s 17), none, none⟩,
     ⟨.bin .gtr (.l 0) (.c (.i .i64 0)), none, none⟩,
     ⟨.mov (.l 1), none, none⟩,
     ⟨.mov (.s 13), none, some ((.l 2), true)⟩,
     ⟨.mov (.s 17), none, some ((.l 2), true)⟩,
     ⟨.bin .sub (.l 4) (.c (.i .i64 1)), none, some ((.l 2), true)⟩,
     ⟨.iad (.l 3) (.l 5) 2, none, some ((.l 2), true)⟩,
     ⟨.fad (.l 6) 1, none, some ((.l 2), true)⟩,
     ⟨.ld (.l 7) 1 false, none, some ((.l 2), true)⟩,
     ⟨.lfa (.sl 18) 0, none, some ((.l 2), true)⟩,
     ⟨.lld (.lo 9) 1 false, none, some ((.l 2), true)⟩,
     ⟨.bin .geq (.l 8) (.l 10), none, some ((.l 2), true)⟩,
     ⟨.pick (.l 2) (.l 11) (.c (.b false)), some 7, none⟩] (some false))
   (.cond (.s 7) (.reg [⟨.mov (.s 13), none, none⟩,
      ⟨.mov (.s 17), none, none⟩,
      ⟨.bin .sub (.l 1) (.c (.i .i64 1)), none, none⟩,
      ⟨.mov (.s 13), none, none⟩,
      ⟨.mov (.s 17), none, none⟩,
      ⟨.bin .sub (.l 4) (.c (.i .i64 1)), none, none⟩,
      ⟨.iad (.l 3) (.l 5) 2, none, none⟩,
      ⟨.fad (.l 6) 1, none, none⟩,
      ⟨.ld (.l 7) 1 false, none, none⟩,
      ⟨.lfa (.sl 18) 1, none, none⟩,
      ⟨.lld (.lo 9) 1 false, none, none⟩,
      ⟨.mx [(.l 8), (.l 10)], none, none⟩,
      ⟨.iad (.l 0) (.l 2) 2, none, none⟩,
      ⟨.fad (.l 12) 1, none, none⟩,
      ⟨.st (.l 13) (.l 11) 1, none, none⟩] (some false))
   (.reg [⟨.mov (.s 13), none, none⟩,
      ⟨.lld (.sl 18) 2 true, none, none⟩,
      ⟨.bsv 2 1 [(.i .i64 0), (.i .i64 0)] [(0, (.l 1))], none, none⟩,
      ⟨.app (.l 0) (.l 2) 2 16 true, none, none⟩,
      ⟨.mov (.l 3), some 13, none⟩] none))))))
  (.reg [⟨.bin .add (.s 14) (.c (.i .i64 1)), none, none⟩,
    ⟨.mov (.l 0), some 14, none⟩] none))))
def v35 : VFunc :=
  ⟨1, 19, [.s 1, .s 2],
  (.seq (.reg [⟨.mov (.c .nil), some 1, none⟩,
    ⟨.mov (.c (.i .i64 0)), some 2, none⟩] none)
  (.seq (.reg [⟨.mov (.c .nil), some 8, none⟩] none)
  (.seq (.seq (.reg [⟨.mov (.s 0), some 11, none⟩,
    ⟨.len 1 (.s 11), some 10, none⟩,
    ⟨.mov (.c (.i .i64 0)), some 9, none⟩] none)
  (.block 0 (.loop v35l0)))
  (.seq (.reg [⟨.mov (.s 8), none, none⟩,
    ⟨.call 61 [(.l 0), (.c (.fn (.func 62) [] []))], none, none⟩] none)
  (.seq (.reg [⟨.mov (.c .nil), some 13, none⟩] none)
  (.seq (.seq (.reg [⟨.mov (.s 8), some 16, none⟩,
    ⟨.len 1 (.s 16), some 15, none⟩,
    ⟨.mov (.c (.i .i64 0)), some 14, none⟩] none)
  (.block 2 (.loop v35l1)))
  (.seq (.reg [⟨.mov (.s 13), none, none⟩,
    ⟨.mov (.l 0), some 1, none⟩,
    ⟨.mov (.c (.i .i64 0)), some 2, none⟩] none)
  .ret))))))), true⟩

def tm35 : List Nat := [0, 2, 3, 14, 19, 24, 35, 52, 4, 13, 12, 11, 6, 7, 34, 33, 32, 10, 9]
def bs35 : List Nat := [12, 18]

-- annuitant/depend.once[string]
def v37l0 : VCode :=
  (.seq (.reg [⟨.bin .lss (.s 11) (.s 12), some 4, none⟩] none)
  (.seq (.cond (.s 4) .skip
  (.exit 2))
  (.seq (.block 3 (.seq (.reg [⟨.iad (.s 13) (.s 11) 1, none, none⟩,
     ⟨.ld (.l 0) 1 false, none, none⟩,
     ⟨.mov (.l 1), some 15, none⟩] none)
   (.seq (.reg [⟨.mov (.s 14), none, none⟩,
     ⟨.mov (.s 15), none, none⟩,
     ⟨.lk (.c 2) (.l 0) (.l 1) false (.b false), none, none⟩,
     ⟨.un .not (.l 2), some 5, none⟩] none)
   (.cond (.s 5) (.seq (.reg [⟨.mov (.s 14), none, none⟩,
      ⟨.mov (.s 15), none, none⟩,
      ⟨.mup (.c 2) (.l 0) (.l 1) (.c (.b true)), none, none⟩] none)
    (.reg [⟨.mov (.s 6), none, none⟩,
      ⟨.mov (.s 15), none, none⟩,
      ⟨.bsv 1 1 [(.s [])] [(0, (.l 1))], none, none⟩,
      ⟨.app (.l 0) (.l 2) 1 16 true, none, none⟩,
      ⟨.mov (.l 3), some 6, none⟩] none))
   .skip))))
  (.reg [⟨.bin .add (.s 11) (.c (.i .i64 1)), none, none⟩,
    ⟨.mov (.l 0), some 11, none⟩] none))))
def v37l1 : VCode :=
  (.seq (.reg [⟨.bin .lss (.s 7) (.s 8), some 3, none⟩] none)
  (.seq (.cond (.s 3) .skip
  (.exit 0))
  (.seq (.block 1 (.seq (.reg [⟨.iad (.s 9) (.s 7) 1, none, none⟩,
     ⟨.ld (.l 0) 1 false, none, none⟩,
     ⟨.mov (.l 1), some 10, none⟩] none)
   (.seq (.reg [⟨.mov (.s 10), some 13, none⟩,
     ⟨.len 1 (.s 13), some 12, none⟩,
     ⟨.mov (.c (.i .i64 0)), some 11, none⟩] none)
   (.block 2 (.loop v37l0)))))
  (.reg [⟨.bin .add (.s 7) (.c (.i .i64 1)), none, none⟩,
    ⟨.mov (.l 0), some 7, none⟩] none))))
def v37 : VFunc :=
  ⟨2, 16, [.s 2],
  (.seq (.reg [⟨.mov (.c .nil), some 2, none⟩] none)
  (.seq (.reg [⟨.mov (.c .nil), some 6, none⟩] none)
  (.seq (.reg [⟨.mkm, none, none⟩,
    ⟨.mov (.l 0), some 14, none⟩] none)
  (.seq (.seq (.reg [⟨.mov (.s 0), none, none⟩,
    ⟨.mov (.s 1), none, none⟩,
    ⟨.bsv 1 2 [.nil] [(0, (.l 0)), (1, (.l 1))], some 9, none⟩,
    ⟨.len 1 (.s 9), some 8, none⟩,
    ⟨.mov (.c (.i .i64 0)), some 7, none⟩] none)
  (.block 0 (.loop v37l1)))
  (.seq (.reg [⟨.mov (.s 6), none, none⟩,
    ⟨.mov (.l 0), some 2, none⟩] none)
  .ret))))), true⟩

def tm37 : List Nat := [0, 1, 4, 17, 23, 29, 5, 16, 15, 14, 8, 22, 21, 20, 6, 10]
def bs37 : List Nat := []

-- annuitant/depend.once[annuitant/eval.Pair]
def v38l0 : VCode :=
  (.seq (.reg [⟨.bin .lss (.s 11) (.s 12), some 4, none⟩] none)
  (.seq (.cond (.s 4) .skip
  (.exit 2))
  (.seq (.block 3 (.seq (.reg [⟨.iad (.s 13) (.s 11) 2, none, none⟩,
     ⟨.ld (.l 0) 2 true, none, none⟩,
     ⟨.lal [(.s []), (.i .i64 0)], some 15, none⟩,
     ⟨.lst (.sl 15) (.l 1) 2, none, none⟩] none)
   (.seq (.reg [⟨.mov (.s 14), none, none⟩,
     ⟨.lld (.sl 15) 2 true, none, none⟩,
     ⟨.lk (.st [2, 1]) (.l 0) (.l 1) false (.b false), none, none⟩,
     ⟨.un .not (.l 2), some 5, none⟩] none)
   (.cond (.s 5) (.seq (.reg [⟨.mov (.s 14), none, none⟩,
      ⟨.lld (.sl 15) 2 true, none, none⟩,
      ⟨.mup (.st [2, 1]) (.l 0) (.l 1) (.c (.b true)), none, none⟩] none)
    (.reg [⟨.mov (.s 6), none, none⟩,
      ⟨.lld (.sl 15) 2 true, none, none⟩,
      ⟨.bsv 2 1 [(.s []), (.i .i64 0)] [(0, (.l 1))], none, none⟩,
      ⟨.app (.l 0) (.l 2) 2 24 true, none, none⟩,
      ⟨.mov (.l 3), some 6, none⟩] none))
   .skip))))
  (.reg [⟨.bin .add (.s 11) (.c (.i .i64 1)), none, none⟩,
    ⟨.mov (.l 0), some 11, none⟩] none))))
def v38l1 : VCode :=
  (.seq (.reg [⟨.bin .lss (.s 7) (.s 8), some 3, none⟩] none)
  (.seq (.cond (.s 3) .skip
  (.exit 0))
  (.seq (.block 1 (.seq (.reg [⟨.iad (.s 9) (.s 7) 1, none, none⟩,
     ⟨.ld (.l 0) 1 false, none, none⟩,
     ⟨.mov (.l 1), some 10, none⟩] none)
   (.seq (.reg [⟨.mov (.s 10), some 13, none⟩,
     ⟨.len 1 (.s 13), some 12, none⟩,
     ⟨.mov (.c (.i .i64 0)), some 11, none⟩] none)
   (.block 2 (.loop v38l0)))))
  (.reg [⟨.bin .add (.s 7) (.c (.i .i64 1)), none, none⟩,
    ⟨.mov (.l 0), some 7, none⟩] none))))
def v38 : VFunc :=
  ⟨2, 16, [.s 2],
  (.seq (.reg [⟨.mov (.c .nil), some 2, none⟩] none)
  (.seq (.reg [⟨.mov (.c .nil), some 6, none⟩] none)
  (.seq (.reg [⟨.mkm, none, none⟩,
    ⟨.mov (.l 0), some 14, none⟩] none)
  (.seq (.seq (.reg [⟨.mov (.s 0), none, none⟩,
    ⟨.mov (.s 1), none, none⟩,
    ⟨.bsv 1 2 [.nil] [(0, (.l 0)), (1, (.l 1))], some 9, none⟩,
    ⟨.len 1 (.s 9), some 8, none⟩,
    ⟨.mov (.c (.i .i64 0)), some 7, none⟩] none)
  (.block 0 (.loop v38l1)))
  (.seq (.reg [⟨.mov (.s 6), none, none⟩,
    ⟨.mov (.l 0), some 2, none⟩] none)
  .ret))))), true⟩

def tm38 : List Nat := [0, 1, 4, 17, 23, 29, 5, 16, 15, 14, 8, 22, 21, 20, 6, 10]
def bs38 : List Nat := [15]

-- annuitant/depend.once[annuitant/eval.Read]
def v39l0 : VCode :=
  (.seq (.reg [⟨.bin .lss (.s 11) (.s 12), some 4, none⟩] none)
  (.seq (.cond (.s 4) .skip
  (.exit 2))
  (.seq (.block 3 (.seq (.reg [⟨.iad (.s 13) (.s 11) 3, none, none⟩,
     ⟨.ld (.l 0) 3 true, none, none⟩,
     ⟨.lal [(.s []), (.i .i64 0), (.i .i64 0)], some 15, none⟩,
     ⟨.lst (.sl 15) (.l 1) 3, none, none⟩] none)
   (.seq (.reg [⟨.mov (.s 14), none, none⟩,
     ⟨.lld (.sl 15) 3 true, none, none⟩,
     ⟨.lk (.st [2, 1, 1]) (.l 0) (.l 1) false (.b false), none, none⟩,
     ⟨.un .not (.l 2), some 5, none⟩] none)
   (.cond (.s 5) (.seq (.reg [⟨.mov (.s 14), none, none⟩,
      ⟨.lld (.sl 15) 3 true, none, none⟩,
      ⟨.mup (.st [2, 1, 1]) (.l 0) (.l 1) (.c (.b true)), none, none⟩] none)
    (.reg [⟨.mov (.s 6), none, none⟩,
      ⟨.lld (.sl 15) 3 true, none, none⟩,
      ⟨.bsv 3 1 [(.s []), (.i .i64 0), (.i .i64 0)] [(0, (.l 1))], none, none⟩,
      ⟨.app (.l 0) (.l 2) 3 32 true, none, none⟩,
      ⟨.mov (.l 3), some 6, none⟩] none))
   .skip))))
  (.reg [⟨.bin .add (.s 11) (.c (.i .i64 1)), none, none⟩,
    ⟨.mov (.l 0), some 11, none⟩] none))))
def v39l1 : VCode :=
  (.seq (.reg [⟨.bin .lss (.s 7) (.s 8), some 3, none⟩] none)
  (.seq (.cond (.s 3) .skip
  (.exit 0))
  (.seq (.block 1 (.seq (.reg [⟨.iad (.s 9) (.s 7) 1, none, none⟩,
     ⟨.ld (.l 0) 1 false, none, none⟩,
     ⟨.mov (.l 1), some 10, none⟩] none)
   (.seq (.reg [⟨.mov (.s 10), some 13, none⟩,
     ⟨.len 1 (.s 13), some 12, none⟩,
     ⟨.mov (.c (.i .i64 0)), some 11, none⟩] none)
   (.block 2 (.loop v39l0)))))
  (.reg [⟨.bin .add (.s 7) (.c (.i .i64 1)), none, none⟩,
    ⟨.mov (.l 0), some 7, none⟩] none))))
def v39 : VFunc :=
  ⟨2, 16, [.s 2],
  (.seq (.reg [⟨.mov (.c .nil), some 2, none⟩] none)
  (.seq (.reg [⟨.mov (.c .nil), some 6, none⟩] none)
  (.seq (.reg [⟨.mkm, none, none⟩,
    ⟨.mov (.l 0), some 14, none⟩] none)
  (.seq (.seq (.reg [⟨.mov (.s 0), none, none⟩,
    ⟨.mov (.s 1), none, none⟩,
    ⟨.bsv 1 2 [.nil] [(0, (.l 0)), (1, (.l 1))], some 9, none⟩,
    ⟨.len 1 (.s 9), some 8, none⟩,
    ⟨.mov (.c (.i .i64 0)), some 7, none⟩] none)
  (.block 0 (.loop v39l1)))
  (.seq (.reg [⟨.mov (.s 6), none, none⟩,
    ⟨.mov (.l 0), some 2, none⟩] none)
  .ret))))), true⟩

def tm39 : List Nat := [0, 1, 4, 17, 23, 29, 5, 16, 15, 14, 8, 22, 21, 20, 6, 10]
def bs39 : List Nat := [15]

-- annuitant/depend.within[annuitant/eval.Pair]
def v40l0 : VCode :=
  (.seq (.reg [⟨.bin .lss (.s 4) (.s 5), some 3, none⟩] none)
  (.seq (.cond (.s 3) .skip
  (.exit 0))
  (.seq (.block 1 (.seq (.reg [⟨.iad (.s 6) (.s 4) 2, none, none⟩,
     ⟨.ld (.l 0) 2 true, none, none⟩,
     ⟨.lal [(.s []), (.i .i64 0)], some 8, none⟩,
     ⟨.lst (.sl 8) (.l 1) 2, none, none⟩] none)
   (.reg [⟨.ld (.s 7) 1 false, none, none⟩,
     ⟨.lld (.sl 8) 2 true, none, none⟩,
     ⟨.mup (.st [2, 1]) (.l 0) (.l 1) (.c (.b true)), none, none⟩] none)))
  (.reg [⟨.bin .add (.s 4) (.c (.i .i64 1)), none, none⟩,
    ⟨.mov (.l 0), some 4, none⟩] none))))
def v40 : VFunc :=
  ⟨2, 9, [.s 2],
  (.seq (.reg [⟨.mov (.c (.b false)), some 2, none⟩] none)
  (.seq (.reg [⟨.mkm, none, none⟩,
    ⟨.hal [.mnil], some 7, none⟩,
    ⟨.st (.s 7) (.l 0) 1, none, none⟩] none)
  (.seq (.seq (.reg [⟨.mov (.s 1), some 6, none⟩,
    ⟨.len 1 (.s 6), some 5, none⟩,
    ⟨.mov (.c (.i .i64 0)), some 4, none⟩] none)
  (.block 0 (.loop v40l0)))
  (.seq (.reg [⟨.mov (.s 0), none, none⟩,
    ⟨.mkf (.func 67) [] [(.s 7)], none, none⟩,
    ⟨.call 32 [(.l 0), (.l 1)], none, none⟩,
    ⟨.un .not (.l 2), none, none⟩,
    ⟨.mov (.l 3), some 2, none⟩] none)
  .ret)))), true⟩

def tm40 : List Nat := [0, 1, 4, 12, 11, 10, 9, 5, 7]
def bs40 : List Nat := [8]

-- annuitant/depend.within[annuitant/eval.Read]
def v41l0 : VCode :=
  (.seq (.reg [⟨.bin .lss (.s 4) (.s 5), some 3, none⟩] none)
  (.seq (.cond (.s 3) .skip
  (.exit 0))
  (.seq (.block 1 (.seq (.reg [⟨.iad (.s 6) (.s 4) 3, none, none⟩,
     ⟨.ld (.l 0) 3 true, none, none⟩,
     ⟨.lal [(.s []), (.i .i64 0), (.i .i64 0)], some 8, none⟩,
     ⟨.lst (.sl 8) (.l 1) 3, none, none⟩] none)
   (.reg [⟨.ld (.s 7) 1 false, none, none⟩,
     ⟨.lld (.sl 8) 3 true, none, none⟩,
     ⟨.mup (.st [2, 1, 1]) (.l 0) (.l 1) (.c (.b true)), none, none⟩] none)))
  (.reg [⟨.bin .add (.s 4) (.c (.i .i64 1)), none, none⟩,
    ⟨.mov (.l 0), some 4, none⟩] none))))
def v41 : VFunc :=
  ⟨2, 9, [.s 2],
  (.seq (.reg [⟨.mov (.c (.b false)), some 2, none⟩] none)
  (.seq (.reg [⟨.mkm, none, none⟩,
    ⟨.hal [.mnil], some 7, none⟩,
    ⟨.st (.s 7) (.l 0) 1, none, none⟩] none)
  (.seq (.seq (.reg [⟨.mov (.s 1), some 6, none⟩,
    ⟨.len 1 (.s 6), some 5, none⟩,
    ⟨.mov (.c (.i .i64 0)), some 4, none⟩] none)
  (.block 0 (.loop v41l0)))
  (.seq (.reg [⟨.mov (.s 0), none, none⟩,
    ⟨.mkf (.func 68) [] [(.s 7)], none, none⟩,
    ⟨.call 30 [(.l 0), (.l 1)], none, none⟩,
    ⟨.un .not (.l 2), none, none⟩,
    ⟨.mov (.l 3), some 2, none⟩] none)
  .ret)))), true⟩

def tm41 : List Nat := [0, 1, 4, 12, 11, 10, 9, 5, 7]
def bs41 : List Nat := [8]

-- annuitant/depend.within[string]
def v42l0 : VCode :=
  (.seq (.reg [⟨.bin .lss (.s 4) (.s 5), some 3, none⟩] none)
  (.seq (.cond (.s 3) .skip
  (.exit 0))
  (.seq (.block 1 (.seq (.reg [⟨.iad (.s 6) (.s 4) 1, none, none⟩,
     ⟨.ld (.l 0) 1 false, none, none⟩,
     ⟨.mov (.l 1), some 8, none⟩] none)
   (.reg [⟨.ld (.s 7) 1 false, none, none⟩,
     ⟨.mov (.s 8), none, none⟩,
     ⟨.mup (.c 2) (.l 0) (.l 1) (.c (.b true)), none, none⟩] none)))
  (.reg [⟨.bin .add (.s 4) (.c (.i .i64 1)), none, none⟩,
    ⟨.mov (.l 0), some 4, none⟩] none))))
def v42 : VFunc :=
  ⟨2, 9, [.s 2],
  (.seq (.reg [⟨.mov (.c (.b false)), some 2, none⟩] none)
  (.seq (.reg [⟨.mkm, none, none⟩,
    ⟨.hal [.mnil], some 7, none⟩,
    ⟨.st (.s 7) (.l 0) 1, none, none⟩] none)
  (.seq (.seq (.reg [⟨.mov (.s 1), some 6, none⟩,
    ⟨.len 1 (.s 6), some 5, none⟩,
    ⟨.mov (.c (.i .i64 0)), some 4, none⟩] none)
  (.block 0 (.loop v42l0)))
  (.seq (.reg [⟨.mov (.s 0), none, none⟩,
    ⟨.mkf (.func 70) [] [(.s 7)], none, none⟩,
    ⟨.call 69 [(.l 0), (.l 1)], none, none⟩,
    ⟨.un .not (.l 2), none, none⟩,
    ⟨.mov (.l 3), some 2, none⟩] none)
  .ret)))), true⟩

def tm42 : List Nat := [0, 1, 4, 12, 11, 10, 9, 5, 7]
def bs42 : List Nat := []

-- annuitant/annuitantref25.add
def v43l0 : VCode :=
  (.seq (.seq (.reg [⟨.mov (.s 9), none, none⟩,
    ⟨.lfa (.sl 10) 0, none, none⟩,
    ⟨.lld (.lo 1) 1 false, none, none⟩,
    ⟨.len 1 (.l 2), none, none⟩,
    ⟨.bin .lss (.l 0) (.l 3), some 3, none⟩] none)
  (.cond (.s 3) .skip
  (.exit 0)))
  (.seq (.block 1 (.seq (.reg [⟨.lld (.sl 11) 3 true, none, none⟩,
     ⟨.lfa (.sl 10) 0, none, none⟩,
     ⟨.lld (.lo 1) 1 false, none, none⟩,
     ⟨.mov (.s 9), none, none⟩,
     ⟨.iad (.l 2) (.l 3) 2, none, none⟩,
     ⟨.ld (.l 4) 2 true, none, none⟩,
     ⟨.call 44 [(.l 0), (.l 5)], none, none⟩,
     ⟨.un .not (.l 6), some 4, none⟩] (some false))
   (.cond (.s 4) (.reg [⟨.bsl 2 0 [(.s []), (.i .i64 0)] [] true, none, none⟩,
      ⟨.lfa (.sl 11) 0, none, none⟩,
      ⟨.lld (.lo 1) 1 false, none, none⟩,
      ⟨.app (.l 0) (.l 2) 2 24 true, none, none⟩,
      ⟨.lfa (.sl 10) 0, none, none⟩,
      ⟨.lld (.lo 4) 1 false, none, none⟩,
      ⟨.mov (.s 9), none, none⟩,
      ⟨.iad (.l 5) (.l 6) 2, none, none⟩,
      ⟨.ld (.l 7) 2 true, none, none⟩,
      ⟨.bsv 2 1 [(.s []), (.i .i64 0)] [(0, (.l 8))], none, none⟩,
      ⟨.app (.l 3) (.l 9) 2 24 true, none, none⟩,
      ⟨.lfa (.sl 11) 0, none, none⟩,
      ⟨.lst (.lo 11) (.l 10) 1, none, none⟩] (some true))
   .skip)))
  (.reg [⟨.mov (.s 9), none, none⟩,
    ⟨.bin .add (.l 0) (.c (.i .i64 1)), none, none⟩,
    ⟨.mov (.l 1), some 9, none⟩] none)))
def v43l1 : VCode :=
  (.seq (.seq (.reg [⟨.mov (.s 12), none, none⟩,
    ⟨.lfa (.sl 10) 1, none, none⟩,
    ⟨.lld (.lo 1) 1 false, none, none⟩,
    ⟨.len 1 (.l 2), none, none⟩,
    ⟨.bin .lss (.l 0) (.l 3), some 5, none⟩] none)
  (.cond (.s 5) .skip
  (.exit 2)))
  (.seq (.block 3 (.seq (.reg [⟨.lld (.sl 11) 3 true, none, none⟩,
     ⟨.lfa (.sl 10) 1, none, none⟩,
     ⟨.lld (.lo 1) 1 false, none, none⟩,
     ⟨.mov (.s 12), none, none⟩,
     ⟨.iad (.l 2) (.l 3) 3, none, none⟩,
     ⟨.ld (.l 4) 3 true, none, none⟩,
     ⟨.call 45 [(.l 0), (.l 5)], none, none⟩,
     ⟨.un .not (.l 6), some 6, none⟩] (some false))
   (.cond (.s 6) (.reg [⟨.bsl 3 0 [(.s []), (.i .i64 0), (.i .i64 0)] [] true, none, none⟩,
      ⟨.lfa (.sl 11) 1, none, none⟩,
      ⟨.lld (.lo 1) 1 false, none, none⟩,
      ⟨.app (.l 0) (.l 2) 3 32 true, none, none⟩,
      ⟨.lfa (.sl 10) 1, none, none⟩,
      ⟨.lld (.lo 4) 1 false, none, none⟩,
      ⟨.mov (.s 12), none, none⟩,
      ⟨.iad (.l 5) (.l 6) 3, none, none⟩,
      ⟨.ld (.l 7) 3 true, none, none⟩,
      ⟨.bsv 3 1 [(.s []), (.i .i64 0), (.i .i64 0)] [(0, (.l 8))], none, none⟩,
      ⟨.app (.l 3) (.l 9) 3 32 true, none, none⟩,
      ⟨.lfa (.sl 11) 1, none, none⟩,
      ⟨.lst (.lo 11) (.l 10) 1, none, none⟩] (some true))
   .skip)))
  (.reg [⟨.mov (.s 12), none, none⟩,
    ⟨.bin .add (.l 0) (.c (.i .i64 1)), none, none⟩,
    ⟨.mov (.l 1), some 12, none⟩] none)))
def v43l2 : VCode :=
  (.seq (.seq (.reg [⟨.mov (.s 13), none, none⟩,
    ⟨.lfa (.sl 10) 2, none, none⟩,
    ⟨.lld (.lo 1) 1 false, none, none⟩,
    ⟨.len 1 (.l 2), none, none⟩,
    ⟨.bin .lss (.l 0) (.l 3), some 7, none⟩] none)
  (.cond (.s 7) .skip
  (.exit 4)))
  (.seq (.block 5 (.seq (.reg [⟨.lld (.sl 11) 3 true, none, none⟩,
     ⟨.lfa (.sl 10) 2, none, none⟩,
     ⟨.lld (.lo 1) 1 false, none, none⟩,
     ⟨.mov (.s 13), none, none⟩,
     ⟨.iad (.l 2) (.l 3) 1, none, none⟩,
     ⟨.ld (.l 4) 1 false, none, none⟩,
     ⟨.call 46 [(.l 0), (.l 5)], none, none⟩,
     ⟨.un .not (.l 6), some 8, none⟩] (some false))
   (.cond (.s 8) (.reg [⟨.bsl 1 0 [(.s [])] [] true, none, none⟩,
      ⟨.lfa (.sl 11) 2, none, none⟩,
      ⟨.lld (.lo 1) 1 false, none, none⟩,
      ⟨.app (.l 0) (.l 2) 1 16 true, none, none⟩,
      ⟨.lfa (.sl 10) 2, none, none⟩,
      ⟨.lld (.lo 4) 1 false, none, none⟩,
      ⟨.mov (.s 13), none, none⟩,
      ⟨.iad (.l 5) (.l 6) 1, none, none⟩,
      ⟨.ld (.l 7) 1 false, none, none⟩,
      ⟨.bsv 1 1 [(.s [])] [(0, (.l 8))], none, none⟩,
      ⟨.app (.l 3) (.l 9) 1 16 true, none, none⟩,
      ⟨.lfa (.sl 11) 2, none, none⟩,
      ⟨.lst (.lo 11) (.l 10) 1, none, none⟩] (some true))
   .skip)))
  (.reg [⟨.mov (.s 13), none, none⟩,
    ⟨.bin .add (.l 0) (.c (.i .i64 1)), none, none⟩,
    ⟨.mov (.l 1), some 13, none⟩] none)))
def v43 : VFunc :=
  ⟨2, 14, [.bx 2 3 true],
  (.seq (.reg [⟨.lbx (.s 0) 3, some 11, none⟩,
    ⟨.lbx (.s 1) 3, some 10, none⟩,
    ⟨.lal [.nil, .nil, .nil], some 2, none⟩] none)
  (.seq (.seq (.reg [⟨.mov (.c (.i .i64 0)), some 9, none⟩] none)
  (.block 0 (.loop v43l0)))
  (.seq (.seq (.reg [⟨.mov (.c (.i .i64 0)), some 12, none⟩] none)
  (.block 2 (.loop v43l1)))
  (.seq (.seq (.reg [⟨.mov (.c (.i .i64 0)), some 13, none⟩] none)
  (.block 4 (.loop v43l2)))
  (.seq (.reg [⟨.lld (.sl 11) 3 true, none, none⟩,
    ⟨.lst (.sl 2) (.l 0) 3, none, none⟩] none)
  .ret))))), true⟩

def tm43 : List Nat := [0, 1, 4, 12, 22, 39, 49, 66, 76, 5, 3, 2, 6, 7]
def bs43 : List Nat := [2, 10, 11]

-- annuitant/annuitantref25.HasPair
def v44l0 : VCode :=
  (.seq (.seq (.reg [⟨.mov (.s 5), none, none⟩,
    ⟨.lfa (.sl 6) 0, none, none⟩,
    ⟨.lld (.lo 1) 1 false, none, none⟩,
    ⟨.len 1 (.l 2), none, none⟩,
    ⟨.bin .lss (.l 0) (.l 3), some 3, none⟩] none)
  (.cond (.s 3) .skip
  (.exit 0)))
  (.seq (.block 1 (.seq (.reg [⟨.lfa (.sl 6) 0, none, none⟩,
     ⟨.lld (.lo 0) 1 false, none, none⟩,
     ⟨.mov (.s 5), none, none⟩,
     ⟨.iad (.l 1) (.l 2) 2, none, none⟩,
     ⟨.ld (.l 3) 2 true, none, none⟩,
     ⟨.lld (.sl 7) 2 true, none, none⟩,
     ⟨.eqv false (.st [2, 1]) (.l 4) (.l 5), some 4, none⟩] (some false))
   (.cond (.s 4) (.seq (.reg [⟨.mov (.c (.b true)), some 2, none⟩] none)
    .ret)
   .skip)))
  (.reg [⟨.mov (.s 5), none, none⟩,
    ⟨.bin .add (.l 0) (.c (.i .i64 1)), none, none⟩,
    ⟨.mov (.l 1), some 5, none⟩] none)))
def v44 : VFunc :=
  ⟨2, 8, [.s 2],
  (.seq (.reg [⟨.lbx (.s 0) 3, some 6, none⟩,
    ⟨.lbx (.s 1) 2, some 7, none⟩,
    ⟨.mov (.c (.b false)), some 2, none⟩] none)
  (.seq (.seq (.reg [⟨.mov (.c (.i .i64 0)), some 5, none⟩] none)
  (.block 0 (.loop v44l0)))
  (.seq (.reg [⟨.mov (.c (.b false)), some 2, none⟩] none)
  .ret))), true⟩

def tm44 : List Nat := [0, 1, 4, 10, 19, 5, 2, 3]
def bs44 : List Nat := [6, 7]

-- annuitant/annuitantref25.HasRead
def v45l0 : VCode :=
  (.seq (.seq (.reg [⟨.mov (.s 5), none, none⟩,
    ⟨.lfa (.sl 6) 1, none, none⟩,
    ⟨.lld (.lo 1) 1 false, none, none⟩,
    ⟨.len 1 (.l 2), none, none⟩,
    ⟨.bin .lss (.l 0) (.l 3), some 3, none⟩] none)
  (.cond (.s 3) .skip
  (.exit 0)))
  (.seq (.block 1 (.seq (.reg [⟨.lfa (.sl 6) 1, none, none⟩,
     ⟨.lld (.lo 0) 1 false, none, none⟩,
     ⟨.mov (.s 5), none, none⟩,
     ⟨.iad (.l 1) (.l 2) 3, none, none⟩,
     ⟨.ld (.l 3) 3 true, none, none⟩,
     ⟨.lld (.sl 7) 3 true, none, none⟩,
     ⟨.eqv false (.st [2, 1, 1]) (.l 4) (.l 5), some 4, none⟩] (some false))
   (.cond (.s 4) (.seq (.reg [⟨.mov (.c (.b true)), some 2, none⟩] none)
    .ret)
   .skip)))
  (.reg [⟨.mov (.s 5), none, none⟩,
    ⟨.bin .add (.l 0) (.c (.i .i64 1)), none, none⟩,
    ⟨.mov (.l 1), some 5, none⟩] none)))
def v45 : VFunc :=
  ⟨2, 8, [.s 2],
  (.seq (.reg [⟨.lbx (.s 0) 3, some 6, none⟩,
    ⟨.lbx (.s 1) 3, some 7, none⟩,
    ⟨.mov (.c (.b false)), some 2, none⟩] none)
  (.seq (.seq (.reg [⟨.mov (.c (.i .i64 0)), some 5, none⟩] none)
  (.block 0 (.loop v45l0)))
  (.seq (.reg [⟨.mov (.c (.b false)), some 2, none⟩] none)
  .ret))), true⟩

def tm45 : List Nat := [0, 1, 4, 10, 19, 5, 2, 3]
def bs45 : List Nat := [6, 7]

-- annuitant/annuitantref25.HasTable
def v46l0 : VCode :=
  (.seq (.seq (.reg [⟨.mov (.s 5), none, none⟩,
    ⟨.lfa (.sl 6) 2, none, none⟩,
    ⟨.lld (.lo 1) 1 false, none, none⟩,
    ⟨.len 1 (.l 2), none, none⟩,
    ⟨.bin .lss (.l 0) (.l 3), some 3, none⟩] none)
  (.cond (.s 3) .skip
  (.exit 0)))
  (.seq (.block 1 (.seq (.reg [⟨.lfa (.sl 6) 2, none, none⟩,
     ⟨.lld (.lo 0) 1 false, none, none⟩,
     ⟨.mov (.s 5), none, none⟩,
     ⟨.iad (.l 1) (.l 2) 1, none, none⟩,
     ⟨.ld (.l 3) 1 false, none, none⟩,
     ⟨.mov (.s 1), none, none⟩,
     ⟨.bin .eql (.l 4) (.l 5), some 4, none⟩] none)
   (.cond (.s 4) (.seq (.reg [⟨.mov (.c (.b true)), some 2, none⟩] none)
    .ret)
   .skip)))
  (.reg [⟨.mov (.s 5), none, none⟩,
    ⟨.bin .add (.l 0) (.c (.i .i64 1)), none, none⟩,
    ⟨.mov (.l 1), some 5, none⟩] none)))
def v46 : VFunc :=
  ⟨2, 7, [.s 2],
  (.seq (.reg [⟨.lbx (.s 0) 3, some 6, none⟩,
    ⟨.mov (.c (.b false)), some 2, none⟩] none)
  (.seq (.seq (.reg [⟨.mov (.c (.i .i64 0)), some 5, none⟩] none)
  (.block 0 (.loop v46l0)))
  (.seq (.reg [⟨.mov (.c (.b false)), some 2, none⟩] none)
  .ret))), true⟩

def tm46 : List Nat := [0, 1, 4, 10, 19, 5, 2]
def bs46 : List Nat := [6]

-- slices.ContainsFunc[[]annuitant/api.Fact,annuitant/api.Fact]
def v47 : VFunc :=
  ⟨2, 3, [.s 2],
  (.seq (.reg [⟨.mov (.c (.b false)), some 2, none⟩] none)
  (.seq (.reg [⟨.mov (.s 0), none, none⟩,
    ⟨.mov (.s 1), none, none⟩,
    ⟨.call 71 [(.l 0), (.l 1)], none, none⟩,
    ⟨.bin .geq (.l 2) (.c (.i .i64 0)), none, none⟩,
    ⟨.mov (.l 3), some 2, none⟩] none)
  .ret)), false⟩

def tm47 : List Nat := [0, 1, 4]
def bs47 : List Nat := []

-- annuitant/depend.News$1
def v48 : VFunc :=
  ⟨4, 6, [.s 4],
  (.seq (.reg [⟨.lbx (.s 0) 11, some 5, none⟩,
    ⟨.mov (.c (.b false)), some 4, none⟩] none)
  (.seq (.reg [⟨.lfa (.sl 5) 3, none, none⟩,
    ⟨.lld (.lo 0) 1 false, none, none⟩,
    ⟨.ld (.s 1) 1 false, none, none⟩,
    ⟨.bin .gtr (.l 1) (.l 2), none, none⟩,
    ⟨.mov (.l 3), none, none⟩,
    ⟨.ld (.s 2) 3 true, none, some ((.l 4), true)⟩,
    ⟨.lld (.sl 5) 11 true, none, some ((.l 4), true)⟩,
    ⟨.ld (.s 3) 1 false, none, some ((.l 4), true)⟩,
    ⟨.call 10 [(.l 5), (.l 6), (.l 7)], none, some ((.l 4), true)⟩,
    ⟨.pick (.l 4) (.l 8) (.c (.b false)), none, none⟩,
    ⟨.mov (.l 9), some 4, none⟩] none)
  .ret)), false⟩

def tm48 : List Nat := [0, 1, 2, 3, 5, 4]
def bs48 : List Nat := [5]

-- slices.ContainsFunc[[]annuitant/api.Clause,annuitant/api.Clause]
def v49 : VFunc :=
  ⟨2, 3, [.s 2],
  (.seq (.reg [⟨.mov (.c (.b false)), some 2, none⟩] none)
  (.seq (.reg [⟨.mov (.s 0), none, none⟩,
    ⟨.mov (.s 1), none, none⟩,
    ⟨.call 72 [(.l 0), (.l 1)], none, none⟩,
    ⟨.bin .geq (.l 2) (.c (.i .i64 0)), none, none⟩,
    ⟨.mov (.l 3), some 2, none⟩] none)
  .ret)), false⟩

def tm49 : List Nat := [0, 1, 4]
def bs49 : List Nat := []

-- annuitant/depend.News$2
def v50 : VFunc :=
  ⟨4, 6, [.s 4],
  (.seq (.reg [⟨.lbx (.s 0) 24, some 5, none⟩,
    ⟨.mov (.c (.b false)), some 4, none⟩] none)
  (.seq (.reg [⟨.lfa (.sl 5) 4, none, none⟩,
    ⟨.lld (.lo 0) 1 false, none, none⟩,
    ⟨.ld (.s 1) 1 false, none, none⟩,
    ⟨.bin .gtr (.l 1) (.l 2), none, none⟩,
    ⟨.mov (.l 3), none, none⟩,
    ⟨.ld (.s 2) 3 true, none, some ((.l 4), true)⟩,
    ⟨.lld (.sl 5) 24 true, none, some ((.l 4), true)⟩,
    ⟨.ld (.s 3) 1 false, none, some ((.l 4), true)⟩,
    ⟨.call 12 [(.l 5), (.l 6), (.l 7)], none, some ((.l 4), true)⟩,
    ⟨.pick (.l 4) (.l 8) (.c (.b false)), none, none⟩,
    ⟨.mov (.l 9), some 4, none⟩] none)
  .ret)), false⟩

def tm50 : List Nat := [0, 1, 2, 3, 5, 4]
def bs50 : List Nat := [5]

-- slices.ContainsFunc[[]annuitant/api.Table,annuitant/api.Table]
def v51 : VFunc :=
  ⟨2, 3, [.s 2],
  (.seq (.reg [⟨.mov (.c (.b false)), some 2, none⟩] none)
  (.seq (.reg [⟨.mov (.s 0), none, none⟩,
    ⟨.mov (.s 1), none, none⟩,
    ⟨.call 73 [(.l 0), (.l 1)], none, none⟩,
    ⟨.bin .geq (.l 2) (.c (.i .i64 0)), none, none⟩,
    ⟨.mov (.l 3), some 2, none⟩] none)
  .ret)), false⟩

def tm51 : List Nat := [0, 1, 4]
def bs51 : List Nat := []

-- annuitant/depend.News$3
def v52 : VFunc :=
  ⟨4, 6, [.s 4],
  (.seq (.reg [⟨.hbx (.s 0) 3, some 5, none⟩,
    ⟨.mov (.c (.b false)), some 4, none⟩] none)
  (.seq (.reg [⟨.fad (.s 5) 2, none, none⟩,
    ⟨.ld (.l 0) 1 false, none, none⟩,
    ⟨.mkf (.func 54) [] [(.s 1), (.s 2), (.s 5), (.s 3)], none, none⟩,
    ⟨.call 53 [(.l 1), (.l 2)], none, none⟩,
    ⟨.mov (.l 3), some 4, none⟩] none)
  .ret)), false⟩

def tm52 : List Nat := [0, 1, 2, 3, 5, 4]
def bs52 : List Nat := []

-- slices.ContainsFunc[[]annuitant/api.Row,annuitant/api.Row]
def v53 : VFunc :=
  ⟨2, 3, [.s 2],
  (.seq (.reg [⟨.mov (.c (.b false)), some 2, none⟩] none)
  (.seq (.reg [⟨.mov (.s 0), none, none⟩,
    ⟨.mov (.s 1), none, none⟩,
    ⟨.call 74 [(.l 0), (.l 1)], none, none⟩,
    ⟨.bin .geq (.l 2) (.c (.i .i64 0)), none, none⟩,
    ⟨.mov (.l 3), some 2, none⟩] none)
  .ret)), false⟩

def tm53 : List Nat := [0, 1, 4]
def bs53 : List Nat := []

-- annuitant/depend.News$3$1
def v54 : VFunc :=
  ⟨5, 7, [.s 5],
  (.seq (.reg [⟨.lbx (.s 0) 7, some 6, none⟩,
    ⟨.mov (.c (.b false)), some 5, none⟩] none)
  (.seq (.reg [⟨.lfa (.sl 6) 2, none, none⟩,
    ⟨.lld (.lo 0) 1 false, none, none⟩,
    ⟨.ld (.s 1) 1 false, none, none⟩,
    ⟨.bin .gtr (.l 1) (.l 2), none, none⟩,
    ⟨.mov (.l 3), none, none⟩,
    ⟨.ld (.s 2) 3 true, none, some ((.l 4), true)⟩,
    ⟨.fad (.s 3) 0, none, some ((.l 4), true)⟩,
    ⟨.ld (.l 6) 1 false, none, some ((.l 4), true)⟩,
    ⟨.lld (.sl 6) 7 true, none, some ((.l 4), true)⟩,
    ⟨.ld (.s 4) 1 false, none, some ((.l 4), true)⟩,
    ⟨.call 14 [(.l 5), (.l 7), (.l 8), (.l 9)], none, some ((.l 4), true)⟩,
    ⟨.pick (.l 4) (.l 10) (.c (.b false)), none, none⟩,
    ⟨.mov (.l 11), some 5, none⟩] none)
  .ret)), false⟩

def tm54 : List Nat := [0, 1, 2, 3, 4, 6, 5]
def bs54 : List Nat := [6]

-- slices.IndexFunc[[]annuitant/eval.Read,annuitant/eval.Read]
def v57l0 : VCode :=
  (.seq (.reg [⟨.bin .lss (.s 5) (.s 6), some 3, none⟩] none)
  (.seq (.cond (.s 3) .skip
  (.exit 0))
  (.seq (.block 1 (.seq (.reg [⟨.mov (.s 5), none, none⟩,
     ⟨.mov (.l 0), some 7, none⟩] none)
   (.seq (.reg [⟨.mov (.s 1), none, none⟩,
     ⟨.mov (.s 0), none, none⟩,
     ⟨.mov (.s 7), none, none⟩,
     ⟨.iad (.l 1) (.l 2) 3, none, none⟩,
     ⟨.ld (.l 3) 3 true, none, none⟩,
     ⟨.calv (.l 0) [(.l 4)], some 4, none⟩] none)
   (.cond (.s 4) (.seq (.reg [⟨.mov (.s 7), none, none⟩,
      ⟨.mov (.l 0), some 2, none⟩] none)
    .ret)
   .skip))))
  (.reg [⟨.bin .add (.s 5) (.c (.i .i64 1)), none, none⟩,
    ⟨.mov (.l 0), some 5, none⟩] none))))
def v57 : VFunc :=
  ⟨2, 8, [.s 2],
  (.seq (.reg [⟨.mov (.c (.i .i64 0)), some 2, none⟩] none)
  (.seq (.seq (.reg [⟨.mov (.s 0), none, none⟩,
    ⟨.len 1 (.l 0), some 6, none⟩,
    ⟨.mov (.c (.i .i64 0)), some 5, none⟩] none)
  (.block 0 (.loop v57l0)))
  (.seq (.reg [⟨.mov (.c (.i .i64 (-1))), some 2, none⟩] none)
  .ret))), false⟩

def tm57 : List Nat := [0, 1, 4, 9, 16, 8, 7, 5]
def bs57 : List Nat := []

-- slices.IndexFunc[[]annuitant/eval.Pair,annuitant/eval.Pair]
def v58l0 : VCode :=
  (.seq (.reg [⟨.bin .lss (.s 5) (.s 6), some 3, none⟩] none)
  (.seq (.cond (.s 3) .skip
  (.exit 0))
  (.seq (.block 1 (.seq (.reg [⟨.mov (.s 5), none, none⟩,
     ⟨.mov (.l 0), some 7, none⟩] none)
   (.seq (.reg [⟨.mov (.s 1), none, none⟩,
     ⟨.mov (.s 0), none, none⟩,
     ⟨.mov (.s 7), none, none⟩,
     ⟨.iad (.l 1) (.l 2) 2, none, none⟩,
     ⟨.ld (.l 3) 2 true, none, none⟩,
     ⟨.calv (.l 0) [(.l 4)], some 4, none⟩] none)
   (.cond (.s 4) (.seq (.reg [⟨.mov (.s 7), none, none⟩,
      ⟨.mov (.l 0), some 2, none⟩] none)
    .ret)
   .skip))))
  (.reg [⟨.bin .add (.s 5) (.c (.i .i64 1)), none, none⟩,
    ⟨.mov (.l 0), some 5, none⟩] none))))
def v58 : VFunc :=
  ⟨2, 8, [.s 2],
  (.seq (.reg [⟨.mov (.c (.i .i64 0)), some 2, none⟩] none)
  (.seq (.seq (.reg [⟨.mov (.s 0), none, none⟩,
    ⟨.len 1 (.l 0), some 6, none⟩,
    ⟨.mov (.c (.i .i64 0)), some 5, none⟩] none)
  (.block 0 (.loop v58l0)))
  (.seq (.reg [⟨.mov (.c (.i .i64 (-1))), some 2, none⟩] none)
  .ret))), false⟩

def tm58 : List Nat := [0, 1, 4, 9, 16, 8, 7, 5]
def bs58 : List Nat := []

-- slices.Index[[]string,string]
def v59l0 : VCode :=
  (.seq (.reg [⟨.bin .lss (.s 5) (.s 6), some 3, none⟩] none)
  (.seq (.cond (.s 3) .skip
  (.exit 0))
  (.seq (.block 1 (.seq (.reg [⟨.mov (.s 5), none, none⟩,
     ⟨.mov (.l 0), some 7, none⟩] none)
   (.seq (.reg [⟨.mov (.s 1), none, none⟩,
     ⟨.mov (.s 0), none, none⟩,
     ⟨.mov (.s 7), none, none⟩,
     ⟨.iad (.l 1) (.l 2) 1, none, none⟩,
     ⟨.ld (.l 3) 1 false, none, none⟩,
     ⟨.bin .eql (.l 0) (.l 4), some 4, none⟩] none)
   (.cond (.s 4) (.seq (.reg [⟨.mov (.s 7), none, none⟩,
      ⟨.mov (.l 0), some 2, none⟩] none)
    .ret)
   .skip))))
  (.reg [⟨.bin .add (.s 5) (.c (.i .i64 1)), none, none⟩,
    ⟨.mov (.l 0), some 5, none⟩] none))))
def v59 : VFunc :=
  ⟨2, 8, [.s 2],
  (.seq (.reg [⟨.mov (.c (.i .i64 0)), some 2, none⟩] none)
  (.seq (.seq (.reg [⟨.mov (.s 0), none, none⟩,
    ⟨.len 1 (.l 0), some 6, none⟩,
    ⟨.mov (.c (.i .i64 0)), some 5, none⟩] none)
  (.block 0 (.loop v59l0)))
  (.seq (.reg [⟨.mov (.c (.i .i64 (-1))), some 2, none⟩] none)
  .ret))), true⟩

def tm59 : List Nat := [0, 1, 4, 9, 16, 8, 7, 5]
def bs59 : List Nat := []

-- annuitant/span.isSpan
def v60 : VFunc :=
  ⟨1, 3, [.s 1],
  (.seq (.reg [⟨.lbx (.s 0) 2, some 2, none⟩,
    ⟨.mov (.c (.b false)), some 1, none⟩] none)
  (.seq (.reg [⟨.lfa (.sl 2) 0, none, none⟩,
    ⟨.lld (.lo 0) 1 false, none, none⟩,
    ⟨.bin .leq (.c (.i .i64 0)) (.l 1), none, none⟩,
    ⟨.mov (.l 2), none, none⟩,
    ⟨.lfa (.sl 2) 0, none, some ((.l 3), true)⟩,
    ⟨.lld (.lo 4) 1 false, none, some ((.l 3), true)⟩,
    ⟨.lfa (.sl 2) 1, none, some ((.l 3), true)⟩,
    ⟨.lld (.lo 6) 1 false, none, some ((.l 3), true)⟩,
    ⟨.bin .leq (.l 5) (.l 7), none, some ((.l 3), true)⟩,
    ⟨.pick (.l 3) (.l 8) (.c (.b false)), none, none⟩,
    ⟨.mov (.l 9), none, none⟩,
    ⟨.lfa (.sl 2) 1, none, some ((.l 10), true)⟩,
    ⟨.lld (.lo 11) 1 false, none, some ((.l 10), true)⟩,
    ⟨.bin .leq (.l 12) (.c (.i .i64 65536)), none, some ((.l 10), true)⟩,
    ⟨.pick (.l 10) (.l 13) (.c (.b false)), none, none⟩,
    ⟨.mov (.l 14), some 1, none⟩] none)
  .ret)), true⟩

def tm60 : List Nat := [0, 2, 1]
def bs60 : List Nat := [2]

-- slices.SortFunc[[]annuitant/api.Span,annuitant/api.Span]
def v61 : VFunc :=
  ⟨2, 3, [],
  (.seq (.reg [⟨.mov (.s 0), none, none⟩,
    ⟨.len 1 (.l 0), none, none⟩,
    ⟨.mov (.l 1), some 2, none⟩] none)
  (.reg [⟨.mov (.s 0), none, none⟩,
    ⟨.mov (.s 2), none, none⟩,
    ⟨.mov (.s 2), none, none⟩,
    ⟨.cvi .u64 (.l 2), none, none⟩,
    ⟨.call 78 [(.l 3)], none, none⟩,
    ⟨.mov (.s 1), none, none⟩,
    ⟨.call 77 [(.l 0), (.c (.i .i64 0)), (.l 1), (.l 4), (.l 5)], none, none⟩] none)), false⟩

def tm61 : List Nat := [0, 1, 4]
def bs61 : List Nat := []

-- annuitant/span.Make$1
def v62 : VFunc :=
  ⟨2, 5, [.s 2],
  (.seq (.reg [⟨.lbx (.s 0) 2, some 3, none⟩,
    ⟨.lbx (.s 1) 2, some 4, none⟩,
    ⟨.mov (.c (.i .i64 0)), some 2, none⟩] none)
  (.seq (.reg [⟨.lfa (.sl 3) 0, none, none⟩,
    ⟨.lld (.lo 0) 1 false, none, none⟩,
    ⟨.lfa (.sl 4) 0, none, none⟩,
    ⟨.lld (.lo 2) 1 false, none, none⟩,
    ⟨.call 63 [(.l 1), (.l 3)], none, none⟩,
    ⟨.mov (.l 4), some 2, none⟩] none)
  .ret)), true⟩

def tm62 : List Nat := [0, 1, 4, 2, 3]
def bs62 : List Nat := [3, 4]

-- cmp.Compare[int]
def v63 : VFunc :=
  ⟨2, 10, [.s 2],
  (.seq (.reg [⟨.mov (.c (.i .i64 0)), some 2, none⟩] none)
  (.seq (.reg [⟨.mov (.s 0), none, none⟩,
    ⟨.call 79 [(.l 0)], none, none⟩,
    ⟨.mov (.l 1), some 8, none⟩] none)
  (.seq (.reg [⟨.mov (.s 1), none, none⟩,
    ⟨.call 79 [(.l 0)], none, none⟩,
    ⟨.mov (.l 1), some 9, none⟩] none)
  (.seq (.seq (.reg [⟨.mov (.s 8), some 3, none⟩] none)
  (.cond (.s 3) (.seq (.seq (.reg [⟨.mov (.s 9), some 4, none⟩] none)
   (.cond (.s 4) (.seq (.reg [⟨.mov (.c (.i .i64 0)), some 2, none⟩] none)
    .ret)
   .skip))
   (.seq (.reg [⟨.mov (.c (.i .i64 (-1))), some 2, none⟩] none)
   .ret))
  .skip))
  (.seq (.seq (.reg [⟨.mov (.s 9), some 5, none⟩] none)
  (.cond (.s 5) (.seq (.reg [⟨.mov (.c (.i .i64 1)), some 2, none⟩] none)
   .ret)
  .skip))
  (.seq (.seq (.reg [⟨.mov (.s 0), none, none⟩,
    ⟨.mov (.s 1), none, none⟩,
    ⟨.bin .lss (.l 0) (.l 1), some 6, none⟩] none)
  (.cond (.s 6) (.seq (.reg [⟨.mov (.c (.i .i64 (-1))), some 2, none⟩] none)
   .ret)
  .skip))
  (.seq (.seq (.reg [⟨.mov (.s 0), none, none⟩,
    ⟨.mov (.s 1), none, none⟩,
    ⟨.bin .gtr (.l 0) (.l 1), some 7, none⟩] none)
  (.cond (.s 7) (.seq (.reg [⟨.mov (.c (.i .i64 1)), some 2, none⟩] none)
   .ret)
  .skip))
  (.seq (.reg [⟨.mov (.c (.i .i64 0)), some 2, none⟩] none)
  .ret)))))))), true⟩

def tm63 : List Nat := [0, 1, 4, 11, 12, 13, 16, 19, 5, 6]
def bs63 : List Nat := []

-- annuitant/depend.within[annuitant/eval.Pair]$1
def v67 : VFunc :=
  ⟨2, 4, [.s 2],
  (.seq (.reg [⟨.lbx (.s 0) 2, some 3, none⟩,
    ⟨.mov (.c (.b false)), some 2, none⟩] none)
  (.seq (.reg [⟨.ld (.s 1) 1 false, none, none⟩,
    ⟨.lld (.sl 3) 2 true, none, none⟩,
    ⟨.lk (.st [2, 1]) (.l 0) (.l 1) false (.b false), none, none⟩,
    ⟨.un .not (.l 2), none, none⟩,
    ⟨.mov (.l 3), some 2, none⟩] none)
  .ret)), false⟩

def tm67 : List Nat := [0, 1, 3, 2]
def bs67 : List Nat := [3]

-- annuitant/depend.within[annuitant/eval.Read]$1
def v68 : VFunc :=
  ⟨2, 4, [.s 2],
  (.seq (.reg [⟨.lbx (.s 0) 3, some 3, none⟩,
    ⟨.mov (.c (.b false)), some 2, none⟩] none)
  (.seq (.reg [⟨.ld (.s 1) 1 false, none, none⟩,
    ⟨.lld (.sl 3) 3 true, none, none⟩,
    ⟨.lk (.st [2, 1, 1]) (.l 0) (.l 1) false (.b false), none, none⟩,
    ⟨.un .not (.l 2), none, none⟩,
    ⟨.mov (.l 3), some 2, none⟩] none)
  .ret)), false⟩

def tm68 : List Nat := [0, 1, 3, 2]
def bs68 : List Nat := [3]

-- slices.ContainsFunc[[]string,string]
def v69 : VFunc :=
  ⟨2, 3, [.s 2],
  (.seq (.reg [⟨.mov (.c (.b false)), some 2, none⟩] none)
  (.seq (.reg [⟨.mov (.s 0), none, none⟩,
    ⟨.mov (.s 1), none, none⟩,
    ⟨.call 80 [(.l 0), (.l 1)], none, none⟩,
    ⟨.bin .geq (.l 2) (.c (.i .i64 0)), none, none⟩,
    ⟨.mov (.l 3), some 2, none⟩] none)
  .ret)), false⟩

def tm69 : List Nat := [0, 1, 4]
def bs69 : List Nat := []

-- annuitant/depend.within[string]$1
def v70 : VFunc :=
  ⟨2, 3, [.s 2],
  (.seq (.reg [⟨.mov (.c (.b false)), some 2, none⟩] none)
  (.seq (.reg [⟨.ld (.s 1) 1 false, none, none⟩,
    ⟨.mov (.s 0), none, none⟩,
    ⟨.lk (.c 2) (.l 0) (.l 1) false (.b false), none, none⟩,
    ⟨.un .not (.l 2), none, none⟩,
    ⟨.mov (.l 3), some 2, none⟩] none)
  .ret)), false⟩

def tm70 : List Nat := [0, 1, 3]
def bs70 : List Nat := []

-- slices.IndexFunc[[]annuitant/api.Fact,annuitant/api.Fact]
def v71l0 : VCode :=
  (.seq (.reg [⟨.bin .lss (.s 5) (.s 6), some 3, none⟩] none)
  (.seq (.cond (.s 3) .skip
  (.exit 0))
  (.seq (.block 1 (.seq (.reg [⟨.mov (.s 5), none, none⟩,
     ⟨.mov (.l 0), some 7, none⟩] none)
   (.seq (.reg [⟨.mov (.s 1), none, none⟩,
     ⟨.mov (.s 0), none, none⟩,
     ⟨.mov (.s 7), none, none⟩,
     ⟨.iad (.l 1) (.l 2) 11, none, none⟩,
     ⟨.ld (.l 3) 11 true, none, none⟩,
     ⟨.calv (.l 0) [(.l 4)], some 4, none⟩] none)
   (.cond (.s 4) (.seq (.reg [⟨.mov (.s 7), none, none⟩,
      ⟨.mov (.l 0), some 2, none⟩] none)
    .ret)
   .skip))))
  (.reg [⟨.bin .add (.s 5) (.c (.i .i64 1)), none, none⟩,
    ⟨.mov (.l 0), some 5, none⟩] none))))
def v71 : VFunc :=
  ⟨2, 8, [.s 2],
  (.seq (.reg [⟨.mov (.c (.i .i64 0)), some 2, none⟩] none)
  (.seq (.seq (.reg [⟨.mov (.s 0), none, none⟩,
    ⟨.len 1 (.l 0), some 6, none⟩,
    ⟨.mov (.c (.i .i64 0)), some 5, none⟩] none)
  (.block 0 (.loop v71l0)))
  (.seq (.reg [⟨.mov (.c (.i .i64 (-1))), some 2, none⟩] none)
  .ret))), false⟩

def tm71 : List Nat := [0, 1, 4, 9, 16, 8, 7, 5]
def bs71 : List Nat := []

-- slices.IndexFunc[[]annuitant/api.Clause,annuitant/api.Clause]
def v72l0 : VCode :=
  (.seq (.reg [⟨.bin .lss (.s 5) (.s 6), some 3, none⟩] none)
  (.seq (.cond (.s 3) .skip
  (.exit 0))
  (.seq (.block 1 (.seq (.reg [⟨.mov (.s 5), none, none⟩,
     ⟨.mov (.l 0), some 7, none⟩] none)
   (.seq (.reg [⟨.mov (.s 1), none, none⟩,
     ⟨.mov (.s 0), none, none⟩,
     ⟨.mov (.s 7), none, none⟩,
     ⟨.iad (.l 1) (.l 2) 24, none, none⟩,
     ⟨.ld (.l 3) 24 true, none, none⟩,
     ⟨.calv (.l 0) [(.l 4)], some 4, none⟩] none)
   (.cond (.s 4) (.seq (.reg [⟨.mov (.s 7), none, none⟩,
      ⟨.mov (.l 0), some 2, none⟩] none)
    .ret)
   .skip))))
  (.reg [⟨.bin .add (.s 5) (.c (.i .i64 1)), none, none⟩,
    ⟨.mov (.l 0), some 5, none⟩] none))))
def v72 : VFunc :=
  ⟨2, 8, [.s 2],
  (.seq (.reg [⟨.mov (.c (.i .i64 0)), some 2, none⟩] none)
  (.seq (.seq (.reg [⟨.mov (.s 0), none, none⟩,
    ⟨.len 1 (.l 0), some 6, none⟩,
    ⟨.mov (.c (.i .i64 0)), some 5, none⟩] none)
  (.block 0 (.loop v72l0)))
  (.seq (.reg [⟨.mov (.c (.i .i64 (-1))), some 2, none⟩] none)
  .ret))), false⟩

def tm72 : List Nat := [0, 1, 4, 9, 16, 8, 7, 5]
def bs72 : List Nat := []

-- slices.IndexFunc[[]annuitant/api.Table,annuitant/api.Table]
def v73l0 : VCode :=
  (.seq (.reg [⟨.bin .lss (.s 5) (.s 6), some 3, none⟩] none)
  (.seq (.cond (.s 3) .skip
  (.exit 0))
  (.seq (.block 1 (.seq (.reg [⟨.mov (.s 5), none, none⟩,
     ⟨.mov (.l 0), some 7, none⟩] none)
   (.seq (.reg [⟨.mov (.s 1), none, none⟩,
     ⟨.mov (.s 0), none, none⟩,
     ⟨.mov (.s 7), none, none⟩,
     ⟨.iad (.l 1) (.l 2) 3, none, none⟩,
     ⟨.ld (.l 3) 3 true, none, none⟩,
     ⟨.calv (.l 0) [(.l 4)], some 4, none⟩] none)
   (.cond (.s 4) (.seq (.reg [⟨.mov (.s 7), none, none⟩,
      ⟨.mov (.l 0), some 2, none⟩] none)
    .ret)
   .skip))))
  (.reg [⟨.bin .add (.s 5) (.c (.i .i64 1)), none, none⟩,
    ⟨.mov (.l 0), some 5, none⟩] none))))
def v73 : VFunc :=
  ⟨2, 8, [.s 2],
  (.seq (.reg [⟨.mov (.c (.i .i64 0)), some 2, none⟩] none)
  (.seq (.seq (.reg [⟨.mov (.s 0), none, none⟩,
    ⟨.len 1 (.l 0), some 6, none⟩,
    ⟨.mov (.c (.i .i64 0)), some 5, none⟩] none)
  (.block 0 (.loop v73l0)))
  (.seq (.reg [⟨.mov (.c (.i .i64 (-1))), some 2, none⟩] none)
  .ret))), false⟩

def tm73 : List Nat := [0, 1, 4, 9, 16, 8, 7, 5]
def bs73 : List Nat := []

-- slices.IndexFunc[[]annuitant/api.Row,annuitant/api.Row]
def v74l0 : VCode :=
  (.seq (.reg [⟨.bin .lss (.s 5) (.s 6), some 3, none⟩] none)
  (.seq (.cond (.s 3) .skip
  (.exit 0))
  (.seq (.block 1 (.seq (.reg [⟨.mov (.s 5), none, none⟩,
     ⟨.mov (.l 0), some 7, none⟩] none)
   (.seq (.reg [⟨.mov (.s 1), none, none⟩,
     ⟨.mov (.s 0), none, none⟩,
     ⟨.mov (.s 7), none, none⟩,
     ⟨.iad (.l 1) (.l 2) 7, none, none⟩,
     ⟨.ld (.l 3) 7 true, none, none⟩,
     ⟨.calv (.l 0) [(.l 4)], some 4, none⟩] none)
   (.cond (.s 4) (.seq (.reg [⟨.mov (.s 7), none, none⟩,
      ⟨.mov (.l 0), some 2, none⟩] none)
    .ret)
   .skip))))
  (.reg [⟨.bin .add (.s 5) (.c (.i .i64 1)), none, none⟩,
    ⟨.mov (.l 0), some 5, none⟩] none))))
def v74 : VFunc :=
  ⟨2, 8, [.s 2],
  (.seq (.reg [⟨.mov (.c (.i .i64 0)), some 2, none⟩] none)
  (.seq (.seq (.reg [⟨.mov (.s 0), none, none⟩,
    ⟨.len 1 (.l 0), some 6, none⟩,
    ⟨.mov (.c (.i .i64 0)), some 5, none⟩] none)
  (.block 0 (.loop v74l0)))
  (.seq (.reg [⟨.mov (.c (.i .i64 (-1))), some 2, none⟩] none)
  .ret))), false⟩

def tm74 : List Nat := [0, 1, 4, 9, 16, 8, 7, 5]
def bs74 : List Nat := []

-- slices.pdqsortCmpFunc[annuitant/api.Span]
def v77l0 : VCode :=
  (.block 1 (.seq (.reg [⟨.mov (.s 2), none, none⟩,
     ⟨.mov (.s 1), none, none⟩,
     ⟨.bin .sub (.l 0) (.l 1), none, none⟩,
     ⟨.mov (.l 2), some 15, none⟩] none)
   (.seq (.seq (.reg [⟨.mov (.s 15), none, none⟩,
     ⟨.bin .leq (.l 0) (.c (.i .i64 12)), some 5, none⟩] none)
   (.cond (.s 5) (.seq (.reg [⟨.mov (.s 0), none, none⟩,
      ⟨.mov (.s 1), none, none⟩,
      ⟨.mov (.s 2), none, none⟩,
      ⟨.mov (.s 4), none, none⟩,
      ⟨.call 81 [(.l 0), (.l 1), (.l 2), (.l 3)], none, none⟩] none)
    .ret)
   .skip))
   (.seq (.seq (.reg [⟨.mov (.s 3), none, none⟩,
     ⟨.bin .eql (.l 0) (.c (.i .i64 0)), some 6, none⟩] none)
   (.cond (.s 6) (.seq (.reg [⟨.mov (.s 0), none, none⟩,
      ⟨.mov (.s 1), none, none⟩,
      ⟨.mov (.s 2), none, none⟩,
      ⟨.mov (.s 4), none, none⟩,
      ⟨.call 82 [(.l 0), (.l 1), (.l 2), (.l 3)], none, none⟩] none)
    .ret)
   .skip))
   (.seq (.seq (.reg [⟨.mov (.s 13), none, none⟩,
     ⟨.un .not (.l 0), some 7, none⟩] none)
   (.cond (.s 7) (.seq (.reg [⟨.mov (.s 0), none, none⟩,
      ⟨.mov (.s 1), none, none⟩,
      ⟨.mov (.s 2), none, none⟩,
      ⟨.mov (.s 4), none, none⟩,
      ⟨.call 83 [(.l 0), (.l 1), (.l 2), (.l 3)], none, none⟩] none)
    (.reg [⟨.mov (.s 3), none, none⟩,
      ⟨.bin .sub (.l 0) (.c (.i .i64 1)), none, none⟩,
      ⟨.mov (.l 1), some 3, none⟩] none))
   .skip))
   (.seq (.reg [⟨.mov (.s 0), none, none⟩,
     ⟨.mov (.s 1), none, none⟩,
     ⟨.mov (.s 2), none, none⟩,
     ⟨.mov (.s 4), none, none⟩,
     ⟨.call 84 [(.l 0), (.l 1), (.l 2), (.l 3)], none, none⟩,
     ⟨.mov (.l 4), none, none⟩,
     ⟨.ext (.l 5) 0, none, none⟩,
     ⟨.ext (.l 5) 1, none, none⟩,
     ⟨.mov (.l 6), some 16, none⟩,
     ⟨.mov (.l 7), some 17, none⟩] none)
   (.seq (.seq (.reg [⟨.mov (.s 17), none, none⟩,
     ⟨.bin .eql (.l 0) (.c (.i .i64 2)), some 8, none⟩] none)
   (.cond (.s 8) (.seq (.reg [⟨.mov (.s 0), none, none⟩,
      ⟨.mov (.s 1), none, none⟩,
      ⟨.mov (.s 2), none, none⟩,
      ⟨.mov (.s 4), none, none⟩,
      ⟨.call 85 [(.l 0), (.l 1), (.l 2), (.l 3)], none, none⟩] none)
    (.seq (.reg [⟨.mov (.s 2), none, none⟩,
      ⟨.bin .sub (.l 0) (.c (.i .i64 1)), none, none⟩,
      ⟨.mov (.s 16), none, none⟩,
      ⟨.mov (.s 1), none, none⟩,
      ⟨.bin .sub (.l 2) (.l 3), none, none⟩,
      ⟨.bin .sub (.l 1) (.l 4), none, none⟩,
      ⟨.mov (.l 5), some 16, none⟩] none)
    (.reg [⟨.mov (.c (.i .i64 1)), some 17, none⟩] none)))
   .skip))
   (.seq (.seq (.reg [⟨.mov (.s 13), none, none⟩,
     ⟨.mov (.l 0), none, none⟩,
     ⟨.mov (.s 14), none, some ((.l 1), true)⟩,
     ⟨.pick (.l 1) (.l 2) (.c (.b false)), none, none⟩,
     ⟨.mov (.l 3), none, none⟩,
     ⟨.mov (.s 17), none, some ((.l 4), true)⟩,
     ⟨.bin .eql (.l 5) (.c (.i .i64 1)), none, some ((.l 4), true)⟩,
     ⟨.pick (.l 4) (.l 6) (.c (.b false)), some 9, none⟩] none)
   (.cond (.s 9) (.seq (.reg [⟨.mov (.s 0), none, none⟩,
      ⟨.mov (.s 1), none, none⟩,
      ⟨.mov (.s 2), none, none⟩,
      ⟨.mov (.s 4), none, none⟩,
      ⟨.call 86 [(.l 0), (.l 1), (.l 2), (.l 3)], some 10, none⟩] none)
    (.cond (.s 10) .ret
    .skip))
   .skip))
   (.seq (.seq (.reg [⟨.mov (.s 1), none, none⟩,
     ⟨.bin .gtr (.l 0) (.c (.i .i64 0)), none, none⟩,
     ⟨.mov (.l 1), none, none⟩,
     ⟨.mov (.s 4), none, some ((.l 2), true)⟩,
     ⟨.mov (.s 0), none, some ((.l 2), true)⟩,
     ⟨.mov (.s 1), none, some ((.l 2), true)⟩,
     ⟨.bin .sub (.l 5) (.c (.i .i64 1)), none, some ((.l 2), true)⟩,
     ⟨.iad (.l 4) (.l 6) 2, none, some ((.l 2), true)⟩,
     ⟨.ld (.l 7) 2 true, none, some ((.l 2), true)⟩,
     ⟨.mov (.s 0), none, some ((.l 2), true)⟩,
     ⟨.mov (.s 16), none, some ((.l 2), true)⟩,
     ⟨.iad (.l 9) (.l 10) 2, none, some ((.l 2), true)⟩,
     ⟨.ld (.l 11) 2 true, none, some ((.l 2), true)⟩,
     ⟨.calv (.l 3) [(.l 8), (.l 12)], none, some ((.l 2), true)⟩,
     ⟨.bin .lss (.l 13) (.c (.i .i64 0)), none, some ((.l 2), true)⟩,
     ⟨.un .not (.l 14), none, some ((.l 2), true)⟩,
     ⟨.pick (.l 2) (.l 15) (.c (.b false)), some 11, none⟩] (some false))
   (.cond (.s 11) (.seq (.reg [⟨.mov (.s 0), none, none⟩,
      ⟨.mov (.s 1), none, none⟩,
      ⟨.mov (.s 2), none, none⟩,
      ⟨.mov (.s 16), none, none⟩,
      ⟨.mov (.s 4), none, none⟩,
      ⟨.call 87 [(.l 0), (.l 1), (.l 2), (.l 3), (.l 4)], none, none⟩,
      ⟨.mov (.l 5), some 18, none⟩] none)
    (.seq (.reg [⟨.mov (.s 18), none, none⟩,
      ⟨.mov (.l 0), some 1, none⟩] none)
    (.exit 1)))
   .skip))
   (.seq (.reg [⟨.mov (.s 0), none, none⟩,
     ⟨.mov (.s 1), none, none⟩,
     ⟨.mov (.s 2), none, none⟩,
     ⟨.mov (.s 16), none, none⟩,
     ⟨.mov (.s 4), none, none⟩,
     ⟨.call 88 [(.l 0), (.l 1), (.l 2), (.l 3), (.l 4)], none, none⟩,
     ⟨.mov (.l 5), none, none⟩,
     ⟨.ext (.l 6) 0, none, none⟩,
     ⟨.ext (.l 6) 1, none, none⟩,
     ⟨.mov (.l 7), some 20, none⟩,
     ⟨.mov (.l 8), some 19, none⟩] none)
   (.seq (.reg [⟨.mov (.s 19), none, none⟩,
     ⟨.mov (.l 0), some 14, none⟩] none)
   (.seq (.reg [⟨.mov (.s 20), none, none⟩,
     ⟨.mov (.s 1), none, none⟩,
     ⟨.bin .sub (.l 0) (.l 1), none, none⟩,
     ⟨.mov (.s 2), none, none⟩,
     ⟨.mov (.s 20), none, none⟩,
     ⟨.bin .sub (.l 3) (.l 4), none, none⟩,
     ⟨.mov (.l 2), some 21, none⟩,
     ⟨.mov (.l 5), some 22, none⟩] none)
   (.seq (.reg [⟨.mov (.s 15), none, none⟩,
     ⟨.bin .quo (.l 0) (.c (.i .i64 8)), none, none⟩,
     ⟨.mov (.l 1), some 23, none⟩] none)
   (.seq (.reg [⟨.mov (.s 21), none, none⟩,
     ⟨.mov (.s 22), none, none⟩,
     ⟨.bin .lss (.l 0) (.l 1), some 12, none⟩] none)
   (.cond (.s 12) (.seq (.reg [⟨.mov (.s 21), none, none⟩,
      ⟨.mov (.s 23), none, none⟩,
      ⟨.bin .geq (.l 0) (.l 1), none, none⟩,
      ⟨.mov (.l 2), some 13, none⟩] none)
    (.seq (.reg [⟨.mov (.s 0), none, none⟩,
      ⟨.mov (.s 1), none, none⟩,
      ⟨.mov (.s 20), none, none⟩,
      ⟨.mov (.s 3), none, none⟩,
      ⟨.mov (.s 4), none, none⟩,
      ⟨.call 77 [(.l 0), (.l 1), (.l 2), (.l 3), (.l 4)], none, none⟩] none)
    (.reg [⟨.mov (.s 20), none, none⟩,
      ⟨.bin .add (.l 0) (.c (.i .i64 1)), none, none⟩,
      ⟨.mov (.l 1), some 1, none⟩] none)))
   (.seq (.reg [⟨.mov (.s 22), none, none⟩,
      ⟨.mov (.s 23), none, none⟩,
      ⟨.bin .geq (.l 0) (.l 1), none, none⟩,
      ⟨.mov (.l 2), some 13, none⟩] none)
    (.seq (.reg [⟨.mov (.s 0), none, none⟩,
      ⟨.mov (.s 20), none, none⟩,
      ⟨.bin .add (.l 1) (.c (.i .i64 1)), none, none⟩,
      ⟨.mov (.s 2), none, none⟩,
      ⟨.mov (.s 3), none, none⟩,
      ⟨.mov (.s 4), none, none⟩,
      ⟨.call 77 [(.l 0), (.l 2), (.l 3), (.l 4), (.l 5)], none, none⟩] none)
    (.reg [⟨.mov (.s 20), none, none⟩,
      ⟨.mov (.l 0), some 2, none⟩] none))))))))))))))))))
def v77 : VFunc :=
  ⟨5, 24, [],
  (.seq (.reg [⟨.mov (.c (.b true)), some 13, none⟩] none)
  (.seq (.reg [⟨.mov (.c (.b true)), some 14, none⟩] none)
  (.block 0 (.loop v77l0)))), false⟩

def tm77 : List Nat := [0, 1, 2, 3, 4, 25, 32, 39, 56, 75, 80, 97, 125, 10, 11, 12, 13, 14, 15, 17, 16, 18, 19, 20]
def bs77 : List Nat := []

-- math/bits.Len
def v78 : VFunc :=
  ⟨1, 2, [.s 1],
  (.seq (.reg [⟨.mov (.c (.i .i64 0)), some 1, none⟩] none)
  (.seq (.cond (.c (.b false)) (.seq (.reg [⟨.mov (.s 0), none, none⟩,
     ⟨.cvi .u32 (.l 0), none, none⟩,
     ⟨.call 89 [(.l 1)], none, none⟩,
     ⟨.mov (.l 2), some 1, none⟩] none)
   .ret)
  .skip)
  (.seq (.reg [⟨.mov (.s 0), none, none⟩,
    ⟨.call 90 [(.l 0)], none, none⟩,
    ⟨.mov (.l 1), some 1, none⟩] none)
  .ret))), true⟩

def tm78 : List Nat := [0, 2]
def bs78 : List Nat := []

-- cmp.isNaN[int]
def v79 : VFunc :=
  ⟨1, 2, [.s 1],
  (.seq (.reg [⟨.mov (.c (.b false)), some 1, none⟩] none)
  (.seq (.reg [⟨.mov (.s 0), none, none⟩,
    ⟨.mov (.s 0), none, none⟩,
    ⟨.bin .neq (.l 0) (.l 1), none, none⟩,
    ⟨.mov (.l 2), some 1, none⟩] none)
  .ret)), true⟩

def tm79 : List Nat := [0, 2]
def bs79 : List Nat := []

-- slices.IndexFunc[[]string,string]
def v80l0 : VCode :=
  (.seq (.reg [⟨.bin .lss (.s 5) (.s 6), some 3, none⟩] none)
  (.seq (.cond (.s 3) .skip
  (.exit 0))
  (.seq (.block 1 (.seq (.reg [⟨.mov (.s 5), none, none⟩,
     ⟨.mov (.l 0), some 7, none⟩] none)
   (.seq (.reg [⟨.mov (.s 1), none, none⟩,
     ⟨.mov (.s 0), none, none⟩,
     ⟨.mov (.s 7), none, none⟩,
     ⟨.iad (.l 1) (.l 2) 1, none, none⟩,
     ⟨.ld (.l 3) 1 false, none, none⟩,
     ⟨.calv (.l 0) [(.l 4)], some 4, none⟩] none)
   (.cond (.s 4) (.seq (.reg [⟨.mov (.s 7), none, none⟩,
      ⟨.mov (.l 0), some 2, none⟩] none)
    .ret)
   .skip))))
  (.reg [⟨.bin .add (.s 5) (.c (.i .i64 1)), none, none⟩,
    ⟨.mov (.l 0), some 5, none⟩] none))))
def v80 : VFunc :=
  ⟨2, 8, [.s 2],
  (.seq (.reg [⟨.mov (.c (.i .i64 0)), some 2, none⟩] none)
  (.seq (.seq (.reg [⟨.mov (.s 0), none, none⟩,
    ⟨.len 1 (.l 0), some 6, none⟩,
    ⟨.mov (.c (.i .i64 0)), some 5, none⟩] none)
  (.block 0 (.loop v80l0)))
  (.seq (.reg [⟨.mov (.c (.i .i64 (-1))), some 2, none⟩] none)
  .ret))), false⟩

def tm80 : List Nat := [0, 1, 4, 9, 16, 8, 7, 5]
def bs80 : List Nat := []

-- slices.insertionSortCmpFunc[annuitant/api.Span]
def v81l0 : VCode :=
  (.seq (.seq (.reg [⟨.mov (.s 7), none, none⟩,
    ⟨.mov (.s 1), none, none⟩,
    ⟨.bin .gtr (.l 0) (.l 1), none, none⟩,
    ⟨.mov (.l 2), none, none⟩,
    ⟨.mov (.s 3), none, some ((.l 3), true)⟩,
    ⟨.mov (.s 0), none, some ((.l 3), true)⟩,
    ⟨.mov (.s 7), none, some ((.l 3), true)⟩,
    ⟨.iad (.l 5) (.l 6) 2, none, some ((.l 3), true)⟩,
    ⟨.ld (.l 7) 2 true, none, some ((.l 3), true)⟩,
    ⟨.mov (.s 0), none, some ((.l 3), true)⟩,
    ⟨.mov (.s 7), none, some ((.l 3), true)⟩,
    ⟨.bin .sub (.l 10) (.c (.i .i64 1)), none, some ((.l 3), true)⟩,
    ⟨.iad (.l 9) (.l 11) 2, none, some ((.l 3), true)⟩,
    ⟨.ld (.l 12) 2 true, none, some ((.l 3), true)⟩,
    ⟨.calv (.l 4) [(.l 8), (.l 13)], none, some ((.l 3), true)⟩,
    ⟨.bin .lss (.l 14) (.c (.i .i64 0)), none, some ((.l 3), true)⟩,
    ⟨.pick (.l 3) (.l 15) (.c (.b false)), some 5, none⟩] (some false))
  (.cond (.s 5) .skip
  (.exit 2)))
  (.seq (.block 3 (.reg [⟨.mov (.s 0), none, none⟩,
     ⟨.mov (.s 7), none, none⟩,
     ⟨.mov (.s 0), none, none⟩,
     ⟨.mov (.s 7), none, none⟩,
     ⟨.bin .sub (.l 3) (.c (.i .i64 1)), none, none⟩,
     ⟨.mov (.s 0), none, none⟩,
     ⟨.mov (.s 7), none, none⟩,
     ⟨.bin .sub (.l 6) (.c (.i .i64 1)), none, none⟩,
     ⟨.iad (.l 5) (.l 7) 2, none, none⟩,
     ⟨.ld (.l 8) 2 true, none, none⟩,
     ⟨.mov (.s 0), none, none⟩,
     ⟨.mov (.s 7), none, none⟩,
     ⟨.iad (.l 10) (.l 11) 2, none, none⟩,
     ⟨.ld (.l 12) 2 true, none, none⟩,
     ⟨.iad (.l 0) (.l 1) 2, none, none⟩,
     ⟨.st (.l 14) (.l 9) 2, none, none⟩,
     ⟨.iad (.l 2) (.l 4) 2, none, none⟩,
     ⟨.st (.l 16) (.l 13) 2, none, none⟩] (some false)))
  (.reg [⟨.mov (.s 7), none, none⟩,
    ⟨.bin .sub (.l 0) (.c (.i .i64 1)), none, none⟩,
    ⟨.mov (.l 1), some 7, none⟩] none)))
def v81l1 : VCode :=
  (.seq (.seq (.reg [⟨.mov (.s 6), none, none⟩,
    ⟨.mov (.s 2), none, none⟩,
    ⟨.bin .lss (.l 0) (.l 1), some 4, none⟩] none)
  (.cond (.s 4) .skip
  (.exit 0)))
  (.seq (.block 1 (.seq (.reg [⟨.mov (.s 6), none, none⟩,
     ⟨.mov (.l 0), some 7, none⟩] none)
   (.block 2 (.loop v81l0))))
  (.reg [⟨.mov (.s 6), none, none⟩,
    ⟨.bin .add (.l 0) (.c (.i .i64 1)), none, none⟩,
    ⟨.mov (.l 1), some 6, none⟩] none)))
def v81 : VFunc :=
  ⟨4, 8, [],
  (.seq (.reg [⟨.mov (.s 1), none, none⟩,
    ⟨.bin .add (.l 0) (.c (.i .i64 1)), none, none⟩,
    ⟨.mov (.l 1), some 6, none⟩] none)
  (.block 0 (.loop v81l1))), false⟩

def tm81 : List Nat := [0, 1, 2, 3, 14, 34, 8, 9]
def bs81 : List Nat := []

-- slices.heapSortCmpFunc[annuitant/api.Span]
def v82l0 : VCode :=
  (.seq (.seq (.reg [⟨.mov (.s 7), none, none⟩,
    ⟨.bin .geq (.l 0) (.c (.i .i64 0)), some 4, none⟩] none)
  (.cond (.s 4) .skip
  (.exit 0)))
  (.seq (.block 1 (.reg [⟨.mov (.s 0), none, none⟩,
     ⟨.mov (.s 7), none, none⟩,
     ⟨.mov (.s 6), none, none⟩,
     ⟨.mov (.s 8), none, none⟩,
     ⟨.mov (.s 3), none, none⟩,
     ⟨.call 91 [(.l 0), (.l 1), (.l 2), (.l 3), (.l 4)], none, none⟩] none))
  (.reg [⟨.mov (.s 7), none, none⟩,
    ⟨.bin .sub (.l 0) (.c (.i .i64 1)), none, none⟩,
    ⟨.mov (.l 1), some 7, none⟩] none)))
def v82l1 : VCode :=
  (.seq (.seq (.reg [⟨.mov (.s 9), none, none⟩,
    ⟨.bin .geq (.l 0) (.c (.i .i64 0)), some 5, none⟩] none)
  (.cond (.s 5) .skip
  (.exit 2)))
  (.seq (.block 3 (.seq (.reg [⟨.mov (.s 0), none, none⟩,
     ⟨.mov (.s 8), none, none⟩,
     ⟨.mov (.s 0), none, none⟩,
     ⟨.mov (.s 8), none, none⟩,
     ⟨.mov (.s 9), none, none⟩,
     ⟨.bin .add (.l 3) (.l 4), none, none⟩,
     ⟨.mov (.s 0), none, none⟩,
     ⟨.mov (.s 8), none, none⟩,
     ⟨.mov (.s 9), none, none⟩,
     ⟨.bin .add (.l 7) (.l 8), none, none⟩,
     ⟨.iad (.l 6) (.l 9) 2, none, none⟩,
     ⟨.ld (.l 10) 2 true, none, none⟩,
     ⟨.mov (.s 0), none, none⟩,
     ⟨.mov (.s 8), none, none⟩,
     ⟨.iad (.l 12) (.l 13) 2, none, none⟩,
     ⟨.ld (.l 14) 2 true, none, none⟩,
     ⟨.iad (.l 0) (.l 1) 2, none, none⟩,
     ⟨.st (.l 16) (.l 11) 2, none, none⟩,
     ⟨.iad (.l 2) (.l 5) 2, none, none⟩,
     ⟨.st (.l 18) (.l 15) 2, none, none⟩] (some false))
   (.reg [⟨.mov (.s 0), none, none⟩,
     ⟨.mov (.s 10), none, none⟩,
     ⟨.mov (.s 9), none, none⟩,
     ⟨.mov (.s 8), none, none⟩,
     ⟨.mov (.s 3), none, none⟩,
     ⟨.call 91 [(.l 0), (.l 1), (.l 2), (.l 3), (.l 4)], none, none⟩] none)))
  (.reg [⟨.mov (.s 9), none, none⟩,
    ⟨.bin .sub (.l 0) (.c (.i .i64 1)), none, none⟩,
    ⟨.mov (.l 1), some 9, none⟩] none)))
def v82 : VFunc :=
  ⟨4, 11, [],
  (.seq (.reg [⟨.mov (.s 1), none, none⟩,
    ⟨.mov (.l 0), some 8, none⟩] none)
  (.seq (.reg [⟨.mov (.c (.i .i64 0)), some 10, none⟩] none)
  (.seq (.reg [⟨.mov (.s 2), none, none⟩,
    ⟨.mov (.s 1), none, none⟩,
    ⟨.bin .sub (.l 0) (.l 1), none, none⟩,
    ⟨.mov (.l 2), some 6, none⟩] none)
  (.seq (.seq (.reg [⟨.mov (.s 6), none, none⟩,
    ⟨.bin .sub (.l 0) (.c (.i .i64 1)), none, none⟩,
    ⟨.bin .quo (.l 1) (.c (.i .i64 2)), none, none⟩,
    ⟨.mov (.l 2), some 7, none⟩] none)
  (.block 0 (.loop v82l0)))
  (.seq (.reg [⟨.mov (.s 6), none, none⟩,
    ⟨.bin .sub (.l 0) (.c (.i .i64 1)), none, none⟩,
    ⟨.mov (.l 1), some 9, none⟩] none)
  (.block 2 (.loop v82l1))))))), false⟩

def tm82 : List Nat := [0, 1, 2, 3, 21, 33, 10, 11, 8, 12, 9]
def bs82 : List Nat := []

-- slices.breakPatternsCmpFunc[annuitant/api.Span]
def v83l0 : VCode :=
  (.seq (.seq (.reg [⟨.mov (.s 8), none, none⟩,
    ⟨.mov (.s 1), none, none⟩,
    ⟨.mov (.s 7), none, none⟩,
    ⟨.bin .quo (.l 2) (.c (.i .i64 4)), none, none⟩,
    ⟨.bin .mul (.l 3) (.c (.i .i64 2)), none, none⟩,
    ⟨.bin .add (.l 1) (.l 4), none, none⟩,
    ⟨.bin .add (.l 5) (.c (.i .i64 1)), none, none⟩,
    ⟨.bin .leq (.l 0) (.l 6), some 5, none⟩] none)
  (.cond (.s 5) .skip
  (.exit 0)))
  (.seq (.block 1 (.seq (.reg [⟨.call 93 [(.s 9)], none, none⟩,
     ⟨.mov (.s 10), none, none⟩,
     ⟨.bin .sub (.l 1) (.c (.i .u64 1)), none, none⟩,
     ⟨.bin .and (.l 0) (.l 2), none, none⟩,
     ⟨.cvi .i64 (.l 3), none, none⟩,
     ⟨.mov (.l 4), some 11, none⟩] none)
   (.seq (.seq (.reg [⟨.mov (.s 11), none, none⟩,
     ⟨.mov (.s 7), none, none⟩,
     ⟨.bin .geq (.l 0) (.l 1), some 6, none⟩] none)
   (.cond (.s 6) (.reg [⟨.mov (.s 11), none, none⟩,
      ⟨.mov (.s 7), none, none⟩,
      ⟨.bin .sub (.l 0) (.l 1), none, none⟩,
      ⟨.mov (.l 2), some 11, none⟩] none)
   .skip))
   (.reg [⟨.mov (.s 0), none, none⟩,
     ⟨.mov (.s 8), none, none⟩,
     ⟨.mov (.s 0), none, none⟩,
     ⟨.mov (.s 1), none, none⟩,
     ⟨.mov (.s 11), none, none⟩,
     ⟨.bin .add (.l 3) (.l 4), none, none⟩,
     ⟨.mov (.s 0), none, none⟩,
     ⟨.mov (.s 1), none, none⟩,
     ⟨.mov (.s 11), none, none⟩,
     ⟨.bin .add (.l 7) (.l 8), none, none⟩,
     ⟨.iad (.l 6) (.l 9) 2, none, none⟩,
     ⟨.ld (.l 10) 2 true, none, none⟩,
     ⟨.mov (.s 0), none, none⟩,
     ⟨.mov (.s 8), none, none⟩,
     ⟨.iad (.l 12) (.l 13) 2, none, none⟩,
     ⟨.ld (.l 14) 2 true, none, none⟩,
     ⟨.iad (.l 0) (.l 1) 2, none, none⟩,
     ⟨.st (.l 16) (.l 11) 2, none, none⟩,
     ⟨.iad (.l 2) (.l 5) 2, none, none⟩,
     ⟨.st (.l 18) (.l 15) 2, none, none⟩] (some false)))))
  (.reg [⟨.mov (.s 8), none, none⟩,
    ⟨.bin .add (.l 0) (.c (.i .i64 1)), none, none⟩,
    ⟨.mov (.l 1), some 8, none⟩] none)))
def v83 : VFunc :=
  ⟨4, 12, [],
  (.seq (.reg [⟨.mov (.s 2), none, none⟩,
    ⟨.mov (.s 1), none, none⟩,
    ⟨.bin .sub (.l 0) (.l 1), none, none⟩,
    ⟨.mov (.l 2), some 7, none⟩] none)
  (.seq (.reg [⟨.mov (.s 7), none, none⟩,
    ⟨.bin .geq (.l 0) (.c (.i .i64 8)), some 4, none⟩] none)
  (.cond (.s 4) (.seq (.reg [⟨.mov (.s 7), none, none⟩,
     ⟨.cvi .u64 (.l 0), none, none⟩,
     ⟨.hal [(.i .u64 0)], some 9, none⟩,
     ⟨.st (.s 9) (.l 1) 1, none, none⟩] none)
   (.seq (.reg [⟨.mov (.s 7), none, none⟩,
     ⟨.call 92 [(.l 0)], none, none⟩,
     ⟨.mov (.l 1), some 10, none⟩] none)
   (.seq (.reg [⟨.mov (.s 1), none, none⟩,
     ⟨.mov (.s 7), none, none⟩,
     ⟨.bin .quo (.l 1) (.c (.i .i64 4)), none, none⟩,
     ⟨.bin .mul (.l 2) (.c (.i .i64 2)), none, none⟩,
     ⟨.bin .add (.l 0) (.l 3), none, none⟩,
     ⟨.bin .sub (.l 4) (.c (.i .i64 1)), none, none⟩,
     ⟨.mov (.l 5), some 8, none⟩] none)
   (.block 0 (.loop v83l0)))))
  .skip))), false⟩

def tm83 : List Nat := [0, 1, 2, 3, 17, 35, 45, 8, 11, 9, 10, 12]
def bs83 : List Nat := []

-- slices.choosePivotCmpFunc[annuitant/api.Span]
def v84 : VFunc :=
  ⟨4, 16, [.s 4, .s 5],
  (.seq (.reg [⟨.mov (.c (.i .i64 0)), some 4, none⟩,
    ⟨.mov (.c (.i .i64 0)), some 5, none⟩] none)
  (.seq (.reg [⟨.mov (.s 2), none, none⟩,
    ⟨.mov (.s 1), none, none⟩,
    ⟨.bin .sub (.l 0) (.l 1), none, none⟩,
    ⟨.mov (.l 2), some 10, none⟩] none)
  (.seq (.reg [⟨.hal [(.i .i64 0)], some 14, none⟩] none)
  (.seq (.reg [⟨.mov (.s 1), none, none⟩,
    ⟨.mov (.s 10), none, none⟩,
    ⟨.bin .quo (.l 1) (.c (.i .i64 4)), none, none⟩,
    ⟨.bin .mul (.l 2) (.c (.i .i64 1)), none, none⟩,
    ⟨.bin .add (.l 0) (.l 3), none, none⟩,
    ⟨.mov (.l 4), some 11, none⟩] none)
  (.seq (.reg [⟨.mov (.s 1), none, none⟩,
    ⟨.mov (.s 10), none, none⟩,
    ⟨.bin .quo (.l 1) (.c (.i .i64 4)), none, none⟩,
    ⟨.bin .mul (.l 2) (.c (.i .i64 2)), none, none⟩,
    ⟨.bin .add (.l 0) (.l 3), none, none⟩,
    ⟨.mov (.l 4), some 12, none⟩] none)
  (.seq (.reg [⟨.mov (.s 1), none, none⟩,
    ⟨.mov (.s 10), none, none⟩,
    ⟨.bin .quo (.l 1) (.c (.i .i64 4)), none, none⟩,
    ⟨.bin .mul (.l 2) (.c (.i .i64 3)), none, none⟩,
    ⟨.bin .add (.l 0) (.l 3), none, none⟩,
    ⟨.mov (.l 4), some 13, none⟩] none)
  (.seq (.seq (.reg [⟨.mov (.s 10), none, none⟩,
    ⟨.bin .geq (.l 0) (.c (.i .i64 8)), some 6, none⟩] none)
  (.cond (.s 6) (.seq (.seq (.reg [⟨.mov (.s 10), none, none⟩,
     ⟨.bin .geq (.l 0) (.c (.i .i64 50)), some 7, none⟩] none)
   (.cond (.s 7) (.seq (.reg [⟨.mov (.s 0), none, none⟩,
      ⟨.mov (.s 11), none, none⟩,
      ⟨.mov (.s 3), none, none⟩,
      ⟨.call 94 [(.l 0), (.l 1), (.s 14), (.l 2)], none, none⟩,
      ⟨.mov (.l 3), some 11, none⟩] none)
    (.seq (.reg [⟨.mov (.s 0), none, none⟩,
      ⟨.mov (.s 12), none, none⟩,
      ⟨.mov (.s 3), none, none⟩,
      ⟨.call 94 [(.l 0), (.l 1), (.s 14), (.l 2)], none, none⟩,
      ⟨.mov (.l 3), some 12, none⟩] none)
    (.reg [⟨.mov (.s 0), none, none⟩,
      ⟨.mov (.s 13), none, none⟩,
      ⟨.mov (.s 3), none, none⟩,
      ⟨.call 94 [(.l 0), (.l 1), (.s 14), (.l 2)], none, none⟩,
      ⟨.mov (.l 3), some 13, none⟩] none)))
   .skip))
   (.reg [⟨.mov (.s 0), none, none⟩,
     ⟨.mov (.s 11), none, none⟩,
     ⟨.mov (.s 12), none, none⟩,
     ⟨.mov (.s 13), none, none⟩,
     ⟨.mov (.s 3), none, none⟩,
     ⟨.call 95 [(.l 0), (.l 1), (.l 2), (.l 3), (.s 14), (.l 4)], none, none⟩,
     ⟨.mov (.l 5), some 12, none⟩] none))
  .skip))
  (.seq (.reg [⟨.ld (.s 14) 1 false, some 15, none⟩] none)
  (.block 0 (.seq (.reg [⟨.bin .eql (.s 15) (.c (.i .i64 0)), none, none⟩,
     ⟨.mov (.l 0), some 8, none⟩] none)
   (.cond (.s 8) (.seq (.reg [⟨.mov (.s 12), none, none⟩,
      ⟨.mov (.l 0), some 4, none⟩,
      ⟨.mov (.c (.i .i64 1)), some 5, none⟩] none)
    .ret)
   (.seq (.reg [⟨.bin .eql (.s 15) (.c (.i .i64 12)), none, none⟩,
      ⟨.mov (.l 0), some 9, none⟩] none)
    (.cond (.s 9) (.seq (.reg [⟨.mov (.s 12), none, none⟩,
       ⟨.mov (.l 0), some 4, none⟩,
       ⟨.mov (.c (.i .i64 2)), some 5, none⟩] none)
     .ret)
    (.seq (.reg [⟨.mov (.s 12), none, none⟩,
       ⟨.mov (.l 0), some 4, none⟩,
       ⟨.mov (.c (.i .i64 0)), some 5, none⟩] none)
     .ret)))))))))))))), false⟩

def tm84 : List Nat := [0, 1, 2, 3, 8, 9, 34, 36, 57, 60, 10, 12, 13, 14, 11, 55]
def bs84 : List Nat := []

-- slices.reverseRangeCmpFunc[annuitant/api.Span]
def v85l0 : VCode :=
  (.seq (.seq (.reg [⟨.mov (.s 5), none, none⟩,
    ⟨.mov (.s 6), none, none⟩,
    ⟨.bin .lss (.l 0) (.l 1), some 4, none⟩] none)
  (.cond (.s 4) .skip
  (.exit 0)))
  (.block 1 (.seq (.reg [⟨.mov (.s 0), none, none⟩,
     ⟨.mov (.s 5), none, none⟩,
     ⟨.mov (.s 0), none, none⟩,
     ⟨.mov (.s 6), none, none⟩,
     ⟨.mov (.s 0), none, none⟩,
     ⟨.mov (.s 6), none, none⟩,
     ⟨.iad (.l 4) (.l 5) 2, none, none⟩,
     ⟨.ld (.l 6) 2 true, none, none⟩,
     ⟨.mov (.s 0), none, none⟩,
     ⟨.mov (.s 5), none, none⟩,
     ⟨.iad (.l 8) (.l 9) 2, none, none⟩,
     ⟨.ld (.l 10) 2 true, none, none⟩,
     ⟨.iad (.l 0) (.l 1) 2, none, none⟩,
     ⟨.st (.l 12) (.l 7) 2, none, none⟩,
     ⟨.iad (.l 2) (.l 3) 2, none, none⟩,
     ⟨.st (.l 14) (.l 11) 2, none, none⟩] (some false))
   (.seq (.reg [⟨.mov (.s 5), none, none⟩,
     ⟨.bin .add (.l 0) (.c (.i .i64 1)), none, none⟩,
     ⟨.mov (.l 1), some 5, none⟩] none)
   (.reg [⟨.mov (.s 6), none, none⟩,
     ⟨.bin .sub (.l 0) (.c (.i .i64 1)), none, none⟩,
     ⟨.mov (.l 1), some 6, none⟩] none)))))
def v85 : VFunc :=
  ⟨4, 7, [],
  (.seq (.reg [⟨.mov (.s 1), none, none⟩,
    ⟨.mov (.l 0), some 5, none⟩] none)
  (.seq (.reg [⟨.mov (.s 2), none, none⟩,
    ⟨.bin .sub (.l 0) (.c (.i .i64 1)), none, none⟩,
    ⟨.mov (.l 1), some 6, none⟩] none)
  (.block 0 (.loop v85l0)))), false⟩

def tm85 : List Nat := [0, 1, 2, 3, 15, 8, 9]
def bs85 : List Nat := []

-- slices.partialInsertionSortCmpFunc[annuitant/api.Span]
def v86l0 : VCode :=
  (.seq (.seq (.reg [⟨.mov (.s 15), none, none⟩,
    ⟨.mov (.s 2), none, none⟩,
    ⟨.bin .lss (.l 0) (.l 1), none, none⟩,
    ⟨.mov (.l 2), none, none⟩,
    ⟨.mov (.s 3), none, some ((.l 3), true)⟩,
    ⟨.mov (.s 0), none, some ((.l 3), true)⟩,
    ⟨.mov (.s 15), none, some ((.l 3), true)⟩,
    ⟨.iad (.l 5) (.l 6) 2, none, some ((.l 3), true)⟩,
    ⟨.ld (.l 7) 2 true, none, some ((.l 3), true)⟩,
    ⟨.mov (.s 0), none, some ((.l 3), true)⟩,
    ⟨.mov (.s 15), none, some ((.l 3), true)⟩,
    ⟨.bin .sub (.l 10) (.c (.i .i64 1)), none, some ((.l 3), true)⟩,
    ⟨.iad (.l 9) (.l 11) 2, none, some ((.l 3), true)⟩,
    ⟨.ld (.l 12) 2 true, none, some ((.l 3), true)⟩,
    ⟨.calv (.l 4) [(.l 8), (.l 13)], none, some ((.l 3), true)⟩,
    ⟨.bin .lss (.l 14) (.c (.i .i64 0)), none, some ((.l 3), true)⟩,
    ⟨.un .not (.l 15), none, some ((.l 3), true)⟩,
    ⟨.pick (.l 3) (.l 16) (.c (.b false)), some 6, none⟩] (some false))
  (.cond (.s 6) .skip
  (.exit 2)))
  (.block 3 (.reg [⟨.mov (.s 15), none, none⟩,
     ⟨.bin .add (.l 0) (.c (.i .i64 1)), none, none⟩,
     ⟨.mov (.l 1), some 15, none⟩] none)))
def v86l1 : VCode :=
  (.seq (.seq (.reg [⟨.mov (.s 17), none, none⟩,
    ⟨.bin .geq (.l 0) (.c (.i .i64 1)), some 10, none⟩] none)
  (.cond (.s 10) .skip
  (.exit 4)))
  (.seq (.block 5 (.seq (.seq (.reg [⟨.mov (.s 3), none, none⟩,
     ⟨.mov (.s 0), none, none⟩,
     ⟨.mov (.s 17), none, none⟩,
     ⟨.iad (.l 1) (.l 2) 2, none, none⟩,
     ⟨.ld (.l 3) 2 true, none, none⟩,
     ⟨.mov (.s 0), none, none⟩,
     ⟨.mov (.s 17), none, none⟩,
     ⟨.bin .sub (.l 6) (.c (.i .i64 1)), none, none⟩,
     ⟨.iad (.l 5) (.l 7) 2, none, none⟩,
     ⟨.ld (.l 8) 2 true, none, none⟩,
     ⟨.calv (.l 0) [(.l 4), (.l 9)], none, none⟩,
     ⟨.bin .lss (.l 10) (.c (.i .i64 0)), none, none⟩,
     ⟨.un .not (.l 11), some 11, none⟩] (some false))
   (.cond (.s 11) (.exit 4)
   .skip))
   (.reg [⟨.mov (.s 0), none, none⟩,
     ⟨.mov (.s 17), none, none⟩,
     ⟨.mov (.s 0), none, none⟩,
     ⟨.mov (.s 17), none, none⟩,
     ⟨.bin .sub (.l 3) (.c (.i .i64 1)), none, none⟩,
     ⟨.mov (.s 0), none, none⟩,
     ⟨.mov (.s 17), none, none⟩,
     ⟨.bin .sub (.l 6) (.c (.i .i64 1)), none, none⟩,
     ⟨.iad (.l 5) (.l 7) 2, none, none⟩,
     ⟨.ld (.l 8) 2 true, none, none⟩,
     ⟨.mov (.s 0), none, none⟩,
     ⟨.mov (.s 17), none, none⟩,
     ⟨.iad (.l 10) (.l 11) 2, none, none⟩,
     ⟨.ld (.l 12) 2 true, none, none⟩,
     ⟨.iad (.l 0) (.l 1) 2, none, none⟩,
     ⟨.st (.l 14) (.l 9) 2, none, none⟩,
     ⟨.iad (.l 2) (.l 4) 2, none, none⟩,
     ⟨.st (.l 16) (.l 13) 2, none, none⟩] (some false))))
  (.reg [⟨.mov (.s 17), none, none⟩,
    ⟨.bin .sub (.l 0) (.c (.i .i64 1)), none, none⟩,
    ⟨.mov (.l 1), some 17, none⟩] none)))
def v86l2 : VCode :=
  (.seq (.seq (.reg [⟨.mov (.s 18), none, none⟩,
    ⟨.mov (.s 2), none, none⟩,
    ⟨.bin .lss (.l 0) (.l 1), some 13, none⟩] none)
  (.cond (.s 13) .skip
  (.exit 6)))
  (.seq (.block 7 (.seq (.seq (.reg [⟨.mov (.s 3), none, none⟩,
     ⟨.mov (.s 0), none, none⟩,
     ⟨.mov (.s 18), none, none⟩,
     ⟨.iad (.l 1) (.l 2) 2, none, none⟩,
     ⟨.ld (.l 3) 2 true, none, none⟩,
     ⟨.mov (.s 0), none, none⟩,
     ⟨.mov (.s 18), none, none⟩,
     ⟨.bin .sub (.l 6) (.c (.i .i64 1)), none, none⟩,
     ⟨.iad (.l 5) (.l 7) 2, none, none⟩,
     ⟨.ld (.l 8) 2 true, none, none⟩,
     ⟨.calv (.l 0) [(.l 4), (.l 9)], none, none⟩,
     ⟨.bin .lss (.l 10) (.c (.i .i64 0)), none, none⟩,
     ⟨.un .not (.l 11), some 14, none⟩] (some false))
   (.cond (.s 14) (.exit 6)
   .skip))
   (.reg [⟨.mov (.s 0), none, none⟩,
     ⟨.mov (.s 18), none, none⟩,
     ⟨.mov (.s 0), none, none⟩,
     ⟨.mov (.s 18), none, none⟩,
     ⟨.bin .sub (.l 3) (.c (.i .i64 1)), none, none⟩,
     ⟨.mov (.s 0), none, none⟩,
     ⟨.mov (.s 18), none, none⟩,
     ⟨.bin .sub (.l 6) (.c (.i .i64 1)), none, none⟩,
     ⟨.iad (.l 5) (.l 7) 2, none, none⟩,
     ⟨.ld (.l 8) 2 true, none, none⟩,
     ⟨.mov (.s 0), none, none⟩,
     ⟨.mov (.s 18), none, none⟩,
     ⟨.iad (.l 10) (.l 11) 2, none, none⟩,
     ⟨.ld (.l 12) 2 true, none, none⟩,
     ⟨.iad (.l 0) (.l 1) 2, none, none⟩,
     ⟨.st (.l 14) (.l 9) 2, none, none⟩,
     ⟨.iad (.l 2) (.l 4) 2, none, none⟩,
     ⟨.st (.l 16) (.l 13) 2, none, none⟩] (some false))))
  (.reg [⟨.mov (.s 18), none, none⟩,
    ⟨.bin .add (.l 0) (.c (.i .i64 1)), none, none⟩,
    ⟨.mov (.l 1), some 18, none⟩] none)))
def v86l3 : VCode :=
  (.seq (.seq (.reg [⟨.mov (.s 16), none, none⟩,
    ⟨.bin .lss (.l 0) (.c (.i .i64 5)), some 5, none⟩] none)
  (.cond (.s 5) .skip
  (.exit 0)))
  (.seq (.block 1 (.seq (.block 2 (.loop v86l0))
   (.seq (.seq (.reg [⟨.mov (.s 15), none, none⟩,
     ⟨.mov (.s 2), none, none⟩,
     ⟨.bin .eql (.l 0) (.l 1), some 7, none⟩] none)
   (.cond (.s 7) (.seq (.reg [⟨.mov (.c (.b true)), some 4, none⟩] none)
    .ret)
   .skip))
   (.seq (.seq (.reg [⟨.mov (.s 2), none, none⟩,
     ⟨.mov (.s 1), none, none⟩,
     ⟨.bin .sub (.l 0) (.l 1), none, none⟩,
     ⟨.bin .lss (.l 2) (.c (.i .i64 50)), some 8, none⟩] none)
   (.cond (.s 8) (.seq (.reg [⟨.mov (.c (.b false)), some 4, none⟩] none)
    .ret)
   .skip))
   (.seq (.reg [⟨.mov (.s 0), none, none⟩,
     ⟨.mov (.s 15), none, none⟩,
     ⟨.mov (.s 0), none, none⟩,
     ⟨.mov (.s 15), none, none⟩,
     ⟨.bin .sub (.l 3) (.c (.i .i64 1)), none, none⟩,
     ⟨.mov (.s 0), none, none⟩,
     ⟨.mov (.s 15), none, none⟩,
     ⟨.bin .sub (.l 6) (.c (.i .i64 1)), none, none⟩,
     ⟨.iad (.l 5) (.l 7) 2, none, none⟩,
     ⟨.ld (.l 8) 2 true, none, none⟩,
     ⟨.mov (.s 0), none, none⟩,
     ⟨.mov (.s 15), none, none⟩,
     ⟨.iad (.l 10) (.l 11) 2, none, none⟩,
     ⟨.ld (.l 12) 2 true, none, none⟩,
     ⟨.iad (.l 0) (.l 1) 2, none, none⟩,
     ⟨.st (.l 14) (.l 9) 2, none, none⟩,
     ⟨.iad (.l 2) (.l 4) 2, none, none⟩,
     ⟨.st (.l 16) (.l 13) 2, none, none⟩] (some false))
   (.seq (.seq (.reg [⟨.mov (.s 15), none, none⟩,
     ⟨.mov (.s 1), none, none⟩,
     ⟨.bin .sub (.l 0) (.l 1), none, none⟩,
     ⟨.bin .geq (.l 2) (.c (.i .i64 2)), some 9, none⟩] none)
   (.cond (.s 9) (.seq (.reg [⟨.mov (.s 15), none, none⟩,
      ⟨.bin .sub (.l 0) (.c (.i .i64 1)), none, none⟩,
      ⟨.mov (.l 1), some 17, none⟩] none)
    (.block 4 (.loop v86l1)))
   .skip))
   (.seq (.reg [⟨.mov (.s 2), none, none⟩,
     ⟨.mov (.s 15), none, none⟩,
     ⟨.bin .sub (.l 0) (.l 1), none, none⟩,
     ⟨.bin .geq (.l 2) (.c (.i .i64 2)), some 12, none⟩] none)
   (.cond (.s 12) (.seq (.reg [⟨.mov (.s 15), none, none⟩,
      ⟨.bin .add (.l 0) (.c (.i .i64 1)), none, none⟩,
      ⟨.mov (.l 1), some 18, none⟩] none)
    (.block 6 (.loop v86l2)))
   .skip))))))))
  (.reg [⟨.mov (.s 16), none, none⟩,
    ⟨.bin .add (.l 0) (.c (.i .i64 1)), none, none⟩,
    ⟨.mov (.l 1), some 16, none⟩] none)))
def v86 : VFunc :=
  ⟨4, 19, [.s 4],
  (.seq (.reg [⟨.mov (.c (.b false)), some 4, none⟩] none)
  (.seq (.reg [⟨.mov (.s 1), none, none⟩,
    ⟨.bin .add (.l 0) (.c (.i .i64 1)), none, none⟩,
    ⟨.mov (.l 1), some 15, none⟩] none)
  (.seq (.seq (.reg [⟨.mov (.c (.i .i64 0)), some 16, none⟩] none)
  (.block 0 (.loop v86l3)))
  (.seq (.reg [⟨.mov (.c (.b false)), some 4, none⟩] none)
  .ret)))), false⟩

def tm86 : List Nat := [0, 1, 2, 3, 8, 16, 36, 41, 45, 65, 69, 84, 104, 109, 124, 9, 10, 11, 12]
def bs86 : List Nat := []

-- slices.partitionEqualCmpFunc[annuitant/api.Span]
def v87l0 : VCode :=
  (.seq (.seq (.reg [⟨.mov (.s 9), none, none⟩,
    ⟨.mov (.s 10), none, none⟩,
    ⟨.bin .leq (.l 0) (.l 1), none, none⟩,
    ⟨.mov (.l 2), none, none⟩,
    ⟨.mov (.s 4), none, some ((.l 3), true)⟩,
    ⟨.mov (.s 0), none, some ((.l 3), true)⟩,
    ⟨.mov (.s 1), none, some ((.l 3), true)⟩,
    ⟨.iad (.l 5) (.l 6) 2, none, some ((.l 3), true)⟩,
    ⟨.ld (.l 7) 2 true, none, some ((.l 3), true)⟩,
    ⟨.mov (.s 0), none, some ((.l 3), true)⟩,
    ⟨.mov (.s 9), none, some ((.l 3), true)⟩,
    ⟨.iad (.l 9) (.l 10) 2, none, some ((.l 3), true)⟩,
    ⟨.ld (.l 11) 2 true, none, some ((.l 3), true)⟩,
    ⟨.calv (.l 4) [(.l 8), (.l 12)], none, some ((.l 3), true)⟩,
    ⟨.bin .lss (.l 13) (.c (.i .i64 0)), none, some ((.l 3), true)⟩,
    ⟨.un .not (.l 14), none, some ((.l 3), true)⟩,
    ⟨.pick (.l 3) (.l 15) (.c (.b false)), some 6, none⟩] (some false))
  (.cond (.s 6) .skip
  (.exit 2)))
  (.block 3 (.reg [⟨.mov (.s 9), none, none⟩,
     ⟨.bin .add (.l 0) (.c (.i .i64 1)), none, none⟩,
     ⟨.mov (.l 1), some 9, none⟩] none)))
def v87l1 : VCode :=
  (.seq (.seq (.reg [⟨.mov (.s 9), none, none⟩,
    ⟨.mov (.s 10), none, none⟩,
    ⟨.bin .leq (.l 0) (.l 1), none, none⟩,
    ⟨.mov (.l 2), none, none⟩,
    ⟨.mov (.s 4), none, some ((.l 3), true)⟩,
    ⟨.mov (.s 0), none, some ((.l 3), true)⟩,
    ⟨.mov (.s 1), none, some ((.l 3), true)⟩,
    ⟨.iad (.l 5) (.l 6) 2, none, some ((.l 3), true)⟩,
    ⟨.ld (.l 7) 2 true, none, some ((.l 3), true)⟩,
    ⟨.mov (.s 0), none, some ((.l 3), true)⟩,
    ⟨.mov (.s 10), none, some ((.l 3), true)⟩,
    ⟨.iad (.l 9) (.l 10) 2, none, some ((.l 3), true)⟩,
    ⟨.ld (.l 11) 2 true, none, some ((.l 3), true)⟩,
    ⟨.calv (.l 4) [(.l 8), (.l 12)], none, some ((.l 3), true)⟩,
    ⟨.bin .lss (.l 13) (.c (.i .i64 0)), none, some ((.l 3), true)⟩,
    ⟨.pick (.l 3) (.l 14) (.c (.b false)), some 7, none⟩] (some false))
  (.cond (.s 7) .skip
  (.exit 4)))
  (.block 5 (.reg [⟨.mov (.s 10), none, none⟩,
     ⟨.bin .sub (.l 0) (.c (.i .i64 1)), none, none⟩,
     ⟨.mov (.l 1), some 10, none⟩] none)))
def v87l2 : VCode :=
  (.block 1 (.seq (.block 2 (.loop v87l0))
   (.seq (.block 4 (.loop v87l1))
   (.seq (.seq (.reg [⟨.mov (.s 9), none, none⟩,
     ⟨.mov (.s 10), none, none⟩,
     ⟨.bin .gtr (.l 0) (.l 1), some 8, none⟩] none)
   (.cond (.s 8) (.exit 0)
   .skip))
   (.seq (.reg [⟨.mov (.s 0), none, none⟩,
     ⟨.mov (.s 9), none, none⟩,
     ⟨.mov (.s 0), none, none⟩,
     ⟨.mov (.s 10), none, none⟩,
     ⟨.mov (.s 0), none, none⟩,
     ⟨.mov (.s 10), none, none⟩,
     ⟨.iad (.l 4) (.l 5) 2, none, none⟩,
     ⟨.ld (.l 6) 2 true, none, none⟩,
     ⟨.mov (.s 0), none, none⟩,
     ⟨.mov (.s 9), none, none⟩,
     ⟨.iad (.l 8) (.l 9) 2, none, none⟩,
     ⟨.ld (.l 10) 2 true, none, none⟩,
     ⟨.iad (.l 0) (.l 1) 2, none, none⟩,
     ⟨.st (.l 12) (.l 7) 2, none, none⟩,
     ⟨.iad (.l 2) (.l 3) 2, none, none⟩,
     ⟨.st (.l 14) (.l 11) 2, none, none⟩] (some false))
   (.seq (.reg [⟨.mov (.s 9), none, none⟩,
     ⟨.bin .add (.l 0) (.c (.i .i64 1)), none, none⟩,
     ⟨.mov (.l 1), some 9, none⟩] none)
   (.reg [⟨.mov (.s 10), none, none⟩,
     ⟨.bin .sub (.l 0) (.c (.i .i64 1)), none, none⟩,
     ⟨.mov (.l 1), some 10, none⟩] none)))))))
def v87 : VFunc :=
  ⟨5, 11, [.s 5],
  (.seq (.reg [⟨.mov (.c (.i .i64 0)), some 5, none⟩] none)
  (.seq (.reg [⟨.mov (.s 0), none, none⟩,
    ⟨.mov (.s 1), none, none⟩,
    ⟨.mov (.s 0), none, none⟩,
    ⟨.mov (.s 3), none, none⟩,
    ⟨.mov (.s 0), none, none⟩,
    ⟨.mov (.s 3), none, none⟩,
    ⟨.iad (.l 4) (.l 5) 2, none, none⟩,
    ⟨.ld (.l 6) 2 true, none, none⟩,
    ⟨.mov (.s 0), none, none⟩,
    ⟨.mov (.s 1), none, none⟩,
    ⟨.iad (.l 8) (.l 9) 2, none, none⟩,
    ⟨.ld (.l 10) 2 true, none, none⟩,
    ⟨.iad (.l 0) (.l 1) 2, none, none⟩,
    ⟨.st (.l 12) (.l 7) 2, none, none⟩,
    ⟨.iad (.l 2) (.l 3) 2, none, none⟩,
    ⟨.st (.l 14) (.l 11) 2, none, none⟩] (some false))
  (.seq (.reg [⟨.mov (.s 1), none, none⟩,
    ⟨.bin .add (.l 0) (.c (.i .i64 1)), none, none⟩,
    ⟨.mov (.s 2), none, none⟩,
    ⟨.bin .sub (.l 2) (.c (.i .i64 1)), none, none⟩,
    ⟨.mov (.l 1), some 9, none⟩,
    ⟨.mov (.l 3), some 10, none⟩] none)
  (.seq (.block 0 (.loop v87l2))
  (.seq (.reg [⟨.mov (.s 9), none, none⟩,
    ⟨.mov (.l 0), some 5, none⟩] none)
  .ret))))), false⟩

def tm87 : List Nat := [0, 1, 2, 3, 4, 10, 47, 65, 70, 11, 12]
def bs87 : List Nat := []

-- slices.partitionCmpFunc[annuitant/api.Span]
def v88l0 : VCode :=
  (.seq (.seq (.reg [⟨.mov (.s 13), none, none⟩,
    ⟨.mov (.s 14), none, none⟩,
    ⟨.bin .leq (.l 0) (.l 1), none, none⟩,
    ⟨.mov (.l 2), none, none⟩,
    ⟨.mov (.s 4), none, some ((.l 3), true)⟩,
    ⟨.mov (.s 0), none, some ((.l 3), true)⟩,
    ⟨.mov (.s 13), none, some ((.l 3), true)⟩,
    ⟨.iad (.l 5) (.l 6) 2, none, some ((.l 3), true)⟩,
    ⟨.ld (.l 7) 2 true, none, some ((.l 3), true)⟩,
    ⟨.mov (.s 0), none, some ((.l 3), true)⟩,
    ⟨.mov (.s 1), none, some ((.l 3), true)⟩,
    ⟨.iad (.l 9) (.l 10) 2, none, some ((.l 3), true)⟩,
    ⟨.ld (.l 11) 2 true, none, some ((.l 3), true)⟩,
    ⟨.calv (.l 4) [(.l 8), (.l 12)], none, some ((.l 3), true)⟩,
    ⟨.bin .lss (.l 13) (.c (.i .i64 0)), none, some ((.l 3), true)⟩,
    ⟨.pick (.l 3) (.l 14) (.c (.b false)), some 7, none⟩] (some false))
  (.cond (.s 7) .skip
  (.exit 0)))
  (.block 1 (.reg [⟨.mov (.s 13), none, none⟩,
     ⟨.bin .add (.l 0) (.c (.i .i64 1)), none, none⟩,
     ⟨.mov (.l 1), some 13, none⟩] none)))
def v88l1 : VCode :=
  (.seq (.seq (.reg [⟨.mov (.s 13), none, none⟩,
    ⟨.mov (.s 14), none, none⟩,
    ⟨.bin .leq (.l 0) (.l 1), none, none⟩,
    ⟨.mov (.l 2), none, none⟩,
    ⟨.mov (.s 4), none, some ((.l 3), true)⟩,
    ⟨.mov (.s 0), none, some ((.l 3), true)⟩,
    ⟨.mov (.s 14), none, some ((.l 3), true)⟩,
    ⟨.iad (.l 5) (.l 6) 2, none, some ((.l 3), true)⟩,
    ⟨.ld (.l 7) 2 true, none, some ((.l 3), true)⟩,
    ⟨.mov (.s 0), none, some ((.l 3), true)⟩,
    ⟨.mov (.s 1), none, some ((.l 3), true)⟩,
    ⟨.iad (.l 9) (.l 10) 2, none, some ((.l 3), true)⟩,
    ⟨.ld (.l 11) 2 true, none, some ((.l 3), true)⟩,
    ⟨.calv (.l 4) [(.l 8), (.l 12)], none, some ((.l 3), true)⟩,
    ⟨.bin .lss (.l 13) (.c (.i .i64 0)), none, some ((.l 3), true)⟩,
    ⟨.un .not (.l 14), none, some ((.l 3), true)⟩,
    ⟨.pick (.l 3) (.l 15) (.c (.b false)), some 8, none⟩] (some false))
  (.cond (.s 8) .skip
  (.exit 2)))
  (.block 3 (.reg [⟨.mov (.s 14), none, none⟩,
     ⟨.bin .sub (.l 0) (.c (.i .i64 1)), none, none⟩,
     ⟨.mov (.l 1), some 14, none⟩] none)))
def v88l2 : VCode :=
  (.seq (.seq (.reg [⟨.mov (.s 13), none, none⟩,
    ⟨.mov (.s 14), none, none⟩,
    ⟨.bin .leq (.l 0) (.l 1), none, none⟩,
    ⟨.mov (.l 2), none, none⟩,
    ⟨.mov (.s 4), none, some ((.l 3), true)⟩,
    ⟨.mov (.s 0), none, some ((.l 3), true)⟩,
    ⟨.mov (.s 13), none, some ((.l 3), true)⟩,
    ⟨.iad (.l 5) (.l 6) 2, none, some ((.l 3), true)⟩,
    ⟨.ld (.l 7) 2 true, none, some ((.l 3), true)⟩,
    ⟨.mov (.s 0), none, some ((.l 3), true)⟩,
    ⟨.mov (.s 1), none, some ((.l 3), true)⟩,
    ⟨.iad (.l 9) (.l 10) 2, none, some ((.l 3), true)⟩,
    ⟨.ld (.l 11) 2 true, none, some ((.l 3), true)⟩,
    ⟨.calv (.l 4) [(.l 8), (.l 12)], none, some ((.l 3), true)⟩,
    ⟨.bin .lss (.l 13) (.c (.i .i64 0)), none, some ((.l 3), true)⟩,
    ⟨.pick (.l 3) (.l 14) (.c (.b false)), some 10, none⟩] (some false))
  (.cond (.s 10) .skip
  (.exit 6)))
  (.block 7 (.reg [⟨.mov (.s 13), none, none⟩,
     ⟨.bin .add (.l 0) (.c (.i .i64 1)), none, none⟩,
     ⟨.mov (.l 1), some 13, none⟩] none)))
def v88l3 : VCode :=
  (.seq (.seq (.reg [⟨.mov (.s 13), none, none⟩,
    ⟨.mov (.s 14), none, none⟩,
    ⟨.bin .leq (.l 0) (.l 1), none, none⟩,
    ⟨.mov (.l 2), none, none⟩,
    ⟨.mov (.s 4), none, some ((.l 3), true)⟩,
    ⟨.mov (.s 0), none, some ((.l 3), true)⟩,
    ⟨.mov (.s 14), none, some ((.l 3), true)⟩,
    ⟨.iad (.l 5) (.l 6) 2, none, some ((.l 3), true)⟩,
    ⟨.ld (.l 7) 2 true, none, some ((.l 3), true)⟩,
    ⟨.mov (.s 0), none, some ((.l 3), true)⟩,
    ⟨.mov (.s 1), none, some ((.l 3), true)⟩,
    ⟨.iad (.l 9) (.l 10) 2, none, some ((.l 3), true)⟩,
    ⟨.ld (.l 11) 2 true, none, some ((.l 3), true)⟩,
    ⟨.calv (.l 4) [(.l 8), (.l 12)], none, some ((.l 3), true)⟩,
    ⟨.bin .lss (.l 13) (.c (.i .i64 0)), none, some ((.l 3), true)⟩,
    ⟨.un .not (.l 14), none, some ((.l 3), true)⟩,
    ⟨.pick (.l 3) (.l 15) (.c (.b false)), some 11, none⟩] (some false))
  (.cond (.s 11) .skip
  (.exit 8)))
  (.block 9 (.reg [⟨.mov (.s 14), none, none⟩,
     ⟨.bin .sub (.l 0) (.c (.i .i64 1)), none, none⟩,
     ⟨.mov (.l 1), some 14, none⟩] none)))
def v88l4 : VCode :=
  (.block 5 (.seq (.block 6 (.loop v88l2))
   (.seq (.block 8 (.loop v88l3))
   (.seq (.seq (.reg [⟨.mov (.s 13), none, none⟩,
     ⟨.mov (.s 14), none, none⟩,
     ⟨.bin .gtr (.l 0) (.l 1), some 12, none⟩] none)
   (.cond (.s 12) (.exit 4)
   .skip))
   (.seq (.reg [⟨.mov (.s 0), none, none⟩,
     ⟨.mov (.s 13), none, none⟩,
     ⟨.mov (.s 0), none, none⟩,
     ⟨.mov (.s 14), none, none⟩,
     ⟨.mov (.s 0), none, none⟩,
     ⟨.mov (.s 14), none, none⟩,
     ⟨.iad (.l 4) (.l 5) 2, none, none⟩,
     ⟨.ld (.l 6) 2 true, none, none⟩,
     ⟨.mov (.s 0), none, none⟩,
     ⟨.mov (.s 13), none, none⟩,
     ⟨.iad (.l 8) (.l 9) 2, none, none⟩,
     ⟨.ld (.l 10) 2 true, none, none⟩,
     ⟨.iad (.l 0) (.l 1) 2, none, none⟩,
     ⟨.st (.l 12) (.l 7) 2, none, none⟩,
     ⟨.iad (.l 2) (.l 3) 2, none, none⟩,
     ⟨.st (.l 14) (.l 11) 2, none, none⟩] (some false))
   (.seq (.reg [⟨.mov (.s 13), none, none⟩,
     ⟨.bin .add (.l 0) (.c (.i .i64 1)), none, none⟩,
     ⟨.mov (.l 1), some 13, none⟩] none)
   (.reg [⟨.mov (.s 14), none, none⟩,
     ⟨.bin .sub (.l 0) (.c (.i .i64 1)), none, none⟩,
     ⟨.mov (.l 1), some 14, none⟩] none)))))))
def v88 : VFunc :=
  ⟨5, 15, [.s 5, .s 6],
  (.seq (.reg [⟨.mov (.c (.i .i64 0)), some 5, none⟩,
    ⟨.mov (.c (.b false)), some 6, none⟩] none)
  (.seq (.reg [⟨.mov (.s 0), none, none⟩,
    ⟨.mov (.s 1), none, none⟩,
    ⟨.mov (.s 0), none, none⟩,
    ⟨.mov (.s 3), none, none⟩,
    ⟨.mov (.s 0), none, none⟩,
    ⟨.mov (.s 3), none, none⟩,
    ⟨.iad (.l 4) (.l 5) 2, none, none⟩,
    ⟨.ld (.l 6) 2 true, none, none⟩,
    ⟨.mov (.s 0), none, none⟩,
    ⟨.mov (.s 1), none, none⟩,
    ⟨.iad (.l 8) (.l 9) 2, none, none⟩,
    ⟨.ld (.l 10) 2 true, none, none⟩,
    ⟨.iad (.l 0) (.l 1) 2, none, none⟩,
    ⟨.st (.l 12) (.l 7) 2, none, none⟩,
    ⟨.iad (.l 2) (.l 3) 2, none, none⟩,
    ⟨.st (.l 14) (.l 11) 2, none, none⟩] (some false))
  (.seq (.reg [⟨.mov (.s 1), none, none⟩,
    ⟨.bin .add (.l 0) (.c (.i .i64 1)), none, none⟩,
    ⟨.mov (.s 2), none, none⟩,
    ⟨.bin .sub (.l 2) (.c (.i .i64 1)), none, none⟩,
    ⟨.mov (.l 1), some 13, none⟩,
    ⟨.mov (.l 3), some 14, none⟩] none)
  (.seq (.block 0 (.loop v88l0))
  (.seq (.block 2 (.loop v88l1))
  (.seq (.seq (.reg [⟨.mov (.s 13), none, none⟩,
    ⟨.mov (.s 14), none, none⟩,
    ⟨.bin .gtr (.l 0) (.l 1), some 9, none⟩] none)
  (.cond (.s 9) (.seq (.reg [⟨.mov (.s 0), none, none⟩,
     ⟨.mov (.s 14), none, none⟩,
     ⟨.mov (.s 0), none, none⟩,
     ⟨.mov (.s 1), none, none⟩,
     ⟨.mov (.s 0), none, none⟩,
     ⟨.mov (.s 1), none, none⟩,
     ⟨.iad (.l 4) (.l 5) 2, none, none⟩,
     ⟨.ld (.l 6) 2 true, none, none⟩,
     ⟨.mov (.s 0), none, none⟩,
     ⟨.mov (.s 14), none, none⟩,
     ⟨.iad (.l 8) (.l 9) 2, none, none⟩,
     ⟨.ld (.l 10) 2 true, none, none⟩,
     ⟨.iad (.l 0) (.l 1) 2, none, none⟩,
     ⟨.st (.l 12) (.l 7) 2, none, none⟩,
     ⟨.iad (.l 2) (.l 3) 2, none, none⟩,
     ⟨.st (.l 14) (.l 11) 2, none, none⟩] (some false))
   (.seq (.reg [⟨.mov (.s 14), none, none⟩,
     ⟨.mov (.l 0), some 5, none⟩,
     ⟨.mov (.c (.b true)), some 6, none⟩] none)
   .ret))
  .skip))
  (.seq (.reg [⟨.mov (.s 0), none, none⟩,
    ⟨.mov (.s 13), none, none⟩,
    ⟨.mov (.s 0), none, none⟩,
    ⟨.mov (.s 14), none, none⟩,
    ⟨.mov (.s 0), none, none⟩,
    ⟨.mov (.s 14), none, none⟩,
    ⟨.iad (.l 4) (.l 5) 2, none, none⟩,
    ⟨.ld (.l 6) 2 true, none, none⟩,
    ⟨.mov (.s 0), none, none⟩,
    ⟨.mov (.s 13), none, none⟩,
    ⟨.iad (.l 8) (.l 9) 2, none, none⟩,
    ⟨.ld (.l 10) 2 true, none, none⟩,
    ⟨.iad (.l 0) (.l 1) 2, none, none⟩,
    ⟨.st (.l 12) (.l 7) 2, none, none⟩,
    ⟨.iad (.l 2) (.l 3) 2, none, none⟩,
    ⟨.st (.l 14) (.l 11) 2, none, none⟩] (some false))
  (.seq (.reg [⟨.mov (.s 13), none, none⟩,
    ⟨.bin .add (.l 0) (.c (.i .i64 1)), none, none⟩,
    ⟨.mov (.l 1), some 13, none⟩] none)
  (.seq (.reg [⟨.mov (.s 14), none, none⟩,
    ⟨.bin .sub (.l 0) (.c (.i .i64 1)), none, none⟩,
    ⟨.mov (.l 1), some 14, none⟩] none)
  (.seq (.block 4 (.loop v88l4))
  (.seq (.reg [⟨.mov (.s 0), none, none⟩,
    ⟨.mov (.s 14), none, none⟩,
    ⟨.mov (.s 0), none, none⟩,
    ⟨.mov (.s 1), none, none⟩,
    ⟨.mov (.s 0), none, none⟩,
    ⟨.mov (.s 1), none, none⟩,
    ⟨.iad (.l 4) (.l 5) 2, none, none⟩,
    ⟨.ld (.l 6) 2 true, none, none⟩,
    ⟨.mov (.s 0), none, none⟩,
    ⟨.mov (.s 14), none, none⟩,
    ⟨.iad (.l 8) (.l 9) 2, none, none⟩,
    ⟨.ld (.l 10) 2 true, none, none⟩,
    ⟨.iad (.l 0) (.l 1) 2, none, none⟩,
    ⟨.st (.l 12) (.l 7) 2, none, none⟩,
    ⟨.iad (.l 2) (.l 3) 2, none, none⟩,
    ⟨.st (.l 14) (.l 11) 2, none, none⟩] (some false))
  (.seq (.reg [⟨.mov (.s 14), none, none⟩,
    ⟨.mov (.l 0), some 5, none⟩,
    ⟨.mov (.c (.b false)), some 6, none⟩] none)
  .ret)))))))))))), false⟩

def tm88 : List Nat := [0, 1, 2, 3, 4, 10, 11, 47, 66, 71, 120, 139, 144, 12, 13]
def bs88 : List Nat := []

-- math/bits.Len32
def v89 : VFunc :=
  ⟨1, 4, [.s 1],
  (.seq (.reg [⟨.mov (.c (.i .i64 0)), some 1, none⟩] none)
  (.seq (.seq (.reg [⟨.mov (.s 0), none, none⟩,
    ⟨.bin .geq (.l 0) (.c (.i .u32 65536)), some 2, none⟩] none)
  (.cond (.s 2) (.seq (.reg [⟨.mov (.s 0), none, none⟩,
     ⟨.bin .shr (.l 0) (.c (.i .u64 16)), none, none⟩,
     ⟨.mov (.l 1), some 0, none⟩] none)
   (.reg [⟨.mov (.c (.i .i64 16)), some 1, none⟩] none))
  .skip))
  (.seq (.seq (.reg [⟨.mov (.s 0), none, none⟩,
    ⟨.bin .geq (.l 0) (.c (.i .u32 256)), some 3, none⟩] none)
  (.cond (.s 3) (.seq (.reg [⟨.mov (.s 0), none, none⟩,
     ⟨.bin .shr (.l 0) (.c (.i .u64 8)), none, none⟩,
     ⟨.mov (.l 1), some 0, none⟩] none)
   (.reg [⟨.mov (.s 1), none, none⟩,
     ⟨.bin .add (.l 0) (.c (.i .i64 8)), none, none⟩,
     ⟨.mov (.l 1), some 1, none⟩] none))
  .skip))
  (.seq (.reg [⟨.mov (.s 1), none, none⟩,
    ⟨.mov (.s 0), none, none⟩,
    ⟨.cvi .u8 (.l 1), none, none⟩,
    ⟨.ixs (.c (.s [0, 1, 2, 2, 3, 3, 3, 3, 4, 4, 4, 4, 4, 4, 4, 4, 5, 5, 5, 5, 5, 5, 5, 5, 5, 5, 5, 5, 5, 5, 5, 5, 6, 6, 6, 6, 6, 6, 6, 6, 6, 6, 6, 6, 6, 6, 6, 6, 6, 6, 6, 6, 6, 6, 6, 6, 6, 6, 6, 6, 6, 6, 6, 6, 7, 7, 7, 7, 7, 7, 7, 7, 7, 7, 7, 7, 7, 7, 7, 7, 7, 7, 7, 7, 7, 7, 7, 7, 7, 7, 7, 7, 7, 7, 7, 7, 7, 7, 7, 7, 7, 7, 7, 7, 7, 7, 7, 7, 7, 7, 7, 7, 7, 7, 7, 7, 7, 7, 7, 7, 7, 7, 7, 7, 7, 7, 7, 7, 8, 8, 8, 8, 8, 8, 8, 8, 8, 8, 8, 8, 8, 8, 8, 8, 8, 8, 8, 8, 8, 8, 8, 8, 8, 8, 8, 8, 8, 8, 8, 8, 8, 8, 8, 8, 8, 8, 8, 8, 8, 8, 8, 8, 8, 8, 8, 8, 8, 8, 8, 8, 8, 8, 8, 8, 8, 8, 8, 8, 8, 8, 8, 8, 8, 8, 8, 8, 8, 8, 8, 8, 8, 8, 8, 8, 8, 8, 8, 8, 8, 8, 8, 8, 8, 8, 8, 8, 8, 8, 8, 8, 8, 8, 8, 8, 8, 8, 8, 8, 8, 8, 8, 8, 8, 8, 8, 8, 8, 8, 8, 8, 8, 8, 8, 8, 8, 8, 8, 8, 8, 8, 8, 8, 8, 8, 8, 8])) (.l 2), none, none⟩,
    ⟨.cvi .i64 (.l 3), none, none⟩,
    ⟨.bin .add (.l 0) (.l 4), none, none⟩,
    ⟨.mov (.l 5), some 1, none⟩] none)
  .ret)))), true⟩

def tm89 : List Nat := [0, 2, 4, 8]
def bs89 : List Nat := []

-- math/bits.Len64
def v90 : VFunc :=
  ⟨1, 5, [.s 1],
  (.seq (.reg [⟨.mov (.c (.i .i64 0)), some 1, none⟩] none)
  (.seq (.seq (.reg [⟨.mov (.s 0), none, none⟩,
    ⟨.bin .geq (.l 0) (.c (.i .u64 4294967296)), some 2, none⟩] none)
  (.cond (.s 2) (.seq (.reg [⟨.mov (.s 0), none, none⟩,
     ⟨.bin .shr (.l 0) (.c (.i .u64 32)), none, none⟩,
     ⟨.mov (.l 1), some 0, none⟩] none)
   (.reg [⟨.mov (.c (.i .i64 32)), some 1, none⟩] none))
  .skip))
  (.seq (.seq (.reg [⟨.mov (.s 0), none, none⟩,
    ⟨.bin .geq (.l 0) (.c (.i .u64 65536)), some 3, none⟩] none)
  (.cond (.s 3) (.seq (.reg [⟨.mov (.s 0), none, none⟩,
     ⟨.bin .shr (.l 0) (.c (.i .u64 16)), none, none⟩,
     ⟨.mov (.l 1), some 0, none⟩] none)
   (.reg [⟨.mov (.s 1), none, none⟩,
     ⟨.bin .add (.l 0) (.c (.i .i64 16)), none, none⟩,
     ⟨.mov (.l 1), some 1, none⟩] none))
  .skip))
  (.seq (.seq (.reg [⟨.mov (.s 0), none, none⟩,
    ⟨.bin .geq (.l 0) (.c (.i .u64 256)), some 4, none⟩] none)
  (.cond (.s 4) (.seq (.reg [⟨.mov (.s 0), none, none⟩,
     ⟨.bin .shr (.l 0) (.c (.i .u64 8)), none, none⟩,
     ⟨.mov (.l 1), some 0, none⟩] none)
   (.reg [⟨.mov (.s 1), none, none⟩,
     ⟨.bin .add (.l 0) (.c (.i .i64 8)), none, none⟩,
     ⟨.mov (.l 1), some 1, none⟩] none))
  .skip))
  (.seq (.reg [⟨.mov (.s 1), none, none⟩,
    ⟨.mov (.s 0), none, none⟩,
    ⟨.cvi .u8 (.l 1), none, none⟩,
    ⟨.ixs (.c (.s [0, 1, 2, 2, 3, 3, 3, 3, 4, 4, 4, 4, 4, 4, 4, 4, 5, 5, 5, 5, 5, 5, 5, 5, 5, 5, 5, 5, 5, 5, 5, 5, 6, 6, 6, 6, 6, 6, 6, 6, 6, 6, 6, 6, 6, 6, 6, 6, 6, 6, 6, 6, 6, 6, 6, 6, 6, 6, 6, 6, 6, 6, 6, 6, 7, 7, 7, 7, 7, 7, 7, 7, 7, 7, 7, 7, 7, 7, 7, 7, 7, 7, 7, 7, 7, 7, 7, 7, 7, 7, 7, 7, 7, 7, 7, 7, 7, 7, 7, 7, 7, 7, 7, 7, 7, 7, 7, 7, 7, 7, 7, 7, 7, 7, 7, 7, 7, 7, 7, 7, 7, 7, 7, 7, 7, 7, 7, 7, 8, 8, 8, 8, 8, 8, 8, 8, 8, 8, 8, 8, 8, 8, 8, 8, 8, 8, 8, 8, 8, 8, 8, 8, 8, 8, 8, 8, 8, 8, 8, 8, 8, 8, 8, 8, 8, 8, 8, 8, 8, 8, 8, 8, 8, 8, 8, 8, 8, 8, 8, 8, 8, 8, 8, 8, 8, 8, 8, 8, 8, 8, 8, 8, 8, 8, 8, 8, 8, 8, 8, 8, 8, 8, 8, 8, 8, 8, 8, 8, 8, 8, 8, 8, 8, 8, 8, 8, 8, 8, 8, 8, 8, 8, 8, 8, 8, 8, 8, 8, 8, 8, 8, 8, 8, 8, 8, 8, 8, 8, 8, 8, 8, 8, 8, 8, 8, 8, 8, 8, 8, 8, 8, 8, 8, 8, 8, 8])) (.l 2), none, none⟩,
    ⟨.cvi .i64 (.l 3), none, none⟩,
    ⟨.bin .add (.l 0) (.l 4), none, none⟩,
    ⟨.mov (.l 5), some 1, none⟩] none)
  .ret))))), true⟩

def tm90 : List Nat := [0, 2, 4, 8, 14]
def bs90 : List Nat := []

-- slices.siftDownCmpFunc[annuitant/api.Span]
def v91l0 : VCode :=
  (.block 1 (.seq (.reg [⟨.mov (.s 8), none, none⟩,
     ⟨.bin .mul (.c (.i .i64 2)) (.l 0), none, none⟩,
     ⟨.bin .add (.l 1) (.c (.i .i64 1)), none, none⟩,
     ⟨.mov (.l 2), some 9, none⟩] none)
   (.seq (.seq (.reg [⟨.mov (.s 9), none, none⟩,
     ⟨.mov (.s 2), none, none⟩,
     ⟨.bin .geq (.l 0) (.l 1), some 5, none⟩] none)
   (.cond (.s 5) (.exit 0)
   .skip))
   (.seq (.seq (.reg [⟨.mov (.s 9), none, none⟩,
     ⟨.bin .add (.l 0) (.c (.i .i64 1)), none, none⟩,
     ⟨.mov (.s 2), none, none⟩,
     ⟨.bin .lss (.l 1) (.l 2), none, none⟩,
     ⟨.mov (.l 3), none, none⟩,
     ⟨.mov (.s 4), none, some ((.l 4), true)⟩,
     ⟨.mov (.s 0), none, some ((.l 4), true)⟩,
     ⟨.mov (.s 3), none, some ((.l 4), true)⟩,
     ⟨.mov (.s 9), none, some ((.l 4), true)⟩,
     ⟨.bin .add (.l 7) (.l 8), none, some ((.l 4), true)⟩,
     ⟨.iad (.l 6) (.l 9) 2, none, some ((.l 4), true)⟩,
     ⟨.ld (.l 10) 2 true, none, some ((.l 4), true)⟩,
     ⟨.mov (.s 0), none, some ((.l 4), true)⟩,
     ⟨.mov (.s 3), none, some ((.l 4), true)⟩,
     ⟨.mov (.s 9), none, some ((.l 4), true)⟩,
     ⟨.bin .add (.l 13) (.l 14), none, some ((.l 4), true)⟩,
     ⟨.bin .add (.l 15) (.c (.i .i64 1)), none, some ((.l 4), true)⟩,
     ⟨.iad (.l 12) (.l 16) 2, none, some ((.l 4), true)⟩,
     ⟨.ld (.l 17) 2 true, none, some ((.l 4), true)⟩,
     ⟨.calv (.l 5) [(.l 11), (.l 18)], none, some ((.l 4), true)⟩,
     ⟨.bin .lss (.l 19) (.c (.i .i64 0)), none, some ((.l 4), true)⟩,
     ⟨.pick (.l 4) (.l 20) (.c (.b false)), some 6, none⟩] (some false))
   (.cond (.s 6) (.reg [⟨.mov (.s 9), none, none⟩,
      ⟨.bin .add (.l 0) (.c (.i .i64 1)), none, none⟩,
      ⟨.mov (.l 1), some 9, none⟩] none)
   .skip))
   (.seq (.seq (.reg [⟨.mov (.s 4), none, none⟩,
     ⟨.mov (.s 0), none, none⟩,
     ⟨.mov (.s 3), none, none⟩,
     ⟨.mov (.s 8), none, none⟩,
     ⟨.bin .add (.l 2) (.l 3), none, none⟩,
     ⟨.iad (.l 1) (.l 4) 2, none, none⟩,
     ⟨.ld (.l 5) 2 true, none, none⟩,
     ⟨.mov (.s 0), none, none⟩,
     ⟨.mov (.s 3), none, none⟩,
     ⟨.mov (.s 9), none, none⟩,
     ⟨.bin .add (.l 8) (.l 9), none, none⟩,
     ⟨.iad (.l 7) (.l 10) 2, none, none⟩,
     ⟨.ld (.l 11) 2 true, none, none⟩,
     ⟨.calv (.l 0) [(.l 6), (.l 12)], none, none⟩,
     ⟨.bin .lss (.l 13) (.c (.i .i64 0)), none, none⟩,
     ⟨.un .not (.l 14), some 7, none⟩] (some false))
   (.cond (.s 7) .ret
   .skip))
   (.seq (.reg [⟨.mov (.s 0), none, none⟩,
     ⟨.mov (.s 3), none, none⟩,
     ⟨.mov (.s 8), none, none⟩,
     ⟨.bin .add (.l 1) (.l 2), none, none⟩,
     ⟨.mov (.s 0), none, none⟩,
     ⟨.mov (.s 3), none, none⟩,
     ⟨.mov (.s 9), none, none⟩,
     ⟨.bin .add (.l 5) (.l 6), none, none⟩,
     ⟨.mov (.s 0), none, none⟩,
     ⟨.mov (.s 3), none, none⟩,
     ⟨.mov (.s 9), none, none⟩,
     ⟨.bin .add (.l 9) (.l 10), none, none⟩,
     ⟨.iad (.l 8) (.l 11) 2, none, none⟩,
     ⟨.ld (.l 12) 2 true, none, none⟩,
     ⟨.mov (.s 0), none, none⟩,
     ⟨.mov (.s 3), none, none⟩,
     ⟨.mov (.s 8), none, none⟩,
     ⟨.bin .add (.l 15) (.l 16), none, none⟩,
     ⟨.iad (.l 14) (.l 17) 2, none, none⟩,
     ⟨.ld (.l 18) 2 true, none, none⟩,
     ⟨.iad (.l 0) (.l 3) 2, none, none⟩,
     ⟨.st (.l 20) (.l 13) 2, none, none⟩,
     ⟨.iad (.l 4) (.l 7) 2, none, none⟩,
     ⟨.st (.l 22) (.l 19) 2, none, none⟩] (some false))
   (.reg [⟨.mov (.s 9), none, none⟩,
     ⟨.mov (.l 0), some 8, none⟩] none)))))))
def v91 : VFunc :=
  ⟨5, 10, [],
  (.seq (.reg [⟨.mov (.s 1), none, none⟩,
    ⟨.mov (.l 0), some 8, none⟩] none)
  (.block 0 (.loop v91l0))), false⟩

def tm91 : List Nat := [0, 1, 2, 3, 4, 18, 40, 58, 10, 11]
def bs91 : List Nat := []

-- slices.nextPowerOfTwo
def v92 : VFunc :=
  ⟨1, 2, [.s 1],
  (.seq (.reg [⟨.mov (.c (.i .u64 0)), some 1, none⟩] none)
  (.seq (.reg [⟨.mov (.s 0), none, none⟩,
    ⟨.cvi .u64 (.l 0), none, none⟩,
    ⟨.call 78 [(.l 1)], none, none⟩,
    ⟨.bin .shl (.c (.i .u64 1)) (.l 2), none, none⟩,
    ⟨.mov (.l 3), some 1, none⟩] none)
  .ret)), true⟩

def tm92 : List Nat := [0, 2]
def bs92 : List Nat := []

-- (*slices.xorshift).Next
def v93 : VFunc :=
  ⟨1, 2, [.s 1],
  (.seq (.reg [⟨.mov (.c (.i .u64 0)), some 1, none⟩] none)
  (.seq (.reg [⟨.mov (.s 0), none, none⟩,
    ⟨.nck (.l 0), none, none⟩,
    ⟨.ld (.l 1) 1 false, none, none⟩,
    ⟨.mov (.s 0), none, none⟩,
    ⟨.nck (.l 3), none, none⟩,
    ⟨.ld (.l 4) 1 false, none, none⟩,
    ⟨.bin .shl (.l 5) (.c (.i .u64 13)), none, none⟩,
    ⟨.bin .xor (.l 2) (.l 6), none, none⟩,
    ⟨.nck (.l 0), none, none⟩,
    ⟨.st (.l 8) (.l 7) 1, none, none⟩] (some false))
  (.seq (.reg [⟨.mov (.s 0), none, none⟩,
    ⟨.nck (.l 0), none, none⟩,
    ⟨.ld (.l 1) 1 false, none, none⟩,
    ⟨.mov (.s 0), none, none⟩,
    ⟨.nck (.l 3), none, none⟩,
    ⟨.ld (.l 4) 1 false, none, none⟩,
    ⟨.bin .shr (.l 5) (.c (.i .u64 7)), none, none⟩,
    ⟨.bin .xor (.l 2) (.l 6), none, none⟩,
    ⟨.nck (.l 0), none, none⟩,
    ⟨.st (.l 8) (.l 7) 1, none, none⟩] (some false))
  (.seq (.reg [⟨.mov (.s 0), none, none⟩,
    ⟨.nck (.l 0), none, none⟩,
    ⟨.ld (.l 1) 1 false, none, none⟩,
    ⟨.mov (.s 0), none, none⟩,
    ⟨.nck (.l 3), none, none⟩,
    ⟨.ld (.l 4) 1 false, none, none⟩,
    ⟨.bin .shl (.l 5) (.c (.i .u64 17)), none, none⟩,
    ⟨.bin .xor (.l 2) (.l 6), none, none⟩,
    ⟨.nck (.l 0), none, none⟩,
    ⟨.st (.l 8) (.l 7) 1, none, none⟩] (some false))
  (.seq (.reg [⟨.mov (.s 0), none, none⟩,
    ⟨.nck (.l 0), none, none⟩,
    ⟨.ld (.l 1) 1 false, none, none⟩,
    ⟨.mov (.l 2), some 1, none⟩] none)
  .ret))))), false⟩

def tm93 : List Nat := [0, 2]
def bs93 : List Nat := []

-- slices.medianAdjacentCmpFunc[annuitant/api.Span]
def v94 : VFunc :=
  ⟨4, 5, [.s 4],
  (.seq (.reg [⟨.mov (.c (.i .i64 0)), some 4, none⟩] none)
  (.seq (.reg [⟨.mov (.s 0), none, none⟩,
    ⟨.mov (.s 1), none, none⟩,
    ⟨.bin .sub (.l 1) (.c (.i .i64 1)), none, none⟩,
    ⟨.mov (.s 1), none, none⟩,
    ⟨.mov (.s 1), none, none⟩,
    ⟨.bin .add (.l 4) (.c (.i .i64 1)), none, none⟩,
    ⟨.mov (.s 2), none, none⟩,
    ⟨.mov (.s 3), none, none⟩,
    ⟨.call 95 [(.l 0), (.l 2), (.l 3), (.l 5), (.l 6), (.l 7)], none, none⟩,
    ⟨.mov (.l 8), some 4, none⟩] none)
  .ret)), false⟩

def tm94 : List Nat := [0, 1, 2, 3, 8]
def bs94 : List Nat := []

-- slices.medianCmpFunc[annuitant/api.Span]
def v95 : VFunc :=
  ⟨6, 7, [.s 6],
  (.seq (.reg [⟨.mov (.c (.i .i64 0)), some 6, none⟩] none)
  (.seq (.reg [⟨.mov (.s 0), none, none⟩,
    ⟨.mov (.s 1), none, none⟩,
    ⟨.mov (.s 2), none, none⟩,
    ⟨.mov (.s 4), none, none⟩,
    ⟨.mov (.s 5), none, none⟩,
    ⟨.call 96 [(.l 0), (.l 1), (.l 2), (.l 3), (.l 4)], none, none⟩,
    ⟨.mov (.l 5), none, none⟩,
    ⟨.ext (.l 6) 0, none, none⟩,
    ⟨.ext (.l 6) 1, none, none⟩,
    ⟨.mov (.l 7), some 1, none⟩,
    ⟨.mov (.l 8), some 2, none⟩] none)
  (.seq (.reg [⟨.mov (.s 0), none, none⟩,
    ⟨.mov (.s 2), none, none⟩,
    ⟨.mov (.s 3), none, none⟩,
    ⟨.mov (.s 4), none, none⟩,
    ⟨.mov (.s 5), none, none⟩,
    ⟨.call 96 [(.l 0), (.l 1), (.l 2), (.l 3), (.l 4)], none, none⟩,
    ⟨.mov (.l 5), none, none⟩,
    ⟨.ext (.l 6) 0, none, none⟩,
    ⟨.ext (.l 6) 1, none, none⟩,
    ⟨.mov (.l 7), some 2, none⟩,
    ⟨.mov (.l 8), some 3, none⟩] none)
  (.seq (.reg [⟨.mov (.s 0), none, none⟩,
    ⟨.mov (.s 1), none, none⟩,
    ⟨.mov (.s 2), none, none⟩,
    ⟨.mov (.s 4), none, none⟩,
    ⟨.mov (.s 5), none, none⟩,
    ⟨.call 96 [(.l 0), (.l 1), (.l 2), (.l 3), (.l 4)], none, none⟩,
    ⟨.mov (.l 5), none, none⟩,
    ⟨.ext (.l 6) 0, none, none⟩,
    ⟨.ext (.l 6) 1, none, none⟩,
    ⟨.mov (.l 7), some 1, none⟩,
    ⟨.mov (.l 8), some 2, none⟩] none)
  (.seq (.reg [⟨.mov (.s 2), none, none⟩,
    ⟨.mov (.l 0), some 6, none⟩] none)
  .ret))))), false⟩

def tm95 : List Nat := [0, 1, 2, 3, 4, 5, 12]
def bs95 : List Nat := []

-- slices.order2CmpFunc[annuitant/api.Span]
def v96 : VFunc :=
  ⟨5, 8, [.s 5, .s 6],
  (.seq (.reg [⟨.mov (.c (.i .i64 0)), some 5, none⟩,
    ⟨.mov (.c (.i .i64 0)), some 6, none⟩] none)
  (.seq (.seq (.reg [⟨.mov (.s 4), none, none⟩,
    ⟨.mov (.s 0), none, none⟩,
    ⟨.mov (.s 2), none, none⟩,
    ⟨.iad (.l 1) (.l 2) 2, none, none⟩,
    ⟨.ld (.l 3) 2 true, none, none⟩,
    ⟨.mov (.s 0), none, none⟩,
    ⟨.mov (.s 1), none, none⟩,
    ⟨.iad (.l 5) (.l 6) 2, none, none⟩,
    ⟨.ld (.l 7) 2 true, none, none⟩,
    ⟨.calv (.l 0) [(.l 4), (.l 8)], none, none⟩,
    ⟨.bin .lss (.l 9) (.c (.i .i64 0)), some 7, none⟩] (some false))
  (.cond (.s 7) (.seq (.reg [⟨.mov (.s 3), none, none⟩,
     ⟨.nck (.l 0), none, none⟩,
     ⟨.ld (.l 1) 1 false, none, none⟩,
     ⟨.bin .add (.l 2) (.c (.i .i64 1)), none, none⟩,
     ⟨.nck (.l 0), none, none⟩,
     ⟨.st (.l 4) (.l 3) 1, none, none⟩] none)
   (.seq (.reg [⟨.mov (.s 2), none, none⟩,
     ⟨.mov (.s 1), none, none⟩,
     ⟨.mov (.l 0), some 5, none⟩,
     ⟨.mov (.l 1), some 6, none⟩] none)
   .ret))
  .skip))
  (.seq (.reg [⟨.mov (.s 1), none, none⟩,
    ⟨.mov (.s 2), none, none⟩,
    ⟨.mov (.l 0), some 5, none⟩,
    ⟨.mov (.l 1), some 6, none⟩] none)
  .ret))), false⟩

def tm96 : List Nat := [0, 1, 2, 3, 4, 10, 11, 22]
def bs96 : List Nat := []

def fns : List (FuncId × VFunc) :=
  [(5, v5), (7, v7), (8, v8), (9, v9), (10, v10), (11, v11), (12, v12), (13, v13), (14, v14), (15, v15), (16, v16), (20, v20), (21, v21), (22, v22), (23, v23), (24, v24), (25, v25), (26, v26), (27, v27), (28, v28), (30, v30), (31, v31), (32, v32), (33, v33), (34, v34), (35, v35), (37, v37), (38, v38), (39, v39), (40, v40), (41, v41), (42, v42), (43, v43), (44, v44), (45, v45), (46, v46), (47, v47), (48, v48), (49, v49), (50, v50), (51, v51), (52, v52), (53, v53), (54, v54), (57, v57), (58, v58), (59, v59), (60, v60), (61, v61), (62, v62), (63, v63), (67, v67), (68, v68), (69, v69), (70, v70), (71, v71), (72, v72), (73, v73), (74, v74), (77, v77), (78, v78), (79, v79), (80, v80), (81, v81), (82, v82), (83, v83), (84, v84), (85, v85), (86, v86), (87, v87), (88, v88), (89, v89), (90, v90), (91, v91), (92, v92), (93, v93), (94, v94), (95, v95), (96, v96)]
def fnOf : List (FuncId × VFunc) → FuncId → Option VFunc
  | [], _ => none
  | (g, v) :: r, f => if g = f then some v else fnOf r f
def V : VProg := ⟨fnOf fns, fun _ _ => none⟩
end Go.Proofs.Ytkogdbgccjmaoaa.Dv
