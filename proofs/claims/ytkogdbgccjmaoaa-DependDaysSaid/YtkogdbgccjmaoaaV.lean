/-
  The machine's code of the program's functions, by program.
-/
import Derived.Test.YtkogdbgccjmaoaaDa
namespace Go.Proofs.Ytkogdbgccjmaoaa.Dv
open Go.Dm

-- annuitant/annuitantlaw25.DependTells
def v3l0 : VCode :=
  (.seq (.reg [⟨.bin .lss (.s 23) (.s 24), some 10, none⟩] none)
  (.seq (.cond (.s 10) .skip
  (.exit 0))
  (.seq (.block 1 (.seq (.reg [⟨.mov (.s 23), none, none⟩,
     ⟨.mov (.l 0), some 25, none⟩] none)
   (.seq (.reg [⟨.mov (.s 21), none, none⟩,
     ⟨.mov (.s 25), none, none⟩,
     ⟨.iad (.l 0) (.l 1) 1, none, none⟩,
     ⟨.ld (.l 2) 1 false, none, none⟩,
     ⟨.mov (.s 22), none, none⟩,
     ⟨.mov (.s 25), none, none⟩,
     ⟨.iad (.l 4) (.l 5) 1, none, none⟩,
     ⟨.ld (.l 6) 1 false, none, none⟩,
     ⟨.bin .neq (.l 3) (.l 7), some 11, none⟩] (some false))
   (.cond (.s 11) (.seq (.reg [⟨.mov (.c (.b false)), some 6, none⟩] none)
    .ret)
   .skip))))
  (.reg [⟨.bin .add (.s 23) (.c (.i .i64 1)), none, none⟩,
    ⟨.mov (.l 0), some 23, none⟩] none))))
def v3 : VFunc :=
  ⟨6, 26, [.s 6],
  (.seq (.reg [⟨.lbx (.s 0) 3, some 12, none⟩,
    ⟨.lbx (.s 1) 11, some 13, none⟩,
    ⟨.lbx (.s 2) 24, some 15, none⟩,
    ⟨.lbx (.s 4) 7, some 16, none⟩,
    ⟨.mov (.c (.b false)), some 6, none⟩] none)
  (.seq (.seq (.reg [⟨.lld (.sl 12) 3 true, none, none⟩,
    ⟨.call 7 [(.l 0)], none, none⟩,
    ⟨.un .not (.l 1), some 7, none⟩] none)
  (.cond (.s 7) (.seq (.reg [⟨.call 8 [], none, none⟩,
     ⟨.mov (.l 0), some 6, none⟩] none)
   .ret)
  .skip))
  (.seq (.reg [⟨.lld (.sl 12) 3 true, none, none⟩,
    ⟨.call 9 [(.l 0)], none, none⟩,
    ⟨.lal [.nil, .nil, .nil], some 14, none⟩,
    ⟨.lst (.sl 14) (.l 1) 3, none, none⟩] none)
  (.seq (.seq (.reg [⟨.lld (.sl 12) 3 true, none, none⟩,
    ⟨.lld (.sl 13) 11 true, none, none⟩,
    ⟨.mov (.s 5), none, none⟩,
    ⟨.call 10 [(.l 0), (.l 1), (.l 2)], none, none⟩,
    ⟨.lld (.sl 14) 3 true, none, none⟩,
    ⟨.lld (.sl 13) 11 true, none, none⟩,
    ⟨.mov (.s 5), none, none⟩,
    ⟨.call 11 [(.l 4), (.l 5), (.l 6)], none, none⟩,
    ⟨.eqv true .b (.l 3) (.l 7), none, none⟩,
    ⟨.mov (.l 8), none, none⟩,
    ⟨.lld (.sl 12) 3 true, none, some ((.l 9), false)⟩,
    ⟨.lld (.sl 15) 24 true, none, some ((.l 9), false)⟩,
    ⟨.mov (.s 5), none, some ((.l 9), false)⟩,
    ⟨.call 12 [(.l 10), (.l 11), (.l 12)], none, some ((.l 9), false)⟩,
    ⟨.lld (.sl 14) 3 true, none, some ((.l 9), false)⟩,
    ⟨.lld (.sl 15) 24 true, none, some ((.l 9), false)⟩,
    ⟨.mov (.s 5), none, some ((.l 9), false)⟩,
    ⟨.call 13 [(.l 14), (.l 15), (.l 16)], none, some ((.l 9), false)⟩,
    ⟨.eqv true .b (.l 13) (.l 17), none, some ((.l 9), false)⟩,
    ⟨.pick (.l 9) (.c (.b true)) (.l 18), none, none⟩,
    ⟨.mov (.l 19), none, none⟩,
    ⟨.lld (.sl 12) 3 true, none, some ((.l 20), false)⟩,
    ⟨.mov (.s 3), none, some ((.l 20), false)⟩,
    ⟨.lld (.sl 16) 7 true, none, some ((.l 20), false)⟩,
    ⟨.mov (.s 5), none, some ((.l 20), false)⟩,
    ⟨.call 14 [(.l 21), (.l 22), (.l 23), (.l 24)], none, some ((.l 20), false)⟩,
    ⟨.lld (.sl 14) 3 true, none, some ((.l 20), false)⟩,
    ⟨.mov (.s 3), none, some ((.l 20), false)⟩,
    ⟨.lld (.sl 16) 7 true, none, some ((.l 20), false)⟩,
    ⟨.mov (.s 5), none, some ((.l 20), false)⟩,
    ⟨.call 15 [(.l 26), (.l 27), (.l 28), (.l 29)], none, some ((.l 20), false)⟩,
    ⟨.eqv true .b (.l 25) (.l 30), none, some ((.l 20), false)⟩,
    ⟨.pick (.l 20) (.c (.b true)) (.l 31), some 8, none⟩] (some false))
  (.cond (.s 8) (.seq (.reg [⟨.mov (.c (.b false)), some 6, none⟩] none)
   .ret)
  .skip))
  (.seq (.reg [⟨.lld (.sl 12) 3 true, none, none⟩,
    ⟨.mov (.s 3), none, none⟩,
    ⟨.call 16 [(.l 0), (.l 1)], none, none⟩,
    ⟨.mov (.l 2), none, none⟩,
    ⟨.ext (.l 3) 0, none, none⟩,
    ⟨.ext (.l 3) 1, none, none⟩,
    ⟨.mov (.l 4), some 19, none⟩,
    ⟨.mov (.l 5), some 17, none⟩] none)
  (.seq (.reg [⟨.lld (.sl 14) 3 true, none, none⟩,
    ⟨.mov (.s 3), none, none⟩,
    ⟨.call 17 [(.l 0), (.l 1)], none, none⟩,
    ⟨.mov (.l 2), none, none⟩,
    ⟨.ext (.l 3) 0, none, none⟩,
    ⟨.ext (.l 3) 1, none, none⟩,
    ⟨.mov (.l 4), some 20, none⟩,
    ⟨.mov (.l 5), some 18, none⟩] none)
  (.seq (.reg [⟨.lld (.sl 12) 3 true, none, none⟩,
    ⟨.call 18 [(.l 0)], none, none⟩,
    ⟨.lld (.sl 14) 3 true, none, none⟩,
    ⟨.call 19 [(.l 2)], none, none⟩,
    ⟨.mov (.l 1), some 21, none⟩,
    ⟨.mov (.l 3), some 22, none⟩] (some false))
  (.seq (.seq (.reg [⟨.mov (.s 17), none, none⟩,
    ⟨.mov (.s 18), none, none⟩,
    ⟨.bin .neq (.l 0) (.l 1), none, none⟩,
    ⟨.mov (.l 2), none, none⟩,
    ⟨.mov (.s 19), none, some ((.l 3), false)⟩,
    ⟨.mov (.s 20), none, some ((.l 3), false)⟩,
    ⟨.call 20 [(.l 4), (.l 5)], none, some ((.l 3), false)⟩,
    ⟨.un .not (.l 6), none, some ((.l 3), false)⟩,
    ⟨.pick (.l 3) (.c (.b true)) (.l 7), none, none⟩,
    ⟨.mov (.l 8), none, none⟩,
    ⟨.mov (.s 21), none, some ((.l 9), false)⟩,
    ⟨.len 1 (.l 10), none, some ((.l 9), false)⟩,
    ⟨.mov (.s 22), none, some ((.l 9), false)⟩,
    ⟨.len 1 (.l 12), none, some ((.l 9), false)⟩,
    ⟨.bin .neq (.l 11) (.l 13), none, some ((.l 9), false)⟩,
    ⟨.pick (.l 9) (.c (.b true)) (.l 14), some 9, none⟩] none)
  (.cond (.s 9) (.seq (.reg [⟨.mov (.c (.b false)), some 6, none⟩] none)
   .ret)
  .skip))
  (.seq (.seq (.reg [⟨.mov (.s 21), none, none⟩,
    ⟨.len 1 (.l 0), some 24, none⟩,
    ⟨.mov (.c (.i .i64 0)), some 23, none⟩] none)
  (.block 0 (.loop v3l0)))
  (.seq (.reg [⟨.call 8 [], none, none⟩,
    ⟨.mov (.l 0), some 6, none⟩] none)
  .ret)))))))))), true, false⟩

def tm3 : List Nat := [0, 1, 2, 3, 4, 5, 12, 23, 59, 91, 95, 105, 6, 7, 13, 8, 10, 15, 17, 14, 16, 18, 19, 94, 93, 20]
def bs3 : List Nat := [12, 13, 14, 15, 16]

-- annuitant/annuitantlaw25.DependDays
def v6l0 : VCode :=
  (.seq (.reg [⟨.bin .lss (.s 9) (.s 10), some 5, none⟩] none)
  (.seq (.cond (.s 5) .skip
  (.exit 0))
  (.seq (.block 1 (.seq (.reg [⟨.iad (.s 11) (.s 9) 1, none, none⟩,
     ⟨.ld (.l 0) 1 false, none, none⟩,
     ⟨.mov (.l 1), some 12, none⟩] none)
   (.reg [⟨.mov (.s 8), none, none⟩,
     ⟨.mov (.l 0), none, none⟩,
     ⟨.mov (.s 12), none, some ((.l 1), false)⟩,
     ⟨.mov (.s 1), none, some ((.l 1), false)⟩,
     ⟨.bin .eql (.l 2) (.l 3), none, some ((.l 1), false)⟩,
     ⟨.pick (.l 1) (.c (.b true)) (.l 4), none, none⟩,
     ⟨.mov (.l 5), some 8, none⟩] none)))
  (.reg [⟨.bin .add (.s 9) (.c (.i .i64 1)), none, none⟩,
    ⟨.mov (.l 0), some 9, none⟩] none))))
def v6 : VFunc :=
  ⟨3, 15, [.s 3],
  (.seq (.reg [⟨.lbx (.s 0) 3, some 6, none⟩,
    ⟨.mov (.c (.b false)), some 3, none⟩] none)
  (.seq (.reg [⟨.lld (.sl 6) 3 true, none, none⟩,
    ⟨.mov (.s 1), none, none⟩,
    ⟨.call 16 [(.l 0), (.l 1)], none, none⟩,
    ⟨.mov (.l 2), none, none⟩,
    ⟨.ext (.l 3) 0, none, none⟩,
    ⟨.ext (.l 3) 1, none, none⟩,
    ⟨.mov (.l 4), some 14, none⟩,
    ⟨.mov (.l 5), some 7, none⟩] none)
  (.seq (.seq (.reg [⟨.lld (.sl 6) 3 true, none, none⟩,
    ⟨.call 7 [(.l 0)], none, none⟩,
    ⟨.un .not (.l 1), none, none⟩,
    ⟨.mov (.l 2), none, none⟩,
    ⟨.mov (.s 7), none, some ((.l 3), false)⟩,
    ⟨.bin .neq (.l 4) (.c (.i .i64 0)), none, some ((.l 3), false)⟩,
    ⟨.pick (.l 3) (.c (.b true)) (.l 5), none, none⟩,
    ⟨.mov (.l 6), none, none⟩,
    ⟨.mov (.s 2), none, some ((.l 7), false)⟩,
    ⟨.bin .lss (.l 8) (.c (.i .i64 0)), none, some ((.l 7), false)⟩,
    ⟨.pick (.l 7) (.c (.b true)) (.l 9), none, none⟩,
    ⟨.mov (.l 10), none, none⟩,
    ⟨.mov (.s 2), none, some ((.l 11), false)⟩,
    ⟨.bin .geq (.l 12) (.c (.i .i64 65536)), none, some ((.l 11), false)⟩,
    ⟨.pick (.l 11) (.c (.b true)) (.l 13), some 4, none⟩] none)
  (.cond (.s 4) (.seq (.reg [⟨.call 8 [], none, none⟩,
     ⟨.mov (.l 0), some 3, none⟩] none)
   .ret)
  .skip))
  (.seq (.reg [⟨.lld (.sl 6) 3 true, none, none⟩,
    ⟨.mov (.s 1), none, none⟩,
    ⟨.mov (.s 2), none, none⟩,
    ⟨.mov (.s 2), none, none⟩,
    ⟨.bin .add (.l 3) (.c (.i .i64 1)), none, none⟩,
    ⟨.agc [(.s []), (.i .i64 0), (.i .i64 0), (.i .i64 0), (.b false), (.i .u8 0), (.b false), .nil, (.b false), .nil, (.i .i64 0)] [(0, 1, (.l 1)), (1, 1, (.l 2)), (2, 1, (.l 4))], none, none⟩,
    ⟨.call 10 [(.l 0), (.l 5), (.c (.i .i64 0))], none, none⟩,
    ⟨.mov (.l 6), some 13, none⟩] none)
  (.seq (.reg [⟨.mov (.c (.b false)), some 8, none⟩] none)
  (.seq (.seq (.reg [⟨.lld (.sl 6) 3 true, none, none⟩,
    ⟨.call 18 [(.l 0)], some 11, none⟩,
    ⟨.len 1 (.s 11), some 10, none⟩,
    ⟨.mov (.c (.i .i64 0)), some 9, none⟩] none)
  (.block 0 (.loop v6l0)))
  (.seq (.reg [⟨.mov (.s 13), none, none⟩,
    ⟨.mov (.s 14), none, none⟩,
    ⟨.mov (.s 2), none, none⟩,
    ⟨.call 29 [(.l 1), (.l 2)], none, none⟩,
    ⟨.eqv false .b (.l 0) (.l 3), none, none⟩,
    ⟨.mov (.l 4), none, none⟩,
    ⟨.mov (.s 8), none, some ((.l 5), true)⟩,
    ⟨.mov (.l 6), none, some ((.l 5), true)⟩,
    ⟨.mov (.s 14), none, some ((.l 7), false)⟩,
    ⟨.len 1 (.l 8), none, some ((.l 7), false)⟩,
    ⟨.bin .eql (.l 9) (.c (.i .i64 0)), none, some ((.l 7), false)⟩,
    ⟨.pick (.l 7) (.c (.b true)) (.l 10), none, some ((.l 5), true)⟩,
    ⟨.pick (.l 5) (.l 11) (.c (.b false)), none, none⟩,
    ⟨.mov (.l 12), none, none⟩,
    ⟨.call 8 [], none, some ((.l 13), true)⟩,
    ⟨.pick (.l 13) (.l 14) (.c (.b false)), none, none⟩,
    ⟨.mov (.l 15), some 3, none⟩] none)
  .ret))))))), true, false⟩

def tm6 : List Nat := [0, 1, 2, 6, 33, 46, 3, 8, 10, 45, 44, 43, 12, 9, 7]
def bs6 : List Nat := [6]

-- annuitant/annuitantlaw25.Few
def v7 : VFunc :=
  ⟨1, 3, [.s 1],
  (.seq (.reg [⟨.lbx (.s 0) 3, some 2, none⟩,
    ⟨.mov (.c (.b false)), some 1, none⟩] none)
  (.seq (.reg [⟨.lfa (.sl 2) 0, none, none⟩,
    ⟨.lld (.lo 0) 1 false, none, none⟩,
    ⟨.len 1 (.l 1), none, none⟩,
    ⟨.bin .leq (.l 2) (.c (.i .i64 40)), none, none⟩,
    ⟨.mov (.l 3), none, none⟩,
    ⟨.lfa (.sl 2) 1, none, some ((.l 4), true)⟩,
    ⟨.lld (.lo 5) 1 false, none, some ((.l 4), true)⟩,
    ⟨.len 1 (.l 6), none, some ((.l 4), true)⟩,
    ⟨.bin .leq (.l 7) (.c (.i .i64 40)), none, some ((.l 4), true)⟩,
    ⟨.pick (.l 4) (.l 8) (.c (.b false)), none, none⟩,
    ⟨.mov (.l 9), none, none⟩,
    ⟨.lfa (.sl 2) 2, none, some ((.l 10), true)⟩,
    ⟨.lld (.lo 11) 1 false, none, some ((.l 10), true)⟩,
    ⟨.len 1 (.l 12), none, some ((.l 10), true)⟩,
    ⟨.bin .leq (.l 13) (.c (.i .i64 40)), none, some ((.l 10), true)⟩,
    ⟨.pick (.l 10) (.l 14) (.c (.b false)), none, none⟩,
    ⟨.mov (.l 15), some 1, none⟩] none)
  .ret)), true, false⟩

def tm7 : List Nat := [0, 2, 1]
def bs7 : List Nat := [2]

-- annuitant/annuitantlaw25.awake
def v8 : VFunc :=
  ⟨0, 9, [.s 0],
  (.seq (.reg [⟨.mov (.c (.b false)), some 0, none⟩] none)
  (.seq (.reg [⟨.agc [(.s []), (.i .i64 0)] [(0, 1, (.c (.s [112, 101, 110, 115, 105, 111, 110]))), (1, 1, (.c (.i .i64 100)))], none, none⟩,
    ⟨.bsl 2 1 [(.s []), (.i .i64 0)] [(0, (.l 0))] true, none, none⟩,
    ⟨.agc [(.s []), (.i .i64 0), (.i .i64 0)] [(0, 1, (.c (.s [112, 97, 121]))), (1, 1, (.c (.i .i64 100))), (2, 1, (.c (.i .i64 101)))], none, none⟩,
    ⟨.agc [(.s []), (.i .i64 0), (.i .i64 0)] [(0, 1, (.c (.s [112, 97, 121]))), (1, 1, (.c (.i .i64 50))), (2, 1, (.c (.i .i64 90)))], none, none⟩,
    ⟨.bsl 3 2 [(.s []), (.i .i64 0), (.i .i64 0)] [(0, (.l 2)), (1, (.l 3))] true, none, none⟩,
    ⟨.bsl 1 1 [(.s [])] [(0, (.c (.s [116])))] true, none, none⟩,
    ⟨.agc [.nil, .nil, .nil] [(0, 1, (.l 1)), (1, 1, (.l 4)), (2, 1, (.l 5))], none, none⟩,
    ⟨.lal [.nil, .nil, .nil], some 4, none⟩,
    ⟨.lst (.sl 4) (.l 6) 3, none, none⟩] none)
  (.seq (.reg [⟨.agc [(.s []), (.i .i64 0), (.i .i64 0), (.i .i64 0), (.b false), (.i .u8 0), (.b false), .nil, (.b false), .nil, (.i .i64 0)] [(0, 1, (.c (.s [112, 97, 121]))), (1, 1, (.c (.i .i64 89))), (2, 1, (.c (.i .i64 95))), (3, 1, (.c (.i .i64 7)))], none, none⟩,
    ⟨.lal [(.s []), (.i .i64 0), (.i .i64 0), (.i .i64 0), (.b false), (.i .u8 0), (.b false), .nil, (.b false), .nil, (.i .i64 0)], some 1, none⟩,
    ⟨.lst (.sl 1) (.l 0) 11, none, none⟩] none)
  (.seq (.reg [⟨.lld (.sl 1) 11 true, none, none⟩,
    ⟨.lld (.sl 1) 11 true, none, none⟩,
    ⟨.lal [(.s []), (.i .i64 0), (.i .i64 0), (.i .i64 0), (.b false), (.i .u8 0), (.b false), .nil, (.b false), .nil, (.i .i64 0)], some 2, none⟩,
    ⟨.lal [(.s []), (.i .i64 0), (.i .i64 0), (.i .i64 0), (.b false), (.i .u8 0), (.b false), .nil, (.b false), .nil, (.i .i64 0)], some 3, none⟩,
    ⟨.lst (.sl 2) (.l 0) 11, none, none⟩,
    ⟨.lst (.sl 3) (.l 1) 11, none, none⟩] (some false))
  (.seq (.reg [⟨.lfa (.sl 2) 1, none, none⟩,
    ⟨.lst (.lo 0) (.c (.i .i64 90)) 1, none, none⟩,
    ⟨.lfa (.sl 2) 2, none, none⟩,
    ⟨.lst (.lo 2) (.c (.i .i64 100)) 1, none, none⟩,
    ⟨.lfa (.sl 3) 0, none, none⟩,
    ⟨.lst (.lo 4) (.c (.s [97, 103, 101])) 1, none, none⟩] none)
  (.seq (.reg [⟨.agc [(.s []), (.s []), (.i .i64 0), (.i .i64 0), (.i .i64 0), (.b false), (.i .u8 0), (.s []), (.i .u8 0), (.b false), .nil, (.b false), .nil, (.i .i64 0), .nil, (.i .u8 0), (.s []), (.i .u8 0), (.b false), .nil, (.b false), .nil, (.i .i64 0), .nil] [(0, 1, (.c (.s [112, 101, 110, 115, 105, 111, 110]))), (3, 1, (.c (.i .i64 100)))], none, none⟩,
    ⟨.lal [(.s []), (.s []), (.i .i64 0), (.i .i64 0), (.i .i64 0), (.b false), (.i .u8 0), (.s []), (.i .u8 0), (.b false), .nil, (.b false), .nil, (.i .i64 0), .nil, (.i .u8 0), (.s []), (.i .u8 0), (.b false), .nil, (.b false), .nil, (.i .i64 0), .nil], some 5, none⟩,
    ⟨.lst (.sl 5) (.l 0) 24, none, none⟩] none)
  (.seq (.reg [⟨.agc [(.s []), (.s []), (.i .i64 0), (.i .i64 0), (.i .i64 0), (.b false), (.i .u8 0), (.s []), (.i .u8 0), (.b false), .nil, (.b false), .nil, (.i .i64 0), .nil, (.i .u8 0), (.s []), (.i .u8 0), (.b false), .nil, (.b false), .nil, (.i .i64 0), .nil] [(0, 1, (.c (.s [112, 101, 110, 115, 105, 111, 110]))), (2, 1, (.c (.i .i64 100))), (3, 1, (.c (.i .i64 101)))], none, none⟩,
    ⟨.lal [(.s []), (.s []), (.i .i64 0), (.i .i64 0), (.i .i64 0), (.b false), (.i .u8 0), (.s []), (.i .u8 0), (.b false), .nil, (.b false), .nil, (.i .i64 0), .nil, (.i .u8 0), (.s []), (.i .u8 0), (.b false), .nil, (.b false), .nil, (.i .i64 0), .nil], some 6, none⟩,
    ⟨.lst (.sl 6) (.l 0) 24, none, none⟩] none)
  (.seq (.reg [⟨.lld (.sl 4) 3 true, none, none⟩,
    ⟨.call 16 [(.l 0), (.c (.s [112, 97, 121]))], none, none⟩,
    ⟨.mov (.l 1), none, none⟩,
    ⟨.ext (.l 2) 0, none, none⟩,
    ⟨.ext (.l 2) 1, none, none⟩,
    ⟨.mov (.l 3), some 8, none⟩,
    ⟨.mov (.l 4), some 7, none⟩] none)
  (.seq (.reg [⟨.lld (.sl 4) 3 true, none, none⟩,
    ⟨.lld (.sl 1) 11 true, none, none⟩,
    ⟨.call 10 [(.l 0), (.l 1), (.c (.i .i64 7))], none, none⟩,
    ⟨.mov (.l 2), none, none⟩,
    ⟨.lld (.sl 4) 3 true, none, some ((.l 3), true)⟩,
    ⟨.lld (.sl 1) 11 true, none, some ((.l 3), true)⟩,
    ⟨.call 10 [(.l 4), (.l 5), (.c (.i .i64 6))], none, some ((.l 3), true)⟩,
    ⟨.un .not (.l 6), none, some ((.l 3), true)⟩,
    ⟨.pick (.l 3) (.l 7) (.c (.b false)), none, none⟩,
    ⟨.mov (.l 8), none, none⟩,
    ⟨.lld (.sl 4) 3 true, none, some ((.l 9), true)⟩,
    ⟨.lld (.sl 2) 11 true, none, some ((.l 9), true)⟩,
    ⟨.call 10 [(.l 10), (.l 11), (.c (.i .i64 7))], none, some ((.l 9), true)⟩,
    ⟨.un .not (.l 12), none, some ((.l 9), true)⟩,
    ⟨.pick (.l 9) (.l 13) (.c (.b false)), none, none⟩,
    ⟨.mov (.l 14), none, none⟩,
    ⟨.lld (.sl 4) 3 true, none, some ((.l 15), true)⟩,
    ⟨.lld (.sl 3) 11 true, none, some ((.l 15), true)⟩,
    ⟨.call 10 [(.l 16), (.l 17), (.c (.i .i64 7))], none, some ((.l 15), true)⟩,
    ⟨.un .not (.l 18), none, some ((.l 15), true)⟩,
    ⟨.pick (.l 15) (.l 19) (.c (.b false)), none, none⟩,
    ⟨.mov (.l 20), none, none⟩,
    ⟨.lld (.sl 4) 3 true, none, some ((.l 21), true)⟩,
    ⟨.lld (.sl 5) 24 true, none, some ((.l 21), true)⟩,
    ⟨.call 12 [(.l 22), (.l 23), (.c (.i .i64 0))], none, some ((.l 21), true)⟩,
    ⟨.un .not (.l 24), none, some ((.l 21), true)⟩,
    ⟨.pick (.l 21) (.l 25) (.c (.b false)), none, none⟩,
    ⟨.mov (.l 26), none, none⟩,
    ⟨.lld (.sl 4) 3 true, none, some ((.l 27), true)⟩,
    ⟨.lld (.sl 6) 24 true, none, some ((.l 27), true)⟩,
    ⟨.call 12 [(.l 28), (.l 29), (.c (.i .i64 0))], none, some ((.l 27), true)⟩,
    ⟨.pick (.l 27) (.l 30) (.c (.b false)), none, none⟩,
    ⟨.mov (.l 31), none, none⟩,
    ⟨.lld (.sl 4) 3 true, none, some ((.l 32), true)⟩,
    ⟨.agc [(.i .i64 0), (.i .i64 0), (.i .i64 0), (.b false), .nil, (.b false), .nil] [], none, some ((.l 32), true)⟩,
    ⟨.call 14 [(.l 33), (.c (.s [116])), (.l 34), (.c (.i .i64 0))], none, some ((.l 32), true)⟩,
    ⟨.pick (.l 32) (.l 35) (.c (.b false)), none, none⟩,
    ⟨.mov (.l 36), none, none⟩,
    ⟨.lld (.sl 4) 3 true, none, some ((.l 37), true)⟩,
    ⟨.agc [(.i .i64 0), (.i .i64 0), (.i .i64 0), (.b false), .nil, (.b false), .nil] [], none, some ((.l 37), true)⟩,
    ⟨.call 14 [(.l 38), (.c (.s [117])), (.l 39), (.c (.i .i64 0))], none, some ((.l 37), true)⟩,
    ⟨.un .not (.l 40), none, some ((.l 37), true)⟩,
    ⟨.pick (.l 37) (.l 41) (.c (.b false)), none, none⟩,
    ⟨.mov (.l 42), none, none⟩,
    ⟨.mov (.s 7), none, some ((.l 43), true)⟩,
    ⟨.bin .eql (.l 44) (.c (.i .i64 0)), none, some ((.l 43), true)⟩,
    ⟨.pick (.l 43) (.l 45) (.c (.b false)), none, none⟩,
    ⟨.mov (.l 46), none, none⟩,
    ⟨.mov (.s 8), none, some ((.l 47), true)⟩,
    ⟨.agc [(.i .i64 0), (.i .i64 0)] [(0, 1, (.c (.i .i64 50))), (1, 1, (.c (.i .i64 90)))], none, some ((.l 47), true)⟩,
    ⟨.agc [(.i .i64 0), (.i .i64 0)] [(0, 1, (.c (.i .i64 100))), (1, 1, (.c (.i .i64 101)))], none, some ((.l 47), true)⟩,
    ⟨.bsv 2 2 [(.i .i64 0), (.i .i64 0)] [(0, (.l 49)), (1, (.l 50))], none, some ((.l 47), true)⟩,
    ⟨.call 20 [(.l 48), (.l 51)], none, some ((.l 47), true)⟩,
    ⟨.pick (.l 47) (.l 52) (.c (.b false)), none, none⟩,
    ⟨.mov (.l 53), some 0, none⟩] none)
  .ret))))))))), true, false⟩

def tm8 : List Nat := [0, 2, 3, 4, 1, 5, 6, 8, 7]
def bs8 : List Nat := [1, 2, 3, 4, 5, 6]

-- annuitant/annuitantlaw25.converted
def v9l0 : VCode :=
  (.seq (.reg [⟨.bin .lss (.s 5) (.s 6), some 2, none⟩] none)
  (.seq (.cond (.s 2) .skip
  (.exit 0))
  (.seq (.block 1 (.seq (.reg [⟨.iad (.s 7) (.s 5) 2, none, none⟩,
     ⟨.ld (.l 0) 2 true, none, none⟩,
     ⟨.lal [(.s []), (.i .i64 0)], some 9, none⟩,
     ⟨.lst (.sl 9) (.l 1) 2, none, none⟩] none)
   (.reg [⟨.lfa (.sl 8) 0, none, none⟩,
     ⟨.lld (.lo 0) 1 false, none, none⟩,
     ⟨.lld (.sl 9) 2 true, none, none⟩,
     ⟨.bsv 2 1 [(.s []), (.i .i64 0)] [(0, (.l 2))], none, none⟩,
     ⟨.app (.l 1) (.l 3) 2 24 true, none, none⟩,
     ⟨.lfa (.sl 8) 0, none, none⟩,
     ⟨.lst (.lo 5) (.l 4) 1, none, none⟩] none)))
  (.reg [⟨.bin .add (.s 5) (.c (.i .i64 1)), none, none⟩,
    ⟨.mov (.l 0), some 5, none⟩] none))))
def v9l1 : VCode :=
  (.seq (.reg [⟨.bin .lss (.s 10) (.s 11), some 3, none⟩] none)
  (.seq (.cond (.s 3) .skip
  (.exit 2))
  (.seq (.block 3 (.seq (.reg [⟨.iad (.s 12) (.s 10) 3, none, none⟩,
     ⟨.ld (.l 0) 3 true, none, none⟩,
     ⟨.lal [(.s []), (.i .i64 0), (.i .i64 0)], some 13, none⟩,
     ⟨.lst (.sl 13) (.l 1) 3, none, none⟩] none)
   (.reg [⟨.lfa (.sl 8) 1, none, none⟩,
     ⟨.lld (.lo 0) 1 false, none, none⟩,
     ⟨.lld (.sl 13) 3 true, none, none⟩,
     ⟨.bsv 3 1 [(.s []), (.i .i64 0), (.i .i64 0)] [(0, (.l 2))], none, none⟩,
     ⟨.app (.l 1) (.l 3) 3 32 true, none, none⟩,
     ⟨.lfa (.sl 8) 1, none, none⟩,
     ⟨.lst (.lo 5) (.l 4) 1, none, none⟩] none)))
  (.reg [⟨.bin .add (.s 10) (.c (.i .i64 1)), none, none⟩,
    ⟨.mov (.l 0), some 10, none⟩] none))))
def v9 : VFunc :=
  ⟨1, 14, [.bx 1 3 true],
  (.seq (.reg [⟨.lbx (.s 0) 3, some 4, none⟩,
    ⟨.lal [.nil, .nil, .nil], some 1, none⟩] none)
  (.seq (.reg [⟨.bsl 1 0 [(.s [])] [] true, none, none⟩,
    ⟨.lfa (.sl 4) 2, none, none⟩,
    ⟨.lld (.lo 1) 1 false, none, none⟩,
    ⟨.app (.l 0) (.l 2) 1 16 true, none, none⟩,
    ⟨.agc [.nil, .nil, .nil] [(2, 1, (.l 3))], none, none⟩,
    ⟨.lal [.nil, .nil, .nil], some 8, none⟩,
    ⟨.lst (.sl 8) (.l 4) 3, none, none⟩] none)
  (.seq (.seq (.reg [⟨.lfa (.sl 4) 0, none, none⟩,
    ⟨.lld (.lo 0) 1 false, some 7, none⟩,
    ⟨.len 1 (.s 7), some 6, none⟩,
    ⟨.mov (.c (.i .i64 0)), some 5, none⟩] none)
  (.block 0 (.loop v9l0)))
  (.seq (.seq (.reg [⟨.lfa (.sl 4) 1, none, none⟩,
    ⟨.lld (.lo 0) 1 false, some 12, none⟩,
    ⟨.len 1 (.s 12), some 11, none⟩,
    ⟨.mov (.c (.i .i64 0)), some 10, none⟩] none)
  (.block 2 (.loop v9l1)))
  (.seq (.reg [⟨.lld (.sl 8) 3 true, none, none⟩,
    ⟨.lst (.sl 1) (.l 0) 3, none, none⟩] none)
  .ret))))), true, false⟩

def tm9 : List Nat := [0, 2, 17, 31, 1, 16, 15, 14, 3, 5, 30, 29, 28, 7]
def bs9 : List Nat := [1, 4, 8, 9, 13]

-- annuitant/depend.Fact
def v10 : VFunc :=
  ⟨3, 6, [.s 3],
  (.seq (.reg [⟨.lbx (.s 0) 3, some 5, none⟩,
    ⟨.hbx (.s 1) 11, some 4, none⟩,
    ⟨.mov (.c (.b false)), some 3, none⟩] none)
  (.seq (.reg [⟨.fad (.s 4) 3, none, none⟩,
    ⟨.ld (.l 0) 1 false, none, none⟩,
    ⟨.mov (.s 2), none, none⟩,
    ⟨.bin .leq (.l 1) (.l 2), none, none⟩,
    ⟨.mov (.l 3), none, none⟩,
    ⟨.lfa (.sl 5) 1, none, some ((.l 4), true)⟩,
    ⟨.lld (.lo 5) 1 false, none, some ((.l 4), true)⟩,
    ⟨.mkf (.func 31) [] [(.s 4)], none, some ((.l 4), true)⟩,
    ⟨.call 30 [(.l 6), (.l 7)], none, some ((.l 4), true)⟩,
    ⟨.pick (.l 4) (.l 8) (.c (.b false)), none, none⟩,
    ⟨.mov (.l 9), some 3, none⟩] none)
  .ret)), true, false⟩

def tm10 : List Nat := [0, 1, 2, 6, 4, 3]
def bs10 : List Nat := [5]

-- annuitant/annuitantref25.Fact
def v11l0 : VCode :=
  (.seq (.seq (.reg [⟨.mov (.s 9), none, none⟩,
    ⟨.lfa (.sl 10) 1, none, none⟩,
    ⟨.lld (.lo 1) 1 false, none, none⟩,
    ⟨.len 1 (.l 2), none, none⟩,
    ⟨.bin .lss (.l 0) (.l 3), some 5, none⟩] none)
  (.cond (.s 5) .skip
  (.exit 0)))
  (.seq (.block 1 (.seq (.reg [⟨.lfa (.sl 10) 1, none, none⟩,
     ⟨.lld (.lo 0) 1 false, none, none⟩,
     ⟨.mov (.s 9), none, none⟩,
     ⟨.iad (.l 1) (.l 2) 3, none, none⟩,
     ⟨.ld (.l 3) 3 true, none, none⟩,
     ⟨.lal [(.s []), (.i .i64 0), (.i .i64 0)], some 11, none⟩,
     ⟨.lst (.sl 11) (.l 4) 3, none, none⟩] none)
   (.seq (.reg [⟨.lfa (.sl 11) 1, none, none⟩,
     ⟨.lld (.lo 0) 1 false, none, none⟩,
     ⟨.mov (.l 1), some 12, none⟩] none)
   (.seq (.seq (.reg [⟨.lfa (.sl 8) 1, none, none⟩,
     ⟨.lld (.lo 0) 1 false, none, none⟩,
     ⟨.mov (.s 12), none, none⟩,
     ⟨.bin .gtr (.l 1) (.l 2), some 6, none⟩] none)
   (.cond (.s 6) (.reg [⟨.lfa (.sl 8) 1, none, none⟩,
      ⟨.lld (.lo 0) 1 false, none, none⟩,
      ⟨.mov (.l 1), some 12, none⟩] none)
   .skip))
   (.seq (.reg [⟨.lfa (.sl 11) 0, none, none⟩,
     ⟨.lld (.lo 0) 1 false, none, none⟩,
     ⟨.lfa (.sl 8) 0, none, none⟩,
     ⟨.lld (.lo 2) 1 false, none, none⟩,
     ⟨.bin .eql (.l 1) (.l 3), none, none⟩,
     ⟨.mov (.l 4), none, none⟩,
     ⟨.mov (.s 12), none, some ((.l 5), true)⟩,
     ⟨.lfa (.sl 11) 2, none, some ((.l 5), true)⟩,
     ⟨.lld (.lo 7) 1 false, none, some ((.l 5), true)⟩,
     ⟨.bin .lss (.l 6) (.l 8), none, some ((.l 5), true)⟩,
     ⟨.pick (.l 5) (.l 9) (.c (.b false)), none, none⟩,
     ⟨.mov (.l 10), none, none⟩,
     ⟨.mov (.s 12), none, some ((.l 11), true)⟩,
     ⟨.lfa (.sl 8) 2, none, some ((.l 11), true)⟩,
     ⟨.lld (.lo 13) 1 false, none, some ((.l 11), true)⟩,
     ⟨.bin .lss (.l 12) (.l 14), none, some ((.l 11), true)⟩,
     ⟨.pick (.l 11) (.l 15) (.c (.b false)), some 7, none⟩] none)
   (.cond (.s 7) (.seq (.reg [⟨.mov (.c (.b true)), some 3, none⟩] none)
    .ret)
   .skip))))))
  (.reg [⟨.mov (.s 9), none, none⟩,
    ⟨.bin .add (.l 0) (.c (.i .i64 1)), none, none⟩,
    ⟨.mov (.l 1), some 9, none⟩] none)))
def v11 : VFunc :=
  ⟨3, 13, [.s 3],
  (.seq (.reg [⟨.lbx (.s 0) 3, some 10, none⟩,
    ⟨.lbx (.s 1) 11, some 8, none⟩,
    ⟨.mov (.c (.b false)), some 3, none⟩] none)
  (.seq (.seq (.reg [⟨.lfa (.sl 8) 3, none, none⟩,
    ⟨.lld (.lo 0) 1 false, none, none⟩,
    ⟨.mov (.s 2), none, none⟩,
    ⟨.bin .gtr (.l 1) (.l 2), some 4, none⟩] none)
  (.cond (.s 4) (.seq (.reg [⟨.mov (.c (.b false)), some 3, none⟩] none)
   .ret)
  .skip))
  (.seq (.seq (.reg [⟨.mov (.c (.i .i64 0)), some 9, none⟩] none)
  (.block 0 (.loop v11l0)))
  (.seq (.reg [⟨.mov (.c (.b false)), some 3, none⟩] none)
  .ret)))), true, false⟩

def tm11 : List Nat := [0, 1, 2, 6, 13, 18, 31, 50, 4, 7, 3, 8, 9]
def bs11 : List Nat := [8, 10, 11]

-- annuitant/depend.Clause
def v12 : VFunc :=
  ⟨3, 6, [.s 3],
  (.seq (.reg [⟨.lbx (.s 0) 3, some 5, none⟩,
    ⟨.hbx (.s 1) 24, some 4, none⟩,
    ⟨.mov (.c (.b false)), some 3, none⟩] none)
  (.seq (.reg [⟨.fad (.s 4) 4, none, none⟩,
    ⟨.ld (.l 0) 1 false, none, none⟩,
    ⟨.mov (.s 2), none, none⟩,
    ⟨.bin .leq (.l 1) (.l 2), none, none⟩,
    ⟨.mov (.l 3), none, none⟩,
    ⟨.lfa (.sl 5) 0, none, some ((.l 4), true)⟩,
    ⟨.lld (.lo 5) 1 false, none, some ((.l 4), true)⟩,
    ⟨.mkf (.func 33) [] [(.s 4)], none, some ((.l 4), true)⟩,
    ⟨.call 32 [(.l 6), (.l 7)], none, some ((.l 4), true)⟩,
    ⟨.pick (.l 4) (.l 8) (.c (.b false)), none, none⟩,
    ⟨.mov (.l 9), some 3, none⟩] none)
  .ret)), true, false⟩

def tm12 : List Nat := [0, 1, 2, 6, 4, 3]
def bs12 : List Nat := [5]

-- annuitant/annuitantref25.Clause
def v13l0 : VCode :=
  (.seq (.seq (.reg [⟨.mov (.s 8), none, none⟩,
    ⟨.lfa (.sl 9) 0, none, none⟩,
    ⟨.lld (.lo 1) 1 false, none, none⟩,
    ⟨.len 1 (.l 2), none, none⟩,
    ⟨.bin .lss (.l 0) (.l 3), some 5, none⟩] none)
  (.cond (.s 5) .skip
  (.exit 0)))
  (.seq (.block 1 (.seq (.reg [⟨.lfa (.sl 9) 0, none, none⟩,
     ⟨.lld (.lo 0) 1 false, none, none⟩,
     ⟨.mov (.s 8), none, none⟩,
     ⟨.iad (.l 1) (.l 2) 2, none, none⟩,
     ⟨.fad (.l 3) 0, none, none⟩,
     ⟨.ld (.l 4) 1 false, none, none⟩,
     ⟨.lfa (.sl 7) 0, none, none⟩,
     ⟨.lld (.lo 6) 1 false, none, none⟩,
     ⟨.bin .eql (.l 5) (.l 7), none, none⟩,
     ⟨.mov (.l 8), none, none⟩,
     ⟨.lfa (.sl 9) 0, none, some ((.l 9), true)⟩,
     ⟨.lld (.lo 10) 1 false, none, some ((.l 9), true)⟩,
     ⟨.mov (.s 8), none, some ((.l 9), true)⟩,
     ⟨.iad (.l 11) (.l 12) 2, none, some ((.l 9), true)⟩,
     ⟨.fad (.l 13) 1, none, some ((.l 9), true)⟩,
     ⟨.ld (.l 14) 1 false, none, some ((.l 9), true)⟩,
     ⟨.lfa (.sl 7) 2, none, some ((.l 9), true)⟩,
     ⟨.lld (.lo 16) 1 false, none, some ((.l 9), true)⟩,
     ⟨.bin .geq (.l 15) (.l 17), none, some ((.l 9), true)⟩,
     ⟨.pick (.l 9) (.l 18) (.c (.b false)), none, none⟩,
     ⟨.mov (.l 19), none, none⟩,
     ⟨.lfa (.sl 9) 0, none, some ((.l 20), true)⟩,
     ⟨.lld (.lo 21) 1 false, none, some ((.l 20), true)⟩,
     ⟨.mov (.s 8), none, some ((.l 20), true)⟩,
     ⟨.iad (.l 22) (.l 23) 2, none, some ((.l 20), true)⟩,
     ⟨.fad (.l 24) 1, none, some ((.l 20), true)⟩,
     ⟨.ld (.l 25) 1 false, none, some ((.l 20), true)⟩,
     ⟨.lfa (.sl 7) 3, none, some ((.l 20), true)⟩,
     ⟨.lld (.lo 27) 1 false, none, some ((.l 20), true)⟩,
     ⟨.bin .lss (.l 26) (.l 28), none, some ((.l 20), true)⟩,
     ⟨.pick (.l 20) (.l 29) (.c (.b false)), some 6, none⟩] (some false))
   (.cond (.s 6) (.seq (.reg [⟨.mov (.c (.b true)), some 3, none⟩] none)
    .ret)
   .skip)))
  (.reg [⟨.mov (.s 8), none, none⟩,
    ⟨.bin .add (.l 0) (.c (.i .i64 1)), none, none⟩,
    ⟨.mov (.l 1), some 8, none⟩] none)))
def v13 : VFunc :=
  ⟨3, 10, [.s 3],
  (.seq (.reg [⟨.lbx (.s 0) 3, some 9, none⟩,
    ⟨.lbx (.s 1) 24, some 7, none⟩,
    ⟨.mov (.c (.b false)), some 3, none⟩] none)
  (.seq (.seq (.reg [⟨.lfa (.sl 7) 4, none, none⟩,
    ⟨.lld (.lo 0) 1 false, none, none⟩,
    ⟨.mov (.s 2), none, none⟩,
    ⟨.bin .gtr (.l 1) (.l 2), some 4, none⟩] none)
  (.cond (.s 4) (.seq (.reg [⟨.mov (.c (.b false)), some 3, none⟩] none)
   .ret)
  .skip))
  (.seq (.seq (.reg [⟨.mov (.c (.i .i64 0)), some 8, none⟩] none)
  (.block 0 (.loop v13l0)))
  (.seq (.reg [⟨.mov (.c (.b false)), some 3, none⟩] none)
  .ret)))), true, false⟩

def tm13 : List Nat := [0, 1, 2, 6, 11, 16, 49, 4, 7, 3]
def bs13 : List Nat := [7, 9]

-- annuitant/depend.Row
def v14 : VFunc :=
  ⟨4, 7, [.s 4],
  (.seq (.reg [⟨.lbx (.s 0) 3, some 6, none⟩,
    ⟨.lbx (.s 2) 7, some 5, none⟩,
    ⟨.mov (.c (.b false)), some 4, none⟩] none)
  (.seq (.reg [⟨.lfa (.sl 5) 2, none, none⟩,
    ⟨.lld (.lo 0) 1 false, none, none⟩,
    ⟨.mov (.s 3), none, none⟩,
    ⟨.bin .leq (.l 1) (.l 2), none, none⟩,
    ⟨.mov (.l 3), none, none⟩,
    ⟨.lfa (.sl 6) 2, none, some ((.l 4), true)⟩,
    ⟨.lld (.lo 5) 1 false, none, some ((.l 4), true)⟩,
    ⟨.mov (.s 1), none, some ((.l 4), true)⟩,
    ⟨.call 34 [(.l 6), (.l 7)], none, some ((.l 4), true)⟩,
    ⟨.pick (.l 4) (.l 8) (.c (.b false)), none, none⟩,
    ⟨.mov (.l 9), some 4, none⟩] none)
  .ret)), true, false⟩

def tm14 : List Nat := [0, 1, 2, 3, 8, 6, 4]
def bs14 : List Nat := [5, 6]

-- annuitant/annuitantref25.Row
def v15l0 : VCode :=
  (.seq (.seq (.reg [⟨.mov (.s 7), none, none⟩,
    ⟨.lfa (.sl 8) 2, none, none⟩,
    ⟨.lld (.lo 1) 1 false, none, none⟩,
    ⟨.len 1 (.l 2), none, none⟩,
    ⟨.bin .lss (.l 0) (.l 3), some 5, none⟩] none)
  (.cond (.s 5) .skip
  (.exit 0)))
  (.seq (.block 1 (.seq (.reg [⟨.lfa (.sl 8) 2, none, none⟩,
     ⟨.lld (.lo 0) 1 false, none, none⟩,
     ⟨.mov (.s 7), none, none⟩,
     ⟨.iad (.l 1) (.l 2) 1, none, none⟩,
     ⟨.ld (.l 3) 1 false, none, none⟩,
     ⟨.mov (.s 1), none, none⟩,
     ⟨.bin .eql (.l 4) (.l 5), none, none⟩,
     ⟨.mov (.l 6), none, none⟩,
     ⟨.lfa (.sl 9) 2, none, some ((.l 7), true)⟩,
     ⟨.lld (.lo 8) 1 false, none, some ((.l 7), true)⟩,
     ⟨.mov (.s 3), none, some ((.l 7), true)⟩,
     ⟨.bin .leq (.l 9) (.l 10), none, some ((.l 7), true)⟩,
     ⟨.pick (.l 7) (.l 11) (.c (.b false)), some 6, none⟩] none)
   (.cond (.s 6) (.seq (.reg [⟨.mov (.c (.b true)), some 4, none⟩] none)
    .ret)
   .skip)))
  (.reg [⟨.mov (.s 7), none, none⟩,
    ⟨.bin .add (.l 0) (.c (.i .i64 1)), none, none⟩,
    ⟨.mov (.l 1), some 7, none⟩] none)))
def v15 : VFunc :=
  ⟨4, 10, [.s 4],
  (.seq (.reg [⟨.lbx (.s 0) 3, some 8, none⟩,
    ⟨.lbx (.s 2) 7, some 9, none⟩,
    ⟨.mov (.c (.b false)), some 4, none⟩] none)
  (.seq (.seq (.reg [⟨.mov (.c (.i .i64 0)), some 7, none⟩] none)
  (.block 0 (.loop v15l0)))
  (.seq (.reg [⟨.mov (.c (.b false)), some 4, none⟩] none)
  .ret))), true, false⟩

def tm15 : List Nat := [0, 1, 2, 3, 8, 14, 29, 9, 4, 6]
def bs15 : List Nat := [8, 9]

-- annuitant/depend.Days
def v16l0 : VCode :=
  (.seq (.reg [⟨.bin .lss (.s 8) (.s 9), some 4, none⟩] none)
  (.seq (.cond (.s 4) .skip
  (.exit 0))
  (.seq (.block 1 (.seq (.reg [⟨.iad (.s 10) (.s 8) 3, none, none⟩,
     ⟨.ld (.l 0) 3 true, none, none⟩,
     ⟨.lal [(.s []), (.i .i64 0), (.i .i64 0)], some 11, none⟩,
     ⟨.lst (.sl 11) (.l 1) 3, none, none⟩] none)
   (.seq (.reg [⟨.lfa (.sl 11) 0, none, none⟩,
     ⟨.lld (.lo 0) 1 false, none, none⟩,
     ⟨.mov (.s 1), none, none⟩,
     ⟨.bin .eql (.l 1) (.l 2), none, none⟩,
     ⟨.mov (.l 3), none, none⟩,
     ⟨.lfa (.sl 11) 1, none, some ((.l 4), true)⟩,
     ⟨.lld (.lo 5) 1 false, none, some ((.l 4), true)⟩,
     ⟨.lfa (.sl 11) 2, none, some ((.l 4), true)⟩,
     ⟨.lld (.lo 7) 1 false, none, some ((.l 4), true)⟩,
     ⟨.bin .lss (.l 6) (.l 8), none, some ((.l 4), true)⟩,
     ⟨.pick (.l 4) (.l 9) (.c (.b false)), some 5, none⟩] none)
   (.cond (.s 5) (.reg [⟨.mov (.s 6), none, none⟩,
      ⟨.lfa (.sl 11) 1, none, none⟩,
      ⟨.lld (.lo 1) 1 false, none, none⟩,
      ⟨.lfa (.sl 11) 2, none, none⟩,
      ⟨.lld (.lo 3) 1 false, none, none⟩,
      ⟨.agc [(.i .i64 0), (.i .i64 0)] [(0, 1, (.l 2)), (1, 1, (.l 4))], none, none⟩,
      ⟨.bsv 2 1 [(.i .i64 0), (.i .i64 0)] [(0, (.l 5))], none, none⟩,
      ⟨.app (.l 0) (.l 6) 2 16 true, none, none⟩,
      ⟨.mov (.l 7), some 6, none⟩] none)
   .skip))))
  (.reg [⟨.bin .add (.s 8) (.c (.i .i64 1)), none, none⟩,
    ⟨.mov (.l 0), some 8, none⟩] none))))
def v16 : VFunc :=
  ⟨2, 12, [.s 2, .s 3],
  (.seq (.reg [⟨.lbx (.s 0) 3, some 7, none⟩,
    ⟨.mov (.c .nil), some 2, none⟩,
    ⟨.mov (.c (.i .i64 0)), some 3, none⟩] none)
  (.seq (.reg [⟨.mov (.c .nil), some 6, none⟩] none)
  (.seq (.seq (.reg [⟨.lfa (.sl 7) 1, none, none⟩,
    ⟨.lld (.lo 0) 1 false, some 10, none⟩,
    ⟨.len 1 (.s 10), some 9, none⟩,
    ⟨.mov (.c (.i .i64 0)), some 8, none⟩] none)
  (.block 0 (.loop v16l0)))
  (.seq (.reg [⟨.mov (.s 6), none, none⟩,
    ⟨.call 35 [(.l 0)], none, none⟩,
    ⟨.ext (.l 1) 0, none, none⟩,
    ⟨.ext (.l 1) 1, none, none⟩,
    ⟨.mov (.l 2), some 2, none⟩,
    ⟨.mov (.l 3), some 3, none⟩] none)
  .ret)))), true, false⟩

def tm16 : List Nat := [0, 1, 4, 5, 13, 26, 6, 2, 12, 11, 10, 8]
def bs16 : List Nat := [7, 11]

-- annuitant/annuitantref25.Days
def v17l0 : VCode :=
  (.seq (.seq (.reg [⟨.mov (.s 7), none, none⟩,
    ⟨.lfa (.sl 8) 1, none, none⟩,
    ⟨.lld (.lo 1) 1 false, none, none⟩,
    ⟨.len 1 (.l 2), none, none⟩,
    ⟨.bin .lss (.l 0) (.l 3), some 4, none⟩] none)
  (.cond (.s 4) .skip
  (.exit 0)))
  (.seq (.block 1 (.seq (.reg [⟨.lfa (.sl 8) 1, none, none⟩,
     ⟨.lld (.lo 0) 1 false, none, none⟩,
     ⟨.mov (.s 7), none, none⟩,
     ⟨.iad (.l 1) (.l 2) 3, none, none⟩,
     ⟨.fad (.l 3) 0, none, none⟩,
     ⟨.ld (.l 4) 1 false, none, none⟩,
     ⟨.mov (.s 1), none, none⟩,
     ⟨.bin .eql (.l 5) (.l 6), none, none⟩,
     ⟨.mov (.l 7), none, none⟩,
     ⟨.lfa (.sl 8) 1, none, some ((.l 8), true)⟩,
     ⟨.lld (.lo 9) 1 false, none, some ((.l 8), true)⟩,
     ⟨.mov (.s 7), none, some ((.l 8), true)⟩,
     ⟨.iad (.l 10) (.l 11) 3, none, some ((.l 8), true)⟩,
     ⟨.fad (.l 12) 2, none, some ((.l 8), true)⟩,
     ⟨.ld (.l 13) 1 false, none, some ((.l 8), true)⟩,
     ⟨.lfa (.sl 8) 1, none, some ((.l 8), true)⟩,
     ⟨.lld (.lo 15) 1 false, none, some ((.l 8), true)⟩,
     ⟨.mov (.s 7), none, some ((.l 8), true)⟩,
     ⟨.iad (.l 16) (.l 17) 3, none, some ((.l 8), true)⟩,
     ⟨.fad (.l 18) 1, none, some ((.l 8), true)⟩,
     ⟨.ld (.l 19) 1 false, none, some ((.l 8), true)⟩,
     ⟨.bin .gtr (.l 14) (.l 20), none, some ((.l 8), true)⟩,
     ⟨.pick (.l 8) (.l 21) (.c (.b false)), some 5, none⟩] (some false))
   (.cond (.s 5) (.reg [⟨.mov (.s 6), none, none⟩,
      ⟨.lfa (.sl 8) 1, none, none⟩,
      ⟨.lld (.lo 1) 1 false, none, none⟩,
      ⟨.mov (.s 7), none, none⟩,
      ⟨.iad (.l 2) (.l 3) 3, none, none⟩,
      ⟨.fad (.l 4) 1, none, none⟩,
      ⟨.ld (.l 5) 1 false, none, none⟩,
      ⟨.lfa (.sl 8) 1, none, none⟩,
      ⟨.lld (.lo 7) 1 false, none, none⟩,
      ⟨.mov (.s 7), none, none⟩,
      ⟨.iad (.l 8) (.l 9) 3, none, none⟩,
      ⟨.fad (.l 10) 2, none, none⟩,
      ⟨.ld (.l 11) 1 false, none, none⟩,
      ⟨.agc [(.i .i64 0), (.i .i64 0)] [(0, 1, (.l 6)), (1, 1, (.l 12))], none, none⟩,
      ⟨.bsv 2 1 [(.i .i64 0), (.i .i64 0)] [(0, (.l 13))], none, none⟩,
      ⟨.app (.l 0) (.l 14) 2 16 true, none, none⟩,
      ⟨.mov (.l 15), some 6, none⟩] (some false))
   .skip)))
  (.reg [⟨.mov (.s 7), none, none⟩,
    ⟨.bin .add (.l 0) (.c (.i .i64 1)), none, none⟩,
    ⟨.mov (.l 1), some 7, none⟩] none)))
def v17 : VFunc :=
  ⟨2, 9, [.s 2, .s 3],
  (.seq (.reg [⟨.lbx (.s 0) 3, some 8, none⟩,
    ⟨.mov (.c .nil), some 2, none⟩,
    ⟨.mov (.c (.i .i64 0)), some 3, none⟩] none)
  (.seq (.reg [⟨.mov (.c .nil), some 6, none⟩] none)
  (.seq (.seq (.reg [⟨.mov (.c (.i .i64 0)), some 7, none⟩] none)
  (.block 0 (.loop v17l0)))
  (.seq (.reg [⟨.mov (.s 6), none, none⟩,
    ⟨.call 36 [(.l 0)], none, none⟩,
    ⟨.ext (.l 1) 0, none, none⟩,
    ⟨.ext (.l 1) 1, none, none⟩,
    ⟨.mov (.l 2), some 2, none⟩,
    ⟨.mov (.l 3), some 3, none⟩] none)
  .ret)))), true, false⟩

def tm17 : List Nat := [0, 1, 4, 5, 12, 37, 6, 7, 2]
def bs17 : List Nat := [8]

-- annuitant/depend.Keys
def v18l0 : VCode :=
  (.seq (.reg [⟨.bin .lss (.s 5) (.s 6), some 2, none⟩] none)
  (.seq (.cond (.s 2) .skip
  (.exit 0))
  (.seq (.block 1 (.seq (.reg [⟨.iad (.s 7) (.s 5) 3, none, none⟩,
     ⟨.ld (.l 0) 3 true, none, none⟩,
     ⟨.lal [(.s []), (.i .i64 0), (.i .i64 0)], some 8, none⟩,
     ⟨.lst (.sl 8) (.l 1) 3, none, none⟩] none)
   (.reg [⟨.mov (.s 4), none, none⟩,
     ⟨.lfa (.sl 8) 0, none, none⟩,
     ⟨.lld (.lo 1) 1 false, none, none⟩,
     ⟨.bsv 1 1 [(.s [])] [(0, (.l 2))], none, none⟩,
     ⟨.app (.l 0) (.l 3) 1 16 true, none, none⟩,
     ⟨.mov (.l 4), some 4, none⟩] none)))
  (.reg [⟨.bin .add (.s 5) (.c (.i .i64 1)), none, none⟩,
    ⟨.mov (.l 0), some 5, none⟩] none))))
def v18 : VFunc :=
  ⟨1, 9, [.s 1],
  (.seq (.reg [⟨.lbx (.s 0) 3, some 3, none⟩,
    ⟨.mov (.c .nil), some 1, none⟩] none)
  (.seq (.reg [⟨.lfa (.sl 3) 1, none, none⟩,
    ⟨.lld (.lo 0) 1 false, none, none⟩,
    ⟨.len 1 (.l 1), none, none⟩,
    ⟨.mks (.c (.i .i64 0)) (.l 2) 1 16 [(.s [])] true, none, none⟩,
    ⟨.mov (.l 3), some 4, none⟩] none)
  (.seq (.seq (.reg [⟨.lfa (.sl 3) 1, none, none⟩,
    ⟨.lld (.lo 0) 1 false, some 7, none⟩,
    ⟨.len 1 (.s 7), some 6, none⟩,
    ⟨.mov (.c (.i .i64 0)), some 5, none⟩] none)
  (.block 0 (.loop v18l0)))
  (.seq (.reg [⟨.mov (.s 4), none, none⟩,
    ⟨.call 37 [(.l 0), (.c .nil)], none, none⟩,
    ⟨.mov (.l 1), some 1, none⟩] none)
  .ret)))), true, false⟩

def tm18 : List Nat := [0, 2, 14, 1, 3, 13, 12, 11, 5]
def bs18 : List Nat := [3, 8]

-- annuitant/annuitantref25.Keys
def v19l0 : VCode :=
  (.seq (.seq (.reg [⟨.mov (.s 9), none, none⟩,
    ⟨.mov (.s 5), none, none⟩,
    ⟨.len 1 (.l 1), none, none⟩,
    ⟨.bin .lss (.l 0) (.l 2), some 3, none⟩] none)
  (.cond (.s 3) .skip
  (.exit 2)))
  (.seq (.block 3 (.reg [⟨.mov (.s 8), none, none⟩,
     ⟨.mov (.l 0), none, none⟩,
     ⟨.mov (.s 5), none, some ((.l 1), false)⟩,
     ⟨.mov (.s 9), none, some ((.l 1), false)⟩,
     ⟨.iad (.l 2) (.l 3) 1, none, some ((.l 1), false)⟩,
     ⟨.ld (.l 4) 1 false, none, some ((.l 1), false)⟩,
     ⟨.lfa (.sl 7) 1, none, some ((.l 1), false)⟩,
     ⟨.lld (.lo 6) 1 false, none, some ((.l 1), false)⟩,
     ⟨.mov (.s 6), none, some ((.l 1), false)⟩,
     ⟨.iad (.l 7) (.l 8) 3, none, some ((.l 1), false)⟩,
     ⟨.fad (.l 9) 0, none, some ((.l 1), false)⟩,
     ⟨.ld (.l 10) 1 false, none, some ((.l 1), false)⟩,
     ⟨.bin .eql (.l 5) (.l 11), none, some ((.l 1), false)⟩,
     ⟨.pick (.l 1) (.c (.b true)) (.l 12), none, none⟩,
     ⟨.mov (.l 13), some 8, none⟩] (some false)))
  (.reg [⟨.mov (.s 9), none, none⟩,
    ⟨.bin .add (.l 0) (.c (.i .i64 1)), none, none⟩,
    ⟨.mov (.l 1), some 9, none⟩] none)))
def v19l1 : VCode :=
  (.seq (.seq (.reg [⟨.mov (.s 6), none, none⟩,
    ⟨.lfa (.sl 7) 1, none, none⟩,
    ⟨.lld (.lo 1) 1 false, none, none⟩,
    ⟨.len 1 (.l 2), none, none⟩,
    ⟨.bin .lss (.l 0) (.l 3), some 2, none⟩] none)
  (.cond (.s 2) .skip
  (.exit 0)))
  (.seq (.block 1 (.seq (.reg [⟨.mov (.c (.b false)), some 8, none⟩] none)
   (.seq (.seq (.reg [⟨.mov (.c (.i .i64 0)), some 9, none⟩] none)
   (.block 2 (.loop v19l0)))
   (.seq (.reg [⟨.mov (.s 8), none, none⟩,
     ⟨.un .not (.l 0), some 4, none⟩] none)
   (.cond (.s 4) (.reg [⟨.mov (.s 5), none, none⟩,
      ⟨.lfa (.sl 7) 1, none, none⟩,
      ⟨.lld (.lo 1) 1 false, none, none⟩,
      ⟨.mov (.s 6), none, none⟩,
      ⟨.iad (.l 2) (.l 3) 3, none, none⟩,
      ⟨.fad (.l 4) 0, none, none⟩,
      ⟨.ld (.l 5) 1 false, none, none⟩,
      ⟨.bsv 1 1 [(.s [])] [(0, (.l 6))], none, none⟩,
      ⟨.app (.l 0) (.l 7) 1 16 true, none, none⟩,
      ⟨.mov (.l 8), some 5, none⟩] none)
   .skip)))))
  (.reg [⟨.mov (.s 6), none, none⟩,
    ⟨.bin .add (.l 0) (.c (.i .i64 1)), none, none⟩,
    ⟨.mov (.l 1), some 6, none⟩] none)))
def v19 : VFunc :=
  ⟨1, 10, [.s 1],
  (.seq (.reg [⟨.lbx (.s 0) 3, some 7, none⟩,
    ⟨.mov (.c .nil), some 1, none⟩] none)
  (.seq (.reg [⟨.mov (.c .nil), some 5, none⟩] none)
  (.seq (.seq (.reg [⟨.mov (.c (.i .i64 0)), some 6, none⟩] none)
  (.block 0 (.loop v19l1)))
  (.seq (.reg [⟨.mov (.s 5), none, none⟩,
    ⟨.mov (.l 0), some 1, none⟩] none)
  .ret)))), true, false⟩

def tm19 : List Nat := [0, 2, 11, 17, 35, 3, 4, 1, 5, 6]
def bs19 : List Nat := [7]

-- annuitant/annuitantlaw25.spans
def v20l0 : VCode :=
  (.seq (.reg [⟨.bin .lss (.s 6) (.s 7), some 4, none⟩] none)
  (.seq (.cond (.s 4) .skip
  (.exit 0))
  (.seq (.block 1 (.seq (.reg [⟨.mov (.s 6), none, none⟩,
     ⟨.mov (.l 0), some 8, none⟩] none)
   (.seq (.reg [⟨.mov (.s 0), none, none⟩,
     ⟨.mov (.s 8), none, none⟩,
     ⟨.iad (.l 0) (.l 1) 2, none, none⟩,
     ⟨.ld (.l 2) 2 true, none, none⟩,
     ⟨.mov (.s 1), none, none⟩,
     ⟨.mov (.s 8), none, none⟩,
     ⟨.iad (.l 4) (.l 5) 2, none, none⟩,
     ⟨.ld (.l 6) 2 true, none, none⟩,
     ⟨.eqv true (.st [1, 1]) (.l 3) (.l 7), some 5, none⟩] (some false))
   (.cond (.s 5) (.seq (.reg [⟨.mov (.c (.b false)), some 2, none⟩] none)
    .ret)
   .skip))))
  (.reg [⟨.bin .add (.s 6) (.c (.i .i64 1)), none, none⟩,
    ⟨.mov (.l 0), some 6, none⟩] none))))
def v20 : VFunc :=
  ⟨2, 9, [.s 2],
  (.seq (.reg [⟨.mov (.c (.b false)), some 2, none⟩] none)
  (.seq (.seq (.reg [⟨.mov (.s 0), none, none⟩,
    ⟨.len 1 (.l 0), none, none⟩,
    ⟨.mov (.s 1), none, none⟩,
    ⟨.len 1 (.l 2), none, none⟩,
    ⟨.bin .neq (.l 1) (.l 3), some 3, none⟩] none)
  (.cond (.s 3) (.seq (.reg [⟨.mov (.c (.b false)), some 2, none⟩] none)
   .ret)
  .skip))
  (.seq (.seq (.reg [⟨.mov (.s 0), none, none⟩,
    ⟨.len 1 (.l 0), some 7, none⟩,
    ⟨.mov (.c (.i .i64 0)), some 6, none⟩] none)
  (.block 0 (.loop v20l0)))
  (.seq (.reg [⟨.mov (.c (.b true)), some 2, none⟩] none)
  .ret)))), true, false⟩

def tm20 : List Nat := [0, 1, 4, 10, 14, 24, 13, 12, 5]
def bs20 : List Nat := []

-- annuitant/span.Has
def v29 : VFunc :=
  ⟨2, 5, [.s 2],
  (.seq (.reg [⟨.mov (.c (.b false)), some 2, none⟩] none)
  (.seq (.seq (.reg [⟨.mov (.s 0), none, none⟩,
    ⟨.call 55 [(.l 0)], none, none⟩,
    ⟨.un .not (.l 1), some 3, none⟩] none)
  (.cond (.s 3) (.seq (.reg [⟨.mov (.c (.b false)), some 2, none⟩] none)
   .ret)
  .skip))
  (.seq (.reg [⟨.mov (.s 0), none, none⟩,
    ⟨.mov (.s 1), none, none⟩,
    ⟨.call 56 [(.l 0), (.l 1)], none, none⟩,
    ⟨.mov (.l 2), some 4, none⟩] none)
  (.seq (.reg [⟨.mov (.s 4), none, none⟩,
    ⟨.mov (.s 0), none, none⟩,
    ⟨.len 1 (.l 1), none, none⟩,
    ⟨.bin .lss (.l 0) (.l 2), none, none⟩,
    ⟨.mov (.l 3), none, none⟩,
    ⟨.mov (.s 0), none, some ((.l 4), true)⟩,
    ⟨.mov (.s 4), none, some ((.l 4), true)⟩,
    ⟨.iad (.l 5) (.l 6) 2, none, some ((.l 4), true)⟩,
    ⟨.fad (.l 7) 0, none, some ((.l 4), true)⟩,
    ⟨.ld (.l 8) 1 false, none, some ((.l 4), true)⟩,
    ⟨.mov (.s 1), none, some ((.l 4), true)⟩,
    ⟨.bin .leq (.l 9) (.l 10), none, some ((.l 4), true)⟩,
    ⟨.pick (.l 4) (.l 11) (.c (.b false)), none, none⟩,
    ⟨.mov (.l 12), some 2, none⟩] none)
  .ret)))), true, false⟩

def tm29 : List Nat := [0, 1, 4, 8, 5]
def bs29 : List Nat := []

-- slices.ContainsFunc[[]annuitant/eval.Read,annuitant/eval.Read]
def v30 : VFunc :=
  ⟨2, 3, [.s 2],
  (.seq (.reg [⟨.mov (.c (.b false)), some 2, none⟩] none)
  (.seq (.reg [⟨.mov (.s 0), none, none⟩,
    ⟨.mov (.s 1), none, none⟩,
    ⟨.call 57 [(.l 0), (.l 1)], none, none⟩,
    ⟨.bin .geq (.l 2) (.c (.i .i64 0)), none, none⟩,
    ⟨.mov (.l 3), some 2, none⟩] none)
  .ret)), false, false⟩

def tm30 : List Nat := [0, 1, 4]
def bs30 : List Nat := []

-- annuitant/depend.Fact$1
def v31 : VFunc :=
  ⟨2, 4, [.s 2],
  (.seq (.reg [⟨.lbx (.s 0) 3, some 3, none⟩,
    ⟨.mov (.c (.b false)), some 2, none⟩] none)
  (.seq (.reg [⟨.lfa (.sl 3) 0, none, none⟩,
    ⟨.lld (.lo 0) 1 false, none, none⟩,
    ⟨.fad (.s 1) 0, none, none⟩,
    ⟨.ld (.l 2) 1 false, none, none⟩,
    ⟨.bin .eql (.l 1) (.l 3), none, none⟩,
    ⟨.mov (.l 4), none, none⟩,
    ⟨.lfa (.sl 3) 1, none, some ((.l 5), true)⟩,
    ⟨.lld (.lo 6) 1 false, none, some ((.l 5), true)⟩,
    ⟨.fad (.s 1) 1, none, some ((.l 5), true)⟩,
    ⟨.ld (.l 8) 1 false, none, some ((.l 5), true)⟩,
    ⟨.mx [(.l 7), (.l 9)], none, some ((.l 5), true)⟩,
    ⟨.lfa (.sl 3) 2, none, some ((.l 5), true)⟩,
    ⟨.lld (.lo 11) 1 false, none, some ((.l 5), true)⟩,
    ⟨.fad (.s 1) 2, none, some ((.l 5), true)⟩,
    ⟨.ld (.l 13) 1 false, none, some ((.l 5), true)⟩,
    ⟨.mn [(.l 12), (.l 14)], none, some ((.l 5), true)⟩,
    ⟨.bin .lss (.l 10) (.l 15), none, some ((.l 5), true)⟩,
    ⟨.pick (.l 5) (.l 16) (.c (.b false)), none, none⟩,
    ⟨.mov (.l 17), some 2, none⟩] none)
  .ret)), false, false⟩

def tm31 : List Nat := [0, 1, 3, 2]
def bs31 : List Nat := [3]

-- slices.ContainsFunc[[]annuitant/eval.Pair,annuitant/eval.Pair]
def v32 : VFunc :=
  ⟨2, 3, [.s 2],
  (.seq (.reg [⟨.mov (.c (.b false)), some 2, none⟩] none)
  (.seq (.reg [⟨.mov (.s 0), none, none⟩,
    ⟨.mov (.s 1), none, none⟩,
    ⟨.call 58 [(.l 0), (.l 1)], none, none⟩,
    ⟨.bin .geq (.l 2) (.c (.i .i64 0)), none, none⟩,
    ⟨.mov (.l 3), some 2, none⟩] none)
  .ret)), false, false⟩

def tm32 : List Nat := [0, 1, 4]
def bs32 : List Nat := []

-- annuitant/depend.Clause$1
def v33 : VFunc :=
  ⟨2, 4, [.s 2],
  (.seq (.reg [⟨.lbx (.s 0) 2, some 3, none⟩,
    ⟨.mov (.c (.b false)), some 2, none⟩] none)
  (.seq (.reg [⟨.lfa (.sl 3) 0, none, none⟩,
    ⟨.lld (.lo 0) 1 false, none, none⟩,
    ⟨.fad (.s 1) 0, none, none⟩,
    ⟨.ld (.l 2) 1 false, none, none⟩,
    ⟨.bin .eql (.l 1) (.l 3), none, none⟩,
    ⟨.mov (.l 4), none, none⟩,
    ⟨.fad (.s 1) 2, none, some ((.l 5), true)⟩,
    ⟨.ld (.l 6) 1 false, none, some ((.l 5), true)⟩,
    ⟨.lfa (.sl 3) 1, none, some ((.l 5), true)⟩,
    ⟨.lld (.lo 8) 1 false, none, some ((.l 5), true)⟩,
    ⟨.bin .leq (.l 7) (.l 9), none, some ((.l 5), true)⟩,
    ⟨.pick (.l 5) (.l 10) (.c (.b false)), none, none⟩,
    ⟨.mov (.l 11), none, none⟩,
    ⟨.lfa (.sl 3) 1, none, some ((.l 12), true)⟩,
    ⟨.lld (.lo 13) 1 false, none, some ((.l 12), true)⟩,
    ⟨.fad (.s 1) 3, none, some ((.l 12), true)⟩,
    ⟨.ld (.l 15) 1 false, none, some ((.l 12), true)⟩,
    ⟨.bin .lss (.l 14) (.l 16), none, some ((.l 12), true)⟩,
    ⟨.pick (.l 12) (.l 17) (.c (.b false)), none, none⟩,
    ⟨.mov (.l 18), some 2, none⟩] none)
  .ret)), false, false⟩

def tm33 : List Nat := [0, 1, 3, 2]
def bs33 : List Nat := [3]

-- slices.Contains[[]string,string]
def v34 : VFunc :=
  ⟨2, 3, [.s 2],
  (.seq (.reg [⟨.mov (.c (.b false)), some 2, none⟩] none)
  (.seq (.reg [⟨.mov (.s 0), none, none⟩,
    ⟨.mov (.s 1), none, none⟩,
    ⟨.call 59 [(.l 0), (.l 1)], none, none⟩,
    ⟨.bin .geq (.l 2) (.c (.i .i64 0)), none, none⟩,
    ⟨.mov (.l 3), some 2, none⟩] none)
  .ret)), true, false⟩

def tm34 : List Nat := [0, 1, 4]
def bs34 : List Nat := []

-- annuitant/span.Make
def v35l0 : VCode :=
  (.seq (.reg [⟨.bin .lss (.s 9) (.s 10), some 3, none⟩] none)
  (.seq (.cond (.s 3) .skip
  (.exit 0))
  (.seq (.block 1 (.seq (.reg [⟨.iad (.s 11) (.s 9) 2, none, none⟩,
     ⟨.ld (.l 0) 2 true, none, none⟩,
     ⟨.lal [(.i .i64 0), (.i .i64 0)], some 12, none⟩,
     ⟨.lst (.sl 12) (.l 1) 2, none, none⟩] none)
   (.seq (.seq (.reg [⟨.lld (.sl 12) 2 true, none, none⟩,
     ⟨.call 60 [(.l 0)], none, none⟩,
     ⟨.un .not (.l 1), some 4, none⟩] none)
   (.cond (.s 4) (.seq (.reg [⟨.mov (.c .nil), some 1, none⟩,
      ⟨.mov (.c (.i .i64 2)), some 2, none⟩] none)
    .ret)
   .skip))
   (.seq (.reg [⟨.lfa (.sl 12) 0, none, none⟩,
     ⟨.lld (.lo 0) 1 false, none, none⟩,
     ⟨.lfa (.sl 12) 1, none, none⟩,
     ⟨.lld (.lo 2) 1 false, none, none⟩,
     ⟨.bin .lss (.l 1) (.l 3), some 5, none⟩] none)
   (.cond (.s 5) (.reg [⟨.mov (.s 8), none, none⟩,
      ⟨.lld (.sl 12) 2 true, none, none⟩,
      ⟨.bsv 2 1 [(.i .i64 0), (.i .i64 0)] [(0, (.l 1))], none, none⟩,
      ⟨.app (.l 0) (.l 2) 2 16 true, none, none⟩,
      ⟨.mov (.l 3), some 8, none⟩] none)
   .skip)))))
  (.reg [⟨.bin .add (.s 9) (.c (.i .i64 1)), none, none⟩,
    ⟨.mov (.l 0), some 9, none⟩] none))))
def v35l1 : VCode :=
  (.seq (.reg [⟨.bin .lss (.s 14) (.s 15), some 6, none⟩] none)
  (.seq (.cond (.s 6) .skip
  (.exit 2))
  (.seq (.block 3 (.seq (.reg [⟨.iad (.s 16) (.s 14) 2, none, none⟩,
     ⟨.ld (.l 0) 2 true, none, none⟩,
     ⟨.lal [(.i .i64 0), (.i .i64 0)], some 18, none⟩,
     ⟨.lst (.sl 18) (.l 1) 2, none, none⟩] none)
   (.seq (.reg [⟨.mov (.s 13), none, none⟩,
     ⟨.len 1 (.l 0), none, none⟩,
     ⟨.mov (.l 1), some 17, none⟩] none)
   (.seq (.reg [⟨.mov (.s 17), none, none⟩,
     ⟨.bin .gtr (.l 0) (.c (.i .i64 0)), none, none⟩,
     ⟨.mov (.l 1), none, none⟩,
     ⟨.mov (.s 13), none, some ((.l 2), true)⟩,
     ⟨.mov (.s 17), none, some ((.l 2), true)⟩,
     ⟨.bin .sub (.l 4) (.c (.i .i64 1)), none, some ((.l 2), true)⟩,
     ⟨.iad (.l 3) (.l 5) 2, none, some ((.l 2), true)⟩,
     ⟨.fad (.l 6) 1, none, some ((.l 2), true)⟩,
     ⟨.ld (.l 7) 1 false, none, some ((.l 2), true)⟩,
     ⟨.lfa (.sl 18) 0, none, some ((.l 2), true)⟩,
     ⟨.lld (.lo 9) 1 false, none, some ((.l 2), true)⟩,
     ⟨.bin .geq (.l 8) (.l 10), none, some ((.l 2), true)⟩,
     ⟨.pick (.l 2) (.l 11) (.c (.b false)), some 7, none⟩] (some false))
   (.cond (.s 7) (.reg [⟨.mov (.s 13), none, none⟩,
      ⟨.mov (.s 17), none, none⟩,
      ⟨.bin .sub (.l 1) (.c (.i .i64 1)), none, none⟩,
      ⟨.mov (.s 13), none, none⟩,
      ⟨.mov (.s 17), none, none⟩,
      ⟨.bin .sub (.l 4) (.c (.i .i64 1)), none, none⟩,
      ⟨.iad (.l 3) (.l 5) 2, none, none⟩,
      ⟨.fad (.l 6) 1, none, none⟩,
      ⟨.ld (.l 7) 1 false, none, none⟩,
      ⟨.lfa (.sl 18) 1, none, none⟩,
      ⟨.lld (.lo 9) 1 false, none, none⟩,
      ⟨.mx [(.l 8), (.l 10)], none, none⟩,
      ⟨.iad (.l 0) (.l 2) 2, none, none⟩,
      ⟨.fad (.l 12) 1, none, none⟩,
      ⟨.st (.l 13) (.l 11) 1, none, none⟩] (some false))
   (.reg [⟨.mov (.s 13), none, none⟩,
      ⟨.lld (.sl 18) 2 true, none, none⟩,
      ⟨.bsv 2 1 [(.i .i64 0), (.i .i64 0)] [(0, (.l 1))], none, none⟩,
      ⟨.app (.l 0) (.l 2) 2 16 true, none, none⟩,
      ⟨.mov (.l 3), some 13, none⟩] none))))))
  (.reg [⟨.bin .add (.s 14) (.c (.i .i64 1)), none, none⟩,
    ⟨.mov (.l 0), some 14, none⟩] none))))
def v35 : VFunc :=
  ⟨1, 19, [.s 1, .s 2],
  (.seq (.reg [⟨.mov (.c .nil), some 1, none⟩,
    ⟨.mov (.c (.i .i64 0)), some 2, none⟩] none)
  (.seq (.reg [⟨.mov (.c .nil), some 8, none⟩] none)
  (.seq (.seq (.reg [⟨.mov (.s 0), some 11, none⟩,
    ⟨.len 1 (.s 11), some 10, none⟩,
    ⟨.mov (.c (.i .i64 0)), some 9, none⟩] none)
  (.block 0 (.loop v35l0)))
  (.seq (.reg [⟨.mov (.s 8), none, none⟩,
    ⟨.call 61 [(.l 0), (.c (.fn (.func 62) [] []))], none, none⟩] none)
  (.seq (.reg [⟨.mov (.c .nil), some 13, none⟩] none)
  (.seq (.seq (.reg [⟨.mov (.s 8), some 16, none⟩,
    ⟨.len 1 (.s 16), some 15, none⟩,
    ⟨.mov (.c (.i .i64 0)), some 14, none⟩] none)
  (.block 2 (.loop v35l1)))
  (.seq (.reg [⟨.mov (.s 13), none, none⟩,
    ⟨.mov (.l 0), some 1, none⟩,
    ⟨.mov (.c (.i .i64 0)), some 2, none⟩] none)
  .ret))))))), true, false⟩

def tm35 : List Nat := [0, 2, 3, 14, 19, 24, 35, 52, 4, 13, 12, 11, 6, 7, 34, 33, 32, 10, 9]
def bs35 : List Nat := [12, 18]

-- annuitant/annuitantref04.Make
def v36l0 : VCode :=
  (.seq (.seq (.reg [⟨.mov (.s 5), none, none⟩,
    ⟨.mov (.s 0), none, none⟩,
    ⟨.len 1 (.l 1), none, none⟩,
    ⟨.bin .lss (.l 0) (.l 2), some 3, none⟩] none)
  (.cond (.s 3) .skip
  (.exit 0)))
  (.seq (.block 1 (.seq (.reg [⟨.mov (.s 0), none, none⟩,
     ⟨.mov (.s 5), none, none⟩,
     ⟨.iad (.l 0) (.l 1) 2, none, none⟩,
     ⟨.ld (.l 2) 2 true, none, none⟩,
     ⟨.call 64 [(.l 3)], none, none⟩,
     ⟨.un .not (.l 4), some 4, none⟩] none)
   (.cond (.s 4) (.seq (.reg [⟨.mov (.c .nil), some 1, none⟩,
      ⟨.mov (.c (.i .i64 2)), some 2, none⟩] none)
    .ret)
   .skip)))
  (.reg [⟨.mov (.s 5), none, none⟩,
    ⟨.bin .add (.l 0) (.c (.i .i64 1)), none, none⟩,
    ⟨.mov (.l 1), some 5, none⟩] none)))
def v36 : VFunc :=
  ⟨1, 6, [.s 1, .s 2],
  (.seq (.reg [⟨.mov (.c .nil), some 1, none⟩,
    ⟨.mov (.c (.i .i64 0)), some 2, none⟩] none)
  (.seq (.seq (.reg [⟨.mov (.c (.i .i64 0)), some 5, none⟩] none)
  (.block 0 (.loop v36l0)))
  (.seq (.reg [⟨.mov (.s 0), none, none⟩,
    ⟨.call 66 [(.l 0)], none, none⟩,
    ⟨.call 65 [(.l 1)], none, none⟩,
    ⟨.mov (.l 2), some 1, none⟩,
    ⟨.mov (.c (.i .i64 0)), some 2, none⟩] none)
  .ret))), true, false⟩

def tm36 : List Nat := [0, 2, 3, 8, 16, 4]
def bs36 : List Nat := []

-- annuitant/depend.once[string]
def v37l0 : VCode :=
  (.seq (.reg [⟨.bin .lss (.s 11) (.s 12), some 4, none⟩] none)
  (.seq (.cond (.s 4) .skip
  (.exit 2))
  (.seq (.block 3 (.seq (.reg [⟨.iad (.s 13) (.s 11) 1, none, none⟩,
     ⟨.ld (.l 0) 1 false, none, none⟩,
     ⟨.mov (.l 1), some 15, none⟩] none)
   (.seq (.reg [⟨.mov (.s 14), none, none⟩,
     ⟨.mov (.s 15), none, none⟩,
     ⟨.lk (.c 2) (.l 0) (.l 1) false (.b false), none, none⟩,
     ⟨.un .not (.l 2), some 5, none⟩] none)
   (.cond (.s 5) (.seq (.reg [⟨.mov (.s 14), none, none⟩,
      ⟨.mov (.s 15), none, none⟩,
      ⟨.mup (.c 2) (.l 0) (.l 1) (.c (.b true)), none, none⟩] none)
    (.reg [⟨.mov (.s 6), none, none⟩,
      ⟨.mov (.s 15), none, none⟩,
      ⟨.bsv 1 1 [(.s [])] [(0, (.l 1))], none, none⟩,
      ⟨.app (.l 0) (.l 2) 1 16 true, none, none⟩,
      ⟨.mov (.l 3), some 6, none⟩] none))
   .skip))))
  (.reg [⟨.bin .add (.s 11) (.c (.i .i64 1)), none, none⟩,
    ⟨.mov (.l 0), some 11, none⟩] none))))
def v37l1 : VCode :=
  (.seq (.reg [⟨.bin .lss (.s 7) (.s 8), some 3, none⟩] none)
  (.seq (.cond (.s 3) .skip
  (.exit 0))
  (.seq (.block 1 (.seq (.reg [⟨.iad (.s 9) (.s 7) 1, none, none⟩,
     ⟨.ld (.l 0) 1 false, none, none⟩,
     ⟨.mov (.l 1), some 10, none⟩] none)
   (.seq (.reg [⟨.mov (.s 10), some 13, none⟩,
     ⟨.len 1 (.s 13), some 12, none⟩,
     ⟨.mov (.c (.i .i64 0)), some 11, none⟩] none)
   (.block 2 (.loop v37l0)))))
  (.reg [⟨.bin .add (.s 7) (.c (.i .i64 1)), none, none⟩,
    ⟨.mov (.l 0), some 7, none⟩] none))))
def v37 : VFunc :=
  ⟨2, 16, [.s 2],
  (.seq (.reg [⟨.mov (.c .nil), some 2, none⟩] none)
  (.seq (.reg [⟨.mov (.c .nil), some 6, none⟩] none)
  (.seq (.reg [⟨.mkm, none, none⟩,
    ⟨.mov (.l 0), some 14, none⟩] none)
  (.seq (.seq (.reg [⟨.mov (.s 0), none, none⟩,
    ⟨.mov (.s 1), none, none⟩,
    ⟨.bsv 1 2 [.nil] [(0, (.l 0)), (1, (.l 1))], some 9, none⟩,
    ⟨.len 1 (.s 9), some 8, none⟩,
    ⟨.mov (.c (.i .i64 0)), some 7, none⟩] none)
  (.block 0 (.loop v37l1)))
  (.seq (.reg [⟨.mov (.s 6), none, none⟩,
    ⟨.mov (.l 0), some 2, none⟩] none)
  .ret))))), true, false⟩

def tm37 : List Nat := [0, 1, 4, 17, 23, 29, 5, 16, 15, 14, 8, 22, 21, 20, 6, 10]
def bs37 : List Nat := []

-- annuitant/span.Valid
def v55l0 : VCode :=
  (.seq (.reg [⟨.bin .lss (.s 4) (.s 5), some 2, none⟩] none)
  (.seq (.cond (.s 2) .skip
  (.exit 0))
  (.seq (.block 1 (.seq (.reg [⟨.mov (.s 4), none, none⟩,
     ⟨.iad (.s 6) (.s 4) 2, none, none⟩,
     ⟨.ld (.l 1) 2 true, none, none⟩,
     ⟨.lal [(.i .i64 0), (.i .i64 0)], some 7, none⟩,
     ⟨.mov (.l 0), some 8, none⟩,
     ⟨.lst (.sl 7) (.l 2) 2, none, none⟩] none)
   (.seq (.reg [⟨.lld (.sl 7) 2 true, none, none⟩,
     ⟨.call 60 [(.l 0)], none, none⟩,
     ⟨.un .not (.l 1), none, none⟩,
     ⟨.mov (.l 2), none, none⟩,
     ⟨.lfa (.sl 7) 0, none, some ((.l 3), false)⟩,
     ⟨.lld (.lo 4) 1 false, none, some ((.l 3), false)⟩,
     ⟨.lfa (.sl 7) 1, none, some ((.l 3), false)⟩,
     ⟨.lld (.lo 6) 1 false, none, some ((.l 3), false)⟩,
     ⟨.bin .eql (.l 5) (.l 7), none, some ((.l 3), false)⟩,
     ⟨.pick (.l 3) (.c (.b true)) (.l 8), none, none⟩,
     ⟨.mov (.l 9), none, none⟩,
     ⟨.mov (.s 8), none, some ((.l 10), false)⟩,
     ⟨.bin .gtr (.l 11) (.c (.i .i64 0)), none, some ((.l 10), false)⟩,
     ⟨.mov (.l 12), none, some ((.l 10), false)⟩,
     ⟨.mov (.s 0), none, some ((.l 13), true)⟩,
     ⟨.mov (.s 8), none, some ((.l 13), true)⟩,
     ⟨.bin .sub (.l 15) (.c (.i .i64 1)), none, some ((.l 13), true)⟩,
     ⟨.iad (.l 14) (.l 16) 2, none, some ((.l 13), true)⟩,
     ⟨.fad (.l 17) 1, none, some ((.l 13), true)⟩,
     ⟨.ld (.l 18) 1 false, none, some ((.l 13), true)⟩,
     ⟨.lfa (.sl 7) 0, none, some ((.l 13), true)⟩,
     ⟨.lld (.lo 20) 1 false, none, some ((.l 13), true)⟩,
     ⟨.bin .geq (.l 19) (.l 21), none, some ((.l 13), true)⟩,
     ⟨.pick (.l 13) (.l 22) (.c (.b false)), none, some ((.l 10), false)⟩,
     ⟨.pick (.l 10) (.c (.b true)) (.l 23), some 3, none⟩] (some false))
   (.cond (.s 3) (.seq (.reg [⟨.mov (.c (.b false)), some 1, none⟩] none)
    .ret)
   .skip))))
  (.reg [⟨.bin .add (.s 4) (.c (.i .i64 1)), none, none⟩,
    ⟨.mov (.l 0), some 4, none⟩] none))))
def v55 : VFunc :=
  ⟨1, 9, [.s 1],
  (.seq (.reg [⟨.mov (.c (.b false)), some 1, none⟩] none)
  (.seq (.seq (.reg [⟨.mov (.s 0), some 6, none⟩,
    ⟨.len 1 (.s 6), some 5, none⟩,
    ⟨.mov (.c (.i .i64 0)), some 4, none⟩] none)
  (.block 0 (.loop v55l0)))
  (.seq (.reg [⟨.mov (.c (.b true)), some 1, none⟩] none)
  .ret))), true, false⟩

def tm55 : List Nat := [0, 2, 8, 36, 7, 6, 5, 4, 3]
def bs55 : List Nat := [7]

-- annuitant/span.find
def v56 : VFunc :=
  ⟨2, 5, [.s 2],
  (.seq (.reg [⟨.hbx (.s 0) 1, some 3, none⟩,
    ⟨.hbx (.s 1) 1, some 4, none⟩,
    ⟨.mov (.c (.i .i64 0)), some 2, none⟩] none)
  (.seq (.reg [⟨.ld (.s 3) 1 false, none, none⟩,
    ⟨.len 1 (.l 0), none, none⟩,
    ⟨.mkf (.func 76) [] [(.s 3), (.s 4)], none, none⟩,
    ⟨.call 75 [(.l 1), (.l 2)], none, none⟩,
    ⟨.mov (.l 3), some 2, none⟩] none)
  .ret)), true, false⟩

def tm56 : List Nat := [0, 1, 4, 2, 3]
def bs56 : List Nat := []

-- slices.IndexFunc[[]annuitant/eval.Read,annuitant/eval.Read]
def v57l0 : VCode :=
  (.seq (.reg [⟨.bin .lss (.s 5) (.s 6), some 3, none⟩] none)
  (.seq (.cond (.s 3) .skip
  (.exit 0))
  (.seq (.block 1 (.seq (.reg [⟨.mov (.s 5), none, none⟩,
     ⟨.mov (.l 0), some 7, none⟩] none)
   (.seq (.reg [⟨.mov (.s 1), none, none⟩,
     ⟨.mov (.s 0), none, none⟩,
     ⟨.mov (.s 7), none, none⟩,
     ⟨.iad (.l 1) (.l 2) 3, none, none⟩,
     ⟨.ld (.l 3) 3 true, none, none⟩,
     ⟨.calv (.l 0) [(.l 4)], some 4, none⟩] none)
   (.cond (.s 4) (.seq (.reg [⟨.mov (.s 7), none, none⟩,
      ⟨.mov (.l 0), some 2, none⟩] none)
    .ret)
   .skip))))
  (.reg [⟨.bin .add (.s 5) (.c (.i .i64 1)), none, none⟩,
    ⟨.mov (.l 0), some 5, none⟩] none))))
def v57 : VFunc :=
  ⟨2, 8, [.s 2],
  (.seq (.reg [⟨.mov (.c (.i .i64 0)), some 2, none⟩] none)
  (.seq (.seq (.reg [⟨.mov (.s 0), none, none⟩,
    ⟨.len 1 (.l 0), some 6, none⟩,
    ⟨.mov (.c (.i .i64 0)), some 5, none⟩] none)
  (.block 0 (.loop v57l0)))
  (.seq (.reg [⟨.mov (.c (.i .i64 (-1))), some 2, none⟩] none)
  .ret))), false, false⟩

def tm57 : List Nat := [0, 1, 4, 9, 16, 8, 7, 5]
def bs57 : List Nat := []

-- slices.IndexFunc[[]annuitant/eval.Pair,annuitant/eval.Pair]
def v58l0 : VCode :=
  (.seq (.reg [⟨.bin .lss (.s 5) (.s 6), some 3, none⟩] none)
  (.seq (.cond (.s 3) .skip
  (.exit 0))
  (.seq (.block 1 (.seq (.reg [⟨.mov (.s 5), none, none⟩,
     ⟨.mov (.l 0), some 7, none⟩] none)
   (.seq (.reg [⟨.mov (.s 1), none, none⟩,
     ⟨.mov (.s 0), none, none⟩,
     ⟨.mov (.s 7), none, none⟩,
     ⟨.iad (.l 1) (.l 2) 2, none, none⟩,
     ⟨.ld (.l 3) 2 true, none, none⟩,
     ⟨.calv (.l 0) [(.l 4)], some 4, none⟩] none)
   (.cond (.s 4) (.seq (.reg [⟨.mov (.s 7), none, none⟩,
      ⟨.mov (.l 0), some 2, none⟩] none)
    .ret)
   .skip))))
  (.reg [⟨.bin .add (.s 5) (.c (.i .i64 1)), none, none⟩,
    ⟨.mov (.l 0), some 5, none⟩] none))))
def v58 : VFunc :=
  ⟨2, 8, [.s 2],
  (.seq (.reg [⟨.mov (.c (.i .i64 0)), some 2, none⟩] none)
  (.seq (.seq (.reg [⟨.mov (.s 0), none, none⟩,
    ⟨.len 1 (.l 0), some 6, none⟩,
    ⟨.mov (.c (.i .i64 0)), some 5, none⟩] none)
  (.block 0 (.loop v58l0)))
  (.seq (.reg [⟨.mov (.c (.i .i64 (-1))), some 2, none⟩] none)
  .ret))), false, false⟩

def tm58 : List Nat := [0, 1, 4, 9, 16, 8, 7, 5]
def bs58 : List Nat := []

-- slices.Index[[]string,string]
def v59l0 : VCode :=
  (.seq (.reg [⟨.bin .lss (.s 5) (.s 6), some 3, none⟩] none)
  (.seq (.cond (.s 3) .skip
  (.exit 0))
  (.seq (.block 1 (.seq (.reg [⟨.mov (.s 5), none, none⟩,
     ⟨.mov (.l 0), some 7, none⟩] none)
   (.seq (.reg [⟨.mov (.s 1), none, none⟩,
     ⟨.mov (.s 0), none, none⟩,
     ⟨.mov (.s 7), none, none⟩,
     ⟨.iad (.l 1) (.l 2) 1, none, none⟩,
     ⟨.ld (.l 3) 1 false, none, none⟩,
     ⟨.bin .eql (.l 0) (.l 4), some 4, none⟩] none)
   (.cond (.s 4) (.seq (.reg [⟨.mov (.s 7), none, none⟩,
      ⟨.mov (.l 0), some 2, none⟩] none)
    .ret)
   .skip))))
  (.reg [⟨.bin .add (.s 5) (.c (.i .i64 1)), none, none⟩,
    ⟨.mov (.l 0), some 5, none⟩] none))))
def v59 : VFunc :=
  ⟨2, 8, [.s 2],
  (.seq (.reg [⟨.mov (.c (.i .i64 0)), some 2, none⟩] none)
  (.seq (.seq (.reg [⟨.mov (.s 0), none, none⟩,
    ⟨.len 1 (.l 0), some 6, none⟩,
    ⟨.mov (.c (.i .i64 0)), some 5, none⟩] none)
  (.block 0 (.loop v59l0)))
  (.seq (.reg [⟨.mov (.c (.i .i64 (-1))), some 2, none⟩] none)
  .ret))), true, false⟩

def tm59 : List Nat := [0, 1, 4, 9, 16, 8, 7, 5]
def bs59 : List Nat := []

-- annuitant/span.isSpan
def v60 : VFunc :=
  ⟨1, 3, [.s 1],
  (.seq (.reg [⟨.lbx (.s 0) 2, some 2, none⟩,
    ⟨.mov (.c (.b false)), some 1, none⟩] none)
  (.seq (.reg [⟨.lfa (.sl 2) 0, none, none⟩,
    ⟨.lld (.lo 0) 1 false, none, none⟩,
    ⟨.bin .leq (.c (.i .i64 0)) (.l 1), none, none⟩,
    ⟨.mov (.l 2), none, none⟩,
    ⟨.lfa (.sl 2) 0, none, some ((.l 3), true)⟩,
    ⟨.lld (.lo 4) 1 false, none, some ((.l 3), true)⟩,
    ⟨.lfa (.sl 2) 1, none, some ((.l 3), true)⟩,
    ⟨.lld (.lo 6) 1 false, none, some ((.l 3), true)⟩,
    ⟨.bin .leq (.l 5) (.l 7), none, some ((.l 3), true)⟩,
    ⟨.pick (.l 3) (.l 8) (.c (.b false)), none, none⟩,
    ⟨.mov (.l 9), none, none⟩,
    ⟨.lfa (.sl 2) 1, none, some ((.l 10), true)⟩,
    ⟨.lld (.lo 11) 1 false, none, some ((.l 10), true)⟩,
    ⟨.bin .leq (.l 12) (.c (.i .i64 65536)), none, some ((.l 10), true)⟩,
    ⟨.pick (.l 10) (.l 13) (.c (.b false)), none, none⟩,
    ⟨.mov (.l 14), some 1, none⟩] none)
  .ret)), true, false⟩

def tm60 : List Nat := [0, 2, 1]
def bs60 : List Nat := [2]

-- slices.SortFunc[[]annuitant/api.Span,annuitant/api.Span]
def v61 : VFunc :=
  ⟨2, 3, [],
  (.seq (.reg [⟨.mov (.s 0), none, none⟩,
    ⟨.len 1 (.l 0), none, none⟩,
    ⟨.mov (.l 1), some 2, none⟩] none)
  (.reg [⟨.mov (.s 0), none, none⟩,
    ⟨.mov (.s 2), none, none⟩,
    ⟨.mov (.s 2), none, none⟩,
    ⟨.cvi .u64 (.l 2), none, none⟩,
    ⟨.call 78 [(.l 3)], none, none⟩,
    ⟨.mov (.s 1), none, none⟩,
    ⟨.call 77 [(.l 0), (.c (.i .i64 0)), (.l 1), (.l 4), (.l 5)], none, none⟩] none)), false, false⟩

def tm61 : List Nat := [0, 1, 4]
def bs61 : List Nat := []

-- annuitant/span.Make$1
def v62 : VFunc :=
  ⟨2, 5, [.s 2],
  (.seq (.reg [⟨.lbx (.s 0) 2, some 3, none⟩,
    ⟨.lbx (.s 1) 2, some 4, none⟩,
    ⟨.mov (.c (.i .i64 0)), some 2, none⟩] none)
  (.seq (.reg [⟨.lfa (.sl 3) 0, none, none⟩,
    ⟨.lld (.lo 0) 1 false, none, none⟩,
    ⟨.lfa (.sl 4) 0, none, none⟩,
    ⟨.lld (.lo 2) 1 false, none, none⟩,
    ⟨.call 63 [(.l 1), (.l 3)], none, none⟩,
    ⟨.mov (.l 4), some 2, none⟩] none)
  .ret)), true, false⟩

def tm62 : List Nat := [0, 1, 4, 2, 3]
def bs62 : List Nat := [3, 4]

-- cmp.Compare[int]
def v63 : VFunc :=
  ⟨2, 10, [.s 2],
  (.seq (.reg [⟨.mov (.c (.i .i64 0)), some 2, none⟩] none)
  (.seq (.reg [⟨.mov (.s 0), none, none⟩,
    ⟨.call 79 [(.l 0)], none, none⟩,
    ⟨.mov (.l 1), some 8, none⟩] none)
  (.seq (.reg [⟨.mov (.s 1), none, none⟩,
    ⟨.call 79 [(.l 0)], none, none⟩,
    ⟨.mov (.l 1), some 9, none⟩] none)
  (.seq (.seq (.reg [⟨.mov (.s 8), some 3, none⟩] none)
  (.cond (.s 3) (.seq (.seq (.reg [⟨.mov (.s 9), some 4, none⟩] none)
   (.cond (.s 4) (.seq (.reg [⟨.mov (.c (.i .i64 0)), some 2, none⟩] none)
    .ret)
   .skip))
   (.seq (.reg [⟨.mov (.c (.i .i64 (-1))), some 2, none⟩] none)
   .ret))
  .skip))
  (.seq (.seq (.reg [⟨.mov (.s 9), some 5, none⟩] none)
  (.cond (.s 5) (.seq (.reg [⟨.mov (.c (.i .i64 1)), some 2, none⟩] none)
   .ret)
  .skip))
  (.seq (.seq (.reg [⟨.mov (.s 0), none, none⟩,
    ⟨.mov (.s 1), none, none⟩,
    ⟨.bin .lss (.l 0) (.l 1), some 6, none⟩] none)
  (.cond (.s 6) (.seq (.reg [⟨.mov (.c (.i .i64 (-1))), some 2, none⟩] none)
   .ret)
  .skip))
  (.seq (.seq (.reg [⟨.mov (.s 0), none, none⟩,
    ⟨.mov (.s 1), none, none⟩,
    ⟨.bin .gtr (.l 0) (.l 1), some 7, none⟩] none)
  (.cond (.s 7) (.seq (.reg [⟨.mov (.c (.i .i64 1)), some 2, none⟩] none)
   .ret)
  .skip))
  (.seq (.reg [⟨.mov (.c (.i .i64 0)), some 2, none⟩] none)
  .ret)))))))), true, false⟩

def tm63 : List Nat := [0, 1, 4, 11, 12, 13, 16, 19, 5, 6]
def bs63 : List Nat := []

-- annuitant/annuitantref04.Right
def v64 : VFunc :=
  ⟨1, 3, [.s 1],
  (.seq (.reg [⟨.lbx (.s 0) 2, some 2, none⟩,
    ⟨.mov (.c (.b false)), some 1, none⟩] none)
  (.seq (.reg [⟨.lfa (.sl 2) 0, none, none⟩,
    ⟨.lld (.lo 0) 1 false, none, none⟩,
    ⟨.bin .geq (.l 1) (.c (.i .i64 0)), none, none⟩,
    ⟨.mov (.l 2), none, none⟩,
    ⟨.lfa (.sl 2) 0, none, some ((.l 3), true)⟩,
    ⟨.lld (.lo 4) 1 false, none, some ((.l 3), true)⟩,
    ⟨.lfa (.sl 2) 1, none, some ((.l 3), true)⟩,
    ⟨.lld (.lo 6) 1 false, none, some ((.l 3), true)⟩,
    ⟨.bin .leq (.l 5) (.l 7), none, some ((.l 3), true)⟩,
    ⟨.pick (.l 3) (.l 8) (.c (.b false)), none, none⟩,
    ⟨.mov (.l 9), none, none⟩,
    ⟨.lfa (.sl 2) 1, none, some ((.l 10), true)⟩,
    ⟨.lld (.lo 11) 1 false, none, some ((.l 10), true)⟩,
    ⟨.bin .leq (.l 12) (.c (.i .i64 65536)), none, some ((.l 10), true)⟩,
    ⟨.pick (.l 10) (.l 13) (.c (.b false)), none, none⟩,
    ⟨.mov (.l 14), some 1, none⟩] none)
  .ret)), true, false⟩

def tm64 : List Nat := [0, 2, 1]
def bs64 : List Nat := [2]

-- annuitant/annuitantref04.Set
def v65l0 : VCode :=
  (.seq (.seq (.reg [⟨.mov (.s 6), none, none⟩,
    ⟨.bin .lss (.l 0) (.c (.i .i64 65536)), some 2, none⟩] none)
  (.cond (.s 2) .skip
  (.exit 0)))
  (.seq (.block 1 (.seq (.seq (.reg [⟨.mov (.s 0), none, none⟩,
     ⟨.mov (.s 6), none, none⟩,
     ⟨.iad (.l 0) (.l 1) 1, none, none⟩,
     ⟨.ld (.l 2) 1 false, none, none⟩,
     ⟨.un .not (.l 3), some 3, none⟩] none)
   (.cond (.s 3) (.exit 1)
   .skip))
   (.seq (.reg [⟨.mov (.s 6), none, none⟩,
     ⟨.bin .gtr (.l 0) (.c (.i .i64 0)), none, none⟩,
     ⟨.mov (.l 1), none, none⟩,
     ⟨.mov (.s 0), none, some ((.l 2), true)⟩,
     ⟨.mov (.s 6), none, some ((.l 2), true)⟩,
     ⟨.bin .sub (.l 4) (.c (.i .i64 1)), none, some ((.l 2), true)⟩,
     ⟨.iad (.l 3) (.l 5) 1, none, some ((.l 2), true)⟩,
     ⟨.ld (.l 6) 1 false, none, some ((.l 2), true)⟩,
     ⟨.pick (.l 2) (.l 7) (.c (.b false)), some 4, none⟩] none)
   (.cond (.s 4) (.reg [⟨.mov (.s 5), none, none⟩,
      ⟨.mov (.s 5), none, none⟩,
      ⟨.len 1 (.l 1), none, none⟩,
      ⟨.bin .sub (.l 2) (.c (.i .i64 1)), none, none⟩,
      ⟨.mov (.s 6), none, none⟩,
      ⟨.bin .add (.l 4) (.c (.i .i64 1)), none, none⟩,
      ⟨.iad (.l 0) (.l 3) 2, none, none⟩,
      ⟨.fad (.l 6) 1, none, none⟩,
      ⟨.st (.l 7) (.l 5) 1, none, none⟩] none)
   (.reg [⟨.mov (.s 5), none, none⟩,
      ⟨.mov (.s 6), none, none⟩,
      ⟨.mov (.s 6), none, none⟩,
      ⟨.bin .add (.l 2) (.c (.i .i64 1)), none, none⟩,
      ⟨.agc [(.i .i64 0), (.i .i64 0)] [(0, 1, (.l 1)), (1, 1, (.l 3))], none, none⟩,
      ⟨.bsv 2 1 [(.i .i64 0), (.i .i64 0)] [(0, (.l 4))], none, none⟩,
      ⟨.app (.l 0) (.l 5) 2 16 true, none, none⟩,
      ⟨.mov (.l 6), some 5, none⟩] none)))))
  (.reg [⟨.mov (.s 6), none, none⟩,
    ⟨.bin .add (.l 0) (.c (.i .i64 1)), none, none⟩,
    ⟨.mov (.l 1), some 6, none⟩] none)))
def v65 : VFunc :=
  ⟨1, 7, [.s 1],
  (.seq (.reg [⟨.mov (.c .nil), some 1, none⟩] none)
  (.seq (.reg [⟨.mov (.c .nil), some 5, none⟩] none)
  (.seq (.seq (.reg [⟨.mov (.c (.i .i64 0)), some 6, none⟩] none)
  (.block 0 (.loop v65l0)))
  (.seq (.reg [⟨.mov (.s 5), none, none⟩,
    ⟨.mov (.l 0), some 1, none⟩] none)
  .ret)))), true, false⟩

def tm65 : List Nat := [0, 2, 6, 13, 22, 3, 4]
def bs65 : List Nat := []

-- annuitant/annuitantref04.Marks
def v66l0 : VCode :=
  (.seq (.seq (.reg [⟨.mov (.s 5), none, none⟩,
    ⟨.mov (.s 0), none, none⟩,
    ⟨.mov (.s 4), none, none⟩,
    ⟨.iad (.l 1) (.l 2) 2, none, none⟩,
    ⟨.fad (.l 3) 1, none, none⟩,
    ⟨.ld (.l 4) 1 false, none, none⟩,
    ⟨.bin .lss (.l 0) (.l 5), some 3, none⟩] none)
  (.cond (.s 3) .skip
  (.exit 2)))
  (.seq (.block 3 (.reg [⟨.mov (.s 6), none, none⟩,
     ⟨.mov (.s 5), none, none⟩,
     ⟨.iad (.l 0) (.l 1) 1, none, none⟩,
     ⟨.st (.l 2) (.c (.b true)) 1, none, none⟩] none))
  (.reg [⟨.mov (.s 5), none, none⟩,
    ⟨.bin .add (.l 0) (.c (.i .i64 1)), none, none⟩,
    ⟨.mov (.l 1), some 5, none⟩] none)))
def v66l1 : VCode :=
  (.seq (.seq (.reg [⟨.mov (.s 4), none, none⟩,
    ⟨.mov (.s 0), none, none⟩,
    ⟨.len 1 (.l 1), none, none⟩,
    ⟨.bin .lss (.l 0) (.l 2), some 2, none⟩] none)
  (.cond (.s 2) .skip
  (.exit 0)))
  (.seq (.block 1 (.seq (.reg [⟨.mov (.s 0), none, none⟩,
     ⟨.mov (.s 4), none, none⟩,
     ⟨.iad (.l 0) (.l 1) 2, none, none⟩,
     ⟨.fad (.l 2) 0, none, none⟩,
     ⟨.ld (.l 3) 1 false, none, none⟩,
     ⟨.mov (.l 4), some 5, none⟩] none)
   (.block 2 (.loop v66l0))))
  (.reg [⟨.mov (.s 4), none, none⟩,
    ⟨.bin .add (.l 0) (.c (.i .i64 1)), none, none⟩,
    ⟨.mov (.l 1), some 4, none⟩] none)))
def v66 : VFunc :=
  ⟨1, 7, [.s 1],
  (.seq (.reg [⟨.mov (.c .nil), some 1, none⟩] none)
  (.seq (.reg [⟨.mks (.c (.i .i64 65536)) (.c (.i .i64 65536)) 1 1 [(.b false)] true, none, none⟩,
    ⟨.mov (.l 0), some 6, none⟩] none)
  (.seq (.seq (.reg [⟨.mov (.c (.i .i64 0)), some 4, none⟩] none)
  (.block 0 (.loop v66l1)))
  (.seq (.reg [⟨.mov (.s 6), none, none⟩,
    ⟨.mov (.l 0), some 1, none⟩] none)
  .ret)))), true, false⟩

def tm66 : List Nat := [0, 2, 10, 24, 4, 5, 3]
def bs66 : List Nat := []

-- sort.Search
def v75l0 : VCode :=
  (.seq (.seq (.reg [⟨.mov (.s 5), none, none⟩,
    ⟨.mov (.s 6), none, none⟩,
    ⟨.bin .lss (.l 0) (.l 1), some 3, none⟩] none)
  (.cond (.s 3) .skip
  (.exit 0)))
  (.block 1 (.seq (.reg [⟨.mov (.s 5), none, none⟩,
     ⟨.mov (.s 6), none, none⟩,
     ⟨.bin .add (.l 0) (.l 1), none, none⟩,
     ⟨.cvi .u64 (.l 2), none, none⟩,
     ⟨.bin .shr (.l 3) (.c (.i .u64 1)), none, none⟩,
     ⟨.cvi .i64 (.l 4), none, none⟩,
     ⟨.mov (.l 5), some 7, none⟩] none)
   (.seq (.reg [⟨.mov (.s 1), none, none⟩,
     ⟨.mov (.s 7), none, none⟩,
     ⟨.calv (.l 0) [(.l 1)], none, none⟩,
     ⟨.un .not (.l 2), some 4, none⟩] none)
   (.cond (.s 4) (.reg [⟨.mov (.s 7), none, none⟩,
      ⟨.bin .add (.l 0) (.c (.i .i64 1)), none, none⟩,
      ⟨.mov (.l 1), some 5, none⟩] none)
   (.reg [⟨.mov (.s 7), none, none⟩,
      ⟨.mov (.l 0), some 6, none⟩] none))))))
def v75 : VFunc :=
  ⟨2, 8, [.s 2],
  (.seq (.reg [⟨.mov (.c (.i .i64 0)), some 2, none⟩] none)
  (.seq (.reg [⟨.mov (.s 0), none, none⟩,
    ⟨.mov (.c (.i .i64 0)), some 5, none⟩,
    ⟨.mov (.l 0), some 6, none⟩] none)
  (.seq (.block 0 (.loop v75l0))
  (.seq (.reg [⟨.mov (.s 5), none, none⟩,
    ⟨.mov (.l 0), some 2, none⟩] none)
  .ret)))), false, false⟩

def tm75 : List Nat := [0, 1, 4, 11, 21, 5, 6, 7]
def bs75 : List Nat := []

-- annuitant/span.find$1
def v76 : VFunc :=
  ⟨3, 4, [.s 3],
  (.seq (.reg [⟨.mov (.c (.b false)), some 3, none⟩] none)
  (.seq (.reg [⟨.ld (.s 1) 1 false, none, none⟩,
    ⟨.mov (.s 0), none, none⟩,
    ⟨.iad (.l 0) (.l 1) 2, none, none⟩,
    ⟨.fad (.l 2) 1, none, none⟩,
    ⟨.ld (.l 3) 1 false, none, none⟩,
    ⟨.ld (.s 2) 1 false, none, none⟩,
    ⟨.bin .gtr (.l 4) (.l 5), none, none⟩,
    ⟨.mov (.l 6), some 3, none⟩] (some false))
  .ret)), false, false⟩

def tm76 : List Nat := [0, 1, 2, 4]
def bs76 : List Nat := []

-- slices.pdqsortCmpFunc[annuitant/api.Span]
def v77l0 : VCode :=
  (.block 1 (.seq (.reg [⟨.mov (.s 2), none, none⟩,
     ⟨.mov (.s 1), none, none⟩,
     ⟨.bin .sub (.l 0) (.l 1), none, none⟩,
     ⟨.mov (.l 2), some 15, none⟩] none)
   (.seq (.seq (.reg [⟨.mov (.s 15), none, none⟩,
     ⟨.bin .leq (.l 0) (.c (.i .i64 12)), some 5, none⟩] none)
   (.cond (.s 5) (.seq (.reg [⟨.mov (.s 0), none, none⟩,
      ⟨.mov (.s 1), none, none⟩,
      ⟨.mov (.s 2), none, none⟩,
      ⟨.mov (.s 4), none, none⟩,
      ⟨.call 81 [(.l 0), (.l 1), (.l 2), (.l 3)], none, none⟩] none)
    .ret)
   .skip))
   (.seq (.seq (.reg [⟨.mov (.s 3), none, none⟩,
     ⟨.bin .eql (.l 0) (.c (.i .i64 0)), some 6, none⟩] none)
   (.cond (.s 6) (.seq (.reg [⟨.mov (.s 0), none, none⟩,
      ⟨.mov (.s 1), none, none⟩,
      ⟨.mov (.s 2), none, none⟩,
      ⟨.mov (.s 4), none, none⟩,
      ⟨.call 82 [(.l 0), (.l 1), (.l 2), (.l 3)], none, none⟩] none)
    .ret)
   .skip))
   (.seq (.seq (.reg [⟨.mov (.s 13), none, none⟩,
     ⟨.un .not (.l 0), some 7, none⟩] none)
   (.cond (.s 7) (.seq (.reg [⟨.mov (.s 0), none, none⟩,
      ⟨.mov (.s 1), none, none⟩,
      ⟨.mov (.s 2), none, none⟩,
      ⟨.mov (.s 4), none, none⟩,
      ⟨.call 83 [(.l 0), (.l 1), (.l 2), (.l 3)], none, none⟩] none)
    (.reg [⟨.mov (.s 3), none, none⟩,
      ⟨.bin .sub (.l 0) (.c (.i .i64 1)), none, none⟩,
      ⟨.mov (.l 1), some 3, none⟩] none))
   .skip))
   (.seq (.reg [⟨.mov (.s 0), none, none⟩,
     ⟨.mov (.s 1), none, none⟩,
     ⟨.mov (.s 2), none, none⟩,
     ⟨.mov (.s 4), none, none⟩,
     ⟨.call 84 [(.l 0), (.l 1), (.l 2), (.l 3)], none, none⟩,
     ⟨.mov (.l 4), none, none⟩,
     ⟨.ext (.l 5) 0, none, none⟩,
     ⟨.ext (.l 5) 1, none, none⟩,
     ⟨.mov (.l 6), some 16, none⟩,
     ⟨.mov (.l 7), some 17, none⟩] none)
   (.seq (.seq (.reg [⟨.mov (.s 17), none, none⟩,
     ⟨.bin .eql (.l 0) (.c (.i .i64 2)), some 8, none⟩] none)
   (.cond (.s 8) (.seq (.reg [⟨.mov (.s 0), none, none⟩,
      ⟨.mov (.s 1), none, none⟩,
      ⟨.mov (.s 2), none, none⟩,
      ⟨.mov (.s 4), none, none⟩,
      ⟨.call 85 [(.l 0), (.l 1), (.l 2), (.l 3)], none, none⟩] none)
    (.seq (.reg [⟨.mov (.s 2), none, none⟩,
      ⟨.bin .sub (.l 0) (.c (.i .i64 1)), none, none⟩,
      ⟨.mov (.s 16), none, none⟩,
      ⟨.mov (.s 1), none, none⟩,
      ⟨.bin .sub (.l 2) (.l 3), none, none⟩,
      ⟨.bin .sub (.l 1) (.l 4), none, none⟩,
      ⟨.mov (.l 5), some 16, none⟩] none)
    (.reg [⟨.mov (.c (.i .i64 1)), some 17, none⟩] none)))
   .skip))
   (.seq (.seq (.reg [⟨.mov (.s 13), none, none⟩,
     ⟨.mov (.l 0), none, none⟩,
     ⟨.mov (.s 14), none, some ((.l 1), true)⟩,
     ⟨.pick (.l 1) (.l 2) (.c (.b false)), none, none⟩,
     ⟨.mov (.l 3), none, none⟩,
     ⟨.mov (.s 17), none, some ((.l 4), true)⟩,
     ⟨.bin .eql (.l 5) (.c (.i .i64 1)), none, some ((.l 4), true)⟩,
     ⟨.pick (.l 4) (.l 6) (.c (.b false)), some 9, none⟩] none)
   (.cond (.s 9) (.seq (.reg [⟨.mov (.s 0), none, none⟩,
      ⟨.mov (.s 1), none, none⟩,
      ⟨.mov (.s 2), none, none⟩,
      ⟨.mov (.s 4), none, none⟩,
      ⟨.call 86 [(.l 0), (.l 1), (.l 2), (.l 3)], some 10, none⟩] none)
    (.cond (.s 10) .ret
    .skip))
   .skip))
   (.seq (.seq (.reg [⟨.mov (.s 1), none, none⟩,
     ⟨.bin .gtr (.l 0) (.c (.i .i64 0)), none, none⟩,
     ⟨.mov (.l 1), none, none⟩,
     ⟨.mov (.s 4), none, some ((.l 2), true)⟩,
     ⟨.mov (.s 0), none, some ((.l 2), true)⟩,
     ⟨.mov (.s 1), none, some ((.l 2), true)⟩,
     ⟨.bin .sub (.l 5) (.c (.i .i64 1)), none, some ((.l 2), true)⟩,
     ⟨.iad (.l 4) (.l 6) 2, none, some ((.l 2), true)⟩,
     ⟨.ld (.l 7) 2 true, none, some ((.l 2), true)⟩,
     ⟨.mov (.s 0), none, some ((.l 2), true)⟩,
     ⟨.mov (.s 16), none, some ((.l 2), true)⟩,
     ⟨.iad (.l 9) (.l 10) 2, none, some ((.l 2), true)⟩,
     ⟨.ld (.l 11) 2 true, none, some ((.l 2), true)⟩,
     ⟨.calv (.l 3) [(.l 8), (.l 12)], none, some ((.l 2), true)⟩,
     ⟨.bin .lss (.l 13) (.c (.i .i64 0)), none, some ((.l 2), true)⟩,
     ⟨.un .not (.l 14), none, some ((.l 2), true)⟩,
     ⟨.pick (.l 2) (.l 15) (.c (.b false)), some 11, none⟩] (some false))
   (.cond (.s 11) (.seq (.reg [⟨.mov (.s 0), none, none⟩,
      ⟨.mov (.s 1), none, none⟩,
      ⟨.mov (.s 2), none, none⟩,
      ⟨.mov (.s 16), none, none⟩,
      ⟨.mov (.s 4), none, none⟩,
      ⟨.call 87 [(.l 0), (.l 1), (.l 2), (.l 3), (.l 4)], none, none⟩,
      ⟨.mov (.l 5), some 18, none⟩] none)
    (.seq (.reg [⟨.mov (.s 18), none, none⟩,
      ⟨.mov (.l 0), some 1, none⟩] none)
    (.exit 1)))
   .skip))
   (.seq (.reg [⟨.mov (.s 0), none, none⟩,
     ⟨.mov (.s 1), none, none⟩,
     ⟨.mov (.s 2), none, none⟩,
     ⟨.mov (.s 16), none, none⟩,
     ⟨.mov (.s 4), none, none⟩,
     ⟨.call 88 [(.l 0), (.l 1), (.l 2), (.l 3), (.l 4)], none, none⟩,
     ⟨.mov (.l 5), none, none⟩,
     ⟨.ext (.l 6) 0, none, none⟩,
     ⟨.ext (.l 6) 1, none, none⟩,
     ⟨.mov (.l 7), some 20, none⟩,
     ⟨.mov (.l 8), some 19, none⟩] none)
   (.seq (.reg [⟨.mov (.s 19), none, none⟩,
     ⟨.mov (.l 0), some 14, none⟩] none)
   (.seq (.reg [⟨.mov (.s 20), none, none⟩,
     ⟨.mov (.s 1), none, none⟩,
     ⟨.bin .sub (.l 0) (.l 1), none, none⟩,
     ⟨.mov (.s 2), none, none⟩,
     ⟨.mov (.s 20), none, none⟩,
     ⟨.bin .sub (.l 3) (.l 4), none, none⟩,
     ⟨.mov (.l 2), some 21, none⟩,
     ⟨.mov (.l 5), some 22, none⟩] none)
   (.seq (.reg [⟨.mov (.s 15), none, none⟩,
     ⟨.bin .quo (.l 0) (.c (.i .i64 8)), none, none⟩,
     ⟨.mov (.l 1), some 23, none⟩] none)
   (.seq (.reg [⟨.mov (.s 21), none, none⟩,
     ⟨.mov (.s 22), none, none⟩,
     ⟨.bin .lss (.l 0) (.l 1), some 12, none⟩] none)
   (.cond (.s 12) (.seq (.reg [⟨.mov (.s 21), none, none⟩,
      ⟨.mov (.s 23), none, none⟩,
      ⟨.bin .geq (.l 0) (.l 1), none, none⟩,
      ⟨.mov (.l 2), some 13, none⟩] none)
    (.seq (.reg [⟨.mov (.s 0), none, none⟩,
      ⟨.mov (.s 1), none, none⟩,
      ⟨.mov (.s 20), none, none⟩,
      ⟨.mov (.s 3), none, none⟩,
      ⟨.mov (.s 4), none, none⟩,
      ⟨.call 77 [(.l 0), (.l 1), (.l 2), (.l 3), (.l 4)], none, none⟩] none)
    (.reg [⟨.mov (.s 20), none, none⟩,
      ⟨.bin .add (.l 0) (.c (.i .i64 1)), none, none⟩,
      ⟨.mov (.l 1), some 1, none⟩] none)))
   (.seq (.reg [⟨.mov (.s 22), none, none⟩,
      ⟨.mov (.s 23), none, none⟩,
      ⟨.bin .geq (.l 0) (.l 1), none, none⟩,
      ⟨.mov (.l 2), some 13, none⟩] none)
    (.seq (.reg [⟨.mov (.s 0), none, none⟩,
      ⟨.mov (.s 20), none, none⟩,
      ⟨.bin .add (.l 1) (.c (.i .i64 1)), none, none⟩,
      ⟨.mov (.s 2), none, none⟩,
      ⟨.mov (.s 3), none, none⟩,
      ⟨.mov (.s 4), none, none⟩,
      ⟨.call 77 [(.l 0), (.l 2), (.l 3), (.l 4), (.l 5)], none, none⟩] none)
    (.reg [⟨.mov (.s 20), none, none⟩,
      ⟨.mov (.l 0), some 2, none⟩] none))))))))))))))))))
def v77 : VFunc :=
  ⟨5, 24, [],
  (.seq (.reg [⟨.mov (.c (.b true)), some 13, none⟩] none)
  (.seq (.reg [⟨.mov (.c (.b true)), some 14, none⟩] none)
  (.block 0 (.loop v77l0)))), false, false⟩

def tm77 : List Nat := [0, 1, 2, 3, 4, 25, 32, 39, 56, 75, 80, 97, 125, 10, 11, 12, 13, 14, 15, 17, 16, 18, 19, 20]
def bs77 : List Nat := []

-- math/bits.Len
def v78 : VFunc :=
  ⟨1, 2, [.s 1],
  (.seq (.reg [⟨.mov (.c (.i .i64 0)), some 1, none⟩] none)
  (.seq (.cond (.c (.b false)) (.seq (.reg [⟨.mov (.s 0), none, none⟩,
     ⟨.cvi .u32 (.l 0), none, none⟩,
     ⟨.call 89 [(.l 1)], none, none⟩,
     ⟨.mov (.l 2), some 1, none⟩] none)
   .ret)
  .skip)
  (.seq (.reg [⟨.mov (.s 0), none, none⟩,
    ⟨.call 90 [(.l 0)], none, none⟩,
    ⟨.mov (.l 1), some 1, none⟩] none)
  .ret))), true, false⟩

def tm78 : List Nat := [0, 2]
def bs78 : List Nat := []

-- cmp.isNaN[int]
def v79 : VFunc :=
  ⟨1, 2, [.s 1],
  (.seq (.reg [⟨.mov (.c (.b false)), some 1, none⟩] none)
  (.seq (.reg [⟨.mov (.s 0), none, none⟩,
    ⟨.mov (.s 0), none, none⟩,
    ⟨.bin .neq (.l 0) (.l 1), none, none⟩,
    ⟨.mov (.l 2), some 1, none⟩] none)
  .ret)), true, false⟩

def tm79 : List Nat := [0, 2]
def bs79 : List Nat := []

-- slices.insertionSortCmpFunc[annuitant/api.Span]
def v81l0 : VCode :=
  (.seq (.seq (.reg [⟨.mov (.s 7), none, none⟩,
    ⟨.mov (.s 1), none, none⟩,
    ⟨.bin .gtr (.l 0) (.l 1), none, none⟩,
    ⟨.mov (.l 2), none, none⟩,
    ⟨.mov (.s 3), none, some ((.l 3), true)⟩,
    ⟨.mov (.s 0), none, some ((.l 3), true)⟩,
    ⟨.mov (.s 7), none, some ((.l 3), true)⟩,
    ⟨.iad (.l 5) (.l 6) 2, none, some ((.l 3), true)⟩,
    ⟨.ld (.l 7) 2 true, none, some ((.l 3), true)⟩,
    ⟨.mov (.s 0), none, some ((.l 3), true)⟩,
    ⟨.mov (.s 7), none, some ((.l 3), true)⟩,
    ⟨.bin .sub (.l 10) (.c (.i .i64 1)), none, some ((.l 3), true)⟩,
    ⟨.iad (.l 9) (.l 11) 2, none, some ((.l 3), true)⟩,
    ⟨.ld (.l 12) 2 true, none, some ((.l 3), true)⟩,
    ⟨.calv (.l 4) [(.l 8), (.l 13)], none, some ((.l 3), true)⟩,
    ⟨.bin .lss (.l 14) (.c (.i .i64 0)), none, some ((.l 3), true)⟩,
    ⟨.pick (.l 3) (.l 15) (.c (.b false)), some 5, none⟩] (some false))
  (.cond (.s 5) .skip
  (.exit 2)))
  (.seq (.block 3 (.reg [⟨.mov (.s 0), none, none⟩,
     ⟨.mov (.s 7), none, none⟩,
     ⟨.mov (.s 0), none, none⟩,
     ⟨.mov (.s 7), none, none⟩,
     ⟨.bin .sub (.l 3) (.c (.i .i64 1)), none, none⟩,
     ⟨.mov (.s 0), none, none⟩,
     ⟨.mov (.s 7), none, none⟩,
     ⟨.bin .sub (.l 6) (.c (.i .i64 1)), none, none⟩,
     ⟨.iad (.l 5) (.l 7) 2, none, none⟩,
     ⟨.ld (.l 8) 2 true, none, none⟩,
     ⟨.mov (.s 0), none, none⟩,
     ⟨.mov (.s 7), none, none⟩,
     ⟨.iad (.l 10) (.l 11) 2, none, none⟩,
     ⟨.ld (.l 12) 2 true, none, none⟩,
     ⟨.iad (.l 0) (.l 1) 2, none, none⟩,
     ⟨.st (.l 14) (.l 9) 2, none, none⟩,
     ⟨.iad (.l 2) (.l 4) 2, none, none⟩,
     ⟨.st (.l 16) (.l 13) 2, none, none⟩] (some false)))
  (.reg [⟨.mov (.s 7), none, none⟩,
    ⟨.bin .sub (.l 0) (.c (.i .i64 1)), none, none⟩,
    ⟨.mov (.l 1), some 7, none⟩] none)))
def v81l1 : VCode :=
  (.seq (.seq (.reg [⟨.mov (.s 6), none, none⟩,
    ⟨.mov (.s 2), none, none⟩,
    ⟨.bin .lss (.l 0) (.l 1), some 4, none⟩] none)
  (.cond (.s 4) .skip
  (.exit 0)))
  (.seq (.block 1 (.seq (.reg [⟨.mov (.s 6), none, none⟩,
     ⟨.mov (.l 0), some 7, none⟩] none)
   (.block 2 (.loop v81l0))))
  (.reg [⟨.mov (.s 6), none, none⟩,
    ⟨.bin .add (.l 0) (.c (.i .i64 1)), none, none⟩,
    ⟨.mov (.l 1), some 6, none⟩] none)))
def v81 : VFunc :=
  ⟨4, 8, [],
  (.seq (.reg [⟨.mov (.s 1), none, none⟩,
    ⟨.bin .add (.l 0) (.c (.i .i64 1)), none, none⟩,
    ⟨.mov (.l 1), some 6, none⟩] none)
  (.block 0 (.loop v81l1))), false, false⟩

def tm81 : List Nat := [0, 1, 2, 3, 14, 34, 8, 9]
def bs81 : List Nat := []

-- slices.heapSortCmpFunc[annuitant/api.Span]
def v82l0 : VCode :=
  (.seq (.seq (.reg [⟨.mov (.s 7), none, none⟩,
    ⟨.bin .geq (.l 0) (.c (.i .i64 0)), some 4, none⟩] none)
  (.cond (.s 4) .skip
  (.exit 0)))
  (.seq (.block 1 (.reg [⟨.mov (.s 0), none, none⟩,
     ⟨.mov (.s 7), none, none⟩,
     ⟨.mov (.s 6), none, none⟩,
     ⟨.mov (.s 8), none, none⟩,
     ⟨.mov (.s 3), none, none⟩,
     ⟨.call 91 [(.l 0), (.l 1), (.l 2), (.l 3), (.l 4)], none, none⟩] none))
  (.reg [⟨.mov (.s 7), none, none⟩,
    ⟨.bin .sub (.l 0) (.c (.i .i64 1)), none, none⟩,
    ⟨.mov (.l 1), some 7, none⟩] none)))
def v82l1 : VCode :=
  (.seq (.seq (.reg [⟨.mov (.s 9), none, none⟩,
    ⟨.bin .geq (.l 0) (.c (.i .i64 0)), some 5, none⟩] none)
  (.cond (.s 5) .skip
  (.exit 2)))
  (.seq (.block 3 (.seq (.reg [⟨.mov (.s 0), none, none⟩,
     ⟨.mov (.s 8), none, none⟩,
     ⟨.mov (.s 0), none, none⟩,
     ⟨.mov (.s 8), none, none⟩,
     ⟨.mov (.s 9), none, none⟩,
     ⟨.bin .add (.l 3) (.l 4), none, none⟩,
     ⟨.mov (.s 0), none, none⟩,
     ⟨.mov (.s 8), none, none⟩,
     ⟨.mov (.s 9), none, none⟩,
     ⟨.bin .add (.l 7) (.l 8), none, none⟩,
     ⟨.iad (.l 6) (.l 9) 2, none, none⟩,
     ⟨.ld (.l 10) 2 true, none, none⟩,
     ⟨.mov (.s 0), none, none⟩,
     ⟨.mov (.s 8), none, none⟩,
     ⟨.iad (.l 12) (.l 13) 2, none, none⟩,
     ⟨.ld (.l 14) 2 true, none, none⟩,
     ⟨.iad (.l 0) (.l 1) 2, none, none⟩,
     ⟨.st (.l 16) (.l 11) 2, none, none⟩,
     ⟨.iad (.l 2) (.l 5) 2, none, none⟩,
     ⟨.st (.l 18) (.l 15) 2, none, none⟩] (some false))
   (.reg [⟨.mov (.s 0), none, none⟩,
     ⟨.mov (.s 10), none, none⟩,
     ⟨.mov (.s 9), none, none⟩,
     ⟨.mov (.s 8), none, none⟩,
     ⟨.mov (.s 3), none, none⟩,
     ⟨.call 91 [(.l 0), (.l 1), (.l 2), (.l 3), (.l 4)], none, none⟩] none)))
  (.reg [⟨.mov (.s 9), none, none⟩,
    ⟨.bin .sub (.l 0) (.c (.i .i64 1)), none, none⟩,
    ⟨.mov (.l 1), some 9, none⟩] none)))
def v82 : VFunc :=
  ⟨4, 11, [],
  (.seq (.reg [⟨.mov (.s 1), none, none⟩,
    ⟨.mov (.l 0), some 8, none⟩] none)
  (.seq (.reg [⟨.mov (.c (.i .i64 0)), some 10, none⟩] none)
  (.seq (.reg [⟨.mov (.s 2), none, none⟩,
    ⟨.mov (.s 1), none, none⟩,
    ⟨.bin .sub (.l 0) (.l 1), none, none⟩,
    ⟨.mov (.l 2), some 6, none⟩] none)
  (.seq (.seq (.reg [⟨.mov (.s 6), none, none⟩,
    ⟨.bin .sub (.l 0) (.c (.i .i64 1)), none, none⟩,
    ⟨.bin .quo (.l 1) (.c (.i .i64 2)), none, none⟩,
    ⟨.mov (.l 2), some 7, none⟩] none)
  (.block 0 (.loop v82l0)))
  (.seq (.reg [⟨.mov (.s 6), none, none⟩,
    ⟨.bin .sub (.l 0) (.c (.i .i64 1)), none, none⟩,
    ⟨.mov (.l 1), some 9, none⟩] none)
  (.block 2 (.loop v82l1))))))), false, false⟩

def tm82 : List Nat := [0, 1, 2, 3, 21, 33, 10, 11, 8, 12, 9]
def bs82 : List Nat := []

-- slices.breakPatternsCmpFunc[annuitant/api.Span]
def v83l0 : VCode :=
  (.seq (.seq (.reg [⟨.mov (.s 8), none, none⟩,
    ⟨.mov (.s 1), none, none⟩,
    ⟨.mov (.s 7), none, none⟩,
    ⟨.bin .quo (.l 2) (.c (.i .i64 4)), none, none⟩,
    ⟨.bin .mul (.l 3) (.c (.i .i64 2)), none, none⟩,
    ⟨.bin .add (.l 1) (.l 4), none, none⟩,
    ⟨.bin .add (.l 5) (.c (.i .i64 1)), none, none⟩,
    ⟨.bin .leq (.l 0) (.l 6), some 5, none⟩] none)
  (.cond (.s 5) .skip
  (.exit 0)))
  (.seq (.block 1 (.seq (.reg [⟨.call 93 [(.s 9)], none, none⟩,
     ⟨.mov (.s 10), none, none⟩,
     ⟨.bin .sub (.l 1) (.c (.i .u64 1)), none, none⟩,
     ⟨.bin .and (.l 0) (.l 2), none, none⟩,
     ⟨.cvi .i64 (.l 3), none, none⟩,
     ⟨.mov (.l 4), some 11, none⟩] none)
   (.seq (.seq (.reg [⟨.mov (.s 11), none, none⟩,
     ⟨.mov (.s 7), none, none⟩,
     ⟨.bin .geq (.l 0) (.l 1), some 6, none⟩] none)
   (.cond (.s 6) (.reg [⟨.mov (.s 11), none, none⟩,
      ⟨.mov (.s 7), none, none⟩,
      ⟨.bin .sub (.l 0) (.l 1), none, none⟩,
      ⟨.mov (.l 2), some 11, none⟩] none)
   .skip))
   (.reg [⟨.mov (.s 0), none, none⟩,
     ⟨.mov (.s 8), none, none⟩,
     ⟨.mov (.s 0), none, none⟩,
     ⟨.mov (.s 1), none, none⟩,
     ⟨.mov (.s 11), none, none⟩,
     ⟨.bin .add (.l 3) (.l 4), none, none⟩,
     ⟨.mov (.s 0), none, none⟩,
     ⟨.mov (.s 1), none, none⟩,
     ⟨.mov (.s 11), none, none⟩,
     ⟨.bin .add (.l 7) (.l 8), none, none⟩,
     ⟨.iad (.l 6) (.l 9) 2, none, none⟩,
     ⟨.ld (.l 10) 2 true, none, none⟩,
     ⟨.mov (.s 0), none, none⟩,
     ⟨.mov (.s 8), none, none⟩,
     ⟨.iad (.l 12) (.l 13) 2, none, none⟩,
     ⟨.ld (.l 14) 2 true, none, none⟩,
     ⟨.iad (.l 0) (.l 1) 2, none, none⟩,
     ⟨.st (.l 16) (.l 11) 2, none, none⟩,
     ⟨.iad (.l 2) (.l 5) 2, none, none⟩,
     ⟨.st (.l 18) (.l 15) 2, none, none⟩] (some false)))))
  (.reg [⟨.mov (.s 8), none, none⟩,
    ⟨.bin .add (.l 0) (.c (.i .i64 1)), none, none⟩,
    ⟨.mov (.l 1), some 8, none⟩] none)))
def v83 : VFunc :=
  ⟨4, 12, [],
  (.seq (.reg [⟨.mov (.s 2), none, none⟩,
    ⟨.mov (.s 1), none, none⟩,
    ⟨.bin .sub (.l 0) (.l 1), none, none⟩,
    ⟨.mov (.l 2), some 7, none⟩] none)
  (.seq (.reg [⟨.mov (.s 7), none, none⟩,
    ⟨.bin .geq (.l 0) (.c (.i .i64 8)), some 4, none⟩] none)
  (.cond (.s 4) (.seq (.reg [⟨.mov (.s 7), none, none⟩,
     ⟨.cvi .u64 (.l 0), none, none⟩,
     ⟨.hal [(.i .u64 0)], some 9, none⟩,
     ⟨.st (.s 9) (.l 1) 1, none, none⟩] none)
   (.seq (.reg [⟨.mov (.s 7), none, none⟩,
     ⟨.call 92 [(.l 0)], none, none⟩,
     ⟨.mov (.l 1), some 10, none⟩] none)
   (.seq (.reg [⟨.mov (.s 1), none, none⟩,
     ⟨.mov (.s 7), none, none⟩,
     ⟨.bin .quo (.l 1) (.c (.i .i64 4)), none, none⟩,
     ⟨.bin .mul (.l 2) (.c (.i .i64 2)), none, none⟩,
     ⟨.bin .add (.l 0) (.l 3), none, none⟩,
     ⟨.bin .sub (.l 4) (.c (.i .i64 1)), none, none⟩,
     ⟨.mov (.l 5), some 8, none⟩] none)
   (.block 0 (.loop v83l0)))))
  .skip))), false, false⟩

def tm83 : List Nat := [0, 1, 2, 3, 17, 35, 45, 8, 11, 9, 10, 12]
def bs83 : List Nat := []

-- slices.choosePivotCmpFunc[annuitant/api.Span]
def v84 : VFunc :=
  ⟨4, 16, [.s 4, .s 5],
  (.seq (.reg [⟨.mov (.c (.i .i64 0)), some 4, none⟩,
    ⟨.mov (.c (.i .i64 0)), some 5, none⟩] none)
  (.seq (.reg [⟨.mov (.s 2), none, none⟩,
    ⟨.mov (.s 1), none, none⟩,
    ⟨.bin .sub (.l 0) (.l 1), none, none⟩,
    ⟨.mov (.l 2), some 10, none⟩] none)
  (.seq (.reg [⟨.hal [(.i .i64 0)], some 14, none⟩] none)
  (.seq (.reg [⟨.mov (.s 1), none, none⟩,
    ⟨.mov (.s 10), none, none⟩,
    ⟨.bin .quo (.l 1) (.c (.i .i64 4)), none, none⟩,
    ⟨.bin .mul (.l 2) (.c (.i .i64 1)), none, none⟩,
    ⟨.bin .add (.l 0) (.l 3), none, none⟩,
    ⟨.mov (.l 4), some 11, none⟩] none)
  (.seq (.reg [⟨.mov (.s 1), none, none⟩,
    ⟨.mov (.s 10), none, none⟩,
    ⟨.bin .quo (.l 1) (.c (.i .i64 4)), none, none⟩,
    ⟨.bin .mul (.l 2) (.c (.i .i64 2)), none, none⟩,
    ⟨.bin .add (.l 0) (.l 3), none, none⟩,
    ⟨.mov (.l 4), some 12, none⟩] none)
  (.seq (.reg [⟨.mov (.s 1), none, none⟩,
    ⟨.mov (.s 10), none, none⟩,
    ⟨.bin .quo (.l 1) (.c (.i .i64 4)), none, none⟩,
    ⟨.bin .mul (.l 2) (.c (.i .i64 3)), none, none⟩,
    ⟨.bin .add (.l 0) (.l 3), none, none⟩,
    ⟨.mov (.l 4), some 13, none⟩] none)
  (.seq (.seq (.reg [⟨.mov (.s 10), none, none⟩,
    ⟨.bin .geq (.l 0) (.c (.i .i64 8)), some 6, none⟩] none)
  (.cond (.s 6) (.seq (.seq (.reg [⟨.mov (.s 10), none, none⟩,
     ⟨.bin .geq (.l 0) (.c (.i .i64 50)), some 7, none⟩] none)
   (.cond (.s 7) (.seq (.reg [⟨.mov (.s 0), none, none⟩,
      ⟨.mov (.s 11), none, none⟩,
      ⟨.mov (.s 3), none, none⟩,
      ⟨.call 94 [(.l 0), (.l 1), (.s 14), (.l 2)], none, none⟩,
      ⟨.mov (.l 3), some 11, none⟩] none)
    (.seq (.reg [⟨.mov (.s 0), none, none⟩,
      ⟨.mov (.s 12), none, none⟩,
      ⟨.mov (.s 3), none, none⟩,
      ⟨.call 94 [(.l 0), (.l 1), (.s 14), (.l 2)], none, none⟩,
      ⟨.mov (.l 3), some 12, none⟩] none)
    (.reg [⟨.mov (.s 0), none, none⟩,
      ⟨.mov (.s 13), none, none⟩,
      ⟨.mov (.s 3), none, none⟩,
      ⟨.call 94 [(.l 0), (.l 1), (.s 14), (.l 2)], none, none⟩,
      ⟨.mov (.l 3), some 13, none⟩] none)))
   .skip))
   (.reg [⟨.mov (.s 0), none, none⟩,
     ⟨.mov (.s 11), none, none⟩,
     ⟨.mov (.s 12), none, none⟩,
     ⟨.mov (.s 13), none, none⟩,
     ⟨.mov (.s 3), none, none⟩,
     ⟨.call 95 [(.l 0), (.l 1), (.l 2), (.l 3), (.s 14), (.l 4)], none, none⟩,
     ⟨.mov (.l 5), some 12, none⟩] none))
  .skip))
  (.seq (.reg [⟨.ld (.s 14) 1 false, some 15, none⟩] none)
  (.block 0 (.seq (.reg [⟨.bin .eql (.s 15) (.c (.i .i64 0)), none, none⟩,
     ⟨.mov (.l 0), some 8, none⟩] none)
   (.cond (.s 8) (.seq (.reg [⟨.mov (.s 12), none, none⟩,
      ⟨.mov (.l 0), some 4, none⟩,
      ⟨.mov (.c (.i .i64 1)), some 5, none⟩] none)
    .ret)
   (.seq (.reg [⟨.bin .eql (.s 15) (.c (.i .i64 12)), none, none⟩,
      ⟨.mov (.l 0), some 9, none⟩] none)
    (.cond (.s 9) (.seq (.reg [⟨.mov (.s 12), none, none⟩,
       ⟨.mov (.l 0), some 4, none⟩,
       ⟨.mov (.c (.i .i64 2)), some 5, none⟩] none)
     .ret)
    (.seq (.reg [⟨.mov (.s 12), none, none⟩,
       ⟨.mov (.l 0), some 4, none⟩,
       ⟨.mov (.c (.i .i64 0)), some 5, none⟩] none)
     .ret)))))))))))))), false, false⟩

def tm84 : List Nat := [0, 1, 2, 3, 8, 9, 34, 36, 57, 60, 10, 12, 13, 14, 11, 55]
def bs84 : List Nat := []

-- slices.reverseRangeCmpFunc[annuitant/api.Span]
def v85l0 : VCode :=
  (.seq (.seq (.reg [⟨.mov (.s 5), none, none⟩,
    ⟨.mov (.s 6), none, none⟩,
    ⟨.bin .lss (.l 0) (.l 1), some 4, none⟩] none)
  (.cond (.s 4) .skip
  (.exit 0)))
  (.block 1 (.seq (.reg [⟨.mov (.s 0), none, none⟩,
     ⟨.mov (.s 5), none, none⟩,
     ⟨.mov (.s 0), none, none⟩,
     ⟨.mov (.s 6), none, none⟩,
     ⟨.mov (.s 0), none, none⟩,
     ⟨.mov (.s 6), none, none⟩,
     ⟨.iad (.l 4) (.l 5) 2, none, none⟩,
     ⟨.ld (.l 6) 2 true, none, none⟩,
     ⟨.mov (.s 0), none, none⟩,
     ⟨.mov (.s 5), none, none⟩,
     ⟨.iad (.l 8) (.l 9) 2, none, none⟩,
     ⟨.ld (.l 10) 2 true, none, none⟩,
     ⟨.iad (.l 0) (.l 1) 2, none, none⟩,
     ⟨.st (.l 12) (.l 7) 2, none, none⟩,
     ⟨.iad (.l 2) (.l 3) 2, none, none⟩,
     ⟨.st (.l 14) (.l 11) 2, none, none⟩] (some false))
   (.seq (.reg [⟨.mov (.s 5), none, none⟩,
     ⟨.bin .add (.l 0) (.c (.i .i64 1)), none, none⟩,
     ⟨.mov (.l 1), some 5, none⟩] none)
   (.reg [⟨.mov (.s 6), none, none⟩,
     ⟨.bin .sub (.l 0) (.c (.i .i64 1)), none, none⟩,
     ⟨.mov (.l 1), some 6, none⟩] none)))))
def v85 : VFunc :=
  ⟨4, 7, [],
  (.seq (.reg [⟨.mov (.s 1), none, none⟩,
    ⟨.mov (.l 0), some 5, none⟩] none)
  (.seq (.reg [⟨.mov (.s 2), none, none⟩,
    ⟨.bin .sub (.l 0) (.c (.i .i64 1)), none, none⟩,
    ⟨.mov (.l 1), some 6, none⟩] none)
  (.block 0 (.loop v85l0)))), false, false⟩

def tm85 : List Nat := [0, 1, 2, 3, 15, 8, 9]
def bs85 : List Nat := []

-- slices.partialInsertionSortCmpFunc[annuitant/api.Span]
def v86l0 : VCode :=
  (.seq (.seq (.reg [⟨.mov (.s 15), none, none⟩,
    ⟨.mov (.s 2), none, none⟩,
    ⟨.bin .lss (.l 0) (.l 1), none, none⟩,
    ⟨.mov (.l 2), none, none⟩,
    ⟨.mov (.s 3), none, some ((.l 3), true)⟩,
    ⟨.mov (.s 0), none, some ((.l 3), true)⟩,
    ⟨.mov (.s 15), none, some ((.l 3), true)⟩,
    ⟨.iad (.l 5) (.l 6) 2, none, some ((.l 3), true)⟩,
    ⟨.ld (.l 7) 2 true, none, some ((.l 3), true)⟩,
    ⟨.mov (.s 0), none, some ((.l 3), true)⟩,
    ⟨.mov (.s 15), none, some ((.l 3), true)⟩,
    ⟨.bin .sub (.l 10) (.c (.i .i64 1)), none, some ((.l 3), true)⟩,
    ⟨.iad (.l 9) (.l 11) 2, none, some ((.l 3), true)⟩,
    ⟨.ld (.l 12) 2 true, none, some ((.l 3), true)⟩,
    ⟨.calv (.l 4) [(.l 8), (.l 13)], none, some ((.l 3), true)⟩,
    ⟨.bin .lss (.l 14) (.c (.i .i64 0)), none, some ((.l 3), true)⟩,
    ⟨.un .not (.l 15), none, some ((.l 3), true)⟩,
    ⟨.pick (.l 3) (.l 16) (.c (.b false)), some 6, none⟩] (some false))
  (.cond (.s 6) .skip
  (.exit 2)))
  (.block 3 (.reg [⟨.mov (.s 15), none, none⟩,
     ⟨.bin .add (.l 0) (.c (.i .i64 1)), none, none⟩,
     ⟨.mov (.l 1), some 15, none⟩] none)))
def v86l1 : VCode :=
  (.seq (.seq (.reg [⟨.mov (.s 17), none, none⟩,
    ⟨.bin .geq (.l 0) (.c (.i .i64 1)), some 10, none⟩] none)
  (.cond (.s 10) .skip
  (.exit 4)))
  (.seq (.block 5 (.seq (.seq (.reg [⟨.mov (.s 3), none, none⟩,
     ⟨.mov (.s 0), none, none⟩,
     ⟨.mov (.s 17), none, none⟩,
     ⟨.iad (.l 1) (.l 2) 2, none, none⟩,
     ⟨.ld (.l 3) 2 true, none, none⟩,
     ⟨.mov (.s 0), none, none⟩,
     ⟨.mov (.s 17), none, none⟩,
     ⟨.bin .sub (.l 6) (.c (.i .i64 1)), none, none⟩,
     ⟨.iad (.l 5) (.l 7) 2, none, none⟩,
     ⟨.ld (.l 8) 2 true, none, none⟩,
     ⟨.calv (.l 0) [(.l 4), (.l 9)], none, none⟩,
     ⟨.bin .lss (.l 10) (.c (.i .i64 0)), none, none⟩,
     ⟨.un .not (.l 11), some 11, none⟩] (some false))
   (.cond (.s 11) (.exit 4)
   .skip))
   (.reg [⟨.mov (.s 0), none, none⟩,
     ⟨.mov (.s 17), none, none⟩,
     ⟨.mov (.s 0), none, none⟩,
     ⟨.mov (.s 17), none, none⟩,
     ⟨.bin .sub (.l 3) (.c (.i .i64 1)), none, none⟩,
     ⟨.mov (.s 0), none, none⟩,
     ⟨.mov (.s 17), none, none⟩,
     ⟨.bin .sub (.l 6) (.c (.i .i64 1)), none, none⟩,
     ⟨.iad (.l 5) (.l 7) 2, none, none⟩,
     ⟨.ld (.l 8) 2 true, none, none⟩,
     ⟨.mov (.s 0), none, none⟩,
     ⟨.mov (.s 17), none, none⟩,
     ⟨.iad (.l 10) (.l 11) 2, none, none⟩,
     ⟨.ld (.l 12) 2 true, none, none⟩,
     ⟨.iad (.l 0) (.l 1) 2, none, none⟩,
     ⟨.st (.l 14) (.l 9) 2, none, none⟩,
     ⟨.iad (.l 2) (.l 4) 2, none, none⟩,
     ⟨.st (.l 16) (.l 13) 2, none, none⟩] (some false))))
  (.reg [⟨.mov (.s 17), none, none⟩,
    ⟨.bin .sub (.l 0) (.c (.i .i64 1)), none, none⟩,
    ⟨.mov (.l 1), some 17, none⟩] none)))
def v86l2 : VCode :=
  (.seq (.seq (.reg [⟨.mov (.s 18), none, none⟩,
    ⟨.mov (.s 2), none, none⟩,
    ⟨.bin .lss (.l 0) (.l 1), some 13, none⟩] none)
  (.cond (.s 13) .skip
  (.exit 6)))
  (.seq (.block 7 (.seq (.seq (.reg [⟨.mov (.s 3), none, none⟩,
     ⟨.mov (.s 0), none, none⟩,
     ⟨.mov (.s 18), none, none⟩,
     ⟨.iad (.l 1) (.l 2) 2, none, none⟩,
     ⟨.ld (.l 3) 2 true, none, none⟩,
     ⟨.mov (.s 0), none, none⟩,
     ⟨.mov (.s 18), none, none⟩,
     ⟨.bin .sub (.l 6) (.c (.i .i64 1)), none, none⟩,
     ⟨.iad (.l 5) (.l 7) 2, none, none⟩,
     ⟨.ld (.l 8) 2 true, none, none⟩,
     ⟨.calv (.l 0) [(.l 4), (.l 9)], none, none⟩,
     ⟨.bin .lss (.l 10) (.c (.i .i64 0)), none, none⟩,
     ⟨.un .not (.l 11), some 14, none⟩] (some false))
   (.cond (.s 14) (.exit 6)
   .skip))
   (.reg [⟨.mov (.s 0), none, none⟩,
     ⟨.mov (.s 18), none, none⟩,
     ⟨.mov (.s 0), none, none⟩,
     ⟨.mov (.s 18), none, none⟩,
     ⟨.bin .sub (.l 3) (.c (.i .i64 1)), none, none⟩,
     ⟨.mov (.s 0), none, none⟩,
     ⟨.mov (.s 18), none, none⟩,
     ⟨.bin .sub (.l 6) (.c (.i .i64 1)), none, none⟩,
     ⟨.iad (.l 5) (.l 7) 2, none, none⟩,
     ⟨.ld (.l 8) 2 true, none, none⟩,
     ⟨.mov (.s 0), none, none⟩,
     ⟨.mov (.s 18), none, none⟩,
     ⟨.iad (.l 10) (.l 11) 2, none, none⟩,
     ⟨.ld (.l 12) 2 true, none, none⟩,
     ⟨.iad (.l 0) (.l 1) 2, none, none⟩,
     ⟨.st (.l 14) (.l 9) 2, none, none⟩,
     ⟨.iad (.l 2) (.l 4) 2, none, none⟩,
     ⟨.st (.l 16) (.l 13) 2, none, none⟩] (some false))))
  (.reg [⟨.mov (.s 18), none, none⟩,
    ⟨.bin .add (.l 0) (.c (.i .i64 1)), none, none⟩,
    ⟨.mov (.l 1), some 18, none⟩] none)))
def v86l3 : VCode :=
  (.seq (.seq (.reg [⟨.mov (.s 16), none, none⟩,
    ⟨.bin .lss (.l 0) (.c (.i .i64 5)), some 5, none⟩] none)
  (.cond (.s 5) .skip
  (.exit 0)))
  (.seq (.block 1 (.seq (.block 2 (.loop v86l0))
   (.seq (.seq (.reg [⟨.mov (.s 15), none, none⟩,
     ⟨.mov (.s 2), none, none⟩,
     ⟨.bin .eql (.l 0) (.l 1), some 7, none⟩] none)
   (.cond (.s 7) (.seq (.reg [⟨.mov (.c (.b true)), some 4, none⟩] none)
    .ret)
   .skip))
   (.seq (.seq (.reg [⟨.mov (.s 2), none, none⟩,
     ⟨.mov (.s 1), none, none⟩,
     ⟨.bin .sub (.l 0) (.l 1), none, none⟩,
     ⟨.bin .lss (.l 2) (.c (.i .i64 50)), some 8, none⟩] none)
   (.cond (.s 8) (.seq (.reg [⟨.mov (.c (.b false)), some 4, none⟩] none)
    .ret)
   .skip))
   (.seq (.reg [⟨.mov (.s 0), none, none⟩,
     ⟨.mov (.s 15), none, none⟩,
     ⟨.mov (.s 0), none, none⟩,
     ⟨.mov (.s 15), none, none⟩,
     ⟨.bin .sub (.l 3) (.c (.i .i64 1)), none, none⟩,
     ⟨.mov (.s 0), none, none⟩,
     ⟨.mov (.s 15), none, none⟩,
     ⟨.bin .sub (.l 6) (.c (.i .i64 1)), none, none⟩,
     ⟨.iad (.l 5) (.l 7) 2, none, none⟩,
     ⟨.ld (.l 8) 2 true, none, none⟩,
     ⟨.mov (.s 0), none, none⟩,
     ⟨.mov (.s 15), none, none⟩,
     ⟨.iad (.l 10) (.l 11) 2, none, none⟩,
     ⟨.ld (.l 12) 2 true, none, none⟩,
     ⟨.iad (.l 0) (.l 1) 2, none, none⟩,
     ⟨.st (.l 14) (.l 9) 2, none, none⟩,
     ⟨.iad (.l 2) (.l 4) 2, none, none⟩,
     ⟨.st (.l 16) (.l 13) 2, none, none⟩] (some false))
   (.seq (.seq (.reg [⟨.mov (.s 15), none, none⟩,
     ⟨.mov (.s 1), none, none⟩,
     ⟨.bin .sub (.l 0) (.l 1), none, none⟩,
     ⟨.bin .geq (.l 2) (.c (.i .i64 2)), some 9, none⟩] none)
   (.cond (.s 9) (.seq (.reg [⟨.mov (.s 15), none, none⟩,
      ⟨.bin .sub (.l 0) (.c (.i .i64 1)), none, none⟩,
      ⟨.mov (.l 1), some 17, none⟩] none)
    (.block 4 (.loop v86l1)))
   .skip))
   (.seq (.reg [⟨.mov (.s 2), none, none⟩,
     ⟨.mov (.s 15), none, none⟩,
     ⟨.bin .sub (.l 0) (.l 1), none, none⟩,
     ⟨.bin .geq (.l 2) (.c (.i .i64 2)), some 12, none⟩] none)
   (.cond (.s 12) (.seq (.reg [⟨.mov (.s 15), none, none⟩,
      ⟨.bin .add (.l 0) (.c (.i .i64 1)), none, none⟩,
      ⟨.mov (.l 1), some 18, none⟩] none)
    (.block 6 (.loop v86l2)))
   .skip))))))))
  (.reg [⟨.mov (.s 16), none, none⟩,
    ⟨.bin .add (.l 0) (.c (.i .i64 1)), none, none⟩,
    ⟨.mov (.l 1), some 16, none⟩] none)))
def v86 : VFunc :=
  ⟨4, 19, [.s 4],
  (.seq (.reg [⟨.mov (.c (.b false)), some 4, none⟩] none)
  (.seq (.reg [⟨.mov (.s 1), none, none⟩,
    ⟨.bin .add (.l 0) (.c (.i .i64 1)), none, none⟩,
    ⟨.mov (.l 1), some 15, none⟩] none)
  (.seq (.seq (.reg [⟨.mov (.c (.i .i64 0)), some 16, none⟩] none)
  (.block 0 (.loop v86l3)))
  (.seq (.reg [⟨.mov (.c (.b false)), some 4, none⟩] none)
  .ret)))), false, false⟩

def tm86 : List Nat := [0, 1, 2, 3, 8, 16, 36, 41, 45, 65, 69, 84, 104, 109, 124, 9, 10, 11, 12]
def bs86 : List Nat := []

-- slices.partitionEqualCmpFunc[annuitant/api.Span]
def v87l0 : VCode :=
  (.seq (.seq (.reg [⟨.mov (.s 9), none, none⟩,
    ⟨.mov (.s 10), none, none⟩,
    ⟨.bin .leq (.l 0) (.l 1), none, none⟩,
    ⟨.mov (.l 2), none, none⟩,
    ⟨.mov (.s 4), none, some ((.l 3), true)⟩,
    ⟨.mov (.s 0), none, some ((.l 3), true)⟩,
    ⟨.mov (.s 1), none, some ((.l 3), true)⟩,
    ⟨.iad (.l 5) (.l 6) 2, none, some ((.l 3), true)⟩,
    ⟨.ld (.l 7) 2 true, none, some ((.l 3), true)⟩,
    ⟨.mov (.s 0), none, some ((.l 3), true)⟩,
    ⟨.mov (.s 9), none, some ((.l 3), true)⟩,
    ⟨.iad (.l 9) (.l 10) 2, none, some ((.l 3), true)⟩,
    ⟨.ld (.l 11) 2 true, none, some ((.l 3), true)⟩,
    ⟨.calv (.l 4) [(.l 8), (.l 12)], none, some ((.l 3), true)⟩,
    ⟨.bin .lss (.l 13) (.c (.i .i64 0)), none, some ((.l 3), true)⟩,
    ⟨.un .not (.l 14), none, some ((.l 3), true)⟩,
    ⟨.pick (.l 3) (.l 15) (.c (.b false)), some 6, none⟩] (some false))
  (.cond (.s 6) .skip
  (.exit 2)))
  (.block 3 (.reg [⟨.mov (.s 9), none, none⟩,
     ⟨.bin .add (.l 0) (.c (.i .i64 1)), none, none⟩,
     ⟨.mov (.l 1), some 9, none⟩] none)))
def v87l1 : VCode :=
  (.seq (.seq (.reg [⟨.mov (.s 9), none, none⟩,
    ⟨.mov (.s 10), none, none⟩,
    ⟨.bin .leq (.l 0) (.l 1), none, none⟩,
    ⟨.mov (.l 2), none, none⟩,
    ⟨.mov (.s 4), none, some ((.l 3), true)⟩,
    ⟨.mov (.s 0), none, some ((.l 3), true)⟩,
    ⟨.mov (.s 1), none, some ((.l 3), true)⟩,
    ⟨.iad (.l 5) (.l 6) 2, none, some ((.l 3), true)⟩,
    ⟨.ld (.l 7) 2 true, none, some ((.l 3), true)⟩,
    ⟨.mov (.s 0), none, some ((.l 3), true)⟩,
    ⟨.mov (.s 10), none, some ((.l 3), true)⟩,
    ⟨.iad (.l 9) (.l 10) 2, none, some ((.l 3), true)⟩,
    ⟨.ld (.l 11) 2 true, none, some ((.l 3), true)⟩,
    ⟨.calv (.l 4) [(.l 8), (.l 12)], none, some ((.l 3), true)⟩,
    ⟨.bin .lss (.l 13) (.c (.i .i64 0)), none, some ((.l 3), true)⟩,
    ⟨.pick (.l 3) (.l 14) (.c (.b false)), some 7, none⟩] (some false))
  (.cond (.s 7) .skip
  (.exit 4)))
  (.block 5 (.reg [⟨.mov (.s 10), none, none⟩,
     ⟨.bin .sub (.l 0) (.c (.i .i64 1)), none, none⟩,
     ⟨.mov (.l 1), some 10, none⟩] none)))
def v87l2 : VCode :=
  (.block 1 (.seq (.block 2 (.loop v87l0))
   (.seq (.block 4 (.loop v87l1))
   (.seq (.seq (.reg [⟨.mov (.s 9), none, none⟩,
     ⟨.mov (.s 10), none, none⟩,
     ⟨.bin .gtr (.l 0) (.l 1), some 8, none⟩] none)
   (.cond (.s 8) (.exit 0)
   .skip))
   (.seq (.reg [⟨.mov (.s 0), none, none⟩,
     ⟨.mov (.s 9), none, none⟩,
     ⟨.mov (.s 0), none, none⟩,
     ⟨.mov (.s 10), none, none⟩,
     ⟨.mov (.s 0), none, none⟩,
     ⟨.mov (.s 10), none, none⟩,
     ⟨.iad (.l 4) (.l 5) 2, none, none⟩,
     ⟨.ld (.l 6) 2 true, none, none⟩,
     ⟨.mov (.s 0), none, none⟩,
     ⟨.mov (.s 9), none, none⟩,
     ⟨.iad (.l 8) (.l 9) 2, none, none⟩,
     ⟨.ld (.l 10) 2 true, none, none⟩,
     ⟨.iad (.l 0) (.l 1) 2, none, none⟩,
     ⟨.st (.l 12) (.l 7) 2, none, none⟩,
     ⟨.iad (.l 2) (.l 3) 2, none, none⟩,
     ⟨.st (.l 14) (.l 11) 2, none, none⟩] (some false))
   (.seq (.reg [⟨.mov (.s 9), none, none⟩,
     ⟨.bin .add (.l 0) (.c (.i .i64 1)), none, none⟩,
     ⟨.mov (.l 1), some 9, none⟩] none)
   (.reg [⟨.mov (.s 10), none, none⟩,
     ⟨.bin .sub (.l 0) (.c (.i .i64 1)), none, none⟩,
     ⟨.mov (.l 1), some 10, none⟩] none)))))))
def v87 : VFunc :=
  ⟨5, 11, [.s 5],
  (.seq (.reg [⟨.mov (.c (.i .i64 0)), some 5, none⟩] none)
  (.seq (.reg [⟨.mov (.s 0), none, none⟩,
    ⟨.mov (.s 1), none, none⟩,
    ⟨.mov (.s 0), none, none⟩,
    ⟨.mov (.s 3), none, none⟩,
    ⟨.mov (.s 0), none, none⟩,
    ⟨.mov (.s 3), none, none⟩,
    ⟨.iad (.l 4) (.l 5) 2, none, none⟩,
    ⟨.ld (.l 6) 2 true, none, none⟩,
    ⟨.mov (.s 0), none, none⟩,
    ⟨.mov (.s 1), none, none⟩,
    ⟨.iad (.l 8) (.l 9) 2, none, none⟩,
    ⟨.ld (.l 10) 2 true, none, none⟩,
    ⟨.iad (.l 0) (.l 1) 2, none, none⟩,
    ⟨.st (.l 12) (.l 7) 2, none, none⟩,
    ⟨.iad (.l 2) (.l 3) 2, none, none⟩,
    ⟨.st (.l 14) (.l 11) 2, none, none⟩] (some false))
  (.seq (.reg [⟨.mov (.s 1), none, none⟩,
    ⟨.bin .add (.l 0) (.c (.i .i64 1)), none, none⟩,
    ⟨.mov (.s 2), none, none⟩,
    ⟨.bin .sub (.l 2) (.c (.i .i64 1)), none, none⟩,
    ⟨.mov (.l 1), some 9, none⟩,
    ⟨.mov (.l 3), some 10, none⟩] none)
  (.seq (.block 0 (.loop v87l2))
  (.seq (.reg [⟨.mov (.s 9), none, none⟩,
    ⟨.mov (.l 0), some 5, none⟩] none)
  .ret))))), false, false⟩

def tm87 : List Nat := [0, 1, 2, 3, 4, 10, 47, 65, 70, 11, 12]
def bs87 : List Nat := []

-- slices.partitionCmpFunc[annuitant/api.Span]
def v88l0 : VCode :=
  (.seq (.seq (.reg [⟨.mov (.s 13), none, none⟩,
    ⟨.mov (.s 14), none, none⟩,
    ⟨.bin .leq (.l 0) (.l 1), none, none⟩,
    ⟨.mov (.l 2), none, none⟩,
    ⟨.mov (.s 4), none, some ((.l 3), true)⟩,
    ⟨.mov (.s 0), none, some ((.l 3), true)⟩,
    ⟨.mov (.s 13), none, some ((.l 3), true)⟩,
    ⟨.iad (.l 5) (.l 6) 2, none, some ((.l 3), true)⟩,
    ⟨.ld (.l 7) 2 true, none, some ((.l 3), true)⟩,
    ⟨.mov (.s 0), none, some ((.l 3), true)⟩,
    ⟨.mov (.s 1), none, some ((.l 3), true)⟩,
    ⟨.iad (.l 9) (.l 10) 2, none, some ((.l 3), true)⟩,
    ⟨.ld (.l 11) 2 true, none, some ((.l 3), true)⟩,
    ⟨.calv (.l 4) [(.l 8), (.l 12)], none, some ((.l 3), true)⟩,
    ⟨.bin .lss (.l 13) (.c (.i .i64 0)), none, some ((.l 3), true)⟩,
    ⟨.pick (.l 3) (.l 14) (.c (.b false)), some 7, none⟩] (some false))
  (.cond (.s 7) .skip
  (.exit 0)))
  (.block 1 (.reg [⟨.mov (.s 13), none, none⟩,
     ⟨.bin .add (.l 0) (.c (.i .i64 1)), none, none⟩,
     ⟨.mov (.l 1), some 13, none⟩] none)))
def v88l1 : VCode :=
  (.seq (.seq (.reg [⟨.mov (.s 13), none, none⟩,
    ⟨.mov (.s 14), none, none⟩,
    ⟨.bin .leq (.l 0) (.l 1), none, none⟩,
    ⟨.mov (.l 2), none, none⟩,
    ⟨.mov (.s 4), none, some ((.l 3), true)⟩,
    ⟨.mov (.s 0), none, some ((.l 3), true)⟩,
    ⟨.mov (.s 14), none, some ((.l 3), true)⟩,
    ⟨.iad (.l 5) (.l 6) 2, none, some ((.l 3), true)⟩,
    ⟨.ld (.l 7) 2 true, none, some ((.l 3), true)⟩,
    ⟨.mov (.s 0), none, some ((.l 3), true)⟩,
    ⟨.mov (.s 1), none, some ((.l 3), true)⟩,
    ⟨.iad (.l 9) (.l 10) 2, none, some ((.l 3), true)⟩,
    ⟨.ld (.l 11) 2 true, none, some ((.l 3), true)⟩,
    ⟨.calv (.l 4) [(.l 8), (.l 12)], none, some ((.l 3), true)⟩,
    ⟨.bin .lss (.l 13) (.c (.i .i64 0)), none, some ((.l 3), true)⟩,
    ⟨.un .not (.l 14), none, some ((.l 3), true)⟩,
    ⟨.pick (.l 3) (.l 15) (.c (.b false)), some 8, none⟩] (some false))
  (.cond (.s 8) .skip
  (.exit 2)))
  (.block 3 (.reg [⟨.mov (.s 14), none, none⟩,
     ⟨.bin .sub (.l 0) (.c (.i .i64 1)), none, none⟩,
     ⟨.mov (.l 1), some 14, none⟩] none)))
def v88l2 : VCode :=
  (.seq (.seq (.reg [⟨.mov (.s 13), none, none⟩,
    ⟨.mov (.s 14), none, none⟩,
    ⟨.bin .leq (.l 0) (.l 1), none, none⟩,
    ⟨.mov (.l 2), none, none⟩,
    ⟨.mov (.s 4), none, some ((.l 3), true)⟩,
    ⟨.mov (.s 0), none, some ((.l 3), true)⟩,
    ⟨.mov (.s 13), none, some ((.l 3), true)⟩,
    ⟨.iad (.l 5) (.l 6) 2, none, some ((.l 3), true)⟩,
    ⟨.ld (.l 7) 2 true, none, some ((.l 3), true)⟩,
    ⟨.mov (.s 0), none, some ((.l 3), true)⟩,
    ⟨.mov (.s 1), none, some ((.l 3), true)⟩,
    ⟨.iad (.l 9) (.l 10) 2, none, some ((.l 3), true)⟩,
    ⟨.ld (.l 11) 2 true, none, some ((.l 3), true)⟩,
    ⟨.calv (.l 4) [(.l 8), (.l 12)], none, some ((.l 3), true)⟩,
    ⟨.bin .lss (.l 13) (.c (.i .i64 0)), none, some ((.l 3), true)⟩,
    ⟨.pick (.l 3) (.l 14) (.c (.b false)), some 10, none⟩] (some false))
  (.cond (.s 10) .skip
  (.exit 6)))
  (.block 7 (.reg [⟨.mov (.s 13), none, none⟩,
     ⟨.bin .add (.l 0) (.c (.i .i64 1)), none, none⟩,
     ⟨.mov (.l 1), some 13, none⟩] none)))
def v88l3 : VCode :=
  (.seq (.seq (.reg [⟨.mov (.s 13), none, none⟩,
    ⟨.mov (.s 14), none, none⟩,
    ⟨.bin .leq (.l 0) (.l 1), none, none⟩,
    ⟨.mov (.l 2), none, none⟩,
    ⟨.mov (.s 4), none, some ((.l 3), true)⟩,
    ⟨.mov (.s 0), none, some ((.l 3), true)⟩,
    ⟨.mov (.s 14), none, some ((.l 3), true)⟩,
    ⟨.iad (.l 5) (.l 6) 2, none, some ((.l 3), true)⟩,
    ⟨.ld (.l 7) 2 true, none, some ((.l 3), true)⟩,
    ⟨.mov (.s 0), none, some ((.l 3), true)⟩,
    ⟨.mov (.s 1), none, some ((.l 3), true)⟩,
    ⟨.iad (.l 9) (.l 10) 2, none, some ((.l 3), true)⟩,
    ⟨.ld (.l 11) 2 true, none, some ((.l 3), true)⟩,
    ⟨.calv (.l 4) [(.l 8), (.l 12)], none, some ((.l 3), true)⟩,
    ⟨.bin .lss (.l 13) (.c (.i .i64 0)), none, some ((.l 3), true)⟩,
    ⟨.un .not (.l 14), none, some ((.l 3), true)⟩,
    ⟨.pick (.l 3) (.l 15) (.c (.b false)), some 11, none⟩] (some false))
  (.cond (.s 11) .skip
  (.exit 8)))
  (.block 9 (.reg [⟨.mov (.s 14), none, none⟩,
     ⟨.bin .sub (.l 0) (.c (.i .i64 1)), none, none⟩,
     ⟨.mov (.l 1), some 14, none⟩] none)))
def v88l4 : VCode :=
  (.block 5 (.seq (.block 6 (.loop v88l2))
   (.seq (.block 8 (.loop v88l3))
   (.seq (.seq (.reg [⟨.mov (.s 13), none, none⟩,
     ⟨.mov (.s 14), none, none⟩,
     ⟨.bin .gtr (.l 0) (.l 1), some 12, none⟩] none)
   (.cond (.s 12) (.exit 4)
   .skip))
   (.seq (.reg [⟨.mov (.s 0), none, none⟩,
     ⟨.mov (.s 13), none, none⟩,
     ⟨.mov (.s 0), none, none⟩,
     ⟨.mov (.s 14), none, none⟩,
     ⟨.mov (.s 0), none, none⟩,
     ⟨.mov (.s 14), none, none⟩,
     ⟨.iad (.l 4) (.l 5) 2, none, none⟩,
     ⟨.ld (.l 6) 2 true, none, none⟩,
     ⟨.mov (.s 0), none, none⟩,
     ⟨.mov (.s 13), none, none⟩,
     ⟨.iad (.l 8) (.l 9) 2, none, none⟩,
     ⟨.ld (.l 10) 2 true, none, none⟩,
     ⟨.iad (.l 0) (.l 1) 2, none, none⟩,
     ⟨.st (.l 12) (.l 7) 2, none, none⟩,
     ⟨.iad (.l 2) (.l 3) 2, none, none⟩,
     ⟨.st (.l 14) (.l 11) 2, none, none⟩] (some false))
   (.seq (.reg [⟨.mov (.s 13), none, none⟩,
     ⟨.bin .add (.l 0) (.c (.i .i64 1)), none, none⟩,
     ⟨.mov (.l 1), some 13, none⟩] none)
   (.reg [⟨.mov (.s 14), none, none⟩,
     ⟨.bin .sub (.l 0) (.c (.i .i64 1)), none, none⟩,
     ⟨.mov (.l 1), some 14, none⟩] none)))))))
def v88 : VFunc :=
  ⟨5, 15, [.s 5, .s 6],
  (.seq (.reg [⟨.mov (.c (.i .i64 0)), some 5, none⟩,
    ⟨.mov (.c (.b false)), some 6, none⟩] none)
  (.seq (.reg [⟨.mov (.s 0), none, none⟩,
    ⟨.mov (.s 1), none, none⟩,
    ⟨.mov (.s 0), none, none⟩,
    ⟨.mov (.s 3), none, none⟩,
    ⟨.mov (.s 0), none, none⟩,
    ⟨.mov (.s 3), none, none⟩,
    ⟨.iad (.l 4) (.l 5) 2, none, none⟩,
    ⟨.ld (.l 6) 2 true, none, none⟩,
    ⟨.mov (.s 0), none, none⟩,
    ⟨.mov (.s 1), none, none⟩,
    ⟨.iad (.l 8) (.l 9) 2, none, none⟩,
    ⟨.ld (.l 10) 2 true, none, none⟩,
    ⟨.iad (.l 0) (.l 1) 2, none, none⟩,
    ⟨.st (.l 12) (.l 7) 2, none, none⟩,
    ⟨.iad (.l 2) (.l 3) 2, none, none⟩,
    ⟨.st (.l 14) (.l 11) 2, none, none⟩] (some false))
  (.seq (.reg [⟨.mov (.s 1), none, none⟩,
    ⟨.bin .add (.l 0) (.c (.i .i64 1)), none, none⟩,
    ⟨.mov (.s 2), none, none⟩,
    ⟨.bin .sub (.l 2) (.c (.i .i64 1)), none, none⟩,
    ⟨.mov (.l 1), some 13, none⟩,
    ⟨.mov (.l 3), some 14, none⟩] none)
  (.seq (.block 0 (.loop v88l0))
  (.seq (.block 2 (.loop v88l1))
  (.seq (.seq (.reg [⟨.mov (.s 13), none, none⟩,
    ⟨.mov (.s 14), none, none⟩,
    ⟨.bin .gtr (.l 0) (.l 1), some 9, none⟩] none)
  (.cond (.s 9) (.seq (.reg [⟨.mov (.s 0), none, none⟩,
     ⟨.mov (.s 14), none, none⟩,
     ⟨.mov (.s 0), none, none⟩,
     ⟨.mov (.s 1), none, none⟩,
     ⟨.mov (.s 0), none, none⟩,
     ⟨.mov (.s 1), none, none⟩,
     ⟨.iad (.l 4) (.l 5) 2, none, none⟩,
     ⟨.ld (.l 6) 2 true, none, none⟩,
     ⟨.mov (.s 0), none, none⟩,
     ⟨.mov (.s 14), none, none⟩,
     ⟨.iad (.l 8) (.l 9) 2, none, none⟩,
     ⟨.ld (.l 10) 2 true, none, none⟩,
     ⟨.iad (.l 0) (.l 1) 2, none, none⟩,
     ⟨.st (.l 12) (.l 7) 2, none, none⟩,
     ⟨.iad (.l 2) (.l 3) 2, none, none⟩,
     ⟨.st (.l 14) (.l 11) 2, none, none⟩] (some false))
   (.seq (.reg [⟨.mov (.s 14), none, none⟩,
     ⟨.mov (.l 0), some 5, none⟩,
     ⟨.mov (.c (.b true)), some 6, none⟩] none)
   .ret))
  .skip))
  (.seq (.reg [⟨.mov (.s 0), none, none⟩,
    ⟨.mov (.s 13), none, none⟩,
    ⟨.mov (.s 0), none, none⟩,
    ⟨.mov (.s 14), none, none⟩,
    ⟨.mov (.s 0), none, none⟩,
    ⟨.mov (.s 14), none, none⟩,
    ⟨.iad (.l 4) (.l 5) 2, none, none⟩,
    ⟨.ld (.l 6) 2 true, none, none⟩,
    ⟨.mov (.s 0), none, none⟩,
    ⟨.mov (.s 13), none, none⟩,
    ⟨.iad (.l 8) (.l 9) 2, none, none⟩,
    ⟨.ld (.l 10) 2 true, none, none⟩,
    ⟨.iad (.l 0) (.l 1) 2, none, none⟩,
    ⟨.st (.l 12) (.l 7) 2, none, none⟩,
    ⟨.iad (.l 2) (.l 3) 2, none, none⟩,
    ⟨.st (.l 14) (.l 11) 2, none, none⟩] (some false))
  (.seq (.reg [⟨.mov (.s 13), none, none⟩,
    ⟨.bin .add (.l 0) (.c (.i .i64 1)), none, none⟩,
    ⟨.mov (.l 1), some 13, none⟩] none)
  (.seq (.reg [⟨.mov (.s 14), none, none⟩,
    ⟨.bin .sub (.l 0) (.c (.i .i64 1)), none, none⟩,
    ⟨.mov (.l 1), some 14, none⟩] none)
  (.seq (.block 4 (.loop v88l4))
  (.seq (.reg [⟨.mov (.s 0), none, none⟩,
    ⟨.mov (.s 14), none, none⟩,
    ⟨.mov (.s 0), none, none⟩,
    ⟨.mov (.s 1), none, none⟩,
    ⟨.mov (.s 0), none, none⟩,
    ⟨.mov (.s 1), none, none⟩,
    ⟨.iad (.l 4) (.l 5) 2, none, none⟩,
    ⟨.ld (.l 6) 2 true, none, none⟩,
    ⟨.mov (.s 0), none, none⟩,
    ⟨.mov (.s 14), none, none⟩,
    ⟨.iad (.l 8) (.l 9) 2, none, none⟩,
    ⟨.ld (.l 10) 2 true, none, none⟩,
    ⟨.iad (.l 0) (.l 1) 2, none, none⟩,
    ⟨.st (.l 12) (.l 7) 2, none, none⟩,
    ⟨.iad (.l 2) (.l 3) 2, none, none⟩,
    ⟨.st (.l 14) (.l 11) 2, none, none⟩] (some false))
  (.seq (.reg [⟨.mov (.s 14), none, none⟩,
    ⟨.mov (.l 0), some 5, none⟩,
    ⟨.mov (.c (.b false)), some 6, none⟩] none)
  .ret)))))))))))), false, false⟩

def tm88 : List Nat := [0, 1, 2, 3, 4, 10, 11, 47, 66, 71, 120, 139, 144, 12, 13]
def bs88 : List Nat := []

-- math/bits.Len32
def v89 : VFunc :=
  ⟨1, 4, [.s 1],
  (.seq (.reg [⟨.mov (.c (.i .i64 0)), some 1, none⟩] none)
  (.seq (.seq (.reg [⟨.mov (.s 0), none, none⟩,
    ⟨.bin .geq (.l 0) (.c (.i .u32 65536)), some 2, none⟩] none)
  (.cond (.s 2) (.seq (.reg [⟨.mov (.s 0), none, none⟩,
     ⟨.bin .shr (.l 0) (.c (.i .u64 16)), none, none⟩,
     ⟨.mov (.l 1), some 0, none⟩] none)
   (.reg [⟨.mov (.c (.i .i64 16)), some 1, none⟩] none))
  .skip))
  (.seq (.seq (.reg [⟨.mov (.s 0), none, none⟩,
    ⟨.bin .geq (.l 0) (.c (.i .u32 256)), some 3, none⟩] none)
  (.cond (.s 3) (.seq (.reg [⟨.mov (.s 0), none, none⟩,
     ⟨.bin .shr (.l 0) (.c (.i .u64 8)), none, none⟩,
     ⟨.mov (.l 1), some 0, none⟩] none)
   (.reg [⟨.mov (.s 1), none, none⟩,
     ⟨.bin .add (.l 0) (.c (.i .i64 8)), none, none⟩,
     ⟨.mov (.l 1), some 1, none⟩] none))
  .skip))
  (.seq (.reg [⟨.mov (.s 1), none, none⟩,
    ⟨.mov (.s 0), none, none⟩,
    ⟨.cvi .u8 (.l 1), none, none⟩,
    ⟨.ixs (.c (.s [0, 1, 2, 2, 3, 3, 3, 3, 4, 4, 4, 4, 4, 4, 4, 4, 5, 5, 5, 5, 5, 5, 5, 5, 5, 5, 5, 5, 5, 5, 5, 5, 6, 6, 6, 6, 6, 6, 6, 6, 6, 6, 6, 6, 6, 6, 6, 6, 6, 6, 6, 6, 6, 6, 6, 6, 6, 6, 6, 6, 6, 6, 6, 6, 7, 7, 7, 7, 7, 7, 7, 7, 7, 7, 7, 7, 7, 7, 7, 7, 7, 7, 7, 7, 7, 7, 7, 7, 7, 7, 7, 7, 7, 7, 7, 7, 7, 7, 7, 7, 7, 7, 7, 7, 7, 7, 7, 7, 7, 7, 7, 7, 7, 7, 7, 7, 7, 7, 7, 7, 7, 7, 7, 7, 7, 7, 7, 7, 8, 8, 8, 8, 8, 8, 8, 8, 8, 8, 8, 8, 8, 8, 8, 8, 8, 8, 8, 8, 8, 8, 8, 8, 8, 8, 8, 8, 8, 8, 8, 8, 8, 8, 8, 8, 8, 8, 8, 8, 8, 8, 8, 8, 8, 8, 8, 8, 8, 8, 8, 8, 8, 8, 8, 8, 8, 8, 8, 8, 8, 8, 8, 8, 8, 8, 8, 8, 8, 8, 8, 8, 8, 8, 8, 8, 8, 8, 8, 8, 8, 8, 8, 8, 8, 8, 8, 8, 8, 8, 8, 8, 8, 8, 8, 8, 8, 8, 8, 8, 8, 8, 8, 8, 8, 8, 8, 8, 8, 8, 8, 8, 8, 8, 8, 8, 8, 8, 8, 8, 8, 8, 8, 8, 8, 8, 8, 8])) (.l 2), none, none⟩,
    ⟨.cvi .i64 (.l 3), none, none⟩,
    ⟨.bin .add (.l 0) (.l 4), none, none⟩,
    ⟨.mov (.l 5), some 1, none⟩] none)
  .ret)))), true, false⟩

def tm89 : List Nat := [0, 2, 4, 8]
def bs89 : List Nat := []

-- math/bits.Len64
def v90 : VFunc :=
  ⟨1, 5, [.s 1],
  (.seq (.reg [⟨.mov (.c (.i .i64 0)), some 1, none⟩] none)
  (.seq (.seq (.reg [⟨.mov (.s 0), none, none⟩,
    ⟨.bin .geq (.l 0) (.c (.i .u64 4294967296)), some 2, none⟩] none)
  (.cond (.s 2) (.seq (.reg [⟨.mov (.s 0), none, none⟩,
     ⟨.bin .shr (.l 0) (.c (.i .u64 32)), none, none⟩,
     ⟨.mov (.l 1), some 0, none⟩] none)
   (.reg [⟨.mov (.c (.i .i64 32)), some 1, none⟩] none))
  .skip))
  (.seq (.seq (.reg [⟨.mov (.s 0), none, none⟩,
    ⟨.bin .geq (.l 0) (.c (.i .u64 65536)), some 3, none⟩] none)
  (.cond (.s 3) (.seq (.reg [⟨.mov (.s 0), none, none⟩,
     ⟨.bin .shr (.l 0) (.c (.i .u64 16)), none, none⟩,
     ⟨.mov (.l 1), some 0, none⟩] none)
   (.reg [⟨.mov (.s 1), none, none⟩,
     ⟨.bin .add (.l 0) (.c (.i .i64 16)), none, none⟩,
     ⟨.mov (.l 1), some 1, none⟩] none))
  .skip))
  (.seq (.seq (.reg [⟨.mov (.s 0), none, none⟩,
    ⟨.bin .geq (.l 0) (.c (.i .u64 256)), some 4, none⟩] none)
  (.cond (.s 4) (.seq (.reg [⟨.mov (.s 0), none, none⟩,
     ⟨.bin .shr (.l 0) (.c (.i .u64 8)), none, none⟩,
     ⟨.mov (.l 1), some 0, none⟩] none)
   (.reg [⟨.mov (.s 1), none, none⟩,
     ⟨.bin .add (.l 0) (.c (.i .i64 8)), none, none⟩,
     ⟨.mov (.l 1), some 1, none⟩] none))
  .skip))
  (.seq (.reg [⟨.mov (.s 1), none, none⟩,
    ⟨.mov (.s 0), none, none⟩,
    ⟨.cvi .u8 (.l 1), none, none⟩,
    ⟨.ixs (.c (.s [0, 1, 2, 2, 3, 3, 3, 3, 4, 4, 4, 4, 4, 4, 4, 4, 5, 5, 5, 5, 5, 5, 5, 5, 5, 5, 5, 5, 5, 5, 5, 5, 6, 6, 6, 6, 6, 6, 6, 6, 6, 6, 6, 6, 6, 6, 6, 6, 6, 6, 6, 6, 6, 6, 6, 6, 6, 6, 6, 6, 6, 6, 6, 6, 7, 7, 7, 7, 7, 7, 7, 7, 7, 7, 7, 7, 7, 7, 7, 7, 7, 7, 7, 7, 7, 7, 7, 7, 7, 7, 7, 7, 7, 7, 7, 7, 7, 7, 7, 7, 7, 7, 7, 7, 7, 7, 7, 7, 7, 7, 7, 7, 7, 7, 7, 7, 7, 7, 7, 7, 7, 7, 7, 7, 7, 7, 7, 7, 8, 8, 8, 8, 8, 8, 8, 8, 8, 8, 8, 8, 8, 8, 8, 8, 8, 8, 8, 8, 8, 8, 8, 8, 8, 8, 8, 8, 8, 8, 8, 8, 8, 8, 8, 8, 8, 8, 8, 8, 8, 8, 8, 8, 8, 8, 8, 8, 8, 8, 8, 8, 8, 8, 8, 8, 8, 8, 8, 8, 8, 8, 8, 8, 8, 8, 8, 8, 8, 8, 8, 8, 8, 8, 8, 8, 8, 8, 8, 8, 8, 8, 8, 8, 8, 8, 8, 8, 8, 8, 8, 8, 8, 8, 8, 8, 8, 8, 8, 8, 8, 8, 8, 8, 8, 8, 8, 8, 8, 8, 8, 8, 8, 8, 8, 8, 8, 8, 8, 8, 8, 8, 8, 8, 8, 8, 8, 8])) (.l 2), none, none⟩,
    ⟨.cvi .i64 (.l 3), none, none⟩,
    ⟨.bin .add (.l 0) (.l 4), none, none⟩,
    ⟨.mov (.l 5), some 1, none⟩] none)
  .ret))))), true, false⟩

def tm90 : List Nat := [0, 2, 4, 8, 14]
def bs90 : List Nat := []

-- slices.siftDownCmpFunc[annuitant/api.Span]
def v91l0 : VCode :=
  (.block 1 (.seq (.reg [⟨.mov (.s 8), none, none⟩,
     ⟨.bin .mul (.c (.i .i64 2)) (.l 0), none, none⟩,
     ⟨.bin .add (.l 1) (.c (.i .i64 1)), none, none⟩,
     ⟨.mov (.l 2), some 9, none⟩] none)
   (.seq (.seq (.reg [⟨.mov (.s 9), none, none⟩,
     ⟨.mov (.s 2), none, none⟩,
     ⟨.bin .geq (.l 0) (.l 1), some 5, none⟩] none)
   (.cond (.s 5) (.exit 0)
   .skip))
   (.seq (.seq (.reg [⟨.mov (.s 9), none, none⟩,
     ⟨.bin .add (.l 0) (.c (.i .i64 1)), none, none⟩,
     ⟨.mov (.s 2), none, none⟩,
     ⟨.bin .lss (.l 1) (.l 2), none, none⟩,
     ⟨.mov (.l 3), none, none⟩,
     ⟨.mov (.s 4), none, some ((.l 4), true)⟩,
     ⟨.mov (.s 0), none, some ((.l 4), true)⟩,
     ⟨.mov (.s 3), none, some ((.l 4), true)⟩,
     ⟨.mov (.s 9), none, some ((.l 4), true)⟩,
     ⟨.bin .add (.l 7) (.l 8), none, some ((.l 4), true)⟩,
     ⟨.iad (.l 6) (.l 9) 2, none, some ((.l 4), true)⟩,
     ⟨.ld (.l 10) 2 true, none, some ((.l 4), true)⟩,
     ⟨.mov (.s 0), none, some ((.l 4), true)⟩,
     ⟨.mov (.s 3), none, some ((.l 4), true)⟩,
     ⟨.mov (.s 9), none, some ((.l 4), true)⟩,
     ⟨.bin .add (.l 13) (.l 14), none, some ((.l 4), true)⟩,
     ⟨.bin .add (.l 15) (.c (.i .i64 1)), none, some ((.l 4), true)⟩,
     ⟨.iad (.l 12) (.l 16) 2, none, some ((.l 4), true)⟩,
     ⟨.ld (.l 17) 2 true, none, some ((.l 4), true)⟩,
     ⟨.calv (.l 5) [(.l 11), (.l 18)], none, some ((.l 4), true)⟩,
     ⟨.bin .lss (.l 19) (.c (.i .i64 0)), none, some ((.l 4), true)⟩,
     ⟨.pick (.l 4) (.l 20) (.c (.b false)), some 6, none⟩] (some false))
   (.cond (.s 6) (.reg [⟨.mov (.s 9), none, none⟩,
      ⟨.bin .add (.l 0) (.c (.i .i64 1)), none, none⟩,
      ⟨.mov (.l 1), some 9, none⟩] none)
   .skip))
   (.seq (.seq (.reg [⟨.mov (.s 4), none, none⟩,
     ⟨.mov (.s 0), none, none⟩,
     ⟨.mov (.s 3), none, none⟩,
     ⟨.mov (.s 8), none, none⟩,
     ⟨.bin .add (.l 2) (.l 3), none, none⟩,
     ⟨.iad (.l 1) (.l 4) 2, none, none⟩,
     ⟨.ld (.l 5) 2 true, none, none⟩,
     ⟨.mov (.s 0), none, none⟩,
     ⟨.mov (.s 3), none, none⟩,
     ⟨.mov (.s 9), none, none⟩,
     ⟨.bin .add (.l 8) (.l 9), none, none⟩,
     ⟨.iad (.l 7) (.l 10) 2, none, none⟩,
     ⟨.ld (.l 11) 2 true, none, none⟩,
     ⟨.calv (.l 0) [(.l 6), (.l 12)], none, none⟩,
     ⟨.bin .lss (.l 13) (.c (.i .i64 0)), none, none⟩,
     ⟨.un .not (.l 14), some 7, none⟩] (some false))
   (.cond (.s 7) .ret
   .skip))
   (.seq (.reg [⟨.mov (.s 0), none, none⟩,
     ⟨.mov (.s 3), none, none⟩,
     ⟨.mov (.s 8), none, none⟩,
     ⟨.bin .add (.l 1) (.l 2), none, none⟩,
     ⟨.mov (.s 0), none, none⟩,
     ⟨.mov (.s 3), none, none⟩,
     ⟨.mov (.s 9), none, none⟩,
     ⟨.bin .add (.l 5) (.l 6), none, none⟩,
     ⟨.mov (.s 0), none, none⟩,
     ⟨.mov (.s 3), none, none⟩,
     ⟨.mov (.s 9), none, none⟩,
     ⟨.bin .add (.l 9) (.l 10), none, none⟩,
     ⟨.iad (.l 8) (.l 11) 2, none, none⟩,
     ⟨.ld (.l 12) 2 true, none, none⟩,
     ⟨.mov (.s 0), none, none⟩,
     ⟨.mov (.s 3), none, none⟩,
     ⟨.mov (.s 8), none, none⟩,
     ⟨.bin .add (.l 15) (.l 16), none, none⟩,
     ⟨.iad (.l 14) (.l 17) 2, none, none⟩,
     ⟨.ld (.l 18) 2 true, none, none⟩,
     ⟨.iad (.l 0) (.l 3) 2, none, none⟩,
     ⟨.st (.l 20) (.l 13) 2, none, none⟩,
     ⟨.iad (.l 4) (.l 7) 2, none, none⟩,
     ⟨.st (.l 22) (.l 19) 2, none, none⟩] (some false))
   (.reg [⟨.mov (.s 9), none, none⟩,
     ⟨.mov (.l 0), some 8, none⟩] none)))))))
def v91 : VFunc :=
  ⟨5, 10, [],
  (.seq (.reg [⟨.mov (.s 1), none, none⟩,
    ⟨.mov (.l 0), some 8, none⟩] none)
  (.block 0 (.loop v91l0))), false, false⟩

def tm91 : List Nat := [0, 1, 2, 3, 4, 18, 40, 58, 10, 11]
def bs91 : List Nat := []

-- slices.nextPowerOfTwo
def v92 : VFunc :=
  ⟨1, 2, [.s 1],
  (.seq (.reg [⟨.mov (.c (.i .u64 0)), some 1, none⟩] none)
  (.seq (.reg [⟨.mov (.s 0), none, none⟩,
    ⟨.cvi .u64 (.l 0), none, none⟩,
    ⟨.call 78 [(.l 1)], none, none⟩,
    ⟨.bin .shl (.c (.i .u64 1)) (.l 2), none, none⟩,
    ⟨.mov (.l 3), some 1, none⟩] none)
  .ret)), true, false⟩

def tm92 : List Nat := [0, 2]
def bs92 : List Nat := []

-- (*slices.xorshift).Next
def v93 : VFunc :=
  ⟨1, 2, [.s 1],
  (.seq (.reg [⟨.mov (.c (.i .u64 0)), some 1, none⟩] none)
  (.seq (.reg [⟨.mov (.s 0), none, none⟩,
    ⟨.nck (.l 0), none, none⟩,
    ⟨.ld (.l 1) 1 false, none, none⟩,
    ⟨.mov (.s 0), none, none⟩,
    ⟨.nck (.l 3), none, none⟩,
    ⟨.ld (.l 4) 1 false, none, none⟩,
    ⟨.bin .shl (.l 5) (.c (.i .u64 13)), none, none⟩,
    ⟨.bin .xor (.l 2) (.l 6), none, none⟩,
    ⟨.nck (.l 0), none, none⟩,
    ⟨.st (.l 8) (.l 7) 1, none, none⟩] (some false))
  (.seq (.reg [⟨.mov (.s 0), none, none⟩,
    ⟨.nck (.l 0), none, none⟩,
    ⟨.ld (.l 1) 1 false, none, none⟩,
    ⟨.mov (.s 0), none, none⟩,
    ⟨.nck (.l 3), none, none⟩,
    ⟨.ld (.l 4) 1 false, none, none⟩,
    ⟨.bin .shr (.l 5) (.c (.i .u64 7)), none, none⟩,
    ⟨.bin .xor (.l 2) (.l 6), none, none⟩,
    ⟨.nck (.l 0), none, none⟩,
    ⟨.st (.l 8) (.l 7) 1, none, none⟩] (some false))
  (.seq (.reg [⟨.mov (.s 0), none, none⟩,
    ⟨.nck (.l 0), none, none⟩,
    ⟨.ld (.l 1) 1 false, none, none⟩,
    ⟨.mov (.s 0), none, none⟩,
    ⟨.nck (.l 3), none, none⟩,
    ⟨.ld (.l 4) 1 false, none, none⟩,
    ⟨.bin .shl (.l 5) (.c (.i .u64 17)), none, none⟩,
    ⟨.bin .xor (.l 2) (.l 6), none, none⟩,
    ⟨.nck (.l 0), none, none⟩,
    ⟨.st (.l 8) (.l 7) 1, none, none⟩] (some false))
  (.seq (.reg [⟨.mov (.s 0), none, none⟩,
    ⟨.nck (.l 0), none, none⟩,
    ⟨.ld (.l 1) 1 false, none, none⟩,
    ⟨.mov (.l 2), some 1, none⟩] none)
  .ret))))), false, false⟩

def tm93 : List Nat := [0, 2]
def bs93 : List Nat := []

-- slices.medianAdjacentCmpFunc[annuitant/api.Span]
def v94 : VFunc :=
  ⟨4, 5, [.s 4],
  (.seq (.reg [⟨.mov (.c (.i .i64 0)), some 4, none⟩] none)
  (.seq (.reg [⟨.mov (.s 0), none, none⟩,
    ⟨.mov (.s 1), none, none⟩,
    ⟨.bin .sub (.l 1) (.c (.i .i64 1)), none, none⟩,
    ⟨.mov (.s 1), none, none⟩,
    ⟨.mov (.s 1), none, none⟩,
    ⟨.bin .add (.l 4) (.c (.i .i64 1)), none, none⟩,
    ⟨.mov (.s 2), none, none⟩,
    ⟨.mov (.s 3), none, none⟩,
    ⟨.call 95 [(.l 0), (.l 2), (.l 3), (.l 5), (.l 6), (.l 7)], none, none⟩,
    ⟨.mov (.l 8), some 4, none⟩] none)
  .ret)), false, false⟩

def tm94 : List Nat := [0, 1, 2, 3, 8]
def bs94 : List Nat := []

-- slices.medianCmpFunc[annuitant/api.Span]
def v95 : VFunc :=
  ⟨6, 7, [.s 6],
  (.seq (.reg [⟨.mov (.c (.i .i64 0)), some 6, none⟩] none)
  (.seq (.reg [⟨.mov (.s 0), none, none⟩,
    ⟨.mov (.s 1), none, none⟩,
    ⟨.mov (.s 2), none, none⟩,
    ⟨.mov (.s 4), none, none⟩,
    ⟨.mov (.s 5), none, none⟩,
    ⟨.call 96 [(.l 0), (.l 1), (.l 2), (.l 3), (.l 4)], none, none⟩,
    ⟨.mov (.l 5), none, none⟩,
    ⟨.ext (.l 6) 0, none, none⟩,
    ⟨.ext (.l 6) 1, none, none⟩,
    ⟨.mov (.l 7), some 1, none⟩,
    ⟨.mov (.l 8), some 2, none⟩] none)
  (.seq (.reg [⟨.mov (.s 0), none, none⟩,
    ⟨.mov (.s 2), none, none⟩,
    ⟨.mov (.s 3), none, none⟩,
    ⟨.mov (.s 4), none, none⟩,
    ⟨.mov (.s 5), none, none⟩,
    ⟨.call 96 [(.l 0), (.l 1), (.l 2), (.l 3), (.l 4)], none, none⟩,
    ⟨.mov (.l 5), none, none⟩,
    ⟨.ext (.l 6) 0, none, none⟩,
    ⟨.ext (.l 6) 1, none, none⟩,
    ⟨.mov (.l 7), some 2, none⟩,
    ⟨.mov (.l 8), some 3, none⟩] none)
  (.seq (.reg [⟨.mov (.s 0), none, none⟩,
    ⟨.mov (.s 1), none, none⟩,
    ⟨.mov (.s 2), none, none⟩,
    ⟨.mov (.s 4), none, none⟩,
    ⟨.mov (.s 5), none, none⟩,
    ⟨.call 96 [(.l 0), (.l 1), (.l 2), (.l 3), (.l 4)], none, none⟩,
    ⟨.mov (.l 5), none, none⟩,
    ⟨.ext (.l 6) 0, none, none⟩,
    ⟨.ext (.l 6) 1, none, none⟩,
    ⟨.mov (.l 7), some 1, none⟩,
    ⟨.mov (.l 8), some 2, none⟩] none)
  (.seq (.reg [⟨.mov (.s 2), none, none⟩,
    ⟨.mov (.l 0), some 6, none⟩] none)
  .ret))))), false, false⟩

def tm95 : List Nat := [0, 1, 2, 3, 4, 5, 12]
def bs95 : List Nat := []

-- slices.order2CmpFunc[annuitant/api.Span]
def v96 : VFunc :=
  ⟨5, 8, [.s 5, .s 6],
  (.seq (.reg [⟨.mov (.c (.i .i64 0)), some 5, none⟩,
    ⟨.mov (.c (.i .i64 0)), some 6, none⟩] none)
  (.seq (.seq (.reg [⟨.mov (.s 4), none, none⟩,
    ⟨.mov (.s 0), none, none⟩,
    ⟨.mov (.s 2), none, none⟩,
    ⟨.iad (.l 1) (.l 2) 2, none, none⟩,
    ⟨.ld (.l 3) 2 true, none, none⟩,
    ⟨.mov (.s 0), none, none⟩,
    ⟨.mov (.s 1), none, none⟩,
    ⟨.iad (.l 5) (.l 6) 2, none, none⟩,
    ⟨.ld (.l 7) 2 true, none, none⟩,
    ⟨.calv (.l 0) [(.l 4), (.l 8)], none, none⟩,
    ⟨.bin .lss (.l 9) (.c (.i .i64 0)), some 7, none⟩] (some false))
  (.cond (.s 7) (.seq (.reg [⟨.mov (.s 3), none, none⟩,
     ⟨.nck (.l 0), none, none⟩,
     ⟨.ld (.l 1) 1 false, none, none⟩,
     ⟨.bin .add (.l 2) (.c (.i .i64 1)), none, none⟩,
     ⟨.nck (.l 0), none, none⟩,
     ⟨.st (.l 4) (.l 3) 1, none, none⟩] none)
   (.seq (.reg [⟨.mov (.s 2), none, none⟩,
     ⟨.mov (.s 1), none, none⟩,
     ⟨.mov (.l 0), some 5, none⟩,
     ⟨.mov (.l 1), some 6, none⟩] none)
   .ret))
  .skip))
  (.seq (.reg [⟨.mov (.s 1), none, none⟩,
    ⟨.mov (.s 2), none, none⟩,
    ⟨.mov (.l 0), some 5, none⟩,
    ⟨.mov (.l 1), some 6, none⟩] none)
  .ret))), false, false⟩

def tm96 : List Nat := [0, 1, 2, 3, 4, 10, 11, 22]
def bs96 : List Nat := []

def fns : List (FuncId × VFunc) :=
  [(3, v3), (6, v6), (7, v7), (8, v8), (9, v9), (10, v10), (11, v11), (12, v12), (13, v13), (14, v14), (15, v15), (16, v16), (17, v17), (18, v18), (19, v19), (20, v20), (29, v29), (30, v30), (31, v31), (32, v32), (33, v33), (34, v34), (35, v35), (36, v36), (37, v37), (55, v55), (56, v56), (57, v57), (58, v58), (59, v59), (60, v60), (61, v61), (62, v62), (63, v63), (64, v64), (65, v65), (66, v66), (75, v75), (76, v76), (77, v77), (78, v78), (79, v79), (81, v81), (82, v82), (83, v83), (84, v84), (85, v85), (86, v86), (87, v87), (88, v88), (89, v89), (90, v90), (91, v91), (92, v92), (93, v93), (94, v94), (95, v95), (96, v96)]
def fnOf : List (FuncId × VFunc) → FuncId → Option VFunc
  | [], _ => none
  | (g, v) :: r, f => if g = f then some v else fnOf r f
/-- .. with what is shown beside the machine. -/
def Vx (e : FuncId → List D → Heap → Option (D × Heap)) (p : FuncId → List D → Option D) : VProg := ⟨fnOf fns, fun _ _ => none, e, p⟩
def V0 : VProg := Vx (fun _ _ _ => none) (fun _ _ => none)
end Go.Proofs.Ytkogdbgccjmaoaa.Dv
