/-
  The machine's code of the program's functions, by program.
-/
import Derived.Attr
import Derived.Test.YtdpnanafhabkiaaGreatDoorDa
namespace Go.Proofs.YtdpnanafhabkiaaGreatDoor.Dv
open Go.Dm
def mS (a : Nat) : VOper := ⟨.mov (.s a), none, none⟩
@[go_sem] theorem mS_eq {a : Nat} : mS a = ⟨.mov (.s a), none, none⟩ := rfl
def mL (a : Nat) : VOper := ⟨.mov (.l a), none, none⟩
@[go_sem] theorem mL_eq {a : Nat} : mL a = ⟨.mov (.l a), none, none⟩ := rfl
def mK (a : Nat) (k : Nat) : VOper := ⟨.mov (.l a), some k, none⟩
@[go_sem] theorem mK_eq {a : Nat} {k : Nat} : mK a k = ⟨.mov (.l a), some k, none⟩ := rfl
def mT (a : Nat) (k : Nat) : VOper := ⟨.mov (.s a), some k, none⟩
@[go_sem] theorem mT_eq {a : Nat} {k : Nat} : mT a k = ⟨.mov (.s a), some k, none⟩ := rfl
def mI (n : Int) (k : Nat) : VOper := ⟨.mov (.c (.i .i64 n)), some k, none⟩
@[go_sem] theorem mI_eq {n : Int} {k : Nat} : mI n k = ⟨.mov (.c (.i .i64 n)), some k, none⟩ := rfl
def mB (x : Bool) (k : Nat) : VOper := ⟨.mov (.c (.b x)), some k, none⟩
@[go_sem] theorem mB_eq {x : Bool} {k : Nat} : mB x k = ⟨.mov (.c (.b x)), some k, none⟩ := rfl
def fA (a : Nat) (n : Nat) : VOper := ⟨.lfa (.sl a) n, none, none⟩
@[go_sem] theorem fA_eq {a : Nat} {n : Nat} : fA a n = ⟨.lfa (.sl a) n, none, none⟩ := rfl
def sT (a : Nat) (l : Nat) (n : Nat) : VOper := ⟨.lst (.sl a) (.l l) n, none, none⟩
@[go_sem] theorem sT_eq {a : Nat} {l : Nat} {n : Nat} : sT a l n = ⟨.lst (.sl a) (.l l) n, none, none⟩ := rfl
def lO (a : Nat) (n : Nat) : VOper := ⟨.lld (.lo a) n false, none, none⟩
@[go_sem] theorem lO_eq {a : Nat} {n : Nat} : lO a n = ⟨.lld (.lo a) n false, none, none⟩ := rfl
def lP (a : Nat) (n : Nat) : VOper := ⟨.lld (.lo a) n true, none, none⟩
@[go_sem] theorem lP_eq {a : Nat} {n : Nat} : lP a n = ⟨.lld (.lo a) n true, none, none⟩ := rfl
def lS (a : Nat) (n : Nat) : VOper := ⟨.lld (.sl a) n true, none, none⟩
@[go_sem] theorem lS_eq {a : Nat} {n : Nat} : lS a n = ⟨.lld (.sl a) n true, none, none⟩ := rfl
def xT (a : Nat) (n : Nat) : VOper := ⟨.ext (.l a) n, none, none⟩
@[go_sem] theorem xT_eq {a : Nat} {n : Nat} : xT a n = ⟨.ext (.l a) n, none, none⟩ := rfl
def c1 (f : Nat) (a : Nat) : VOper := ⟨.call f [(.l a)], none, none⟩
@[go_sem] theorem c1_eq {f : Nat} {a : Nat} : c1 f a = ⟨.call f [(.l a)], none, none⟩ := rfl
def c2 (f : Nat) (a : Nat) (e : Nat) : VOper := ⟨.call f [(.l a), (.l e)], none, none⟩
@[go_sem] theorem c2_eq {f : Nat} {a : Nat} {e : Nat} : c2 f a e = ⟨.call f [(.l a), (.l e)], none, none⟩ := rfl
def bX (a : Nat) (n : Nat) (k : Nat) : VOper := ⟨.lbx (.s a) n, some k, none⟩
@[go_sem] theorem bX_eq {a : Nat} {n : Nat} {k : Nat} : bX a n k = ⟨.lbx (.s a) n, some k, none⟩ := rfl
def lD (a : Nat) (n : Nat) : VOper := ⟨.ld (.l a) n false, none, none⟩
@[go_sem] theorem lD_eq {a : Nat} {n : Nat} : lD a n = ⟨.ld (.l a) n false, none, none⟩ := rfl
def lT (a : Nat) (n : Nat) : VOper := ⟨.ld (.l a) n true, none, none⟩
@[go_sem] theorem lT_eq {a : Nat} {n : Nat} : lT a n = ⟨.ld (.l a) n true, none, none⟩ := rfl
def sD (a : Nat) (n : Nat) : VOper := ⟨.ld (.s a) n false, none, none⟩
@[go_sem] theorem sD_eq {a : Nat} {n : Nat} : sD a n = ⟨.ld (.s a) n false, none, none⟩ := rfl
def iA (a : Nat) (e : Nat) (n : Nat) : VOper := ⟨.iad (.l a) (.l e) n, none, none⟩
@[go_sem] theorem iA_eq {a : Nat} {e : Nat} {n : Nat} : iA a e n = ⟨.iad (.l a) (.l e) n, none, none⟩ := rfl
def nL (a : Nat) (e : Nat) : VOper := ⟨.len a (.l e), none, none⟩
@[go_sem] theorem nL_eq {a : Nat} {e : Nat} : nL a e = ⟨.len a (.l e), none, none⟩ := rfl
def fD (a : Nat) (n : Nat) : VOper := ⟨.fad (.l a) n, none, none⟩
@[go_sem] theorem fD_eq {a : Nat} {n : Nat} : fD a n = ⟨.fad (.l a) n, none, none⟩ := rfl
def cI (n : Int) : O := .c (.i .i64 n)
@[go_sem] theorem cI_eq {n : Int} : cI n = .c (.i .i64 n) := rfl
def vA (x : VOp) : VOper := ⟨x, none, none⟩
@[go_sem] theorem vA_eq {x : VOp} : vA x = ⟨x, none, none⟩ := rfl
def vB (k : Nat) (x : VOp) : VOper := ⟨x, some k, none⟩
@[go_sem] theorem vB_eq {k : Nat} {x : VOp} : vB k x = ⟨x, some k, none⟩ := rfl
def vG (i : Nat) (b : Bool) (x : VOp) : VOper := ⟨x, none, some ((.l i), b)⟩
@[go_sem] theorem vG_eq {i : Nat} {b : Bool} {x : VOp} : vG i b x = ⟨x, none, some ((.l i), b)⟩ := rfl
def Rg (x : List VOper) : VCode := .reg x none
@[go_sem] theorem Rg_eq {x : List VOper} : Rg x = .reg x none := rfl
def z9 : List D := [(.i .u8 0),(.s []),(.i .u8 0),(.b false),.nil,(.b false),.nil,(.i .i64 0),.nil]
@[go_sem] theorem z9_eq : z9 = [(.i .u8 0),(.s []),(.i .u8 0),(.b false),.nil,(.b false),.nil,(.i .i64 0),.nil] := rfl
def z6 : List D := [(.i .u8 0),(.b false),.nil,(.b false),.nil,(.i .i64 0)]
@[go_sem] theorem z6_eq : z6 = [(.i .u8 0),(.b false),.nil,(.b false),.nil,(.i .i64 0)] := rfl
def z4 : List D := [(.b false),.nil,(.b false),.nil]
@[go_sem] theorem z4_eq : z4 = [(.b false),.nil,(.b false),.nil] := rfl
def v3 : VFunc :=
 ⟨2,15,[.s 2],(.seq (Rg [mB false 2])
 (.seq (Rg [mS 1,vA (.cvi .i64 (.l 0)),vA (.bin .rem (.l 1) (cI 5001)),mK 2 5])
 (.seq (Rg [mS 0,vA (.cvi .i64 (.l 0)),mS 5,vA (.bin .sub (cI 65535) (.l 2)),vA (.mn [(.l 1),(.l 3)]),mK 4 6])
 (.seq (.reg [vA (.call 6 [(.c (.i .u8 2)),(cI 1),(cI 1)]),c1 5 0,vB 8 (.lal z9),sT 8 1 9] none)
 (.seq (.reg [mS 6,mS 5,vA (.bin .add (.l 0) (.l 1)),vA (.agc z6 [(0,1,(.c (.i .u8 4))),(5,1,(.l 2))]),c1 5 3,vB 7 (.lal z9),sT 7 4 9] none)
 (.seq (.reg [vA (.agc z9 [(0,1,(.c (.i .u8 2)))]),vA (.agc z6 [(0,1,(.c (.i .u8 5))),(5,1,(cI 1))]),c1 5 1,vA (.bsv 9 2 z9 [(0,(.l 0)),(1,(.l 2))]),vA (.call 7 [(.c (.i .u8 7)),(.l 3)]),vB 9 (.lal z9),sT 9 4 9] none)
 (.seq (.reg [vA (.agc [(.s []),(.i .u8 0),(.b false)] [(0,1,(.c (.s [110]))),(1,1,(.c (.i .u8 2)))]),vA (.agc [(.s []),(.i .u8 0),(.b false)] [(0,1,(.c (.s [109]))),(1,1,(.c (.i .u8 2)))]),vA (.bsv 3 2 [(.s []),(.i .u8 0),(.b false)] [(0,(.l 0)),(1,(.l 1))]),vA (.agc z9 [(0,1,(.c (.i .u8 2)))]),lS 7 9,vA (.bsv 9 2 z9 [(0,(.l 3)),(1,(.l 4))]),vA (.call 7 [(.c (.i .u8 13)),(.l 5)]),vA (.bsv 9 1 z9 [(0,(.l 6))]),vA (.call 7 [(.c (.i .u8 17)),(.l 7)]),vA (.call 6 [(.c (.i .u8 2)),(cI 0),(cI 1)]),c1 5 9,vA (.call 8 [(.c (.s [110])),(.c (.s [101,110,100])),(.l 8),(.l 10)]),vA (.agc z9 [(0,1,(.c (.i .u8 2)))]),lS 7 9,vA (.bsv 9 2 z9 [(0,(.l 12)),(1,(.l 13))]),vA (.call 7 [(.c (.i .u8 13)),(.l 14)]),lS 8 9,lS 9 9,vA (.bsv 9 1 z9 [(0,(.l 17))]),vA (.agc z9 [(0,1,(.c (.i .u8 5))),(1,1,(.c (.s [110]))),(8,1,(.l 18))]),vA (.bsv 9 2 z9 [(0,(.l 16)),(1,(.l 19))]),vA (.call 7 [(.c (.i .u8 7)),(.l 20)]),vA (.call 8 [(.c (.s [110])),(.c (.s [111,110])),(.l 15),(.l 21)]),vA (.call 9 []),lS 8 9,vA (.call 10 [(.c (.i .u8 5)),(.c (.s [109]))]),vA (.bsv 9 2 z9 [(0,(.l 24)),(1,(.l 25))]),vA (.call 7 [(.c (.i .u8 7)),(.l 26)]),vA (.call 8 [(.c (.s [109])),(.c (.s [111,110])),(.l 23),(.l 27)]),vA (.bsv 24 3 [(.s []),(.s []),(.i .i64 0),(.i .i64 0),(.i .i64 0),(.b false),(.i .u8 0),(.s []),(.i .u8 0),(.b false),.nil,(.b false),.nil,(.i .i64 0),.nil,(.i .u8 0),(.s []),(.i .u8 0),(.b false),.nil,(.b false),.nil,(.i .i64 0),.nil] [(0,(.l 11)),(1,(.l 22)),(2,(.l 28))]),vA (.agc [(.s []),.nil,.nil,.nil] [(1,1,(.l 2)),(3,1,(.l 29))]),vB 10 (.lal [(.s []),.nil,.nil,.nil]),sT 10 30 4] (some false))
 (.seq (.reg [lS 10 4,mS 6,vA (.call 11 [(.l 0),(.c .nil),(.c (.s [110])),(.l 1),(cI 0)]),mL 2,xT 3 0,xT 3 1,vB 13 (.lal z6),sT 13 4 6,mK 5 12] none)
 (.seq (.reg [lS 10 4,mS 6,vA (.call 11 [(.l 0),(.c .nil),(.c (.s [109])),(.l 1),(cI 0)]),mL 2,xT 3 0,xT 3 1,vB 14 (.lal z6),sT 14 4 6,mK 5 11] none)
 (.seq (.seq (Rg [mS 11,vB 3 (.bin .neq (.l 0) (cI 186))])
 (.cond (.s 3) (.seq (Rg [mB false 2])
 .ret)
 .skip))
 (.seq (.seq (Rg [mS 5,vA (.bin .add (.l 0) (cI 1)),vB 4 (.bin .gtr (.l 1) (cI 4096))])
 (.cond (.s 4) (.seq (Rg [mS 12,vA (.bin .eql (.l 0) (cI 5)),mL 1,vG 2 true (.call 12 []),vA (.pick (.l 2) (.l 3) (.c (.b false))),mK 4 2])
 .ret)
 .skip))
 (.seq (.reg [mS 12,vA (.bin .eql (.l 0) (cI 0)),mL 1,vG 2 true (.lld (.sl 13) 6 true),vG 2 true (.mov (.s 5)),vG 2 true (.call 6 [(.c (.i .u8 2)),(.l 4),(cI 1)]),vG 2 true (.call 13 [(.l 3),(.l 5)]),vA (.pick (.l 2) (.l 6) (.c (.b false))),mL 7,vG 8 true (.call 12 []),vA (.pick (.l 8) (.l 9) (.c (.b false))),mK 10 2] (some false))
 .ret)))))))))))),true,false,none,false,none⟩
def v5 : VFunc :=
 ⟨1,3,[.bx 1 9 true],(.seq (.reg [bX 0 6 2,vB 1 (.lal z9)] none)
 (.seq (.reg [lS 2 6,vA (.agc z9 [(0,1,(.c (.i .u8 1))),(2,6,(.l 0))]),sT 1 1 9] none)
 .ret)),true,false,none,false,none⟩
def v6 : VFunc :=
 ⟨3,4,[.bx 3 6 true],(.seq (Rg [vB 3 (.lal z6)])
 (.seq (Rg [mS 0,mS 1,mS 2,c2 16 1 2,vA (.agc z6 [(0,1,(.l 0)),(1,4,(.l 3))]),sT 3 4 6])
 .ret)),true,false,none,false,none⟩
def v7 : VFunc :=
 ⟨2,3,[.bx 2 9 true],(.seq (.reg [vB 2 (.lal z9)] none)
 (.seq (.reg [mS 0,mS 1,vA (.agc z9 [(0,1,(.l 0)),(8,1,(.l 1))]),sT 2 2 9] none)
 .ret)),true,false,none,false,none⟩
def v8 : VFunc :=
 ⟨4,7,[.bx 4 24 true],(.seq (.reg [bX 2 9 5,bX 3 9 6,vB 4 (.lal [(.s []),(.s []),(.i .i64 0),(.i .i64 0),(.i .i64 0),(.b false),(.i .u8 0),(.s []),(.i .u8 0),(.b false),.nil,(.b false),.nil,(.i .i64 0),.nil,(.i .u8 0),(.s []),(.i .u8 0),(.b false),.nil,(.b false),.nil,(.i .i64 0),.nil])] none)
 (.seq (.reg [mS 0,mS 1,lS 5 9,lS 6 9,vA (.agc [(.s []),(.s []),(.i .i64 0),(.i .i64 0),(.i .i64 0),(.b false),(.i .u8 0),(.s []),(.i .u8 0),(.b false),.nil,(.b false),.nil,(.i .i64 0),.nil,(.i .u8 0),(.s []),(.i .u8 0),(.b false),.nil,(.b false),.nil,(.i .i64 0),.nil] [(0,1,(.l 0)),(1,1,(.l 1)),(3,1,(cI 65536)),(6,9,(.l 2)),(15,9,(.l 3))]),sT 4 4 24] none)
 .ret)),true,false,none,false,none⟩
def v9 : VFunc :=
 ⟨0,1,[.bx 0 9 true],(.seq (.reg [vB 0 (.lal z9)] none)
 (.seq (Rg [vA (.agc z6 [(0,1,(.c (.i .u8 1))),(5,1,(cI 1))]),c1 5 0,sT 0 1 9])
 .ret)),true,false,none,false,none⟩
def v10 : VFunc :=
 ⟨2,3,[.bx 2 9 true],(.seq (.reg [vB 2 (.lal z9)] none)
 (.seq (.reg [mS 0,mS 1,vA (.agc z9 [(0,1,(.c (.i .u8 2)))]),vA (.bsl 9 1 z9 [(0,(.l 2))] true),vA (.agc z9 [(0,1,(.l 0)),(1,1,(.l 1)),(8,1,(.l 3))]),sT 2 4 9] none)
 .ret)),true,false,none,false,none⟩
def v11 : VFunc :=
 ⟨5,11,[.bx 5 6 true,.s 6],(.seq (Rg [bX 0 4 7,vB 5 (.lal z6),mI 0 6])
 (.seq (Rg [lS 7 4,mS 1,mS 2,mS 3,mS 4,vA (.call 17 [(.l 0),(.l 1),(.l 2),(.l 3),(.l 4)]),mL 5,xT 6 0,xT 6 1,xT 6 2,vB 8 (.lal z6),vB 10 (.lal [.nil,.nil,.nil]),sT 8 7 6,sT 10 8 3,mK 9 9])
 (.seq (Rg [lS 8 6,mS 9,sT 5 0 6,mK 1 6])
 .ret))),true,false,none,false,none⟩
def v12 : VFunc :=
 ⟨0,17,[.s 0],(.seq (Rg [mB false 0])
 (.seq (.reg [vA (.call 18 []),vB 3 (.lal [(.s []),.nil,.nil,.nil]),sT 3 0 4] none)
 (.seq (.reg [lS 3 4,vA (.call 19 [(cI 65)]),vA (.call 17 [(.l 0),(.l 1),(.c (.s [112,101,110,115,105,111,110])),(cI 100),(cI 0)]),mL 2,xT 3 0,xT 3 1,xT 3 2,vB 7 (.lal z6),vB 9 (.lal [.nil,.nil,.nil]),sT 7 4 6,sT 9 5 3,mK 6 4] (some false))
 (.seq (.reg [lS 3 4,vA (.call 19 [(cI 50)]),vA (.call 11 [(.l 0),(.l 1),(.c (.s [112,101,110,115,105,111,110])),(cI 100),(cI 0)]),mL 2,xT 3 0,xT 3 1,vB 8 (.lal z6),sT 8 4 6,mK 5 5] (some false))
 (.seq (.reg [lS 3 4,vA (.call 19 [(cI 65)]),vA (.sli false 11 (.l 1) (some (cI 1)) none none),vA (.call 11 [(.l 0),(.l 2),(.c (.s [112,101,110,115,105,111,110])),(cI 100),(cI 0)]),mL 3,xT 4 0,xT 4 1,vB 16 (.lal z6),sT 16 5 6,mK 6 6] (some false))
 (.seq (.seq (.reg [mS 4,vA (.bin .neq (.l 0) (cI 0)),mL 1,vG 2 false (.mov (.s 5)),vG 2 false (.bin .neq (.l 3) (cI 0)),vA (.pick (.l 2) (.c (.b true)) (.l 4)),mL 5,vG 6 false (.mov (.s 6)),vG 6 false (.bin .neq (.l 7) (cI 182)),vA (.pick (.l 6) (.c (.b true)) (.l 8)),mL 9,vG 10 false (.lld (.sl 7) 6 true),vG 10 false (.call 6 [(.c (.i .u8 3)),(cI 800),(cI 1)]),vG 10 false (.call 13 [(.l 11),(.l 12)]),vG 10 false (.un .not (.l 13)),vA (.pick (.l 10) (.c (.b true)) (.l 14)),mL 15,vG 16 false (.lld (.sl 8) 6 true),vG 16 false (.call 6 [(.c (.i .u8 3)),(cI 0),(cI 1)]),vG 16 false (.call 13 [(.l 17),(.l 18)]),vG 16 false (.un .not (.l 19)),vB 1 (.pick (.l 16) (.c (.b true)) (.l 20))] (some false))
 (.cond (.s 1) (.seq (Rg [mB false 0])
 .ret)
 .skip))
 (.seq (.seq (.reg [fA 9 0,lO 0 1,nL 1 1,vA (.bin .neq (.l 2) (cI 3)),mL 3,vG 4 false (.lfa (.sl 9) 0),vG 4 false (.lld (.lo 5) 1 false),vG 4 false (.iad (.l 6) (cI 0) 2),vG 4 false (.ld (.l 7) 2 true),vG 4 false (.agc [(.s []),(.i .i64 0)] [(0,1,(.c (.s [112,101,110,115,105,111,110]))),(1,1,(cI 100))]),vG 4 false (.eqv true (.st [2,1]) (.l 8) (.l 9)),vA (.pick (.l 4) (.c (.b true)) (.l 10)),mL 11,vG 12 false (.lfa (.sl 9) 0),vG 12 false (.lld (.lo 13) 1 false),vG 12 false (.iad (.l 14) (cI 1) 2),vG 12 false (.ld (.l 15) 2 true),vG 12 false (.agc [(.s []),(.i .i64 0)] [(0,1,(.c (.s [114,97,116,101]))),(1,1,(cI 100))]),vG 12 false (.eqv true (.st [2,1]) (.l 16) (.l 17)),vA (.pick (.l 12) (.c (.b true)) (.l 18)),mL 19,vG 20 false (.lfa (.sl 9) 0),vG 20 false (.lld (.lo 21) 1 false),vG 20 false (.iad (.l 22) (cI 2) 2),vG 20 false (.ld (.l 23) 2 true),vG 20 false (.agc [(.s []),(.i .i64 0)] [(0,1,(.c (.s [97,103,101]))),(1,1,(cI 100))]),vG 20 false (.eqv true (.st [2,1]) (.l 24) (.l 25)),vA (.pick (.l 20) (.c (.b true)) (.l 26)),mL 27,vG 28 false (.lfa (.sl 9) 1),vG 28 false (.lld (.lo 29) 1 false),vG 28 false (.len 1 (.l 30)),vG 28 false (.bin .neq (.l 31) (cI 2)),vA (.pick (.l 28) (.c (.b true)) (.l 32)),mL 33,vG 34 false (.lfa (.sl 9) 1),vG 34 false (.lld (.lo 35) 1 false),vG 34 false (.iad (.l 36) (cI 0) 3),vG 34 false (.ld (.l 37) 3 true),vG 34 false (.agc [(.s []),(.i .i64 0),(.i .i64 0)] [(0,1,(.c (.s [112,97,121]))),(1,1,(cI 100)),(2,1,(cI 101))]),vG 34 false (.eqv true (.st [2,1,1]) (.l 38) (.l 39)),vA (.pick (.l 34) (.c (.b true)) (.l 40)),mL 41,vG 42 false (.lfa (.sl 9) 1),vG 42 false (.lld (.lo 43) 1 false),vG 42 false (.iad (.l 44) (cI 1) 3),vG 42 false (.ld (.l 45) 3 true),vG 42 false (.agc [(.s []),(.i .i64 0),(.i .i64 0)] [(0,1,(.c (.s [97,103,101]))),(1,1,(cI 100)),(2,1,(cI 101))]),vG 42 false (.eqv true (.st [2,1,1]) (.l 46) (.l 47)),vA (.pick (.l 42) (.c (.b true)) (.l 48)),mL 49,vG 50 false (.lfa (.sl 9) 2),vG 50 false (.lld (.lo 51) 1 false),vG 50 false (.len 1 (.l 52)),vG 50 false (.bin .neq (.l 53) (cI 0)),vB 2 (.pick (.l 50) (.c (.b true)) (.l 54))] none)
 (.cond (.s 2) (.seq (Rg [mB false 0])
 .ret)
 .skip))
 (.seq (.reg [lS 3 4,lS 3 4,vB 10 (.lal [(.s []),.nil,.nil,.nil]),vB 11 (.lal [(.s []),.nil,.nil,.nil]),sT 10 0 4,sT 11 1 4] (some false))
 (.seq (.reg [vA (.bsl 24 0 [(.s []),(.s []),(.i .i64 0),(.i .i64 0),(.i .i64 0),(.b false),(.i .u8 0),(.s []),(.i .u8 0),(.b false),.nil,(.b false),.nil,(.i .i64 0),.nil,(.i .u8 0),(.s []),(.i .u8 0),(.b false),.nil,(.b false),.nil,(.i .i64 0),.nil] [] true),fA 3 3,lO 1 1,vA (.app (.l 0) (.l 2) 24 320 true),vA (.call 9 []),vA (.call 6 [(.c (.i .u8 2)),(cI 0),(cI 1)]),c1 5 5,vA (.call 8 [(.c (.s [114,97,116,101])),(.c (.s [97,108,108])),(.l 4),(.l 6)]),vA (.bsv 24 1 [(.s []),(.s []),(.i .i64 0),(.i .i64 0),(.i .i64 0),(.b false),(.i .u8 0),(.s []),(.i .u8 0),(.b false),.nil,(.b false),.nil,(.i .i64 0),.nil,(.i .u8 0),(.s []),(.i .u8 0),(.b false),.nil,(.b false),.nil,(.i .i64 0),.nil] [(0,(.l 7))]),vA (.app (.l 3) (.l 8) 24 320 true),fA 10 3,vA (.lst (.lo 10) (.l 9) 1)] none)
 (.seq (.reg [vA (.bsl 24 0 [(.s []),(.s []),(.i .i64 0),(.i .i64 0),(.i .i64 0),(.b false),(.i .u8 0),(.s []),(.i .u8 0),(.b false),.nil,(.b false),.nil,(.i .i64 0),.nil,(.i .u8 0),(.s []),(.i .u8 0),(.b false),.nil,(.b false),.nil,(.i .i64 0),.nil] [] true),fA 3 3,lO 1 1,vA (.app (.l 0) (.l 2) 24 320 true),fA 11 3,vA (.lst (.lo 4) (.l 3) 1)] none)
 (.seq (.reg [fA 11 3,lO 0 1,vA (.call 10 [(.c (.i .u8 5)),(.c (.s [112,101,110,115,105,111,110]))]),vA (.iad (.l 1) (cI 2) 24),fD 3 15,vA (.st (.l 4) (.l 2) 9)] (some false))
 (.seq (.reg [lS 10 4,vA (.call 19 [(cI 65)]),vA (.call 11 [(.l 0),(.l 1),(.c (.s [112,101,110,115,105,111,110])),(cI 100),(cI 0)]),mL 2,xT 3 0,xT 3 1,vB 15 (.lal z6),sT 15 4 6,mK 5 12] (some false))
 (.seq (.reg [lS 11 4,vA (.call 19 [(cI 65)]),vA (.call 11 [(.l 0),(.l 1),(.c (.s [112,101,110,115,105,111,110])),(cI 100),(cI 0)]),mL 2,xT 3 0,xT 3 1,vB 14 (.lal z6),sT 14 4 6,mK 5 13] (some false))
 (.seq (Rg [mS 12,vA (.bin .eql (.l 0) (cI 184)),mL 1,vG 2 true (.mov (.s 13)),vG 2 true (.bin .eql (.l 3) (cI 186)),vA (.pick (.l 2) (.l 4) (.c (.b false))),mK 5 0])
 .ret)))))))))))))),true,false,none,false,none⟩
def v13 : VFunc :=
 ⟨2,5,[.s 2],(.seq (Rg [bX 0 6 3,bX 1 6 4,mB false 2])
 (.seq (Rg [fA 3 0,lO 0 1,fA 4 0,lO 2 1,vA (.bin .eql (.l 1) (.l 3)),mL 4,vG 5 true (.lfa (.sl 3) 1),vG 5 true (.lld (.lo 6) 4 true),vG 5 true (.lfa (.sl 4) 1),vG 5 true (.lld (.lo 8) 4 true),vG 5 true (.call 20 [(.l 7),(.l 9)]),vA (.pick (.l 5) (.l 10) (.c (.b false))),mL 11,vG 12 true (.lfa (.sl 3) 5),vG 12 true (.lld (.lo 13) 1 false),vG 12 true (.lfa (.sl 4) 5),vG 12 true (.lld (.lo 15) 1 false),vG 12 true (.bin .eql (.l 14) (.l 16)),vA (.pick (.l 12) (.l 17) (.c (.b false))),mK 18 2])
 .ret)),true,false,none,false,none⟩
def v16l0 : VCode :=
 (.seq (.seq (Rg [mS 7,vB 5 (.bin .gtr (.l 0) (.c (.i .u64 0)))])
 (.cond (.s 5) .skip
 (.exit 0)))
 (.block 1 (.reg [mS 7,mS 6,mS 7,vA (.bin .rem (.l 1) (.l 2)),mK 0 6,mK 3 7] (some false))))
def v16 : VFunc :=
 ⟨2,8,[.bx 2 4 true],(.seq (Rg [vB 2 (.lal z4)])
 (.seq (.seq (Rg [mS 1,vA (.bin .lss (.l 0) (cI 1)),mL 1,vG 2 false (.mov (.s 0)),vG 2 false (.bin .eql (.l 3) (cI 0)),vB 3 (.pick (.l 2) (.c (.b true)) (.l 4))])
 (.cond (.s 3) (.seq (Rg [vA (.call 27 [(cI 1)]),vA (.agc z4 [(2,2,(.l 0))]),sT 2 1 4])
 .ret)
 .skip))
 (.seq (Rg [mS 0,vA (.cvi .u64 (.l 0)),mS 1,vA (.cvi .u64 (.l 2)),mK 1 6,mK 3 7])
 (.seq (.seq (Rg [mS 0,vB 4 (.bin .lss (.l 0) (cI 0))])
 (.cond (.s 4) (Rg [mS 6,vA (.un .neg (.l 0)),mK 1 6])
 .skip))
 (.seq (.block 0 (.loop v16l0))
 (.seq (.reg [mS 0,mS 6,vA (.cvi .i64 (.l 1)),vA (.bin .quo (.l 0) (.l 2)),c1 27 3,mS 1,mS 6,vA (.cvi .i64 (.l 6)),vA (.bin .quo (.l 5) (.l 7)),c1 27 8,vA (.agc z4 [(0,2,(.l 4)),(2,2,(.l 9))]),sT 2 10 4] (some false))
 .ret)))))),true,false,none,false,none⟩
def v17 : VFunc :=
 ⟨5,15,[.bx 5 6 true,.bx 6 3 true,.s 7],(.seq (Rg [bX 0 4 9,vB 13 (.hbx 9 (.s 2) 1),vB 10 (.hbx 3 (.s 3) 1),vB 5 (.lal z6),vB 6 (.lal [.nil,.nil,.nil]),mI 0 7])
 (.seq (Rg [lS 9 4,mS 1,sD 10 1,mS 4,vA (.call 22 [(.l 0),(.l 1),(.l 2),(.l 3)]),mL 4,xT 5 0,xT 5 1,vB 12 (.hal 74 [.np]),vA (.st (.s 12) (.l 6) 1),mK 7 11])
 (.seq (.seq (Rg [mS 11,vB 8 (.bin .neq (.l 0) (cI 0))])
 (.cond (.s 8) (.seq (Rg [vA (.agc z6 []),vA (.agc [.nil,.nil,.nil] []),mS 11,sT 5 0 6,sT 6 1 3,mK 2 7])
 .ret)
 .skip))
 (.seq (Rg [vA (.mkf (.func 28) [] [(.s 12),(.s 13),(.s 10)]),c1 23 0,mL 1,xT 2 0,xT 2 1,vB 14 (.lal z6),sT 14 3 6,mK 4 11])
 (.seq (.reg [lS 14 6,sD 12 1,vA (.nck (.l 1)),fD 2 5,lT 3 3,mS 11,sT 5 0 6,sT 6 4 3,mK 5 7] (some false))
 .ret))))),true,false,none,false,none⟩
def v18 : VFunc :=
 ⟨0,2,[.bx 0 4 true],(.seq (.reg [vB 0 (.lal [(.s []),.nil,.nil,.nil])] none)
 (.seq (.reg [vA (.call 10 [(.c (.i .u8 5)),(.c (.s [97,103,101]))]),vA (.call 6 [(.c (.i .u8 2)),(cI 60),(cI 1)]),c1 5 1,vA (.bsv 9 2 z9 [(0,(.l 0)),(1,(.l 2))]),vA (.call 7 [(.c (.i .u8 13)),(.l 3)]),vB 1 (.lal z9),sT 1 4 9] none)
 (.seq (.reg [vA (.agc [(.s []),(.i .u8 0),(.b false)] [(0,1,(.c (.s [97,103,101]))),(1,1,(.c (.i .u8 2)))]),vA (.agc [(.s []),(.i .u8 0),(.b false)] [(0,1,(.c (.s [114,97,116,101]))),(1,1,(.c (.i .u8 2)))]),vA (.agc [(.s []),(.i .u8 0),(.b false)] [(0,1,(.c (.s [112,101,110,115,105,111,110]))),(1,1,(.c (.i .u8 3)))]),vA (.bsv 3 3 [(.s []),(.i .u8 0),(.b false)] [(0,(.l 0)),(1,(.l 1)),(2,(.l 2))]),vA (.call 9 []),vA (.call 10 [(.c (.i .u8 3)),(.c (.s [97,103,101]))]),vA (.call 8 [(.c (.s [97,103,101])),(.c (.s [102,97,99,116])),(.l 4),(.l 5)]),lS 1 9,vA (.call 6 [(.c (.i .u8 2)),(cI 0),(cI 1)]),c1 5 8,vA (.call 8 [(.c (.s [114,97,116,101])),(.c (.s [121,111,117,110,103])),(.l 7),(.l 9)]),lS 1 9,vA (.bsv 9 1 z9 [(0,(.l 11))]),vA (.call 7 [(.c (.i .u8 17)),(.l 12)]),vA (.call 6 [(.c (.i .u8 2)),(cI 1),(cI 80)]),c1 5 14,vA (.call 8 [(.c (.s [114,97,116,101])),(.c (.s [111,108,100])),(.l 13),(.l 15)]),vA (.call 9 []),vA (.call 10 [(.c (.i .u8 3)),(.c (.s [112,97,121]))]),vA (.call 10 [(.c (.i .u8 5)),(.c (.s [114,97,116,101]))]),vA (.bsv 9 2 z9 [(0,(.l 18)),(1,(.l 19))]),vA (.call 7 [(.c (.i .u8 9)),(.l 20)]),vA (.call 6 [(.c (.i .u8 2)),(cI 40),(cI 1)]),c1 5 22,vA (.bsv 9 2 z9 [(0,(.l 21)),(1,(.l 23))]),vA (.call 7 [(.c (.i .u8 9)),(.l 24)]),vA (.call 8 [(.c (.s [112,101,110,115,105,111,110])),(.c (.s [97,108,108])),(.l 17),(.l 25)]),vA (.bsv 24 4 [(.s []),(.s []),(.i .i64 0),(.i .i64 0),(.i .i64 0),(.b false),(.i .u8 0),(.s []),(.i .u8 0),(.b false),.nil,(.b false),.nil,(.i .i64 0),.nil,(.i .u8 0),(.s []),(.i .u8 0),(.b false),.nil,(.b false),.nil,(.i .i64 0),.nil] [(0,(.l 6)),(1,(.l 10)),(2,(.l 16)),(3,(.l 26))]),vA (.agc [(.s []),.nil,.nil,.nil] [(1,1,(.l 3)),(3,1,(.l 27))]),sT 0 28 4] (some false))
 .ret))),true,false,none,false,none⟩
def v19 : VFunc :=
 ⟨1,2,[.s 1],(.seq (Rg [vB 1 (.mov (.c .nil))])
 (.seq (.reg [mS 0,vA (.call 6 [(.c (.i .u8 2)),(.l 0),(cI 1)]),vA (.agc [(.s []),(.i .i64 0),(.i .i64 0),(.i .i64 0),(.b false),(.i .u8 0),(.b false),.nil,(.b false),.nil,(.i .i64 0)] [(0,1,(.c (.s [97,103,101]))),(2,1,(cI 65536)),(5,6,(.l 1))]),vA (.call 6 [(.c (.i .u8 3)),(cI 1600),(cI 1)]),vA (.agc [(.s []),(.i .i64 0),(.i .i64 0),(.i .i64 0),(.b false),(.i .u8 0),(.b false),.nil,(.b false),.nil,(.i .i64 0)] [(0,1,(.c (.s [112,97,121]))),(2,1,(cI 65536)),(5,6,(.l 3))]),vA (.bsl 11 2 [(.s []),(.i .i64 0),(.i .i64 0),(.i .i64 0),(.b false),(.i .u8 0),(.b false),.nil,(.b false),.nil,(.i .i64 0)] [(0,(.l 2)),(1,(.l 4))] true),mK 5 1] none)
 .ret)),true,false,none,false,none⟩
def v20 : VFunc :=
 ⟨2,5,[.s 2],(.seq (Rg [bX 0 4 3,bX 1 4 4,mB false 2])
 (.seq (Rg [fA 3 0,lP 0 2,fA 4 0,lP 2 2,c2 30 1 3,mL 4,vG 5 true (.lfa (.sl 3) 2),vG 5 true (.lld (.lo 6) 2 true),vG 5 true (.lfa (.sl 4) 2),vG 5 true (.lld (.lo 8) 2 true),vG 5 true (.call 30 [(.l 7),(.l 9)]),vA (.pick (.l 5) (.l 10) (.c (.b false))),mK 11 2])
 .ret)),true,false,none,false,none⟩
def v21 : VFunc :=
 ⟨1,5,[.s 1],(.seq (Rg [bX 0 9 4,mB false 1])
 (.seq (Rg [vB 2 (.hal 3 [(.i .i64 0)]),vA (.st (.s 2) (cI 0) 1)])
 (.seq (Rg [vB 3 (.hal 94 [.nf])])
 (.seq (Rg [vA (.mkf (.func 31) [] [(.s 2),(.s 3)]),vA (.st (.s 3) (.l 0) 1)])
 (.seq (Rg [sD 3 1,lS 4 9,vA (.calv (.l 0) [(.l 1),(cI 1)]),mK 2 1])
 .ret))))),true,false,none,false,none⟩
def v22 : VFunc :=
 ⟨4,8,[.s 4,.s 5],(.seq (Rg [bX 0 4 7,vB 4 (.mov (.c .np)),mI 0 5])
 (.seq (.seq (Rg [mS 2,vA (.bin .lss (.l 0) (cI 0)),mL 1,vG 2 false (.mov (.s 2)),vG 2 false (.bin .geq (.l 3) (cI 65536)),vA (.pick (.l 2) (.c (.b true)) (.l 4)),mL 5,vG 6 false (.lld (.sl 7) 4 true),vG 6 false (.call 32 [(.l 7)]),vG 6 false (.un .not (.l 8)),vA (.pick (.l 6) (.c (.b true)) (.l 9)),mL 10,vG 11 false (.mov (.s 1)),vG 11 false (.call 33 [(.l 12)]),vG 11 false (.un .not (.l 13)),vB 6 (.pick (.l 11) (.c (.b true)) (.l 14))])
 (.cond (.s 6) (.seq (Rg [vB 4 (.mov (.c .np)),mI 2 5])
 .ret)
 .skip))
 (.seq (Rg [lS 7 4,mS 1,mS 3,vA (.call 34 [(.l 0),(.l 1),(.l 2)]),vA (.mkm),vA (.mkm),vA (.mkm),vA (.mkm),vA (.agc [.np,.mnil,.mnil,.mnil,.mnil,.nil,.nil,.nil] [(0,1,(.l 3)),(1,1,(.l 4)),(2,1,(.l 5)),(3,1,(.l 6)),(4,1,(.l 7))]),vA (.hbx 85 (.l 8) 8),mK 9 4,mI 0 5])
 .ret))),false,false,none,false,none⟩
def v23d : Dfr :=
 ⟨(Rg [vB 1 (.hal 29 z6),vB 2 (.hal 48 [(.i .i64 0)])]),[1,2],35,5,3,(.seq (Rg [mS 3,vB 2 (.eqv true .ifc (.l 0) (.c .ni))])
 (.cond (.s 2) (.seq (Rg [vB 4 (.lal z6)])
 (.reg [lS 4 6,mS 3,c1 36 1,vA (.st (.s 0) (.l 0) 6),vA (.st (.s 1) (.l 2) 1)] (some false)))
 .skip)),[0,1,6,2,3],[4]⟩
def v23 : VFunc :=
 ⟨1,3,[.hb 1 6 true,.hb 2 1 false],(.seq (Rg [mS 0,vA (.calv (.l 0) []),vA (.st (.s 1) (.l 1) 6),vA (.st (.s 2) (cI 0) 1)])
 .ret),false,false,(some v23d),false,none⟩
def v25 : VFunc :=
 ⟨1,3,[.bx 1 6 true],(.seq (Rg [bX 0 6 2,vB 1 (.lal z6)])
 (.seq (Rg [fA 2 1,vA (.lfa (.lo 0) 0),vA (.lfa (.lo 1) 1),lO 2 1,vA (.app (.c .nil) (.l 3) 1 2 true),fA 2 1,vA (.lfa (.lo 5) 0),vA (.lfa (.lo 6) 1),vA (.lst (.lo 7) (.l 4) 1)])
 (.seq (Rg [fA 2 1,vA (.lfa (.lo 0) 2),vA (.lfa (.lo 1) 1),lO 2 1,vA (.app (.c .nil) (.l 3) 1 2 true),fA 2 1,vA (.lfa (.lo 5) 2),vA (.lfa (.lo 6) 1),vA (.lst (.lo 7) (.l 4) 1)])
 (.seq (Rg [lS 2 6,sT 1 0 6])
 .ret)))),true,false,none,false,none⟩
def v26l0 : VCode :=
 (.seq (Rg [vB 12 (.bin .lss (.s 17) (.s 18))])
 (.seq (.cond (.s 12) .skip
 (.exit 1))
 (.seq (.block 2 (.seq (.reg [vA (.iad (.s 19) (.s 17) 9),lT 0 9,vB 20 (.lal z9),sT 20 1 9] none)
 (Rg [mS 16,mS 0,lS 20 9,mS 2,mS 3,vA (.call 26 [(.l 1),(.l 2),(.l 3),(.l 4)]),vA (.bsv 6 1 z6 [(0,(.l 5))]),vA (.app (.l 0) (.l 6) 6 80 true),mK 7 16])))
 (Rg [vA (.bin .add (.s 17) (cI 1)),mK 0 17]))))
def v26 : VFunc :=
 ⟨4,21,[.bx 4 6 true],(.seq (Rg [bX 1 9 14,vB 4 (.lal z6)])
 (.seq (.seq (Rg [lS 14 9,c1 37 0,vB 5 (.un .not (.l 1))])
 (.cond (.s 5) (Rg [vA (.call 38 [(cI 185)])])
 .skip))
 (.seq (.seq (Rg [fA 14 0,vB 15 (.lld (.lo 0) 1 false)])
 (.block 0 (.seq (Rg [vA (.bin .eql (.s 15) (.c (.i .u8 1))),mK 0 6])
 (.cond (.s 6) (.seq (Rg [fA 14 2,lP 0 6,sT 4 1 6])
 .ret)
 (.seq (Rg [vA (.bin .eql (.s 15) (.c (.i .u8 2))),mK 0 7])
 (.cond (.s 7) (.seq (Rg [mS 2,vA (.agc z6 [(0,1,(.c (.i .u8 4))),(5,1,(.l 0))]),sT 4 1 6])
 .ret)
 (.seq (Rg [vA (.bin .eql (.s 15) (.c (.i .u8 15))),mK 0 8])
 (.cond (.s 8) (.seq (Rg [mS 0,fA 14 8,lO 1 1,vA (.iad (.l 2) (cI 0) 9),lT 3 9,mS 2,mS 3,vA (.call 40 [(.l 0),(.l 4),(.l 5),(.l 6)]),mL 7,vG 8 true (.mov (.s 0)),vG 8 true (.lfa (.sl 14) 8),vG 8 true (.lld (.lo 10) 1 false),vG 8 true (.iad (.l 11) (cI 1) 9),vG 8 true (.ld (.l 12) 9 true),vG 8 true (.mov (.s 2)),vG 8 true (.mov (.s 3)),vG 8 true (.call 40 [(.l 9),(.l 13),(.l 14),(.l 15)]),vA (.pick (.l 8) (.l 16) (.c (.b false))),c1 39 17,sT 4 18 6])
 .ret)
 (.seq (Rg [vA (.bin .eql (.s 15) (.c (.i .u8 16))),mK 0 9])
 (.cond (.s 9) (.seq (Rg [mS 0,fA 14 8,lO 1 1,vA (.iad (.l 2) (cI 0) 9),lT 3 9,mS 2,mS 3,vA (.call 40 [(.l 0),(.l 4),(.l 5),(.l 6)]),mL 7,vG 8 false (.mov (.s 0)),vG 8 false (.lfa (.sl 14) 8),vG 8 false (.lld (.lo 10) 1 false),vG 8 false (.iad (.l 11) (cI 1) 9),vG 8 false (.ld (.l 12) 9 true),vG 8 false (.mov (.s 2)),vG 8 false (.mov (.s 3)),vG 8 false (.call 40 [(.l 9),(.l 13),(.l 14),(.l 15)]),vA (.pick (.l 8) (.c (.b true)) (.l 16)),c1 39 17,sT 4 18 6])
 .ret)
 (.seq (Rg [vA (.bin .eql (.s 15) (.c (.i .u8 18))),mK 0 10])
 (.cond (.s 10) (.seq (.seq (Rg [mS 0,fA 14 8,lO 1 1,vA (.iad (.l 2) (cI 0) 9),lT 3 9,mS 2,mS 3,vB 11 (.call 40 [(.l 0),(.l 4),(.l 5),(.l 6)])])
 (.cond (.s 11) (.seq (Rg [mS 0,fA 14 8,lO 1 1,vA (.iad (.l 2) (cI 1) 9),lT 3 9,mS 2,mS 3,vA (.call 26 [(.l 0),(.l 4),(.l 5),(.l 6)]),sT 4 7 6])
 .ret)
 .skip))
 (.seq (Rg [mS 0,fA 14 8,lO 1 1,vA (.iad (.l 2) (cI 2) 9),lT 3 9,mS 2,mS 3,vA (.call 26 [(.l 0),(.l 4),(.l 5),(.l 6)]),sT 4 7 6])
 .ret))
 .skip))))))))))))
 (.seq (Rg [vA (.mks (cI 0) (cI 3) 6 80 z6 true),mK 0 16])
 (.seq (.seq (Rg [fA 14 8,vB 19 (.lld (.lo 0) 1 false),vB 18 (.len 1 (.s 19)),mI 0 17])
 (.block 1 (.loop v26l0)))
 (.seq (.seq (Rg [fA 14 0,lO 0 1,vB 13 (.bin .eql (.l 1) (.c (.i .u8 5)))])
 (.cond (.s 13) (.seq (.reg [fA 14 1,lO 0 1,mS 16,vA (.iad (.l 2) (cI 0) 6),lT 3 6,mS 3,vA (.callp 41 [(.l 1),(.l 4),(.l 5)]),sT 4 6 6] (some false))
 .ret)
 .skip))
 (.seq (Rg [mS 0,fA 14 0,lO 1 1,fA 14 1,lO 3 1,fA 14 2,vA (.lfa (.lo 5) 5),lO 6 1,mS 16,mS 3,vA (.call 42 [(.l 0),(.l 2),(.l 4),(.l 7),(.l 8),(.l 9)]),sT 4 10 6])
 .ret))))))),false,false,none,false,none⟩
def v27l0 : VCode :=
 (.seq (.seq (Rg [mS 4,vB 3 (.bin .gtr (.l 0) (.c (.i .u64 0)))])
 (.cond (.s 3) .skip
 (.exit 0)))
 (.seq (.block 1 (Rg [fA 5 1,lO 0 1,mS 4,vA (.cvi .u16 (.l 2)),vA (.bsv 1 1 [(.i .u16 0)] [(0,(.l 3))]),vA (.app (.l 1) (.l 4) 1 2 true),fA 5 1,vA (.lst (.lo 6) (.l 5) 1)]))
 (Rg [mS 4,vA (.bin .shr (.l 0) (.c (.i .u64 16))),mK 1 4])))
def v27 : VFunc :=
 ⟨1,6,[.bx 1 2 true],(.seq (Rg [vB 1 (.lal [(.b false),.nil])])
 (.seq (Rg [mS 0,vA (.bin .lss (.l 0) (cI 0)),vA (.agc [(.b false),.nil] [(0,1,(.l 1))]),vB 5 (.lal [(.b false),.nil]),sT 5 2 2])
 (.seq (Rg [mS 0,vA (.cvi .u64 (.l 0)),mK 1 4])
 (.seq (.seq (Rg [mS 0,vB 2 (.bin .lss (.l 0) (cI 0))])
 (.cond (.s 2) (Rg [mS 4,vA (.un .neg (.l 0)),mK 1 4])
 .skip))
 (.seq (.block 0 (.loop v27l0))
 (.seq (Rg [lS 5 2,sT 1 0 2])
 .ret)))))),true,false,none,false,none⟩
def v28 : VFunc :=
 ⟨3,4,[.bx 3 6 true],(.seq (Rg [vB 3 (.lal z6)])
 (.seq (Rg [sD 0 1,sD 1 1,sD 2 1,vA (.call 29 [(.l 0),(.l 1),(.l 2)]),c1 25 3,sT 3 4 6])
 .ret)),false,false,none,false,none⟩
def v29 : VFunc :=
 ⟨3,9,[.bx 3 6 true],(.seq (Rg [vB 3 (.lal z6)])
 (.seq (.reg [mS 1,mS 2,vA (.agc [(.s []),(.i .i64 0)] [(0,1,(.l 0)),(1,1,(.l 1))]),vB 5 (.lal [(.s []),(.i .i64 0)]),sT 5 2 2] none)
 (.seq (.seq (.reg [mS 0,vA (.nck (.l 0)),fD 1 2,lD 2 1,lS 5 2,vA (.lk (.st [2,1]) (.l 3) (.l 4) true (.ag z6)),mL 5,xT 6 0,xT 6 1,vB 7 (.lal z6),sT 7 7 6,mK 8 6] (some false))
 (.seq (Rg [mT 6 4])
 (.cond (.s 4) (.seq (Rg [lS 7 6,sT 3 0 6])
 .ret)
 .skip)))
 (.seq (Rg [mS 0,lS 5 2,c2 43 0 1])
 (.seq (Rg [mS 0,vA (.nck (.l 0)),fD 1 0,lD 2 1,mS 1,mS 2,mS 0,vA (.mki 74 (.l 6)),vA (.call 44 [(.l 3),(.l 4),(.l 5),(.l 7)]),mL 8,xT 9 0,xT 9 1,vB 8 (.lal z6),sT 8 10 6,mL 11])
 (.seq (.reg [mS 0,vA (.nck (.l 0)),fD 1 2,lD 2 1,lS 5 2,lS 8 6,vA (.mup (.st [2,1]) (.l 3) (.l 4) (.l 5))] (some false))
 (.seq (Rg [lS 8 6,sT 3 0 6])
 .ret))))))),false,false,none,false,none⟩
def v30 : VFunc :=
 ⟨2,5,[.s 2],(.seq (Rg [bX 0 2 3,bX 1 2 4,mB false 2])
 (.seq (Rg [fA 3 0,lO 0 1,fA 4 0,lO 2 1,vA (.eqv false .b (.l 1) (.l 3)),mL 4,vG 5 true (.lfa (.sl 3) 1),vG 5 true (.lld (.lo 6) 1 false),vG 5 true (.lfa (.sl 4) 1),vG 5 true (.lld (.lo 8) 1 false),vG 5 true (.call 45 [(.l 7),(.l 9)]),vA (.pick (.l 5) (.l 10) (.c (.b false))),mK 11 2])
 .ret)),true,false,none,false,none⟩
def v31l0 : VCode :=
 (.seq (Rg [vB 6 (.bin .lss (.s 9) (.s 10))])
 (.seq (.cond (.s 6) .skip
 (.exit 0))
 (.seq (.block 1 (.seq (.reg [vA (.iad (.s 11) (.s 9) 9),lT 0 9,vB 12 (.lal z9),sT 12 1 9] none)
 (.seq (Rg [sD 3 1,lS 12 9,mS 1,vA (.bin .add (.l 2) (cI 1)),vA (.calv (.l 0) [(.l 1),(.l 3)]),vB 7 (.un .not (.l 4))])
 (.cond (.s 7) (.seq (Rg [mB false 4])
 .ret)
 .skip))))
 (Rg [vA (.bin .add (.s 9) (cI 1)),mK 0 9]))))
def v31 : VFunc :=
 ⟨4,13,[.s 4],(.seq (Rg [bX 0 9 8,mB false 4])
 (.seq (Rg [sD 2 1,vA (.bin .add (.l 0) (cI 1)),vA (.st (.s 2) (.l 1) 1)])
 (.seq (.seq (Rg [sD 2 1,vA (.bin .gtr (.l 0) (cI 200)),mL 1,vG 2 false (.mov (.s 1)),vG 2 false (.bin .gtr (.l 3) (cI 24)),vB 5 (.pick (.l 2) (.c (.b true)) (.l 4))])
 (.cond (.s 5) (.seq (Rg [mB false 4])
 .ret)
 .skip))
 (.seq (.seq (Rg [fA 8 8,vB 11 (.lld (.lo 0) 1 false),vB 10 (.len 1 (.s 11)),mI 0 9])
 (.block 0 (.loop v31l0)))
 (.seq (Rg [mB true 4])
 .ret))))),false,false,none,false,none⟩
def v32l0 : VCode :=
 (.seq (Rg [vB 3 (.bin .lss (.s 8) (.s 9))])
 (.seq (.cond (.s 3) .skip
 (.exit 0))
 (.seq (.block 1 (.seq (.reg [vA (.iad (.s 10) (.s 8) 24),lT 0 24,vB 11 (.lal [(.s []),(.s []),(.i .i64 0),(.i .i64 0),(.i .i64 0),(.b false),(.i .u8 0),(.s []),(.i .u8 0),(.b false),.nil,(.b false),.nil,(.i .i64 0),.nil,(.i .u8 0),(.s []),(.i .u8 0),(.b false),.nil,(.b false),.nil,(.i .i64 0),.nil]),sT 11 1 24] none)
 (.seq (Rg [fA 11 6,lP 0 9,c1 21 1,vA (.un .not (.l 2)),mL 3,vG 4 false (.lfa (.sl 11) 15),vG 4 false (.lld (.lo 5) 9 true),vG 4 false (.call 21 [(.l 6)]),vG 4 false (.un .not (.l 7)),vB 4 (.pick (.l 4) (.c (.b true)) (.l 8))])
 (.cond (.s 4) (.seq (Rg [mB false 1])
 .ret)
 .skip))))
 (Rg [vA (.bin .add (.s 8) (cI 1)),mK 0 8]))))
def v32l1 : VCode :=
 (.seq (Rg [vB 5 (.bin .lss (.s 12) (.s 13))])
 (.seq (.cond (.s 5) .skip
 (.exit 2))
 (.seq (.block 3 (.seq (.reg [vA (.iad (.s 14) (.s 12) 3),lT 0 3,vB 15 (.lal [(.s []),(.b false),.nil]),sT 15 1 3] none)
 (.seq (Rg [lS 15 3,c1 46 0,vB 6 (.un .not (.l 1))])
 (.cond (.s 6) (.seq (Rg [mB false 1])
 .ret)
 .skip))))
 (Rg [vA (.bin .add (.s 12) (cI 1)),mK 0 12]))))
def v32 : VFunc :=
 ⟨1,16,[.s 1],(.seq (Rg [bX 0 4 7,mB false 1])
 (.seq (.seq (Rg [fA 7 1,lO 0 1,nL 1 1,vA (.bin .gtr (.l 2) (cI 64)),mL 3,vG 4 false (.lfa (.sl 7) 3),vG 4 false (.lld (.lo 5) 1 false),vG 4 false (.len 1 (.l 6)),vG 4 false (.bin .gtr (.l 7) (cI 400)),vA (.pick (.l 4) (.c (.b true)) (.l 8)),mL 9,vG 10 false (.lfa (.sl 7) 2),vG 10 false (.lld (.lo 11) 1 false),vG 10 false (.len 1 (.l 12)),vG 10 false (.bin .gtr (.l 13) (cI 16)),vB 2 (.pick (.l 10) (.c (.b true)) (.l 14))])
 (.cond (.s 2) (.seq (Rg [mB false 1])
 .ret)
 .skip))
 (.seq (.seq (Rg [fA 7 3,vB 10 (.lld (.lo 0) 1 false),vB 9 (.len 1 (.s 10)),mI 0 8])
 (.block 0 (.loop v32l0)))
 (.seq (.seq (Rg [fA 7 2,vB 14 (.lld (.lo 0) 1 false),vB 13 (.len 1 (.s 14)),mI 0 12])
 (.block 2 (.loop v32l1)))
 (.seq (Rg [mB true 1])
 .ret))))),true,false,none,false,none⟩
def v33 : VFunc :=
 ⟨1,4,[.s 1],(.seq (Rg [mB false 1])
 (.seq (.seq (.reg [mS 0,nL 1 0,vA (.bin .gtr (.l 1) (cI 2000)),mL 2,vG 3 false (.mov (.s 0)),vG 3 false (.call 47 [(.l 4),(.c (.fn (.func 48) [] []))]),vB 2 (.pick (.l 3) (.c (.b true)) (.l 5))] none)
 (.cond (.s 2) (.seq (Rg [mB false 1])
 .ret)
 .skip))
 (.seq (Rg [mS 0,c1 50 0,mL 1,xT 2 0,xT 2 1,mL 3,mK 4 3])
 (.seq (Rg [mS 3,mK 0 1])
 .ret)))),true,false,none,false,none⟩
def v34l0 : VCode :=
 (.seq (Rg [vB 4 (.bin .lss (.s 10) (.s 11))])
 (.seq (.cond (.s 4) .skip
 (.exit 0))
 (.seq (.block 1 (.seq (.reg [vA (.iad (.s 12) (.s 10) 3),lT 0 3,vB 14 (.lal [(.s []),(.i .u8 0),(.b false)]),sT 14 1 3] none)
 (.seq (.reg [mS 13,vA (.nck (.l 0)),fD 1 5,lD 2 1,fA 14 0,lO 4 1,vA (.lk (.c 2) (.l 3) (.l 5) true (.i .u8 0)),mL 6,xT 7 0,xT 7 1,mL 8,mK 9 15] (some false))
 (.seq (Rg [mS 15,vA (.un .not (.l 0)),mL 1,vG 2 true (.lfa (.sl 14) 2),vG 2 true (.lld (.lo 3) 1 false),vG 2 true (.un .not (.l 4)),vB 5 (.pick (.l 2) (.l 5) (.c (.b false)))])
 (.cond (.s 5) (.reg [mS 13,vA (.nck (.l 0)),fD 1 5,lD 2 1,fA 14 0,lO 4 1,fA 14 1,lO 6 1,vA (.mup (.c 2) (.l 3) (.l 5) (.l 7))] (some false))
 .skip)))))
 (Rg [vA (.bin .add (.s 10) (cI 1)),mK 0 10]))))
def v34l1 : VCode :=
 (.seq (Rg [vB 6 (.bin .lss (.s 16) (.s 17))])
 (.seq (.cond (.s 6) .skip
 (.exit 2))
 (.seq (.block 3 (.seq (.reg [vA (.iad (.s 18) (.s 16) 11),lT 0 11,vB 19 (.lal [(.s []),(.i .i64 0),(.i .i64 0),(.i .i64 0),(.b false),(.i .u8 0),(.b false),.nil,(.b false),.nil,(.i .i64 0)]),sT 19 1 11] none)
 (.reg [mS 13,vA (.nck (.l 0)),fD 1 6,vA (.ldh (.l 2) 1 false),fA 19 0,lO 4 1,mS 13,vA (.nck (.l 6)),fD 7 6,vA (.ldh (.l 8) 1 false),fA 19 0,lO 10 1,vA (.lk (.c 2) (.l 9) (.l 11) false .nil),lS 19 11,vA (.bsv 11 1 [(.s []),(.i .i64 0),(.i .i64 0),(.i .i64 0),(.b false),(.i .u8 0),(.b false),.nil,(.b false),.nil,(.i .i64 0)] [(0,(.l 13))]),vA (.app (.l 12) (.l 14) 11 128 true),vA (.mup (.c 2) (.l 3) (.l 5) (.l 15))] (some false))))
 (Rg [vA (.bin .add (.s 16) (cI 1)),mK 0 16]))))
def v34l2 : VCode :=
 (.seq (Rg [vB 7 (.bin .lss (.s 20) (.s 21))])
 (.seq (.cond (.s 7) .skip
 (.exit 4))
 (.seq (.block 5 (.seq (.reg [vA (.iad (.s 22) (.s 20) 3),lT 0 3,vB 23 (.lal [(.s []),(.b false),.nil]),sT 23 1 3] none)
 (.seq (.reg [mS 13,vA (.nck (.l 0)),fD 1 8,lD 2 1,fA 23 0,lO 4 1,vA (.lk (.c 2) (.l 3) (.l 5) true (.ag [(.s []),(.b false),.nil])),mL 6,xT 7 0,xT 7 1,vB 25 (.lal [(.s []),(.b false),.nil]),sT 25 8 3,mK 9 24] (some false))
 (.seq (Rg [mS 24,vB 8 (.un .not (.l 0))])
 (.cond (.s 8) (.reg [mS 13,vA (.nck (.l 0)),fD 1 8,lD 2 1,fA 23 0,lO 4 1,lS 23 3,vA (.mup (.c 2) (.l 3) (.l 5) (.l 6))] (some false))
 .skip)))))
 (Rg [vA (.bin .add (.s 20) (cI 1)),mK 0 20]))))
def v34 : VFunc :=
 ⟨3,26,[.s 3],(.seq (Rg [bX 0 4 9,vB 3 (.mov (.c .np))])
 (.seq (.reg [lS 9 4,mS 2,vA (.mkm),vA (.mkm),vA (.mkm),vA (.mkm),vA (.mkm),vA (.agc [(.s []),.nil,.nil,.nil,(.i .i64 0),.mnil,.mnil,.mnil,.mnil,.mnil] [(0,4,(.l 0)),(4,1,(.l 1)),(5,1,(.l 2)),(6,1,(.l 3)),(7,1,(.l 4)),(8,1,(.l 5)),(9,1,(.l 6))]),vA (.hbx 127 (.l 7) 10),mK 8 13] none)
 (.seq (.seq (Rg [fA 9 1,vB 12 (.lld (.lo 0) 1 false),vB 11 (.len 1 (.s 12)),mI 0 10])
 (.block 0 (.loop v34l0)))
 (.seq (.seq (Rg [mT 1 18,vB 17 (.len 1 (.s 18)),mI 0 16])
 (.block 2 (.loop v34l1)))
 (.seq (.seq (Rg [fA 9 2,vB 22 (.lld (.lo 0) 1 false),vB 21 (.len 1 (.s 22)),mI 0 20])
 (.block 4 (.loop v34l2)))
 (.seq (Rg [mS 13,mK 0 3])
 .ret)))))),false,false,none,false,none⟩
def v36 : VFunc :=
 ⟨1,5,[.s 1],(.seq (Rg [mI 0 1])
 (.seq (.seq (Rg [mS 0,vA (.tas (.l 0) 131 true (.ag [(.i .i64 0)])),mL 1,xT 2 0,xT 2 1,vB 4 (.lal [(.i .i64 0)]),sT 4 3 1,mK 4 3])
 (.seq (Rg [mT 3 2])
 (.cond (.s 2) (.seq (Rg [fA 4 0,lO 0 1,mK 1 1])
 .ret)
 .skip)))
 (.seq (Rg [mI 2 1])
 .ret))),true,false,none,false,none⟩
def v37 : VFunc :=
 ⟨1,6,[.s 1],(.seq (Rg [bX 0 9 3,mB false 1])
 (.seq (.seq (Rg [fA 3 0,lO 0 1,vA (.bin .eql (.l 1) (.c (.i .u8 1))),mL 2,vG 3 true (.lfa (.sl 3) 2),vG 3 true (.lld (.lo 4) 6 true),vG 3 true (.call 51 [(.l 5)]),vG 3 true (.un .not (.l 6)),vB 2 (.pick (.l 3) (.l 7) (.c (.b false)))])
 (.cond (.s 2) (.seq (Rg [mB false 1])
 .ret)
 .skip))
 (.seq (Rg [fA 3 0,lO 0 1,c1 52 1,mL 2,xT 3 0,xT 3 1,mK 4 4,mK 5 5])
 (.seq (Rg [fA 3 8,lO 0 1,nL 1 1,mS 4,vA (.bin .geq (.l 2) (.l 3)),mL 4,vG 5 true (.lfa (.sl 3) 8),vG 5 true (.lld (.lo 6) 1 false),vG 5 true (.len 1 (.l 7)),vG 5 true (.mov (.s 5)),vG 5 true (.bin .leq (.l 8) (.l 9)),vA (.pick (.l 5) (.l 10) (.c (.b false))),mK 11 1])
 .ret)))),true,false,none,false,none⟩
def v38 : VFunc :=
 ⟨1,1,[],(Rg [mS 0,vA (.agc [(.i .i64 0)] [(0,1,(.l 0))]),vA (.mki 131 (.l 1)),vA (.pan (.l 2))]),true,false,none,false,none⟩
def v39 : VFunc :=
 ⟨1,4,[.bx 1 6 true],(.seq (Rg [vB 1 (.lal z6)])
 (.seq (Rg [vA (.agc z6 [(0,1,(.c (.i .u8 1)))]),vB 3 (.lal z6),sT 3 0 6])
 (.seq (.seq (Rg [mT 0 2])
 (.cond (.s 2) (Rg [fA 3 5,vA (.lst (.lo 0) (cI 1) 1)])
 .skip))
 (.seq (Rg [lS 3 6,sT 1 0 6])
 .ret)))),true,false,none,false,none⟩
def v40 : VFunc :=
 ⟨4,8,[.s 4],(.seq (Rg [bX 1 9 6,mB false 4])
 (.seq (Rg [mS 0,lS 6 9,mS 2,mS 3,vA (.call 26 [(.l 0),(.l 1),(.l 2),(.l 3)]),vB 7 (.lal z6),sT 7 4 6])
 (.seq (.seq (Rg [fA 7 0,lO 0 1,vB 5 (.bin .neq (.l 1) (.c (.i .u8 1)))])
 (.cond (.s 5) (Rg [vA (.call 38 [(cI 185)])])
 .skip))
 (.seq (Rg [fA 7 5,lO 0 1,vA (.bin .eql (.l 1) (cI 1)),mK 2 4])
 .ret)))),false,false,none,false,none⟩
def v41 : VFunc :=
 ⟨3,6,[.bx 3 6 true],(.seq (Rg [bX 1 6 5,vB 3 (.lal z6)])
 (.seq (.seq (Rg [fA 5 0,lO 0 1,vB 4 (.bin .neq (.l 1) (.c (.i .u8 4)))])
 (.cond (.s 4) (Rg [vA (.call 38 [(cI 185)])])
 .skip))
 (.seq (Rg [mS 2,mS 0,fA 5 5,lO 2 1,vA (.inv (.l 0) "Pair" [(.l 1),(.l 3)]),sT 3 4 6])
 .ret))),false,false,none,false,none⟩
def v42 : VFunc :=
 ⟨6,25,[.bx 6 6 true],(.seq (Rg [vB 6 (.lal z6)])
 (.seq (.seq (Rg [mS 1,mS 4,c2 53 0 1,vB 7 (.un .not (.l 2))])
 (.cond (.s 7) (Rg [vA (.call 38 [(cI 185)])])
 .skip))
 (.seq (Rg [mS 4,vA (.iad (.l 0) (cI 0) 6),lT 1 6,vB 19 (.lal z6),sT 19 2 6])
 (.seq (.seq (Rg [mT 1 18])
 (.block 0 (.seq (.seq (Rg [vA (.bin .eql (.s 18) (.c (.i .u8 3))),mK 0 8])
 (.cond (.s 8) .skip
 (Rg [vA (.bin .eql (.s 18) (.c (.i .u8 4))),mK 0 8])))
 (.cond (.s 8) (.seq (Rg [mS 0,mS 1,mS 2,fA 19 5,lO 3 1,mS 5,vA (.call 54 [(.l 0),(.l 1),(.l 2),(.l 4),(.l 5)]),sT 6 6 6])
 .ret)
 (.seq (Rg [vA (.bin .eql (.s 18) (.c (.i .u8 6))),mK 0 9])
 (.cond (.s 9) (.seq (Rg [mS 0,mS 2,mS 4,mS 5,vA (.call 55 [(.l 0),(.l 1),(.l 2),(.l 3)]),sT 6 4 6])
 .ret)
 (.seq (.seq (Rg [vA (.bin .eql (.s 18) (.c (.i .u8 21))),mK 0 10])
 (.cond (.s 10) .skip
 (Rg [vA (.bin .eql (.s 18) (.c (.i .u8 22))),mK 0 10])))
 (.cond (.s 10) (.seq (Rg [mS 0,mS 1,mS 2,mS 4,mS 5,vA (.call 56 [(.l 0),(.l 1),(.l 2),(.l 3),(.l 4)]),sT 6 5 6])
 .ret)
 (.seq (Rg [vA (.bin .eql (.s 18) (.c (.i .u8 23))),mK 0 11])
 (.cond (.s 11) (.seq (.reg [mS 0,mS 2,fA 19 5,lO 2 1,mS 4,vA (.iad (.l 4) (cI 1) 6),fD 5 5,lD 6 1,mS 5,vA (.callp 57 [(.l 0),(.l 1),(.l 3),(.l 7),(.l 8)]),sT 6 9 6] (some false))
 .ret)
 (.seq (Rg [vA (.bin .eql (.s 18) (.c (.i .u8 17))),mK 0 12])
 (.cond (.s 12) (.seq (Rg [fA 19 5,lO 0 1,vA (.bin .eql (.l 1) (cI 0)),c1 39 2,sT 6 3 6])
 .ret)
 (.seq (Rg [vA (.bin .eql (.s 18) (.c (.i .u8 24))),mK 0 13])
 (.cond (.s 13) (.seq (Rg [fA 19 1,lP 0 4,c1 58 1,mL 2,xT 3 0,xT 3 1,mK 4 21,mK 5 20])
 (.seq (Rg [mS 20,c1 59 0])
 (.seq (Rg [mS 21,vA (.call 60 [(.c (.i .u8 6)),(.l 0)]),sT 6 1 6])
 .ret)))
 (.seq (Rg [vA (.bin .eql (.s 18) (.c (.i .u8 25))),mK 0 14])
 (.cond (.s 14) (.seq (.seq (Rg [fA 19 0,lO 0 1,vA (.bin .eql (.l 1) (.c (.i .u8 2))),mL 2,vG 3 false (.lfa (.sl 19) 0),vG 3 false (.lld (.lo 4) 1 false),vG 3 false (.bin .eql (.l 5) (.c (.i .u8 3))),vB 15 (.pick (.l 3) (.c (.b true)) (.l 6))])
 (.cond (.s 15) (.seq (Rg [fA 19 1,lP 0 4,vA (.agc z6 [(0,1,(.c (.i .u8 2))),(1,4,(.l 1))]),sT 6 2 6])
 .ret)
 .skip))
 (.seq (Rg [fA 19 5,lO 0 1,c1 61 1,vA (.agc z6 [(0,1,(.c (.i .u8 2))),(1,4,(.l 2))]),sT 6 3 6])
 .ret))
 (.seq (Rg [vA (.bin .eql (.s 18) (.c (.i .u8 26))),mK 0 16])
 (.cond (.s 16) (.seq (Rg [fA 19 5,lO 0 1,c1 62 1,mL 2,xT 3 0,xT 3 1,mK 4 23,mK 5 22])
 (.seq (Rg [mS 22,c1 59 0])
 (.seq (Rg [mS 23,c1 63 0,mL 1,xT 2 0,xT 2 1,mK 3 24,mK 4 22])
 (.seq (Rg [mS 22,c1 59 0])
 (.seq (Rg [mS 24,c1 64 0,sT 6 1 6])
 .ret)))))
 (.seq (Rg [vA (.bin .eql (.s 18) (.c (.i .u8 19))),mK 0 17])
 (.cond (.s 17) (.seq (.reg [lS 19 6,mS 4,vA (.iad (.l 1) (cI 1) 6),lT 2 6,mS 3,vA (.callp 65 [(.l 0),(.l 3),(.l 4)]),sT 6 5 6] (some false))
 .ret)
 .skip))))))))))))))))))))
 (.seq (.reg [mS 1,lS 19 6,mS 4,vA (.iad (.l 2) (cI 1) 6),lT 3 6,vA (.callp 66 [(.l 0),(.l 1),(.l 4)]),sT 6 5 6] (some false))
 .ret))))),false,false,none,false,none⟩
def v43 : VFunc :=
 ⟨2,7,[],(.seq (Rg [bX 1 2 5])
 (.seq (.seq (.reg [mS 0,vA (.nck (.l 0)),fD 1 1,lD 2 1,lS 5 2,vB 2 (.lk (.st [2,1]) (.l 3) (.l 4) false (.b false))] (some false))
 (.cond (.s 2) (Rg [vA (.call 38 [(cI 186)])])
 .skip))
 (.seq (.reg [mS 0,mS 0,vA (.nck (.l 1)),fD 2 5,fD 3 0,lD 4 1,lS 5 2,vA (.bsv 2 1 [(.s []),(.i .i64 0)] [(0,(.l 6))]),vA (.app (.l 5) (.l 7) 2 24 true),vA (.nck (.l 0)),fD 9 5,fD 10 0,vA (.st (.l 11) (.l 8) 1)] (some false))
 (.seq (.seq (Rg [mS 0,vA (.nck (.l 0)),fD 1 1,lD 2 1,nL 2 3,vB 3 (.bin .eql (.l 4) (cI 4096))])
 (.cond (.s 3) (Rg [vA (.call 38 [(cI 5)])])
 .skip))
 (.seq (.reg [mS 0,vA (.nck (.l 0)),fD 1 1,lD 2 1,lS 5 2,vA (.mup (.st [2,1]) (.l 3) (.l 4) (.c (.b true)))] (some false))
 (.seq (.reg [mS 0,vA (.nck (.l 0)),fD 1 0,lD 2 1,fA 5 0,lO 4 1,vA (.callp 67 [(.l 3),(.l 5)]),mL 6,xT 7 0,xT 7 1,mL 8,mK 9 6] (some false))
 (.seq (Rg [mS 6,vB 4 (.un .not (.l 0))])
 (.cond (.s 4) (Rg [vA (.call 38 [(cI 6)])])
 .skip)))))))),false,false,none,false,none⟩
def v44 : VFunc :=
 ⟨4,11,[.bx 4 6 true,.s 5],(.seq (Rg [vB 4 (.lal z6),mI 0 5])
 (.seq (Rg [mS 0,mS 1,mS 2,mS 3,vA (.call 68 [(.l 0),(.l 1),(.l 2),(.l 3)]),mK 4 7])
 (.seq (Rg [mS 0,mS 0,vA (.nck (.l 1)),fD 2 0,fD 3 3,lD 4 1,mS 7,iA 5 6 24,fD 7 15,lT 8 9,mS 2,mS 3,vA (.call 26 [(.l 0),(.l 9),(.l 10),(.l 11)]),vB 9 (.lal z6),sT 9 12 6])
 (.seq (.seq (Rg [mS 0,mS 1,c2 67 0 1,mL 2,xT 3 0,xT 3 1,mK 4 10,mK 5 8])
 (.seq (Rg [mS 8,vA (.un .not (.l 0)),mL 1,vG 2 false (.lfa (.sl 9) 0),vG 2 false (.lld (.lo 3) 1 false),vG 2 false (.mov (.s 10)),vG 2 false (.bin .neq (.l 4) (.l 5)),vB 6 (.pick (.l 2) (.c (.b true)) (.l 6))])
 (.cond (.s 6) (Rg [vA (.call 38 [(cI 185)])])
 .skip)))
 (.seq (Rg [lS 9 6,mS 7,sT 4 0 6,mK 1 5])
 .ret))))),false,false,none,false,none⟩
def v45l0 : VCode :=
 (.seq (.seq (Rg [mS 6,mS 0,nL 1 1,vB 4 (.bin .lss (.l 0) (.l 2))])
 (.cond (.s 4) .skip
 (.exit 0)))
 (.seq (.block 1 (.seq (.reg [mS 0,mS 6,iA 0 1 1,lD 2 1,mS 1,mS 6,iA 4 5 1,lD 6 1,vB 5 (.bin .neq (.l 3) (.l 7))] (some false))
 (.cond (.s 5) (.seq (Rg [mB false 2])
 .ret)
 .skip)))
 (Rg [mS 6,vA (.bin .add (.l 0) (cI 1)),mK 1 6])))
def v45 : VFunc :=
 ⟨2,7,[.s 2],(.seq (Rg [mB false 2])
 (.seq (.seq (Rg [mS 0,nL 1 0,mS 1,nL 1 2,vB 3 (.bin .neq (.l 1) (.l 3))])
 (.cond (.s 3) (.seq (Rg [mB false 2])
 .ret)
 .skip))
 (.seq (.seq (Rg [mI 0 6])
 (.block 0 (.loop v45l0)))
 (.seq (Rg [mB true 2])
 .ret)))),true,false,none,false,none⟩
def v47 : VFunc :=
 ⟨2,3,[.s 2],(.seq (Rg [mB false 2])
 (.seq (Rg [mS 0,mS 1,c2 74 0 1,vA (.bin .geq (.l 2) (cI 0)),mK 3 2])
 .ret)),false,false,none,false,none⟩
def v48 : VFunc :=
 ⟨1,3,[.s 1],(.seq (Rg [bX 0 11 2,mB false 1])
 (.seq (Rg [lS 2 11,c1 49 0,vA (.un .not (.l 1)),mK 2 1])
 .ret)),true,false,none,false,none⟩
def v49 : VFunc :=
 ⟨1,5,[.s 1],(.seq (Rg [bX 0 11 4,mB false 1])
 (.seq (.seq (Rg [fA 4 0,lO 0 1,nL 0 1,vA (.bin .lss (.l 2) (cI 1)),mL 3,vG 4 false (.lfa (.sl 4) 0),vG 4 false (.lld (.lo 5) 1 false),vG 4 false (.len 0 (.l 6)),vG 4 false (.bin .gtr (.l 7) (cI 24)),vA (.pick (.l 4) (.c (.b true)) (.l 8)),mL 9,vG 10 false (.lfa (.sl 4) 1),vG 10 false (.lld (.lo 11) 1 false),vG 10 false (.bin .lss (.l 12) (cI 0)),vA (.pick (.l 10) (.c (.b true)) (.l 13)),mL 14,vG 15 false (.lfa (.sl 4) 1),vG 15 false (.lld (.lo 16) 1 false),vG 15 false (.lfa (.sl 4) 2),vG 15 false (.lld (.lo 18) 1 false),vG 15 false (.bin .geq (.l 17) (.l 19)),vA (.pick (.l 15) (.c (.b true)) (.l 20)),mL 21,vG 22 false (.lfa (.sl 4) 2),vG 22 false (.lld (.lo 23) 1 false),vG 22 false (.bin .gtr (.l 24) (cI 65536)),vA (.pick (.l 22) (.c (.b true)) (.l 25)),mL 26,vG 27 false (.lfa (.sl 4) 3),vG 27 false (.lld (.lo 28) 1 false),vG 27 false (.call 75 [(.l 29)]),vG 27 false (.un .not (.l 30)),vB 2 (.pick (.l 27) (.c (.b true)) (.l 31))])
 (.cond (.s 2) (.seq (Rg [mB false 1])
 .ret)
 .skip))
 (.seq (.seq (Rg [fA 4 4,vB 3 (.lld (.lo 0) 1 false)])
 (.cond (.s 3) (.seq (Rg [fA 4 5,lP 0 6,vA (.agc z6 []),c2 76 1 2,mK 3 1])
 .ret)
 .skip))
 (.seq (Rg [fA 4 5,lP 0 6,c1 51 1,mK 2 1])
 .ret)))),true,false,none,false,none⟩
def v50l0 : VCode :=
 (.seq (Rg [vB 3 (.bin .lss (.s 5) (.s 6))])
 (.seq (.cond (.s 3) .skip
 (.exit 0))
 (.seq (.block 1 (.seq (.reg [vA (.iad (.s 7) (.s 5) 11),lT 0 11,vB 9 (.lal [(.s []),(.i .i64 0),(.i .i64 0),(.i .i64 0),(.b false),(.i .u8 0),(.b false),.nil,(.b false),.nil,(.i .i64 0)]),sT 9 1 11] none)
 (.seq (Rg [mS 8,fA 9 0,lO 1 1,vA (.lk (.c 2) (.l 0) (.l 2) false (.i .u8 0)),mK 3 10])
 (.seq (.seq (Rg [mS 10,vA (.bin .neq (.l 0) (.c (.i .u8 0))),mL 1,vG 2 true (.lfa (.sl 9) 4),vG 2 true (.lld (.lo 3) 1 false),vG 2 true (.un .not (.l 4)),vA (.pick (.l 2) (.l 5) (.c (.b false))),mL 6,vG 7 true (.mov (.s 10)),vG 7 true (.lfa (.sl 9) 5),vG 7 true (.lfa (.lo 9) 0),vG 7 true (.lld (.lo 10) 1 false),vG 7 true (.bin .neq (.l 8) (.l 11)),vB 4 (.pick (.l 7) (.l 12) (.c (.b false)))])
 (.cond (.s 4) (.seq (Rg [vB 1 (.mov (.c .mnil)),mB false 2])
 .ret)
 .skip))
 (Rg [mS 8,fA 9 0,lO 1 1,mS 10,fA 9 5,vA (.lfa (.lo 4) 0),lO 5 1,vA (.mx [(.l 3),(.l 6)]),vA (.mup (.c 2) (.l 0) (.l 2) (.l 7))])))))
 (Rg [vA (.bin .add (.s 5) (cI 1)),mK 0 5]))))
def v50 : VFunc :=
 ⟨1,11,[.s 1,.s 2],(.seq (Rg [vB 1 (.mov (.c .mnil)),mB false 2])
 (.seq (Rg [vA (.mkm),mK 0 8])
 (.seq (.seq (Rg [mT 0 7,vB 6 (.len 1 (.s 7)),mI 0 5])
 (.block 0 (.loop v50l0)))
 (.seq (Rg [mS 8,mK 0 1,mB true 2])
 .ret)))),false,false,none,false,none⟩
def v51 : VFunc :=
 ⟨1,8,[.s 1],(.seq (Rg [bX 0 6 6,mB false 1])
 (.seq (.seq (Rg [fA 6 0,vB 7 (.lld (.lo 0) 1 false)])
 (.block 0 (.seq (.seq (Rg [vA (.bin .eql (.s 7) (.c (.i .u8 2))),mK 0 2])
 (.cond (.s 2) .skip
 (Rg [vA (.bin .eql (.s 7) (.c (.i .u8 3))),mK 0 2])))
 (.cond (.s 2) (.seq (Rg [fA 6 5,lO 0 1,vA (.bin .eql (.l 1) (cI 0)),mL 2,vG 3 true (.lfa (.sl 6) 1),vG 3 true (.lld (.lo 4) 4 true),vG 3 true (.call 77 [(.l 5)]),vA (.pick (.l 3) (.l 6) (.c (.b false))),mK 7 1])
 .ret)
 (.seq (Rg [vA (.bin .eql (.s 7) (.c (.i .u8 1))),mK 0 3])
 (.cond (.s 3) (.seq (Rg [fA 6 1,lP 0 4,vA (.agc z4 []),c2 78 1 2,mL 3,vG 4 true (.lfa (.sl 6) 5),vG 4 true (.lld (.lo 5) 1 false),vG 4 true (.bin .leq (cI 0) (.l 6)),vA (.pick (.l 4) (.l 7) (.c (.b false))),mL 8,vG 9 true (.lfa (.sl 6) 5),vG 9 true (.lld (.lo 10) 1 false),vG 9 true (.bin .leq (.l 11) (cI 1)),vA (.pick (.l 9) (.l 12) (.c (.b false))),mK 13 1])
 .ret)
 (.seq (Rg [vA (.bin .eql (.s 7) (.c (.i .u8 4))),mK 0 4])
 (.cond (.s 4) (.seq (Rg [fA 6 1,lP 0 4,vA (.agc z4 []),c2 78 1 2,mL 3,vG 4 true (.lfa (.sl 6) 5),vG 4 true (.lld (.lo 5) 1 false),vG 4 true (.bin .leq (cI 0) (.l 6)),vA (.pick (.l 4) (.l 7) (.c (.b false))),mL 8,vG 9 true (.lfa (.sl 6) 5),vG 9 true (.lld (.lo 10) 1 false),vG 9 true (.bin .lss (.l 11) (cI 65536)),vA (.pick (.l 9) (.l 12) (.c (.b false))),mK 13 1])
 .ret)
 (.seq (.seq (Rg [vA (.bin .eql (.s 7) (.c (.i .u8 5))),mK 0 5])
 (.cond (.s 5) .skip
 (Rg [vA (.bin .eql (.s 7) (.c (.i .u8 6))),mK 0 5])))
 (.cond (.s 5) (.seq (Rg [fA 6 1,lP 0 4,vA (.agc z4 []),c2 78 1 2,mL 3,vG 4 true (.lfa (.sl 6) 5),vG 4 true (.lld (.lo 5) 1 false),vG 4 true (.bin .leq (cI (-1048576)) (.l 6)),vA (.pick (.l 4) (.l 7) (.c (.b false))),mL 8,vG 9 true (.lfa (.sl 6) 5),vG 9 true (.lld (.lo 10) 1 false),vG 9 true (.bin .leq (.l 11) (cI 1048576)),vA (.pick (.l 9) (.l 12) (.c (.b false))),mK 13 1])
 .ret)
 .skip))))))))))
 (.seq (Rg [mB false 1])
 .ret))),true,false,none,false,none⟩
def v52 : VFunc :=
 ⟨1,11,[.s 1,.s 2],(.seq (Rg [mI 0 1,mI 0 2])
 (.seq (.seq (Rg [mT 0 9])
 (.block 0 (.seq (.seq (Rg [vA (.bin .eql (.s 9) (.c (.i .u8 1))),mK 0 3])
 (.cond (.s 3) .skip
 (Rg [vA (.bin .eql (.s 9) (.c (.i .u8 2))),mK 0 3])))
 (.cond (.s 3) (.seq (Rg [mI 0 1,mI 0 2])
 .ret)
 (.seq (Rg [vA (.bin .eql (.s 9) (.c (.i .u8 5))),mK 0 4])
 (.cond (.s 4) (.seq (Rg [mI 1 1,mI 1 2])
 .ret)
 (.seq (Rg [vA (.bin .eql (.s 9) (.c (.i .u8 6))),mK 0 5])
 (.cond (.s 5) (.seq (Rg [mI 1 1,mI 2 2])
 .ret)
 (.seq (.seq (Rg [vA (.bin .eql (.s 9) (.c (.i .u8 15))),mK 0 6])
 (.cond (.s 6) .skip
 (Rg [vA (.bin .eql (.s 9) (.c (.i .u8 16))),mK 0 6])))
 (.cond (.s 6) (.seq (Rg [mI 2 1,mI 2 2])
 .ret)
 (.seq (Rg [vA (.bin .eql (.s 9) (.c (.i .u8 18))),mK 0 7])
 (.cond (.s 7) (.seq (Rg [mI 3 1,mI 3 2])
 .ret)
 .skip))))))))))))
 (.seq (.seq (Rg [mS 0,vA (.cvi .i64 (.l 0)),vA (.bin .geq (.l 1) (cI 27)),mL 2,vG 3 false (.mov (.s 0)),vG 3 false (.gia 0 (.l 4) 27 1),vG 3 false (.ld (.l 5) 1 false),vG 3 false (.bin .eql (.l 6) (.c (.s []))),vB 8 (.pick (.l 3) (.c (.b true)) (.l 7))])
 (.cond (.s 8) (.seq (Rg [mI 1 1,mI 0 2])
 .ret)
 .skip))
 (.seq (.reg [mS 0,vA (.gia 0 (.l 0) 27 1),lD 1 1,vA (.call 79 [(.l 2),(.c (.s [32]))]),mL 3,xT 4 0,xT 4 1,xT 4 2,mK 5 10,mL 6,mL 7] none)
 (.seq (Rg [mS 10,nL 0 0,mS 10,nL 0 2,mK 1 1,mK 3 2])
 .ret))))),true,false,none,false,none⟩
def v53l0 : VCode :=
 (.seq (.seq (Rg [mS 9,mL 0,vG 1 true (.mov (.s 10)),vG 1 true (.mov (.s 1)),vG 1 true (.len 1 (.l 3)),vG 1 true (.bin .lss (.l 2) (.l 4)),vB 5 (.pick (.l 1) (.l 5) (.c (.b false)))])
 (.cond (.s 5) .skip
 (.exit 2)))
 (.seq (.block 3 (.reg [mS 8,mS 10,vA (.ixs (.l 0) (.l 1)),vA (.bin .sub (.l 2) (.c (.i .u8 48))),mS 1,mS 10,iA 4 5 6,fD 6 0,lD 7 1,vA (.bin .eql (.l 3) (.l 8)),mK 9 9] (some false)))
 (Rg [mS 10,vA (.bin .add (.l 0) (cI 1)),mK 1 10])))
def v53l1 : VCode :=
 (.seq (.seq (Rg [mS 7,vB 4 (.bin .neq (.l 0) (.c (.s [])))])
 (.cond (.s 4) .skip
 (.exit 0)))
 (.block 1 (.seq (Rg [vB 8 (.mov (.c (.s [])))])
 (.seq (.reg [mS 7,vA (.call 79 [(.l 0),(.c (.s [32]))]),mL 1,xT 2 0,xT 2 1,xT 2 2,mK 3 8,mK 4 7] none)
 (.seq (Rg [mS 8,nL 0 0,mS 1,nL 1 2,vA (.bin .eql (.l 1) (.l 3)),mK 4 9])
 (.seq (.seq (Rg [mI 0 10])
 (.block 2 (.loop v53l0)))
 (.seq (Rg [mT 9 6])
 (.cond (.s 6) (.seq (Rg [mB true 2])
 .ret)
 .skip))))))))
def v53 : VFunc :=
 ⟨2,11,[.s 2],(.seq (Rg [mB false 2])
 (.seq (.seq (Rg [mS 0,vA (.cvi .i64 (.l 0)),vA (.bin .geq (.l 1) (cI 27)),mL 2,vG 3 false (.mov (.s 1)),vG 3 false (.len 1 (.l 4)),vG 3 false (.bin .eql (.l 5) (cI 0)),vB 3 (.pick (.l 3) (.c (.b true)) (.l 6))])
 (.cond (.s 3) (.seq (Rg [mB false 2])
 .ret)
 .skip))
 (.seq (Rg [mS 0,vA (.gia 0 (.l 0) 27 1),lD 1 1,mK 2 7])
 (.seq (.block 0 (.loop v53l1))
 (.seq (Rg [mB false 2])
 .ret))))),true,false,none,false,none⟩
def v54 : VFunc :=
 ⟨5,12,[.bx 5 6 true],(.seq (Rg [vB 8 (.hbx 3 (.s 3) 1),vB 5 (.lal z6)])
 (.seq (Rg [mS 4,mS 2,sD 8 1,sD 8 1,vA (.bin .add (.l 3) (cI 1)),vA (.inv (.l 0) "Fact" [(.l 1),(.l 2),(.l 4)])])
 (.seq (Rg [mS 0,mS 2,c2 80 0 1,vB 9 (.hal 165 [.nil]),vA (.st (.s 9) (.l 2) 1)])
 (.seq (Rg [sD 9 1,nL 1 0,vA (.mkf (.func 82) [] [(.s 9),(.s 8)]),c2 81 1 2,mK 3 10])
 (.seq (.reg [mS 10,sD 9 1,nL 1 1,vA (.bin .lss (.l 0) (.l 2)),mL 3,vG 4 true (.ld (.s 9) 1 false),vG 4 true (.mov (.s 10)),vG 4 true (.iad (.l 5) (.l 6) 8),vG 4 true (.fad (.l 7) 0),vG 4 true (.ld (.l 8) 1 false),vG 4 true (.ld (.s 8) 1 false),vG 4 true (.bin .leq (.l 9) (.l 10)),vA (.pick (.l 4) (.l 11) (.c (.b false))),mK 12 11] (some false))
 (.seq (.block 0 (.seq (Rg [mS 1,vA (.bin .eql (.l 0) (.c (.i .u8 4))),mK 1 6])
 (.cond (.s 6) (.seq (Rg [mS 11,c1 39 0,sT 5 1 6])
 .ret)
 (.seq (Rg [mS 11,vA (.un .not (.l 0)),mK 1 7])
 (.cond (.s 7) (Rg [vA (.call 38 [(cI 182)])])
 .skip)))))
 (.seq (Rg [sD 9 1,mS 10,iA 0 1 8,fD 2 2,lT 3 6,sT 5 4 6])
 .ret))))))),false,false,none,false,none⟩
def v59 : VFunc :=
 ⟨1,2,[],(.seq (Rg [mS 0,vB 1 (.bin .neq (.l 0) (cI 0))])
 (.cond (.s 1) (Rg [mS 0,c1 38 0])
 .skip)),true,false,none,false,none⟩
def v64 : VFunc :=
 ⟨1,3,[.bx 1 6 true],(.seq (Rg [vB 1 (.lal z6)])
 (.seq (.seq (Rg [mS 0,vA (.bin .lss (.l 0) (cI 0)),mL 1,vG 2 false (.mov (.s 0)),vG 2 false (.bin .geq (.l 3) (cI 65536)),vB 2 (.pick (.l 2) (.c (.b true)) (.l 4))])
 (.cond (.s 2) (Rg [vA (.call 38 [(cI 30)])])
 .skip))
 (.seq (Rg [mS 0,vA (.agc z6 [(0,1,(.c (.i .u8 4))),(5,1,(.l 0))]),sT 1 1 6])
 .ret))),true,false,none,false,none⟩
def v66 : VFunc :=
 ⟨3,23,[.bx 3 6 true],(.seq (Rg [bX 1 6 15,bX 2 6 16,vB 3 (.lal z6)])
 (.seq (.seq (Rg [mT 0 14])
 (.block 0 (.seq (.seq (Rg [vA (.bin .eql (.s 14) (.c (.i .u8 7))),mK 0 4])
 (.cond (.s 4) .skip
 (Rg [vA (.bin .eql (.s 14) (.c (.i .u8 8))),mK 0 4])))
 (.cond (.s 4) (.seq (Rg [mS 0,lS 15 6,lS 16 6,vA (.call 99 [(.l 0),(.l 1),(.l 2)]),sT 3 3 6])
 .ret)
 (.seq (Rg [vA (.bin .eql (.s 14) (.c (.i .u8 9))),mK 0 5])
 (.cond (.s 5) (.seq (Rg [fA 15 1,lP 0 4,fA 16 1,lP 2 4,c2 100 1 3,mL 4,xT 5 0,xT 5 1,vB 18 (.lal z4),sT 18 6 4,mK 7 17])
 (.seq (Rg [mS 17,c1 59 0])
 (.seq (Rg [fA 15 0,lO 0 1,fA 16 0,lO 2 1,vA (.mx [(.l 1),(.l 3)]),lS 18 4,vA (.agc z6 [(0,1,(.l 4)),(1,4,(.l 5))]),sT 3 6 6])
 .ret)))
 (.seq (Rg [vA (.bin .eql (.s 14) (.c (.i .u8 10))),mK 0 6])
 (.cond (.s 6) (.seq (.seq (.reg [fA 16 1,lP 0 4,vA (.call 61 [(cI 0)]),c2 97 1 2,vB 7 (.bin .eql (.l 3) (cI 0))] (some false))
 (.cond (.s 7) (Rg [vA (.call 38 [(cI 181)])])
 .skip))
 (.seq (Rg [fA 15 1,lP 0 4,fA 16 1,lP 2 4,c2 101 1 3,mL 4,xT 5 0,xT 5 1,vB 20 (.lal z4),sT 20 6 4,mK 7 19])
 (.seq (Rg [mS 19,c1 59 0])
 (.seq (.seq (Rg [fA 15 0,lO 0 1,fA 16 0,lO 2 1,vB 8 (.bin .eql (.l 1) (.l 3))])
 (.cond (.s 8) (.seq (Rg [lS 20 4,vA (.agc z6 [(0,1,(.c (.i .u8 2))),(1,4,(.l 0))]),sT 3 1 6])
 .ret)
 .skip))
 (.seq (Rg [lS 20 4,vA (.agc z6 [(0,1,(.c (.i .u8 3))),(1,4,(.l 0))]),sT 3 1 6])
 .ret)))))
 (.seq (.seq (Rg [vA (.bin .eql (.s 14) (.c (.i .u8 11))),mK 0 9])
 (.cond (.s 9) .skip
 (Rg [vA (.bin .eql (.s 14) (.c (.i .u8 12))),mK 0 9])))
 (.cond (.s 9) (.seq (.seq (Rg [lS 15 6,lS 16 6,c2 102 0 1,vA (.bin .leq (.l 2) (cI 0)),mS 0,vA (.bin .eql (.l 4) (.c (.i .u8 11))),vB 10 (.eqv false .b (.l 3) (.l 5))])
 (.cond (.s 10) (.seq (Rg [lS 15 6,sT 3 0 6])
 .ret)
 .skip))
 (.seq (Rg [lS 16 6,sT 3 0 6])
 .ret))
 (.seq (Rg [vA (.bin .eql (.s 14) (.c (.i .u8 13))),mK 0 11])
 (.cond (.s 11) (.seq (Rg [lS 15 6,lS 16 6,c2 102 0 1,vA (.bin .lss (.l 2) (cI 0)),c1 39 3,sT 3 4 6])
 .ret)
 (.seq (Rg [vA (.bin .eql (.s 14) (.c (.i .u8 14))),mK 0 12])
 (.cond (.s 12) (.seq (Rg [lS 15 6,lS 16 6,c2 76 0 1,c1 39 2,sT 3 3 6])
 .ret)
 (.seq (Rg [vA (.bin .eql (.s 14) (.c (.i .u8 20))),mK 0 13])
 (.cond (.s 13) (.seq (Rg [fA 15 5,lO 0 1,fA 16 5,lO 2 1,c2 103 1 3,mL 4,xT 5 0,xT 5 1,mK 6 22,mK 7 21])
 (.seq (Rg [mS 21,c1 59 0])
 (.seq (Rg [mS 22,vA (.call 60 [(.c (.i .u8 6)),(.l 0)]),sT 3 1 6])
 .ret)))
 .skip))))))))))))))))
 (.seq (Rg [vA (.call 38 [(cI 185)])])
 (.seq (Rg [vA (.agc z6 []),sT 3 0 6])
 .ret)))),true,false,none,false,none⟩
def v67 : VFunc :=
 ⟨2,6,[.s 2,.s 3],(.seq (Rg [vB 2 (.mov (.c (.i .u8 0))),mB false 3])
 (.seq (Rg [mS 0,vA (.nck (.l 0)),fD 1 5,lD 2 1,mS 1,vA (.lk (.c 2) (.l 3) (.l 4) true (.i .u8 0)),mL 5,xT 6 0,xT 6 1,mK 7 4,mK 8 5])
 (.seq (Rg [mS 4,mS 5,mK 0 2,mK 1 3])
 .ret))),false,false,none,false,none⟩
def v68l0 : VCode :=
 (.seq (Rg [vB 5 (.bin .lss (.s 11) (.s 12))])
 (.seq (.cond (.s 5) .skip
 (.exit 0))
 (.seq (.block 1 (.seq (Rg [vA (.iad (.s 13) (.s 11) 1),lD 0 1,mK 1 14])
 (.seq (Rg [mS 0,mS 0,vA (.nck (.l 1)),fD 2 0,fD 3 3,lD 4 1,mS 14,iA 5 6 24,fD 7 6,lT 8 9,mS 2,mS 3,vB 6 (.call 40 [(.l 0),(.l 9),(.l 10),(.l 11)])])
 (.cond (.s 6) (.seq (Rg [mS 14,mK 0 9])
 (Rg [mS 10,vA (.bin .add (.l 0) (cI 1)),mK 1 10]))
 .skip))))
 (Rg [vA (.bin .add (.s 11) (cI 1)),mK 0 11]))))
def v68 : VFunc :=
 ⟨4,15,[.s 4],(.seq (Rg [mI 0 4])
 (.seq (Rg [mI 0 9,mI 0 10])
 (.seq (.seq (.reg [mS 0,vA (.nck (.l 0)),fD 1 0,lT 2 4,mS 1,mS 2,mS 0,vA (.nck (.l 6)),fD 7 4,lD 8 1,vB 13 (.call 104 [(.l 3),(.l 4),(.l 5),(.l 9)]),vB 12 (.len 1 (.s 13)),mI 0 11] (some false))
 (.block 0 (.loop v68l0)))
 (.seq (.block 2 (.seq (Rg [mS 10,vA (.bin .eql (.l 0) (cI 0)),mK 1 7])
 (.cond (.s 7) (Rg [vA (.call 38 [(cI 183)])])
 (.seq (Rg [mS 10,vA (.bin .gtr (.l 0) (cI 1)),mK 1 8])
 (.cond (.s 8) (Rg [vA (.call 38 [(cI 184)])])
 .skip)))))
 (.seq (Rg [mS 9,mK 0 4])
 .ret))))),false,false,none,false,none⟩
def v74l0 : VCode :=
 (.seq (Rg [vB 3 (.bin .lss (.s 5) (.s 6))])
 (.seq (.cond (.s 3) .skip
 (.exit 0))
 (.seq (.block 1 (.seq (Rg [mS 5,mK 0 7])
 (.seq (Rg [mS 1,mS 0,mS 7,iA 1 2 11,lT 3 11,vB 4 (.calv (.l 0) [(.l 4)])])
 (.cond (.s 4) (.seq (Rg [mS 7,mK 0 2])
 .ret)
 .skip))))
 (Rg [vA (.bin .add (.s 5) (cI 1)),mK 0 5]))))
def v74 : VFunc :=
 ⟨2,8,[.s 2],(.seq (Rg [mI 0 2])
 (.seq (.seq (Rg [mS 0,vB 6 (.len 1 (.l 0)),mI 0 5])
 (.block 0 (.loop v74l0)))
 (.seq (Rg [mI (-1) 2])
 .ret))),false,false,none,false,none⟩
def v75 : VFunc :=
 ⟨1,2,[.s 1],(.seq (Rg [mB false 1])
 (.seq (Rg [mS 0,vA (.bin .leq (cI 0) (.l 0)),mL 1,vG 2 true (.mov (.s 0)),vG 2 true (.bin .lss (.l 3) (cI 65536)),vA (.pick (.l 2) (.l 4) (.c (.b false))),mK 5 1])
 .ret)),true,false,none,false,none⟩
def v77 : VFunc :=
 ⟨1,3,[.s 1],(.seq (Rg [bX 0 4 2,mB false 1])
 (.seq (Rg [lS 2 4,vA (.agc z4 [(0,4,(.l 0))]),c1 108 1,mK 2 1])
 .ret)),true,false,none,false,none⟩
def v78 : VFunc :=
 ⟨2,5,[.s 2],(.seq (Rg [bX 0 4 3,bX 1 4 4,mB false 2])
 (.seq (Rg [fA 3 0,lP 0 2,fA 4 0,lP 2 2,c2 109 1 3,mL 4,vG 5 true (.lfa (.sl 3) 2),vG 5 true (.lld (.lo 6) 2 true),vG 5 true (.lfa (.sl 4) 2),vG 5 true (.lld (.lo 8) 2 true),vG 5 true (.call 109 [(.l 7),(.l 9)]),vA (.pick (.l 5) (.l 10) (.c (.b false))),mK 11 2])
 .ret)),true,false,none,false,none⟩
def v80 : VFunc :=
 ⟨2,7,[.s 2],(.seq (Rg [vB 2 (.mov (.c .nil))])
 (.seq (Rg [mS 0,vA (.nck (.l 0)),fD 1 7,lD 2 1,mS 1,vA (.lk (.c 2) (.l 3) (.l 4) true .nil),mL 5,xT 6 0,xT 6 1,mK 7 4,mK 8 5])
 (.seq (.seq (Rg [mS 5,vA (.un .not (.l 0)),mL 1,vG 2 true (.mov (.s 0)),vG 2 true (.nck (.l 3)),vG 2 true (.fad (.l 4) 6),vG 2 true (.ld (.l 5) 1 false),vG 2 true (.mov (.s 1)),vG 2 true (.lk (.c 2) (.l 6) (.l 7) false .nil),vG 2 true (.len 1 (.l 8)),vG 2 true (.bin .gtr (.l 9) (cI 0)),vB 3 (.pick (.l 2) (.l 10) (.c (.b false)))])
 (.cond (.s 3) (.seq (Rg [mI 0 6])
 (.seq (.reg [mS 0,vA (.nck (.l 0)),fD 1 6,lD 2 1,mS 1,vA (.lk (.c 2) (.l 3) (.l 4) false .nil),mS 1,mS 0,vA (.nck (.l 7)),fD 8 4,lD 9 1,vA (.call 111 [(.l 5),(.l 6),(.l 10)]),mL 11,xT 12 0,xT 12 1,mK 13 4,mK 14 6] (some false))
 (.seq (Rg [mS 6,c1 59 0])
 (Rg [mS 0,vA (.nck (.l 0)),fD 1 7,lD 2 1,mS 1,mS 4,vA (.mup (.c 2) (.l 3) (.l 4) (.l 5))]))))
 .skip))
 (.seq (Rg [mS 4,mK 0 2])
 .ret)))),false,false,none,false,none⟩
def v81l0 : VCode :=
 (.seq (.seq (Rg [mS 5,mS 6,vB 3 (.bin .lss (.l 0) (.l 1))])
 (.cond (.s 3) .skip
 (.exit 0)))
 (.block 1 (.seq (Rg [mS 5,mS 6,vA (.bin .add (.l 0) (.l 1)),vA (.cvi .u64 (.l 2)),vA (.bin .shr (.l 3) (.c (.i .u64 1))),vA (.cvi .i64 (.l 4)),mK 5 7])
 (.seq (Rg [mS 1,mS 7,vA (.calv (.l 0) [(.l 1)]),vB 4 (.un .not (.l 2))])
 (.cond (.s 4) (Rg [mS 7,vA (.bin .add (.l 0) (cI 1)),mK 1 5])
 (Rg [mS 7,mK 0 6]))))))
def v81 : VFunc :=
 ⟨2,8,[.s 2],(.seq (Rg [mI 0 2])
 (.seq (Rg [mS 0,mI 0 5,mK 0 6])
 (.seq (.block 0 (.loop v81l0))
 (.seq (Rg [mS 5,mK 0 2])
 .ret)))),false,false,none,false,none⟩
def v82 : VFunc :=
 ⟨3,4,[.s 3],(.seq (Rg [mB false 3])
 (.seq (.reg [sD 1 1,mS 0,iA 0 1 8,fD 2 1,lD 3 1,sD 2 1,vA (.bin .gtr (.l 4) (.l 5)),mK 6 3] (some false))
 .ret)),false,false,none,false,none⟩
def v91 : VFunc :=
 ⟨1,3,[.s 1],(.seq (Rg [bX 0 4 2,mB false 1])
 (.seq (Rg [fA 2 0,vA (.lfa (.lo 0) 2),lP 1 2,c1 128 2,mK 3 1])
 .ret)),true,false,none,false,none⟩
def v97 : VFunc :=
 ⟨2,6,[.s 2],(.seq (Rg [bX 0 4 4,bX 1 4 5,mI 0 2])
 (.seq (.seq (Rg [lS 4 4,lS 5 4,vA (.bsv 4 2 z4 [(0,(.l 0)),(1,(.l 1))]),c1 135 2,vB 3 (.un .not (.l 3))])
 (.cond (.s 3) (.seq (Rg [mI 0 2])
 .ret)
 .skip))
 (.seq (.reg [fA 4 0,lP 0 2,fA 5 2,lP 2 2,c2 137 1 3,fA 5 0,lP 5 2,fA 4 2,lP 7 2,c2 137 6 8,c2 136 4 9,mK 10 2] (some false))
 .ret))),true,false,none,false,none⟩
def v99 : VFunc :=
 ⟨3,18,[.bx 3 6 true],(.seq (Rg [bX 1 6 12,bX 2 6 10,vB 3 (.lal z6)])
 (.seq (Rg [fA 10 5,lO 0 1,mK 1 11])
 (.seq (.seq (Rg [mS 0,vB 4 (.bin .eql (.l 0) (.c (.i .u8 8)))])
 (.cond (.s 4) (Rg [mS 11,vA (.un .neg (.l 0)),mK 1 11])
 .skip))
 (.seq (.block 0 (.seq (Rg [fA 12 0,lO 0 1,vA (.bin .eql (.l 1) (.c (.i .u8 4))),mL 2,vG 3 true (.lfa (.sl 10) 0),vG 3 true (.lld (.lo 4) 1 false),vG 3 true (.bin .eql (.l 5) (.c (.i .u8 4))),vA (.pick (.l 3) (.l 6) (.c (.b false))),mK 7 5])
 (.cond (.s 5) (.seq (Rg [fA 12 5,lO 0 1,mS 11,vA (.bin .add (.l 1) (.l 2)),vA (.call 60 [(.c (.i .u8 5)),(.l 3)]),sT 3 4 6])
 .ret)
 (.seq (Rg [fA 12 0,lO 0 1,vA (.bin .eql (.l 1) (.c (.i .u8 4))),mL 2,vG 3 true (.lfa (.sl 10) 0),vG 3 true (.lld (.lo 4) 1 false),vG 3 true (.bin .eql (.l 5) (.c (.i .u8 5))),vA (.pick (.l 3) (.l 6) (.c (.b false))),mK 7 6])
 (.cond (.s 6) (.seq (Rg [fA 12 5,lO 0 1,mS 11,vA (.bin .add (.l 1) (.l 2)),c1 64 3,sT 3 4 6])
 .ret)
 (.seq (Rg [fA 12 0,lO 0 1,vA (.bin .eql (.l 1) (.c (.i .u8 4))),mK 2 7])
 (.cond (.s 7) (.seq (Rg [fA 12 5,lO 0 1,mS 11,c2 145 1 2,mL 3,xT 4 0,xT 4 1,mK 5 14,mK 6 13])
 (.seq (Rg [mS 13,c1 59 0])
 (.seq (Rg [mS 14,c1 64 0,sT 3 1 6])
 .ret)))
 (.seq (Rg [fA 12 0,lO 0 1,vA (.bin .eql (.l 1) (.c (.i .u8 5))),mL 2,vG 3 false (.lfa (.sl 12) 0),vG 3 false (.lld (.lo 4) 1 false),vG 3 false (.bin .eql (.l 5) (.c (.i .u8 6))),vA (.pick (.l 3) (.c (.b true)) (.l 6)),mK 7 8])
 (.cond (.s 8) (.seq (Rg [fA 12 0,lO 0 1,fA 12 5,lO 2 1,mS 11,vA (.bin .add (.l 3) (.l 4)),c2 60 1 5,sT 3 6 6])
 .ret)
 .skip)))))))))
 (.seq (Rg [vB 15 (.mov (.c (.fn (.func 125) [] [])))])
 (.seq (.seq (Rg [mS 0,vB 9 (.bin .eql (.l 0) (.c (.i .u8 8)))])
 (.cond (.s 9) (Rg [vB 15 (.mov (.c (.fn (.func 146) [] [])))])
 .skip))
 (.seq (Rg [mS 15,fA 12 1,lP 1 4,fA 10 1,lP 3 4,vA (.calv (.l 0) [(.l 2),(.l 4)]),mL 5,xT 6 0,xT 6 1,vB 17 (.lal z4),sT 17 7 4,mK 8 16])
 (.seq (Rg [mS 16,c1 59 0])
 (.seq (Rg [fA 12 0,lO 0 1,lS 17 4,vA (.agc z6 [(0,1,(.l 1)),(1,4,(.l 2))]),sT 3 3 6])
 .ret))))))))),true,false,none,false,none⟩
def v100 : VFunc :=
 ⟨2,7,[.bx 2 4 true,.s 3],(.seq (Rg [bX 0 4 5,bX 1 4 6,vB 2 (.lal z4),mI 0 3])
 (.seq (.seq (Rg [lS 5 4,lS 6 4,vA (.bsv 4 2 z4 [(0,(.l 0)),(1,(.l 1))]),c1 135 2,vB 4 (.un .not (.l 3))])
 (.cond (.s 4) (.seq (Rg [vA (.agc z4 []),sT 2 0 4,mI 2 3])
 .ret)
 .skip))
 (.seq (.reg [fA 5 0,lP 0 2,fA 6 0,lP 2 2,c2 137 1 3,fA 5 2,lP 5 2,fA 6 2,lP 7 2,c2 137 6 8,c2 143 4 9,c1 144 10,xT 11 0,xT 11 1,sT 2 12 4,mK 13 3] (some false))
 .ret))),true,false,none,false,none⟩
def v102 : VFunc :=
 ⟨2,8,[.s 2],(.seq (Rg [bX 0 6 6,bX 1 6 7,mI 0 2])
 (.seq (.block 0 (.seq (Rg [fA 6 0,lO 0 1,vA (.bin .eql (.l 1) (.c (.i .u8 2))),mL 2,vG 3 false (.lfa (.sl 6) 0),vG 3 false (.lld (.lo 4) 1 false),vG 3 false (.bin .eql (.l 5) (.c (.i .u8 3))),vA (.pick (.l 3) (.c (.b true)) (.l 6)),mK 7 3])
 (.cond (.s 3) (.seq (Rg [fA 6 1,lP 0 4,fA 7 1,lP 2 4,c2 97 1 3,mK 4 2])
 .ret)
 (.seq (Rg [fA 6 5,lO 0 1,fA 7 5,lO 2 1,vA (.bin .lss (.l 1) (.l 3)),mK 4 4])
 (.cond (.s 4) (.seq (Rg [mI (-1) 2])
 .ret)
 (.seq (Rg [fA 6 5,lO 0 1,fA 7 5,lO 2 1,vA (.bin .gtr (.l 1) (.l 3)),mK 4 5])
 (.cond (.s 5) (.seq (Rg [mI 1 2])
 .ret)
 .skip)))))))
 (.seq (Rg [mI 0 2])
 .ret))),true,false,none,false,none⟩
def v104l0 : VCode :=
 (.seq (Rg [vB 5 (.bin .lss (.s 11) (.s 12))])
 (.seq (.cond (.s 5) .skip
 (.exit 0))
 (.seq (.block 1 (.seq (.reg [mS 11,vA (.iad (.s 13) (.s 11) 24),lT 1 24,vB 14 (.lal [(.s []),(.s []),(.i .i64 0),(.i .i64 0),(.i .i64 0),(.b false),(.i .u8 0),(.s []),(.i .u8 0),(.b false),.nil,(.b false),.nil,(.i .i64 0),.nil,(.i .u8 0),(.s []),(.i .u8 0),(.b false),.nil,(.b false),.nil,(.i .i64 0),.nil]),mK 0 18,sT 14 2 24] none)
 (.seq (.seq (Rg [fA 14 0,lO 0 1,mS 1,vA (.bin .neq (.l 1) (.l 2)),mL 3,vG 4 false (.mov (.s 2)),vG 4 false (.lfa (.sl 14) 2),vG 4 false (.lld (.lo 6) 1 false),vG 4 false (.bin .lss (.l 5) (.l 7)),vA (.pick (.l 4) (.c (.b true)) (.l 8)),mL 9,vG 10 false (.mov (.s 2)),vG 10 false (.lfa (.sl 14) 3),vG 10 false (.lld (.lo 12) 1 false),vG 10 false (.bin .geq (.l 11) (.l 13)),vA (.pick (.l 10) (.c (.b true)) (.l 14)),mL 15,vG 16 false (.lfa (.sl 14) 4),vG 16 false (.lld (.lo 17) 1 false),vG 16 false (.mov (.s 3)),vG 16 false (.bin .gtr (.l 18) (.l 19)),vB 6 (.pick (.l 16) (.c (.b true)) (.l 20))])
 (.cond (.s 6) (.exit 1)
 .skip))
 (.seq (Rg [mS 15,fA 14 1,lO 1 1,vA (.lk (.c 2) (.l 0) (.l 2) true (.i .i64 0)),mL 3,xT 4 0,xT 4 1,mK 5 17,mK 6 16])
 (.seq (.reg [mS 16,vA (.un .not (.l 0)),mL 1,vG 2 false (.lfa (.sl 14) 4),vG 2 false (.lld (.lo 3) 1 false),vG 2 false (.lfa (.sl 10) 3),vG 2 false (.lld (.lo 5) 1 false),vG 2 false (.mov (.s 17)),vG 2 false (.iad (.l 6) (.l 7) 24),vG 2 false (.fad (.l 8) 4),vG 2 false (.ld (.l 9) 1 false),vG 2 false (.bin .geq (.l 4) (.l 10)),vB 7 (.pick (.l 2) (.c (.b true)) (.l 11))] (some false))
 (.cond (.s 7) (Rg [mS 15,fA 14 1,lO 1 1,mS 18,vA (.mup (.c 2) (.l 0) (.l 2) (.l 3))])
 .skip))))))
 (Rg [vA (.bin .add (.s 11) (cI 1)),mK 0 11]))))
def v104l1 : VCode :=
 (.seq (Rg [vA (.stk),vB 8 (.ext (.l 0) 0)])
 (.seq (.cond (.s 8) .skip
 (.exit 2))
 (.block 3 (.seq (Rg [vA (.stk),xT 0 1,mK 1 21])
 (.seq (Rg [fA 10 3,lO 0 1,mS 21,iA 1 2 24,fD 3 5,lD 4 1,vB 9 (.un .not (.l 5))])
 (.cond (.s 9) (Rg [mS 19,mS 21,vA (.bsv 1 1 [(.i .i64 0)] [(0,(.l 1))]),vA (.app (.l 0) (.l 2) 1 8 true),mK 3 19])
 .skip))))))
def v104 : VFunc :=
 ⟨4,22,[.s 4],(.seq (Rg [bX 0 4 10,vB 4 (.mov (.c .nil))])
 (.seq (Rg [vA (.mkm),mK 0 15])
 (.seq (.seq (Rg [fA 10 3,vB 13 (.lld (.lo 0) 1 false),vB 12 (.len 1 (.s 13)),mI 0 11])
 (.block 0 (.loop v104l0)))
 (.seq (Rg [vB 19 (.mov (.c .nil))])
 (.seq (.seq (Rg [mS 15,vB 20 (.stk)])
 (.block 2 (.loop v104l1)))
 (.seq (Rg [mS 19,c1 147 0])
 (.seq (Rg [mS 19,mK 0 4])
 .ret))))))),true,false,none,false,none⟩
def tm104 : List Nat := [0,1,2,3,8,22,47,67,76,85,4,21,20,19,11,9,13,12,10,14,74,16]
def bs104 : List Nat := [10,14]
def v108 : VFunc :=
 ⟨1,4,[.s 1],(.seq (Rg [bX 0 4 3,mB false 1])
 (.seq (.seq (Rg [lS 3 4,c1 149 0,mL 1,vG 2 false (.lfa (.sl 3) 0),vG 2 false (.lfa (.lo 3) 0),vG 2 false (.lld (.lo 4) 2 true),vG 2 false (.call 129 [(.l 5)]),vG 2 false (.un .not (.l 6)),vA (.pick (.l 2) (.c (.b true)) (.l 7)),mL 8,vG 9 false (.lfa (.sl 3) 0),vG 9 false (.lfa (.lo 10) 2),vG 9 false (.lld (.lo 11) 2 true),vG 9 false (.call 129 [(.l 12)]),vG 9 false (.un .not (.l 13)),vA (.pick (.l 9) (.c (.b true)) (.l 14)),mL 15,vG 16 false (.lfa (.sl 3) 0),vG 16 false (.lfa (.lo 17) 2),vG 16 false (.lfa (.lo 18) 0),vG 16 false (.lld (.lo 19) 1 false),vA (.pick (.l 16) (.c (.b true)) (.l 20)),mL 21,vG 22 false (.lfa (.sl 3) 0),vG 22 false (.lfa (.lo 23) 2),vG 22 false (.lfa (.lo 24) 1),vG 22 false (.lld (.lo 25) 1 false),vG 22 false (.len 1 (.l 26)),vG 22 false (.bin .eql (.l 27) (cI 0)),vB 2 (.pick (.l 22) (.c (.b true)) (.l 28))])
 (.cond (.s 2) (.seq (Rg [mB false 1])
 .ret)
 .skip))
 (.seq (Rg [lS 3 4,c1 91 0,mL 1,vG 2 false (.lfa (.sl 3) 0),vG 2 false (.lfa (.lo 3) 0),vG 2 false (.lld (.lo 4) 2 true),vG 2 false (.lfa (.sl 3) 0),vG 2 false (.lfa (.lo 6) 2),vG 2 false (.lld (.lo 7) 2 true),vG 2 false (.call 150 [(.l 5),(.l 8)]),vG 2 false (.call 128 [(.l 9)]),vA (.pick (.l 2) (.c (.b true)) (.l 10)),mK 11 1])
 .ret))),true,false,none,false,none⟩
def v109 : VFunc :=
 ⟨2,5,[.s 2],(.seq (Rg [bX 0 2 3,bX 1 2 4,mB false 2])
 (.seq (Rg [fA 3 0,lO 0 1,fA 4 0,lO 2 1,vA (.eqv false .b (.l 1) (.l 3)),mL 4,vG 5 true (.lfa (.sl 3) 1),vG 5 true (.lld (.lo 6) 1 false),vG 5 true (.lfa (.sl 4) 1),vG 5 true (.lld (.lo 8) 1 false),vG 5 true (.call 151 [(.l 7),(.l 9)]),vA (.pick (.l 5) (.l 10) (.c (.b false))),mK 11 2])
 .ret)),true,false,none,false,none⟩
def v111 : VFunc :=
 ⟨3,6,[.s 3,.s 4],(.seq (Rg [vB 3 (.mov (.c .nil)),mI 0 4])
 (.seq (.seq (Rg [mS 0,c1 33 0,vB 5 (.un .not (.l 1))])
 (.cond (.s 5) (.seq (Rg [vB 3 (.mov (.c .nil)),mI 2 4])
 .ret)
 .skip))
 (.seq (Rg [mS 0,mS 1,mS 2,vA (.call 153 [(.l 0),(.l 1),(.l 2)]),mK 3 3,mI 0 4])
 .ret))),true,false,none,false,none⟩
def v125 : VFunc :=
 ⟨2,7,[.bx 2 4 true,.s 3],(.seq (Rg [bX 0 4 5,bX 1 4 6,vB 2 (.lal z4),mI 0 3])
 (.seq (.seq (Rg [lS 5 4,lS 6 4,vA (.bsv 4 2 z4 [(0,(.l 0)),(1,(.l 1))]),c1 135 2,vB 4 (.un .not (.l 3))])
 (.cond (.s 4) (.seq (Rg [vA (.agc z4 []),sT 2 0 4,mI 2 3])
 .ret)
 .skip))
 (.seq (.reg [fA 5 0,lP 0 2,fA 6 2,lP 2 2,c2 137 1 3,fA 6 0,lP 5 2,fA 5 2,lP 7 2,c2 137 6 8,c2 141 4 9,fA 5 2,lP 11 2,fA 6 2,lP 13 2,c2 137 12 14,c2 143 10 15,c1 144 16,xT 17 0,xT 17 1,sT 2 18 4,mK 19 3] (some false))
 .ret))),true,false,none,false,none⟩
def v128 : VFunc :=
 ⟨1,3,[.s 1],(.seq (Rg [bX 0 2 2,mB false 1])
 (.seq (Rg [fA 2 0,lO 0 1,vA (.un .not (.l 1)),mL 2,vG 3 true (.lfa (.sl 2) 1),vG 3 true (.lld (.lo 4) 1 false),vG 3 true (.len 1 (.l 5)),vG 3 true (.bin .eql (.l 6) (cI 1)),vA (.pick (.l 3) (.l 7) (.c (.b false))),mL 8,vG 9 true (.lfa (.sl 2) 1),vG 9 true (.lld (.lo 10) 1 false),vG 9 true (.iad (.l 11) (cI 0) 1),vG 9 true (.ld (.l 12) 1 false),vG 9 true (.bin .eql (.l 13) (.c (.i .u16 1))),vA (.pick (.l 9) (.l 14) (.c (.b false))),mK 15 1])
 .ret)),true,false,none,false,none⟩
def v129 : VFunc :=
 ⟨1,5,[.s 1],(.seq (Rg [bX 0 2 3,mB false 1])
 (.seq (Rg [fA 3 1,lO 0 1,nL 1 1,mK 2 4])
 (.seq (.seq (Rg [mS 4,vB 2 (.bin .eql (.l 0) (cI 0))])
 (.cond (.s 2) (.seq (Rg [fA 3 0,lO 0 1,vA (.un .not (.l 1)),mK 2 1])
 .ret)
 .skip))
 (.seq (Rg [mS 4,vA (.bin .leq (.l 0) (cI 1024)),mL 1,vG 2 true (.lfa (.sl 3) 1),vG 2 true (.lld (.lo 3) 1 false),vG 2 true (.mov (.s 4)),vG 2 true (.bin .sub (.l 5) (cI 1)),vG 2 true (.iad (.l 4) (.l 6) 1),vG 2 true (.ld (.l 7) 1 false),vG 2 true (.bin .neq (.l 8) (.c (.i .u16 0))),vA (.pick (.l 2) (.l 9) (.c (.b false))),mK 10 1])
 .ret)))),true,false,none,false,none⟩
def v131 : VFunc :=
 ⟨1,3,[.s 1],(.seq (Rg [vB 1 (.mov (.c .nil))])
 (.seq (.seq (Rg [mS 0,vB 2 (.eqv false .sl (.l 0) (.c .nil))])
 (.cond (.s 2) (.seq (Rg [vB 1 (.mov (.c .nil))])
 .ret)
 .skip))
 (.seq (Rg [vA (.bsl 1 0 [(.i .u16 0)] [] true),mS 0,vA (.app (.l 0) (.l 1) 1 2 true),mK 2 1])
 .ret))),true,false,none,false,none⟩
def v135 : VFunc :=
 ⟨1,2,[.s 1],(.seq (Rg [mB false 1])
 (.seq (.reg [mS 0,vA (.call 172 [(.l 0),(.c (.fn (.func 173) [] []))]),vA (.un .not (.l 1)),mK 2 1] none)
 .ret)),true,false,none,false,none⟩
def v136 : VFunc :=
 ⟨2,10,[.s 2],(.seq (Rg [bX 0 2 7,bX 1 2 8,mI 0 2])
 (.seq (.seq (Rg [lS 7 2,lS 8 2,vA (.bsv 2 2 [(.b false),.nil] [(0,(.l 0)),(1,(.l 1))]),c1 174 2,vB 3 (.un .not (.l 3))])
 (.cond (.s 3) (.seq (Rg [mI 0 2])
 .ret)
 .skip))
 (.seq (.seq (Rg [fA 7 0,lO 0 1,fA 8 0,lO 2 1,vB 4 (.eqv true .b (.l 1) (.l 3))])
 (.cond (.s 4) (.seq (.seq (Rg [fA 7 0,vB 5 (.lld (.lo 0) 1 false)])
 (.cond (.s 5) (.seq (Rg [mI (-1) 2])
 .ret)
 .skip))
 (.seq (Rg [mI 1 2])
 .ret))
 .skip))
 (.seq (.reg [fA 7 1,lO 0 1,c1 176 1,fA 8 1,lO 3 1,c1 176 4,c2 175 2 5,mK 6 9] (some false))
 (.seq (.seq (Rg [fA 7 0,vB 6 (.lld (.lo 0) 1 false)])
 (.cond (.s 6) (.seq (Rg [mS 9,vA (.un .neg (.l 0)),mK 1 2])
 .ret)
 .skip))
 (.seq (Rg [mS 9,mK 0 2])
 .ret)))))),true,false,none,false,none⟩
def v137 : VFunc :=
 ⟨2,6,[.bx 2 2 true],(.seq (Rg [bX 0 2 3,bX 1 2 4,vB 2 (.lal [(.b false),.nil])])
 (.seq (Rg [lS 3 2,lS 4 2,c2 177 0 1,mL 2,xT 3 0,xT 3 1,vB 5 (.lal [(.b false),.nil]),sT 5 4 2,mL 5])
 (.seq (Rg [lS 5 2,sT 2 0 2])
 .ret))),true,false,none,false,none⟩
def v140 : VFunc :=
 ⟨2,6,[.bx 2 2 true,.bx 3 2 true],(.seq (Rg [bX 0 2 4,bX 1 2 5,vB 2 (.lal [(.b false),.nil]),vB 3 (.lal [(.b false),.nil])])
 (.seq (Rg [lS 4 2,lS 5 2,c2 178 0 1,mL 2,xT 3 0,xT 3 1,xT 3 2,sT 2 4 2,sT 3 5 2])
 (.seq (.reg [lS 2 2,lS 3 2,sT 2 0 2,sT 3 1 2] (some false))
 .ret))),true,false,none,false,none⟩
def v141 : VFunc :=
 ⟨2,6,[.bx 2 2 true],(.seq (Rg [bX 0 2 3,bX 1 2 4,vB 2 (.lal [(.b false),.nil])])
 (.seq (Rg [lS 3 2,lS 4 2,c2 179 0 1,mL 2,xT 3 0,xT 3 1,vB 5 (.lal [(.b false),.nil]),sT 5 4 2,mL 5])
 (.seq (Rg [lS 5 2,sT 2 0 2])
 .ret))),true,false,none,false,none⟩
def v143 : VFunc :=
 ⟨2,7,[.bx 2 4 true],(.seq (Rg [bX 0 2 5,bX 1 2 4,vB 2 (.lal z4)])
 (.seq (.seq (Rg [fA 4 0,vB 3 (.lld (.lo 0) 1 false)])
 (.cond (.s 3) (.reg [lS 5 2,c1 186 0,lS 4 2,c1 186 2,sT 5 1 2,sT 4 3 2] (some false))
 .skip))
 (.seq (Rg [lS 5 2,lS 4 2,c2 150 0 1,vB 6 (.lal [(.b false),.nil]),sT 6 2 2])
 (.seq (Rg [lS 5 2,lS 6 2,c2 140 0 1,mL 2,xT 3 0,xT 3 1,sT 5 4 2])
 (.seq (Rg [lS 4 2,lS 6 2,c2 140 0 1,mL 2,xT 3 0,xT 3 1,sT 4 4 2])
 (.seq (Rg [lS 5 2,lS 4 2,vA (.agc z4 [(0,2,(.l 0)),(2,2,(.l 1))]),vA (.agc z4 [(0,4,(.l 2))]),sT 2 3 4])
 .ret)))))),true,false,none,false,none⟩
def v144 : VFunc :=
 ⟨1,5,[.bx 1 4 true,.s 2],(.seq (Rg [bX 0 4 4,vB 1 (.lal z4),mI 0 2])
 (.seq (.seq (Rg [lS 4 4,vB 3 (.call 149 [(.l 0)])])
 (.cond (.s 3) (.seq (Rg [vA (.agc z4 []),sT 1 0 4,mI 3 2])
 .ret)
 .skip))
 (.seq (Rg [fA 4 0,lP 0 4,sT 1 1 4,mI 0 2])
 .ret))),true,false,none,false,none⟩
def v147 : VFunc :=
 ⟨1,1,[],(Rg [mS 0,c1 187 0]),false,false,none,false,none⟩
def v149 : VFunc :=
 ⟨1,3,[.s 1],(.seq (Rg [bX 0 4 2,mB false 1])
 (.seq (Rg [fA 2 0,vA (.lfa (.lo 0) 0),vA (.lfa (.lo 1) 1),lO 2 1,nL 1 3,vA (.bin .gtr (.l 4) (cI 256)),mL 5,vG 6 false (.lfa (.sl 2) 0),vG 6 false (.lfa (.lo 7) 2),vG 6 false (.lfa (.lo 8) 1),vG 6 false (.lld (.lo 9) 1 false),vG 6 false (.len 1 (.l 10)),vG 6 false (.bin .gtr (.l 11) (cI 256)),vA (.pick (.l 6) (.c (.b true)) (.l 12)),mK 13 1])
 .ret)),true,false,none,false,none⟩
def v150 : VFunc :=
 ⟨2,6,[.bx 2 2 true],(.seq (Rg [bX 0 2 3,bX 1 2 4,vB 2 (.lal [(.b false),.nil])])
 (.seq (Rg [lS 3 2,lS 4 2,c2 188 0 1,mL 2,xT 3 0,xT 3 1,vB 5 (.lal [(.b false),.nil]),sT 5 4 2,mL 5])
 (.seq (Rg [lS 5 2,sT 2 0 2])
 .ret))),true,false,none,false,none⟩
def v151l0 : VCode :=
 (.seq (Rg [vB 4 (.bin .lss (.s 6) (.s 7))])
 (.seq (.cond (.s 4) .skip
 (.exit 0))
 (.seq (.block 1 (.seq (Rg [mS 6,mK 0 8])
 (.seq (.reg [mS 0,mS 8,iA 0 1 1,lD 2 1,mS 1,mS 8,iA 4 5 1,lD 6 1,vB 5 (.bin .neq (.l 3) (.l 7))] (some false))
 (.cond (.s 5) (.seq (Rg [mB false 2])
 .ret)
 .skip))))
 (Rg [vA (.bin .add (.s 6) (cI 1)),mK 0 6]))))
def v151 : VFunc :=
 ⟨2,9,[.s 2],(.seq (Rg [mB false 2])
 (.seq (.seq (Rg [mS 0,nL 1 0,mS 1,nL 1 2,vB 3 (.bin .neq (.l 1) (.l 3))])
 (.cond (.s 3) (.seq (Rg [mB false 2])
 .ret)
 .skip))
 (.seq (.seq (Rg [mS 0,vB 7 (.len 1 (.l 0)),mI 0 6])
 (.block 0 (.loop v151l0)))
 (.seq (Rg [mB true 2])
 .ret)))),true,false,none,false,none⟩
def v153l0 : VCode :=
 (.seq (.seq (Rg [mS 15,mS 16,vB 5 (.bin .lss (.l 0) (.l 1))])
 (.cond (.s 5) .skip
 (.exit 2)))
 (.seq (.block 3 (Rg [mS 17,mS 15,mS 9,mS 13,iA 2 3 11,iA 0 1 1,vA (.st (.l 5) (.l 4) 1)]))
 (Rg [mS 15,vA (.bin .add (.l 0) (cI 1)),mK 1 15])))
def v153l1 : VCode :=
 (.seq (Rg [vB 4 (.bin .lss (.s 11) (.s 12))])
 (.seq (.cond (.s 4) .skip
 (.exit 0))
 (.seq (.block 1 (.seq (Rg [mS 11,mK 0 13])
 (.seq (Rg [mS 10,mS 9,mS 13,iA 1 2 11,lT 3 11,c2 196 0 4,mL 5,xT 6 0,xT 6 1,mK 7 14,mK 8 16])
 (.seq (Rg [mS 14,mK 0 15])
 (.block 2 (.loop v153l0))))))
 (Rg [vA (.bin .add (.s 11) (cI 1)),mK 0 11]))))
def v153l2 : VCode :=
 (.seq (Rg [vB 6 (.bin .lss (.s 19) (.s 20))])
 (.seq (.cond (.s 6) .skip
 (.exit 4))
 (.seq (.block 5 (.seq (Rg [mS 19,vA (.iad (.s 21) (.s 19) 1),lD 1 1,mK 0 24,mK 2 22])
 (.seq (.seq (Rg [mS 22,vA (.eqv false .pt (.l 0) (.c .np)),mL 1,vG 2 false (.mov (.s 22)),vG 2 false (.nck (.l 3)),vG 2 false (.fad (.l 4) 4),vG 2 false (.ld (.l 5) 1 false),vB 7 (.pick (.l 2) (.c (.b true)) (.l 6))])
 (.cond (.s 7) (.exit 5)
 .skip))
 (.seq (Rg [mS 18,nL 1 0,mK 1 23])
 (.seq (.reg [mS 23,vA (.bin .gtr (.l 0) (cI 0)),mL 1,vG 2 true (.mov (.s 18)),vG 2 true (.mov (.s 23)),vG 2 true (.bin .sub (.l 4) (cI 1)),vG 2 true (.iad (.l 3) (.l 5) 8),vG 2 true (.fad (.l 6) 1),vG 2 true (.ld (.l 7) 1 false),vG 2 true (.mov (.s 10)),vG 2 true (.mov (.s 24)),vG 2 true (.iad (.l 9) (.l 10) 1),vG 2 true (.ld (.l 11) 1 false),vG 2 true (.bin .eql (.l 8) (.l 12)),vA (.pick (.l 2) (.l 13) (.c (.b false))),mL 14,vG 15 true (.mov (.s 18)),vG 15 true (.mov (.s 23)),vG 15 true (.bin .sub (.l 17) (cI 1)),vG 15 true (.iad (.l 16) (.l 18) 8),vG 15 true (.fad (.l 19) 2),vG 15 true (.ld (.l 20) 6 true),vG 15 true (.mov (.s 22)),vG 15 true (.nck (.l 22)),vG 15 true (.fad (.l 23) 5),vG 15 true (.ld (.l 24) 6 true),vG 15 true (.call 76 [(.l 21),(.l 25)]),vB 8 (.pick (.l 15) (.l 26) (.c (.b false)))] (some false))
 (.cond (.s 8) (Rg [mS 18,mS 23,vA (.bin .sub (.l 1) (cI 1)),mS 10,mS 24,vA (.bin .add (.l 4) (cI 1)),iA 3 5 1,lD 6 1,iA 0 2 8,fD 8 1,vA (.st (.l 9) (.l 7) 1)])
 (.reg [mS 18,mS 10,mS 24,iA 1 2 1,lD 3 1,mS 10,mS 24,vA (.bin .add (.l 6) (cI 1)),iA 5 7 1,lD 8 1,mS 22,vA (.nck (.l 10)),fD 11 5,lT 12 6,c1 197 13,vA (.agc [(.i .i64 0),(.i .i64 0),(.i .u8 0),(.b false),.nil,(.b false),.nil,(.i .i64 0)] [(0,1,(.l 4)),(1,1,(.l 9)),(2,6,(.l 14))]),vA (.bsv 8 1 [(.i .i64 0),(.i .i64 0),(.i .u8 0),(.b false),.nil,(.b false),.nil,(.i .i64 0)] [(0,(.l 15))]),vA (.app (.l 0) (.l 16) 8 96 true),mK 17 18] (some false))))))))
 (Rg [vA (.bin .add (.s 19) (cI 1)),mK 0 19]))))
def v153 : VFunc :=
 ⟨3,25,[.s 3],(.seq (Rg [vB 3 (.mov (.c .nil))])
 (.seq (Rg [mS 0,mS 1,mS 2,vA (.call 194 [(.l 0),(.l 1),(.l 2)]),c1 193 3,mK 4 9])
 (.seq (Rg [mS 9,c1 195 0,mK 1 10])
 (.seq (Rg [mS 10,nL 1 0,vA (.mks (.l 1) (.l 1) 1 8 [.np] false),mK 2 17])
 (.seq (.seq (Rg [mS 9,vB 12 (.len 1 (.l 0)),mI 0 11])
 (.block 0 (.loop v153l1)))
 (.seq (Rg [vB 18 (.mov (.c .nil))])
 (.seq (.seq (Rg [mT 17 21,vB 20 (.len 1 (.s 21)),mI 0 19])
 (.block 4 (.loop v153l2)))
 (.seq (Rg [mS 18,mK 0 3])
 .ret)))))))),true,false,none,false,none⟩
def v172 : VFunc :=
 ⟨2,3,[.s 2],(.seq (Rg [mB false 2])
 (.seq (Rg [mS 0,mS 1,c2 208 0 1,vA (.bin .geq (.l 2) (cI 0)),mK 3 2])
 .ret)),false,false,none,false,none⟩
def v173 : VFunc :=
 ⟨1,3,[.s 1],(.seq (Rg [bX 0 4 2,mB false 1])
 (.seq (Rg [lS 2 4,c1 77 0,vA (.un .not (.l 1)),mK 2 1])
 .ret)),true,false,none,false,none⟩
def v174l0 : VCode :=
 (.seq (Rg [vB 2 (.bin .lss (.s 4) (.s 5))])
 (.seq (.cond (.s 2) .skip
 (.exit 0))
 (.seq (.block 1 (.seq (Rg [vA (.iad (.s 6) (.s 4) 2),lT 0 2,vB 7 (.lal [(.b false),.nil]),sT 7 1 2])
 (.seq (Rg [lS 7 2,c1 129 0,vB 3 (.un .not (.l 1))])
 (.cond (.s 3) (.seq (Rg [mB false 1])
 .ret)
 .skip))))
 (Rg [vA (.bin .add (.s 4) (cI 1)),mK 0 4]))))
def v174 : VFunc :=
 ⟨1,8,[.s 1],(.seq (Rg [mB false 1])
 (.seq (.seq (Rg [mT 0 6,vB 5 (.len 1 (.s 6)),mI 0 4])
 (.block 0 (.loop v174l0)))
 (.seq (Rg [mB true 1])
 .ret))),true,false,none,false,none⟩
def v175l0 : VCode :=
 (.seq (.seq (Rg [mS 8,vB 5 (.bin .geq (.l 0) (cI 0))])
 (.cond (.s 5) .skip
 (.exit 0)))
 (.seq (.block 1 (.seq (.reg [mS 0,mS 8,iA 0 1 1,lD 2 1,mS 1,mS 8,iA 4 5 1,lD 6 1,vB 6 (.bin .neq (.l 3) (.l 7))] (some false))
 (.cond (.s 6) (.seq (.seq (.reg [mS 0,mS 8,iA 0 1 1,lD 2 1,mS 1,mS 8,iA 4 5 1,lD 6 1,vB 7 (.bin .lss (.l 3) (.l 7))] (some false))
 (.cond (.s 7) (.seq (Rg [mI (-1) 2])
 .ret)
 .skip))
 (.seq (Rg [mI 1 2])
 .ret))
 .skip)))
 (Rg [mS 8,vA (.bin .sub (.l 0) (cI 1)),mK 1 8])))
def v175 : VFunc :=
 ⟨2,9,[.s 2],(.seq (Rg [mI 0 2])
 (.seq (.seq (Rg [mS 0,nL 1 0,mS 1,nL 1 2,vB 3 (.bin .neq (.l 1) (.l 3))])
 (.cond (.s 3) (.seq (.seq (Rg [mS 0,nL 1 0,mS 1,nL 1 2,vB 4 (.bin .lss (.l 1) (.l 3))])
 (.cond (.s 4) (.seq (Rg [mI (-1) 2])
 .ret)
 .skip))
 (.seq (Rg [mI 1 2])
 .ret))
 .skip))
 (.seq (.seq (Rg [mS 0,nL 1 0,vA (.bin .sub (.l 1) (cI 1)),mK 2 8])
 (.block 0 (.loop v175l0)))
 (.seq (Rg [mI 0 2])
 .ret)))),true,false,none,false,none⟩
def v176l0 : VCode :=
 (.seq (Rg [vB 2 (.bin .lss (.s 3) (.s 4))])
 (.seq (.cond (.s 2) .skip
 (.exit 0))
 (.seq (.block 1 (.seq (Rg [mS 3,vA (.iad (.s 5) (.s 3) 1),lD 1 1,mK 0 7,mK 2 8])
 (.reg [mS 6,mS 7,vA (.bin .quo (.l 1) (cI 2)),iA 0 2 1,lD 3 1,mS 8,vA (.cvi .u32 (.l 5)),mS 7,vA (.bin .rem (.l 7) (cI 2)),vA (.bin .mul (cI 16) (.l 8)),vA (.bin .shl (.l 6) (.l 9)),vA (.bin .or (.l 4) (.l 10)),iA 0 2 1,vA (.st (.l 12) (.l 11) 1)] (some false))))
 (Rg [vA (.bin .add (.s 3) (cI 1)),mK 0 3]))))
def v176 : VFunc :=
 ⟨1,9,[.s 1],(.seq (Rg [vB 1 (.mov (.c .nil))])
 (.seq (Rg [mS 0,nL 1 0,vA (.bin .add (.l 1) (cI 1)),vA (.bin .quo (.l 2) (cI 2)),vA (.mks (.l 3) (.l 3) 1 4 [(.i .u32 0)] true),mK 4 6])
 (.seq (.seq (Rg [mT 0 5,vB 4 (.len 1 (.s 5)),mI 0 3])
 (.block 0 (.loop v176l0)))
 (.seq (Rg [mS 6,mK 0 1])
 .ret)))),true,false,none,false,none⟩
def v177 : VFunc :=
 ⟨2,7,[.bx 2 2 true,.s 3],(.seq (Rg [bX 0 2 5,bX 1 2 6,vB 2 (.lal [(.b false),.nil]),mI 0 3])
 (.seq (.seq (Rg [lS 5 2,lS 6 2,vA (.bsv 2 2 [(.b false),.nil] [(0,(.l 0)),(1,(.l 1))]),c1 174 2,vB 4 (.un .not (.l 3))])
 (.cond (.s 4) (.seq (Rg [vA (.agc [(.b false),.nil] []),sT 2 0 2,mI 2 3])
 .ret)
 .skip))
 (.seq (.reg [fA 5 0,lO 0 1,fA 6 0,lO 2 1,vA (.eqv true .b (.l 1) (.l 3)),fA 5 1,lO 5 1,c1 176 6,fA 6 1,lO 8 1,c1 176 9,c2 210 7 10,c2 209 4 11,xT 12 0,xT 12 1,sT 2 13 2,mK 14 3] (some false))
 .ret))),true,false,none,false,none⟩
def v178 : VFunc :=
 ⟨2,13,[.bx 2 2 true,.bx 3 2 true,.s 4],(.seq (Rg [bX 0 2 8,bX 1 2 9,vB 2 (.lal [(.b false),.nil]),vB 3 (.lal [(.b false),.nil]),mI 0 4])
 (.seq (.seq (Rg [lS 8 2,lS 9 2,vA (.bsv 2 2 [(.b false),.nil] [(0,(.l 0)),(1,(.l 1))]),c1 174 2,vB 5 (.un .not (.l 3))])
 (.cond (.s 5) (.seq (Rg [vA (.agc [(.b false),.nil] []),vA (.agc [(.b false),.nil] []),sT 2 0 2,sT 3 1 2,mI 2 4])
 .ret)
 .skip))
 (.seq (.seq (Rg [fA 9 1,lO 0 1,nL 1 1,vB 6 (.bin .eql (.l 2) (cI 0))])
 (.cond (.s 6) (.seq (Rg [vA (.agc [(.b false),.nil] []),vA (.agc [(.b false),.nil] []),sT 2 0 2,sT 3 1 2,mI 11 4])
 .ret)
 .skip))
 (.seq (Rg [fA 9 1,lO 0 1,c1 176 1,mK 2 10])
 (.seq (Rg [fA 8 1,lO 0 1,c1 176 1,mS 10,c2 211 2 3,mL 4,xT 5 0,xT 5 1,mK 6 11,mK 7 12])
 (.seq (.seq (Rg [fA 8 0,lO 0 1,fA 9 0,lO 2 1,vA (.eqv true .b (.l 1) (.l 3)),mL 4,vG 5 true (.mov (.s 12)),vG 5 true (.len 1 (.l 6)),vG 5 true (.bin .gtr (.l 7) (cI 0)),vB 7 (.pick (.l 5) (.l 8) (.c (.b false)))])
 (.cond (.s 7) (.seq (Rg [mS 11,vA (.bsv 1 1 [(.i .u32 0)] [(0,(.c (.i .u32 1)))]),c2 212 0 1,mK 2 11])
 (Rg [mS 10,mS 12,c2 213 0 1,mK 2 12]))
 .skip))
 (.seq (.reg [fA 8 0,lO 0 1,fA 9 0,lO 2 1,vA (.eqv true .b (.l 1) (.l 3)),mS 11,c2 214 4 5,fA 9 0,lO 7 1,mS 12,c2 214 8 9,sT 2 6 2,sT 3 10 2,mI 0 4] (some false))
 .ret))))))),true,false,none,false,none⟩
def v179 : VFunc :=
 ⟨2,7,[.bx 2 2 true,.s 3],(.seq (Rg [bX 0 2 5,bX 1 2 6,vB 2 (.lal [(.b false),.nil]),mI 0 3])
 (.seq (.seq (Rg [lS 5 2,lS 6 2,vA (.bsv 2 2 [(.b false),.nil] [(0,(.l 0)),(1,(.l 1))]),c1 174 2,vB 4 (.un .not (.l 3))])
 (.cond (.s 4) (.seq (Rg [vA (.agc [(.b false),.nil] []),sT 2 0 2,mI 2 3])
 .ret)
 .skip))
 (.seq (.reg [fA 5 0,lO 0 1,fA 5 1,lO 2 1,c1 176 3,fA 6 0,lO 5 1,fA 6 1,lO 7 1,c1 176 8,vA (.call 215 [(.l 1),(.l 4),(.l 6),(.l 9)]),xT 10 0,xT 10 1,sT 2 11 2,mK 12 3] (some false))
 .ret))),true,false,none,false,none⟩
def v188 : VFunc :=
 ⟨2,7,[.bx 2 2 true,.s 3],(.seq (Rg [bX 0 2 5,bX 1 2 6,vB 2 (.lal [(.b false),.nil]),mI 0 3])
 (.seq (.seq (Rg [lS 5 2,lS 6 2,vA (.bsv 2 2 [(.b false),.nil] [(0,(.l 0)),(1,(.l 1))]),c1 174 2,vB 4 (.un .not (.l 3))])
 (.cond (.s 4) (.seq (Rg [vA (.agc [(.b false),.nil] []),sT 2 0 2,mI 2 3])
 .ret)
 .skip))
 (.seq (.reg [fA 5 1,lO 0 1,c1 176 1,fA 6 1,lO 3 1,c1 176 4,c2 218 2 5,vA (.call 214 [(.c (.b false)),(.l 6)]),sT 2 7 2,mI 0 3] (some false))
 .ret))),true,false,none,false,none⟩
def v193 : VFunc :=
 ⟨1,2,[.s 1],(.seq (Rg [vB 1 (.mov (.c .nil))])
 (.seq (Rg [mS 0,vA (.call 221 [(.c .nil),(.l 0)]),mK 1 1])
 .ret)),false,false,none,false,none⟩
def v194 : VFunc :=
 ⟨3,7,[.s 3],(.seq (Rg [vB 4 (.hbx 58 (.s 0) 1),vB 5 (.hbx 9 (.s 1) 1),vB 6 (.hbx 3 (.s 2) 1),vB 3 (.mov (.c .nf))])
 (.seq (Rg [vA (.mkf (.func 222) [] [(.s 4),(.s 5),(.s 6)]),mK 0 3])
 .ret)),false,false,none,false,none⟩
def v195l0 : VCode :=
 (.seq (Rg [vB 2 (.bin .lss (.s 4) (.s 5))])
 (.seq (.cond (.s 2) .skip
 (.exit 0))
 (.seq (.block 1 (.seq (.reg [vA (.iad (.s 6) (.s 4) 11),lT 0 11,vB 7 (.lal [(.s []),(.i .i64 0),(.i .i64 0),(.i .i64 0),(.b false),(.i .u8 0),(.b false),.nil,(.b false),.nil,(.i .i64 0)]),sT 7 1 11] none)
 (Rg [mS 3,fA 7 1,lO 1 1,fA 7 2,lO 3 1,vA (.bsv 1 2 [(.i .i64 0)] [(0,(.l 2)),(1,(.l 4))]),vA (.app (.l 0) (.l 5) 1 8 true),mK 6 3])))
 (Rg [vA (.bin .add (.s 4) (cI 1)),mK 0 4]))))
def v195 : VFunc :=
 ⟨1,8,[.s 1],(.seq (Rg [vB 1 (.mov (.c .nil))])
 (.seq (Rg [vB 3 (.mov (.c .nil))])
 (.seq (.seq (Rg [mT 0 6,vB 5 (.len 1 (.s 6)),mI 0 4])
 (.block 0 (.loop v195l0)))
 (.seq (Rg [mS 3,c1 187 0])
 (.seq (Rg [mS 3,c1 225 0,mK 1 1])
 .ret))))),true,false,none,false,none⟩
def v196 : VFunc :=
 ⟨2,5,[.s 2,.s 3],(.seq (Rg [bX 1 11 4,mI 0 2,mI 0 3])
 (.seq (.reg [mS 0,fA 4 1,lO 1 1,c2 226 0 2,mS 0,fA 4 2,lO 5 1,c2 226 4 6,mK 3 2,mK 7 3] (some false))
 .ret)),true,false,none,false,none⟩
def v197 : VFunc :=
 ⟨1,3,[.bx 1 6 true],(.seq (Rg [bX 0 6 2,vB 1 (.lal z6)])
 (.seq (Rg [fA 2 1,vA (.lfa (.lo 0) 0),vA (.lfa (.lo 1) 1),lO 2 1,c1 131 3,fA 2 1,vA (.lfa (.lo 5) 0),vA (.lfa (.lo 6) 1),vA (.lst (.lo 7) (.l 4) 1)])
 (.seq (Rg [fA 2 1,vA (.lfa (.lo 0) 2),vA (.lfa (.lo 1) 1),lO 2 1,c1 131 3,fA 2 1,vA (.lfa (.lo 5) 2),vA (.lfa (.lo 6) 1),vA (.lst (.lo 7) (.l 4) 1)])
 (.seq (Rg [lS 2 6,sT 1 0 6])
 .ret)))),true,false,none,false,none⟩
def v208l0 : VCode :=
 (.seq (Rg [vB 3 (.bin .lss (.s 5) (.s 6))])
 (.seq (.cond (.s 3) .skip
 (.exit 0))
 (.seq (.block 1 (.seq (Rg [mS 5,mK 0 7])
 (.seq (Rg [mS 1,mS 0,mS 7,iA 1 2 4,lT 3 4,vB 4 (.calv (.l 0) [(.l 4)])])
 (.cond (.s 4) (.seq (Rg [mS 7,mK 0 2])
 .ret)
 .skip))))
 (Rg [vA (.bin .add (.s 5) (cI 1)),mK 0 5]))))
def v208 : VFunc :=
 ⟨2,8,[.s 2],(.seq (Rg [mI 0 2])
 (.seq (.seq (Rg [mS 0,vB 6 (.len 1 (.l 0)),mI 0 5])
 (.block 0 (.loop v208l0)))
 (.seq (Rg [mI (-1) 2])
 .ret))),false,false,none,false,none⟩
def v209 : VFunc :=
 ⟨2,6,[.bx 2 2 true,.s 3],(.seq (Rg [vB 2 (.lal [(.b false),.nil]),mI 0 3])
 (.seq (Rg [mS 0,mS 1,c2 214 0 1,vB 5 (.lal [(.b false),.nil]),sT 5 2 2])
 (.seq (.seq (Rg [fA 5 1,lO 0 1,nL 1 1,vB 4 (.bin .gtr (.l 2) (cI 1024))])
 (.cond (.s 4) (.seq (Rg [vA (.agc [(.b false),.nil] []),sT 2 0 2,mI 3 3])
 .ret)
 .skip))
 (.seq (Rg [lS 5 2,sT 2 0 2,mI 0 3])
 .ret)))),true,false,none,false,none⟩
def v210l0 : VCode :=
 (.seq (Rg [vB 4 (.bin .lss (.s 9) (.s 10))])
 (.seq (.cond (.s 4) .skip
 (.exit 2))
 (.seq (.block 3 (.seq (Rg [mS 9,vA (.iad (.s 11) (.s 9) 1),lD 1 1,mK 0 16,mK 2 13])
 (.seq (Rg [mS 12,vA (.cvi .u64 (.l 0)),mS 13,vA (.cvi .u64 (.l 2)),vA (.bin .mul (.l 1) (.l 3)),mS 14,mS 15,mS 16,vA (.bin .add (.l 6) (.l 7)),iA 5 8 1,lD 9 1,vA (.cvi .u64 (.l 10)),vA (.bin .add (.l 4) (.l 11)),mS 8,vA (.bin .add (.l 12) (.l 13)),mK 14 17])
 (.seq (Rg [mS 14,mS 15,mS 16,vA (.bin .add (.l 1) (.l 2)),mS 17,vA (.cvi .u32 (.l 4)),iA 0 3 1,vA (.st (.l 6) (.l 5) 1)])
 (Rg [mS 17,vA (.bin .shr (.l 0) (.c (.i .u64 32))),mK 1 8])))))
 (Rg [vA (.bin .add (.s 9) (cI 1)),mK 0 9]))))
def v210l1 : VCode :=
 (.seq (Rg [vB 3 (.bin .lss (.s 5) (.s 6))])
 (.seq (.cond (.s 3) .skip
 (.exit 0))
 (.seq (.block 1 (.seq (Rg [mS 5,vA (.iad (.s 7) (.s 5) 1),lD 1 1,mK 0 15,mK 2 12])
 (.seq (Rg [vB 8 (.mov (.c (.i .u64 0)))])
 (.seq (.seq (Rg [mT 1 11,vB 10 (.len 1 (.s 11)),mI 0 9])
 (.block 2 (.loop v210l0)))
 (Rg [mS 14,mS 15,mS 1,nL 1 2,vA (.bin .add (.l 1) (.l 3)),mS 8,vA (.cvi .u32 (.l 5)),iA 0 4 1,vA (.st (.l 7) (.l 6) 1)])))))
 (Rg [vA (.bin .add (.s 5) (cI 1)),mK 0 5]))))
def v210 : VFunc :=
 ⟨2,18,[.s 2],(.seq (Rg [vB 2 (.mov (.c .nil))])
 (.seq (Rg [mS 0,nL 1 0,mS 1,nL 1 2,vA (.bin .add (.l 1) (.l 3)),vA (.mks (.l 4) (.l 4) 1 4 [(.i .u32 0)] true),mK 5 14])
 (.seq (.seq (Rg [mT 0 7,vB 6 (.len 1 (.s 7)),mI 0 5])
 (.block 0 (.loop v210l1)))
 (.seq (Rg [mS 14,c1 229 0,mK 1 2])
 .ret)))),true,false,none,false,none⟩
def v211l0 : VCode :=
 (.seq (.seq (Rg [mS 13,vB 6 (.bin .geq (.l 0) (cI 0))])
 (.cond (.s 6) .skip
 (.exit 0)))
 (.seq (.block 1 (Rg [mS 12,mS 13,mS 14,mS 13,mS 13,mS 10,vA (.bin .add (.l 4) (.l 5)),vA (.bin .add (.l 6) (cI 1)),vA (.sli false 1 (.l 2) (some (.l 3)) (some (.l 7)) none),mS 15,c2 234 8 9,iA 0 1 1,vA (.st (.l 11) (.l 10) 1)]))
 (Rg [mS 13,vA (.bin .sub (.l 0) (cI 1)),mK 1 13])))
def v211l1 : VCode :=
 (.seq (Rg [vB 7 (.bin .lss (.s 16) (.s 17))])
 (.seq (.cond (.s 7) .skip
 (.exit 2))
 (.seq (.block 3 (.seq (Rg [mS 16,mK 0 18])
 (.reg [mS 14,mS 18,mS 14,mS 18,vA (.bin .add (.l 3) (cI 1)),iA 2 4 1,lD 5 1,vA (.cvi .u64 (.l 6)),vA (.bin .shl (.l 7) (.c (.i .u64 32))),mS 14,mS 18,iA 9 10 1,lD 11 1,vA (.cvi .u64 (.l 12)),vA (.bin .or (.l 8) (.l 13)),mS 11,vA (.bin .shr (.l 14) (.l 15)),vA (.cvi .u32 (.l 16)),iA 0 1 1,vA (.st (.l 18) (.l 17) 1)] (some false))))
 (Rg [vA (.bin .add (.s 16) (cI 1)),mK 0 16]))))
def v211 : VFunc :=
 ⟨2,19,[.s 2,.s 3],(.seq (Rg [vB 2 (.mov (.c .nil)),vB 3 (.mov (.c .nil))])
 (.seq (.seq (Rg [mS 0,mS 1,c2 175 0 1,vB 4 (.bin .lss (.l 2) (cI 0))])
 (.cond (.s 4) (.seq (Rg [mS 0,c1 230 0,vB 2 (.mov (.c .nil)),mK 1 3])
 .ret)
 .skip))
 (.seq (.seq (Rg [mS 1,nL 1 0,vB 5 (.bin .eql (.l 1) (cI 1))])
 (.cond (.s 5) (.seq (Rg [mS 0,mS 1,vA (.iad (.l 1) (cI 0) 1),lD 2 1,c2 231 0 3,mL 4,xT 5 0,xT 5 1,mK 6 8,mK 7 9])
 (.seq (Rg [mS 8,mS 9,vA (.bsv 1 1 [(.i .u32 0)] [(0,(.l 1))]),c1 229 2,mK 0 2,mK 3 3])
 .ret))
 .skip))
 (.seq (Rg [mS 1,nL 1 0,mK 1 10])
 (.seq (Rg [mS 1,mS 10,vA (.bin .sub (.l 1) (cI 1)),iA 0 2 1,lD 3 1,c1 232 4,mK 5 11])
 (.seq (Rg [mS 1,mS 11,c2 233 0 1,mS 10,vA (.sli false 1 (.l 2) none (some (.l 3)) none),mK 4 15])
 (.seq (Rg [mS 0,mS 11,c2 233 0 1,mK 2 14])
 (.seq (Rg [mS 0,nL 1 0,mS 10,vA (.bin .sub (.l 1) (.l 2)),vA (.bin .add (.l 3) (cI 1)),vA (.mks (.l 4) (.l 4) 1 4 [(.i .u32 0)] true),mK 5 12])
 (.seq (.seq (Rg [mS 12,nL 1 0,vA (.bin .sub (.l 1) (cI 1)),mK 2 13])
 (.block 0 (.loop v211l0)))
 (.seq (.seq (Rg [mT 10 17,mI 0 16])
 (.block 2 (.loop v211l1)))
 (.seq (.reg [mS 12,c1 229 0,mS 14,mS 10,vA (.sli false 1 (.l 2) none (some (.l 3)) none),c1 229 4,mK 1 2,mK 5 3] (some false))
 .ret))))))))))),true,false,none,false,none⟩
def v212l0 : VCode :=
 (.seq (Rg [vB 4 (.bin .lss (.s 7) (.s 8))])
 (.seq (.cond (.s 4) .skip
 (.exit 0))
 (.seq (.block 1 (.seq (Rg [mS 7,vA (.iad (.s 9) (.s 7) 1),lD 1 1,mK 0 12,mK 2 10])
 (.seq (Rg [mS 10,vA (.cvi .u64 (.l 0)),mK 1 11])
 (.seq (.seq (Rg [mS 12,mS 1,nL 1 1,vB 5 (.bin .lss (.l 0) (.l 2))])
 (.cond (.s 5) (Rg [mS 11,mS 1,mS 12,iA 1 2 1,lD 3 1,vA (.cvi .u64 (.l 4)),vA (.bin .add (.l 0) (.l 5)),mK 6 11])
 .skip))
 (Rg [mS 13,mS 11,vA (.calv (.l 0) [(.l 1)])])))))
 (Rg [vA (.bin .add (.s 7) (cI 1)),mK 0 7]))))
def v212 : VFunc :=
 ⟨2,14,[.s 2],(.seq (Rg [vB 2 (.mov (.c .nil))])
 (.seq (.seq (Rg [mS 0,nL 1 0,mS 1,nL 1 2,vB 3 (.bin .lss (.l 1) (.l 3))])
 (.cond (.s 3) (Rg [mS 1,mS 0,mK 0 0,mK 1 1])
 .skip))
 (.seq (Rg [mS 0,nL 1 0,vA (.bin .add (.l 1) (cI 1)),vA (.mks (cI 0) (.l 2) 1 4 [(.i .u32 0)] true),vB 6 (.hal 261 [.nil]),vA (.st (.s 6) (.l 3) 1)])
 (.seq (Rg [vA (.call 235 [(.s 6)]),mK 0 13])
 (.seq (.seq (Rg [mT 0 9,vB 8 (.len 1 (.s 9)),mI 0 7])
 (.block 0 (.loop v212l0)))
 (.seq (Rg [mS 13,vA (.calv (.l 0) [(.c (.i .u64 0))])])
 (.seq (Rg [sD 6 1,c1 229 0,mK 1 2])
 .ret))))))),true,false,none,false,none⟩
def v213l0 : VCode :=
 (.seq (Rg [vB 3 (.bin .lss (.s 7) (.s 8))])
 (.seq (.cond (.s 3) .skip
 (.exit 0))
 (.seq (.block 1 (.seq (Rg [mS 7,mK 0 10])
 (.seq (Rg [vB 9 (.mov (.c (.i .u32 0)))])
 (.seq (.seq (Rg [mS 10,mS 1,nL 1 1,vB 4 (.bin .lss (.l 0) (.l 2))])
 (.cond (.s 4) (Rg [mS 1,mS 10,iA 0 1 1,lD 2 1,mK 3 9])
 .skip))
 (Rg [mS 6,mS 10,mS 6,mS 10,iA 2 3 1,lD 4 1,mS 9,mS 5,vA (.call 236 [(.l 5),(.l 6),(.l 7)]),mL 8,xT 9 0,xT 9 1,iA 0 1 1,vA (.st (.l 12) (.l 10) 1),mK 11 5])))))
 (Rg [vA (.bin .add (.s 7) (cI 1)),mK 0 7]))))
def v213 : VFunc :=
 ⟨2,11,[.s 2],(.seq (Rg [vB 2 (.mov (.c .nil))])
 (.seq (Rg [mS 0,c1 230 0,mK 1 6])
 (.seq (Rg [vB 5 (.mov (.c (.i .u32 0)))])
 (.seq (.seq (Rg [mS 6,vB 8 (.len 1 (.l 0)),mI 0 7])
 (.block 0 (.loop v213l0)))
 (.seq (Rg [mS 6,c1 229 0,mK 1 2])
 .ret))))),true,false,none,false,none⟩
def v214l0 : VCode :=
 (.seq (Rg [vB 4 (.bin .lss (.s 7) (.s 8))])
 (.seq (.cond (.s 4) .skip
 (.exit 0))
 (.seq (.block 1 (.seq (Rg [mS 7,vA (.iad (.s 9) (.s 7) 1),lD 1 1,mK 0 10,mK 2 11])
 (.seq (Rg [mS 6,mS 10,vA (.bin .mul (cI 2) (.l 1)),mS 11,vA (.cvi .u16 (.l 3)),iA 0 2 1,vA (.st (.l 5) (.l 4) 1)])
 (Rg [mS 6,mS 10,vA (.bin .mul (cI 2) (.l 1)),vA (.bin .add (.l 2) (cI 1)),mS 11,vA (.bin .shr (.l 4) (.c (.i .u64 16))),vA (.cvi .u16 (.l 5)),iA 0 3 1,vA (.st (.l 7) (.l 6) 1)]))))
 (Rg [vA (.bin .add (.s 7) (cI 1)),mK 0 7]))))
def v214 : VFunc :=
 ⟨2,12,[.bx 2 2 true],(.seq (Rg [vB 2 (.lal [(.b false),.nil])])
 (.seq (Rg [mS 1,c1 229 0,mK 1 1])
 (.seq (.seq (Rg [mS 1,nL 1 0,vB 3 (.bin .eql (.l 1) (cI 0))])
 (.cond (.s 3) (.seq (Rg [vA (.agc [(.b false),.nil] []),sT 2 0 2])
 .ret)
 .skip))
 (.seq (Rg [mS 1,nL 1 0,vA (.bin .mul (cI 2) (.l 1)),vA (.mks (.l 2) (.l 2) 1 2 [(.i .u16 0)] true),mK 3 6])
 (.seq (.seq (Rg [mT 1 9,vB 8 (.len 1 (.s 9)),mI 0 7])
 (.block 0 (.loop v214l0)))
 (.seq (.seq (Rg [mS 6,mS 6,nL 1 1,vA (.bin .sub (.l 2) (cI 1)),iA 0 3 1,lD 4 1,vB 5 (.bin .eql (.l 5) (.c (.i .u16 0)))])
 (.cond (.s 5) (Rg [mS 6,mS 6,nL 1 1,vA (.bin .sub (.l 2) (cI 1)),vA (.sli false 1 (.l 0) none (some (.l 3)) none),mK 4 6])
 .skip))
 (.seq (Rg [mS 0,mS 6,vA (.agc [(.b false),.nil] [(0,1,(.l 0)),(1,1,(.l 1))]),sT 2 2 2])
 .ret))))))),true,false,none,false,none⟩
def v215 : VFunc :=
 ⟨4,8,[.bx 4 2 true,.s 5],(.seq (Rg [vB 4 (.lal [(.b false),.nil]),mI 0 5])
 (.seq (.seq (Rg [mS 0,mS 2,vB 6 (.eqv false .b (.l 0) (.l 1))])
 (.cond (.s 6) (.seq (Rg [mS 0,mS 1,mS 3,c2 212 1 2,c2 209 0 3,xT 4 0,xT 4 1,sT 4 5 2,mK 6 5])
 .ret)
 .skip))
 (.seq (.seq (Rg [mS 1,mS 3,c2 175 0 1,vB 7 (.bin .geq (.l 2) (cI 0))])
 (.cond (.s 7) (.seq (Rg [mS 0,mS 1,mS 3,c2 213 1 2,c2 209 0 3,xT 4 0,xT 4 1,sT 4 5 2,mK 6 5])
 .ret)
 .skip))
 (.seq (Rg [mS 2,mS 3,mS 1,c2 213 1 2,c2 209 0 3,xT 4 0,xT 4 1,sT 4 5 2,mK 6 5])
 .ret)))),true,false,none,false,none⟩
def v218l0 : VCode :=
 (.seq (.seq (Rg [mS 1,nL 1 0,vB 4 (.bin .gtr (.l 1) (cI 2))])
 (.cond (.s 4) .skip
 (.exit 0)))
 (.block 1 (.seq (Rg [mS 0,mS 1,c2 248 0 1,vB 10 (.lal [(.i .u64 0),(.i .u64 0),(.i .u64 0),(.i .u64 0),(.b false)]),sT 10 2 5])
 (.seq (Rg [fA 10 2,lO 0 1,vB 5 (.bin .eql (.l 1) (.c (.i .u64 0)))])
 (.cond (.s 5) (.seq (Rg [mS 0,mS 1,c2 211 0 1,mL 2,xT 3 0,xT 3 1,mL 4,mK 5 11])
 (Rg [mS 1,mS 11,mK 0 0,mK 1 1]))
 (.seq (Rg [fA 10 4,vB 6 (.lld (.lo 0) 1 false)])
 (.cond (.s 6) (.reg [fA 10 0,lO 0 1,mS 0,fA 10 2,lO 3 1,mS 1,vA (.call 249 [(.l 1),(.l 2),(.l 4),(.l 5)]),fA 10 3,lO 7 1,mS 1,fA 10 1,lO 10 1,mS 0,vA (.call 249 [(.l 8),(.l 9),(.l 11),(.l 12)]),mK 6 0,mK 13 1] (some false))
 (.reg [fA 10 2,lO 0 1,mS 1,fA 10 0,lO 3 1,mS 0,vA (.call 249 [(.l 1),(.l 2),(.l 4),(.l 5)]),fA 10 1,lO 7 1,mS 0,fA 10 3,lO 10 1,mS 1,vA (.call 249 [(.l 8),(.l 9),(.l 11),(.l 12)]),mK 6 0,mK 13 1] (some false)))))))))
def v218l1 : VCode :=
 (.seq (.seq (Rg [mS 14,vB 9 (.bin .neq (.l 0) (.c (.i .u64 0)))])
 (.cond (.s 9) .skip
 (.exit 2)))
 (.block 3 (.reg [mS 14,mS 13,mS 14,vA (.bin .rem (.l 1) (.l 2)),mK 0 13,mK 3 14] (some false))))
def v218 : VFunc :=
 ⟨2,15,[.s 2],(.seq (Rg [vB 2 (.mov (.c .nil))])
 (.seq (.seq (Rg [mS 0,mS 1,c2 175 0 1,vB 3 (.bin .lss (.l 2) (cI 0))])
 (.cond (.s 3) (Rg [mS 1,mS 0,mK 0 0,mK 1 1])
 .skip))
 (.seq (.block 0 (.loop v218l0))
 (.seq (.seq (Rg [mS 1,nL 1 0,vB 7 (.bin .eql (.l 1) (cI 0))])
 (.cond (.s 7) (.seq (Rg [mS 0,mK 0 2])
 .ret)
 .skip))
 (.seq (.seq (Rg [mS 0,nL 1 0,vB 8 (.bin .gtr (.l 1) (cI 2))])
 (.cond (.s 8) (.seq (Rg [mS 0,mS 1,c2 211 0 1,mL 2,xT 3 0,xT 3 1,mL 4,mK 5 12])
 (Rg [mS 1,mS 12,mK 0 0,mK 1 1]))
 .skip))
 (.seq (Rg [mS 0,c1 250 0,mS 1,c1 250 2,mK 1 13,mK 3 14])
 (.seq (.block 2 (.loop v218l1))
 (.seq (Rg [mS 13,c1 251 0,mK 1 2])
 .ret)))))))),true,false,none,false,none⟩
def r3 : Rnd :=
 ⟨221,[true,false,true,false],13,[0,1,4,6,7,2,5],[4],(.reg [vB 6 (.hal 92 [(.s []),(.i .i64 0),(.i .i64 0),(.i .i64 0),(.b false),(.i .u8 0),(.b false),.nil,(.b false),.nil,(.i .i64 0)]),vA (.st (.s 6) (.s 4) 11)] none),(.block 1 (.reg [sD 5 1,vA (.ld (.s 6) 11 true),vA (.bsv 11 1 [(.s []),(.i .i64 0),(.i .i64 0),(.i .i64 0),(.b false),(.i .u8 0),(.b false),.nil,(.b false),.nil,(.i .i64 0)] [(0,(.l 1))]),vA (.app (.l 0) (.l 2) 11 128 true),vA (.st (.s 5) (.l 3) 1)] none))⟩
def v221 : VFunc :=
 ⟨2,7,[.s 2],(.seq (Rg [vB 5 (.hbx 58 (.s 0) 1),vB 2 (.mov (.c .nil))])
 (.seq (.seq (Rg [mT 1 3])
 (.block 0 (.rng 3 (.s 3))))
 (.seq (Rg [sD 5 1,mK 0 2])
 .ret))),false,false,none,false,some 221⟩
def v222l0 : VCode :=
 (.seq (Rg [vB 4 (.bin .lss (.s 9) (.s 10))])
 (.seq (.cond (.s 4) .skip
 (.exit 0))
 (.seq (.block 1 (.seq (.reg [vA (.iad (.s 11) (.s 9) 11),lT 0 11,vB 12 (.lal [(.s []),(.i .i64 0),(.i .i64 0),(.i .i64 0),(.b false),(.i .u8 0),(.b false),.nil,(.b false),.nil,(.i .i64 0)]),sT 12 1 11] none)
 (.seq (Rg [fA 12 0,lO 0 1,sD 2 1,vA (.bin .eql (.l 1) (.l 2)),mL 3,vG 4 true (.lfa (.sl 12) 3),vG 4 true (.lld (.lo 5) 1 false),vG 4 true (.ld (.s 3) 1 false),vG 4 true (.bin .leq (.l 6) (.l 7)),vB 5 (.pick (.l 4) (.l 8) (.c (.b false)))])
 (.cond (.s 5) (.reg [mS 8,lS 12 11,vA (.bsv 11 1 [(.s []),(.i .i64 0),(.i .i64 0),(.i .i64 0),(.b false),(.i .u8 0),(.b false),.nil,(.b false),.nil,(.i .i64 0)] [(0,(.l 1))]),vA (.app (.l 0) (.l 2) 11 128 true),mK 3 8] none)
 .skip))))
 (Rg [vA (.bin .add (.s 9) (cI 1)),mK 0 9]))))
def v222l1 : VCode :=
 (.seq (Rg [vB 6 (.bin .lss (.s 13) (.s 14))])
 (.seq (.cond (.s 6) .skip
 (.exit 2))
 (.seq (.block 3 (.seq (.reg [vA (.iad (.s 15) (.s 13) 11),lT 0 11,vB 16 (.lal [(.s []),(.i .i64 0),(.i .i64 0),(.i .i64 0),(.b false),(.i .u8 0),(.b false),.nil,(.b false),.nil,(.i .i64 0)]),sT 16 1 11] none)
 (.seq (Rg [mS 0,lS 16 11,vA (.calv (.l 0) [(.l 1)]),vB 7 (.un .not (.l 2))])
 (.cond (.s 7) .ret
 .skip))))
 (Rg [vA (.bin .add (.s 13) (cI 1)),mK 0 13]))))
def v222 : VFunc :=
 ⟨4,17,[],(.seq (Rg [vB 8 (.mov (.c .nil))])
 (.seq (.seq (Rg [vB 11 (.ld (.s 1) 1 false),vB 10 (.len 1 (.s 11)),mI 0 9])
 (.block 0 (.loop v222l0)))
 (.seq (.reg [mS 8,vA (.call 223 [(.l 0),(.c (.fn (.func 224) [] []))])] none)
 (.seq (Rg [mT 8 15,vB 14 (.len 1 (.s 15)),mI 0 13])
 (.block 2 (.loop v222l1)))))),false,false,none,false,none⟩
def v223 : VFunc :=
 ⟨2,2,[],(Rg [mS 0,mS 0,nL 1 1,mS 1,vA (.call 252 [(.l 0),(.l 2),(.l 3)])]),false,false,none,false,none⟩
def v226 : VFunc :=
 ⟨2,5,[.s 2],(.seq (Rg [vB 3 (.hbx 188 (.s 0) 1),vB 4 (.hbx 3 (.s 1) 1),mI 0 2])
 (.seq (Rg [sD 3 1,nL 1 0,vA (.mkf (.func 253) [] [(.s 3),(.s 4)]),c2 81 1 2,mK 3 2])
 .ret)),true,false,none,false,none⟩
def v229l0 : VCode :=
 (.seq (.seq (Rg [mS 0,nL 1 0,vA (.bin .gtr (.l 1) (cI 0)),mL 2,vG 3 true (.mov (.s 0)),vG 3 true (.mov (.s 0)),vG 3 true (.len 1 (.l 5)),vG 3 true (.bin .sub (.l 6) (cI 1)),vG 3 true (.iad (.l 4) (.l 7) 1),vG 3 true (.ld (.l 8) 1 false),vG 3 true (.bin .eql (.l 9) (.c (.i .u32 0))),vB 2 (.pick (.l 3) (.l 10) (.c (.b false)))])
 (.cond (.s 2) .skip
 (.exit 0)))
 (.block 1 (Rg [mS 0,mS 0,nL 1 1,vA (.bin .sub (.l 2) (cI 1)),vA (.sli false 1 (.l 0) none (some (.l 3)) none),mK 4 0])))
def v229 : VFunc :=
 ⟨1,3,[.s 1],(.seq (Rg [vB 1 (.mov (.c .nil))])
 (.seq (.block 0 (.loop v229l0))
 (.seq (Rg [mS 0,mK 0 1])
 .ret))),true,false,none,false,none⟩
def v230 : VFunc :=
 ⟨1,3,[.s 1],(.seq (Rg [vB 1 (.mov (.c .nil))])
 (.seq (.seq (Rg [mS 0,vB 2 (.eqv false .sl (.l 0) (.c .nil))])
 (.cond (.s 2) (.seq (Rg [vB 1 (.mov (.c .nil))])
 .ret)
 .skip))
 (.seq (Rg [vA (.bsl 1 0 [(.i .u32 0)] [] true),mS 0,vA (.app (.l 0) (.l 1) 1 4 true),mK 2 1])
 .ret))),true,true,none,false,none⟩
def v231l0 : VCode :=
 (.seq (.seq (Rg [mS 6,vB 4 (.bin .geq (.l 0) (cI 0))])
 (.cond (.s 4) .skip
 (.exit 0)))
 (.seq (.block 1 (Rg [mS 7,mS 6,mS 5,mS 0,mS 6,iA 3 4 1,lD 5 1,mS 1,vA (.call 257 [(.l 2),(.l 6),(.l 7)]),mL 8,xT 9 0,xT 9 1,iA 0 1 1,vA (.st (.l 12) (.l 10) 1),mK 11 5]))
 (Rg [mS 6,vA (.bin .sub (.l 0) (cI 1)),mK 1 6])))
def v231 : VFunc :=
 ⟨2,8,[.s 2,.s 3],(.seq (Rg [vB 2 (.mov (.c .nil)),vB 3 (.mov (.c (.i .u32 0)))])
 (.seq (Rg [mS 0,nL 1 0,vA (.mks (.l 1) (.l 1) 1 4 [(.i .u32 0)] true),mK 2 7])
 (.seq (Rg [vB 5 (.mov (.c (.i .u32 0)))])
 (.seq (.seq (Rg [mS 0,nL 1 0,vA (.bin .sub (.l 1) (cI 1)),mK 2 6])
 (.block 0 (.loop v231l0)))
 (.seq (Rg [mS 7,c1 229 0,mS 5,mK 1 2,mK 2 3])
 .ret))))),true,false,none,false,none⟩
def v232 : VFunc :=
 ⟨1,2,[.s 1],(.seq (Rg [mI 0 1])
 (.seq (Rg [mS 0,c1 246 0,vA (.bin .sub (cI 32) (.l 1)),mK 2 1])
 .ret)),true,false,none,false,none⟩
def v233l0 : VCode :=
 (.seq (Rg [vB 3 (.bin .lss (.s 4) (.s 5))])
 (.seq (.cond (.s 3) .skip
 (.exit 0))
 (.seq (.block 1 (.seq (Rg [mS 4,vA (.iad (.s 6) (.s 4) 1),lD 1 1,mK 0 9,mK 2 7])
 (.seq (Rg [mS 7,vA (.cvi .u64 (.l 0)),mS 1,vA (.bin .shl (.l 1) (.l 2)),mK 3 10])
 (.seq (Rg [mS 8,mS 9,iA 0 1 1,lD 2 1,mS 10,vA (.cvi .u32 (.l 4)),vA (.bin .or (.l 3) (.l 5)),iA 0 1 1,vA (.st (.l 7) (.l 6) 1)])
 (Rg [mS 8,mS 9,vA (.bin .add (.l 1) (cI 1)),mS 10,vA (.bin .shr (.l 3) (.c (.i .u64 32))),vA (.cvi .u32 (.l 4)),iA 0 2 1,vA (.st (.l 6) (.l 5) 1)])))))
 (Rg [vA (.bin .add (.s 4) (cI 1)),mK 0 4]))))
def v233 : VFunc :=
 ⟨2,11,[.s 2],(.seq (Rg [vB 2 (.mov (.c .nil))])
 (.seq (Rg [mS 0,nL 1 0,vA (.bin .add (.l 1) (cI 1)),vA (.mks (.l 2) (.l 2) 1 4 [(.i .u32 0)] true),mK 3 8])
 (.seq (.seq (Rg [mT 0 6,vB 5 (.len 1 (.s 6)),mI 0 4])
 (.block 0 (.loop v233l0)))
 (.seq (Rg [mS 8,mK 0 2])
 .ret)))),true,true,none,false,none⟩
def v234l0 : VCode :=
 (.seq (.seq (.reg [mS 11,vA (.bin .geq (.l 0) (.c (.i .u64 4294967296))),mL 1,vG 2 false (.mov (.s 11)),vG 2 false (.mov (.s 1)),vG 2 false (.mov (.s 8)),vG 2 false (.bin .sub (.l 5) (cI 2)),vG 2 false (.iad (.l 4) (.l 6) 1),vG 2 false (.ld (.l 7) 1 false),vG 2 false (.cvi .u64 (.l 8)),vG 2 false (.bin .mul (.l 3) (.l 9)),vG 2 false (.mov (.s 12)),vG 2 false (.bin .shl (.l 11) (.c (.i .u64 32))),vG 2 false (.mov (.s 0)),vG 2 false (.mov (.s 8)),vG 2 false (.bin .sub (.l 14) (cI 2)),vG 2 false (.iad (.l 13) (.l 15) 1),vG 2 false (.ld (.l 16) 1 false),vG 2 false (.cvi .u64 (.l 17)),vG 2 false (.bin .or (.l 12) (.l 18)),vG 2 false (.bin .gtr (.l 10) (.l 19)),vB 3 (.pick (.l 2) (.c (.b true)) (.l 20))] (some false))
 (.cond (.s 3) .skip
 (.exit 0)))
 (.block 1 (.seq (Rg [mS 11,vA (.bin .sub (.l 0) (.c (.i .u64 1))),mK 1 11])
 (.seq (Rg [mS 12,mS 10,vA (.bin .add (.l 0) (.l 1)),mK 2 12])
 (.seq (Rg [mS 12,vB 4 (.bin .geq (.l 0) (.c (.i .u64 4294967296)))])
 (.cond (.s 4) (.exit 0)
 .skip))))))
def v234l1 : VCode :=
 (.seq (Rg [vB 5 (.bin .lss (.s 15) (.s 16))])
 (.seq (.cond (.s 5) .skip
 (.exit 2))
 (.seq (.block 3 (.seq (Rg [mS 15,vA (.iad (.s 17) (.s 15) 1),lD 1 1,mK 0 20,mK 2 18])
 (.seq (Rg [mS 11,mS 18,vA (.cvi .u64 (.l 1)),vA (.bin .mul (.l 0) (.l 2)),mS 13,vA (.bin .add (.l 3) (.l 4)),mK 5 19])
 (.seq (Rg [mS 19,vA (.bin .shr (.l 0) (.c (.i .u64 32))),mK 1 13])
 (.seq (Rg [mS 0,mS 20,iA 0 1 1,lD 2 1,vA (.cvi .u64 (.l 3)),mS 19,vA (.cvi .u32 (.l 5)),vA (.cvi .u64 (.l 6)),vA (.bin .sub (.l 4) (.l 7)),mS 14,vA (.bin .sub (.l 8) (.l 9)),mK 10 21])
 (.seq (Rg [mS 0,mS 20,mS 21,vA (.cvi .u32 (.l 2)),iA 0 1 1,vA (.st (.l 4) (.l 3) 1)])
 (Rg [mS 21,vA (.bin .shr (.l 0) (.c (.i .u64 63))),mK 1 14])))))))
 (Rg [vA (.bin .add (.s 15) (cI 1)),mK 0 15]))))
def v234l2 : VCode :=
 (.seq (Rg [vB 7 (.bin .lss (.s 24) (.s 25))])
 (.seq (.cond (.s 7) .skip
 (.exit 4))
 (.seq (.block 5 (.seq (Rg [mS 24,vA (.iad (.s 26) (.s 24) 1),lD 1 1,mK 0 27,mK 2 28])
 (Rg [mS 0,mS 27,mS 0,mS 27,iA 2 3 1,lD 4 1,mS 28,mS 23,vA (.call 258 [(.l 5),(.l 6),(.l 7)]),mL 8,xT 9 0,xT 9 1,iA 0 1 1,vA (.st (.l 12) (.l 10) 1),mK 11 23])))
 (Rg [vA (.bin .add (.s 24) (cI 1)),mK 0 24]))))
def v234 : VFunc :=
 ⟨2,29,[.s 2],(.seq (Rg [vB 2 (.mov (.c (.i .u32 0)))])
 (.seq (Rg [mS 1,nL 1 0,mK 1 8])
 (.seq (.reg [mS 0,mS 8,iA 0 1 1,lD 2 1,vA (.cvi .u64 (.l 3)),vA (.bin .shl (.l 4) (.c (.i .u64 32))),mS 0,mS 8,vA (.bin .sub (.l 7) (cI 1)),iA 6 8 1,lD 9 1,vA (.cvi .u64 (.l 10)),vA (.bin .or (.l 5) (.l 11)),mK 12 9] (some false))
 (.seq (Rg [mS 1,mS 8,vA (.bin .sub (.l 1) (cI 1)),iA 0 2 1,lD 3 1,vA (.cvi .u64 (.l 4)),mK 5 10])
 (.seq (.reg [mS 9,mS 10,vA (.bin .quo (.l 0) (.l 1)),mS 9,mS 10,vA (.bin .rem (.l 3) (.l 4)),mK 2 11,mK 5 12] (some false))
 (.seq (.block 0 (.loop v234l0))
 (.seq (Rg [vB 13 (.mov (.c (.i .u64 0))),vB 14 (.mov (.c (.i .u64 0)))])
 (.seq (.seq (Rg [mT 1 17,vB 16 (.len 1 (.s 17)),mI 0 15])
 (.block 2 (.loop v234l1)))
 (.seq (Rg [mS 0,mS 8,iA 0 1 1,lD 2 1,vA (.cvi .u64 (.l 3)),mS 13,vA (.bin .sub (.l 4) (.l 5)),mS 14,vA (.bin .sub (.l 6) (.l 7)),mK 8 22])
 (.seq (Rg [mS 0,mS 8,mS 22,vA (.cvi .u32 (.l 2)),iA 0 1 1,vA (.st (.l 4) (.l 3) 1)])
 (.seq (.seq (Rg [mS 22,vA (.bin .shr (.l 0) (.c (.i .u64 63))),vB 6 (.bin .eql (.l 1) (.c (.i .u64 0)))])
 (.cond (.s 6) (.seq (Rg [mS 11,vA (.cvi .u32 (.l 0)),mK 1 2])
 .ret)
 .skip))
 (.seq (Rg [vB 23 (.mov (.c (.i .u32 0)))])
 (.seq (.seq (Rg [mT 1 26,vB 25 (.len 1 (.s 26)),mI 0 24])
 (.block 4 (.loop v234l2)))
 (.seq (Rg [mS 0,mS 8,iA 0 1 1,lD 2 1,mS 23,vA (.bin .add (.l 3) (.l 4)),iA 0 1 1,vA (.st (.l 6) (.l 5) 1)])
 (.seq (Rg [mS 11,vA (.bin .sub (.l 0) (.c (.i .u64 1))),vA (.cvi .u32 (.l 1)),mK 2 2])
 .ret))))))))))))))),false,false,none,false,none⟩
def v235 : VFunc :=
 ⟨1,4,[.s 1],(.seq (Rg [vB 3 (.hbx 313 (.s 0) 1),vB 1 (.mov (.c .nf))])
 (.seq (Rg [vB 2 (.hal 89 [(.i .u64 0)]),vA (.st (.s 2) (.c (.i .u64 0)) 1)])
 (.seq (Rg [vA (.mkf (.func 259) [] [(.s 2),(.s 3)]),mK 0 1])
 .ret))),false,false,none,false,none⟩
def v236 : VFunc :=
 ⟨3,5,[.s 3,.s 4],(.seq (Rg [vB 3 (.mov (.c (.i .u32 0))),vB 4 (.mov (.c (.i .u32 0)))])
 (.seq (Rg [mS 0,mS 1,vA (.bin .sub (.l 0) (.l 1)),mS 2,vA (.bin .sub (.l 2) (.l 3)),mK 4 3])
 (.seq (Rg [mS 0,vA (.un .xor (.l 0)),mS 1,vA (.bin .and (.l 1) (.l 2)),mS 0,mS 1,vA (.bin .xor (.l 4) (.l 5)),vA (.un .xor (.l 6)),mS 3,vA (.bin .and (.l 7) (.l 8)),vA (.bin .or (.l 3) (.l 9)),vA (.bin .shr (.l 10) (.c (.i .u64 31))),mK 11 4])
 .ret))),true,false,none,false,none⟩
def v246 : VFunc :=
 ⟨1,4,[.s 1],(.seq (Rg [mI 0 1])
 (.seq (.seq (Rg [mS 0,vB 2 (.bin .geq (.l 0) (.c (.i .u32 65536)))])
 (.cond (.s 2) (.seq (Rg [mS 0,vA (.bin .shr (.l 0) (.c (.i .u64 16))),mK 1 0])
 (Rg [mI 16 1]))
 .skip))
 (.seq (.seq (Rg [mS 0,vB 3 (.bin .geq (.l 0) (.c (.i .u32 256)))])
 (.cond (.s 3) (.seq (Rg [mS 0,vA (.bin .shr (.l 0) (.c (.i .u64 8))),mK 1 0])
 (Rg [mS 1,vA (.bin .add (.l 0) (cI 8)),mK 1 1]))
 .skip))
 (.seq (Rg [mS 1,mS 0,vA (.cvi .u8 (.l 1)),vA (.ixs (.c (.s [0,1,2,2,3,3,3,3,4,4,4,4,4,4,4,4,5,5,5,5,5,5,5,5,5,5,5,5,5,5,5,5,6,6,6,6,6,6,6,6,6,6,6,6,6,6,6,6,6,6,6,6,6,6,6,6,6,6,6,6,6,6,6,6,7,7,7,7,7,7,7,7,7,7,7,7,7,7,7,7,7,7,7,7,7,7,7,7,7,7,7,7,7,7,7,7,7,7,7,7,7,7,7,7,7,7,7,7,7,7,7,7,7,7,7,7,7,7,7,7,7,7,7,7,7,7,7,7,8,8,8,8,8,8,8,8,8,8,8,8,8,8,8,8,8,8,8,8,8,8,8,8,8,8,8,8,8,8,8,8,8,8,8,8,8,8,8,8,8,8,8,8,8,8,8,8,8,8,8,8,8,8,8,8,8,8,8,8,8,8,8,8,8,8,8,8,8,8,8,8,8,8,8,8,8,8,8,8,8,8,8,8,8,8,8,8,8,8,8,8,8,8,8,8,8,8,8,8,8,8,8,8,8,8,8,8,8,8,8,8,8,8,8,8,8,8,8,8,8,8,8,8,8,8,8,8])) (.l 2)),vA (.cvi .i64 (.l 3)),vA (.bin .add (.l 0) (.l 4)),mK 5 1])
 .ret)))),true,false,none,false,none⟩
def v248l0 : VCode :=
 (.seq (.seq (Rg [mS 7,mS 9,vA (.bin .geq (.l 0) (.l 1)),mL 2,vG 3 true (.mov (.s 6)),vG 3 true (.mov (.s 7)),vG 3 true (.bin .sub (.l 4) (.l 5)),vG 3 true (.lfa (.sl 10) 3),vG 3 true (.lld (.lo 7) 1 false),vG 3 true (.mov (.s 9)),vG 3 true (.bin .add (.l 8) (.l 9)),vG 3 true (.bin .geq (.l 6) (.l 10)),vB 3 (.pick (.l 3) (.l 11) (.c (.b false)))])
 (.cond (.s 3) .skip
 (.exit 0)))
 (.block 1 (.seq (.reg [mS 6,mS 7,vA (.bin .quo (.l 0) (.l 1)),mS 6,mS 7,vA (.bin .rem (.l 3) (.l 4)),mK 2 12,mK 5 11] (some false))
 (.seq (Rg [mS 7,mS 11,mK 0 6,mK 1 7])
 (.seq (Rg [fA 10 1,lO 0 1,mS 8,fA 10 1,lO 3 1,mS 12,mS 8,vA (.bin .mul (.l 5) (.l 6)),vA (.bin .add (.l 4) (.l 7)),fA 10 0,vA (.lst (.lo 9) (.l 1) 1),fA 10 1,vA (.lst (.lo 11) (.l 2) 1),mK 8 8])
 (.seq (Rg [fA 10 3,lO 0 1,mS 9,fA 10 3,lO 3 1,mS 12,mS 9,vA (.bin .mul (.l 5) (.l 6)),vA (.bin .add (.l 4) (.l 7)),fA 10 2,vA (.lst (.lo 9) (.l 1) 1),fA 10 3,vA (.lst (.lo 11) (.l 2) 1),mK 8 9])
 (Rg [fA 10 4,lO 0 1,vA (.un .not (.l 1)),fA 10 4,vA (.lst (.lo 3) (.l 2) 1)])))))))
def v248 : VFunc :=
 ⟨2,13,[.bx 2 5 true],(.seq (Rg [vB 2 (.lal [(.i .u64 0),(.i .u64 0),(.i .u64 0),(.i .u64 0),(.b false)])])
 (.seq (Rg [mS 0,nL 1 0,mK 1 4])
 (.seq (Rg [mS 0,mS 4,vA (.bin .sub (.l 1) (cI 1)),iA 0 2 1,lD 3 1,c1 232 4,mK 5 5])
 (.seq (Rg [mS 0,mS 4,mS 5,vA (.call 265 [(.l 0),(.l 1),(.l 2)]),mS 1,mS 4,mS 5,vA (.call 265 [(.l 4),(.l 5),(.l 6)]),mK 3 6,mK 7 7])
 (.seq (Rg [vA (.agc [(.i .u64 0),(.i .u64 0),(.i .u64 0),(.i .u64 0),(.b false)] [(1,1,(.c (.i .u64 1)))]),vB 10 (.lal [(.i .u64 0),(.i .u64 0),(.i .u64 0),(.i .u64 0),(.b false)]),sT 10 0 5])
 (.seq (Rg [vB 8 (.mov (.c (.i .u64 0))),vB 9 (.mov (.c (.i .u64 1)))])
 (.seq (.block 0 (.loop v248l0))
 (.seq (Rg [lS 10 5,sT 2 0 5])
 .ret)))))))),true,false,none,false,none⟩
def v249l0 : VCode :=
 (.seq (Rg [vB 5 (.bin .lss (.s 12) (.s 13))])
 (.seq (.cond (.s 5) .skip
 (.exit 0))
 (.seq (.block 1 (.seq (Rg [mS 12,mK 0 14])
 (.seq (.seq (Rg [mS 14,mS 1,nL 1 1,vB 6 (.bin .lss (.l 0) (.l 2))])
 (.cond (.s 6) (Rg [mS 8,mS 0,mS 1,mS 14,iA 2 3 1,lD 4 1,vA (.cvi .u64 (.l 5)),vA (.bin .mul (.l 1) (.l 6)),vA (.bin .add (.l 0) (.l 7)),mK 8 8])
 .skip))
 (.seq (.seq (Rg [mS 14,mS 3,nL 1 1,vB 7 (.bin .lss (.l 0) (.l 2))])
 (.cond (.s 7) (Rg [mS 9,mS 2,mS 3,mS 14,iA 2 3 1,lD 4 1,vA (.cvi .u64 (.l 5)),vA (.bin .mul (.l 1) (.l 6)),vA (.bin .add (.l 0) (.l 7)),mK 8 9])
 .skip))
 (.seq (Rg [mS 11,mS 14,mS 8,vA (.cvi .u32 (.l 2)),mS 9,vA (.cvi .u32 (.l 4)),mS 10,vA (.call 236 [(.l 3),(.l 5),(.l 6)]),mL 7,xT 8 0,xT 8 1,iA 0 1 1,vA (.st (.l 11) (.l 9) 1),mK 10 10])
 (.seq (Rg [mS 8,vA (.bin .shr (.l 0) (.c (.i .u64 32))),mK 1 8])
 (Rg [mS 9,vA (.bin .shr (.l 0) (.c (.i .u64 32))),mK 1 9])))))))
 (Rg [vA (.bin .add (.s 12) (cI 1)),mK 0 12]))))
def v249 : VFunc :=
 ⟨4,15,[.s 4],(.seq (Rg [vB 4 (.mov (.c .nil))])
 (.seq (Rg [mS 1,nL 1 0,mS 3,nL 1 2,vA (.mx [(.l 1),(.l 3)]),vA (.bin .add (.l 4) (cI 1)),vA (.mks (.l 5) (.l 5) 1 4 [(.i .u32 0)] true),mK 6 11])
 (.seq (Rg [vB 8 (.mov (.c (.i .u64 0))),vB 9 (.mov (.c (.i .u64 0))),vB 10 (.mov (.c (.i .u32 0)))])
 (.seq (.seq (Rg [mS 11,vB 13 (.len 1 (.l 0)),mI 0 12])
 (.block 0 (.loop v249l0)))
 (.seq (Rg [mS 11,c1 229 0,mK 1 4])
 .ret))))),true,false,none,false,none⟩
def r4 : Rnd :=
 ⟨250,[true,true,false,true,false],14,[0,2,6,7,3,4],[3],(Rg [mT 3 5]),(.block 1 (Rg [sD 4 1,vA (.bin .shl (.l 0) (.c (.i .u64 32))),mS 5,vA (.cvi .u64 (.l 2)),vA (.bin .or (.l 1) (.l 3)),vA (.st (.s 4) (.l 4) 1)]))⟩
def v250 : VFunc :=
 ⟨1,6,[.s 1],(.seq (Rg [vB 1 (.mov (.c (.i .u64 0)))])
 (.seq (Rg [vB 4 (.hal 89 [(.i .u64 0)]),vA (.st (.s 4) (.c (.i .u64 0)) 1)])
 (.seq (.seq (Rg [mS 0,vB 2 (.call 266 [(.l 0)])])
 (.block 0 (.rng 4 (.s 2))))
 (.seq (Rg [sD 4 1,mK 0 1])
 .ret)))),true,false,none,false,some 250⟩
def v251 : VFunc :=
 ⟨1,2,[.s 1],(.seq (Rg [vB 1 (.mov (.c .nil))])
 (.seq (Rg [mS 0,vA (.cvi .u32 (.l 0)),mS 0,vA (.bin .shr (.l 2) (.c (.i .u64 32))),vA (.cvi .u32 (.l 3)),vA (.bsv 1 2 [(.i .u32 0)] [(0,(.l 1)),(1,(.l 4))]),c1 229 5,mK 6 1])
 .ret)),true,false,none,false,none⟩
def v252l0 : VCode :=
 (.seq (.seq (Rg [mS 9,mS 1,vB 3 (.bin .leq (.l 0) (.l 1))])
 (.cond (.s 3) .skip
 (.exit 0)))
 (.block 1 (.seq (Rg [mS 0,mS 8,mS 9,mS 2,vA (.call 267 [(.l 0),(.l 1),(.l 2),(.l 3)])])
 (.seq (Rg [mS 9,mK 0 8])
 (Rg [mS 9,mS 7,vA (.bin .add (.l 0) (.l 1)),mK 2 9])))))
def v252l1 : VCode :=
 (.seq (.seq (Rg [mS 9,mS 1,vB 5 (.bin .leq (.l 0) (.l 1))])
 (.cond (.s 5) .skip
 (.exit 4)))
 (.block 5 (.seq (Rg [mS 0,mS 8,mS 8,mS 7,vA (.bin .add (.l 2) (.l 3)),mS 9,mS 2,vA (.call 268 [(.l 0),(.l 1),(.l 4),(.l 5),(.l 6)])])
 (.seq (Rg [mS 9,mK 0 8])
 (Rg [mS 9,mS 7,vA (.bin .mul (cI 2) (.l 1)),vA (.bin .add (.l 0) (.l 2)),mK 3 9])))))
def v252l2 : VCode :=
 (.seq (.seq (Rg [mS 7,mS 1,vB 4 (.bin .lss (.l 0) (.l 1))])
 (.cond (.s 4) .skip
 (.exit 2)))
 (.block 3 (.seq (Rg [mS 7,vA (.bin .mul (cI 2) (.l 0)),mI 0 8,mK 1 9])
 (.seq (.block 4 (.loop v252l1))
 (.seq (.seq (Rg [mS 8,mS 7,vA (.bin .add (.l 0) (.l 1)),mK 2 10])
 (.seq (Rg [mS 10,mS 1,vB 6 (.bin .lss (.l 0) (.l 1))])
 (.cond (.s 6) (Rg [mS 0,mS 8,mS 10,mS 1,mS 2,vA (.call 268 [(.l 0),(.l 1),(.l 2),(.l 3),(.l 4)])])
 .skip)))
 (Rg [mS 7,vA (.bin .mul (.l 0) (cI 2)),mK 1 7]))))))
def v252 : VFunc :=
 ⟨3,11,[],(.seq (Rg [mI 20 7])
 (.seq (Rg [mS 7,mI 0 8,mK 0 9])
 (.seq (.block 0 (.loop v252l0))
 (.seq (Rg [mS 0,mS 8,mS 1,mS 2,vA (.call 267 [(.l 0),(.l 1),(.l 2),(.l 3)])])
 (.block 2 (.loop v252l2)))))),false,false,none,false,none⟩
def v253 : VFunc :=
 ⟨3,4,[.s 3],(.seq (Rg [mB false 3])
 (.seq (.reg [sD 1 1,mS 0,iA 0 1 1,lD 2 1,sD 2 1,vA (.bin .geq (.l 3) (.l 4)),mK 5 3] (some false))
 .ret)),false,false,none,false,none⟩
def v257 : VFunc :=
 ⟨3,7,[.s 3,.s 4],(.seq (Rg [vB 3 (.mov (.c (.i .u32 0))),vB 4 (.mov (.c (.i .u32 0)))])
 (.seq (.seq (Rg [mS 2,vA (.bin .neq (.l 0) (.c (.i .u32 0))),mL 1,vG 2 true (.mov (.s 2)),vG 2 true (.mov (.s 0)),vG 2 true (.bin .leq (.l 3) (.l 4)),vB 5 (.pick (.l 2) (.l 5) (.c (.b false)))])
 (.cond (.s 5) (Rg [vA (.stk),vA (.pan (.l 0))])
 .skip))
 (.seq (Rg [mS 0,vA (.cvi .u64 (.l 0)),vA (.bin .shl (.l 1) (.c (.i .u64 32))),mS 1,vA (.cvi .u64 (.l 3)),vA (.bin .or (.l 2) (.l 4)),mK 5 6])
 (.seq (.reg [mS 6,mS 2,vA (.cvi .u64 (.l 1)),vA (.bin .quo (.l 0) (.l 2)),vA (.cvi .u32 (.l 3)),mS 6,mS 2,vA (.cvi .u64 (.l 6)),vA (.bin .rem (.l 5) (.l 7)),vA (.cvi .u32 (.l 8)),mK 4 3,mK 9 4] (some false))
 .ret)))),true,false,none,false,none⟩
def v258 : VFunc :=
 ⟨3,6,[.s 3,.s 4],(.seq (Rg [vB 3 (.mov (.c (.i .u32 0))),vB 4 (.mov (.c (.i .u32 0)))])
 (.seq (Rg [mS 0,vA (.cvi .u64 (.l 0)),mS 1,vA (.cvi .u64 (.l 2)),vA (.bin .add (.l 1) (.l 3)),mS 2,vA (.cvi .u64 (.l 5)),vA (.bin .add (.l 4) (.l 6)),mK 7 5])
 (.seq (Rg [mS 5,vA (.cvi .u32 (.l 0)),mK 1 3])
 (.seq (Rg [mS 5,vA (.bin .shr (.l 0) (.c (.i .u64 32))),vA (.cvi .u32 (.l 1)),mK 2 4])
 .ret)))),true,false,none,false,none⟩
def v259 : VFunc :=
 ⟨3,3,[],(.seq (Rg [mS 0,sD 1 1,vA (.bin .add (.l 0) (.l 1)),mK 2 0])
 (.seq (.reg [vA (.ldh (.s 2) 1 false),vA (.ldh (.s 2) 1 false),vA (.nck (.l 1)),lD 2 1,mS 0,vA (.cvi .u32 (.l 4)),vA (.bsv 1 1 [(.i .u32 0)] [(0,(.l 5))]),vA (.app (.l 3) (.l 6) 1 4 true),vA (.nck (.l 0)),vA (.st (.l 8) (.l 7) 1)] (some false))
 (Rg [mS 0,vA (.bin .shr (.l 0) (.c (.i .u64 32))),vA (.st (.s 1) (.l 1) 1)]))),false,false,none,false,none⟩
def v265 : VFunc :=
 ⟨3,6,[.s 3],(.seq (Rg [vB 4 (.hbx 261 (.s 0) 1),vB 3 (.mov (.c (.i .u64 0)))])
 (.seq (Rg [vA (.mkf (.func 271) [] [(.s 4)]),mK 0 5])
 (.seq (.reg [mS 5,mS 1,vA (.bin .sub (.l 1) (cI 1)),vA (.calv (.l 0) [(.l 2)]),vA (.bin .shl (.l 3) (.c (.i .u64 32))),mS 5,mS 1,vA (.bin .sub (.l 6) (cI 2)),vA (.calv (.l 5) [(.l 7)]),vA (.bin .or (.l 4) (.l 8)),mS 2,vA (.bin .shl (.l 9) (.l 10)),mS 5,mS 1,vA (.bin .sub (.l 13) (cI 3)),vA (.calv (.l 12) [(.l 14)]),mS 2,vA (.bin .sub (cI 32) (.l 16)),vA (.bin .shr (.l 15) (.l 17)),vA (.bin .or (.l 11) (.l 18)),mK 19 3] (some false))
 .ret))),true,false,none,false,none⟩
def v266 : VFunc :=
 ⟨1,3,[.s 1],(.seq (Rg [vB 2 (.hbx 261 (.s 0) 1),vB 1 (.mov (.c .nf))])
 (.seq (Rg [vA (.mkf (.func 272) [] [(.s 2)]),mK 0 1])
 .ret)),false,false,none,false,none⟩
def v267l0 : VCode :=
 (.seq (.seq (.reg [mS 7,mS 1,vA (.bin .gtr (.l 0) (.l 1)),mL 2,vG 3 true (.mov (.s 3)),vG 3 true (.mov (.s 0)),vG 3 true (.mov (.s 7)),vG 3 true (.iad (.l 5) (.l 6) 11),vG 3 true (.ld (.l 7) 11 true),vG 3 true (.mov (.s 0)),vG 3 true (.mov (.s 7)),vG 3 true (.bin .sub (.l 10) (cI 1)),vG 3 true (.iad (.l 9) (.l 11) 11),vG 3 true (.ld (.l 12) 11 true),vG 3 true (.calv (.l 4) [(.l 8),(.l 13)]),vG 3 true (.bin .lss (.l 14) (cI 0)),vB 5 (.pick (.l 3) (.l 15) (.c (.b false)))] (some false))
 (.cond (.s 5) .skip
 (.exit 2)))
 (.seq (.block 3 (.reg [mS 0,mS 7,mS 0,mS 7,vA (.bin .sub (.l 3) (cI 1)),mS 0,mS 7,vA (.bin .sub (.l 6) (cI 1)),iA 5 7 11,lT 8 11,mS 0,mS 7,iA 10 11 11,lT 12 11,iA 0 1 11,vA (.st (.l 14) (.l 9) 11),iA 2 4 11,vA (.st (.l 16) (.l 13) 11)] (some false)))
 (Rg [mS 7,vA (.bin .sub (.l 0) (cI 1)),mK 1 7])))
def v267l1 : VCode :=
 (.seq (.seq (Rg [mS 6,mS 2,vB 4 (.bin .lss (.l 0) (.l 1))])
 (.cond (.s 4) .skip
 (.exit 0)))
 (.seq (.block 1 (.seq (Rg [mS 6,mK 0 7])
 (.block 2 (.loop v267l0))))
 (Rg [mS 6,vA (.bin .add (.l 0) (cI 1)),mK 1 6])))
def v267 : VFunc :=
 ⟨4,8,[],(.seq (Rg [mS 1,vA (.bin .add (.l 0) (cI 1)),mK 1 6])
 (.block 0 (.loop v267l1))),false,false,none,false,none⟩
def v271 : VFunc :=
 ⟨2,4,[.s 2],(.seq (Rg [vB 2 (.mov (.c (.i .u64 0)))])
 (.seq (.seq (Rg [mS 0,sD 1 1,nL 1 1,vB 3 (.bin .geq (.l 0) (.l 2))])
 (.cond (.s 3) (.seq (Rg [vB 2 (.mov (.c (.i .u64 0)))])
 .ret)
 .skip))
 (.seq (Rg [sD 1 1,mS 0,iA 0 1 1,lD 2 1,vA (.cvi .u64 (.l 3)),mK 4 2])
 .ret))),false,false,none,false,none⟩
def v272l0 : VCode :=
 (.seq (.seq (Rg [mS 4,vB 2 (.bin .geq (.l 0) (cI 0))])
 (.cond (.s 2) .skip
 (.exit 0)))
 (.seq (.block 1 (.seq (Rg [mS 0,sD 1 1,mS 4,iA 1 2 1,lD 3 1,vA (.calv (.l 0) [(.l 4)]),vB 3 (.un .not (.l 5))])
 (.cond (.s 3) .ret
 .skip)))
 (Rg [mS 4,vA (.bin .sub (.l 0) (cI 1)),mK 1 4])))
def v272 : VFunc :=
 ⟨2,5,[],(.seq (Rg [sD 1 1,nL 1 0,vA (.bin .sub (.l 1) (cI 1)),mK 2 4])
 (.block 0 (.loop v272l0))),false,false,none,false,none⟩
def v302 : VFunc :=
 ⟨4,6,[],(.seq (.reg [mS 1,mS 2,mS 3,vA (.agc [(.s []),(.i .i64 0),(.i .i64 0)] [(0,1,(.l 0)),(1,1,(.l 1)),(2,1,(.l 2))]),vB 5 (.lal [(.s []),(.i .i64 0),(.i .i64 0)]),sT 5 3 3] none)
 (.seq (.reg [mS 0,vA (.nck (.l 0)),fD 1 3,lD 2 1,lS 5 3,vA (.lk (.st [2,1,1]) (.l 3) (.l 4) false (.b false)),vB 4 (.un .not (.l 5))] (some false))
 (.cond (.s 4) (.seq (.reg [mS 0,vA (.nck (.l 0)),fD 1 3,lD 2 1,lS 5 3,vA (.mup (.st [2,1,1]) (.l 3) (.l 4) (.c (.b true)))] (some false))
 (.reg [mS 0,mS 0,vA (.nck (.l 1)),fD 2 5,fD 3 1,lD 4 1,lS 5 3,vA (.bsv 3 1 [(.s []),(.i .i64 0),(.i .i64 0)] [(0,(.l 6))]),vA (.app (.l 5) (.l 7) 3 32 true),vA (.nck (.l 0)),fD 9 5,fD 10 1,vA (.st (.l 11) (.l 8) 1)] (some false)))
 .skip))),false,false,none,false,none⟩
def fnsA : List (FuncId × VFunc) :=
 [(3, v3), (8, v8), (12, v12), (18, v18), (22, v22), (27, v27), (31, v31), (36, v36), (40, v40), (44, v44), (49, v49), (53, v53), (66, v66), (75, v75), (81, v81), (99, v99), (108, v108), (128, v128), (136, v136), (143, v143), (150, v150), (173, v173), (177, v177), (193, v193), (197, v197), (211, v211), (215, v215), (223, v223), (231, v231), (235, v235), (249, v249), (253, v253), (265, v265), (272, v272)]
def fnsB : List (FuncId × VFunc) :=
 [(5, v5), (9, v9), (13, v13), (19, v19), (23, v23), (28, v28), (32, v32), (37, v37), (41, v41), (45, v45), (50, v50), (54, v54), (67, v67), (77, v77), (82, v82), (100, v100), (109, v109), (129, v129), (137, v137), (144, v144), (151, v151), (174, v174), (178, v178), (194, v194), (208, v208), (212, v212), (218, v218), (226, v226), (232, v232), (236, v236), (250, v250), (257, v257), (266, v266), (302, v302)]
def fnsC : List (FuncId × VFunc) :=
 [(6, v6), (10, v10), (16, v16), (20, v20), (25, v25), (29, v29), (33, v33), (38, v38), (42, v42), (47, v47), (51, v51), (59, v59), (68, v68), (78, v78), (91, v91), (102, v102), (111, v111), (131, v131), (140, v140), (147, v147), (153, v153), (175, v175), (179, v179), (195, v195), (209, v209), (213, v213), (221, v221), (229, v229), (233, v233), (246, v246), (251, v251), (258, v258), (267, v267)]
def fnsD : List (FuncId × VFunc) :=
 [(7, v7), (11, v11), (17, v17), (21, v21), (26, v26), (30, v30), (34, v34), (39, v39), (43, v43), (48, v48), (52, v52), (64, v64), (74, v74), (80, v80), (97, v97), (104, v104), (125, v125), (135, v135), (141, v141), (149, v149), (172, v172), (176, v176), (188, v188), (196, v196), (210, v210), (214, v214), (222, v222), (230, v230), (234, v234), (248, v248), (252, v252), (259, v259), (271, v271)]
def fns : List (FuncId × VFunc) := fnsA ++ (fnsB ++ (fnsC ++ fnsD))
def rnds : List (Nat × Rnd) :=
 [(3, r3), (4, r4)]
def rndOf : List (Nat × Rnd) -> Nat -> Option Rnd
 | [], _ => none
 | (g, v) :: r, f => if g = f then some v else rndOf r f
def fnOf : List (FuncId × VFunc) -> FuncId -> Option VFunc
 | [], _ => none
 | (g, v) :: r, f => if g = f then some v else fnOf r f
def meths : TypeId -> String -> Option FuncId := fun t m => if t = 74 /\ m = "Pair" then some 29 else if t = 74 /\ m = "Fact" then some 302 else none
/-- The kinds that an operation's arguments may have. -/
def kindsT : List (List UInt8) := [[], [], [], [52], [52], [], [50, 32, 50, 50], [50, 50, 32, 51, 51, 32, 53, 53, 32, 54, 54, 32, 52, 53, 32, 52, 54], [50, 50, 32, 51, 51, 32, 53, 53, 32, 54, 54, 32, 52, 52, 32, 52, 53, 32, 52, 54], [50, 50, 32, 51, 50, 32, 50, 51], [50, 50, 32, 51, 51, 32, 51, 50], [50, 50, 32, 51, 51, 32, 52, 52, 32, 53, 53, 32, 54, 54], [50, 50, 32, 51, 51, 32, 52, 52, 32, 53, 53, 32, 54, 54], [50, 50, 32, 51, 51, 32, 52, 52, 32, 53, 53, 32, 54, 54], [49, 49, 32, 50, 50, 32, 51, 51, 32, 52, 52, 32, 53, 53, 32, 54, 54], [], [], [49], [], [50, 50, 32, 51, 51], [52, 52], [52, 52], [52, 52, 54], [52, 52], [50], [50, 32, 51, 32, 53, 32, 54], [52]]
/-- The months' lengths. -/
def lensT : List Int := [31, 28, 31, 30, 31, 30, 31, 31, 30, 31, 30, 31]
def globs : Nat -> Option (Nat × List (List D)) := fun g => if g = 0 then some (1, kindsT.map fun s => [.s s]) else if g = 1 then some (1, lensT.map fun n => [.i .i64 n]) else none
/-- .. with what is shown beside the machine. -/
def Vx (e : FuncId -> List D -> Heap -> Option (D × Heap)) (p : FuncId -> List D -> Option D) : VProg := ⟨fnOf fns, meths, e, p, globs, rndOf rnds⟩
def V : VProg := Vx (fun _ _ _ => none) (fun _ _ => none)
end Go.Proofs.YtdpnanafhabkiaaGreatDoor.Dv
