/-
  The machine's code of the program's functions,by program.
-/
import Derived.Attr
import Derived.Test.YtgefdialaemelaaGreatDoorDa
namespace Go.Proofs.YtgefdialaemelaaGreatDoor.Dv
open Go.Dm
def mS (a:Nat):VOper:=⟨.mov (.s a),none,none⟩
@[go_sem] theorem mS_eq {a:Nat}:mS a=⟨.mov (.s a),none,none⟩:=rfl
def mL (a:Nat):VOper:=⟨.mov (.l a),none,none⟩
@[go_sem] theorem mL_eq {a:Nat}:mL a=⟨.mov (.l a),none,none⟩:=rfl
def mK (a:Nat) (k:Nat):VOper:=⟨.mov (.l a),some k,none⟩
@[go_sem] theorem mK_eq {a:Nat} {k:Nat}:mK a k=⟨.mov (.l a),some k,none⟩:=rfl
def mT (a:Nat) (k:Nat):VOper:=⟨.mov (.s a),some k,none⟩
@[go_sem] theorem mT_eq {a:Nat} {k:Nat}:mT a k=⟨.mov (.s a),some k,none⟩:=rfl
def mI (n:Int) (k:Nat):VOper:=⟨.mov (.c (.i .i64 n)),some k,none⟩
@[go_sem] theorem mI_eq {n:Int} {k:Nat}:mI n k=⟨.mov (.c (.i .i64 n)),some k,none⟩:=rfl
def mB (x:Bool) (k:Nat):VOper:=⟨.mov (.c (.b x)),some k,none⟩
@[go_sem] theorem mB_eq {x:Bool} {k:Nat}:mB x k=⟨.mov (.c (.b x)),some k,none⟩:=rfl
def fA (a:Nat) (n:Nat):VOper:=⟨.lfa (.sl a) n,none,none⟩
@[go_sem] theorem fA_eq {a:Nat} {n:Nat}:fA a n=⟨.lfa (.sl a) n,none,none⟩:=rfl
def sT (a:Nat) (l:Nat) (n:Nat):VOper:=⟨.lst (.sl a) (.l l) n,none,none⟩
@[go_sem] theorem sT_eq {a:Nat} {l:Nat} {n:Nat}:sT a l n=⟨.lst (.sl a) (.l l) n,none,none⟩:=rfl
def lO (a:Nat) (n:Nat):VOper:=⟨.lld (.lo a) n false,none,none⟩
@[go_sem] theorem lO_eq {a:Nat} {n:Nat}:lO a n=⟨.lld (.lo a) n false,none,none⟩:=rfl
def lP (a:Nat) (n:Nat):VOper:=⟨.lld (.lo a) n true,none,none⟩
@[go_sem] theorem lP_eq {a:Nat} {n:Nat}:lP a n=⟨.lld (.lo a) n true,none,none⟩:=rfl
def lS (a:Nat) (n:Nat):VOper:=⟨.lld (.sl a) n true,none,none⟩
@[go_sem] theorem lS_eq {a:Nat} {n:Nat}:lS a n=⟨.lld (.sl a) n true,none,none⟩:=rfl
def xT (a:Nat) (n:Nat):VOper:=⟨.ext (.l a) n,none,none⟩
@[go_sem] theorem xT_eq {a:Nat} {n:Nat}:xT a n=⟨.ext (.l a) n,none,none⟩:=rfl
def c1 (f:Nat) (a:Nat):VOper:=⟨.call f [(.l a)],none,none⟩
@[go_sem] theorem c1_eq {f:Nat} {a:Nat}:c1 f a=⟨.call f [(.l a)],none,none⟩:=rfl
def c2 (f:Nat) (a:Nat) (e:Nat):VOper:=⟨.call f [(.l a),(.l e)],none,none⟩
@[go_sem] theorem c2_eq {f:Nat} {a:Nat} {e:Nat}:c2 f a e=⟨.call f [(.l a),(.l e)],none,none⟩:=rfl
def bX (a:Nat) (n:Nat) (k:Nat):VOper:=⟨.lbx (.s a) n,some k,none⟩
@[go_sem] theorem bX_eq {a:Nat} {n:Nat} {k:Nat}:bX a n k=⟨.lbx (.s a) n,some k,none⟩:=rfl
def lD (a:Nat) (n:Nat):VOper:=⟨.ld (.l a) n false,none,none⟩
@[go_sem] theorem lD_eq {a:Nat} {n:Nat}:lD a n=⟨.ld (.l a) n false,none,none⟩:=rfl
def lT (a:Nat) (n:Nat):VOper:=⟨.ld (.l a) n true,none,none⟩
@[go_sem] theorem lT_eq {a:Nat} {n:Nat}:lT a n=⟨.ld (.l a) n true,none,none⟩:=rfl
def sD (a:Nat) (n:Nat):VOper:=⟨.ld (.s a) n false,none,none⟩
@[go_sem] theorem sD_eq {a:Nat} {n:Nat}:sD a n=⟨.ld (.s a) n false,none,none⟩:=rfl
def iA (a:Nat) (e:Nat) (n:Nat):VOper:=⟨.iad (.l a) (.l e) n,none,none⟩
@[go_sem] theorem iA_eq {a:Nat} {e:Nat} {n:Nat}:iA a e n=⟨.iad (.l a) (.l e) n,none,none⟩:=rfl
def nL (a:Nat) (e:Nat):VOper:=⟨.len a (.l e),none,none⟩
@[go_sem] theorem nL_eq {a:Nat} {e:Nat}:nL a e=⟨.len a (.l e),none,none⟩:=rfl
def fD (a:Nat) (n:Nat):VOper:=⟨.fad (.l a) n,none,none⟩
@[go_sem] theorem fD_eq {a:Nat} {n:Nat}:fD a n=⟨.fad (.l a) n,none,none⟩:=rfl
def cI (n:Int):O := .c (.i .i64 n)
@[go_sem] theorem cI_eq {n:Int}:cI n = .c (.i .i64 n):=rfl
def vA (x:VOp):VOper:=⟨x,none,none⟩
@[go_sem] theorem vA_eq {x:VOp}:vA x=⟨x,none,none⟩:=rfl
def vB (k:Nat) (x:VOp):VOper:=⟨x,some k,none⟩
@[go_sem] theorem vB_eq {k:Nat} {x:VOp}:vB k x=⟨x,some k,none⟩:=rfl
def vG (i:Nat) (b:Bool) (x:VOp):VOper:=⟨x,none,some ((.l i),b)⟩
@[go_sem] theorem vG_eq {i:Nat} {b:Bool} {x:VOp}:vG i b x=⟨x,none,some ((.l i),b)⟩:=rfl
def Rg (x:List VOper):VCode := .reg x none
@[go_sem] theorem Rg_eq {x:List VOper}:Rg x = .reg x none:=rfl
def z9:List D:=[(.i .u8 0),(.s []),(.i .u8 0),(.b false),.nil,(.b false),.nil,(.i .i64 0),.nil]
@[go_sem] theorem z9_eq:z9=[(.i .u8 0),(.s []),(.i .u8 0),(.b false),.nil,(.b false),.nil,(.i .i64 0),.nil]:=rfl
def z6:List D:=[(.i .u8 0),(.b false),.nil,(.b false),.nil,(.i .i64 0)]
@[go_sem] theorem z6_eq:z6=[(.i .u8 0),(.b false),.nil,(.b false),.nil,(.i .i64 0)]:=rfl
def z4:List D:=[(.b false),.nil,(.b false),.nil]
@[go_sem] theorem z4_eq:z4=[(.b false),.nil,(.b false),.nil]:=rfl
def v3:VFunc :=
 ⟨3,19,[.s 3],(.seq (Rg [mB false 3])
 (.seq (Rg [mS 0,vA (.bin .rem (.l 0) (.c (.i .u64 2199023255552))),vA (.cvi .i64 (.l 1)),mK 2 8])
 (.seq (Rg [mS 2,vA (.cvi .i64 (.l 0)),vA (.bin .add (.l 1) (cI 1)),mK 2 7])
 (.seq (Rg [mS 1,vA (.cvi .i64 (.l 0)),mS 7,vA (.bin .rem (.l 1) (.l 2)),mK 3 9])
 (.seq (Rg [mS 8,mS 7,vA (.bin .mul (.l 0) (.l 1)),mS 9,vA (.bin .add (.l 2) (.l 3)),mS 7,c2 4 4 5,mS 8,vA (.un .neg (.l 7)),mS 7,vA (.bin .mul (.l 8) (.l 9)),mS 9,vA (.bin .sub (.l 10) (.l 11)),mS 7,c2 4 12 13,vB 11 (.lal z4),vB 12 (.lal z4),sT 11 6 4,sT 12 14 4])
 (.seq (Rg [mS 8,mK 0 10])
 (.seq (.seq (Rg [mS 9,vA (.bin .mul (cI 2) (.l 0)),mS 7,vB 4 (.bin .geq (.l 1) (.l 2))])
 (.cond (.s 4) (Rg [mS 10,vA (.bin .add (.l 0) (cI 1)),mK 1 10])
 .skip))
 (.seq (Rg [lS 11 4,vA (.agc z6 [(0,1,(.c (.i .u8 3))),(1,4,(.l 0))]),c1 5 1,mL 2,xT 3 0,xT 3 1,mK 4 18,mK 5 17])
 (.seq (Rg [lS 12 4,vA (.agc z6 [(0,1,(.c (.i .u8 3))),(1,4,(.l 0))]),c1 5 1,mL 2,xT 3 0,xT 3 1,mK 4 15,mK 5 16])
 (.seq (Rg [lS 11 4,vA (.agc z6 [(0,1,(.c (.i .u8 2))),(1,4,(.l 0))]),c1 5 1,mL 2,xT 3 0,xT 3 1,mK 4 14,mK 5 13])
 (.seq (.seq (Rg [mS 13,vA (.bin .neq (.l 0) (cI 185)),mL 1,vG 2 false (.mov (.s 14)),vG 2 false (.bin .neq (.l 3) (cI 0)),vA (.pick (.l 2) (.c (.b true)) (.l 4)),mL 5,vG 6 false (.mov (.s 15)),vG 6 false (.bin .neq (.l 7) (cI 0)),vA (.pick (.l 6) (.c (.b true)) (.l 8)),mL 9,vG 10 false (.mov (.s 16)),vG 10 false (.bin .neq (.l 11) (cI 0)),vB 5 (.pick (.l 10) (.c (.b true)) (.l 12))])
 (.cond (.s 5) (.seq (Rg [mB false 3])
 .ret)
 .skip))
 (.seq (.seq (Rg [mS 10,vB 6 (.bin .gtr (.l 0) (cI 1099511627776))])
 (.cond (.s 6) (.seq (Rg [mS 17,vA (.bin .eql (.l 0) (cI 3)),mL 1,vG 2 true (.mov (.s 18)),vG 2 true (.bin .eql (.l 3) (cI 0)),vA (.pick (.l 2) (.l 4) (.c (.b false))),mL 5,vG 6 true (.call 6 []),vA (.pick (.l 6) (.l 7) (.c (.b false))),mK 8 3])
 .ret)
 .skip))
 (.seq (Rg [mS 17,vA (.bin .eql (.l 0) (cI 0)),mL 1,vG 2 true (.mov (.s 18)),vG 2 true (.mov (.s 10)),vG 2 true (.bin .eql (.l 3) (.l 4)),vA (.pick (.l 2) (.l 5) (.c (.b false))),mL 6,vG 7 true (.call 6 []),vA (.pick (.l 7) (.l 8) (.c (.b false))),mK 9 3])
 .ret))))))))))))),true,false,none,false,none⟩
def v4l0:VCode :=
 (.seq (.seq (Rg [mS 7,vB 5 (.bin .gtr (.l 0) (.c (.i .u64 0)))])
 (.cond (.s 5) .skip
 (.exit 0)))
 (.block 1 (.reg [mS 7,mS 6,mS 7,vA (.bin .rem (.l 1) (.l 2)),mK 0 6,mK 3 7] (some false))))
def v4:VFunc :=
 ⟨2,8,[.bx 2 4 true],(.seq (Rg [vB 2 (.lal z4)])
 (.seq (.seq (Rg [mS 1,vA (.bin .lss (.l 0) (cI 1)),mL 1,vG 2 false (.mov (.s 0)),vG 2 false (.bin .eql (.l 3) (cI 0)),vB 3 (.pick (.l 2) (.c (.b true)) (.l 4))])
 (.cond (.s 3) (.seq (Rg [vA (.call 7 [(cI 1)]),vA (.agc z4 [(2,2,(.l 0))]),sT 2 1 4])
 .ret)
 .skip))
 (.seq (Rg [mS 0,vA (.cvi .u64 (.l 0)),mS 1,vA (.cvi .u64 (.l 2)),mK 1 6,mK 3 7])
 (.seq (.seq (Rg [mS 0,vB 4 (.bin .lss (.l 0) (cI 0))])
 (.cond (.s 4) (Rg [mS 6,vA (.un .neg (.l 0)),mK 1 6])
 .skip))
 (.seq (.block 0 (.loop v4l0))
 (.seq (.reg [mS 0,mS 6,vA (.cvi .i64 (.l 1)),vA (.bin .quo (.l 0) (.l 2)),c1 7 3,mS 1,mS 6,vA (.cvi .i64 (.l 6)),vA (.bin .quo (.l 5) (.l 7)),c1 7 8,vA (.agc z4 [(0,2,(.l 4)),(2,2,(.l 9))]),sT 2 10 4] (some false))
 .ret)))))),true,false,none,false,none⟩
def v5:VFunc :=
 ⟨1,10,[.s 1,.s 2],(.seq (Rg [bX 0 6 7,mI 0 1,mI 0 2])
 (.seq (.seq (Rg [fA 7 0,lO 0 1,vA (.bin .neq (.l 1) (.c (.i .u8 3))),mL 2,vG 3 false (.lfa (.sl 7) 5),vG 3 false (.lld (.lo 4) 1 false),vG 3 false (.bin .neq (.l 5) (cI 0)),vA (.pick (.l 3) (.c (.b true)) (.l 6)),mL 7,vG 8 false (.lfa (.sl 7) 1),vG 8 false (.lld (.lo 9) 4 true),vG 8 false (.call 8 [(.l 10)]),vG 8 false (.un .not (.l 11)),vB 3 (.pick (.l 8) (.c (.b true)) (.l 12))])
 (.cond (.s 3) (.seq (Rg [mI 0 1,mI 185 2])
 .ret)
 .skip))
 (.seq (.reg [fA 7 1,lP 0 4,vA (.call 10 [(cI 1)]),vA (.call 9 [(.l 1),(.l 2),(.c (.i .u8 5))]),mL 3,xT 4 0,xT 4 1,vB 9 (.lal z4),sT 9 5 4,mK 6 8] (some false))
 (.seq (.seq (Rg [mS 8,vB 4 (.bin .neq (.l 0) (cI 0))])
 (.cond (.s 4) (.seq (Rg [mS 8,mI 0 1,mK 0 2])
 .ret)
 .skip))
 (.seq (.seq (Rg [fA 9 0,vA (.lfa (.lo 0) 0),vB 5 (.lld (.lo 1) 1 false)])
 (.cond (.s 5) (.seq (Rg [mI 0 1,mI 0 2])
 .ret)
 .skip))
 (.seq (.seq (.reg [lS 9 4,vA (.call 10 [(cI 1099511627776)]),c2 11 0 1,vB 6 (.bin .gtr (.l 2) (cI 0))] (some false))
 (.cond (.s 6) (.seq (Rg [mI 0 1,mI 3 2])
 .ret)
 .skip))
 (.seq (Rg [lS 9 4,c1 12 0,xT 1 0,xT 1 1,mK 2 1,mK 3 2])
 .ret))))))),true,false,none,false,none⟩
def v6:VFunc :=
 ⟨0,11,[.s 0],(.seq (Rg [mB false 0])
 (.seq (.reg [vA (.call 14 []),vA (.call 15 [(cI 1001),(cI 0),(cI 365),(cI 0)]),vA (.bsv 11 1 [(.s []),(.i .i64 0),(.i .i64 0),(.i .i64 0),(.b false),(.i .u8 0),(.b false),.nil,(.b false),.nil,(.i .i64 0)] [(0,(.l 1))]),vA (.call 13 [(.l 0),(.l 2),(.c (.s [112,101,110,115,105,111,110])),(cI 0),(cI 13),(cI 0)]),mL 3,xT 4 0,xT 4 1,mK 5 2,mK 6 4] none)
 (.seq (Rg [mS 2,c1 16 0,mK 1 3])
 (.seq (.seq (Rg [mS 4,vA (.bin .neq (.l 0) (cI 0)),mL 1,vG 2 false (.mov (.s 3)),vG 2 false (.len 1 (.l 3)),vG 2 false (.bin .neq (.l 4) (cI 13)),vA (.pick (.l 2) (.c (.b true)) (.l 5)),mL 6,vG 7 false (.mov (.s 3)),vG 7 false (.iad (.l 8) (cI 0) 6),vG 7 false (.fad (.l 9) 1),vG 7 false (.ld (.l 10) 1 false),vG 7 false (.bin .neq (.l 11) (cI 501)),vA (.pick (.l 7) (.c (.b true)) (.l 12)),mL 13,vG 14 false (.mov (.s 3)),vG 14 false (.iad (.l 15) (cI 1) 6),vG 14 false (.fad (.l 16) 1),vG 14 false (.ld (.l 17) 1 false),vG 14 false (.bin .neq (.l 18) (cI 501)),vA (.pick (.l 14) (.c (.b true)) (.l 19)),mL 20,vG 21 false (.mov (.s 3)),vG 21 false (.iad (.l 22) (cI 0) 6),vG 21 false (.fad (.l 23) 2),vG 21 false (.ld (.l 24) 1 false),vG 21 false (.bin .neq (.l 25) (cI 0)),vA (.pick (.l 21) (.c (.b true)) (.l 26)),mL 27,vG 28 false (.mov (.s 3)),vG 28 false (.iad (.l 29) (cI 12) 6),vG 28 false (.fad (.l 30) 2),vG 28 false (.ld (.l 31) 1 false),vG 28 false (.bin .neq (.l 32) (cI 182)),vA (.pick (.l 28) (.c (.b true)) (.l 33)),mL 34,vG 35 false (.mov (.s 3)),vG 35 false (.iad (.l 36) (cI 12) 6),vG 35 false (.fad (.l 37) 0),vG 35 false (.ld (.l 38) 1 false),vG 35 false (.bin .neq (.l 39) (cI 12)),vA (.pick (.l 35) (.c (.b true)) (.l 40)),mL 41,vG 42 false (.mov (.s 3)),vG 42 false (.iad (.l 43) (cI 12) 6),vG 42 false (.fad (.l 44) 1),vG 42 false (.ld (.l 45) 1 false),vG 42 false (.bin .neq (.l 46) (cI 0)),vB 1 (.pick (.l 42) (.c (.b true)) (.l 47))])
 (.cond (.s 1) (.seq (Rg [mB false 0])
 .ret)
 .skip))
 (.seq (Rg [mS 2,vA (.call 15 [(cI 600),(cI 31),(cI 59),(cI 9)]),c2 17 0 1,mL 2,xT 3 0,xT 3 1,mK 4 8,mK 5 5])
 (.seq (Rg [mS 2,vA (.call 18 [(.l 0),(cI 9)]),mL 1,xT 2 0,xT 2 1,mK 3 9,mK 4 6])
 (.seq (Rg [mS 2,c1 16 0,mK 1 3])
 (.seq (Rg [mS 2,vA (.call 18 [(.l 0),(cI 20)]),mL 1,xT 2 0,xT 2 1,mK 3 10,mK 4 7])
 (.seq (Rg [mS 5,mS 6,vA (.bin .add (.l 0) (.l 1)),mS 7,vA (.bin .add (.l 2) (.l 3)),vA (.bin .eql (.l 4) (cI 0)),mL 5,vG 6 true (.mov (.s 8)),vG 6 true (.len 1 (.l 7)),vG 6 true (.bin .eql (.l 8) (cI 0)),vA (.pick (.l 6) (.l 9) (.c (.b false))),mL 10,vG 11 true (.mov (.s 9)),vG 11 true (.bsv 1 1 [(.i .i64 0)] [(0,(cI 1))]),vG 11 true (.call 19 [(.l 12),(.l 13)]),vA (.pick (.l 11) (.l 14) (.c (.b false))),mL 15,vG 16 true (.mov (.s 3)),vG 16 true (.len 1 (.l 17)),vG 16 true (.bin .eql (.l 18) (cI 13)),vA (.pick (.l 16) (.l 19) (.c (.b false))),mL 20,vG 21 true (.mov (.s 3)),vG 21 true (.iad (.l 22) (cI 1) 6),vG 21 true (.fad (.l 23) 1),vG 21 true (.ld (.l 24) 1 false),vG 21 true (.bin .eql (.l 25) (cI 300)),vA (.pick (.l 21) (.l 26) (.c (.b false))),mL 27,vG 28 true (.mov (.s 3)),vG 28 true (.iad (.l 29) (cI 0) 6),vG 28 true (.fad (.l 30) 1),vG 28 true (.ld (.l 31) 1 false),vG 28 true (.bin .eql (.l 32) (cI 501)),vA (.pick (.l 28) (.l 33) (.c (.b false))),mL 34,vG 35 true (.mov (.s 10)),vG 35 true (.len 1 (.l 36)),vG 35 true (.bin .eql (.l 37) (cI 0)),vA (.pick (.l 35) (.l 38) (.c (.b false))),mL 39,vG 40 true (.mov (.s 2)),vG 40 true (.call 20 [(.l 41)]),vG 40 true (.bin .eql (.l 42) (cI 20)),vA (.pick (.l 40) (.l 43) (.c (.b false))),mK 44 0])
 .ret))))))))),true,false,none,false,none⟩
def v7l0:VCode :=
 (.seq (.seq (Rg [mS 4,vB 3 (.bin .gtr (.l 0) (.c (.i .u64 0)))])
 (.cond (.s 3) .skip
 (.exit 0)))
 (.seq (.block 1 (Rg [fA 5 1,lO 0 1,mS 4,vA (.cvi .u16 (.l 2)),vA (.bsv 1 1 [(.i .u16 0)] [(0,(.l 3))]),vA (.app (.l 1) (.l 4) 1 2 true),fA 5 1,vA (.lst (.lo 6) (.l 5) 1)]))
 (Rg [mS 4,vA (.bin .shr (.l 0) (.c (.i .u64 16))),mK 1 4])))
def v7:VFunc :=
 ⟨1,6,[.bx 1 2 true],(.seq (Rg [vB 1 (.lal [(.b false),.nil])])
 (.seq (Rg [mS 0,vA (.bin .lss (.l 0) (cI 0)),vA (.agc [(.b false),.nil] [(0,1,(.l 1))]),vB 5 (.lal [(.b false),.nil]),sT 5 2 2])
 (.seq (Rg [mS 0,vA (.cvi .u64 (.l 0)),mK 1 4])
 (.seq (.seq (Rg [mS 0,vB 2 (.bin .lss (.l 0) (cI 0))])
 (.cond (.s 2) (Rg [mS 4,vA (.un .neg (.l 0)),mK 1 4])
 .skip))
 (.seq (.block 0 (.loop v7l0))
 (.seq (Rg [lS 5 2,sT 1 0 2])
 .ret)))))),true,false,none,false,none⟩
def v8:VFunc :=
 ⟨1,3,[.s 1],(.seq (Rg [bX 0 4 2,mB false 1])
 (.seq (Rg [lS 2 4,vA (.agc z4 [(0,4,(.l 0))]),c1 21 1,mK 2 1])
 .ret)),true,false,none,false,none⟩
def v9:VFunc :=
 ⟨3,15,[.bx 3 4 true,.s 4],(.seq (Rg [bX 0 4 9,bX 1 4 10,vB 3 (.lal z4),mI 0 4])
 (.seq (.seq (Rg [lS 9 4,lS 10 4,vA (.bsv 4 2 z4 [(0,(.l 0)),(1,(.l 1))]),c1 22 2,vA (.un .not (.l 3)),mL 4,vG 5 false (.mov (.s 2)),vG 5 false (.bin .lss (.l 6) (.c (.i .u8 1))),vA (.pick (.l 5) (.c (.b true)) (.l 7)),mL 8,vG 9 false (.mov (.s 2)),vG 9 false (.bin .gtr (.l 10) (.c (.i .u8 6))),vB 5 (.pick (.l 9) (.c (.b true)) (.l 11))])
 (.cond (.s 5) (.seq (Rg [vA (.agc z4 []),sT 3 0 4,mI 2 4])
 .ret)
 .skip))
 (.seq (.seq (Rg [lS 10 4,vA (.agc z4 [(0,4,(.l 0))]),c1 23 1,mL 2,vG 3 false (.lld (.sl 10) 4 true),vG 3 false (.agc z4 [(0,4,(.l 4))]),vG 3 false (.call 24 [(.l 5)]),vB 6 (.pick (.l 3) (.c (.b true)) (.l 6))])
 (.cond (.s 6) (.seq (Rg [vA (.agc z4 []),sT 3 0 4,mI 20 4])
 .ret)
 .skip))
 (.seq (Rg [fA 9 2,lP 0 2,fA 10 0,lP 2 2,c2 25 1 3,vB 11 (.lal [(.b false),.nil]),sT 11 4 2])
 (.seq (.reg [fA 9 0,lP 0 2,fA 10 2,lP 2 2,c2 25 1 3,lS 11 2,c2 26 4 5,mL 6,xT 7 0,xT 7 1,vB 13 (.lal [(.b false),.nil]),vB 12 (.lal [(.b false),.nil]),sT 13 8 2,sT 12 9 2] (some false))
 (.seq (.seq (Rg [fA 12 1,lO 0 1,nL 1 1,vB 7 (.bin .gtr (.l 2) (cI 0))])
 (.cond (.s 7) (.seq (.reg [lS 9 4,vA (.agc z4 [(0,4,(.l 0))]),c1 24 1,fA 13 1,lO 3 1,nL 1 4,vA (.bin .gtr (.l 5) (cI 0)),mL 6,vG 7 true (.lfa (.sl 13) 1),vG 7 true (.lld (.lo 8) 1 false),vG 7 true (.iad (.l 9) (cI 0) 1),vG 7 true (.ld (.l 10) 1 false),vG 7 true (.bin .rem (.l 11) (.c (.i .u16 2))),vG 7 true (.bin .eql (.l 12) (.c (.i .u16 1))),vA (.pick (.l 7) (.l 13) (.c (.b false))),lS 12 2,lS 12 2,c2 28 15 16,lS 11 2,c2 27 17 18,vA (.agc [(.b false),(.b false),(.i .i64 0)] [(0,1,(.l 2)),(1,1,(.l 14)),(2,1,(.l 19))]),vB 14 (.lal [(.b false),(.b false),(.i .i64 0)]),sT 14 20 3] (some false))
 (.seq (.reg [vA (.call 29 []),mS 2,vA (.bin .sub (.l 1) (.c (.i .u8 1))),vA (.ixa (.l 0) (.l 2) 6 1 false),lS 14 3,vB 8 (.calv (.l 3) [(.l 4)])] (some false))
 (.cond (.s 8) (.reg [lS 13 2,vA (.call 30 [(cI 1)]),c2 28 0 1,sT 13 2 2] (some false))
 .skip)))
 .skip))
 (.seq (.reg [lS 13 2,fA 10 0,lP 1 2,c2 25 0 2,fA 10 2,lP 4 2,c2 31 3 5,c1 32 6,xT 7 0,xT 7 1,sT 3 8 4,mK 9 4] (some false))
 .ret))))))),true,false,none,false,none⟩
def v10:VFunc :=
 ⟨1,2,[.bx 1 4 true],(.seq (Rg [vB 1 (.lal z4)])
 (.seq (Rg [mS 0,c1 30 0,vA (.call 30 [(cI 1)]),vA (.agc z4 [(0,2,(.l 1)),(2,2,(.l 2))]),sT 1 3 4])
 .ret)),true,false,none,false,none⟩
def v11:VFunc :=
 ⟨2,6,[.s 2],(.seq (Rg [bX 0 4 4,bX 1 4 5,mI 0 2])
 (.seq (.seq (Rg [lS 4 4,lS 5 4,vA (.bsv 4 2 z4 [(0,(.l 0)),(1,(.l 1))]),c1 22 2,vB 3 (.un .not (.l 3))])
 (.cond (.s 3) (.seq (Rg [mI 0 2])
 .ret)
 .skip))
 (.seq (.reg [fA 4 0,lP 0 2,fA 5 2,lP 2 2,c2 25 1 3,fA 5 0,lP 5 2,fA 4 2,lP 7 2,c2 25 6 8,c2 27 4 9,mK 10 2] (some false))
 .ret))),true,false,none,false,none⟩
def v12:VFunc :=
 ⟨1,6,[.s 1,.s 2],(.seq (Rg [bX 0 4 5,mI 0 1,mI 0 2])
 (.seq (.seq (Rg [lS 5 4,c1 8 0,vB 3 (.un .not (.l 1))])
 (.cond (.s 3) (.seq (Rg [mI 0 1,mI 2 2])
 .ret)
 .skip))
 (.seq (.seq (Rg [lS 5 4,vA (.agc z4 [(0,4,(.l 0))]),c1 33 1,vB 4 (.un .not (.l 2))])
 (.cond (.s 4) (.seq (Rg [mI 0 1,mI 22 2])
 .ret)
 .skip))
 (.seq (Rg [fA 5 0,lP 0 2,c1 34 1,xT 2 0,xT 2 1,mK 3 1,mK 4 2])
 .ret)))),true,false,none,false,none⟩
def v13l0:VCode :=
 (.seq (Rg [vB 9 (.bin .lss (.s 11) (.s 12))])
 (.seq (.cond (.s 9) .skip
 (.exit 0))
 (.seq (.block 1 (.seq (.reg [vA (.iad (.s 13) (.s 11) 11),lT 0 11,vB 15 (.lal [(.s []),(.i .i64 0),(.i .i64 0),(.i .i64 0),(.b false),(.i .u8 0),(.b false),.nil,(.b false),.nil,(.i .i64 0)]),sT 15 1 11] none)
 (.reg [mS 14,mS 14,vA (.nck (.l 1)),fD 2 5,lD 3 1,lS 15 11,c1 37 5,vA (.bsv 11 1 [(.s []),(.i .i64 0),(.i .i64 0),(.i .i64 0),(.b false),(.i .u8 0),(.b false),.nil,(.b false),.nil,(.i .i64 0)] [(0,(.l 6))]),vA (.app (.l 4) (.l 7) 11 128 true),vA (.nck (.l 0)),fD 9 5,vA (.st (.l 10) (.l 8) 1)] (some false))))
 (Rg [vA (.bin .add (.s 11) (cI 1)),mK 0 11]))))
def v13:VFunc :=
 ⟨6,16,[.s 6,.s 7],(.seq (Rg [bX 0 4 10,vB 6 (.mov (.c .np)),mI 0 7])
 (.seq (.seq (Rg [lS 10 4,mS 1,mS 3,mS 4,vA (.call 35 [(.l 0),(.l 1),(.l 2),(.l 3)]),vB 8 (.un .not (.l 4))])
 (.cond (.s 8) (.seq (Rg [vB 6 (.mov (.c .np)),mI 2 7])
 .ret)
 .skip))
 (.seq (.reg [lS 10 4,c1 36 0,mS 2,mS 3,mS 5,vA (.agc [.np,(.s []),.nil,.nil,.nil,.nil,(.s []),(.i .i64 0),(.i .i64 0),.nil] [(1,4,(.l 1)),(6,1,(.l 2)),(8,1,(.l 3)),(7,1,(.l 4))]),vA (.hbx 91 (.l 5) 10),mK 6 14] none)
 (.seq (.seq (Rg [mT 1 13,vB 12 (.len 1 (.s 13)),mI 0 11])
 (.block 0 (.loop v13l0)))
 (.seq (Rg [mS 14,mS 14,vA (.nck (.l 0)),fD 2 0,vA (.st (.l 3) (.l 1) 1)])
 (.seq (Rg [mS 14,mS 4,c2 38 0 1])
 (.seq (Rg [mS 14,mK 0 6,mI 0 7])
 .ret))))))),false,false,none,false,none⟩
def v14:VFunc :=
 ⟨0,4,[.bx 0 4 true],(.seq (.reg [vB 0 (.lal [(.s []),.nil,.nil,.nil])] none)
 (.seq (Rg [vA (.call 4 [(cI 1),(cI 2)]),vB 3 (.lal z4),sT 3 0 4])
 (.seq (.reg [vA (.agc z6 [(0,1,(.c (.i .u8 1))),(5,1,(cI 1))]),vA (.agc z9 [(0,1,(.c (.i .u8 1))),(2,6,(.l 0))]),vB 1 (.lal z9),sT 1 1 9] none)
 (.seq (.reg [vA (.agc z9 [(0,1,(.c (.i .u8 2)))]),vA (.bsl 9 1 z9 [(0,(.l 0))] true),vA (.agc z9 [(0,1,(.c (.i .u8 3))),(1,1,(.c (.s [112,97,121]))),(8,1,(.l 1))]),vB 2 (.lal z9),sT 2 2 9] none)
 (.seq (.reg [vA (.agc [(.s []),(.i .u8 0),(.b false)] [(0,1,(.c (.s [112,101,110,115,105,111,110]))),(1,1,(.c (.i .u8 3)))]),vA (.bsl 3 1 [(.s []),(.i .u8 0),(.b false)] [(0,(.l 0))] true),lS 1 9,lS 2 9,lS 3 4,vA (.agc z6 [(0,1,(.c (.i .u8 2))),(1,4,(.l 4))]),vA (.agc z9 [(0,1,(.c (.i .u8 1))),(2,6,(.l 5))]),vA (.bsl 9 2 z9 [(0,(.l 3)),(1,(.l 6))] true),vA (.agc z9 [(0,1,(.c (.i .u8 9))),(8,1,(.l 7))]),vA (.agc [(.s []),(.s []),(.i .i64 0),(.i .i64 0),(.i .i64 0),(.b false),(.i .u8 0),(.s []),(.i .u8 0),(.b false),.nil,(.b false),.nil,(.i .i64 0),.nil,(.i .u8 0),(.s []),(.i .u8 0),(.b false),.nil,(.b false),.nil,(.i .i64 0),.nil] [(0,1,(.c (.s [112,101,110,115,105,111,110]))),(3,1,(cI 65536)),(6,9,(.l 2)),(15,9,(.l 8))]),vA (.bsl 24 1 [(.s []),(.s []),(.i .i64 0),(.i .i64 0),(.i .i64 0),(.b false),(.i .u8 0),(.s []),(.i .u8 0),(.b false),.nil,(.b false),.nil,(.i .i64 0),.nil,(.i .u8 0),(.s []),(.i .u8 0),(.b false),.nil,(.b false),.nil,(.i .i64 0),.nil] [(0,(.l 9))] true),vA (.agc [(.s []),.nil,.nil,.nil] [(1,1,(.l 1)),(3,1,(.l 10))]),sT 0 11 4] none)
 .ret))))),true,false,none,false,none⟩
def v15:VFunc :=
 ⟨4,5,[.bx 4 11 true],(.seq (.reg [vB 4 (.lal [(.s []),(.i .i64 0),(.i .i64 0),(.i .i64 0),(.b false),(.i .u8 0),(.b false),.nil,(.b false),.nil,(.i .i64 0)])] none)
 (.seq (.reg [mS 1,mS 2,mS 3,mS 0,vA (.call 4 [(.l 3),(cI 1)]),vA (.agc z6 [(0,1,(.c (.i .u8 3))),(1,4,(.l 4))]),vA (.agc [(.s []),(.i .i64 0),(.i .i64 0),(.i .i64 0),(.b false),(.i .u8 0),(.b false),.nil,(.b false),.nil,(.i .i64 0)] [(0,1,(.c (.s [112,97,121]))),(1,1,(.l 0)),(2,1,(.l 1)),(3,1,(.l 2)),(5,6,(.l 5))]),sT 4 6 11] none)
 .ret)),true,false,none,false,none⟩
def v16l0:VCode :=
 (.seq (Rg [vB 3 (.bin .lss (.s 5) (.s 6))])
 (.seq (.cond (.s 3) .skip
 (.exit 0))
 (.seq (.block 1 (.seq (Rg [mS 5,mK 0 7])
 (.seq (Rg [mS 4,mS 7,iA 0 1 6,fD 2 3,mK 3 8])
 (.reg [mS 8,mS 8,mS 8,mS 8,vA (.nck (.l 3)),fD 4 0,lD 5 1,c1 41 6,mS 8,vA (.nck (.l 8)),fD 9 1,lD 10 1,c1 42 11,mS 8,vA (.nck (.l 13)),fD 14 2,lD 15 1,c1 43 16,vA (.nck (.l 0)),fD 18 0,vA (.st (.l 19) (.l 7) 1),vA (.nck (.l 1)),fD 21 1,vA (.st (.l 22) (.l 12) 1),vA (.nck (.l 2)),fD 24 2,vA (.st (.l 25) (.l 17) 1)] (some false)))))
 (Rg [vA (.bin .add (.s 5) (cI 1)),mK 0 5]))))
def v16:VFunc :=
 ⟨1,9,[.s 1],(.seq (Rg [vB 1 (.mov (.c .nil))])
 (.seq (.seq (Rg [mS 0,vB 2 (.call 39 [(.l 0)])])
 (.cond (.s 2) (.seq (Rg [vB 1 (.mov (.c .nil))])
 .ret)
 .skip))
 (.seq (Rg [mS 0,vA (.nck (.l 0)),fD 1 9,lD 2 1,c1 40 3,mK 4 4])
 (.seq (.seq (Rg [mS 4,vB 6 (.len 1 (.l 0)),mI 0 5])
 (.block 0 (.loop v16l0)))
 (.seq (Rg [mS 4,mK 0 1])
 .ret))))),false,false,none,false,none⟩
def v17:VFunc :=
 ⟨2,9,[.s 2,.s 3],(.seq (Rg [vB 6 (.hbx 44 (.s 0) 1),vB 7 (.hbx 54 (.s 1) 11),vB 2 (.mov (.c .nil)),mI 0 3])
 (.seq (.seq (Rg [sD 6 1,vB 4 (.call 39 [(.l 0)])])
 (.cond (.s 4) (.seq (Rg [vB 2 (.mov (.c .nil)),mI 1 3])
 .ret)
 .skip))
 (.seq (.reg [sD 6 1,vA (.nck (.l 0)),fD 1 5,lD 2 1,vA (.calvx (.c (.fn (.func 44) [] [])) [(.l 3)]),vA (.ld (.s 7) 11 true),c1 37 5,vA (.bsv 11 1 [(.s []),(.i .i64 0),(.i .i64 0),(.i .i64 0),(.b false),(.i .u8 0),(.b false),.nil,(.b false),.nil,(.i .i64 0)] [(0,(.l 6))]),vA (.app (.l 4) (.l 7) 11 128 true),mK 8 8] (some false))
 (.seq (.seq (Rg [mS 8,c1 45 0,vB 5 (.un .not (.l 1))])
 (.cond (.s 5) (.seq (Rg [vB 2 (.mov (.c .nil)),mI 2 3])
 .ret)
 .skip))
 (.seq (Rg [sD 6 1,mS 8,vA (.nck (.l 0)),fD 2 5,vA (.st (.l 3) (.l 1) 1)])
 (.seq (Rg [sD 6 1,vA (.mkf (.func 47) [] [(.s 7),(.s 6)]),sD 6 1,vA (.mkf (.func 49) [(.l 2)] []),vA (.call 46 [(.l 0),(.l 1),(.l 3)]),mK 4 2,mI 0 3])
 .ret)))))),false,false,none,false,none⟩
def v18:VFunc :=
 ⟨2,8,[.s 2,.s 3],(.seq (Rg [vB 5 (.hbx 44 (.s 0) 1),vB 2 (.mov (.c .nil)),mI 0 3])
 (.seq (.seq (Rg [sD 5 1,vB 4 (.call 39 [(.l 0)])])
 (.cond (.s 4) (.seq (Rg [vB 2 (.mov (.c .nil)),mI 1 3])
 .ret)
 .skip))
 (.seq (.reg [sD 5 1,vA (.nck (.l 0)),fD 1 7,lD 2 1,mS 1,vA (.mn [(.l 3),(.l 4)]),sD 5 1,vA (.nck (.l 6)),fD 7 7,lD 8 1,mS 1,vA (.mx [(.l 9),(.l 10)]),vB 6 (.hal 3 [(.i .i64 0)]),vB 7 (.hal 3 [(.i .i64 0)]),vA (.st (.s 6) (.l 5) 1),vA (.st (.s 7) (.l 11) 1)] (some true))
 (.seq (Rg [sD 5 1,mS 1,vA (.nck (.l 0)),fD 2 7,vA (.st (.l 3) (.l 1) 1)])
 (.seq (Rg [sD 5 1,vA (.mkf (.func 50) [] [(.s 5),(.s 6),(.s 7)]),sD 5 1,vA (.mkf (.func 49) [(.l 2)] []),vA (.call 46 [(.l 0),(.l 1),(.l 3)]),mK 4 2,mI 0 3])
 .ret))))),false,false,none,false,none⟩
def v19l0:VCode :=
 (.seq (Rg [vB 4 (.bin .lss (.s 6) (.s 7))])
 (.seq (.cond (.s 4) .skip
 (.exit 0))
 (.seq (.block 1 (.seq (Rg [mS 6,mK 0 8])
 (.seq (.reg [mS 0,mS 8,iA 0 1 1,lD 2 1,mS 1,mS 8,iA 4 5 1,lD 6 1,vB 5 (.bin .neq (.l 3) (.l 7))] (some false))
 (.cond (.s 5) (.seq (Rg [mB false 2])
 .ret)
 .skip))))
 (Rg [vA (.bin .add (.s 6) (cI 1)),mK 0 6]))))
def v19:VFunc :=
 ⟨2,9,[.s 2],(.seq (Rg [mB false 2])
 (.seq (.seq (Rg [mS 0,nL 1 0,mS 1,nL 1 2,vB 3 (.bin .neq (.l 1) (.l 3))])
 (.cond (.s 3) (.seq (Rg [mB false 2])
 .ret)
 .skip))
 (.seq (.seq (Rg [mS 0,vB 7 (.len 1 (.l 0)),mI 0 6])
 (.block 0 (.loop v19l0)))
 (.seq (Rg [mB true 2])
 .ret)))),true,false,none,false,none⟩
def v20:VFunc :=
 ⟨1,3,[.s 1],(.seq (Rg [mI 0 1])
 (.seq (.seq (Rg [mS 0,vB 2 (.call 39 [(.l 0)])])
 (.cond (.s 2) (.seq (Rg [mI 0 1])
 .ret)
 .skip))
 (.seq (Rg [mS 0,vA (.nck (.l 0)),fD 1 7,lD 2 1,mK 3 1])
 .ret))),false,false,none,false,none⟩
def v21:VFunc :=
 ⟨1,4,[.s 1],(.seq (Rg [bX 0 4 3,mB false 1])
 (.seq (.seq (Rg [lS 3 4,c1 52 0,mL 1,vG 2 false (.lfa (.sl 3) 0),vG 2 false (.lfa (.lo 3) 0),vG 2 false (.lld (.lo 4) 2 true),vG 2 false (.call 53 [(.l 5)]),vG 2 false (.un .not (.l 6)),vA (.pick (.l 2) (.c (.b true)) (.l 7)),mL 8,vG 9 false (.lfa (.sl 3) 0),vG 9 false (.lfa (.lo 10) 2),vG 9 false (.lld (.lo 11) 2 true),vG 9 false (.call 53 [(.l 12)]),vG 9 false (.un .not (.l 13)),vA (.pick (.l 9) (.c (.b true)) (.l 14)),mL 15,vG 16 false (.lfa (.sl 3) 0),vG 16 false (.lfa (.lo 17) 2),vG 16 false (.lfa (.lo 18) 0),vG 16 false (.lld (.lo 19) 1 false),vA (.pick (.l 16) (.c (.b true)) (.l 20)),mL 21,vG 22 false (.lfa (.sl 3) 0),vG 22 false (.lfa (.lo 23) 2),vG 22 false (.lfa (.lo 24) 1),vG 22 false (.lld (.lo 25) 1 false),vG 22 false (.len 1 (.l 26)),vG 22 false (.bin .eql (.l 27) (cI 0)),vB 2 (.pick (.l 22) (.c (.b true)) (.l 28))])
 (.cond (.s 2) (.seq (Rg [mB false 1])
 .ret)
 .skip))
 (.seq (Rg [lS 3 4,c1 33 0,mL 1,vG 2 false (.lfa (.sl 3) 0),vG 2 false (.lfa (.lo 3) 0),vG 2 false (.lld (.lo 4) 2 true),vG 2 false (.lfa (.sl 3) 0),vG 2 false (.lfa (.lo 6) 2),vG 2 false (.lld (.lo 7) 2 true),vG 2 false (.call 55 [(.l 5),(.l 8)]),vG 2 false (.call 54 [(.l 9)]),vA (.pick (.l 2) (.c (.b true)) (.l 10)),mK 11 1])
 .ret))),true,false,none,false,none⟩
def v22:VFunc :=
 ⟨1,2,[.s 1],(.seq (Rg [mB false 1])
 (.seq (.reg [mS 0,vA (.call 56 [(.l 0),(.c (.fn (.func 57) [] []))]),vA (.un .not (.l 1)),mK 2 1] none)
 .ret)),true,false,none,false,none⟩
def v23:VFunc :=
 ⟨1,3,[.s 1],(.seq (Rg [bX 0 4 2,mB false 1])
 (.seq (Rg [fA 2 0,vA (.lfa (.lo 0) 0),vA (.lfa (.lo 1) 1),lO 2 1,nL 1 3,vA (.bin .eql (.l 4) (cI 0)),mK 5 1])
 .ret)),true,false,none,false,none⟩
def v24:VFunc :=
 ⟨1,3,[.s 1],(.seq (Rg [bX 0 4 2,mB false 1])
 (.seq (Rg [fA 2 0,vA (.lfa (.lo 0) 0),vA (.lfa (.lo 1) 0),lO 2 1,mK 3 1])
 .ret)),true,false,none,false,none⟩
def v25:VFunc :=
 ⟨2,6,[.bx 2 2 true],(.seq (Rg [bX 0 2 3,bX 1 2 4,vB 2 (.lal [(.b false),.nil])])
 (.seq (Rg [lS 3 2,lS 4 2,c2 58 0 1,mL 2,xT 3 0,xT 3 1,vB 5 (.lal [(.b false),.nil]),sT 5 4 2,mL 5])
 (.seq (Rg [lS 5 2,sT 2 0 2])
 .ret))),true,false,none,false,none⟩
def v26:VFunc :=
 ⟨2,6,[.bx 2 2 true,.bx 3 2 true],(.seq (Rg [bX 0 2 4,bX 1 2 5,vB 2 (.lal [(.b false),.nil]),vB 3 (.lal [(.b false),.nil])])
 (.seq (Rg [lS 4 2,lS 5 2,c2 59 0 1,mL 2,xT 3 0,xT 3 1,xT 3 2,sT 2 4 2,sT 3 5 2])
 (.seq (.reg [lS 2 2,lS 3 2,sT 2 0 2,sT 3 1 2] (some false))
 .ret))),true,false,none,false,none⟩
def v27:VFunc :=
 ⟨2,10,[.s 2],(.seq (Rg [bX 0 2 7,bX 1 2 8,mI 0 2])
 (.seq (.seq (Rg [lS 7 2,lS 8 2,vA (.bsv 2 2 [(.b false),.nil] [(0,(.l 0)),(1,(.l 1))]),c1 60 2,vB 3 (.un .not (.l 3))])
 (.cond (.s 3) (.seq (Rg [mI 0 2])
 .ret)
 .skip))
 (.seq (.seq (Rg [fA 7 0,lO 0 1,fA 8 0,lO 2 1,vB 4 (.eqv true .b (.l 1) (.l 3))])
 (.cond (.s 4) (.seq (.seq (Rg [fA 7 0,vB 5 (.lld (.lo 0) 1 false)])
 (.cond (.s 5) (.seq (Rg [mI (-1) 2])
 .ret)
 .skip))
 (.seq (Rg [mI 1 2])
 .ret))
 .skip))
 (.seq (.reg [fA 7 1,lO 0 1,c1 62 1,fA 8 1,lO 3 1,c1 62 4,c2 61 2 5,mK 6 9] (some false))
 (.seq (.seq (Rg [fA 7 0,vB 6 (.lld (.lo 0) 1 false)])
 (.cond (.s 6) (.seq (Rg [mS 9,vA (.un .neg (.l 0)),mK 1 2])
 .ret)
 .skip))
 (.seq (Rg [mS 9,mK 0 2])
 .ret)))))),true,false,none,false,none⟩
def v28:VFunc :=
 ⟨2,6,[.bx 2 2 true],(.seq (Rg [bX 0 2 3,bX 1 2 4,vB 2 (.lal [(.b false),.nil])])
 (.seq (Rg [lS 3 2,lS 4 2,c2 63 0 1,mL 2,xT 3 0,xT 3 1,vB 5 (.lal [(.b false),.nil]),sT 5 4 2,mL 5])
 (.seq (Rg [lS 5 2,sT 2 0 2])
 .ret))),true,false,none,false,none⟩
def v29:VFunc :=
 ⟨0,1,[.bx 0 6 true],(.seq (Rg [vB 0 (.lal [.nf,.nf,.nf,.nf,.nf,.nf])])
 (.seq (.reg [vA (.agc [.nf,.nf,.nf,.nf,.nf,.nf] [(0,1,(.c (.fn (.func 64) [] []))),(1,1,(.c (.fn (.func 65) [] []))),(2,1,(.c (.fn (.func 66) [] []))),(3,1,(.c (.fn (.func 67) [] []))),(4,1,(.c (.fn (.func 68) [] []))),(5,1,(.c (.fn (.func 69) [] [])))]),sT 0 0 6] none)
 .ret)),false,false,none,false,none⟩
def v30l0:VCode :=
 (.seq (Rg [vB 3 (.bin .lss (.s 7) (cI 4))])
 (.seq (.cond (.s 3) .skip
 (.exit 0))
 (.seq (.block 1 (.seq (Rg [mS 7,mK 0 8])
 (.seq (Rg [mS 8,mS 5,mS 8,vA (.bin .mul (cI 16) (.l 2)),vA (.bin .shr (.l 1) (.l 3)),vA (.cvi .u16 (.l 4)),vA (.iar (.s 9) (.l 0) 4 1),vA (.st (.l 6) (.l 5) 1)])
 (.seq (Rg [mS 8,vA (.iar (.s 9) (.l 0) 4 1),lD 1 1,vB 4 (.bin .neq (.l 2) (.c (.i .u16 0)))])
 (.cond (.s 4) (Rg [mS 8,vA (.bin .add (.l 0) (cI 1)),mK 1 6])
 .skip)))))
 (Rg [vA (.bin .add (.s 7) (cI 1)),mK 0 7]))))
def v30:VFunc :=
 ⟨1,10,[.bx 1 2 true],(.seq (Rg [vB 1 (.lal [(.b false),.nil])])
 (.seq (Rg [mS 0,vA (.cvi .u64 (.l 0)),mK 1 5])
 (.seq (.seq (Rg [mS 0,vB 2 (.bin .lss (.l 0) (cI 0))])
 (.cond (.s 2) (Rg [mS 5,vA (.un .neg (.l 0)),mK 1 5])
 .skip))
 (.seq (.reg [vB 9 (.haa 1 [[(.i .u16 0)],[(.i .u16 0)],[(.i .u16 0)],[(.i .u16 0)]] true)] none)
 (.seq (Rg [mI 0 6])
 (.seq (.seq (Rg [mI 0 7])
 (.block 0 (.loop v30l0)))
 (.seq (Rg [mS 0,vA (.bin .lss (.l 0) (cI 0)),mS 6,vA (.sla (.s 9) 4 1 none (some (.l 2))),c1 70 3,vA (.agc [(.b false),.nil] [(0,1,(.l 1)),(1,1,(.l 4))]),sT 1 5 2])
 .ret))))))),true,false,none,false,none⟩
def v31:VFunc :=
 ⟨2,7,[.bx 2 4 true],(.seq (Rg [bX 0 2 5,bX 1 2 4,vB 2 (.lal z4)])
 (.seq (.seq (Rg [fA 4 0,vB 3 (.lld (.lo 0) 1 false)])
 (.cond (.s 3) (.reg [lS 5 2,c1 71 0,lS 4 2,c1 71 2,sT 5 1 2,sT 4 3 2] (some false))
 .skip))
 (.seq (Rg [lS 5 2,lS 4 2,c2 55 0 1,vB 6 (.lal [(.b false),.nil]),sT 6 2 2])
 (.seq (Rg [lS 5 2,lS 6 2,c2 26 0 1,mL 2,xT 3 0,xT 3 1,sT 5 4 2])
 (.seq (Rg [lS 4 2,lS 6 2,c2 26 0 1,mL 2,xT 3 0,xT 3 1,sT 4 4 2])
 (.seq (Rg [lS 5 2,lS 4 2,vA (.agc z4 [(0,2,(.l 0)),(2,2,(.l 1))]),vA (.agc z4 [(0,4,(.l 2))]),sT 2 3 4])
 .ret)))))),true,false,none,false,none⟩
def v32:VFunc :=
 ⟨1,5,[.bx 1 4 true,.s 2],(.seq (Rg [bX 0 4 4,vB 1 (.lal z4),mI 0 2])
 (.seq (.seq (Rg [lS 4 4,vB 3 (.call 52 [(.l 0)])])
 (.cond (.s 3) (.seq (Rg [vA (.agc z4 []),sT 1 0 4,mI 3 2])
 .ret)
 .skip))
 (.seq (Rg [fA 4 0,lP 0 4,sT 1 1 4,mI 0 2])
 .ret))),true,false,none,false,none⟩
def v33:VFunc :=
 ⟨1,3,[.s 1],(.seq (Rg [bX 0 4 2,mB false 1])
 (.seq (Rg [fA 2 0,vA (.lfa (.lo 0) 2),lP 1 2,c1 54 2,mK 3 1])
 .ret)),true,false,none,false,none⟩
def r0:Rnd :=
 ⟨34,[true,true,true,true,false,true,false],33,[0,2,3,8,12,15,16,23,25,30,1,4,5],[6],(Rg [mT 6 12]),(.block 1 (Rg [sD 11 1,vA (.bin .shl (.l 0) (.c (.i .u64 16))),mS 12,vA (.cvi .u64 (.l 2)),vA (.bin .or (.l 1) (.l 3)),vA (.st (.s 11) (.l 4) 1)]))⟩
def v34:VFunc :=
 ⟨1,13,[.s 1,.s 2],(.seq (Rg [vB 10 (.hbx 26 (.s 0) 2),mI 0 1,mI 0 2])
 (.seq (.seq (Rg [vA (.ld (.s 10) 2 true),c1 53 0,vB 3 (.un .not (.l 1))])
 (.cond (.s 3) (.seq (Rg [mI 0 1,mI 2 2])
 .ret)
 .skip))
 (.seq (.seq (Rg [vA (.fad (.s 10) 1),lD 0 1,nL 1 1,vB 4 (.bin .gtr (.l 2) (cI 4))])
 (.cond (.s 4) (.seq (Rg [mI 0 1,mI 3 2])
 .ret)
 .skip))
 (.seq (Rg [vB 11 (.hal 22 [(.i .u64 0)]),vA (.st (.s 11) (.c (.i .u64 0)) 1)])
 (.seq (.seq (Rg [vA (.fad (.s 10) 1),lD 0 1,vB 5 (.call 72 [(.l 1)])])
 (.block 0 (.rng 0 (.s 5))))
 (.seq (.seq (Rg [vA (.fad (.s 10) 0),vB 7 (.ld (.l 0) 1 false)])
 (.cond (.s 7) (.seq (.seq (Rg [sD 11 1,vB 8 (.bin .gtr (.l 0) (.c (.i .u64 9223372036854775808)))])
 (.cond (.s 8) (.seq (Rg [mI 0 1,mI 3 2])
 .ret)
 .skip))
 (.seq (Rg [sD 11 1,vA (.un .neg (.l 0)),vA (.cvi .i64 (.l 1)),mK 2 1,mI 0 2])
 .ret))
 .skip))
 (.seq (.seq (Rg [sD 11 1,vB 9 (.bin .geq (.l 0) (.c (.i .u64 9223372036854775808)))])
 (.cond (.s 9) (.seq (Rg [mI 0 1,mI 3 2])
 .ret)
 .skip))
 (.seq (Rg [sD 11 1,vA (.cvi .i64 (.l 0)),mK 1 1,mI 0 2])
 .ret)))))))),true,false,none,false,some 34⟩
def v35:VFunc :=
 ⟨4,6,[.s 4],(.seq (Rg [bX 0 4 5,mB false 4])
 (.seq (Rg [mS 2,mS 3,c2 73 0 1,mL 2,vG 3 true (.lld (.sl 5) 4 true),vG 3 true (.call 74 [(.l 4)]),vA (.pick (.l 3) (.l 5) (.c (.b false))),mL 6,vG 7 true (.mov (.s 1)),vG 7 true (.call 45 [(.l 8)]),vA (.pick (.l 7) (.l 9) (.c (.b false))),mK 10 4])
 .ret)),true,false,none,false,none⟩
def v36l0:VCode :=
 (.seq (Rg [vB 3 (.bin .lss (.s 10) (.s 11))])
 (.seq (.cond (.s 3) .skip
 (.exit 2))
 (.seq (.block 3 (.seq (Rg [mS 10,mK 0 12])
 (Rg [mS 9,mS 12,mS 9,mS 12,iA 2 3 7,fD 4 3,lT 5 4,c1 78 6,iA 0 1 7,fD 8 3,vA (.st (.l 9) (.l 7) 4)])))
 (Rg [vA (.bin .add (.s 10) (cI 1)),mK 0 10]))))
def v36l1:VCode :=
 (.seq (Rg [vB 2 (.bin .lss (.s 6) (.s 7))])
 (.seq (.cond (.s 2) .skip
 (.exit 0))
 (.seq (.block 1 (.seq (Rg [mS 6,mK 0 8])
 (.seq (Rg [fA 5 2,lO 0 1,mS 8,iA 1 2 3,fD 3 2,lD 4 1,c1 77 5,mK 6 9])
 (.seq (.seq (Rg [mS 9,vB 11 (.len 1 (.l 0)),mI 0 10])
 (.block 2 (.loop v36l0)))
 (Rg [fA 5 2,lO 0 1,mS 8,mS 9,iA 1 2 3,fD 4 2,vA (.st (.l 5) (.l 3) 1)])))))
 (Rg [vA (.bin .add (.s 6) (cI 1)),mK 0 6]))))
def v36l2:VCode :=
 (.seq (Rg [vB 4 (.bin .lss (.s 13) (.s 14))])
 (.seq (.cond (.s 4) .skip
 (.exit 4))
 (.seq (.block 5 (.seq (Rg [mS 13,mK 0 15])
 (.reg [fA 5 3,lO 0 1,mS 15,fA 5 3,lO 3 1,mS 15,iA 4 5 24,lT 6 24,c1 80 7,iA 1 2 24,vA (.st (.l 9) (.l 8) 24)] (some false))))
 (Rg [vA (.bin .add (.s 13) (cI 1)),mK 0 13]))))
def v36:VFunc :=
 ⟨1,16,[.bx 1 4 true],(.seq (.reg [bX 0 4 5,vB 1 (.lal [(.s []),.nil,.nil,.nil])] none)
 (.seq (Rg [fA 5 1,lO 0 1,c1 75 1,fA 5 1,vA (.lst (.lo 3) (.l 2) 1)])
 (.seq (Rg [fA 5 2,lO 0 1,c1 76 1,fA 5 2,vA (.lst (.lo 3) (.l 2) 1)])
 (.seq (.seq (Rg [fA 5 2,lO 0 1,vB 7 (.len 1 (.l 1)),mI 0 6])
 (.block 0 (.loop v36l1)))
 (.seq (Rg [fA 5 3,lO 0 1,c1 79 1,fA 5 3,vA (.lst (.lo 3) (.l 2) 1)])
 (.seq (.seq (Rg [fA 5 3,lO 0 1,vB 14 (.len 1 (.l 1)),mI 0 13])
 (.block 4 (.loop v36l2)))
 (.seq (Rg [lS 5 4,sT 1 0 4])
 .ret))))))),true,false,none,false,none⟩
def v37:VFunc :=
 ⟨1,3,[.bx 1 11 true],(.seq (.reg [bX 0 11 2,vB 1 (.lal [(.s []),(.i .i64 0),(.i .i64 0),(.i .i64 0),(.b false),(.i .u8 0),(.b false),.nil,(.b false),.nil,(.i .i64 0)])] none)
 (.seq (Rg [fA 2 5,vA (.lfa (.lo 0) 1),lP 1 4,c1 78 2,fA 2 5,vA (.lfa (.lo 4) 1),vA (.lst (.lo 5) (.l 3) 4)])
 (.seq (Rg [lS 2 11,sT 1 0 11])
 .ret))),true,false,none,false,none⟩
def v38l0:VCode :=
 (.seq (.seq (Rg [mS 6,mS 5,mS 1,vA (.bin .add (.l 1) (.l 2)),vB 3 (.bin .lss (.l 0) (.l 3))])
 (.cond (.s 3) .skip
 (.exit 0)))
 (.seq (.block 1 (.seq (.reg [mS 0,mS 0,vA (.nck (.l 1)),fD 2 9,lD 3 1,mS 0,mS 6,vA (.calvx (.c (.fn (.func 49) [] [])) [(.l 5),(.l 6)]),vA (.bsv 6 1 [(.i .i64 0),(.i .i64 0),(.i .i64 0),.nil,.nil,.nil] [(0,(.l 7))]),vA (.app (.l 4) (.l 8) 6 96 true),vA (.nck (.l 0)),fD 10 9,vA (.st (.l 11) (.l 9) 1)] (some false))
 (Rg [mS 4,mS 6,vA (.bsv 1 1 [(.i .i64 0)] [(0,(.l 1))]),vA (.app (.l 0) (.l 2) 1 8 true),mK 3 4])))
 (Rg [mS 6,vA (.bin .add (.l 0) (cI 1)),mK 1 6])))
def v38:VFunc :=
 ⟨2,7,[.s 2],(.seq (Rg [vB 2 (.mov (.c .nil))])
 (.seq (Rg [vB 4 (.mov (.c .nil))])
 (.seq (.reg [mS 0,vA (.nck (.l 0)),fD 1 8,lD 2 1,mS 0,vA (.nck (.l 4)),fD 5 9,lD 6 1,nL 1 7,vA (.bin .add (.l 3) (.l 8)),mK 9 5] (some false))
 (.seq (.seq (Rg [mS 5,mK 0 6])
 (.block 0 (.loop v38l0)))
 (.seq (Rg [mS 4,mK 0 2])
 .ret))))),false,false,none,false,none⟩
def v39:VFunc :=
 ⟨1,2,[.s 1],(.seq (Rg [mB false 1])
 (.seq (Rg [mS 0,vA (.eqv false .pt (.l 0) (.c .np)),mL 1,vG 2 false (.mov (.s 0)),vG 2 false (.nck (.l 3)),vG 2 false (.fad (.l 4) 0),vG 2 false (.ld (.l 5) 1 false),vG 2 false (.mov (.s 0)),vG 2 false (.eqv true .pt (.l 6) (.l 7)),vA (.pick (.l 2) (.c (.b true)) (.l 8)),mK 9 1])
 .ret)),false,false,none,false,none⟩
def v40:VFunc :=
 ⟨1,3,[.s 1],(.seq (Rg [vB 1 (.mov (.c .nil))])
 (.seq (.seq (Rg [mS 0,vB 2 (.eqv false .sl (.l 0) (.c .nil))])
 (.cond (.s 2) (.seq (Rg [vB 1 (.mov (.c .nil))])
 .ret)
 .skip))
 (.seq (Rg [vA (.bsl 6 0 [(.i .i64 0),(.i .i64 0),(.i .i64 0),.nil,.nil,.nil] [] true),mS 0,vA (.app (.l 0) (.l 1) 6 96 true),mK 2 1])
 .ret))),false,false,none,false,none⟩
def v41:VFunc :=
 ⟨1,3,[.s 1],(.seq (Rg [vB 1 (.mov (.c .nil))])
 (.seq (.seq (Rg [mS 0,vB 2 (.eqv false .sl (.l 0) (.c .nil))])
 (.cond (.s 2) (.seq (Rg [vB 1 (.mov (.c .nil))])
 .ret)
 .skip))
 (.seq (.reg [vA (.bsl 2 0 [(.s []),(.i .i64 0)] [] true),mS 0,vA (.app (.l 0) (.l 1) 2 24 true),mK 2 1] none)
 .ret))),true,false,none,false,none⟩
def v42:VFunc :=
 ⟨1,3,[.s 1],(.seq (Rg [vB 1 (.mov (.c .nil))])
 (.seq (.seq (Rg [mS 0,vB 2 (.eqv false .sl (.l 0) (.c .nil))])
 (.cond (.s 2) (.seq (Rg [vB 1 (.mov (.c .nil))])
 .ret)
 .skip))
 (.seq (.reg [vA (.bsl 3 0 [(.s []),(.i .i64 0),(.i .i64 0)] [] true),mS 0,vA (.app (.l 0) (.l 1) 3 32 true),mK 2 1] none)
 .ret))),true,false,none,false,none⟩
def v43:VFunc :=
 ⟨1,3,[.s 1],(.seq (Rg [vB 1 (.mov (.c .nil))])
 (.seq (.seq (Rg [mS 0,vB 2 (.eqv false .sl (.l 0) (.c .nil))])
 (.cond (.s 2) (.seq (Rg [vB 1 (.mov (.c .nil))])
 .ret)
 .skip))
 (.seq (.reg [vA (.bsl 1 0 [(.s [])] [] true),mS 0,vA (.app (.l 0) (.l 1) 1 16 true),mK 2 1] none)
 .ret))),true,false,none,false,none⟩
def v45:VFunc :=
 ⟨1,4,[.s 1],(.seq (Rg [mB false 1])
 (.seq (.seq (.reg [mS 0,nL 1 0,vA (.bin .gtr (.l 1) (cI 2000)),mL 2,vG 3 false (.mov (.s 0)),vG 3 false (.call 81 [(.l 4),(.c (.fn (.func 82) [] []))]),vB 2 (.pick (.l 3) (.c (.b true)) (.l 5))] none)
 (.cond (.s 2) (.seq (Rg [mB false 1])
 .ret)
 .skip))
 (.seq (Rg [mS 0,c1 84 0,mL 1,xT 2 0,xT 2 1,mL 3,mK 4 3])
 (.seq (Rg [mS 3,mK 0 1])
 .ret)))),true,false,none,false,none⟩
def v46l0:VCode :=
 (.seq (Rg [vB 4 (.bin .lss (.s 7) (.s 8))])
 (.seq (.cond (.s 4) .skip
 (.exit 0))
 (.seq (.block 1 (.seq (Rg [mS 7,vA (.iad (.s 9) (.s 7) 6),lT 1 6,vB 10 (.lal [(.i .i64 0),(.i .i64 0),(.i .i64 0),.nil,.nil,.nil]),mK 0 11,sT 10 2 6])
 (.seq (Rg [mS 1,fA 10 3,lP 1 3,vB 5 (.calv (.l 0) [(.l 2)])])
 (.cond (.s 5) (.seq (.reg [mS 0,vA (.nck (.l 0)),fD 1 9,lD 2 1,mS 11,mS 2,fA 10 0,lO 6 1,vA (.calvx (.l 5) [(.l 7)]),iA 3 4 6,vA (.st (.l 9) (.l 8) 6)] (some false))
 (Rg [mS 6,fA 10 0,lO 1 1,vA (.bsv 1 1 [(.i .i64 0)] [(0,(.l 2))]),vA (.app (.l 0) (.l 3) 1 8 true),mK 4 6]))
 .skip))))
 (Rg [vA (.bin .add (.s 7) (cI 1)),mK 0 7]))))
def v46:VFunc :=
 ⟨3,12,[.s 3],(.seq (Rg [vB 3 (.mov (.c .nil))])
 (.seq (Rg [vB 6 (.mov (.c .nil))])
 (.seq (.seq (Rg [mS 0,vA (.nck (.l 0)),fD 1 9,vB 9 (.ld (.l 2) 1 false),vB 8 (.len 1 (.s 9)),mI 0 7])
 (.block 0 (.loop v46l0)))
 (.seq (Rg [mS 6,mK 0 3])
 .ret)))),false,false,none,false,none⟩
def v47:VFunc :=
 ⟨3,5,[.s 3],(.seq (Rg [bX 0 3 4,mB false 3])
 (.seq (.reg [lS 4 3,vA (.ld (.s 1) 11 true),sD 2 1,vA (.nck (.l 2)),fD 3 7,lD 4 1,vA (.call 48 [(.l 0),(.l 1),(.l 5)]),mK 6 3] (some false))
 .ret)),false,false,none,false,none⟩
def v48:VFunc :=
 ⟨3,6,[.s 3],(.seq (Rg [bX 0 3 5,vB 4 (.hbx 54 (.s 1) 11),mB false 3])
 (.seq (Rg [vA (.fad (.s 4) 3),lD 0 1,mS 2,vA (.bin .leq (.l 1) (.l 2)),mL 3,vG 4 true (.lfa (.sl 5) 1),vG 4 true (.lld (.lo 5) 1 false),vG 4 true (.mkf (.func 86) [] [(.s 4)]),vG 4 true (.call 85 [(.l 6),(.l 7)]),vA (.pick (.l 4) (.l 8) (.c (.b false))),mK 9 3])
 .ret)),true,false,none,false,none⟩
def v49:VFunc :=
 ⟨2,9,[.bx 2 6 true],(.seq (Rg [vB 2 (.lal [(.i .i64 0),(.i .i64 0),(.i .i64 0),.nil,.nil,.nil])])
 (.seq (Rg [mS 1,c1 87 0,mL 1,xT 2 0,xT 2 1,mK 3 4,mL 4])
 (.seq (.reg [mS 0,vA (.nck (.l 0)),fD 1 1,lT 2 4,mS 0,vA (.nck (.l 4)),fD 5 5,lD 6 1,mS 0,vA (.nck (.l 8)),fD 9 6,lD 10 1,mS 4,mS 0,vA (.nck (.l 13)),fD 14 7,lD 15 1,vA (.call 88 [(.l 3),(.l 7),(.l 11),(.l 12),(.l 16)]),mL 17,xT 18 0,xT 18 1,xT 18 2,vB 7 (.lal z6),vB 6 (.lal [.nil,.nil,.nil]),sT 7 19 6,sT 6 20 3,mK 21 5] (some false))
 (.seq (Rg [mS 1,mS 5,lS 6 3,vA (.agc [(.i .i64 0),(.i .i64 0),(.i .i64 0),.nil,.nil,.nil] [(0,1,(.l 0)),(2,1,(.l 1)),(3,3,(.l 2))]),vB 8 (.lal [(.i .i64 0),(.i .i64 0),(.i .i64 0),.nil,.nil,.nil]),sT 8 3 6])
 (.seq (.seq (Rg [mS 5,vB 3 (.bin .eql (.l 0) (cI 0))])
 (.cond (.s 3) (Rg [lS 7 6,c1 5 0,mL 1,xT 2 0,xT 2 1,fA 8 1,vA (.lst (.lo 5) (.l 3) 1),fA 8 2,vA (.lst (.lo 7) (.l 4) 1)])
 .skip))
 (.seq (Rg [lS 8 6,sT 2 0 6])
 .ret)))))),false,false,none,false,none⟩
def v50:VFunc :=
 ⟨4,6,[.s 4],(.seq (Rg [bX 0 3 5,mB false 4])
 (.seq (.reg [sD 1 1,vA (.nck (.l 0)),fD 1 1,lT 2 4,sD 1 1,vA (.nck (.l 4)),fD 5 5,lD 6 1,lS 5 3,sD 2 1,sD 3 1,vA (.call 51 [(.l 3),(.l 7),(.l 8),(.l 9),(.l 10)]),mK 11 4] (some false))
 .ret)),false,false,none,false,none⟩
def v51:VFunc :=
 ⟨5,12,[.s 5],(.seq (Rg [bX 0 4 11,vB 9 (.hbx 63 (.s 2) 3),vB 8 (.hbx 3 (.s 3) 1),vB 10 (.hbx 3 (.s 4) 1),mB false 5])
 (.seq (.seq (Rg [mS 1,vA (.mkf (.func 89) [] [(.s 8),(.s 9),(.s 10)]),vB 6 (.call 81 [(.l 0),(.l 1)])])
 (.cond (.s 6) (.seq (Rg [mB true 5])
 .ret)
 .skip))
 (.seq (.seq (Rg [fA 11 3,lO 0 1,vA (.mkf (.func 91) [] [(.s 8),(.s 9),(.s 10)]),vB 7 (.call 90 [(.l 1),(.l 2)])])
 (.cond (.s 7) (.seq (Rg [mB true 5])
 .ret)
 .skip))
 (.seq (Rg [fA 11 2,lO 0 1,vA (.mkf (.func 94) [] [(.s 8),(.s 9),(.s 10)]),c2 93 1 2,mK 3 5])
 .ret)))),true,false,none,false,none⟩
def v52:VFunc :=
 ⟨1,3,[.s 1],(.seq (Rg [bX 0 4 2,mB false 1])
 (.seq (Rg [fA 2 0,vA (.lfa (.lo 0) 0),vA (.lfa (.lo 1) 1),lO 2 1,nL 1 3,vA (.bin .gtr (.l 4) (cI 256)),mL 5,vG 6 false (.lfa (.sl 2) 0),vG 6 false (.lfa (.lo 7) 2),vG 6 false (.lfa (.lo 8) 1),vG 6 false (.lld (.lo 9) 1 false),vG 6 false (.len 1 (.l 10)),vG 6 false (.bin .gtr (.l 11) (cI 256)),vA (.pick (.l 6) (.c (.b true)) (.l 12)),mK 13 1])
 .ret)),true,false,none,false,none⟩
def v53:VFunc :=
 ⟨1,5,[.s 1],(.seq (Rg [bX 0 2 3,mB false 1])
 (.seq (Rg [fA 3 1,lO 0 1,nL 1 1,mK 2 4])
 (.seq (.seq (Rg [mS 4,vB 2 (.bin .eql (.l 0) (cI 0))])
 (.cond (.s 2) (.seq (Rg [fA 3 0,lO 0 1,vA (.un .not (.l 1)),mK 2 1])
 .ret)
 .skip))
 (.seq (Rg [mS 4,vA (.bin .leq (.l 0) (cI 1024)),mL 1,vG 2 true (.lfa (.sl 3) 1),vG 2 true (.lld (.lo 3) 1 false),vG 2 true (.mov (.s 4)),vG 2 true (.bin .sub (.l 5) (cI 1)),vG 2 true (.iad (.l 4) (.l 6) 1),vG 2 true (.ld (.l 7) 1 false),vG 2 true (.bin .neq (.l 8) (.c (.i .u16 0))),vA (.pick (.l 2) (.l 9) (.c (.b false))),mK 10 1])
 .ret)))),true,false,none,false,none⟩
def v54:VFunc :=
 ⟨1,3,[.s 1],(.seq (Rg [bX 0 2 2,mB false 1])
 (.seq (Rg [fA 2 0,lO 0 1,vA (.un .not (.l 1)),mL 2,vG 3 true (.lfa (.sl 2) 1),vG 3 true (.lld (.lo 4) 1 false),vG 3 true (.len 1 (.l 5)),vG 3 true (.bin .eql (.l 6) (cI 1)),vA (.pick (.l 3) (.l 7) (.c (.b false))),mL 8,vG 9 true (.lfa (.sl 2) 1),vG 9 true (.lld (.lo 10) 1 false),vG 9 true (.iad (.l 11) (cI 0) 1),vG 9 true (.ld (.l 12) 1 false),vG 9 true (.bin .eql (.l 13) (.c (.i .u16 1))),vA (.pick (.l 9) (.l 14) (.c (.b false))),mK 15 1])
 .ret)),true,false,none,false,none⟩
def v55:VFunc :=
 ⟨2,6,[.bx 2 2 true],(.seq (Rg [bX 0 2 3,bX 1 2 4,vB 2 (.lal [(.b false),.nil])])
 (.seq (Rg [lS 3 2,lS 4 2,c2 98 0 1,mL 2,xT 3 0,xT 3 1,vB 5 (.lal [(.b false),.nil]),sT 5 4 2,mL 5])
 (.seq (Rg [lS 5 2,sT 2 0 2])
 .ret))),true,false,none,false,none⟩
def v56:VFunc :=
 ⟨2,3,[.s 2],(.seq (Rg [mB false 2])
 (.seq (Rg [mS 0,mS 1,c2 99 0 1,vA (.bin .geq (.l 2) (cI 0)),mK 3 2])
 .ret)),false,false,none,false,none⟩
def v57:VFunc :=
 ⟨1,3,[.s 1],(.seq (Rg [bX 0 4 2,mB false 1])
 (.seq (Rg [lS 2 4,c1 8 0,vA (.un .not (.l 1)),mK 2 1])
 .ret)),true,false,none,false,none⟩
def v58:VFunc :=
 ⟨2,7,[.bx 2 2 true,.s 3],(.seq (Rg [bX 0 2 5,bX 1 2 6,vB 2 (.lal [(.b false),.nil]),mI 0 3])
 (.seq (.seq (Rg [lS 5 2,lS 6 2,vA (.bsv 2 2 [(.b false),.nil] [(0,(.l 0)),(1,(.l 1))]),c1 60 2,vB 4 (.un .not (.l 3))])
 (.cond (.s 4) (.seq (Rg [vA (.agc [(.b false),.nil] []),sT 2 0 2,mI 2 3])
 .ret)
 .skip))
 (.seq (.reg [fA 5 0,lO 0 1,fA 6 0,lO 2 1,vA (.eqv true .b (.l 1) (.l 3)),fA 5 1,lO 5 1,c1 62 6,fA 6 1,lO 8 1,c1 62 9,c2 101 7 10,c2 100 4 11,xT 12 0,xT 12 1,sT 2 13 2,mK 14 3] (some false))
 .ret))),true,false,none,false,none⟩
def v59:VFunc :=
 ⟨2,13,[.bx 2 2 true,.bx 3 2 true,.s 4],(.seq (Rg [bX 0 2 8,bX 1 2 9,vB 2 (.lal [(.b false),.nil]),vB 3 (.lal [(.b false),.nil]),mI 0 4])
 (.seq (.seq (Rg [lS 8 2,lS 9 2,vA (.bsv 2 2 [(.b false),.nil] [(0,(.l 0)),(1,(.l 1))]),c1 60 2,vB 5 (.un .not (.l 3))])
 (.cond (.s 5) (.seq (Rg [vA (.agc [(.b false),.nil] []),vA (.agc [(.b false),.nil] []),sT 2 0 2,sT 3 1 2,mI 2 4])
 .ret)
 .skip))
 (.seq (.seq (Rg [fA 9 1,lO 0 1,nL 1 1,vB 6 (.bin .eql (.l 2) (cI 0))])
 (.cond (.s 6) (.seq (Rg [vA (.agc [(.b false),.nil] []),vA (.agc [(.b false),.nil] []),sT 2 0 2,sT 3 1 2,mI 11 4])
 .ret)
 .skip))
 (.seq (Rg [fA 9 1,lO 0 1,c1 62 1,mK 2 10])
 (.seq (Rg [fA 8 1,lO 0 1,c1 62 1,mS 10,c2 102 2 3,mL 4,xT 5 0,xT 5 1,mK 6 11,mK 7 12])
 (.seq (.seq (Rg [fA 8 0,lO 0 1,fA 9 0,lO 2 1,vA (.eqv true .b (.l 1) (.l 3)),mL 4,vG 5 true (.mov (.s 12)),vG 5 true (.len 1 (.l 6)),vG 5 true (.bin .gtr (.l 7) (cI 0)),vB 7 (.pick (.l 5) (.l 8) (.c (.b false)))])
 (.cond (.s 7) (.seq (Rg [mS 11,vA (.bsv 1 1 [(.i .u32 0)] [(0,(.c (.i .u32 1)))]),c2 103 0 1,mK 2 11])
 (Rg [mS 10,mS 12,c2 104 0 1,mK 2 12]))
 .skip))
 (.seq (.reg [fA 8 0,lO 0 1,fA 9 0,lO 2 1,vA (.eqv true .b (.l 1) (.l 3)),mS 11,c2 105 4 5,fA 9 0,lO 7 1,mS 12,c2 105 8 9,sT 2 6 2,sT 3 10 2,mI 0 4] (some false))
 .ret))))))),true,false,none,false,none⟩
def v60l0:VCode :=
 (.seq (Rg [vB 2 (.bin .lss (.s 4) (.s 5))])
 (.seq (.cond (.s 2) .skip
 (.exit 0))
 (.seq (.block 1 (.seq (Rg [vA (.iad (.s 6) (.s 4) 2),lT 0 2,vB 7 (.lal [(.b false),.nil]),sT 7 1 2])
 (.seq (Rg [lS 7 2,c1 53 0,vB 3 (.un .not (.l 1))])
 (.cond (.s 3) (.seq (Rg [mB false 1])
 .ret)
 .skip))))
 (Rg [vA (.bin .add (.s 4) (cI 1)),mK 0 4]))))
def v60:VFunc :=
 ⟨1,8,[.s 1],(.seq (Rg [mB false 1])
 (.seq (.seq (Rg [mT 0 6,vB 5 (.len 1 (.s 6)),mI 0 4])
 (.block 0 (.loop v60l0)))
 (.seq (Rg [mB true 1])
 .ret))),true,false,none,false,none⟩
def v61l0:VCode :=
 (.seq (.seq (Rg [mS 8,vB 5 (.bin .geq (.l 0) (cI 0))])
 (.cond (.s 5) .skip
 (.exit 0)))
 (.seq (.block 1 (.seq (.reg [mS 0,mS 8,iA 0 1 1,lD 2 1,mS 1,mS 8,iA 4 5 1,lD 6 1,vB 6 (.bin .neq (.l 3) (.l 7))] (some false))
 (.cond (.s 6) (.seq (.seq (.reg [mS 0,mS 8,iA 0 1 1,lD 2 1,mS 1,mS 8,iA 4 5 1,lD 6 1,vB 7 (.bin .lss (.l 3) (.l 7))] (some false))
 (.cond (.s 7) (.seq (Rg [mI (-1) 2])
 .ret)
 .skip))
 (.seq (Rg [mI 1 2])
 .ret))
 .skip)))
 (Rg [mS 8,vA (.bin .sub (.l 0) (cI 1)),mK 1 8])))
def v61:VFunc :=
 ⟨2,9,[.s 2],(.seq (Rg [mI 0 2])
 (.seq (.seq (Rg [mS 0,nL 1 0,mS 1,nL 1 2,vB 3 (.bin .neq (.l 1) (.l 3))])
 (.cond (.s 3) (.seq (.seq (Rg [mS 0,nL 1 0,mS 1,nL 1 2,vB 4 (.bin .lss (.l 1) (.l 3))])
 (.cond (.s 4) (.seq (Rg [mI (-1) 2])
 .ret)
 .skip))
 (.seq (Rg [mI 1 2])
 .ret))
 .skip))
 (.seq (.seq (Rg [mS 0,nL 1 0,vA (.bin .sub (.l 1) (cI 1)),mK 2 8])
 (.block 0 (.loop v61l0)))
 (.seq (Rg [mI 0 2])
 .ret)))),true,false,none,false,none⟩
def v62l0:VCode :=
 (.seq (Rg [vB 2 (.bin .lss (.s 3) (.s 4))])
 (.seq (.cond (.s 2) .skip
 (.exit 0))
 (.seq (.block 1 (.seq (Rg [mS 3,vA (.iad (.s 5) (.s 3) 1),lD 1 1,mK 0 7,mK 2 8])
 (.reg [mS 6,mS 7,vA (.bin .quo (.l 1) (cI 2)),iA 0 2 1,lD 3 1,mS 8,vA (.cvi .u32 (.l 5)),mS 7,vA (.bin .rem (.l 7) (cI 2)),vA (.bin .mul (cI 16) (.l 8)),vA (.bin .shl (.l 6) (.l 9)),vA (.bin .or (.l 4) (.l 10)),iA 0 2 1,vA (.st (.l 12) (.l 11) 1)] (some false))))
 (Rg [vA (.bin .add (.s 3) (cI 1)),mK 0 3]))))
def v62:VFunc :=
 ⟨1,9,[.s 1],(.seq (Rg [vB 1 (.mov (.c .nil))])
 (.seq (Rg [mS 0,nL 1 0,vA (.bin .add (.l 1) (cI 1)),vA (.bin .quo (.l 2) (cI 2)),vA (.mks (.l 3) (.l 3) 1 4 [(.i .u32 0)] true),mK 4 6])
 (.seq (.seq (Rg [mT 0 5,vB 4 (.len 1 (.s 5)),mI 0 3])
 (.block 0 (.loop v62l0)))
 (.seq (Rg [mS 6,mK 0 1])
 .ret)))),true,false,none,false,none⟩
def v63:VFunc :=
 ⟨2,7,[.bx 2 2 true,.s 3],(.seq (Rg [bX 0 2 5,bX 1 2 6,vB 2 (.lal [(.b false),.nil]),mI 0 3])
 (.seq (.seq (Rg [lS 5 2,lS 6 2,vA (.bsv 2 2 [(.b false),.nil] [(0,(.l 0)),(1,(.l 1))]),c1 60 2,vB 4 (.un .not (.l 3))])
 (.cond (.s 4) (.seq (Rg [vA (.agc [(.b false),.nil] []),sT 2 0 2,mI 2 3])
 .ret)
 .skip))
 (.seq (.reg [fA 5 0,lO 0 1,fA 5 1,lO 2 1,c1 62 3,fA 6 0,lO 5 1,fA 6 1,lO 7 1,c1 62 8,vA (.call 106 [(.l 1),(.l 4),(.l 6),(.l 9)]),xT 10 0,xT 10 1,sT 2 11 2,mK 12 3] (some false))
 .ret))),true,false,none,false,none⟩
def v64:VFunc :=
 ⟨1,3,[.s 1],(.seq (Rg [bX 0 3 2,mB false 1])
 (.seq (Rg [fA 2 0,lO 0 1,mK 1 1])
 .ret)),true,false,none,false,none⟩
def v65:VFunc :=
 ⟨1,3,[.s 1],(.seq (Rg [bX 0 3 2,mB false 1])
 (.seq (Rg [fA 2 0,lO 0 1,vA (.un .not (.l 1)),mK 2 1])
 .ret)),true,false,none,false,none⟩
def v66:VFunc :=
 ⟨1,3,[.s 1],(.seq (Rg [bX 0 3 2,mB false 1])
 (.seq (Rg [mB false 1])
 .ret)),true,false,none,false,none⟩
def v67:VFunc :=
 ⟨1,3,[.s 1],(.seq (Rg [bX 0 3 2,mB false 1])
 (.seq (Rg [mB true 1])
 .ret)),true,false,none,false,none⟩
def v68:VFunc :=
 ⟨1,3,[.s 1],(.seq (Rg [bX 0 3 2,mB false 1])
 (.seq (Rg [fA 2 2,lO 0 1,vA (.bin .gtr (.l 1) (cI 0)),mL 2,vG 3 false (.lfa (.sl 2) 2),vG 3 false (.lld (.lo 4) 1 false),vG 3 false (.bin .eql (.l 5) (cI 0)),vG 3 false (.mov (.l 6)),vG 7 true (.lfa (.sl 2) 0),vG 7 true (.lld (.lo 8) 1 false),vG 7 true (.un .not (.l 9)),vG 3 false (.pick (.l 7) (.l 10) (.c (.b false))),vA (.pick (.l 3) (.c (.b true)) (.l 11)),mK 12 1])
 .ret)),true,false,none,false,none⟩
def v69:VFunc :=
 ⟨1,3,[.s 1],(.seq (Rg [bX 0 3 2,mB false 1])
 (.seq (Rg [fA 2 2,lO 0 1,vA (.bin .gtr (.l 1) (cI 0)),mL 2,vG 3 false (.lfa (.sl 2) 2),vG 3 false (.lld (.lo 4) 1 false),vG 3 false (.bin .eql (.l 5) (cI 0)),vG 3 false (.mov (.l 6)),vG 7 true (.lfa (.sl 2) 1),vG 7 true (.lld (.lo 8) 1 false),vG 3 false (.pick (.l 7) (.l 9) (.c (.b false))),vA (.pick (.l 3) (.c (.b true)) (.l 10)),mK 11 1])
 .ret)),true,false,none,false,none⟩
def v70:VFunc :=
 ⟨1,3,[.s 1],(.seq (Rg [vB 1 (.mov (.c .nil))])
 (.seq (.seq (Rg [mS 0,vB 2 (.eqv false .sl (.l 0) (.c .nil))])
 (.cond (.s 2) (.seq (Rg [vB 1 (.mov (.c .nil))])
 .ret)
 .skip))
 (.seq (Rg [vA (.bsl 1 0 [(.i .u16 0)] [] true),mS 0,vA (.app (.l 0) (.l 1) 1 2 true),mK 2 1])
 .ret))),true,false,none,false,none⟩
def v71:VFunc :=
 ⟨1,3,[.bx 1 2 true],(.seq (Rg [bX 0 2 2,vB 1 (.lal [(.b false),.nil])])
 (.seq (.reg [fA 2 0,lO 0 1,vA (.un .not (.l 1)),mL 2,vG 3 true (.lfa (.sl 2) 1),vG 3 true (.lld (.lo 4) 1 false),vG 3 true (.len 1 (.l 5)),vG 3 true (.bin .gtr (.l 6) (cI 0)),vA (.pick (.l 3) (.l 7) (.c (.b false))),fA 2 1,lO 9 1,c1 70 10,vA (.agc [(.b false),.nil] [(0,1,(.l 8)),(1,1,(.l 11))]),sT 1 12 2] (some false))
 .ret)),true,false,none,false,none⟩
def v72:VFunc :=
 ⟨1,3,[.s 1],(.seq (Rg [vB 2 (.hbx 24 (.s 0) 1),vB 1 (.mov (.c .nf))])
 (.seq (Rg [vA (.mkf (.func 107) [] [(.s 2)]),mK 0 1])
 .ret)),false,false,none,false,none⟩
def v73:VFunc :=
 ⟨2,8,[.s 2],(.seq (Rg [mB false 2])
 (.seq (.seq (Rg [mS 1,vA (.bin .lss (.l 0) (cI 0)),mL 1,vG 2 false (.mov (.s 1)),vG 2 false (.bin .gtr (.l 3) (cI 1200)),vB 3 (.pick (.l 2) (.c (.b true)) (.l 4))])
 (.cond (.s 3) (.seq (Rg [mB false 2])
 .ret)
 .skip))
 (.seq (.seq (Rg [mS 1,vB 4 (.bin .eql (.l 0) (cI 0))])
 (.cond (.s 4) (.seq (Rg [mB true 2])
 .ret)
 .skip))
 (.seq (Rg [mS 0,c1 87 0,mL 1,xT 2 0,xT 2 1,mL 3,mK 4 6])
 (.seq (.seq (Rg [mS 6,vB 5 (.bin .neq (.l 0) (cI 0))])
 (.cond (.s 5) (.seq (Rg [mB false 2])
 .ret)
 .skip))
 (.seq (Rg [mS 0,mS 1,vA (.bin .add (.l 0) (.l 1)),vA (.bin .sub (.l 2) (cI 1)),c1 87 3,mL 4,xT 5 0,xT 5 1,mL 6,mK 7 7])
 (.seq (Rg [mS 7,vA (.bin .eql (.l 0) (cI 0)),mK 1 2])
 .ret))))))),true,false,none,false,none⟩
def v74l0:VCode :=
 (.seq (Rg [vB 3 (.bin .lss (.s 8) (.s 9))])
 (.seq (.cond (.s 3) .skip
 (.exit 0))
 (.seq (.block 1 (.seq (.reg [vA (.iad (.s 10) (.s 8) 24),lT 0 24,vB 11 (.lal [(.s []),(.s []),(.i .i64 0),(.i .i64 0),(.i .i64 0),(.b false),(.i .u8 0),(.s []),(.i .u8 0),(.b false),.nil,(.b false),.nil,(.i .i64 0),.nil,(.i .u8 0),(.s []),(.i .u8 0),(.b false),.nil,(.b false),.nil,(.i .i64 0),.nil]),sT 11 1 24] none)
 (.seq (Rg [fA 11 6,lP 0 9,c1 108 1,vA (.un .not (.l 2)),mL 3,vG 4 false (.lfa (.sl 11) 15),vG 4 false (.lld (.lo 5) 9 true),vG 4 false (.call 108 [(.l 6)]),vG 4 false (.un .not (.l 7)),vB 4 (.pick (.l 4) (.c (.b true)) (.l 8))])
 (.cond (.s 4) (.seq (Rg [mB false 1])
 .ret)
 .skip))))
 (Rg [vA (.bin .add (.s 8) (cI 1)),mK 0 8]))))
def v74l1:VCode :=
 (.seq (Rg [vB 5 (.bin .lss (.s 12) (.s 13))])
 (.seq (.cond (.s 5) .skip
 (.exit 2))
 (.seq (.block 3 (.seq (.reg [vA (.iad (.s 14) (.s 12) 3),lT 0 3,vB 15 (.lal [(.s []),(.b false),.nil]),sT 15 1 3] none)
 (.seq (Rg [lS 15 3,c1 109 0,vB 6 (.un .not (.l 1))])
 (.cond (.s 6) (.seq (Rg [mB false 1])
 .ret)
 .skip))))
 (Rg [vA (.bin .add (.s 12) (cI 1)),mK 0 12]))))
def v74:VFunc :=
 ⟨1,16,[.s 1],(.seq (Rg [bX 0 4 7,mB false 1])
 (.seq (.seq (Rg [fA 7 1,lO 0 1,nL 1 1,vA (.bin .gtr (.l 2) (cI 64)),mL 3,vG 4 false (.lfa (.sl 7) 3),vG 4 false (.lld (.lo 5) 1 false),vG 4 false (.len 1 (.l 6)),vG 4 false (.bin .gtr (.l 7) (cI 400)),vA (.pick (.l 4) (.c (.b true)) (.l 8)),mL 9,vG 10 false (.lfa (.sl 7) 2),vG 10 false (.lld (.lo 11) 1 false),vG 10 false (.len 1 (.l 12)),vG 10 false (.bin .gtr (.l 13) (cI 16)),vB 2 (.pick (.l 10) (.c (.b true)) (.l 14))])
 (.cond (.s 2) (.seq (Rg [mB false 1])
 .ret)
 .skip))
 (.seq (.seq (Rg [fA 7 3,vB 10 (.lld (.lo 0) 1 false),vB 9 (.len 1 (.s 10)),mI 0 8])
 (.block 0 (.loop v74l0)))
 (.seq (.seq (Rg [fA 7 2,vB 14 (.lld (.lo 0) 1 false),vB 13 (.len 1 (.s 14)),mI 0 12])
 (.block 2 (.loop v74l1)))
 (.seq (Rg [mB true 1])
 .ret))))),true,false,none,false,none⟩
def v75:VFunc :=
 ⟨1,3,[.s 1],(.seq (Rg [vB 1 (.mov (.c .nil))])
 (.seq (.seq (Rg [mS 0,vB 2 (.eqv false .sl (.l 0) (.c .nil))])
 (.cond (.s 2) (.seq (Rg [vB 1 (.mov (.c .nil))])
 .ret)
 .skip))
 (.seq (.reg [vA (.bsl 3 0 [(.s []),(.i .u8 0),(.b false)] [] true),mS 0,vA (.app (.l 0) (.l 1) 3 24 true),mK 2 1] none)
 .ret))),true,false,none,false,none⟩
def v76:VFunc :=
 ⟨1,3,[.s 1],(.seq (Rg [vB 1 (.mov (.c .nil))])
 (.seq (.seq (Rg [mS 0,vB 2 (.eqv false .sl (.l 0) (.c .nil))])
 (.cond (.s 2) (.seq (Rg [vB 1 (.mov (.c .nil))])
 .ret)
 .skip))
 (.seq (.reg [vA (.bsl 3 0 [(.s []),(.b false),.nil] [] true),mS 0,vA (.app (.l 0) (.l 1) 3 48 true),mK 2 1] none)
 .ret))),true,true,none,false,none⟩
def v78:VFunc :=
 ⟨1,3,[.bx 1 4 true],(.seq (Rg [bX 0 4 2,vB 1 (.lal z4)])
 (.seq (Rg [fA 2 0,vA (.lfa (.lo 0) 1),lO 1 1,c1 70 2,fA 2 0,vA (.lfa (.lo 4) 1),vA (.lst (.lo 5) (.l 3) 1)])
 (.seq (Rg [fA 2 2,vA (.lfa (.lo 0) 1),lO 1 1,c1 70 2,fA 2 2,vA (.lfa (.lo 4) 1),vA (.lst (.lo 5) (.l 3) 1)])
 (.seq (Rg [lS 2 4,sT 1 0 4])
 .ret)))),true,false,none,false,none⟩
def v79:VFunc :=
 ⟨1,3,[.s 1],(.seq (Rg [vB 1 (.mov (.c .nil))])
 (.seq (.seq (Rg [mS 0,vB 2 (.eqv false .sl (.l 0) (.c .nil))])
 (.cond (.s 2) (.seq (Rg [vB 1 (.mov (.c .nil))])
 .ret)
 .skip))
 (.seq (.reg [vA (.bsl 24 0 [(.s []),(.s []),(.i .i64 0),(.i .i64 0),(.i .i64 0),(.b false),(.i .u8 0),(.s []),(.i .u8 0),(.b false),.nil,(.b false),.nil,(.i .i64 0),.nil,(.i .u8 0),(.s []),(.i .u8 0),(.b false),.nil,(.b false),.nil,(.i .i64 0),.nil] [] true),mS 0,vA (.app (.l 0) (.l 1) 24 320 true),mK 2 1] none)
 .ret))),true,true,none,false,none⟩
def v80:VFunc :=
 ⟨1,3,[.bx 1 24 true],(.seq (.reg [bX 0 24 2,vB 1 (.lal [(.s []),(.s []),(.i .i64 0),(.i .i64 0),(.i .i64 0),(.b false),(.i .u8 0),(.s []),(.i .u8 0),(.b false),.nil,(.b false),.nil,(.i .i64 0),.nil,(.i .u8 0),(.s []),(.i .u8 0),(.b false),.nil,(.b false),.nil,(.i .i64 0),.nil])] none)
 (.seq (Rg [fA 2 6,lP 0 9,c1 110 1,fA 2 6,vA (.lst (.lo 3) (.l 2) 9)])
 (.seq (Rg [fA 2 15,lP 0 9,c1 110 1,fA 2 15,vA (.lst (.lo 3) (.l 2) 9)])
 (.seq (Rg [lS 2 24,sT 1 0 24])
 .ret)))),true,false,none,false,none⟩
def v81:VFunc :=
 ⟨2,3,[.s 2],(.seq (Rg [mB false 2])
 (.seq (Rg [mS 0,mS 1,c2 111 0 1,vA (.bin .geq (.l 2) (cI 0)),mK 3 2])
 .ret)),false,false,none,false,none⟩
def v82:VFunc :=
 ⟨1,3,[.s 1],(.seq (Rg [bX 0 11 2,mB false 1])
 (.seq (Rg [lS 2 11,c1 83 0,vA (.un .not (.l 1)),mK 2 1])
 .ret)),true,false,none,false,none⟩
def v83:VFunc :=
 ⟨1,5,[.s 1],(.seq (Rg [bX 0 11 4,mB false 1])
 (.seq (.seq (Rg [fA 4 0,lO 0 1,nL 0 1,vA (.bin .lss (.l 2) (cI 1)),mL 3,vG 4 false (.lfa (.sl 4) 0),vG 4 false (.lld (.lo 5) 1 false),vG 4 false (.len 0 (.l 6)),vG 4 false (.bin .gtr (.l 7) (cI 24)),vA (.pick (.l 4) (.c (.b true)) (.l 8)),mL 9,vG 10 false (.lfa (.sl 4) 1),vG 10 false (.lld (.lo 11) 1 false),vG 10 false (.bin .lss (.l 12) (cI 0)),vA (.pick (.l 10) (.c (.b true)) (.l 13)),mL 14,vG 15 false (.lfa (.sl 4) 1),vG 15 false (.lld (.lo 16) 1 false),vG 15 false (.lfa (.sl 4) 2),vG 15 false (.lld (.lo 18) 1 false),vG 15 false (.bin .geq (.l 17) (.l 19)),vA (.pick (.l 15) (.c (.b true)) (.l 20)),mL 21,vG 22 false (.lfa (.sl 4) 2),vG 22 false (.lld (.lo 23) 1 false),vG 22 false (.bin .gtr (.l 24) (cI 65536)),vA (.pick (.l 22) (.c (.b true)) (.l 25)),mL 26,vG 27 false (.lfa (.sl 4) 3),vG 27 false (.lld (.lo 28) 1 false),vG 27 false (.call 112 [(.l 29)]),vG 27 false (.un .not (.l 30)),vB 2 (.pick (.l 27) (.c (.b true)) (.l 31))])
 (.cond (.s 2) (.seq (Rg [mB false 1])
 .ret)
 .skip))
 (.seq (.seq (Rg [fA 4 4,vB 3 (.lld (.lo 0) 1 false)])
 (.cond (.s 3) (.seq (Rg [fA 4 5,lP 0 6,vA (.agc z6 []),c2 113 1 2,mK 3 1])
 .ret)
 .skip))
 (.seq (Rg [fA 4 5,lP 0 6,c1 114 1,mK 2 1])
 .ret)))),true,false,none,false,none⟩
def v84l0:VCode :=
 (.seq (Rg [vB 3 (.bin .lss (.s 5) (.s 6))])
 (.seq (.cond (.s 3) .skip
 (.exit 0))
 (.seq (.block 1 (.seq (.reg [vA (.iad (.s 7) (.s 5) 11),lT 0 11,vB 9 (.lal [(.s []),(.i .i64 0),(.i .i64 0),(.i .i64 0),(.b false),(.i .u8 0),(.b false),.nil,(.b false),.nil,(.i .i64 0)]),sT 9 1 11] none)
 (.seq (Rg [mS 8,fA 9 0,lO 1 1,vA (.lk (.c 2) (.l 0) (.l 2) false (.i .u8 0)),mK 3 10])
 (.seq (.seq (Rg [mS 10,vA (.bin .neq (.l 0) (.c (.i .u8 0))),mL 1,vG 2 true (.lfa (.sl 9) 4),vG 2 true (.lld (.lo 3) 1 false),vG 2 true (.un .not (.l 4)),vA (.pick (.l 2) (.l 5) (.c (.b false))),mL 6,vG 7 true (.mov (.s 10)),vG 7 true (.lfa (.sl 9) 5),vG 7 true (.lfa (.lo 9) 0),vG 7 true (.lld (.lo 10) 1 false),vG 7 true (.bin .neq (.l 8) (.l 11)),vB 4 (.pick (.l 7) (.l 12) (.c (.b false)))])
 (.cond (.s 4) (.seq (Rg [vB 1 (.mov (.c .mnil)),mB false 2])
 .ret)
 .skip))
 (Rg [mS 8,fA 9 0,lO 1 1,mS 10,fA 9 5,vA (.lfa (.lo 4) 0),lO 5 1,vA (.mx [(.l 3),(.l 6)]),vA (.mup (.c 2) (.l 0) (.l 2) (.l 7))])))))
 (Rg [vA (.bin .add (.s 5) (cI 1)),mK 0 5]))))
def v84:VFunc :=
 ⟨1,11,[.s 1,.s 2],(.seq (Rg [vB 1 (.mov (.c .mnil)),mB false 2])
 (.seq (Rg [vA (.mkm),mK 0 8])
 (.seq (.seq (Rg [mT 0 7,vB 6 (.len 1 (.s 7)),mI 0 5])
 (.block 0 (.loop v84l0)))
 (.seq (Rg [mS 8,mK 0 1,mB true 2])
 .ret)))),false,false,none,false,none⟩
def v85:VFunc :=
 ⟨2,3,[.s 2],(.seq (Rg [mB false 2])
 (.seq (Rg [mS 0,mS 1,c2 115 0 1,vA (.bin .geq (.l 2) (cI 0)),mK 3 2])
 .ret)),false,false,none,false,none⟩
def v86:VFunc :=
 ⟨2,4,[.s 2],(.seq (Rg [bX 0 3 3,mB false 2])
 (.seq (Rg [fA 3 0,lO 0 1,vA (.fad (.s 1) 0),lD 2 1,vA (.bin .eql (.l 1) (.l 3)),mL 4,vG 5 true (.lfa (.sl 3) 1),vG 5 true (.lld (.lo 6) 1 false),vG 5 true (.fad (.s 1) 1),vG 5 true (.ld (.l 8) 1 false),vG 5 true (.mx [(.l 7),(.l 9)]),vG 5 true (.lfa (.sl 3) 2),vG 5 true (.lld (.lo 11) 1 false),vG 5 true (.fad (.s 1) 2),vG 5 true (.ld (.l 13) 1 false),vG 5 true (.mn [(.l 12),(.l 14)]),vG 5 true (.bin .lss (.l 10) (.l 15)),vA (.pick (.l 5) (.l 16) (.c (.b false))),mK 17 2])
 .ret)),false,false,none,false,none⟩
def v87:VFunc :=
 ⟨1,4,[.s 1,.s 2],(.seq (Rg [mI 0 1,mI 0 2])
 (.seq (.seq (Rg [mS 0,vA (.bin .lss (.l 0) (cI 0)),mL 1,vG 2 false (.mov (.s 0)),vG 2 false (.bin .geq (.l 3) (cI 2154)),vB 3 (.pick (.l 2) (.c (.b true)) (.l 4))])
 (.cond (.s 3) (.seq (Rg [mI 0 1,mI 2 2])
 .ret)
 .skip))
 (.seq (Rg [mS 0,c1 116 0,mK 1 1,mI 0 2])
 .ret))),true,false,none,false,none⟩
def v88:VFunc :=
 ⟨5,15,[.bx 5 6 true,.bx 6 3 true,.s 7],(.seq (Rg [bX 0 4 9,vB 13 (.hbx 9 (.s 2) 1),vB 10 (.hbx 3 (.s 3) 1),vB 5 (.lal z6),vB 6 (.lal [.nil,.nil,.nil]),mI 0 7])
 (.seq (Rg [lS 9 4,mS 1,sD 10 1,mS 4,vA (.call 117 [(.l 0),(.l 1),(.l 2),(.l 3)]),mL 4,xT 5 0,xT 5 1,vB 12 (.hal 183 [.np]),vA (.st (.s 12) (.l 6) 1),mK 7 11])
 (.seq (.seq (Rg [mS 11,vB 8 (.bin .neq (.l 0) (cI 0))])
 (.cond (.s 8) (.seq (Rg [vA (.agc z6 []),vA (.agc [.nil,.nil,.nil] []),mS 11,sT 5 0 6,sT 6 1 3,mK 2 7])
 .ret)
 .skip))
 (.seq (Rg [vA (.mkf (.func 119) [] [(.s 12),(.s 13),(.s 10)]),c1 118 0,mL 1,xT 2 0,xT 2 1,vB 14 (.lal z6),sT 14 3 6,mK 4 11])
 (.seq (.reg [lS 14 6,sD 12 1,vA (.nck (.l 1)),fD 2 5,lT 3 3,mS 11,sT 5 0 6,sT 6 4 3,mK 5 7] (some false))
 .ret))))),true,false,none,false,none⟩
def v89:VFunc :=
 ⟨4,6,[.s 4],(.seq (Rg [bX 0 11 5,mB false 4])
 (.seq (Rg [fA 5 3,lO 0 1,sD 1 1,vA (.bin .gtr (.l 1) (.l 2)),mL 3,vG 4 true (.ld (.s 2) 3 true),vG 4 true (.lld (.sl 5) 11 true),vG 4 true (.ld (.s 3) 1 false),vG 4 true (.call 48 [(.l 5),(.l 6),(.l 7)]),vA (.pick (.l 4) (.l 8) (.c (.b false))),mK 9 4])
 .ret)),false,false,none,false,none⟩
def v90:VFunc :=
 ⟨2,3,[.s 2],(.seq (Rg [mB false 2])
 (.seq (Rg [mS 0,mS 1,c2 122 0 1,vA (.bin .geq (.l 2) (cI 0)),mK 3 2])
 .ret)),false,false,none,false,none⟩
def v91:VFunc :=
 ⟨4,6,[.s 4],(.seq (Rg [bX 0 24 5,mB false 4])
 (.seq (Rg [fA 5 4,lO 0 1,sD 1 1,vA (.bin .gtr (.l 1) (.l 2)),mL 3,vG 4 true (.ld (.s 2) 3 true),vG 4 true (.lld (.sl 5) 24 true),vG 4 true (.ld (.s 3) 1 false),vG 4 true (.call 92 [(.l 5),(.l 6),(.l 7)]),vA (.pick (.l 4) (.l 8) (.c (.b false))),mK 9 4])
 .ret)),false,false,none,false,none⟩
def v93:VFunc :=
 ⟨2,3,[.s 2],(.seq (Rg [mB false 2])
 (.seq (Rg [mS 0,mS 1,c2 125 0 1,vA (.bin .geq (.l 2) (cI 0)),mK 3 2])
 .ret)),false,false,none,false,none⟩
def v98:VFunc :=
 ⟨2,7,[.bx 2 2 true,.s 3],(.seq (Rg [bX 0 2 5,bX 1 2 6,vB 2 (.lal [(.b false),.nil]),mI 0 3])
 (.seq (.seq (Rg [lS 5 2,lS 6 2,vA (.bsv 2 2 [(.b false),.nil] [(0,(.l 0)),(1,(.l 1))]),c1 60 2,vB 4 (.un .not (.l 3))])
 (.cond (.s 4) (.seq (Rg [vA (.agc [(.b false),.nil] []),sT 2 0 2,mI 2 3])
 .ret)
 .skip))
 (.seq (.reg [fA 5 1,lO 0 1,c1 62 1,fA 6 1,lO 3 1,c1 62 4,c2 128 2 5,vA (.call 105 [(.c (.b false)),(.l 6)]),sT 2 7 2,mI 0 3] (some false))
 .ret))),true,false,none,false,none⟩
def v99l0:VCode :=
 (.seq (Rg [vB 3 (.bin .lss (.s 5) (.s 6))])
 (.seq (.cond (.s 3) .skip
 (.exit 0))
 (.seq (.block 1 (.seq (Rg [mS 5,mK 0 7])
 (.seq (Rg [mS 1,mS 0,mS 7,iA 1 2 4,lT 3 4,vB 4 (.calv (.l 0) [(.l 4)])])
 (.cond (.s 4) (.seq (Rg [mS 7,mK 0 2])
 .ret)
 .skip))))
 (Rg [vA (.bin .add (.s 5) (cI 1)),mK 0 5]))))
def v99:VFunc :=
 ⟨2,8,[.s 2],(.seq (Rg [mI 0 2])
 (.seq (.seq (Rg [mS 0,vB 6 (.len 1 (.l 0)),mI 0 5])
 (.block 0 (.loop v99l0)))
 (.seq (Rg [mI (-1) 2])
 .ret))),false,false,none,false,none⟩
def v100:VFunc :=
 ⟨2,6,[.bx 2 2 true,.s 3],(.seq (Rg [vB 2 (.lal [(.b false),.nil]),mI 0 3])
 (.seq (Rg [mS 0,mS 1,c2 105 0 1,vB 5 (.lal [(.b false),.nil]),sT 5 2 2])
 (.seq (.seq (Rg [fA 5 1,lO 0 1,nL 1 1,vB 4 (.bin .gtr (.l 2) (cI 1024))])
 (.cond (.s 4) (.seq (Rg [vA (.agc [(.b false),.nil] []),sT 2 0 2,mI 3 3])
 .ret)
 .skip))
 (.seq (Rg [lS 5 2,sT 2 0 2,mI 0 3])
 .ret)))),true,false,none,false,none⟩
def v101l0:VCode :=
 (.seq (Rg [vB 4 (.bin .lss (.s 9) (.s 10))])
 (.seq (.cond (.s 4) .skip
 (.exit 2))
 (.seq (.block 3 (.seq (Rg [mS 9,vA (.iad (.s 11) (.s 9) 1),lD 1 1,mK 0 16,mK 2 13])
 (.seq (Rg [mS 12,vA (.cvi .u64 (.l 0)),mS 13,vA (.cvi .u64 (.l 2)),vA (.bin .mul (.l 1) (.l 3)),mS 14,mS 15,mS 16,vA (.bin .add (.l 6) (.l 7)),iA 5 8 1,lD 9 1,vA (.cvi .u64 (.l 10)),vA (.bin .add (.l 4) (.l 11)),mS 8,vA (.bin .add (.l 12) (.l 13)),mK 14 17])
 (.seq (Rg [mS 14,mS 15,mS 16,vA (.bin .add (.l 1) (.l 2)),mS 17,vA (.cvi .u32 (.l 4)),iA 0 3 1,vA (.st (.l 6) (.l 5) 1)])
 (Rg [mS 17,vA (.bin .shr (.l 0) (.c (.i .u64 32))),mK 1 8])))))
 (Rg [vA (.bin .add (.s 9) (cI 1)),mK 0 9]))))
def v101l1:VCode :=
 (.seq (Rg [vB 3 (.bin .lss (.s 5) (.s 6))])
 (.seq (.cond (.s 3) .skip
 (.exit 0))
 (.seq (.block 1 (.seq (Rg [mS 5,vA (.iad (.s 7) (.s 5) 1),lD 1 1,mK 0 15,mK 2 12])
 (.seq (Rg [vB 8 (.mov (.c (.i .u64 0)))])
 (.seq (.seq (Rg [mT 1 11,vB 10 (.len 1 (.s 11)),mI 0 9])
 (.block 2 (.loop v101l0)))
 (Rg [mS 14,mS 15,mS 1,nL 1 2,vA (.bin .add (.l 1) (.l 3)),mS 8,vA (.cvi .u32 (.l 5)),iA 0 4 1,vA (.st (.l 7) (.l 6) 1)])))))
 (Rg [vA (.bin .add (.s 5) (cI 1)),mK 0 5]))))
def v101:VFunc :=
 ⟨2,18,[.s 2],(.seq (Rg [vB 2 (.mov (.c .nil))])
 (.seq (Rg [mS 0,nL 1 0,mS 1,nL 1 2,vA (.bin .add (.l 1) (.l 3)),vA (.mks (.l 4) (.l 4) 1 4 [(.i .u32 0)] true),mK 5 14])
 (.seq (.seq (Rg [mT 0 7,vB 6 (.len 1 (.s 7)),mI 0 5])
 (.block 0 (.loop v101l1)))
 (.seq (Rg [mS 14,c1 129 0,mK 1 2])
 .ret)))),true,false,none,false,none⟩
def v102l0:VCode :=
 (.seq (.seq (Rg [mS 13,vB 6 (.bin .geq (.l 0) (cI 0))])
 (.cond (.s 6) .skip
 (.exit 0)))
 (.seq (.block 1 (Rg [mS 12,mS 13,mS 14,mS 13,mS 13,mS 10,vA (.bin .add (.l 4) (.l 5)),vA (.bin .add (.l 6) (cI 1)),vA (.sli false 1 (.l 2) (some (.l 3)) (some (.l 7)) none),mS 15,c2 134 8 9,iA 0 1 1,vA (.st (.l 11) (.l 10) 1)]))
 (Rg [mS 13,vA (.bin .sub (.l 0) (cI 1)),mK 1 13])))
def v102l1:VCode :=
 (.seq (Rg [vB 7 (.bin .lss (.s 16) (.s 17))])
 (.seq (.cond (.s 7) .skip
 (.exit 2))
 (.seq (.block 3 (.seq (Rg [mS 16,mK 0 18])
 (.reg [mS 14,mS 18,mS 14,mS 18,vA (.bin .add (.l 3) (cI 1)),iA 2 4 1,lD 5 1,vA (.cvi .u64 (.l 6)),vA (.bin .shl (.l 7) (.c (.i .u64 32))),mS 14,mS 18,iA 9 10 1,lD 11 1,vA (.cvi .u64 (.l 12)),vA (.bin .or (.l 8) (.l 13)),mS 11,vA (.bin .shr (.l 14) (.l 15)),vA (.cvi .u32 (.l 16)),iA 0 1 1,vA (.st (.l 18) (.l 17) 1)] (some false))))
 (Rg [vA (.bin .add (.s 16) (cI 1)),mK 0 16]))))
def v102:VFunc :=
 ⟨2,19,[.s 2,.s 3],(.seq (Rg [vB 2 (.mov (.c .nil)),vB 3 (.mov (.c .nil))])
 (.seq (.seq (Rg [mS 0,mS 1,c2 61 0 1,vB 4 (.bin .lss (.l 2) (cI 0))])
 (.cond (.s 4) (.seq (Rg [mS 0,c1 130 0,vB 2 (.mov (.c .nil)),mK 1 3])
 .ret)
 .skip))
 (.seq (.seq (Rg [mS 1,nL 1 0,vB 5 (.bin .eql (.l 1) (cI 1))])
 (.cond (.s 5) (.seq (Rg [mS 0,mS 1,vA (.iad (.l 1) (cI 0) 1),lD 2 1,c2 131 0 3,mL 4,xT 5 0,xT 5 1,mK 6 8,mK 7 9])
 (.seq (Rg [mS 8,mS 9,vA (.bsv 1 1 [(.i .u32 0)] [(0,(.l 1))]),c1 129 2,mK 0 2,mK 3 3])
 .ret))
 .skip))
 (.seq (Rg [mS 1,nL 1 0,mK 1 10])
 (.seq (Rg [mS 1,mS 10,vA (.bin .sub (.l 1) (cI 1)),iA 0 2 1,lD 3 1,c1 132 4,mK 5 11])
 (.seq (Rg [mS 1,mS 11,c2 133 0 1,mS 10,vA (.sli false 1 (.l 2) none (some (.l 3)) none),mK 4 15])
 (.seq (Rg [mS 0,mS 11,c2 133 0 1,mK 2 14])
 (.seq (Rg [mS 0,nL 1 0,mS 10,vA (.bin .sub (.l 1) (.l 2)),vA (.bin .add (.l 3) (cI 1)),vA (.mks (.l 4) (.l 4) 1 4 [(.i .u32 0)] true),mK 5 12])
 (.seq (.seq (Rg [mS 12,nL 1 0,vA (.bin .sub (.l 1) (cI 1)),mK 2 13])
 (.block 0 (.loop v102l0)))
 (.seq (.seq (Rg [mT 10 17,mI 0 16])
 (.block 2 (.loop v102l1)))
 (.seq (.reg [mS 12,c1 129 0,mS 14,mS 10,vA (.sli false 1 (.l 2) none (some (.l 3)) none),c1 129 4,mK 1 2,mK 5 3] (some false))
 .ret))))))))))),true,false,none,false,none⟩
def v103l0:VCode :=
 (.seq (Rg [vB 4 (.bin .lss (.s 7) (.s 8))])
 (.seq (.cond (.s 4) .skip
 (.exit 0))
 (.seq (.block 1 (.seq (Rg [mS 7,vA (.iad (.s 9) (.s 7) 1),lD 1 1,mK 0 12,mK 2 10])
 (.seq (Rg [mS 10,vA (.cvi .u64 (.l 0)),mK 1 11])
 (.seq (.seq (Rg [mS 12,mS 1,nL 1 1,vB 5 (.bin .lss (.l 0) (.l 2))])
 (.cond (.s 5) (Rg [mS 11,mS 1,mS 12,iA 1 2 1,lD 3 1,vA (.cvi .u64 (.l 4)),vA (.bin .add (.l 0) (.l 5)),mK 6 11])
 .skip))
 (Rg [mS 13,mS 11,vA (.calv (.l 0) [(.l 1)])])))))
 (Rg [vA (.bin .add (.s 7) (cI 1)),mK 0 7]))))
def v103:VFunc :=
 ⟨2,14,[.s 2],(.seq (Rg [vB 2 (.mov (.c .nil))])
 (.seq (.seq (Rg [mS 0,nL 1 0,mS 1,nL 1 2,vB 3 (.bin .lss (.l 1) (.l 3))])
 (.cond (.s 3) (Rg [mS 1,mS 0,mK 0 0,mK 1 1])
 .skip))
 (.seq (Rg [mS 0,nL 1 0,vA (.bin .add (.l 1) (cI 1)),vA (.mks (cI 0) (.l 2) 1 4 [(.i .u32 0)] true),vB 6 (.hal 126 [.nil]),vA (.st (.s 6) (.l 3) 1)])
 (.seq (Rg [vA (.call 135 [(.s 6)]),mK 0 13])
 (.seq (.seq (Rg [mT 0 9,vB 8 (.len 1 (.s 9)),mI 0 7])
 (.block 0 (.loop v103l0)))
 (.seq (Rg [mS 13,vA (.calv (.l 0) [(.c (.i .u64 0))])])
 (.seq (Rg [sD 6 1,c1 129 0,mK 1 2])
 .ret))))))),true,false,none,false,none⟩
def v104l0:VCode :=
 (.seq (Rg [vB 3 (.bin .lss (.s 7) (.s 8))])
 (.seq (.cond (.s 3) .skip
 (.exit 0))
 (.seq (.block 1 (.seq (Rg [mS 7,mK 0 10])
 (.seq (Rg [vB 9 (.mov (.c (.i .u32 0)))])
 (.seq (.seq (Rg [mS 10,mS 1,nL 1 1,vB 4 (.bin .lss (.l 0) (.l 2))])
 (.cond (.s 4) (Rg [mS 1,mS 10,iA 0 1 1,lD 2 1,mK 3 9])
 .skip))
 (Rg [mS 6,mS 10,mS 6,mS 10,iA 2 3 1,lD 4 1,mS 9,mS 5,vA (.call 136 [(.l 5),(.l 6),(.l 7)]),mL 8,xT 9 0,xT 9 1,iA 0 1 1,vA (.st (.l 12) (.l 10) 1),mK 11 5])))))
 (Rg [vA (.bin .add (.s 7) (cI 1)),mK 0 7]))))
def v104:VFunc :=
 ⟨2,11,[.s 2],(.seq (Rg [vB 2 (.mov (.c .nil))])
 (.seq (Rg [mS 0,c1 130 0,mK 1 6])
 (.seq (Rg [vB 5 (.mov (.c (.i .u32 0)))])
 (.seq (.seq (Rg [mS 6,vB 8 (.len 1 (.l 0)),mI 0 7])
 (.block 0 (.loop v104l0)))
 (.seq (Rg [mS 6,c1 129 0,mK 1 2])
 .ret))))),true,false,none,false,none⟩
def v105l0:VCode :=
 (.seq (Rg [vB 4 (.bin .lss (.s 7) (.s 8))])
 (.seq (.cond (.s 4) .skip
 (.exit 0))
 (.seq (.block 1 (.seq (Rg [mS 7,vA (.iad (.s 9) (.s 7) 1),lD 1 1,mK 0 10,mK 2 11])
 (.seq (Rg [mS 6,mS 10,vA (.bin .mul (cI 2) (.l 1)),mS 11,vA (.cvi .u16 (.l 3)),iA 0 2 1,vA (.st (.l 5) (.l 4) 1)])
 (Rg [mS 6,mS 10,vA (.bin .mul (cI 2) (.l 1)),vA (.bin .add (.l 2) (cI 1)),mS 11,vA (.bin .shr (.l 4) (.c (.i .u64 16))),vA (.cvi .u16 (.l 5)),iA 0 3 1,vA (.st (.l 7) (.l 6) 1)]))))
 (Rg [vA (.bin .add (.s 7) (cI 1)),mK 0 7]))))
def v105:VFunc :=
 ⟨2,12,[.bx 2 2 true],(.seq (Rg [vB 2 (.lal [(.b false),.nil])])
 (.seq (Rg [mS 1,c1 129 0,mK 1 1])
 (.seq (.seq (Rg [mS 1,nL 1 0,vB 3 (.bin .eql (.l 1) (cI 0))])
 (.cond (.s 3) (.seq (Rg [vA (.agc [(.b false),.nil] []),sT 2 0 2])
 .ret)
 .skip))
 (.seq (Rg [mS 1,nL 1 0,vA (.bin .mul (cI 2) (.l 1)),vA (.mks (.l 2) (.l 2) 1 2 [(.i .u16 0)] true),mK 3 6])
 (.seq (.seq (Rg [mT 1 9,vB 8 (.len 1 (.s 9)),mI 0 7])
 (.block 0 (.loop v105l0)))
 (.seq (.seq (Rg [mS 6,mS 6,nL 1 1,vA (.bin .sub (.l 2) (cI 1)),iA 0 3 1,lD 4 1,vB 5 (.bin .eql (.l 5) (.c (.i .u16 0)))])
 (.cond (.s 5) (Rg [mS 6,mS 6,nL 1 1,vA (.bin .sub (.l 2) (cI 1)),vA (.sli false 1 (.l 0) none (some (.l 3)) none),mK 4 6])
 .skip))
 (.seq (Rg [mS 0,mS 6,vA (.agc [(.b false),.nil] [(0,1,(.l 0)),(1,1,(.l 1))]),sT 2 2 2])
 .ret))))))),true,false,none,false,none⟩
def v106:VFunc :=
 ⟨4,8,[.bx 4 2 true,.s 5],(.seq (Rg [vB 4 (.lal [(.b false),.nil]),mI 0 5])
 (.seq (.seq (Rg [mS 0,mS 2,vB 6 (.eqv false .b (.l 0) (.l 1))])
 (.cond (.s 6) (.seq (Rg [mS 0,mS 1,mS 3,c2 103 1 2,c2 100 0 3,xT 4 0,xT 4 1,sT 4 5 2,mK 6 5])
 .ret)
 .skip))
 (.seq (.seq (Rg [mS 1,mS 3,c2 61 0 1,vB 7 (.bin .geq (.l 2) (cI 0))])
 (.cond (.s 7) (.seq (Rg [mS 0,mS 1,mS 3,c2 104 1 2,c2 100 0 3,xT 4 0,xT 4 1,sT 4 5 2,mK 6 5])
 .ret)
 .skip))
 (.seq (Rg [mS 2,mS 3,mS 1,c2 104 1 2,c2 100 0 3,xT 4 0,xT 4 1,sT 4 5 2,mK 6 5])
 .ret)))),true,false,none,false,none⟩
def v107l0:VCode :=
 (.seq (.seq (Rg [mS 4,vB 2 (.bin .geq (.l 0) (cI 0))])
 (.cond (.s 2) .skip
 (.exit 0)))
 (.seq (.block 1 (.seq (Rg [mS 0,sD 1 1,mS 4,iA 1 2 1,lD 3 1,vA (.calv (.l 0) [(.l 4)]),vB 3 (.un .not (.l 5))])
 (.cond (.s 3) .ret
 .skip)))
 (Rg [mS 4,vA (.bin .sub (.l 0) (cI 1)),mK 1 4])))
def v107:VFunc :=
 ⟨2,5,[],(.seq (Rg [sD 1 1,nL 1 0,vA (.bin .sub (.l 1) (cI 1)),mK 2 4])
 (.block 0 (.loop v107l0))),false,false,none,false,none⟩
def v108:VFunc :=
 ⟨1,5,[.s 1],(.seq (Rg [bX 0 9 4,mB false 1])
 (.seq (Rg [vB 2 (.hal 3 [(.i .i64 0)]),vA (.st (.s 2) (cI 0) 1)])
 (.seq (Rg [vB 3 (.hal 215 [.nf])])
 (.seq (Rg [vA (.mkf (.func 137) [] [(.s 2),(.s 3)]),vA (.st (.s 3) (.l 0) 1)])
 (.seq (Rg [sD 3 1,lS 4 9,vA (.calv (.l 0) [(.l 1),(cI 1)]),mK 2 1])
 .ret))))),true,false,none,false,none⟩
def v110l0:VCode :=
 (.seq (Rg [vB 2 (.bin .lss (.s 4) (.s 5))])
 (.seq (.cond (.s 2) .skip
 (.exit 0))
 (.seq (.block 1 (.seq (Rg [mS 4,mK 0 6])
 (.reg [fA 3 8,lO 0 1,mS 6,fA 3 8,lO 3 1,mS 6,iA 4 5 9,lT 6 9,c1 110 7,iA 1 2 9,vA (.st (.l 9) (.l 8) 9)] (some false))))
 (Rg [vA (.bin .add (.s 4) (cI 1)),mK 0 4]))))
def v110:VFunc :=
 ⟨1,7,[.bx 1 9 true],(.seq (.reg [bX 0 9 3,vB 1 (.lal z9)] none)
 (.seq (Rg [fA 3 2,vA (.lfa (.lo 0) 1),lP 1 4,c1 78 2,fA 3 2,vA (.lfa (.lo 4) 1),vA (.lst (.lo 5) (.l 3) 4)])
 (.seq (Rg [fA 3 8,lO 0 1,c1 142 1,fA 3 8,vA (.lst (.lo 3) (.l 2) 1)])
 (.seq (.seq (Rg [fA 3 8,lO 0 1,vB 5 (.len 1 (.l 1)),mI 0 4])
 (.block 0 (.loop v110l0)))
 (.seq (Rg [lS 3 9,sT 1 0 9])
 .ret))))),true,false,none,false,none⟩
def v111l0:VCode :=
 (.seq (Rg [vB 3 (.bin .lss (.s 5) (.s 6))])
 (.seq (.cond (.s 3) .skip
 (.exit 0))
 (.seq (.block 1 (.seq (Rg [mS 5,mK 0 7])
 (.seq (Rg [mS 1,mS 0,mS 7,iA 1 2 11,lT 3 11,vB 4 (.calv (.l 0) [(.l 4)])])
 (.cond (.s 4) (.seq (Rg [mS 7,mK 0 2])
 .ret)
 .skip))))
 (Rg [vA (.bin .add (.s 5) (cI 1)),mK 0 5]))))
def v111:VFunc :=
 ⟨2,8,[.s 2],(.seq (Rg [mI 0 2])
 (.seq (.seq (Rg [mS 0,vB 6 (.len 1 (.l 0)),mI 0 5])
 (.block 0 (.loop v111l0)))
 (.seq (Rg [mI (-1) 2])
 .ret))),false,false,none,false,none⟩
def v112:VFunc :=
 ⟨1,2,[.s 1],(.seq (Rg [mB false 1])
 (.seq (Rg [mS 0,vA (.bin .leq (cI 0) (.l 0)),mL 1,vG 2 true (.mov (.s 0)),vG 2 true (.bin .lss (.l 3) (cI 65536)),vA (.pick (.l 2) (.l 4) (.c (.b false))),mK 5 1])
 .ret)),true,false,none,false,none⟩
def v113:VFunc :=
 ⟨2,5,[.s 2],(.seq (Rg [bX 0 6 3,bX 1 6 4,mB false 2])
 (.seq (Rg [fA 3 0,lO 0 1,fA 4 0,lO 2 1,vA (.bin .eql (.l 1) (.l 3)),mL 4,vG 5 true (.lfa (.sl 3) 5),vG 5 true (.lld (.lo 6) 1 false),vG 5 true (.lfa (.sl 4) 5),vG 5 true (.lld (.lo 8) 1 false),vG 5 true (.bin .eql (.l 7) (.l 9)),vA (.pick (.l 5) (.l 10) (.c (.b false))),mL 11,vG 12 true (.lfa (.sl 3) 1),vG 12 true (.lld (.lo 13) 4 true),vG 12 true (.lfa (.sl 4) 1),vG 12 true (.lld (.lo 15) 4 true),vG 12 true (.call 143 [(.l 14),(.l 16)]),vA (.pick (.l 12) (.l 17) (.c (.b false))),mK 18 2])
 .ret)),true,false,none,false,none⟩
def v114:VFunc :=
 ⟨1,8,[.s 1],(.seq (Rg [bX 0 6 6,mB false 1])
 (.seq (.seq (Rg [fA 6 0,vB 7 (.lld (.lo 0) 1 false)])
 (.block 0 (.seq (.seq (Rg [vA (.bin .eql (.s 7) (.c (.i .u8 2))),mK 0 2])
 (.cond (.s 2) .skip
 (Rg [vA (.bin .eql (.s 7) (.c (.i .u8 3))),mK 0 2])))
 (.cond (.s 2) (.seq (Rg [fA 6 5,lO 0 1,vA (.bin .eql (.l 1) (cI 0)),mL 2,vG 3 true (.lfa (.sl 6) 1),vG 3 true (.lld (.lo 4) 4 true),vG 3 true (.call 8 [(.l 5)]),vA (.pick (.l 3) (.l 6) (.c (.b false))),mK 7 1])
 .ret)
 (.seq (Rg [vA (.bin .eql (.s 7) (.c (.i .u8 1))),mK 0 3])
 (.cond (.s 3) (.seq (Rg [fA 6 1,lP 0 4,vA (.agc z4 []),c2 143 1 2,mL 3,vG 4 true (.lfa (.sl 6) 5),vG 4 true (.lld (.lo 5) 1 false),vG 4 true (.bin .leq (cI 0) (.l 6)),vA (.pick (.l 4) (.l 7) (.c (.b false))),mL 8,vG 9 true (.lfa (.sl 6) 5),vG 9 true (.lld (.lo 10) 1 false),vG 9 true (.bin .leq (.l 11) (cI 1)),vA (.pick (.l 9) (.l 12) (.c (.b false))),mK 13 1])
 .ret)
 (.seq (Rg [vA (.bin .eql (.s 7) (.c (.i .u8 4))),mK 0 4])
 (.cond (.s 4) (.seq (Rg [fA 6 1,lP 0 4,vA (.agc z4 []),c2 143 1 2,mL 3,vG 4 true (.lfa (.sl 6) 5),vG 4 true (.lld (.lo 5) 1 false),vG 4 true (.bin .leq (cI 0) (.l 6)),vA (.pick (.l 4) (.l 7) (.c (.b false))),mL 8,vG 9 true (.lfa (.sl 6) 5),vG 9 true (.lld (.lo 10) 1 false),vG 9 true (.bin .lss (.l 11) (cI 65536)),vA (.pick (.l 9) (.l 12) (.c (.b false))),mK 13 1])
 .ret)
 (.seq (.seq (Rg [vA (.bin .eql (.s 7) (.c (.i .u8 5))),mK 0 5])
 (.cond (.s 5) .skip
 (Rg [vA (.bin .eql (.s 7) (.c (.i .u8 6))),mK 0 5])))
 (.cond (.s 5) (.seq (Rg [fA 6 1,lP 0 4,vA (.agc z4 []),c2 143 1 2,mL 3,vG 4 true (.lfa (.sl 6) 5),vG 4 true (.lld (.lo 5) 1 false),vG 4 true (.bin .leq (cI (-1048576)) (.l 6)),vA (.pick (.l 4) (.l 7) (.c (.b false))),mL 8,vG 9 true (.lfa (.sl 6) 5),vG 9 true (.lld (.lo 10) 1 false),vG 9 true (.bin .leq (.l 11) (cI 1048576)),vA (.pick (.l 9) (.l 12) (.c (.b false))),mK 13 1])
 .ret)
 .skip))))))))))
 (.seq (Rg [mB false 1])
 .ret))),true,false,none,false,none⟩
def v115l0:VCode :=
 (.seq (Rg [vB 3 (.bin .lss (.s 5) (.s 6))])
 (.seq (.cond (.s 3) .skip
 (.exit 0))
 (.seq (.block 1 (.seq (Rg [mS 5,mK 0 7])
 (.seq (Rg [mS 1,mS 0,mS 7,iA 1 2 3,lT 3 3,vB 4 (.calv (.l 0) [(.l 4)])])
 (.cond (.s 4) (.seq (Rg [mS 7,mK 0 2])
 .ret)
 .skip))))
 (Rg [vA (.bin .add (.s 5) (cI 1)),mK 0 5]))))
def v115:VFunc :=
 ⟨2,8,[.s 2],(.seq (Rg [mI 0 2])
 (.seq (.seq (Rg [mS 0,vB 6 (.len 1 (.l 0)),mI 0 5])
 (.block 0 (.loop v115l0)))
 (.seq (Rg [mI (-1) 2])
 .ret))),false,false,none,false,none⟩
def v116l0:VCode :=
 (.seq (.seq (Rg [mS 5,mS 0,vA (.bin .rem (.l 1) (cI 12)),vB 2 (.bin .leq (.l 0) (.l 2))])
 (.cond (.s 2) .skip
 (.exit 0)))
 (.seq (.block 1 (Rg [mS 4,mS 3,mS 5,c2 145 1 2,vA (.bin .add (.l 0) (.l 3)),mK 4 4]))
 (Rg [mS 5,vA (.bin .add (.l 0) (cI 1)),mK 1 5])))
def v116:VFunc :=
 ⟨1,6,[.s 1],(.seq (Rg [mI 0 1])
 (.seq (Rg [mS 0,vA (.bin .quo (.l 0) (cI 12)),vA (.bin .add (cI 1900) (.l 1)),mK 2 3])
 (.seq (Rg [mS 3,vA (.bin .sub (.l 0) (cI 1900)),vA (.bin .mul (cI 365) (.l 1)),mS 3,vA (.bin .sub (.l 3) (cI 1)),c1 144 4,vA (.bin .add (.l 2) (.l 5)),vA (.call 144 [(cI 1899)]),vA (.bin .sub (.l 6) (.l 7)),mK 8 4])
 (.seq (.seq (Rg [mI 1 5])
 (.block 0 (.loop v116l0)))
 (.seq (Rg [mS 4,mK 0 1])
 .ret))))),true,false,none,false,none⟩
def v117:VFunc :=
 ⟨4,8,[.s 4,.s 5],(.seq (Rg [bX 0 4 7,vB 4 (.mov (.c .np)),mI 0 5])
 (.seq (.seq (Rg [mS 2,vA (.bin .lss (.l 0) (cI 0)),mL 1,vG 2 false (.mov (.s 2)),vG 2 false (.bin .geq (.l 3) (cI 65536)),vA (.pick (.l 2) (.c (.b true)) (.l 4)),mL 5,vG 6 false (.lld (.sl 7) 4 true),vG 6 false (.call 74 [(.l 7)]),vG 6 false (.un .not (.l 8)),vA (.pick (.l 6) (.c (.b true)) (.l 9)),mL 10,vG 11 false (.mov (.s 1)),vG 11 false (.call 45 [(.l 12)]),vG 11 false (.un .not (.l 13)),vB 6 (.pick (.l 11) (.c (.b true)) (.l 14))])
 (.cond (.s 6) (.seq (Rg [vB 4 (.mov (.c .np)),mI 2 5])
 .ret)
 .skip))
 (.seq (Rg [lS 7 4,mS 1,mS 3,vA (.call 146 [(.l 0),(.l 1),(.l 2)]),vA (.mkm),vA (.mkm),vA (.mkm),vA (.mkm),vA (.agc [.np,.mnil,.mnil,.mnil,.mnil,.nil,.nil,.nil] [(0,1,(.l 3)),(1,1,(.l 4)),(2,1,(.l 5)),(3,1,(.l 6)),(4,1,(.l 7))]),vA (.hbx 197 (.l 8) 8),mK 9 4,mI 0 5])
 .ret))),false,false,none,false,none⟩
def v118d:Dfr :=
 ⟨(Rg [vB 1 (.hal 34 z6),vB 2 (.hal 30 [(.i .i64 0)])]),[1,2],147,5,3,(.seq (Rg [mS 3,vB 2 (.eqv true .ifc (.l 0) (.c .ni))])
 (.cond (.s 2) (.seq (Rg [vB 4 (.lal z6)])
 (.reg [lS 4 6,mS 3,c1 148 1,vA (.st (.s 0) (.l 0) 6),vA (.st (.s 1) (.l 2) 1)] (some false)))
 .skip)),[0,1,6,2,3],[4]⟩
def v118:VFunc :=
 ⟨1,3,[.hb 1 6 true,.hb 2 1 false],(.seq (Rg [mS 0,vA (.calv (.l 0) []),vA (.st (.s 1) (.l 1) 6),vA (.st (.s 2) (cI 0) 1)])
 .ret),false,false,(some v118d),false,none⟩
def v119:VFunc :=
 ⟨3,4,[.bx 3 6 true],(.seq (Rg [vB 3 (.lal z6)])
 (.seq (Rg [sD 0 1,sD 1 1,sD 2 1,vA (.call 121 [(.l 0),(.l 1),(.l 2)]),c1 120 3,sT 3 4 6])
 .ret)),false,false,none,false,none⟩
def v120:VFunc :=
 ⟨1,3,[.bx 1 6 true],(.seq (Rg [bX 0 6 2,vB 1 (.lal z6)])
 (.seq (Rg [fA 2 1,vA (.lfa (.lo 0) 0),vA (.lfa (.lo 1) 1),lO 2 1,vA (.app (.c .nil) (.l 3) 1 2 true),fA 2 1,vA (.lfa (.lo 5) 0),vA (.lfa (.lo 6) 1),vA (.lst (.lo 7) (.l 4) 1)])
 (.seq (Rg [fA 2 1,vA (.lfa (.lo 0) 2),vA (.lfa (.lo 1) 1),lO 2 1,vA (.app (.c .nil) (.l 3) 1 2 true),fA 2 1,vA (.lfa (.lo 5) 2),vA (.lfa (.lo 6) 1),vA (.lst (.lo 7) (.l 4) 1)])
 (.seq (Rg [lS 2 6,sT 1 0 6])
 .ret)))),true,false,none,false,none⟩
def v121:VFunc :=
 ⟨3,9,[.bx 3 6 true],(.seq (Rg [vB 3 (.lal z6)])
 (.seq (.reg [mS 1,mS 2,vA (.agc [(.s []),(.i .i64 0)] [(0,1,(.l 0)),(1,1,(.l 1))]),vB 5 (.lal [(.s []),(.i .i64 0)]),sT 5 2 2] none)
 (.seq (.seq (.reg [mS 0,vA (.nck (.l 0)),fD 1 2,lD 2 1,lS 5 2,vA (.lk (.st [2,1]) (.l 3) (.l 4) true (.ag z6)),mL 5,xT 6 0,xT 6 1,vB 7 (.lal z6),sT 7 7 6,mK 8 6] (some false))
 (.seq (Rg [mT 6 4])
 (.cond (.s 4) (.seq (Rg [lS 7 6,sT 3 0 6])
 .ret)
 .skip)))
 (.seq (Rg [mS 0,lS 5 2,c2 149 0 1])
 (.seq (Rg [mS 0,vA (.nck (.l 0)),fD 1 0,lD 2 1,mS 1,mS 2,mS 0,vA (.mki 183 (.l 6)),vA (.call 150 [(.l 3),(.l 4),(.l 5),(.l 7)]),mL 8,xT 9 0,xT 9 1,vB 8 (.lal z6),sT 8 10 6,mL 11])
 (.seq (.reg [mS 0,vA (.nck (.l 0)),fD 1 2,lD 2 1,lS 5 2,lS 8 6,vA (.mup (.st [2,1]) (.l 3) (.l 4) (.l 5))] (some false))
 (.seq (Rg [lS 8 6,sT 3 0 6])
 .ret))))))),false,false,none,false,none⟩
def v122l0:VCode :=
 (.seq (Rg [vB 3 (.bin .lss (.s 5) (.s 6))])
 (.seq (.cond (.s 3) .skip
 (.exit 0))
 (.seq (.block 1 (.seq (Rg [mS 5,mK 0 7])
 (.seq (Rg [mS 1,mS 0,mS 7,iA 1 2 24,lT 3 24,vB 4 (.calv (.l 0) [(.l 4)])])
 (.cond (.s 4) (.seq (Rg [mS 7,mK 0 2])
 .ret)
 .skip))))
 (Rg [vA (.bin .add (.s 5) (cI 1)),mK 0 5]))))
def v122:VFunc :=
 ⟨2,8,[.s 2],(.seq (Rg [mI 0 2])
 (.seq (.seq (Rg [mS 0,vB 6 (.len 1 (.l 0)),mI 0 5])
 (.block 0 (.loop v122l0)))
 (.seq (Rg [mI (-1) 2])
 .ret))),false,false,none,false,none⟩
def v125l0:VCode :=
 (.seq (Rg [vB 3 (.bin .lss (.s 5) (.s 6))])
 (.seq (.cond (.s 3) .skip
 (.exit 0))
 (.seq (.block 1 (.seq (Rg [mS 5,mK 0 7])
 (.seq (Rg [mS 1,mS 0,mS 7,iA 1 2 3,lT 3 3,vB 4 (.calv (.l 0) [(.l 4)])])
 (.cond (.s 4) (.seq (Rg [mS 7,mK 0 2])
 .ret)
 .skip))))
 (Rg [vA (.bin .add (.s 5) (cI 1)),mK 0 5]))))
def v125:VFunc :=
 ⟨2,8,[.s 2],(.seq (Rg [mI 0 2])
 (.seq (.seq (Rg [mS 0,vB 6 (.len 1 (.l 0)),mI 0 5])
 (.block 0 (.loop v125l0)))
 (.seq (Rg [mI (-1) 2])
 .ret))),false,false,none,false,none⟩
def v128l0:VCode :=
 (.seq (.seq (Rg [mS 1,nL 1 0,vB 4 (.bin .gtr (.l 1) (cI 2))])
 (.cond (.s 4) .skip
 (.exit 0)))
 (.block 1 (.seq (Rg [mS 0,mS 1,c2 153 0 1,vB 10 (.lal [(.i .u64 0),(.i .u64 0),(.i .u64 0),(.i .u64 0),(.b false)]),sT 10 2 5])
 (.seq (Rg [fA 10 2,lO 0 1,vB 5 (.bin .eql (.l 1) (.c (.i .u64 0)))])
 (.cond (.s 5) (.seq (Rg [mS 0,mS 1,c2 102 0 1,mL 2,xT 3 0,xT 3 1,mL 4,mK 5 11])
 (Rg [mS 1,mS 11,mK 0 0,mK 1 1]))
 (.seq (Rg [fA 10 4,vB 6 (.lld (.lo 0) 1 false)])
 (.cond (.s 6) (.reg [fA 10 0,lO 0 1,mS 0,fA 10 2,lO 3 1,mS 1,vA (.call 154 [(.l 1),(.l 2),(.l 4),(.l 5)]),fA 10 3,lO 7 1,mS 1,fA 10 1,lO 10 1,mS 0,vA (.call 154 [(.l 8),(.l 9),(.l 11),(.l 12)]),mK 6 0,mK 13 1] (some false))
 (.reg [fA 10 2,lO 0 1,mS 1,fA 10 0,lO 3 1,mS 0,vA (.call 154 [(.l 1),(.l 2),(.l 4),(.l 5)]),fA 10 1,lO 7 1,mS 0,fA 10 3,lO 10 1,mS 1,vA (.call 154 [(.l 8),(.l 9),(.l 11),(.l 12)]),mK 6 0,mK 13 1] (some false)))))))))
def v128l1:VCode :=
 (.seq (.seq (Rg [mS 14,vB 9 (.bin .neq (.l 0) (.c (.i .u64 0)))])
 (.cond (.s 9) .skip
 (.exit 2)))
 (.block 3 (.reg [mS 14,mS 13,mS 14,vA (.bin .rem (.l 1) (.l 2)),mK 0 13,mK 3 14] (some false))))
def v128:VFunc :=
 ⟨2,15,[.s 2],(.seq (Rg [vB 2 (.mov (.c .nil))])
 (.seq (.seq (Rg [mS 0,mS 1,c2 61 0 1,vB 3 (.bin .lss (.l 2) (cI 0))])
 (.cond (.s 3) (Rg [mS 1,mS 0,mK 0 0,mK 1 1])
 .skip))
 (.seq (.block 0 (.loop v128l0))
 (.seq (.seq (Rg [mS 1,nL 1 0,vB 7 (.bin .eql (.l 1) (cI 0))])
 (.cond (.s 7) (.seq (Rg [mS 0,mK 0 2])
 .ret)
 .skip))
 (.seq (.seq (Rg [mS 0,nL 1 0,vB 8 (.bin .gtr (.l 1) (cI 2))])
 (.cond (.s 8) (.seq (Rg [mS 0,mS 1,c2 102 0 1,mL 2,xT 3 0,xT 3 1,mL 4,mK 5 12])
 (Rg [mS 1,mS 12,mK 0 0,mK 1 1]))
 .skip))
 (.seq (Rg [mS 0,c1 155 0,mS 1,c1 155 2,mK 1 13,mK 3 14])
 (.seq (.block 2 (.loop v128l1))
 (.seq (Rg [mS 13,c1 156 0,mK 1 2])
 .ret)))))))),true,false,none,false,none⟩
def v129l0:VCode :=
 (.seq (.seq (Rg [mS 0,nL 1 0,vA (.bin .gtr (.l 1) (cI 0)),mL 2,vG 3 true (.mov (.s 0)),vG 3 true (.mov (.s 0)),vG 3 true (.len 1 (.l 5)),vG 3 true (.bin .sub (.l 6) (cI 1)),vG 3 true (.iad (.l 4) (.l 7) 1),vG 3 true (.ld (.l 8) 1 false),vG 3 true (.bin .eql (.l 9) (.c (.i .u32 0))),vB 2 (.pick (.l 3) (.l 10) (.c (.b false)))])
 (.cond (.s 2) .skip
 (.exit 0)))
 (.block 1 (Rg [mS 0,mS 0,nL 1 1,vA (.bin .sub (.l 2) (cI 1)),vA (.sli false 1 (.l 0) none (some (.l 3)) none),mK 4 0])))
def v129:VFunc :=
 ⟨1,3,[.s 1],(.seq (Rg [vB 1 (.mov (.c .nil))])
 (.seq (.block 0 (.loop v129l0))
 (.seq (Rg [mS 0,mK 0 1])
 .ret))),true,false,none,false,none⟩
def v130:VFunc :=
 ⟨1,3,[.s 1],(.seq (Rg [vB 1 (.mov (.c .nil))])
 (.seq (.seq (Rg [mS 0,vB 2 (.eqv false .sl (.l 0) (.c .nil))])
 (.cond (.s 2) (.seq (Rg [vB 1 (.mov (.c .nil))])
 .ret)
 .skip))
 (.seq (Rg [vA (.bsl 1 0 [(.i .u32 0)] [] true),mS 0,vA (.app (.l 0) (.l 1) 1 4 true),mK 2 1])
 .ret))),true,true,none,false,none⟩
def v131l0:VCode :=
 (.seq (.seq (Rg [mS 6,vB 4 (.bin .geq (.l 0) (cI 0))])
 (.cond (.s 4) .skip
 (.exit 0)))
 (.seq (.block 1 (Rg [mS 7,mS 6,mS 5,mS 0,mS 6,iA 3 4 1,lD 5 1,mS 1,vA (.call 157 [(.l 2),(.l 6),(.l 7)]),mL 8,xT 9 0,xT 9 1,iA 0 1 1,vA (.st (.l 12) (.l 10) 1),mK 11 5]))
 (Rg [mS 6,vA (.bin .sub (.l 0) (cI 1)),mK 1 6])))
def v131:VFunc :=
 ⟨2,8,[.s 2,.s 3],(.seq (Rg [vB 2 (.mov (.c .nil)),vB 3 (.mov (.c (.i .u32 0)))])
 (.seq (Rg [mS 0,nL 1 0,vA (.mks (.l 1) (.l 1) 1 4 [(.i .u32 0)] true),mK 2 7])
 (.seq (Rg [vB 5 (.mov (.c (.i .u32 0)))])
 (.seq (.seq (Rg [mS 0,nL 1 0,vA (.bin .sub (.l 1) (cI 1)),mK 2 6])
 (.block 0 (.loop v131l0)))
 (.seq (Rg [mS 7,c1 129 0,mS 5,mK 1 2,mK 2 3])
 .ret))))),true,false,none,false,none⟩
def v132:VFunc :=
 ⟨1,2,[.s 1],(.seq (Rg [mI 0 1])
 (.seq (Rg [mS 0,c1 158 0,vA (.bin .sub (cI 32) (.l 1)),mK 2 1])
 .ret)),true,false,none,false,none⟩
def v133l0:VCode :=
 (.seq (Rg [vB 3 (.bin .lss (.s 4) (.s 5))])
 (.seq (.cond (.s 3) .skip
 (.exit 0))
 (.seq (.block 1 (.seq (Rg [mS 4,vA (.iad (.s 6) (.s 4) 1),lD 1 1,mK 0 9,mK 2 7])
 (.seq (Rg [mS 7,vA (.cvi .u64 (.l 0)),mS 1,vA (.bin .shl (.l 1) (.l 2)),mK 3 10])
 (.seq (Rg [mS 8,mS 9,iA 0 1 1,lD 2 1,mS 10,vA (.cvi .u32 (.l 4)),vA (.bin .or (.l 3) (.l 5)),iA 0 1 1,vA (.st (.l 7) (.l 6) 1)])
 (Rg [mS 8,mS 9,vA (.bin .add (.l 1) (cI 1)),mS 10,vA (.bin .shr (.l 3) (.c (.i .u64 32))),vA (.cvi .u32 (.l 4)),iA 0 2 1,vA (.st (.l 6) (.l 5) 1)])))))
 (Rg [vA (.bin .add (.s 4) (cI 1)),mK 0 4]))))
def v133:VFunc :=
 ⟨2,11,[.s 2],(.seq (Rg [vB 2 (.mov (.c .nil))])
 (.seq (Rg [mS 0,nL 1 0,vA (.bin .add (.l 1) (cI 1)),vA (.mks (.l 2) (.l 2) 1 4 [(.i .u32 0)] true),mK 3 8])
 (.seq (.seq (Rg [mT 0 6,vB 5 (.len 1 (.s 6)),mI 0 4])
 (.block 0 (.loop v133l0)))
 (.seq (Rg [mS 8,mK 0 2])
 .ret)))),true,true,none,false,none⟩
def v134l0:VCode :=
 (.seq (.seq (.reg [mS 11,vA (.bin .geq (.l 0) (.c (.i .u64 4294967296))),mL 1,vG 2 false (.mov (.s 11)),vG 2 false (.mov (.s 1)),vG 2 false (.mov (.s 8)),vG 2 false (.bin .sub (.l 5) (cI 2)),vG 2 false (.iad (.l 4) (.l 6) 1),vG 2 false (.ld (.l 7) 1 false),vG 2 false (.cvi .u64 (.l 8)),vG 2 false (.bin .mul (.l 3) (.l 9)),vG 2 false (.mov (.s 12)),vG 2 false (.bin .shl (.l 11) (.c (.i .u64 32))),vG 2 false (.mov (.s 0)),vG 2 false (.mov (.s 8)),vG 2 false (.bin .sub (.l 14) (cI 2)),vG 2 false (.iad (.l 13) (.l 15) 1),vG 2 false (.ld (.l 16) 1 false),vG 2 false (.cvi .u64 (.l 17)),vG 2 false (.bin .or (.l 12) (.l 18)),vG 2 false (.bin .gtr (.l 10) (.l 19)),vB 3 (.pick (.l 2) (.c (.b true)) (.l 20))] (some false))
 (.cond (.s 3) .skip
 (.exit 0)))
 (.block 1 (.seq (Rg [mS 11,vA (.bin .sub (.l 0) (.c (.i .u64 1))),mK 1 11])
 (.seq (Rg [mS 12,mS 10,vA (.bin .add (.l 0) (.l 1)),mK 2 12])
 (.seq (Rg [mS 12,vB 4 (.bin .geq (.l 0) (.c (.i .u64 4294967296)))])
 (.cond (.s 4) (.exit 0)
 .skip))))))
def v134l1:VCode :=
 (.seq (Rg [vB 5 (.bin .lss (.s 15) (.s 16))])
 (.seq (.cond (.s 5) .skip
 (.exit 2))
 (.seq (.block 3 (.seq (Rg [mS 15,vA (.iad (.s 17) (.s 15) 1),lD 1 1,mK 0 20,mK 2 18])
 (.seq (Rg [mS 11,mS 18,vA (.cvi .u64 (.l 1)),vA (.bin .mul (.l 0) (.l 2)),mS 13,vA (.bin .add (.l 3) (.l 4)),mK 5 19])
 (.seq (Rg [mS 19,vA (.bin .shr (.l 0) (.c (.i .u64 32))),mK 1 13])
 (.seq (Rg [mS 0,mS 20,iA 0 1 1,lD 2 1,vA (.cvi .u64 (.l 3)),mS 19,vA (.cvi .u32 (.l 5)),vA (.cvi .u64 (.l 6)),vA (.bin .sub (.l 4) (.l 7)),mS 14,vA (.bin .sub (.l 8) (.l 9)),mK 10 21])
 (.seq (Rg [mS 0,mS 20,mS 21,vA (.cvi .u32 (.l 2)),iA 0 1 1,vA (.st (.l 4) (.l 3) 1)])
 (Rg [mS 21,vA (.bin .shr (.l 0) (.c (.i .u64 63))),mK 1 14])))))))
 (Rg [vA (.bin .add (.s 15) (cI 1)),mK 0 15]))))
def v134l2:VCode :=
 (.seq (Rg [vB 7 (.bin .lss (.s 24) (.s 25))])
 (.seq (.cond (.s 7) .skip
 (.exit 4))
 (.seq (.block 5 (.seq (Rg [mS 24,vA (.iad (.s 26) (.s 24) 1),lD 1 1,mK 0 27,mK 2 28])
 (Rg [mS 0,mS 27,mS 0,mS 27,iA 2 3 1,lD 4 1,mS 28,mS 23,vA (.call 159 [(.l 5),(.l 6),(.l 7)]),mL 8,xT 9 0,xT 9 1,iA 0 1 1,vA (.st (.l 12) (.l 10) 1),mK 11 23])))
 (Rg [vA (.bin .add (.s 24) (cI 1)),mK 0 24]))))
def v134:VFunc :=
 ⟨2,29,[.s 2],(.seq (Rg [vB 2 (.mov (.c (.i .u32 0)))])
 (.seq (Rg [mS 1,nL 1 0,mK 1 8])
 (.seq (.reg [mS 0,mS 8,iA 0 1 1,lD 2 1,vA (.cvi .u64 (.l 3)),vA (.bin .shl (.l 4) (.c (.i .u64 32))),mS 0,mS 8,vA (.bin .sub (.l 7) (cI 1)),iA 6 8 1,lD 9 1,vA (.cvi .u64 (.l 10)),vA (.bin .or (.l 5) (.l 11)),mK 12 9] (some false))
 (.seq (Rg [mS 1,mS 8,vA (.bin .sub (.l 1) (cI 1)),iA 0 2 1,lD 3 1,vA (.cvi .u64 (.l 4)),mK 5 10])
 (.seq (.reg [mS 9,mS 10,vA (.bin .quo (.l 0) (.l 1)),mS 9,mS 10,vA (.bin .rem (.l 3) (.l 4)),mK 2 11,mK 5 12] (some false))
 (.seq (.block 0 (.loop v134l0))
 (.seq (Rg [vB 13 (.mov (.c (.i .u64 0))),vB 14 (.mov (.c (.i .u64 0)))])
 (.seq (.seq (Rg [mT 1 17,vB 16 (.len 1 (.s 17)),mI 0 15])
 (.block 2 (.loop v134l1)))
 (.seq (Rg [mS 0,mS 8,iA 0 1 1,lD 2 1,vA (.cvi .u64 (.l 3)),mS 13,vA (.bin .sub (.l 4) (.l 5)),mS 14,vA (.bin .sub (.l 6) (.l 7)),mK 8 22])
 (.seq (Rg [mS 0,mS 8,mS 22,vA (.cvi .u32 (.l 2)),iA 0 1 1,vA (.st (.l 4) (.l 3) 1)])
 (.seq (.seq (Rg [mS 22,vA (.bin .shr (.l 0) (.c (.i .u64 63))),vB 6 (.bin .eql (.l 1) (.c (.i .u64 0)))])
 (.cond (.s 6) (.seq (Rg [mS 11,vA (.cvi .u32 (.l 0)),mK 1 2])
 .ret)
 .skip))
 (.seq (Rg [vB 23 (.mov (.c (.i .u32 0)))])
 (.seq (.seq (Rg [mT 1 26,vB 25 (.len 1 (.s 26)),mI 0 24])
 (.block 4 (.loop v134l2)))
 (.seq (Rg [mS 0,mS 8,iA 0 1 1,lD 2 1,mS 23,vA (.bin .add (.l 3) (.l 4)),iA 0 1 1,vA (.st (.l 6) (.l 5) 1)])
 (.seq (Rg [mS 11,vA (.bin .sub (.l 0) (.c (.i .u64 1))),vA (.cvi .u32 (.l 1)),mK 2 2])
 .ret))))))))))))))),false,false,none,false,none⟩
def v135:VFunc :=
 ⟨1,4,[.s 1],(.seq (Rg [vB 3 (.hbx 212 (.s 0) 1),vB 1 (.mov (.c .nf))])
 (.seq (Rg [vB 2 (.hal 22 [(.i .u64 0)]),vA (.st (.s 2) (.c (.i .u64 0)) 1)])
 (.seq (Rg [vA (.mkf (.func 160) [] [(.s 2),(.s 3)]),mK 0 1])
 .ret))),false,false,none,false,none⟩
def v136:VFunc :=
 ⟨3,5,[.s 3,.s 4],(.seq (Rg [vB 3 (.mov (.c (.i .u32 0))),vB 4 (.mov (.c (.i .u32 0)))])
 (.seq (Rg [mS 0,mS 1,vA (.bin .sub (.l 0) (.l 1)),mS 2,vA (.bin .sub (.l 2) (.l 3)),mK 4 3])
 (.seq (Rg [mS 0,vA (.un .xor (.l 0)),mS 1,vA (.bin .and (.l 1) (.l 2)),mS 0,mS 1,vA (.bin .xor (.l 4) (.l 5)),vA (.un .xor (.l 6)),mS 3,vA (.bin .and (.l 7) (.l 8)),vA (.bin .or (.l 3) (.l 9)),vA (.bin .shr (.l 10) (.c (.i .u64 31))),mK 11 4])
 .ret))),true,false,none,false,none⟩
def v137l0:VCode :=
 (.seq (Rg [vB 6 (.bin .lss (.s 9) (.s 10))])
 (.seq (.cond (.s 6) .skip
 (.exit 0))
 (.seq (.block 1 (.seq (.reg [vA (.iad (.s 11) (.s 9) 9),lT 0 9,vB 12 (.lal z9),sT 12 1 9] none)
 (.seq (Rg [sD 3 1,lS 12 9,mS 1,vA (.bin .add (.l 2) (cI 1)),vA (.calv (.l 0) [(.l 1),(.l 3)]),vB 7 (.un .not (.l 4))])
 (.cond (.s 7) (.seq (Rg [mB false 4])
 .ret)
 .skip))))
 (Rg [vA (.bin .add (.s 9) (cI 1)),mK 0 9]))))
def v137:VFunc :=
 ⟨4,13,[.s 4],(.seq (Rg [bX 0 9 8,mB false 4])
 (.seq (Rg [sD 2 1,vA (.bin .add (.l 0) (cI 1)),vA (.st (.s 2) (.l 1) 1)])
 (.seq (.seq (Rg [sD 2 1,vA (.bin .gtr (.l 0) (cI 200)),mL 1,vG 2 false (.mov (.s 1)),vG 2 false (.bin .gtr (.l 3) (cI 24)),vB 5 (.pick (.l 2) (.c (.b true)) (.l 4))])
 (.cond (.s 5) (.seq (Rg [mB false 4])
 .ret)
 .skip))
 (.seq (.seq (Rg [fA 8 8,vB 11 (.lld (.lo 0) 1 false),vB 10 (.len 1 (.s 11)),mI 0 9])
 (.block 0 (.loop v137l0)))
 (.seq (Rg [mB true 4])
 .ret))))),false,false,none,false,none⟩
def v142:VFunc :=
 ⟨1,3,[.s 1],(.seq (Rg [vB 1 (.mov (.c .nil))])
 (.seq (.seq (Rg [mS 0,vB 2 (.eqv false .sl (.l 0) (.c .nil))])
 (.cond (.s 2) (.seq (Rg [vB 1 (.mov (.c .nil))])
 .ret)
 .skip))
 (.seq (.reg [vA (.bsl 9 0 z9 [] true),mS 0,vA (.app (.l 0) (.l 1) 9 128 true),mK 2 1] none)
 .ret))),true,true,none,false,none⟩
def v143:VFunc :=
 ⟨2,5,[.s 2],(.seq (Rg [bX 0 4 3,bX 1 4 4,mB false 2])
 (.seq (Rg [fA 3 0,lP 0 2,fA 4 0,lP 2 2,c2 163 1 3,mL 4,vG 5 true (.lfa (.sl 3) 2),vG 5 true (.lld (.lo 6) 2 true),vG 5 true (.lfa (.sl 4) 2),vG 5 true (.lld (.lo 8) 2 true),vG 5 true (.call 163 [(.l 7),(.l 9)]),vA (.pick (.l 5) (.l 10) (.c (.b false))),mK 11 2])
 .ret)),true,false,none,false,none⟩
def v144:VFunc :=
 ⟨1,2,[.s 1],(.seq (Rg [mI 0 1])
 (.seq (Rg [mS 0,vA (.bin .quo (.l 0) (cI 4)),mS 0,vA (.bin .quo (.l 2) (cI 100)),vA (.bin .sub (.l 1) (.l 3)),mS 0,vA (.bin .quo (.l 5) (cI 400)),vA (.bin .add (.l 4) (.l 6)),mK 7 1])
 .ret)),true,false,none,false,none⟩
def v145:VFunc :=
 ⟨2,5,[.s 2],(.seq (Rg [mI 0 2])
 (.seq (.seq (Rg [mS 1,vA (.bin .lss (.l 0) (cI 1)),mL 1,vG 2 false (.mov (.s 1)),vG 2 false (.bin .gtr (.l 3) (cI 12)),vB 3 (.pick (.l 2) (.c (.b true)) (.l 4))])
 (.cond (.s 3) (.seq (Rg [mI 0 2])
 .ret)
 .skip))
 (.seq (.seq (Rg [mS 1,vA (.bin .eql (.l 0) (cI 2)),mL 1,vG 2 true (.mov (.s 0)),vG 2 true (.call 164 [(.l 3)]),vB 4 (.pick (.l 2) (.l 4) (.c (.b false)))])
 (.cond (.s 4) (.seq (Rg [mI 29 2])
 .ret)
 .skip))
 (.seq (Rg [mS 1,vA (.bin .sub (.l 0) (cI 1)),vA (.gia 0 (.l 1) 12 1),lD 2 1,mK 3 2])
 .ret)))),true,false,none,false,none⟩
def v146l0:VCode :=
 (.seq (Rg [vB 4 (.bin .lss (.s 10) (.s 11))])
 (.seq (.cond (.s 4) .skip
 (.exit 0))
 (.seq (.block 1 (.seq (.reg [vA (.iad (.s 12) (.s 10) 3),lT 0 3,vB 14 (.lal [(.s []),(.i .u8 0),(.b false)]),sT 14 1 3] none)
 (.seq (.reg [mS 13,vA (.nck (.l 0)),fD 1 5,lD 2 1,fA 14 0,lO 4 1,vA (.lk (.c 2) (.l 3) (.l 5) true (.i .u8 0)),mL 6,xT 7 0,xT 7 1,mL 8,mK 9 15] (some false))
 (.seq (Rg [mS 15,vA (.un .not (.l 0)),mL 1,vG 2 true (.lfa (.sl 14) 2),vG 2 true (.lld (.lo 3) 1 false),vG 2 true (.un .not (.l 4)),vB 5 (.pick (.l 2) (.l 5) (.c (.b false)))])
 (.cond (.s 5) (.reg [mS 13,vA (.nck (.l 0)),fD 1 5,lD 2 1,fA 14 0,lO 4 1,fA 14 1,lO 6 1,vA (.mup (.c 2) (.l 3) (.l 5) (.l 7))] (some false))
 .skip)))))
 (Rg [vA (.bin .add (.s 10) (cI 1)),mK 0 10]))))
def v146l1:VCode :=
 (.seq (Rg [vB 6 (.bin .lss (.s 16) (.s 17))])
 (.seq (.cond (.s 6) .skip
 (.exit 2))
 (.seq (.block 3 (.seq (.reg [vA (.iad (.s 18) (.s 16) 11),lT 0 11,vB 19 (.lal [(.s []),(.i .i64 0),(.i .i64 0),(.i .i64 0),(.b false),(.i .u8 0),(.b false),.nil,(.b false),.nil,(.i .i64 0)]),sT 19 1 11] none)
 (.reg [mS 13,vA (.nck (.l 0)),fD 1 6,vA (.ldh (.l 2) 1 false),fA 19 0,lO 4 1,mS 13,vA (.nck (.l 6)),fD 7 6,vA (.ldh (.l 8) 1 false),fA 19 0,lO 10 1,vA (.lk (.c 2) (.l 9) (.l 11) false .nil),lS 19 11,vA (.bsv 11 1 [(.s []),(.i .i64 0),(.i .i64 0),(.i .i64 0),(.b false),(.i .u8 0),(.b false),.nil,(.b false),.nil,(.i .i64 0)] [(0,(.l 13))]),vA (.app (.l 12) (.l 14) 11 128 true),vA (.mup (.c 2) (.l 3) (.l 5) (.l 15))] (some false))))
 (Rg [vA (.bin .add (.s 16) (cI 1)),mK 0 16]))))
def v146l2:VCode :=
 (.seq (Rg [vB 7 (.bin .lss (.s 20) (.s 21))])
 (.seq (.cond (.s 7) .skip
 (.exit 4))
 (.seq (.block 5 (.seq (.reg [vA (.iad (.s 22) (.s 20) 3),lT 0 3,vB 23 (.lal [(.s []),(.b false),.nil]),sT 23 1 3] none)
 (.seq (.reg [mS 13,vA (.nck (.l 0)),fD 1 8,lD 2 1,fA 23 0,lO 4 1,vA (.lk (.c 2) (.l 3) (.l 5) true (.ag [(.s []),(.b false),.nil])),mL 6,xT 7 0,xT 7 1,vB 25 (.lal [(.s []),(.b false),.nil]),sT 25 8 3,mK 9 24] (some false))
 (.seq (Rg [mS 24,vB 8 (.un .not (.l 0))])
 (.cond (.s 8) (.reg [mS 13,vA (.nck (.l 0)),fD 1 8,lD 2 1,fA 23 0,lO 4 1,lS 23 3,vA (.mup (.c 2) (.l 3) (.l 5) (.l 6))] (some false))
 .skip)))))
 (Rg [vA (.bin .add (.s 20) (cI 1)),mK 0 20]))))
def v146:VFunc :=
 ⟨3,26,[.s 3],(.seq (Rg [bX 0 4 9,vB 3 (.mov (.c .np))])
 (.seq (.reg [lS 9 4,mS 2,vA (.mkm),vA (.mkm),vA (.mkm),vA (.mkm),vA (.mkm),vA (.agc [(.s []),.nil,.nil,.nil,(.i .i64 0),.mnil,.mnil,.mnil,.mnil,.mnil] [(0,4,(.l 0)),(4,1,(.l 1)),(5,1,(.l 2)),(6,1,(.l 3)),(7,1,(.l 4)),(8,1,(.l 5)),(9,1,(.l 6))]),vA (.hbx 245 (.l 7) 10),mK 8 13] none)
 (.seq (.seq (Rg [fA 9 1,vB 12 (.lld (.lo 0) 1 false),vB 11 (.len 1 (.s 12)),mI 0 10])
 (.block 0 (.loop v146l0)))
 (.seq (.seq (Rg [mT 1 18,vB 17 (.len 1 (.s 18)),mI 0 16])
 (.block 2 (.loop v146l1)))
 (.seq (.seq (Rg [fA 9 2,vB 22 (.lld (.lo 0) 1 false),vB 21 (.len 1 (.s 22)),mI 0 20])
 (.block 4 (.loop v146l2)))
 (.seq (Rg [mS 13,mK 0 3])
 .ret)))))),false,false,none,false,none⟩
def v148:VFunc :=
 ⟨1,5,[.s 1],(.seq (Rg [mI 0 1])
 (.seq (.seq (Rg [mS 0,vA (.tas (.l 0) 249 true (.ag [(.i .i64 0)])),mL 1,xT 2 0,xT 2 1,vB 4 (.lal [(.i .i64 0)]),sT 4 3 1,mK 4 3])
 (.seq (Rg [mT 3 2])
 (.cond (.s 2) (.seq (Rg [fA 4 0,lO 0 1,mK 1 1])
 .ret)
 .skip)))
 (.seq (Rg [mI 2 1])
 .ret))),true,false,none,false,none⟩
def v149:VFunc :=
 ⟨2,7,[],(.seq (Rg [bX 1 2 5])
 (.seq (.seq (.reg [mS 0,vA (.nck (.l 0)),fD 1 1,lD 2 1,lS 5 2,vB 2 (.lk (.st [2,1]) (.l 3) (.l 4) false (.b false))] (some false))
 (.cond (.s 2) (Rg [vA (.call 165 [(cI 186)])])
 .skip))
 (.seq (.reg [mS 0,mS 0,vA (.nck (.l 1)),fD 2 5,fD 3 0,lD 4 1,lS 5 2,vA (.bsv 2 1 [(.s []),(.i .i64 0)] [(0,(.l 6))]),vA (.app (.l 5) (.l 7) 2 24 true),vA (.nck (.l 0)),fD 9 5,fD 10 0,vA (.st (.l 11) (.l 8) 1)] (some false))
 (.seq (.seq (Rg [mS 0,vA (.nck (.l 0)),fD 1 1,lD 2 1,nL 2 3,vB 3 (.bin .eql (.l 4) (cI 4096))])
 (.cond (.s 3) (Rg [vA (.call 165 [(cI 5)])])
 .skip))
 (.seq (.reg [mS 0,vA (.nck (.l 0)),fD 1 1,lD 2 1,lS 5 2,vA (.mup (.st [2,1]) (.l 3) (.l 4) (.c (.b true)))] (some false))
 (.seq (.reg [mS 0,vA (.nck (.l 0)),fD 1 0,lD 2 1,fA 5 0,lO 4 1,vA (.callp 166 [(.l 3),(.l 5)]),mL 6,xT 7 0,xT 7 1,mL 8,mK 9 6] (some false))
 (.seq (Rg [mS 6,vB 4 (.un .not (.l 0))])
 (.cond (.s 4) (Rg [vA (.call 165 [(cI 6)])])
 .skip)))))))),false,false,none,false,none⟩
def v150:VFunc :=
 ⟨4,11,[.bx 4 6 true,.s 5],(.seq (Rg [vB 4 (.lal z6),mI 0 5])
 (.seq (Rg [mS 0,mS 1,mS 2,mS 3,vA (.call 167 [(.l 0),(.l 1),(.l 2),(.l 3)]),mK 4 7])
 (.seq (Rg [mS 0,mS 0,vA (.nck (.l 1)),fD 2 0,fD 3 3,lD 4 1,mS 7,iA 5 6 24,fD 7 15,lT 8 9,mS 2,mS 3,vA (.call 168 [(.l 0),(.l 9),(.l 10),(.l 11)]),vB 9 (.lal z6),sT 9 12 6])
 (.seq (.seq (Rg [mS 0,mS 1,c2 166 0 1,mL 2,xT 3 0,xT 3 1,mK 4 10,mK 5 8])
 (.seq (Rg [mS 8,vA (.un .not (.l 0)),mL 1,vG 2 false (.lfa (.sl 9) 0),vG 2 false (.lld (.lo 3) 1 false),vG 2 false (.mov (.s 10)),vG 2 false (.bin .neq (.l 4) (.l 5)),vB 6 (.pick (.l 2) (.c (.b true)) (.l 6))])
 (.cond (.s 6) (Rg [vA (.call 165 [(cI 185)])])
 .skip)))
 (.seq (Rg [lS 9 6,mS 7,sT 4 0 6,mK 1 5])
 .ret))))),false,false,none,false,none⟩
def v153l0:VCode :=
 (.seq (.seq (Rg [mS 7,mS 9,vA (.bin .geq (.l 0) (.l 1)),mL 2,vG 3 true (.mov (.s 6)),vG 3 true (.mov (.s 7)),vG 3 true (.bin .sub (.l 4) (.l 5)),vG 3 true (.lfa (.sl 10) 3),vG 3 true (.lld (.lo 7) 1 false),vG 3 true (.mov (.s 9)),vG 3 true (.bin .add (.l 8) (.l 9)),vG 3 true (.bin .geq (.l 6) (.l 10)),vB 3 (.pick (.l 3) (.l 11) (.c (.b false)))])
 (.cond (.s 3) .skip
 (.exit 0)))
 (.block 1 (.seq (.reg [mS 6,mS 7,vA (.bin .quo (.l 0) (.l 1)),mS 6,mS 7,vA (.bin .rem (.l 3) (.l 4)),mK 2 12,mK 5 11] (some false))
 (.seq (Rg [mS 7,mS 11,mK 0 6,mK 1 7])
 (.seq (Rg [fA 10 1,lO 0 1,mS 8,fA 10 1,lO 3 1,mS 12,mS 8,vA (.bin .mul (.l 5) (.l 6)),vA (.bin .add (.l 4) (.l 7)),fA 10 0,vA (.lst (.lo 9) (.l 1) 1),fA 10 1,vA (.lst (.lo 11) (.l 2) 1),mK 8 8])
 (.seq (Rg [fA 10 3,lO 0 1,mS 9,fA 10 3,lO 3 1,mS 12,mS 9,vA (.bin .mul (.l 5) (.l 6)),vA (.bin .add (.l 4) (.l 7)),fA 10 2,vA (.lst (.lo 9) (.l 1) 1),fA 10 3,vA (.lst (.lo 11) (.l 2) 1),mK 8 9])
 (Rg [fA 10 4,lO 0 1,vA (.un .not (.l 1)),fA 10 4,vA (.lst (.lo 3) (.l 2) 1)])))))))
def v153:VFunc :=
 ⟨2,13,[.bx 2 5 true],(.seq (Rg [vB 2 (.lal [(.i .u64 0),(.i .u64 0),(.i .u64 0),(.i .u64 0),(.b false)])])
 (.seq (Rg [mS 0,nL 1 0,mK 1 4])
 (.seq (Rg [mS 0,mS 4,vA (.bin .sub (.l 1) (cI 1)),iA 0 2 1,lD 3 1,c1 132 4,mK 5 5])
 (.seq (Rg [mS 0,mS 4,mS 5,vA (.call 169 [(.l 0),(.l 1),(.l 2)]),mS 1,mS 4,mS 5,vA (.call 169 [(.l 4),(.l 5),(.l 6)]),mK 3 6,mK 7 7])
 (.seq (Rg [vA (.agc [(.i .u64 0),(.i .u64 0),(.i .u64 0),(.i .u64 0),(.b false)] [(1,1,(.c (.i .u64 1)))]),vB 10 (.lal [(.i .u64 0),(.i .u64 0),(.i .u64 0),(.i .u64 0),(.b false)]),sT 10 0 5])
 (.seq (Rg [vB 8 (.mov (.c (.i .u64 0))),vB 9 (.mov (.c (.i .u64 1)))])
 (.seq (.block 0 (.loop v153l0))
 (.seq (Rg [lS 10 5,sT 2 0 5])
 .ret)))))))),true,false,none,false,none⟩
def v154l0:VCode :=
 (.seq (Rg [vB 5 (.bin .lss (.s 12) (.s 13))])
 (.seq (.cond (.s 5) .skip
 (.exit 0))
 (.seq (.block 1 (.seq (Rg [mS 12,mK 0 14])
 (.seq (.seq (Rg [mS 14,mS 1,nL 1 1,vB 6 (.bin .lss (.l 0) (.l 2))])
 (.cond (.s 6) (Rg [mS 8,mS 0,mS 1,mS 14,iA 2 3 1,lD 4 1,vA (.cvi .u64 (.l 5)),vA (.bin .mul (.l 1) (.l 6)),vA (.bin .add (.l 0) (.l 7)),mK 8 8])
 .skip))
 (.seq (.seq (Rg [mS 14,mS 3,nL 1 1,vB 7 (.bin .lss (.l 0) (.l 2))])
 (.cond (.s 7) (Rg [mS 9,mS 2,mS 3,mS 14,iA 2 3 1,lD 4 1,vA (.cvi .u64 (.l 5)),vA (.bin .mul (.l 1) (.l 6)),vA (.bin .add (.l 0) (.l 7)),mK 8 9])
 .skip))
 (.seq (Rg [mS 11,mS 14,mS 8,vA (.cvi .u32 (.l 2)),mS 9,vA (.cvi .u32 (.l 4)),mS 10,vA (.call 136 [(.l 3),(.l 5),(.l 6)]),mL 7,xT 8 0,xT 8 1,iA 0 1 1,vA (.st (.l 11) (.l 9) 1),mK 10 10])
 (.seq (Rg [mS 8,vA (.bin .shr (.l 0) (.c (.i .u64 32))),mK 1 8])
 (Rg [mS 9,vA (.bin .shr (.l 0) (.c (.i .u64 32))),mK 1 9])))))))
 (Rg [vA (.bin .add (.s 12) (cI 1)),mK 0 12]))))
def v154:VFunc :=
 ⟨4,15,[.s 4],(.seq (Rg [vB 4 (.mov (.c .nil))])
 (.seq (Rg [mS 1,nL 1 0,mS 3,nL 1 2,vA (.mx [(.l 1),(.l 3)]),vA (.bin .add (.l 4) (cI 1)),vA (.mks (.l 5) (.l 5) 1 4 [(.i .u32 0)] true),mK 6 11])
 (.seq (Rg [vB 8 (.mov (.c (.i .u64 0))),vB 9 (.mov (.c (.i .u64 0))),vB 10 (.mov (.c (.i .u32 0)))])
 (.seq (.seq (Rg [mS 11,vB 13 (.len 1 (.l 0)),mI 0 12])
 (.block 0 (.loop v154l0)))
 (.seq (Rg [mS 11,c1 129 0,mK 1 4])
 .ret))))),true,false,none,false,none⟩
def r1:Rnd :=
 ⟨155,[true,true,false,true,false],14,[0,2,6,7,3,4],[3],(Rg [mT 3 5]),(.block 1 (Rg [sD 4 1,vA (.bin .shl (.l 0) (.c (.i .u64 32))),mS 5,vA (.cvi .u64 (.l 2)),vA (.bin .or (.l 1) (.l 3)),vA (.st (.s 4) (.l 4) 1)]))⟩
def v155:VFunc :=
 ⟨1,6,[.s 1],(.seq (Rg [vB 1 (.mov (.c (.i .u64 0)))])
 (.seq (Rg [vB 4 (.hal 22 [(.i .u64 0)]),vA (.st (.s 4) (.c (.i .u64 0)) 1)])
 (.seq (.seq (Rg [mS 0,vB 2 (.call 170 [(.l 0)])])
 (.block 0 (.rng 1 (.s 2))))
 (.seq (Rg [sD 4 1,mK 0 1])
 .ret)))),true,false,none,false,some 155⟩
def v156:VFunc :=
 ⟨1,2,[.s 1],(.seq (Rg [vB 1 (.mov (.c .nil))])
 (.seq (Rg [mS 0,vA (.cvi .u32 (.l 0)),mS 0,vA (.bin .shr (.l 2) (.c (.i .u64 32))),vA (.cvi .u32 (.l 3)),vA (.bsv 1 2 [(.i .u32 0)] [(0,(.l 1)),(1,(.l 4))]),c1 129 5,mK 6 1])
 .ret)),true,false,none,false,none⟩
def v157:VFunc :=
 ⟨3,7,[.s 3,.s 4],(.seq (Rg [vB 3 (.mov (.c (.i .u32 0))),vB 4 (.mov (.c (.i .u32 0)))])
 (.seq (.seq (Rg [mS 2,vA (.bin .neq (.l 0) (.c (.i .u32 0))),mL 1,vG 2 true (.mov (.s 2)),vG 2 true (.mov (.s 0)),vG 2 true (.bin .leq (.l 3) (.l 4)),vB 5 (.pick (.l 2) (.l 5) (.c (.b false)))])
 (.cond (.s 5) (Rg [vA (.stk),vA (.pan (.l 0))])
 .skip))
 (.seq (Rg [mS 0,vA (.cvi .u64 (.l 0)),vA (.bin .shl (.l 1) (.c (.i .u64 32))),mS 1,vA (.cvi .u64 (.l 3)),vA (.bin .or (.l 2) (.l 4)),mK 5 6])
 (.seq (.reg [mS 6,mS 2,vA (.cvi .u64 (.l 1)),vA (.bin .quo (.l 0) (.l 2)),vA (.cvi .u32 (.l 3)),mS 6,mS 2,vA (.cvi .u64 (.l 6)),vA (.bin .rem (.l 5) (.l 7)),vA (.cvi .u32 (.l 8)),mK 4 3,mK 9 4] (some false))
 .ret)))),true,false,none,false,none⟩
def v158:VFunc :=
 ⟨1,4,[.s 1],(.seq (Rg [mI 0 1])
 (.seq (.seq (Rg [mS 0,vB 2 (.bin .geq (.l 0) (.c (.i .u32 65536)))])
 (.cond (.s 2) (.seq (Rg [mS 0,vA (.bin .shr (.l 0) (.c (.i .u64 16))),mK 1 0])
 (Rg [mI 16 1]))
 .skip))
 (.seq (.seq (Rg [mS 0,vB 3 (.bin .geq (.l 0) (.c (.i .u32 256)))])
 (.cond (.s 3) (.seq (Rg [mS 0,vA (.bin .shr (.l 0) (.c (.i .u64 8))),mK 1 0])
 (Rg [mS 1,vA (.bin .add (.l 0) (cI 8)),mK 1 1]))
 .skip))
 (.seq (Rg [mS 1,mS 0,vA (.cvi .u8 (.l 1)),vA (.ixs (.c (.s [0,1,2,2,3,3,3,3,4,4,4,4,4,4,4,4,5,5,5,5,5,5,5,5,5,5,5,5,5,5,5,5,6,6,6,6,6,6,6,6,6,6,6,6,6,6,6,6,6,6,6,6,6,6,6,6,6,6,6,6,6,6,6,6,7,7,7,7,7,7,7,7,7,7,7,7,7,7,7,7,7,7,7,7,7,7,7,7,7,7,7,7,7,7,7,7,7,7,7,7,7,7,7,7,7,7,7,7,7,7,7,7,7,7,7,7,7,7,7,7,7,7,7,7,7,7,7,7,8,8,8,8,8,8,8,8,8,8,8,8,8,8,8,8,8,8,8,8,8,8,8,8,8,8,8,8,8,8,8,8,8,8,8,8,8,8,8,8,8,8,8,8,8,8,8,8,8,8,8,8,8,8,8,8,8,8,8,8,8,8,8,8,8,8,8,8,8,8,8,8,8,8,8,8,8,8,8,8,8,8,8,8,8,8,8,8,8,8,8,8,8,8,8,8,8,8,8,8,8,8,8,8,8,8,8,8,8,8,8,8,8,8,8,8,8,8,8,8,8,8,8,8,8,8,8,8])) (.l 2)),vA (.cvi .i64 (.l 3)),vA (.bin .add (.l 0) (.l 4)),mK 5 1])
 .ret)))),true,false,none,false,none⟩
def v159:VFunc :=
 ⟨3,6,[.s 3,.s 4],(.seq (Rg [vB 3 (.mov (.c (.i .u32 0))),vB 4 (.mov (.c (.i .u32 0)))])
 (.seq (Rg [mS 0,vA (.cvi .u64 (.l 0)),mS 1,vA (.cvi .u64 (.l 2)),vA (.bin .add (.l 1) (.l 3)),mS 2,vA (.cvi .u64 (.l 5)),vA (.bin .add (.l 4) (.l 6)),mK 7 5])
 (.seq (Rg [mS 5,vA (.cvi .u32 (.l 0)),mK 1 3])
 (.seq (Rg [mS 5,vA (.bin .shr (.l 0) (.c (.i .u64 32))),vA (.cvi .u32 (.l 1)),mK 2 4])
 .ret)))),true,false,none,false,none⟩
def v160:VFunc :=
 ⟨3,3,[],(.seq (Rg [mS 0,sD 1 1,vA (.bin .add (.l 0) (.l 1)),mK 2 0])
 (.seq (.reg [vA (.ldh (.s 2) 1 false),vA (.ldh (.s 2) 1 false),vA (.nck (.l 1)),lD 2 1,mS 0,vA (.cvi .u32 (.l 4)),vA (.bsv 1 1 [(.i .u32 0)] [(0,(.l 5))]),vA (.app (.l 3) (.l 6) 1 4 true),vA (.nck (.l 0)),vA (.st (.l 8) (.l 7) 1)] (some false))
 (Rg [mS 0,vA (.bin .shr (.l 0) (.c (.i .u64 32))),vA (.st (.s 1) (.l 1) 1)]))),false,false,none,false,none⟩
def v162:VFunc :=
 ⟨2,10,[.s 2],(.seq (Rg [mI 0 2])
 (.seq (Rg [mS 0,c1 171 0,mK 1 8])
 (.seq (Rg [mS 1,c1 171 0,mK 1 9])
 (.seq (.seq (Rg [mT 8 3])
 (.cond (.s 3) (.seq (.seq (Rg [mT 9 4])
 (.cond (.s 4) (.seq (Rg [mI 0 2])
 .ret)
 .skip))
 (.seq (Rg [mI (-1) 2])
 .ret))
 .skip))
 (.seq (.seq (Rg [mT 9 5])
 (.cond (.s 5) (.seq (Rg [mI 1 2])
 .ret)
 .skip))
 (.seq (.seq (Rg [mS 0,mS 1,vB 6 (.bin .lss (.l 0) (.l 1))])
 (.cond (.s 6) (.seq (Rg [mI (-1) 2])
 .ret)
 .skip))
 (.seq (.seq (Rg [mS 0,mS 1,vB 7 (.bin .gtr (.l 0) (.l 1))])
 (.cond (.s 7) (.seq (Rg [mI 1 2])
 .ret)
 .skip))
 (.seq (Rg [mI 0 2])
 .ret)))))))),true,false,none,false,none⟩
def v163:VFunc :=
 ⟨2,5,[.s 2],(.seq (Rg [bX 0 2 3,bX 1 2 4,mB false 2])
 (.seq (Rg [fA 3 0,lO 0 1,fA 4 0,lO 2 1,vA (.eqv false .b (.l 1) (.l 3)),mL 4,vG 5 true (.lfa (.sl 3) 1),vG 5 true (.lld (.lo 6) 1 false),vG 5 true (.lfa (.sl 4) 1),vG 5 true (.lld (.lo 8) 1 false),vG 5 true (.call 172 [(.l 7),(.l 9)]),vA (.pick (.l 5) (.l 10) (.c (.b false))),mK 11 2])
 .ret)),true,false,none,false,none⟩
def v164:VFunc :=
 ⟨1,2,[.s 1],(.seq (Rg [mB false 1])
 (.seq (Rg [mS 0,vA (.bin .rem (.l 0) (cI 4)),vA (.bin .eql (.l 1) (cI 0)),mL 2,vG 3 true (.mov (.s 0)),vG 3 true (.bin .rem (.l 4) (cI 100)),vG 3 true (.bin .neq (.l 5) (cI 0)),vG 3 true (.mov (.l 6)),vG 7 false (.mov (.s 0)),vG 7 false (.bin .rem (.l 8) (cI 400)),vG 7 false (.bin .eql (.l 9) (cI 0)),vG 3 true (.pick (.l 7) (.c (.b true)) (.l 10)),vA (.pick (.l 3) (.l 11) (.c (.b false))),mK 12 1])
 .ret)),true,false,none,false,none⟩
def v165:VFunc :=
 ⟨1,1,[],(Rg [mS 0,vA (.agc [(.i .i64 0)] [(0,1,(.l 0))]),vA (.mki 249 (.l 1)),vA (.pan (.l 2))]),true,false,none,false,none⟩
def v166:VFunc :=
 ⟨2,6,[.s 2,.s 3],(.seq (Rg [vB 2 (.mov (.c (.i .u8 0))),mB false 3])
 (.seq (Rg [mS 0,vA (.nck (.l 0)),fD 1 5,lD 2 1,mS 1,vA (.lk (.c 2) (.l 3) (.l 4) true (.i .u8 0)),mL 5,xT 6 0,xT 6 1,mK 7 4,mK 8 5])
 (.seq (Rg [mS 4,mS 5,mK 0 2,mK 1 3])
 .ret))),false,false,none,false,none⟩
def v167l0:VCode :=
 (.seq (Rg [vB 5 (.bin .lss (.s 11) (.s 12))])
 (.seq (.cond (.s 5) .skip
 (.exit 0))
 (.seq (.block 1 (.seq (Rg [vA (.iad (.s 13) (.s 11) 1),lD 0 1,mK 1 14])
 (.seq (Rg [mS 0,mS 0,vA (.nck (.l 1)),fD 2 0,fD 3 3,lD 4 1,mS 14,iA 5 6 24,fD 7 6,lT 8 9,mS 2,mS 3,vB 6 (.call 174 [(.l 0),(.l 9),(.l 10),(.l 11)])])
 (.cond (.s 6) (.seq (Rg [mS 14,mK 0 9])
 (Rg [mS 10,vA (.bin .add (.l 0) (cI 1)),mK 1 10]))
 .skip))))
 (Rg [vA (.bin .add (.s 11) (cI 1)),mK 0 11]))))
def v167:VFunc :=
 ⟨4,15,[.s 4],(.seq (Rg [mI 0 4])
 (.seq (Rg [mI 0 9,mI 0 10])
 (.seq (.seq (.reg [mS 0,vA (.nck (.l 0)),fD 1 0,lT 2 4,mS 1,mS 2,mS 0,vA (.nck (.l 6)),fD 7 4,lD 8 1,vB 13 (.call 173 [(.l 3),(.l 4),(.l 5),(.l 9)]),vB 12 (.len 1 (.s 13)),mI 0 11] (some false))
 (.block 0 (.loop v167l0)))
 (.seq (.block 2 (.seq (Rg [mS 10,vA (.bin .eql (.l 0) (cI 0)),mK 1 7])
 (.cond (.s 7) (Rg [vA (.call 165 [(cI 183)])])
 (.seq (Rg [mS 10,vA (.bin .gtr (.l 0) (cI 1)),mK 1 8])
 (.cond (.s 8) (Rg [vA (.call 165 [(cI 184)])])
 .skip)))))
 (.seq (Rg [mS 9,mK 0 4])
 .ret))))),false,false,none,false,none⟩
def v168l0:VCode :=
 (.seq (Rg [vB 12 (.bin .lss (.s 17) (.s 18))])
 (.seq (.cond (.s 12) .skip
 (.exit 1))
 (.seq (.block 2 (.seq (.reg [vA (.iad (.s 19) (.s 17) 9),lT 0 9,vB 20 (.lal z9),sT 20 1 9] none)
 (Rg [mS 16,mS 0,lS 20 9,mS 2,mS 3,vA (.call 168 [(.l 1),(.l 2),(.l 3),(.l 4)]),vA (.bsv 6 1 z6 [(0,(.l 5))]),vA (.app (.l 0) (.l 6) 6 80 true),mK 7 16])))
 (Rg [vA (.bin .add (.s 17) (cI 1)),mK 0 17]))))
def v168:VFunc :=
 ⟨4,21,[.bx 4 6 true],(.seq (Rg [bX 1 9 14,vB 4 (.lal z6)])
 (.seq (.seq (Rg [lS 14 9,c1 175 0,vB 5 (.un .not (.l 1))])
 (.cond (.s 5) (Rg [vA (.call 165 [(cI 185)])])
 .skip))
 (.seq (.seq (Rg [fA 14 0,vB 15 (.lld (.lo 0) 1 false)])
 (.block 0 (.seq (Rg [vA (.bin .eql (.s 15) (.c (.i .u8 1))),mK 0 6])
 (.cond (.s 6) (.seq (Rg [fA 14 2,lP 0 6,sT 4 1 6])
 .ret)
 (.seq (Rg [vA (.bin .eql (.s 15) (.c (.i .u8 2))),mK 0 7])
 (.cond (.s 7) (.seq (Rg [mS 2,vA (.agc z6 [(0,1,(.c (.i .u8 4))),(5,1,(.l 0))]),sT 4 1 6])
 .ret)
 (.seq (Rg [vA (.bin .eql (.s 15) (.c (.i .u8 15))),mK 0 8])
 (.cond (.s 8) (.seq (Rg [mS 0,fA 14 8,lO 1 1,vA (.iad (.l 2) (cI 0) 9),lT 3 9,mS 2,mS 3,vA (.call 174 [(.l 0),(.l 4),(.l 5),(.l 6)]),mL 7,vG 8 true (.mov (.s 0)),vG 8 true (.lfa (.sl 14) 8),vG 8 true (.lld (.lo 10) 1 false),vG 8 true (.iad (.l 11) (cI 1) 9),vG 8 true (.ld (.l 12) 9 true),vG 8 true (.mov (.s 2)),vG 8 true (.mov (.s 3)),vG 8 true (.call 174 [(.l 9),(.l 13),(.l 14),(.l 15)]),vA (.pick (.l 8) (.l 16) (.c (.b false))),c1 176 17,sT 4 18 6])
 .ret)
 (.seq (Rg [vA (.bin .eql (.s 15) (.c (.i .u8 16))),mK 0 9])
 (.cond (.s 9) (.seq (Rg [mS 0,fA 14 8,lO 1 1,vA (.iad (.l 2) (cI 0) 9),lT 3 9,mS 2,mS 3,vA (.call 174 [(.l 0),(.l 4),(.l 5),(.l 6)]),mL 7,vG 8 false (.mov (.s 0)),vG 8 false (.lfa (.sl 14) 8),vG 8 false (.lld (.lo 10) 1 false),vG 8 false (.iad (.l 11) (cI 1) 9),vG 8 false (.ld (.l 12) 9 true),vG 8 false (.mov (.s 2)),vG 8 false (.mov (.s 3)),vG 8 false (.call 174 [(.l 9),(.l 13),(.l 14),(.l 15)]),vA (.pick (.l 8) (.c (.b true)) (.l 16)),c1 176 17,sT 4 18 6])
 .ret)
 (.seq (Rg [vA (.bin .eql (.s 15) (.c (.i .u8 18))),mK 0 10])
 (.cond (.s 10) (.seq (.seq (Rg [mS 0,fA 14 8,lO 1 1,vA (.iad (.l 2) (cI 0) 9),lT 3 9,mS 2,mS 3,vB 11 (.call 174 [(.l 0),(.l 4),(.l 5),(.l 6)])])
 (.cond (.s 11) (.seq (Rg [mS 0,fA 14 8,lO 1 1,vA (.iad (.l 2) (cI 1) 9),lT 3 9,mS 2,mS 3,vA (.call 168 [(.l 0),(.l 4),(.l 5),(.l 6)]),sT 4 7 6])
 .ret)
 .skip))
 (.seq (Rg [mS 0,fA 14 8,lO 1 1,vA (.iad (.l 2) (cI 2) 9),lT 3 9,mS 2,mS 3,vA (.call 168 [(.l 0),(.l 4),(.l 5),(.l 6)]),sT 4 7 6])
 .ret))
 .skip))))))))))))
 (.seq (Rg [vA (.mks (cI 0) (cI 3) 6 80 z6 true),mK 0 16])
 (.seq (.seq (Rg [fA 14 8,vB 19 (.lld (.lo 0) 1 false),vB 18 (.len 1 (.s 19)),mI 0 17])
 (.block 1 (.loop v168l0)))
 (.seq (.seq (Rg [fA 14 0,lO 0 1,vB 13 (.bin .eql (.l 1) (.c (.i .u8 5)))])
 (.cond (.s 13) (.seq (.reg [fA 14 1,lO 0 1,mS 16,vA (.iad (.l 2) (cI 0) 6),lT 3 6,mS 3,vA (.callp 177 [(.l 1),(.l 4),(.l 5)]),sT 4 6 6] (some false))
 .ret)
 .skip))
 (.seq (Rg [mS 0,fA 14 0,lO 1 1,fA 14 1,lO 3 1,fA 14 2,vA (.lfa (.lo 5) 5),lO 6 1,mS 16,mS 3,vA (.call 178 [(.l 0),(.l 2),(.l 4),(.l 7),(.l 8),(.l 9)]),sT 4 10 6])
 .ret))))))),false,false,none,false,none⟩
def v169:VFunc :=
 ⟨3,6,[.s 3],(.seq (Rg [vB 4 (.hbx 126 (.s 0) 1),vB 3 (.mov (.c (.i .u64 0)))])
 (.seq (Rg [vA (.mkf (.func 179) [] [(.s 4)]),mK 0 5])
 (.seq (.reg [mS 5,mS 1,vA (.bin .sub (.l 1) (cI 1)),vA (.calv (.l 0) [(.l 2)]),vA (.bin .shl (.l 3) (.c (.i .u64 32))),mS 5,mS 1,vA (.bin .sub (.l 6) (cI 2)),vA (.calv (.l 5) [(.l 7)]),vA (.bin .or (.l 4) (.l 8)),mS 2,vA (.bin .shl (.l 9) (.l 10)),mS 5,mS 1,vA (.bin .sub (.l 13) (cI 3)),vA (.calv (.l 12) [(.l 14)]),mS 2,vA (.bin .sub (cI 32) (.l 16)),vA (.bin .shr (.l 15) (.l 17)),vA (.bin .or (.l 11) (.l 18)),mK 19 3] (some false))
 .ret))),true,false,none,false,none⟩
def v170:VFunc :=
 ⟨1,3,[.s 1],(.seq (Rg [vB 2 (.hbx 126 (.s 0) 1),vB 1 (.mov (.c .nf))])
 (.seq (Rg [vA (.mkf (.func 180) [] [(.s 2)]),mK 0 1])
 .ret)),false,false,none,false,none⟩
def v171:VFunc :=
 ⟨1,2,[.s 1],(.seq (Rg [mB false 1])
 (.seq (Rg [mS 0,mS 0,vA (.bin .neq (.l 0) (.l 1)),mK 2 1])
 .ret)),true,false,none,false,none⟩
def v172l0:VCode :=
 (.seq (Rg [vB 4 (.bin .lss (.s 6) (.s 7))])
 (.seq (.cond (.s 4) .skip
 (.exit 0))
 (.seq (.block 1 (.seq (Rg [mS 6,mK 0 8])
 (.seq (.reg [mS 0,mS 8,iA 0 1 1,lD 2 1,mS 1,mS 8,iA 4 5 1,lD 6 1,vB 5 (.bin .neq (.l 3) (.l 7))] (some false))
 (.cond (.s 5) (.seq (Rg [mB false 2])
 .ret)
 .skip))))
 (Rg [vA (.bin .add (.s 6) (cI 1)),mK 0 6]))))
def v172:VFunc :=
 ⟨2,9,[.s 2],(.seq (Rg [mB false 2])
 (.seq (.seq (Rg [mS 0,nL 1 0,mS 1,nL 1 2,vB 3 (.bin .neq (.l 1) (.l 3))])
 (.cond (.s 3) (.seq (Rg [mB false 2])
 .ret)
 .skip))
 (.seq (.seq (Rg [mS 0,vB 7 (.len 1 (.l 0)),mI 0 6])
 (.block 0 (.loop v172l0)))
 (.seq (Rg [mB true 2])
 .ret)))),true,false,none,false,none⟩
def v173l0:VCode :=
 (.seq (Rg [vB 5 (.bin .lss (.s 11) (.s 12))])
 (.seq (.cond (.s 5) .skip
 (.exit 0))
 (.seq (.block 1 (.seq (.reg [mS 11,vA (.iad (.s 13) (.s 11) 24),lT 1 24,vB 14 (.lal [(.s []),(.s []),(.i .i64 0),(.i .i64 0),(.i .i64 0),(.b false),(.i .u8 0),(.s []),(.i .u8 0),(.b false),.nil,(.b false),.nil,(.i .i64 0),.nil,(.i .u8 0),(.s []),(.i .u8 0),(.b false),.nil,(.b false),.nil,(.i .i64 0),.nil]),mK 0 18,sT 14 2 24] none)
 (.seq (.seq (Rg [fA 14 0,lO 0 1,mS 1,vA (.bin .neq (.l 1) (.l 2)),mL 3,vG 4 false (.mov (.s 2)),vG 4 false (.lfa (.sl 14) 2),vG 4 false (.lld (.lo 6) 1 false),vG 4 false (.bin .lss (.l 5) (.l 7)),vA (.pick (.l 4) (.c (.b true)) (.l 8)),mL 9,vG 10 false (.mov (.s 2)),vG 10 false (.lfa (.sl 14) 3),vG 10 false (.lld (.lo 12) 1 false),vG 10 false (.bin .geq (.l 11) (.l 13)),vA (.pick (.l 10) (.c (.b true)) (.l 14)),mL 15,vG 16 false (.lfa (.sl 14) 4),vG 16 false (.lld (.lo 17) 1 false),vG 16 false (.mov (.s 3)),vG 16 false (.bin .gtr (.l 18) (.l 19)),vB 6 (.pick (.l 16) (.c (.b true)) (.l 20))])
 (.cond (.s 6) (.exit 1)
 .skip))
 (.seq (Rg [mS 15,fA 14 1,lO 1 1,vA (.lk (.c 2) (.l 0) (.l 2) true (.i .i64 0)),mL 3,xT 4 0,xT 4 1,mK 5 17,mK 6 16])
 (.seq (.reg [mS 16,vA (.un .not (.l 0)),mL 1,vG 2 false (.lfa (.sl 14) 4),vG 2 false (.lld (.lo 3) 1 false),vG 2 false (.lfa (.sl 10) 3),vG 2 false (.lld (.lo 5) 1 false),vG 2 false (.mov (.s 17)),vG 2 false (.iad (.l 6) (.l 7) 24),vG 2 false (.fad (.l 8) 4),vG 2 false (.ld (.l 9) 1 false),vG 2 false (.bin .geq (.l 4) (.l 10)),vB 7 (.pick (.l 2) (.c (.b true)) (.l 11))] (some false))
 (.cond (.s 7) (Rg [mS 15,fA 14 1,lO 1 1,mS 18,vA (.mup (.c 2) (.l 0) (.l 2) (.l 3))])
 .skip))))))
 (Rg [vA (.bin .add (.s 11) (cI 1)),mK 0 11]))))
def v173l1:VCode :=
 (.seq (Rg [vA (.stk),vB 8 (.ext (.l 0) 0)])
 (.seq (.cond (.s 8) .skip
 (.exit 2))
 (.block 3 (.seq (Rg [vA (.stk),xT 0 1,mK 1 21])
 (.seq (Rg [fA 10 3,lO 0 1,mS 21,iA 1 2 24,fD 3 5,lD 4 1,vB 9 (.un .not (.l 5))])
 (.cond (.s 9) (Rg [mS 19,mS 21,vA (.bsv 1 1 [(.i .i64 0)] [(0,(.l 1))]),vA (.app (.l 0) (.l 2) 1 8 true),mK 3 19])
 .skip))))))
def v173:VFunc :=
 ⟨4,22,[.s 4],(.seq (Rg [bX 0 4 10,vB 4 (.mov (.c .nil))])
 (.seq (Rg [vA (.mkm),mK 0 15])
 (.seq (.seq (Rg [fA 10 3,vB 13 (.lld (.lo 0) 1 false),vB 12 (.len 1 (.s 13)),mI 0 11])
 (.block 0 (.loop v173l0)))
 (.seq (Rg [vB 19 (.mov (.c .nil))])
 (.seq (.seq (Rg [mS 15,vB 20 (.stk)])
 (.block 2 (.loop v173l1)))
 (.seq (Rg [mS 19,c1 181 0])
 (.seq (Rg [mS 19,mK 0 4])
 .ret))))))),true,false,none,false,none⟩
def tm173:List Nat:=[0,1,2,3,8,22,47,67,76,85,4,21,20,19,11,9,13,12,10,14,74,16]
def bs173:List Nat:=[10,14]
def v174:VFunc :=
 ⟨4,8,[.s 4],(.seq (Rg [bX 1 9 6,mB false 4])
 (.seq (Rg [mS 0,lS 6 9,mS 2,mS 3,vA (.call 168 [(.l 0),(.l 1),(.l 2),(.l 3)]),vB 7 (.lal z6),sT 7 4 6])
 (.seq (.seq (Rg [fA 7 0,lO 0 1,vB 5 (.bin .neq (.l 1) (.c (.i .u8 1)))])
 (.cond (.s 5) (Rg [vA (.call 165 [(cI 185)])])
 .skip))
 (.seq (Rg [fA 7 5,lO 0 1,vA (.bin .eql (.l 1) (cI 1)),mK 2 4])
 .ret)))),false,false,none,false,none⟩
def v175:VFunc :=
 ⟨1,6,[.s 1],(.seq (Rg [bX 0 9 3,mB false 1])
 (.seq (.seq (Rg [fA 3 0,lO 0 1,vA (.bin .eql (.l 1) (.c (.i .u8 1))),mL 2,vG 3 true (.lfa (.sl 3) 2),vG 3 true (.lld (.lo 4) 6 true),vG 3 true (.call 114 [(.l 5)]),vG 3 true (.un .not (.l 6)),vB 2 (.pick (.l 3) (.l 7) (.c (.b false)))])
 (.cond (.s 2) (.seq (Rg [mB false 1])
 .ret)
 .skip))
 (.seq (Rg [fA 3 0,lO 0 1,c1 182 1,mL 2,xT 3 0,xT 3 1,mK 4 4,mK 5 5])
 (.seq (Rg [fA 3 8,lO 0 1,nL 1 1,mS 4,vA (.bin .geq (.l 2) (.l 3)),mL 4,vG 5 true (.lfa (.sl 3) 8),vG 5 true (.lld (.lo 6) 1 false),vG 5 true (.len 1 (.l 7)),vG 5 true (.mov (.s 5)),vG 5 true (.bin .leq (.l 8) (.l 9)),vA (.pick (.l 5) (.l 10) (.c (.b false))),mK 11 1])
 .ret)))),true,false,none,false,none⟩
def v178:VFunc :=
 ⟨6,25,[.bx 6 6 true],(.seq (Rg [vB 6 (.lal z6)])
 (.seq (.seq (Rg [mS 1,mS 4,c2 183 0 1,vB 7 (.un .not (.l 2))])
 (.cond (.s 7) (Rg [vA (.call 165 [(cI 185)])])
 .skip))
 (.seq (Rg [mS 4,vA (.iad (.l 0) (cI 0) 6),lT 1 6,vB 19 (.lal z6),sT 19 2 6])
 (.seq (.seq (Rg [mT 1 18])
 (.block 0 (.seq (.seq (Rg [vA (.bin .eql (.s 18) (.c (.i .u8 3))),mK 0 8])
 (.cond (.s 8) .skip
 (Rg [vA (.bin .eql (.s 18) (.c (.i .u8 4))),mK 0 8])))
 (.cond (.s 8) (.seq (Rg [mS 0,mS 1,mS 2,fA 19 5,lO 3 1,mS 5,vA (.call 184 [(.l 0),(.l 1),(.l 2),(.l 4),(.l 5)]),sT 6 6 6])
 .ret)
 (.seq (Rg [vA (.bin .eql (.s 18) (.c (.i .u8 6))),mK 0 9])
 (.cond (.s 9) (.seq (Rg [mS 0,mS 2,mS 4,mS 5,vA (.call 185 [(.l 0),(.l 1),(.l 2),(.l 3)]),sT 6 4 6])
 .ret)
 (.seq (.seq (Rg [vA (.bin .eql (.s 18) (.c (.i .u8 21))),mK 0 10])
 (.cond (.s 10) .skip
 (Rg [vA (.bin .eql (.s 18) (.c (.i .u8 22))),mK 0 10])))
 (.cond (.s 10) (.seq (Rg [mS 0,mS 1,mS 2,mS 4,mS 5,vA (.call 186 [(.l 0),(.l 1),(.l 2),(.l 3),(.l 4)]),sT 6 5 6])
 .ret)
 (.seq (Rg [vA (.bin .eql (.s 18) (.c (.i .u8 23))),mK 0 11])
 (.cond (.s 11) (.seq (.reg [mS 0,mS 2,fA 19 5,lO 2 1,mS 4,vA (.iad (.l 4) (cI 1) 6),fD 5 5,lD 6 1,mS 5,vA (.callp 187 [(.l 0),(.l 1),(.l 3),(.l 7),(.l 8)]),sT 6 9 6] (some false))
 .ret)
 (.seq (Rg [vA (.bin .eql (.s 18) (.c (.i .u8 17))),mK 0 12])
 (.cond (.s 12) (.seq (Rg [fA 19 5,lO 0 1,vA (.bin .eql (.l 1) (cI 0)),c1 176 2,sT 6 3 6])
 .ret)
 (.seq (Rg [vA (.bin .eql (.s 18) (.c (.i .u8 24))),mK 0 13])
 (.cond (.s 13) (.seq (Rg [fA 19 1,lP 0 4,c1 12 1,mL 2,xT 3 0,xT 3 1,mK 4 21,mK 5 20])
 (.seq (Rg [mS 20,c1 188 0])
 (.seq (Rg [mS 21,vA (.call 189 [(.c (.i .u8 6)),(.l 0)]),sT 6 1 6])
 .ret)))
 (.seq (Rg [vA (.bin .eql (.s 18) (.c (.i .u8 25))),mK 0 14])
 (.cond (.s 14) (.seq (.seq (Rg [fA 19 0,lO 0 1,vA (.bin .eql (.l 1) (.c (.i .u8 2))),mL 2,vG 3 false (.lfa (.sl 19) 0),vG 3 false (.lld (.lo 4) 1 false),vG 3 false (.bin .eql (.l 5) (.c (.i .u8 3))),vB 15 (.pick (.l 3) (.c (.b true)) (.l 6))])
 (.cond (.s 15) (.seq (Rg [fA 19 1,lP 0 4,vA (.agc z6 [(0,1,(.c (.i .u8 2))),(1,4,(.l 1))]),sT 6 2 6])
 .ret)
 .skip))
 (.seq (Rg [fA 19 5,lO 0 1,c1 10 1,vA (.agc z6 [(0,1,(.c (.i .u8 2))),(1,4,(.l 2))]),sT 6 3 6])
 .ret))
 (.seq (Rg [vA (.bin .eql (.s 18) (.c (.i .u8 26))),mK 0 16])
 (.cond (.s 16) (.seq (Rg [fA 19 5,lO 0 1,c1 190 1,mL 2,xT 3 0,xT 3 1,mK 4 23,mK 5 22])
 (.seq (Rg [mS 22,c1 188 0])
 (.seq (Rg [mS 23,c1 87 0,mL 1,xT 2 0,xT 2 1,mK 3 24,mK 4 22])
 (.seq (Rg [mS 22,c1 188 0])
 (.seq (Rg [mS 24,c1 191 0,sT 6 1 6])
 .ret)))))
 (.seq (Rg [vA (.bin .eql (.s 18) (.c (.i .u8 19))),mK 0 17])
 (.cond (.s 17) (.seq (.reg [lS 19 6,mS 4,vA (.iad (.l 1) (cI 1) 6),lT 2 6,mS 3,vA (.callp 192 [(.l 0),(.l 3),(.l 4)]),sT 6 5 6] (some false))
 .ret)
 .skip))))))))))))))))))))
 (.seq (.reg [mS 1,lS 19 6,mS 4,vA (.iad (.l 2) (cI 1) 6),lT 3 6,vA (.callp 193 [(.l 0),(.l 1),(.l 4)]),sT 6 5 6] (some false))
 .ret))))),false,false,none,false,none⟩
def v179:VFunc :=
 ⟨2,4,[.s 2],(.seq (Rg [vB 2 (.mov (.c (.i .u64 0)))])
 (.seq (.seq (Rg [mS 0,sD 1 1,nL 1 1,vB 3 (.bin .geq (.l 0) (.l 2))])
 (.cond (.s 3) (.seq (Rg [vB 2 (.mov (.c (.i .u64 0)))])
 .ret)
 .skip))
 (.seq (Rg [sD 1 1,mS 0,iA 0 1 1,lD 2 1,vA (.cvi .u64 (.l 3)),mK 4 2])
 .ret))),false,false,none,false,none⟩
def v180l0:VCode :=
 (.seq (.seq (Rg [mS 4,vB 2 (.bin .geq (.l 0) (cI 0))])
 (.cond (.s 2) .skip
 (.exit 0)))
 (.seq (.block 1 (.seq (Rg [mS 0,sD 1 1,mS 4,iA 1 2 1,lD 3 1,vA (.calv (.l 0) [(.l 4)]),vB 3 (.un .not (.l 5))])
 (.cond (.s 3) .ret
 .skip)))
 (Rg [mS 4,vA (.bin .sub (.l 0) (cI 1)),mK 1 4])))
def v180:VFunc :=
 ⟨2,5,[],(.seq (Rg [sD 1 1,nL 1 0,vA (.bin .sub (.l 1) (cI 1)),mK 2 4])
 (.block 0 (.loop v180l0))),false,false,none,false,none⟩
def v181:VFunc :=
 ⟨1,1,[],(Rg [mS 0,c1 194 0]),false,false,none,false,none⟩
def v182:VFunc :=
 ⟨1,11,[.s 1,.s 2],(.seq (Rg [mI 0 1,mI 0 2])
 (.seq (.seq (Rg [mT 0 9])
 (.block 0 (.seq (.seq (Rg [vA (.bin .eql (.s 9) (.c (.i .u8 1))),mK 0 3])
 (.cond (.s 3) .skip
 (Rg [vA (.bin .eql (.s 9) (.c (.i .u8 2))),mK 0 3])))
 (.cond (.s 3) (.seq (Rg [mI 0 1,mI 0 2])
 .ret)
 (.seq (Rg [vA (.bin .eql (.s 9) (.c (.i .u8 5))),mK 0 4])
 (.cond (.s 4) (.seq (Rg [mI 1 1,mI 1 2])
 .ret)
 (.seq (Rg [vA (.bin .eql (.s 9) (.c (.i .u8 6))),mK 0 5])
 (.cond (.s 5) (.seq (Rg [mI 1 1,mI 2 2])
 .ret)
 (.seq (.seq (Rg [vA (.bin .eql (.s 9) (.c (.i .u8 15))),mK 0 6])
 (.cond (.s 6) .skip
 (Rg [vA (.bin .eql (.s 9) (.c (.i .u8 16))),mK 0 6])))
 (.cond (.s 6) (.seq (Rg [mI 2 1,mI 2 2])
 .ret)
 (.seq (Rg [vA (.bin .eql (.s 9) (.c (.i .u8 18))),mK 0 7])
 (.cond (.s 7) (.seq (Rg [mI 3 1,mI 3 2])
 .ret)
 .skip))))))))))))
 (.seq (.seq (Rg [mS 0,vA (.cvi .i64 (.l 0)),vA (.bin .geq (.l 1) (cI 27)),mL 2,vG 3 false (.mov (.s 0)),vG 3 false (.gia 2 (.l 4) 27 1),vG 3 false (.ld (.l 5) 1 false),vG 3 false (.bin .eql (.l 6) (.c (.s []))),vB 8 (.pick (.l 3) (.c (.b true)) (.l 7))])
 (.cond (.s 8) (.seq (Rg [mI 1 1,mI 0 2])
 .ret)
 .skip))
 (.seq (.reg [mS 0,vA (.gia 2 (.l 0) 27 1),lD 1 1,vA (.call 195 [(.l 2),(.c (.s [32]))]),mL 3,xT 4 0,xT 4 1,xT 4 2,mK 5 10,mL 6,mL 7] none)
 (.seq (Rg [mS 10,nL 0 0,mS 10,nL 0 2,mK 1 1,mK 3 2])
 .ret))))),true,false,none,false,none⟩
def v183l0:VCode :=
 (.seq (.seq (Rg [mS 9,mL 0,vG 1 true (.mov (.s 10)),vG 1 true (.mov (.s 1)),vG 1 true (.len 1 (.l 3)),vG 1 true (.bin .lss (.l 2) (.l 4)),vB 5 (.pick (.l 1) (.l 5) (.c (.b false)))])
 (.cond (.s 5) .skip
 (.exit 2)))
 (.seq (.block 3 (.reg [mS 8,mS 10,vA (.ixs (.l 0) (.l 1)),vA (.bin .sub (.l 2) (.c (.i .u8 48))),mS 1,mS 10,iA 4 5 6,fD 6 0,lD 7 1,vA (.bin .eql (.l 3) (.l 8)),mK 9 9] (some false)))
 (Rg [mS 10,vA (.bin .add (.l 0) (cI 1)),mK 1 10])))
def v183l1:VCode :=
 (.seq (.seq (Rg [mS 7,vB 4 (.bin .neq (.l 0) (.c (.s [])))])
 (.cond (.s 4) .skip
 (.exit 0)))
 (.block 1 (.seq (Rg [vB 8 (.mov (.c (.s [])))])
 (.seq (.reg [mS 7,vA (.call 195 [(.l 0),(.c (.s [32]))]),mL 1,xT 2 0,xT 2 1,xT 2 2,mK 3 8,mK 4 7] none)
 (.seq (Rg [mS 8,nL 0 0,mS 1,nL 1 2,vA (.bin .eql (.l 1) (.l 3)),mK 4 9])
 (.seq (.seq (Rg [mI 0 10])
 (.block 2 (.loop v183l0)))
 (.seq (Rg [mT 9 6])
 (.cond (.s 6) (.seq (Rg [mB true 2])
 .ret)
 .skip))))))))
def v183:VFunc :=
 ⟨2,11,[.s 2],(.seq (Rg [mB false 2])
 (.seq (.seq (Rg [mS 0,vA (.cvi .i64 (.l 0)),vA (.bin .geq (.l 1) (cI 27)),mL 2,vG 3 false (.mov (.s 1)),vG 3 false (.len 1 (.l 4)),vG 3 false (.bin .eql (.l 5) (cI 0)),vB 3 (.pick (.l 3) (.c (.b true)) (.l 6))])
 (.cond (.s 3) (.seq (Rg [mB false 2])
 .ret)
 .skip))
 (.seq (Rg [mS 0,vA (.gia 2 (.l 0) 27 1),lD 1 1,mK 2 7])
 (.seq (.block 0 (.loop v183l1))
 (.seq (Rg [mB false 2])
 .ret))))),true,false,none,false,none⟩
def v184:VFunc :=
 ⟨5,12,[.bx 5 6 true],(.seq (Rg [vB 8 (.hbx 3 (.s 3) 1),vB 5 (.lal z6)])
 (.seq (Rg [mS 4,mS 2,sD 8 1,sD 8 1,vA (.bin .add (.l 3) (cI 1)),vA (.inv (.l 0) "Fact" [(.l 1),(.l 2),(.l 4)])])
 (.seq (Rg [mS 0,mS 2,c2 196 0 1,vB 9 (.hal 290 [.nil]),vA (.st (.s 9) (.l 2) 1)])
 (.seq (Rg [sD 9 1,nL 1 0,vA (.mkf (.func 198) [] [(.s 9),(.s 8)]),c2 197 1 2,mK 3 10])
 (.seq (.reg [mS 10,sD 9 1,nL 1 1,vA (.bin .lss (.l 0) (.l 2)),mL 3,vG 4 true (.ld (.s 9) 1 false),vG 4 true (.mov (.s 10)),vG 4 true (.iad (.l 5) (.l 6) 8),vG 4 true (.fad (.l 7) 0),vG 4 true (.ld (.l 8) 1 false),vG 4 true (.ld (.s 8) 1 false),vG 4 true (.bin .leq (.l 9) (.l 10)),vA (.pick (.l 4) (.l 11) (.c (.b false))),mK 12 11] (some false))
 (.seq (.block 0 (.seq (Rg [mS 1,vA (.bin .eql (.l 0) (.c (.i .u8 4))),mK 1 6])
 (.cond (.s 6) (.seq (Rg [mS 11,c1 176 0,sT 5 1 6])
 .ret)
 (.seq (Rg [mS 11,vA (.un .not (.l 0)),mK 1 7])
 (.cond (.s 7) (Rg [vA (.call 165 [(cI 182)])])
 .skip)))))
 (.seq (Rg [sD 9 1,mS 10,iA 0 1 8,fD 2 2,lT 3 6,sT 5 4 6])
 .ret))))))),false,false,none,false,none⟩
def v188:VFunc :=
 ⟨1,2,[],(.seq (Rg [mS 0,vB 1 (.bin .neq (.l 0) (cI 0))])
 (.cond (.s 1) (Rg [mS 0,c1 165 0])
 .skip)),true,false,none,false,none⟩
def v193:VFunc :=
 ⟨3,23,[.bx 3 6 true],(.seq (Rg [bX 1 6 15,bX 2 6 16,vB 3 (.lal z6)])
 (.seq (.seq (Rg [mT 0 14])
 (.block 0 (.seq (.seq (Rg [vA (.bin .eql (.s 14) (.c (.i .u8 7))),mK 0 4])
 (.cond (.s 4) .skip
 (Rg [vA (.bin .eql (.s 14) (.c (.i .u8 8))),mK 0 4])))
 (.cond (.s 4) (.seq (Rg [mS 0,lS 15 6,lS 16 6,vA (.call 209 [(.l 0),(.l 1),(.l 2)]),sT 3 3 6])
 .ret)
 (.seq (Rg [vA (.bin .eql (.s 14) (.c (.i .u8 9))),mK 0 5])
 (.cond (.s 5) (.seq (Rg [fA 15 1,lP 0 4,fA 16 1,lP 2 4,c2 210 1 3,mL 4,xT 5 0,xT 5 1,vB 18 (.lal z4),sT 18 6 4,mK 7 17])
 (.seq (Rg [mS 17,c1 188 0])
 (.seq (Rg [fA 15 0,lO 0 1,fA 16 0,lO 2 1,vA (.mx [(.l 1),(.l 3)]),lS 18 4,vA (.agc z6 [(0,1,(.l 4)),(1,4,(.l 5))]),sT 3 6 6])
 .ret)))
 (.seq (Rg [vA (.bin .eql (.s 14) (.c (.i .u8 10))),mK 0 6])
 (.cond (.s 6) (.seq (.seq (.reg [fA 16 1,lP 0 4,vA (.call 10 [(cI 0)]),c2 11 1 2,vB 7 (.bin .eql (.l 3) (cI 0))] (some false))
 (.cond (.s 7) (Rg [vA (.call 165 [(cI 181)])])
 .skip))
 (.seq (Rg [fA 15 1,lP 0 4,fA 16 1,lP 2 4,c2 211 1 3,mL 4,xT 5 0,xT 5 1,vB 20 (.lal z4),sT 20 6 4,mK 7 19])
 (.seq (Rg [mS 19,c1 188 0])
 (.seq (.seq (Rg [fA 15 0,lO 0 1,fA 16 0,lO 2 1,vB 8 (.bin .eql (.l 1) (.l 3))])
 (.cond (.s 8) (.seq (Rg [lS 20 4,vA (.agc z6 [(0,1,(.c (.i .u8 2))),(1,4,(.l 0))]),sT 3 1 6])
 .ret)
 .skip))
 (.seq (Rg [lS 20 4,vA (.agc z6 [(0,1,(.c (.i .u8 3))),(1,4,(.l 0))]),sT 3 1 6])
 .ret)))))
 (.seq (.seq (Rg [vA (.bin .eql (.s 14) (.c (.i .u8 11))),mK 0 9])
 (.cond (.s 9) .skip
 (Rg [vA (.bin .eql (.s 14) (.c (.i .u8 12))),mK 0 9])))
 (.cond (.s 9) (.seq (.seq (Rg [lS 15 6,lS 16 6,c2 212 0 1,vA (.bin .leq (.l 2) (cI 0)),mS 0,vA (.bin .eql (.l 4) (.c (.i .u8 11))),vB 10 (.eqv false .b (.l 3) (.l 5))])
 (.cond (.s 10) (.seq (Rg [lS 15 6,sT 3 0 6])
 .ret)
 .skip))
 (.seq (Rg [lS 16 6,sT 3 0 6])
 .ret))
 (.seq (Rg [vA (.bin .eql (.s 14) (.c (.i .u8 13))),mK 0 11])
 (.cond (.s 11) (.seq (Rg [lS 15 6,lS 16 6,c2 212 0 1,vA (.bin .lss (.l 2) (cI 0)),c1 176 3,sT 3 4 6])
 .ret)
 (.seq (Rg [vA (.bin .eql (.s 14) (.c (.i .u8 14))),mK 0 12])
 (.cond (.s 12) (.seq (Rg [lS 15 6,lS 16 6,c2 113 0 1,c1 176 2,sT 3 3 6])
 .ret)
 (.seq (Rg [vA (.bin .eql (.s 14) (.c (.i .u8 20))),mK 0 13])
 (.cond (.s 13) (.seq (Rg [fA 15 5,lO 0 1,fA 16 5,lO 2 1,c2 213 1 3,mL 4,xT 5 0,xT 5 1,mK 6 22,mK 7 21])
 (.seq (Rg [mS 21,c1 188 0])
 (.seq (Rg [mS 22,vA (.call 189 [(.c (.i .u8 6)),(.l 0)]),sT 3 1 6])
 .ret)))
 .skip))))))))))))))))
 (.seq (Rg [vA (.call 165 [(cI 185)])])
 (.seq (Rg [vA (.agc z6 []),sT 3 0 6])
 .ret)))),true,false,none,false,none⟩
def v196:VFunc :=
 ⟨2,7,[.s 2],(.seq (Rg [vB 2 (.mov (.c .nil))])
 (.seq (Rg [mS 0,vA (.nck (.l 0)),fD 1 7,lD 2 1,mS 1,vA (.lk (.c 2) (.l 3) (.l 4) true .nil),mL 5,xT 6 0,xT 6 1,mK 7 4,mK 8 5])
 (.seq (.seq (Rg [mS 5,vA (.un .not (.l 0)),mL 1,vG 2 true (.mov (.s 0)),vG 2 true (.nck (.l 3)),vG 2 true (.fad (.l 4) 6),vG 2 true (.ld (.l 5) 1 false),vG 2 true (.mov (.s 1)),vG 2 true (.lk (.c 2) (.l 6) (.l 7) false .nil),vG 2 true (.len 1 (.l 8)),vG 2 true (.bin .gtr (.l 9) (cI 0)),vB 3 (.pick (.l 2) (.l 10) (.c (.b false)))])
 (.cond (.s 3) (.seq (Rg [mI 0 6])
 (.seq (.reg [mS 0,vA (.nck (.l 0)),fD 1 6,lD 2 1,mS 1,vA (.lk (.c 2) (.l 3) (.l 4) false .nil),mS 1,mS 0,vA (.nck (.l 7)),fD 8 4,lD 9 1,vA (.call 217 [(.l 5),(.l 6),(.l 10)]),mL 11,xT 12 0,xT 12 1,mK 13 4,mK 14 6] (some false))
 (.seq (Rg [mS 6,c1 188 0])
 (Rg [mS 0,vA (.nck (.l 0)),fD 1 7,lD 2 1,mS 1,mS 4,vA (.mup (.c 2) (.l 3) (.l 4) (.l 5))]))))
 .skip))
 (.seq (Rg [mS 4,mK 0 2])
 .ret)))),false,false,none,false,none⟩
def v197l0:VCode :=
 (.seq (.seq (Rg [mS 5,mS 6,vB 3 (.bin .lss (.l 0) (.l 1))])
 (.cond (.s 3) .skip
 (.exit 0)))
 (.block 1 (.seq (Rg [mS 5,mS 6,vA (.bin .add (.l 0) (.l 1)),vA (.cvi .u64 (.l 2)),vA (.bin .shr (.l 3) (.c (.i .u64 1))),vA (.cvi .i64 (.l 4)),mK 5 7])
 (.seq (Rg [mS 1,mS 7,vA (.calv (.l 0) [(.l 1)]),vB 4 (.un .not (.l 2))])
 (.cond (.s 4) (Rg [mS 7,vA (.bin .add (.l 0) (cI 1)),mK 1 5])
 (Rg [mS 7,mK 0 6]))))))
def v197:VFunc :=
 ⟨2,8,[.s 2],(.seq (Rg [mI 0 2])
 (.seq (Rg [mS 0,mI 0 5,mK 0 6])
 (.seq (.block 0 (.loop v197l0))
 (.seq (Rg [mS 5,mK 0 2])
 .ret)))),false,false,none,false,none⟩
def v198:VFunc :=
 ⟨3,4,[.s 3],(.seq (Rg [mB false 3])
 (.seq (.reg [sD 1 1,mS 0,iA 0 1 8,fD 2 1,lD 3 1,sD 2 1,vA (.bin .gtr (.l 4) (.l 5)),mK 6 3] (some false))
 .ret)),false,false,none,false,none⟩
def v210:VFunc :=
 ⟨2,7,[.bx 2 4 true,.s 3],(.seq (Rg [bX 0 4 5,bX 1 4 6,vB 2 (.lal z4),mI 0 3])
 (.seq (.seq (Rg [lS 5 4,lS 6 4,vA (.bsv 4 2 z4 [(0,(.l 0)),(1,(.l 1))]),c1 22 2,vB 4 (.un .not (.l 3))])
 (.cond (.s 4) (.seq (Rg [vA (.agc z4 []),sT 2 0 4,mI 2 3])
 .ret)
 .skip))
 (.seq (.reg [fA 5 0,lP 0 2,fA 6 0,lP 2 2,c2 25 1 3,fA 5 2,lP 5 2,fA 6 2,lP 7 2,c2 25 6 8,c2 31 4 9,c1 32 10,xT 11 0,xT 11 1,sT 2 12 4,mK 13 3] (some false))
 .ret))),true,false,none,false,none⟩
def v211:VFunc :=
 ⟨2,8,[.bx 2 4 true,.s 3],(.seq (Rg [bX 0 4 6,bX 1 4 7,vB 2 (.lal z4),mI 0 3])
 (.seq (.seq (Rg [lS 6 4,lS 7 4,vA (.bsv 4 2 z4 [(0,(.l 0)),(1,(.l 1))]),c1 22 2,vB 4 (.un .not (.l 3))])
 (.cond (.s 4) (.seq (Rg [vA (.agc z4 []),sT 2 0 4,mI 2 3])
 .ret)
 .skip))
 (.seq (.seq (Rg [lS 7 4,vA (.agc z4 [(0,4,(.l 0))]),vB 5 (.call 23 [(.l 1)])])
 (.cond (.s 5) (.seq (Rg [vA (.agc z4 []),sT 2 0 4,mI 20 3])
 .ret)
 .skip))
 (.seq (.reg [fA 6 0,lP 0 2,fA 7 2,lP 2 2,c2 25 1 3,fA 6 2,lP 5 2,fA 7 0,lP 7 2,c2 25 6 8,c2 31 4 9,c1 32 10,xT 11 0,xT 11 1,sT 2 12 4,mK 13 3] (some false))
 .ret)))),true,false,none,false,none⟩
def v217:VFunc :=
 ⟨3,6,[.s 3,.s 4],(.seq (Rg [vB 3 (.mov (.c .nil)),mI 0 4])
 (.seq (.seq (Rg [mS 0,c1 45 0,vB 5 (.un .not (.l 1))])
 (.cond (.s 5) (.seq (Rg [vB 3 (.mov (.c .nil)),mI 2 4])
 .ret)
 .skip))
 (.seq (Rg [mS 0,mS 1,mS 2,vA (.call 248 [(.l 0),(.l 1),(.l 2)]),mK 3 3,mI 0 4])
 .ret))),true,false,none,false,none⟩
def v218l0:VCode :=
 (.seq (Rg [vB 5 (.bin .lss (.s 8) (.s 9))])
 (.seq (.cond (.s 5) .skip
 (.exit 0))
 (.seq (.block 1 (.seq (Rg [mS 8,mK 0 10])
 (Rg [mS 7,mS 10,mS 7,mS 10,iA 2 3 7,fD 4 3,lT 5 4,c1 250 6,iA 0 1 7,fD 8 3,vA (.st (.l 9) (.l 7) 4)])))
 (Rg [vA (.bin .add (.s 8) (cI 1)),mK 0 8]))))
def v218:VFunc :=
 ⟨2,11,[.bx 2 3 true,.s 3],(.seq (.reg [bX 0 3 6,vB 2 (.lal [(.s []),(.b false),.nil]),mI 0 3] none)
 (.seq (.seq (Rg [lS 6 3,c1 109 0,vB 4 (.un .not (.l 1))])
 (.cond (.s 4) (.seq (.reg [vA (.agc [(.s []),(.b false),.nil] []),sT 2 0 3,mI 2 3] none)
 .ret)
 .skip))
 (.seq (Rg [lS 6 3,mS 1,c2 249 0 1,mK 2 7])
 (.seq (.seq (Rg [mS 7,vB 9 (.len 1 (.l 0)),mI 0 8])
 (.block 0 (.loop v218l0)))
 (.seq (.reg [fA 6 0,lO 0 1,fA 6 1,lO 2 1,mS 7,vA (.agc [(.s []),(.b false),.nil] [(0,1,(.l 1)),(1,1,(.l 3)),(2,1,(.l 4))]),sT 2 5 3,mI 0 3] none)
 .ret))))),true,false,none,false,none⟩
def v222:VFunc :=
 ⟨3,6,[.bx 3 3 true,.s 4],(.seq (Rg [vB 3 (.lal [(.i .i64 0),(.i .i64 0),.nil]),mB false 4])
 (.seq (Rg [mS 0,c1 254 0,mL 1,vG 2 true (.mov (.s 1)),vG 2 true (.bin .leq (cI 0) (.l 3)),vA (.pick (.l 2) (.l 4) (.c (.b false))),mL 5,vG 6 true (.mov (.s 1)),vG 6 true (.bin .leq (.l 7) (cI 65536)),vA (.pick (.l 6) (.l 8) (.c (.b false))),mL 9,vG 10 true (.mov (.s 2)),vG 10 true (.bin .leq (cI 0) (.l 11)),vA (.pick (.l 10) (.l 12) (.c (.b false))),mL 13,vG 14 true (.mov (.s 2)),vG 14 true (.bin .leq (.l 15) (cI 65536)),vA (.pick (.l 14) (.l 16) (.c (.b false))),mK 17 5])
 (.seq (Rg [mS 1,mS 2,vA (.agc [(.i .i64 0),(.i .i64 0)] [(0,1,(.l 0)),(1,1,(.l 1))]),mS 0,vA (.agc [(.i .i64 0),(.i .i64 0),.nil] [(0,2,(.l 2)),(2,1,(.l 3))]),mS 5,sT 3 4 3,mK 5 4])
 .ret))),true,false,none,false,none⟩
def v228:VFunc :=
 ⟨4,7,[.bx 4 4 true,.s 5],(.seq (Rg [bX 0 4 6,vB 4 (.lal z4),mI 0 5])
 (.seq (Rg [vA (.ld (.s 1) 3 true),sD 2 1,sD 3 1,vA (.call 229 [(.l 0),(.l 1),(.l 2)]),xT 3 0,xT 3 1,sT 4 4 4,mK 5 5])
 .ret)),false,false,none,false,none⟩
def v229:VFunc :=
 ⟨3,10,[.bx 3 4 true,.s 4],(.seq (Rg [bX 0 3 7,vB 8 (.hbx 3 (.s 1) 1),vB 3 (.lal z4),mI 0 4])
 (.seq (.seq (Rg [lS 7 3,c1 109 0,vA (.un .not (.l 1)),mL 2,vG 3 false (.lfa (.sl 7) 1),vG 3 false (.lld (.lo 4) 1 false),vB 5 (.pick (.l 3) (.c (.b true)) (.l 5))])
 (.cond (.s 5) (.seq (Rg [vA (.agc z4 []),sT 3 0 4,mI 2 4])
 .ret)
 .skip))
 (.seq (Rg [lS 7 3,mS 2,c2 249 0 1,vA (.mkf (.func 264) [] [(.s 8)]),c2 263 2 3,mK 4 9])
 (.seq (.seq (Rg [mS 9,nL 1 0,vB 6 (.bin .eql (.l 1) (cI 0))])
 (.cond (.s 6) (.seq (Rg [vA (.agc z4 []),sT 3 0 4,mI 6 4])
 .ret)
 .skip))
 (.seq (Rg [mS 9,mS 9,nL 1 1,vA (.bin .sub (.l 2) (cI 1)),iA 0 3 7,fD 4 3,lT 5 4,c1 250 6,sT 3 7 4,mI 0 4])
 .ret))))),true,false,none,false,none⟩
def v231:VFunc :=
 ⟨2,7,[.bx 2 4 true,.s 3],(.seq (Rg [bX 0 4 5,bX 1 4 6,vB 2 (.lal z4),mI 0 3])
 (.seq (.seq (Rg [lS 5 4,lS 6 4,vA (.bsv 4 2 z4 [(0,(.l 0)),(1,(.l 1))]),c1 22 2,vB 4 (.un .not (.l 3))])
 (.cond (.s 4) (.seq (Rg [vA (.agc z4 []),sT 2 0 4,mI 2 3])
 .ret)
 .skip))
 (.seq (.reg [fA 5 0,lP 0 2,fA 6 2,lP 2 2,c2 25 1 3,fA 6 0,lP 5 2,fA 5 2,lP 7 2,c2 25 6 8,c2 28 4 9,fA 5 2,lP 11 2,fA 6 2,lP 13 2,c2 25 12 14,c2 31 10 15,c1 32 16,xT 17 0,xT 17 1,sT 2 18 4,mK 19 3] (some false))
 .ret))),true,false,none,false,none⟩
def v236:VFunc :=
 ⟨2,7,[.bx 2 4 true,.s 3],(.seq (Rg [bX 0 4 5,bX 1 4 6,vB 2 (.lal z4),mI 0 3])
 (.seq (.seq (Rg [lS 5 4,lS 6 4,vA (.bsv 4 2 z4 [(0,(.l 0)),(1,(.l 1))]),c1 22 2,vB 4 (.un .not (.l 3))])
 (.cond (.s 4) (.seq (Rg [vA (.agc z4 []),sT 2 0 4,mI 2 3])
 .ret)
 .skip))
 (.seq (.reg [fA 5 0,lP 0 2,fA 6 2,lP 2 2,c2 25 1 3,fA 6 0,lP 5 2,fA 5 2,lP 7 2,c2 25 6 8,c1 71 9,c2 28 4 10,fA 5 2,lP 12 2,fA 6 2,lP 14 2,c2 25 13 15,c2 31 11 16,c1 32 17,xT 18 0,xT 18 1,sT 2 19 4,mK 20 3] (some false))
 .ret))),true,false,none,false,none⟩
def v248l0:VCode :=
 (.seq (.seq (Rg [mS 15,mS 16,vB 5 (.bin .lss (.l 0) (.l 1))])
 (.cond (.s 5) .skip
 (.exit 2)))
 (.seq (.block 3 (Rg [mS 17,mS 15,mS 9,mS 13,iA 2 3 11,iA 0 1 1,vA (.st (.l 5) (.l 4) 1)]))
 (Rg [mS 15,vA (.bin .add (.l 0) (cI 1)),mK 1 15])))
def v248l1:VCode :=
 (.seq (Rg [vB 4 (.bin .lss (.s 11) (.s 12))])
 (.seq (.cond (.s 4) .skip
 (.exit 0))
 (.seq (.block 1 (.seq (Rg [mS 11,mK 0 13])
 (.seq (Rg [mS 10,mS 9,mS 13,iA 1 2 11,lT 3 11,c2 277 0 4,mL 5,xT 6 0,xT 6 1,mK 7 14,mK 8 16])
 (.seq (Rg [mS 14,mK 0 15])
 (.block 2 (.loop v248l0))))))
 (Rg [vA (.bin .add (.s 11) (cI 1)),mK 0 11]))))
def v248l2:VCode :=
 (.seq (Rg [vB 6 (.bin .lss (.s 19) (.s 20))])
 (.seq (.cond (.s 6) .skip
 (.exit 4))
 (.seq (.block 5 (.seq (Rg [mS 19,vA (.iad (.s 21) (.s 19) 1),lD 1 1,mK 0 24,mK 2 22])
 (.seq (.seq (Rg [mS 22,vA (.eqv false .pt (.l 0) (.c .np)),mL 1,vG 2 false (.mov (.s 22)),vG 2 false (.nck (.l 3)),vG 2 false (.fad (.l 4) 4),vG 2 false (.ld (.l 5) 1 false),vB 7 (.pick (.l 2) (.c (.b true)) (.l 6))])
 (.cond (.s 7) (.exit 5)
 .skip))
 (.seq (Rg [mS 18,nL 1 0,mK 1 23])
 (.seq (.reg [mS 23,vA (.bin .gtr (.l 0) (cI 0)),mL 1,vG 2 true (.mov (.s 18)),vG 2 true (.mov (.s 23)),vG 2 true (.bin .sub (.l 4) (cI 1)),vG 2 true (.iad (.l 3) (.l 5) 8),vG 2 true (.fad (.l 6) 1),vG 2 true (.ld (.l 7) 1 false),vG 2 true (.mov (.s 10)),vG 2 true (.mov (.s 24)),vG 2 true (.iad (.l 9) (.l 10) 1),vG 2 true (.ld (.l 11) 1 false),vG 2 true (.bin .eql (.l 8) (.l 12)),vA (.pick (.l 2) (.l 13) (.c (.b false))),mL 14,vG 15 true (.mov (.s 18)),vG 15 true (.mov (.s 23)),vG 15 true (.bin .sub (.l 17) (cI 1)),vG 15 true (.iad (.l 16) (.l 18) 8),vG 15 true (.fad (.l 19) 2),vG 15 true (.ld (.l 20) 6 true),vG 15 true (.mov (.s 22)),vG 15 true (.nck (.l 22)),vG 15 true (.fad (.l 23) 5),vG 15 true (.ld (.l 24) 6 true),vG 15 true (.call 113 [(.l 21),(.l 25)]),vB 8 (.pick (.l 15) (.l 26) (.c (.b false)))] (some false))
 (.cond (.s 8) (Rg [mS 18,mS 23,vA (.bin .sub (.l 1) (cI 1)),mS 10,mS 24,vA (.bin .add (.l 4) (cI 1)),iA 3 5 1,lD 6 1,iA 0 2 8,fD 8 1,vA (.st (.l 9) (.l 7) 1)])
 (.reg [mS 18,mS 10,mS 24,iA 1 2 1,lD 3 1,mS 10,mS 24,vA (.bin .add (.l 6) (cI 1)),iA 5 7 1,lD 8 1,mS 22,vA (.nck (.l 10)),fD 11 5,lT 12 6,c1 278 13,vA (.agc [(.i .i64 0),(.i .i64 0),(.i .u8 0),(.b false),.nil,(.b false),.nil,(.i .i64 0)] [(0,1,(.l 4)),(1,1,(.l 9)),(2,6,(.l 14))]),vA (.bsv 8 1 [(.i .i64 0),(.i .i64 0),(.i .u8 0),(.b false),.nil,(.b false),.nil,(.i .i64 0)] [(0,(.l 15))]),vA (.app (.l 0) (.l 16) 8 96 true),mK 17 18] (some false))))))))
 (Rg [vA (.bin .add (.s 19) (cI 1)),mK 0 19]))))
def v248:VFunc :=
 ⟨3,25,[.s 3],(.seq (Rg [vB 3 (.mov (.c .nil))])
 (.seq (Rg [mS 0,mS 1,mS 2,vA (.call 275 [(.l 0),(.l 1),(.l 2)]),c1 274 3,mK 4 9])
 (.seq (Rg [mS 9,c1 276 0,mK 1 10])
 (.seq (Rg [mS 10,nL 1 0,vA (.mks (.l 1) (.l 1) 1 8 [.np] false),mK 2 17])
 (.seq (.seq (Rg [mS 9,vB 12 (.len 1 (.l 0)),mI 0 11])
 (.block 0 (.loop v248l1)))
 (.seq (Rg [vB 18 (.mov (.c .nil))])
 (.seq (.seq (Rg [mT 17 21,vB 20 (.len 1 (.s 21)),mI 0 19])
 (.block 4 (.loop v248l2)))
 (.seq (Rg [mS 18,mK 0 3])
 .ret)))))))),true,false,none,false,none⟩
def v274:VFunc :=
 ⟨1,2,[.s 1],(.seq (Rg [vB 1 (.mov (.c .nil))])
 (.seq (Rg [mS 0,vA (.call 292 [(.c .nil),(.l 0)]),mK 1 1])
 .ret)),false,false,none,false,none⟩
def v275:VFunc :=
 ⟨3,7,[.s 3],(.seq (Rg [vB 4 (.hbx 56 (.s 0) 1),vB 5 (.hbx 9 (.s 1) 1),vB 6 (.hbx 3 (.s 2) 1),vB 3 (.mov (.c .nf))])
 (.seq (Rg [vA (.mkf (.func 293) [] [(.s 4),(.s 5),(.s 6)]),mK 0 3])
 .ret)),false,false,none,false,none⟩
def v276l0:VCode :=
 (.seq (Rg [vB 2 (.bin .lss (.s 4) (.s 5))])
 (.seq (.cond (.s 2) .skip
 (.exit 0))
 (.seq (.block 1 (.seq (.reg [vA (.iad (.s 6) (.s 4) 11),lT 0 11,vB 7 (.lal [(.s []),(.i .i64 0),(.i .i64 0),(.i .i64 0),(.b false),(.i .u8 0),(.b false),.nil,(.b false),.nil,(.i .i64 0)]),sT 7 1 11] none)
 (Rg [mS 3,fA 7 1,lO 1 1,fA 7 2,lO 3 1,vA (.bsv 1 2 [(.i .i64 0)] [(0,(.l 2)),(1,(.l 4))]),vA (.app (.l 0) (.l 5) 1 8 true),mK 6 3])))
 (Rg [vA (.bin .add (.s 4) (cI 1)),mK 0 4]))))
def v276:VFunc :=
 ⟨1,8,[.s 1],(.seq (Rg [vB 1 (.mov (.c .nil))])
 (.seq (Rg [vB 3 (.mov (.c .nil))])
 (.seq (.seq (Rg [mT 0 6,vB 5 (.len 1 (.s 6)),mI 0 4])
 (.block 0 (.loop v276l0)))
 (.seq (Rg [mS 3,c1 194 0])
 (.seq (Rg [mS 3,c1 296 0,mK 1 1])
 .ret))))),true,false,none,false,none⟩
def v277:VFunc :=
 ⟨2,5,[.s 2,.s 3],(.seq (Rg [bX 1 11 4,mI 0 2,mI 0 3])
 (.seq (.reg [mS 0,fA 4 1,lO 1 1,c2 297 0 2,mS 0,fA 4 2,lO 5 1,c2 297 4 6,mK 3 2,mK 7 3] (some false))
 .ret)),true,false,none,false,none⟩
def v278:VFunc :=
 ⟨1,3,[.bx 1 6 true],(.seq (Rg [bX 0 6 2,vB 1 (.lal z6)])
 (.seq (Rg [fA 2 1,vA (.lfa (.lo 0) 0),vA (.lfa (.lo 1) 1),lO 2 1,c1 70 3,fA 2 1,vA (.lfa (.lo 5) 0),vA (.lfa (.lo 6) 1),vA (.lst (.lo 7) (.l 4) 1)])
 (.seq (Rg [fA 2 1,vA (.lfa (.lo 0) 2),vA (.lfa (.lo 1) 1),lO 2 1,c1 70 3,fA 2 1,vA (.lfa (.lo 5) 2),vA (.lfa (.lo 6) 1),vA (.lst (.lo 7) (.l 4) 1)])
 (.seq (Rg [lS 2 6,sT 1 0 6])
 .ret)))),true,false,none,false,none⟩
def r4:Rnd :=
 ⟨292,[true,false,true,false],13,[0,1,4,6,7,2,5],[4],(.reg [vB 6 (.hal 54 [(.s []),(.i .i64 0),(.i .i64 0),(.i .i64 0),(.b false),(.i .u8 0),(.b false),.nil,(.b false),.nil,(.i .i64 0)]),vA (.st (.s 6) (.s 4) 11)] none),(.block 1 (.reg [sD 5 1,vA (.ld (.s 6) 11 true),vA (.bsv 11 1 [(.s []),(.i .i64 0),(.i .i64 0),(.i .i64 0),(.b false),(.i .u8 0),(.b false),.nil,(.b false),.nil,(.i .i64 0)] [(0,(.l 1))]),vA (.app (.l 0) (.l 2) 11 128 true),vA (.st (.s 5) (.l 3) 1)] none))⟩
def v292:VFunc :=
 ⟨2,7,[.s 2],(.seq (Rg [vB 5 (.hbx 56 (.s 0) 1),vB 2 (.mov (.c .nil))])
 (.seq (.seq (Rg [mT 1 3])
 (.block 0 (.rng 4 (.s 3))))
 (.seq (Rg [sD 5 1,mK 0 2])
 .ret))),false,false,none,false,some 292⟩
def v293l0:VCode :=
 (.seq (Rg [vB 4 (.bin .lss (.s 9) (.s 10))])
 (.seq (.cond (.s 4) .skip
 (.exit 0))
 (.seq (.block 1 (.seq (.reg [vA (.iad (.s 11) (.s 9) 11),lT 0 11,vB 12 (.lal [(.s []),(.i .i64 0),(.i .i64 0),(.i .i64 0),(.b false),(.i .u8 0),(.b false),.nil,(.b false),.nil,(.i .i64 0)]),sT 12 1 11] none)
 (.seq (Rg [fA 12 0,lO 0 1,sD 2 1,vA (.bin .eql (.l 1) (.l 2)),mL 3,vG 4 true (.lfa (.sl 12) 3),vG 4 true (.lld (.lo 5) 1 false),vG 4 true (.ld (.s 3) 1 false),vG 4 true (.bin .leq (.l 6) (.l 7)),vB 5 (.pick (.l 4) (.l 8) (.c (.b false)))])
 (.cond (.s 5) (.reg [mS 8,lS 12 11,vA (.bsv 11 1 [(.s []),(.i .i64 0),(.i .i64 0),(.i .i64 0),(.b false),(.i .u8 0),(.b false),.nil,(.b false),.nil,(.i .i64 0)] [(0,(.l 1))]),vA (.app (.l 0) (.l 2) 11 128 true),mK 3 8] none)
 .skip))))
 (Rg [vA (.bin .add (.s 9) (cI 1)),mK 0 9]))))
def v293l1:VCode :=
 (.seq (Rg [vB 6 (.bin .lss (.s 13) (.s 14))])
 (.seq (.cond (.s 6) .skip
 (.exit 2))
 (.seq (.block 3 (.seq (.reg [vA (.iad (.s 15) (.s 13) 11),lT 0 11,vB 16 (.lal [(.s []),(.i .i64 0),(.i .i64 0),(.i .i64 0),(.b false),(.i .u8 0),(.b false),.nil,(.b false),.nil,(.i .i64 0)]),sT 16 1 11] none)
 (.seq (Rg [mS 0,lS 16 11,vA (.calv (.l 0) [(.l 1)]),vB 7 (.un .not (.l 2))])
 (.cond (.s 7) .ret
 .skip))))
 (Rg [vA (.bin .add (.s 13) (cI 1)),mK 0 13]))))
def v293:VFunc :=
 ⟨4,17,[],(.seq (Rg [vB 8 (.mov (.c .nil))])
 (.seq (.seq (Rg [vB 11 (.ld (.s 1) 1 false),vB 10 (.len 1 (.s 11)),mI 0 9])
 (.block 0 (.loop v293l0)))
 (.seq (.reg [mS 8,vA (.call 294 [(.l 0),(.c (.fn (.func 295) [] []))])] none)
 (.seq (Rg [mT 8 15,vB 14 (.len 1 (.s 15)),mI 0 13])
 (.block 2 (.loop v293l1)))))),false,false,none,false,none⟩
def v294:VFunc :=
 ⟨2,2,[],(Rg [mS 0,mS 0,nL 1 1,mS 1,vA (.call 300 [(.l 0),(.l 2),(.l 3)])]),false,false,none,false,none⟩
def v295:VFunc :=
 ⟨2,5,[.s 2],(.seq (Rg [bX 0 11 3,bX 1 11 4,mI 0 2])
 (.seq (Rg [fA 3 3,lO 0 1,fA 4 3,lO 2 1,c2 162 1 3,mK 4 2])
 .ret)),true,false,none,false,none⟩
def v297:VFunc :=
 ⟨2,5,[.s 2],(.seq (Rg [vB 3 (.hbx 66 (.s 0) 1),vB 4 (.hbx 3 (.s 1) 1),mI 0 2])
 (.seq (Rg [sD 3 1,nL 1 0,vA (.mkf (.func 301) [] [(.s 3),(.s 4)]),c2 197 1 2,mK 3 2])
 .ret)),true,false,none,false,none⟩
def v300l0:VCode :=
 (.seq (.seq (Rg [mS 9,mS 1,vB 3 (.bin .leq (.l 0) (.l 1))])
 (.cond (.s 3) .skip
 (.exit 0)))
 (.block 1 (.seq (Rg [mS 0,mS 8,mS 9,mS 2,vA (.call 305 [(.l 0),(.l 1),(.l 2),(.l 3)])])
 (.seq (Rg [mS 9,mK 0 8])
 (Rg [mS 9,mS 7,vA (.bin .add (.l 0) (.l 1)),mK 2 9])))))
def v300l1:VCode :=
 (.seq (.seq (Rg [mS 9,mS 1,vB 5 (.bin .leq (.l 0) (.l 1))])
 (.cond (.s 5) .skip
 (.exit 4)))
 (.block 5 (.seq (Rg [mS 0,mS 8,mS 8,mS 7,vA (.bin .add (.l 2) (.l 3)),mS 9,mS 2,vA (.call 306 [(.l 0),(.l 1),(.l 4),(.l 5),(.l 6)])])
 (.seq (Rg [mS 9,mK 0 8])
 (Rg [mS 9,mS 7,vA (.bin .mul (cI 2) (.l 1)),vA (.bin .add (.l 0) (.l 2)),mK 3 9])))))
def v300l2:VCode :=
 (.seq (.seq (Rg [mS 7,mS 1,vB 4 (.bin .lss (.l 0) (.l 1))])
 (.cond (.s 4) .skip
 (.exit 2)))
 (.block 3 (.seq (Rg [mS 7,vA (.bin .mul (cI 2) (.l 0)),mI 0 8,mK 1 9])
 (.seq (.block 4 (.loop v300l1))
 (.seq (.seq (Rg [mS 8,mS 7,vA (.bin .add (.l 0) (.l 1)),mK 2 10])
 (.seq (Rg [mS 10,mS 1,vB 6 (.bin .lss (.l 0) (.l 1))])
 (.cond (.s 6) (Rg [mS 0,mS 8,mS 10,mS 1,mS 2,vA (.call 306 [(.l 0),(.l 1),(.l 2),(.l 3),(.l 4)])])
 .skip)))
 (Rg [mS 7,vA (.bin .mul (.l 0) (cI 2)),mK 1 7]))))))
def v300:VFunc :=
 ⟨3,11,[],(.seq (Rg [mI 20 7])
 (.seq (Rg [mS 7,mI 0 8,mK 0 9])
 (.seq (.block 0 (.loop v300l0))
 (.seq (Rg [mS 0,mS 8,mS 1,mS 2,vA (.call 305 [(.l 0),(.l 1),(.l 2),(.l 3)])])
 (.block 2 (.loop v300l2)))))),false,false,none,false,none⟩
def v301:VFunc :=
 ⟨3,4,[.s 3],(.seq (Rg [mB false 3])
 (.seq (.reg [sD 1 1,mS 0,iA 0 1 1,lD 2 1,sD 2 1,vA (.bin .geq (.l 3) (.l 4)),mK 5 3] (some false))
 .ret)),false,false,none,false,none⟩
def v305l0:VCode :=
 (.seq (.seq (.reg [mS 7,mS 1,vA (.bin .gtr (.l 0) (.l 1)),mL 2,vG 3 true (.mov (.s 3)),vG 3 true (.mov (.s 0)),vG 3 true (.mov (.s 7)),vG 3 true (.iad (.l 5) (.l 6) 11),vG 3 true (.ld (.l 7) 11 true),vG 3 true (.mov (.s 0)),vG 3 true (.mov (.s 7)),vG 3 true (.bin .sub (.l 10) (cI 1)),vG 3 true (.iad (.l 9) (.l 11) 11),vG 3 true (.ld (.l 12) 11 true),vG 3 true (.calv (.l 4) [(.l 8),(.l 13)]),vG 3 true (.bin .lss (.l 14) (cI 0)),vB 5 (.pick (.l 3) (.l 15) (.c (.b false)))] (some false))
 (.cond (.s 5) .skip
 (.exit 2)))
 (.seq (.block 3 (.reg [mS 0,mS 7,mS 0,mS 7,vA (.bin .sub (.l 3) (cI 1)),mS 0,mS 7,vA (.bin .sub (.l 6) (cI 1)),iA 5 7 11,lT 8 11,mS 0,mS 7,iA 10 11 11,lT 12 11,iA 0 1 11,vA (.st (.l 14) (.l 9) 11),iA 2 4 11,vA (.st (.l 16) (.l 13) 11)] (some false)))
 (Rg [mS 7,vA (.bin .sub (.l 0) (cI 1)),mK 1 7])))
def v305l1:VCode :=
 (.seq (.seq (Rg [mS 6,mS 2,vB 4 (.bin .lss (.l 0) (.l 1))])
 (.cond (.s 4) .skip
 (.exit 0)))
 (.seq (.block 1 (.seq (Rg [mS 6,mK 0 7])
 (.block 2 (.loop v305l0))))
 (Rg [mS 6,vA (.bin .add (.l 0) (cI 1)),mK 1 6])))
def v305:VFunc :=
 ⟨4,8,[],(.seq (Rg [mS 1,vA (.bin .add (.l 0) (cI 1)),mK 1 6])
 (.block 0 (.loop v305l1))),false,false,none,false,none⟩
def v337:VFunc :=
 ⟨4,6,[],(.seq (.reg [mS 1,mS 2,mS 3,vA (.agc [(.s []),(.i .i64 0),(.i .i64 0)] [(0,1,(.l 0)),(1,1,(.l 1)),(2,1,(.l 2))]),vB 5 (.lal [(.s []),(.i .i64 0),(.i .i64 0)]),sT 5 3 3] none)
 (.seq (.reg [mS 0,vA (.nck (.l 0)),fD 1 3,lD 2 1,lS 5 3,vA (.lk (.st [2,1,1]) (.l 3) (.l 4) false (.b false)),vB 4 (.un .not (.l 5))] (some false))
 (.cond (.s 4) (.seq (.reg [mS 0,vA (.nck (.l 0)),fD 1 3,lD 2 1,lS 5 3,vA (.mup (.st [2,1,1]) (.l 3) (.l 4) (.c (.b true)))] (some false))
 (.reg [mS 0,mS 0,vA (.nck (.l 1)),fD 2 5,fD 3 1,lD 4 1,lS 5 3,vA (.bsv 3 1 [(.s []),(.i .i64 0),(.i .i64 0)] [(0,(.l 6))]),vA (.app (.l 5) (.l 7) 3 32 true),vA (.nck (.l 0)),fD 9 5,fD 10 1,vA (.st (.l 11) (.l 8) 1)] (some false)))
 .skip))),false,false,none,false,none⟩
def fnsA:List (FuncId×VFunc) :=
 [(3,v3),(7,v7),(11,v11),(15,v15),(19,v19),(23,v23),(27,v27),(31,v31),(35,v35),(39,v39),(43,v43),(48,v48),(52,v52),(56,v56),(60,v60),(64,v64),(68,v68),(72,v72),(76,v76),(81,v81),(85,v85),(89,v89),(98,v98),(102,v102),(106,v106),(111,v111),(115,v115),(119,v119),(125,v125),(131,v131),(135,v135),(143,v143),(148,v148),(154,v154),(158,v158),(163,v163),(167,v167),(171,v171),(175,v175),(181,v181),(188,v188),(198,v198),(218,v218),(231,v231),(275,v275),(292,v292),(297,v297),(337,v337)]
def fnsB:List (FuncId×VFunc) :=
 [(4,v4),(8,v8),(12,v12),(16,v16),(20,v20),(24,v24),(28,v28),(32,v32),(36,v36),(40,v40),(45,v45),(49,v49),(53,v53),(57,v57),(61,v61),(65,v65),(69,v69),(73,v73),(78,v78),(82,v82),(86,v86),(90,v90),(99,v99),(103,v103),(107,v107),(112,v112),(116,v116),(120,v120),(128,v128),(132,v132),(136,v136),(144,v144),(149,v149),(155,v155),(159,v159),(164,v164),(168,v168),(172,v172),(178,v178),(182,v182),(193,v193),(210,v210),(222,v222),(236,v236),(276,v276),(293,v293),(300,v300)]
def fnsC:List (FuncId×VFunc) :=
 [(5,v5),(9,v9),(13,v13),(17,v17),(21,v21),(25,v25),(29,v29),(33,v33),(37,v37),(41,v41),(46,v46),(50,v50),(54,v54),(58,v58),(62,v62),(66,v66),(70,v70),(74,v74),(79,v79),(83,v83),(87,v87),(91,v91),(100,v100),(104,v104),(108,v108),(113,v113),(117,v117),(121,v121),(129,v129),(133,v133),(137,v137),(145,v145),(150,v150),(156,v156),(160,v160),(165,v165),(169,v169),(173,v173),(179,v179),(183,v183),(196,v196),(211,v211),(228,v228),(248,v248),(277,v277),(294,v294),(301,v301)]
def fnsD:List (FuncId×VFunc) :=
 [(6,v6),(10,v10),(14,v14),(18,v18),(22,v22),(26,v26),(30,v30),(34,v34),(38,v38),(42,v42),(47,v47),(51,v51),(55,v55),(59,v59),(63,v63),(67,v67),(71,v71),(75,v75),(80,v80),(84,v84),(88,v88),(93,v93),(101,v101),(105,v105),(110,v110),(114,v114),(118,v118),(122,v122),(130,v130),(134,v134),(142,v142),(146,v146),(153,v153),(157,v157),(162,v162),(166,v166),(170,v170),(174,v174),(180,v180),(184,v184),(197,v197),(217,v217),(229,v229),(274,v274),(278,v278),(295,v295),(305,v305)]
def fns:List (FuncId×VFunc):=fnsA++(fnsB++(fnsC++fnsD))
def rnds:List (Nat×Rnd) :=
 [(0,r0),(1,r1),(4,r4)]
def rndOf:List (Nat×Rnd) -> Nat -> Option Rnd
 | [],_=>none
 | (g,v)::r,f=>if g=f then some v else rndOf r f
def fnOf:List (FuncId×VFunc) -> FuncId -> Option VFunc
 | [],_=>none
 | (g,v)::r,f=>if g=f then some v else fnOf r f
def meths:TypeId -> String -> Option FuncId:=fun t m=>if t=183 /\ m="Pair" then some 121 else if t=183 /\ m="Fact" then some 337 else none
def kindsT:List (List UInt8):=[[],[],[],[52],[52],[],[50,32,50,50],[50,50,32,51,51,32,53,53,32,54,54,32,52,53,32,52,54],[50,50,32,51,51,32,53,53,32,54,54,32,52,52,32,52,53,32,52,54],[50,50,32,51,50,32,50,51],[50,50,32,51,51,32,51,50],[50,50,32,51,51,32,52,52,32,53,53,32,54,54],[50,50,32,51,51,32,52,52,32,53,53,32,54,54],[50,50,32,51,51,32,52,52,32,53,53,32,54,54],[49,49,32,50,50,32,51,51,32,52,52,32,53,53,32,54,54],[],[],[49],[],[50,50,32,51,51],[52,52],[52,52],[52,52,54],[52,52],[50],[50,32,51,32,53,32,54],[52]]
def lensT:List Int:=[31,28,31,30,31,30,31,31,30,31,30,31]
def globs:Nat -> Option (Nat×List (List D)):=fun g=>if g=2 then some (1,kindsT.map fun s=>[.s s])else if g=0 then some (1,lensT.map fun n=>[.i .i64 n])else none
def Vx (e:FuncId -> List D -> Heap -> Option (D×Heap)) (p:FuncId -> List D -> Option D):VProg:=⟨fnOf fns,meths,e,p,globs,rndOf rnds⟩
def V:VProg:=Vx (fun _ _ _=>none) (fun _ _=>none)
end Go.Proofs.YtgefdialaemelaaGreatDoor.Dv
