/-
  The chapter's examples,by runs.
-/
import Derived.Test.YtgefdialaemelaaGreatDoorA
import Derived.Test.YtgefdialaemelaaGreatDoorDh
namespace Go.Proofs.YtgefdialaemelaaGreatDoor.Dv
open Go.Dm
def rcP:D:=(.ag [(.s []),(.im 3 [[(.s [112,101,110,115,105,111,110]),(.i .u8 3),(.b false)]]),.nil,(.im 24 [[(.s [112,101,110,115,105,111,110]),(.s []),(.i .i64 0),(.i .i64 65536),(.i .i64 0),(.b false),(.i .u8 1),(.s []),(.i .u8 1),(.b false),.nil,(.b false),.nil,(.i .i64 1),.nil,(.i .u8 9),(.s []),(.i .u8 0),(.b false),.nil,(.b false),.nil,(.i .i64 0),(.im 9 [[(.i .u8 3),(.s [112,97,121]),(.i .u8 0),(.b false),.nil,(.b false),.nil,(.i .i64 0),(.im 9 [[(.i .u8 2),(.s []),(.i .u8 0),(.b false),.nil,(.b false),.nil,(.i .i64 0),.nil]])],[(.i .u8 1),(.s []),(.i .u8 2),(.b false),(.im 1 [[(.i .u16 1)]]),(.b false),(.im 1 [[(.i .u16 2)]]),(.i .i64 0),.nil]])]])])
def rcF0:D:=(.im 11 [[(.s [112,97,121]),(.i .i64 0),(.i .i64 365),(.i .i64 0),(.b false),(.i .u8 3),(.b false),(.im 1 [[(.i .u16 1001)]]),(.b false),(.im 1 [[(.i .u16 1)]]),(.i .i64 0)]])
def rcF1:D:=(.im 11 [[(.s [112,97,121]),(.i .i64 0),(.i .i64 365),(.i .i64 0),(.b false),(.i .u8 3),(.b false),(.im 1 [[(.i .u16 1001)]]),(.b false),(.im 1 [[(.i .u16 1)]]),(.i .i64 0)],[(.s [112,97,121]),(.i .i64 31),(.i .i64 59),(.i .i64 9),(.b false),(.i .u8 3),(.b false),(.im 1 [[(.i .u16 600)]]),(.b false),(.im 1 [[(.i .u16 1)]]),(.i .i64 0)]])
def rcN:D:=(.s [112,101,110,115,105,111,110])
def rcR0:D:=(.tu [(.ag [(.i .u8 3),(.b false),(.im 1 [[(.i .u16 1001)]]),(.b false),(.im 1 [[(.i .u16 2)]]),(.i .i64 0)]),(.ag [(.im 2 [[(.s [112,101,110,115,105,111,110]),(.i .i64 0)]]),(.im 3 [[(.s [112,97,121]),(.i .i64 0),(.i .i64 1)]]),.nil]),(.i .i64 0)])
def rcR1:D:=(.tu [(.ag [(.i .u8 3),(.b false),(.im 1 [[(.i .u16 1001)]]),(.b false),(.im 1 [[(.i .u16 2)]]),(.i .i64 0)]),(.ag [(.im 2 [[(.s [112,101,110,115,105,111,110]),(.i .i64 31)]]),(.im 3 [[(.s [112,97,121]),(.i .i64 31),(.i .i64 32)]]),.nil]),(.i .i64 0)])
def rcR2:D:=(.tu [(.ag [(.i .u8 3),(.b false),(.im 1 [[(.i .u16 1001)]]),(.b false),(.im 1 [[(.i .u16 2)]]),(.i .i64 0)]),(.ag [(.im 2 [[(.s [112,101,110,115,105,111,110]),(.i .i64 59)]]),(.im 3 [[(.s [112,97,121]),(.i .i64 59),(.i .i64 60)]]),.nil]),(.i .i64 0)])
def rcR3:D:=(.tu [(.ag [(.i .u8 3),(.b false),(.im 1 [[(.i .u16 1001)]]),(.b false),(.im 1 [[(.i .u16 2)]]),(.i .i64 0)]),(.ag [(.im 2 [[(.s [112,101,110,115,105,111,110]),(.i .i64 90)]]),(.im 3 [[(.s [112,97,121]),(.i .i64 90),(.i .i64 91)]]),.nil]),(.i .i64 0)])
def rcR4:D:=(.tu [(.ag [(.i .u8 3),(.b false),(.im 1 [[(.i .u16 1001)]]),(.b false),(.im 1 [[(.i .u16 2)]]),(.i .i64 0)]),(.ag [(.im 2 [[(.s [112,101,110,115,105,111,110]),(.i .i64 120)]]),(.im 3 [[(.s [112,97,121]),(.i .i64 120),(.i .i64 121)]]),.nil]),(.i .i64 0)])
def rcR5:D:=(.tu [(.ag [(.i .u8 3),(.b false),(.im 1 [[(.i .u16 1001)]]),(.b false),(.im 1 [[(.i .u16 2)]]),(.i .i64 0)]),(.ag [(.im 2 [[(.s [112,101,110,115,105,111,110]),(.i .i64 151)]]),(.im 3 [[(.s [112,97,121]),(.i .i64 151),(.i .i64 152)]]),.nil]),(.i .i64 0)])
def rcR6:D:=(.tu [(.ag [(.i .u8 3),(.b false),(.im 1 [[(.i .u16 1001)]]),(.b false),(.im 1 [[(.i .u16 2)]]),(.i .i64 0)]),(.ag [(.im 2 [[(.s [112,101,110,115,105,111,110]),(.i .i64 181)]]),(.im 3 [[(.s [112,97,121]),(.i .i64 181),(.i .i64 182)]]),.nil]),(.i .i64 0)])
def rcR7:D:=(.tu [(.ag [(.i .u8 3),(.b false),(.im 1 [[(.i .u16 1001)]]),(.b false),(.im 1 [[(.i .u16 2)]]),(.i .i64 0)]),(.ag [(.im 2 [[(.s [112,101,110,115,105,111,110]),(.i .i64 212)]]),(.im 3 [[(.s [112,97,121]),(.i .i64 212),(.i .i64 213)]]),.nil]),(.i .i64 0)])
def rcR8:D:=(.tu [(.ag [(.i .u8 3),(.b false),(.im 1 [[(.i .u16 1001)]]),(.b false),(.im 1 [[(.i .u16 2)]]),(.i .i64 0)]),(.ag [(.im 2 [[(.s [112,101,110,115,105,111,110]),(.i .i64 243)]]),(.im 3 [[(.s [112,97,121]),(.i .i64 243),(.i .i64 244)]]),.nil]),(.i .i64 0)])
def rcR9:D:=(.tu [(.ag [(.i .u8 3),(.b false),(.im 1 [[(.i .u16 1001)]]),(.b false),(.im 1 [[(.i .u16 2)]]),(.i .i64 0)]),(.ag [(.im 2 [[(.s [112,101,110,115,105,111,110]),(.i .i64 273)]]),(.im 3 [[(.s [112,97,121]),(.i .i64 273),(.i .i64 274)]]),.nil]),(.i .i64 0)])
def rcR10:D:=(.tu [(.ag [(.i .u8 3),(.b false),(.im 1 [[(.i .u16 1001)]]),(.b false),(.im 1 [[(.i .u16 2)]]),(.i .i64 0)]),(.ag [(.im 2 [[(.s [112,101,110,115,105,111,110]),(.i .i64 304)]]),(.im 3 [[(.s [112,97,121]),(.i .i64 304),(.i .i64 305)]]),.nil]),(.i .i64 0)])
def rcR11:D:=(.tu [(.ag [(.i .u8 3),(.b false),(.im 1 [[(.i .u16 1001)]]),(.b false),(.im 1 [[(.i .u16 2)]]),(.i .i64 0)]),(.ag [(.im 2 [[(.s [112,101,110,115,105,111,110]),(.i .i64 334)]]),(.im 3 [[(.s [112,97,121]),(.i .i64 334),(.i .i64 335)]]),.nil]),(.i .i64 0)])
def rcR12:D:=(.tu [(.ag [(.i .u8 0),(.b false),.nil,(.b false),.nil,(.i .i64 0)]),(.ag [(.im 2 [[(.s [112,101,110,115,105,111,110]),(.i .i64 365)]]),(.im 3 [[(.s [112,97,121]),(.i .i64 365),(.i .i64 366)]]),.nil]),(.i .i64 182)])
def rcR13:D:=(.tu [(.ag [(.i .u8 3),(.b false),(.im 1 [[(.i .u16 300)]]),(.b false),(.im 1 [[(.i .u16 1)]]),(.i .i64 0)]),(.ag [(.im 2 [[(.s [112,101,110,115,105,111,110]),(.i .i64 31)]]),(.im 3 [[(.s [112,97,121]),(.i .i64 31),(.i .i64 32)]]),.nil]),(.i .i64 0)])
open Go.Dm
set_option maxRecDepth 1000000 in
theorem rc_r0:pcall VS 50 88 [rcP,rcF0,rcN,.i .i64 0,.i .i64 0] = .ret rcR0:=pcall_k (by kernel_rfl)
set_option maxRecDepth 1000000 in
theorem rc_r1:pcall VS 50 88 [rcP,rcF0,rcN,.i .i64 31,.i .i64 0] = .ret rcR1:=pcall_k (by kernel_rfl)
set_option maxRecDepth 1000000 in
theorem rc_r2:pcall VS 50 88 [rcP,rcF0,rcN,.i .i64 59,.i .i64 0] = .ret rcR2:=pcall_k (by kernel_rfl)
set_option maxRecDepth 1000000 in
theorem rc_r3:pcall VS 50 88 [rcP,rcF0,rcN,.i .i64 90,.i .i64 0] = .ret rcR3:=pcall_k (by kernel_rfl)
open Go.Dm
set_option maxRecDepth 1000000 in
theorem rc_r4:pcall VS 50 88 [rcP,rcF0,rcN,.i .i64 120,.i .i64 0] = .ret rcR4:=pcall_k (by kernel_rfl)
set_option maxRecDepth 1000000 in
theorem rc_r5:pcall VS 50 88 [rcP,rcF0,rcN,.i .i64 151,.i .i64 0] = .ret rcR5:=pcall_k (by kernel_rfl)
set_option maxRecDepth 1000000 in
theorem rc_r6:pcall VS 50 88 [rcP,rcF0,rcN,.i .i64 181,.i .i64 0] = .ret rcR6:=pcall_k (by kernel_rfl)
set_option maxRecDepth 1000000 in
theorem rc_r7:pcall VS 50 88 [rcP,rcF0,rcN,.i .i64 212,.i .i64 0] = .ret rcR7:=pcall_k (by kernel_rfl)
end Go.Proofs.YtgefdialaemelaaGreatDoor.Dv
