/-
  The facts on this translation's structs: printed by a program of ours (gen_types.py).
-/
import Derived.Test.YtofbiladpmcjgaaDoorTypes
import Derived.Test.YtofbiladpmcjgaaDoorVcLex
import Derived.Test.YtofbiladpmcjgaaDoorVcDraw2
namespace Go.Proofs.YtofbiladpmcjgaaDoor
open Go
set_option maxRecDepth 100000

theorem u8_5 : U8I Tryd.prog 5 := by unfold U8I; kernel_rfl
theorem u8_6 : U8I Tryd.prog 6 := by unfold U8I; kernel_rfl
theorem st7 : StructT Tryd.prog 7 [(0, 1), (1, 1), (2, 1), (3, 1)] [false, false, false, false] [.int .i64 0, .int .i64 0, .bool false, .int .u8 0] := .mk' (by kernel_rfl) ty7
theorem st8 : StructT Tryd.prog 8 [(0, 1), (1, 1), (2, 1), (3, 1)] [false, false, false, false] [.int .i64 0, .int .i64 0, .bool false, .int .u8 0] := .mk' (by kernel_rfl) ty8
theorem con8 : concreteB Tryd.prog 8 = true := by kernel_rfl
theorem st13 : StructT Tryd.prog 13 [(0, 1), (1, 1)] [false, false] [.string ⟨⟨[]⟩⟩, .int .u64 0] := .mk' (by kernel_rfl) ty13
theorem st14 : StructT Tryd.prog 14 [(0, 1), (1, 1)] [false, false] [.string ⟨⟨[]⟩⟩, .int .u64 0] := .mk' (by kernel_rfl) ty14
theorem con14 : concreteB Tryd.prog 14 = true := by kernel_rfl
theorem st18 : StructT Tryd.prog 18 [(0, 1)] [false] [.pointer none] := .mk' (by kernel_rfl) ty18
theorem st19 : StructT Tryd.prog 19 [(0, 1)] [false] [.pointer none] := .mk' (by kernel_rfl) ty19
theorem con19 : concreteB Tryd.prog 19 = true := by kernel_rfl
theorem ifc20 : Tryd.prog.underlying 20 = some (.interface (Tryd.prog.methodsAt 20)) := by kernel_rfl
theorem pl29 : plainB Tryd.prog 29 [(0, 2), (1, 3), (2, 2), (3, 2)] = true := by kernel_rfl
theorem st29 : StructT Tryd.prog 29 [(0, 1), (1, 1), (2, 1), (3, 1)] [false, false, false, false] [.int .i64 0, .string ⟨⟨[]⟩⟩, .int .i64 0, .int .i64 0] := .mk' (by kernel_rfl) ty29
theorem pl30 : plainB Tryd.prog 30 [(0, 2), (1, 3), (2, 2), (3, 2)] = true := by kernel_rfl
theorem st30 : StructT Tryd.prog 30 [(0, 1), (1, 1), (2, 1), (3, 1)] [false, false, false, false] [.int .i64 0, .string ⟨⟨[]⟩⟩, .int .i64 0, .int .i64 0] := .mk' (by kernel_rfl) ty30
theorem con30 : concreteB Tryd.prog 30 = true := by kernel_rfl
theorem pl35 : plainB Tryd.prog 35 [(0, 2), (1, 2)] = true := by kernel_rfl
theorem st35 : StructT Tryd.prog 35 [(0, 1), (1, 1)] [false, false] [.int .i64 0, .int .i64 0] := .mk' (by kernel_rfl) ty35
theorem pl36 : plainB Tryd.prog 36 [(0, 2), (1, 2)] = true := by kernel_rfl
theorem st36 : StructT Tryd.prog 36 [(0, 1), (1, 1)] [false, false] [.int .i64 0, .int .i64 0] := .mk' (by kernel_rfl) ty36
theorem con36 : concreteB Tryd.prog 36 = true := by kernel_rfl
theorem pl39 : plainB Tryd.prog 39 [(0, 3), (1, 2)] = true := by kernel_rfl
theorem st39 : StructT Tryd.prog 39 [(0, 1), (1, 1)] [false, false] [.string ⟨⟨[]⟩⟩, .int .i64 0] := .mk' (by kernel_rfl) ty39
theorem pl40 : plainB Tryd.prog 40 [(0, 3), (1, 2)] = true := by kernel_rfl
theorem st40 : StructT Tryd.prog 40 [(0, 1), (1, 1)] [false, false] [.string ⟨⟨[]⟩⟩, .int .i64 0] := .mk' (by kernel_rfl) ty40
theorem con40 : concreteB Tryd.prog 40 = true := by kernel_rfl
theorem arr42 : ArrT Tryd.prog 42 41 4 (.nilFunc) 8 := ⟨Tryd.underlying42, ty41⟩
theorem st43 : StructT Tryd.prog 43 [(0, 4)] [true] [.nilFunc, .nilFunc, .nilFunc, .nilFunc] := .mk' (by kernel_rfl) ty43
theorem st44 : StructT Tryd.prog 44 [(0, 4)] [true] [.nilFunc, .nilFunc, .nilFunc, .nilFunc] := .mk' (by kernel_rfl) ty44
theorem con44 : concreteB Tryd.prog 44 = true := by kernel_rfl
theorem ifc52 : Tryd.prog.underlying 52 = some (.interface (Tryd.prog.methodsAt 52)) := by kernel_rfl
theorem ifc53 : Tryd.prog.underlying 53 = some (.interface (Tryd.prog.methodsAt 53)) := by kernel_rfl
theorem st72 : StructT Tryd.prog 72 [(0, 1), (1, 1), (2, 1)] [false, false, false] [.string ⟨⟨[]⟩⟩, .string ⟨⟨[]⟩⟩, .nilIface] := .mk' (by kernel_rfl) ty72
theorem st73 : StructT Tryd.prog 73 [(0, 1), (1, 1), (2, 1)] [false, false, false] [.string ⟨⟨[]⟩⟩, .string ⟨⟨[]⟩⟩, .nilIface] := .mk' (by kernel_rfl) ty73
theorem con73 : concreteB Tryd.prog 73 = true := by kernel_rfl
theorem pl79 : plainB Tryd.prog 79 [(0, 3)] = true := by kernel_rfl
theorem st79 : StructT Tryd.prog 79 [(0, 1)] [false] [.string ⟨⟨[]⟩⟩] := .mk' (by kernel_rfl) ty79
theorem pl80 : plainB Tryd.prog 80 [(0, 3)] = true := by kernel_rfl
theorem st80 : StructT Tryd.prog 80 [(0, 1)] [false] [.string ⟨⟨[]⟩⟩] := .mk' (by kernel_rfl) ty80
theorem con80 : concreteB Tryd.prog 80 = true := by kernel_rfl
theorem arr82 : ArrT Tryd.prog 82 5 24 (.int .u8 0) 1 := ⟨Tryd.underlying82, ty5⟩
theorem arr89 : ArrT Tryd.prog 89 67 20 (.int .u64 0) 8 := ⟨Tryd.underlying89, ty67⟩
theorem arr91 : ArrT Tryd.prog 91 5 65 (.int .u8 0) 1 := ⟨Tryd.underlying91, ty5⟩
theorem arr95 : ArrT Tryd.prog 95 5 32 (.int .u8 0) 1 := ⟨Tryd.underlying95, ty5⟩
theorem arr96 : ArrT Tryd.prog 96 5 64 (.int .u8 0) 1 := ⟨Tryd.underlying96, ty5⟩
theorem st98 : StructT Tryd.prog 98 [(0, 1), (1, 1), (2, 1), (3, 1)] [false, false, false, false] [.pointer none, .pointer none, .pointer none, .string ⟨⟨[]⟩⟩] := .mk' (by kernel_rfl) ty98
theorem st99 : StructT Tryd.prog 99 [(0, 1), (1, 1), (2, 1), (3, 1)] [false, false, false, false] [.pointer none, .pointer none, .pointer none, .string ⟨⟨[]⟩⟩] := .mk' (by kernel_rfl) ty99
theorem con99 : concreteB Tryd.prog 99 = true := by kernel_rfl
theorem arr100 : ArrT Tryd.prog 100 16 0 (.pointer none) 8 := ⟨Tryd.underlying100, ty16⟩
theorem st101 : StructT Tryd.prog 101 [(0, 0)] [true] [] := .mk' (by kernel_rfl) ty101
theorem st102 : StructT Tryd.prog 102 [(0, 0)] [true] [] := .mk' (by kernel_rfl) ty102
theorem con102 : concreteB Tryd.prog 102 = true := by kernel_rfl
theorem u8_104 : U8I Tryd.prog 104 := by unfold U8I; kernel_rfl
theorem u8_105 : U8I Tryd.prog 105 := by unfold U8I; kernel_rfl
theorem st109 : StructT Tryd.prog 109 [(0, 1), (1, 1), (2, 1), (3, 1), (4, 1), (5, 1), (6, 1), (7, 1), (8, 1), (9, 1), (10, 1)] [false, false, false, false, false, false, false, false, false, false, false] [.int .u64 0, .int .u64 0, .int .u32 0, .int .u8 0, .int .u8 0, .int .u8 0, .int .u8 0, .nilFunc, .pointer none, .int .i32 0, .int .i32 0] := .mk' (by kernel_rfl) ty109
theorem st110 : StructT Tryd.prog 110 [(0, 1), (1, 1), (2, 1), (3, 1), (4, 1), (5, 1), (6, 1), (7, 1), (8, 1), (9, 1), (10, 1)] [false, false, false, false, false, false, false, false, false, false, false] [.int .u64 0, .int .u64 0, .int .u32 0, .int .u8 0, .int .u8 0, .int .u8 0, .int .u8 0, .nilFunc, .pointer none, .int .i32 0, .int .i32 0] := .mk' (by kernel_rfl) ty110
theorem con110 : concreteB Tryd.prog 110 = true := by kernel_rfl

end Go.Proofs.YtofbiladpmcjgaaDoor
