/-
  The facts on this translation's structs: printed by a program of ours (gen_types.py).
-/
import Derived.Test.YtihnelncimkegaaDoorTypes
import Derived.Test.YtihnelncimkegaaDoorVcMem4
namespace Go.Proofs.YtihnelncimkegaaDoor
open Go
set_option maxRecDepth 100000

theorem u8_5 : U8I Tryd.prog 5 := by unfold U8I; kernel_rfl
theorem u8_6 : U8I Tryd.prog 6 := by unfold U8I; kernel_rfl
theorem st7 : StructT Tryd.prog 7 [(0, 1), (1, 1), (2, 1), (3, 1)] [false, false, false, false] [.int .i64 0, .int .i64 0, .bool false, .int .u8 0] := .mk' (by kernel_rfl) ty7
theorem st8 : StructT Tryd.prog 8 [(0, 1), (1, 1), (2, 1), (3, 1)] [false, false, false, false] [.int .i64 0, .int .i64 0, .bool false, .int .u8 0] := .mk' (by kernel_rfl) ty8
theorem st13 : StructT Tryd.prog 13 [(0, 1), (1, 1)] [false, false] [.string ⟨⟨[]⟩⟩, .int .u64 0] := .mk' (by kernel_rfl) ty13
theorem st14 : StructT Tryd.prog 14 [(0, 1), (1, 1)] [false, false] [.string ⟨⟨[]⟩⟩, .int .u64 0] := .mk' (by kernel_rfl) ty14
theorem st18 : StructT Tryd.prog 18 [(0, 1)] [false] [.pointer none] := .mk' (by kernel_rfl) ty18
theorem st19 : StructT Tryd.prog 19 [(0, 1)] [false] [.pointer none] := .mk' (by kernel_rfl) ty19
theorem pl41 : plainB Tryd.prog 41 [(0, 2), (1, 2)] = true := by kernel_rfl
theorem st41 : StructT Tryd.prog 41 [(0, 1), (1, 1)] [false, false] [.int .i64 0, .int .i64 0] := .mk' (by kernel_rfl) ty41
theorem pl42 : plainB Tryd.prog 42 [(0, 2), (1, 2)] = true := by kernel_rfl
theorem st42 : StructT Tryd.prog 42 [(0, 1), (1, 1)] [false, false] [.int .i64 0, .int .i64 0] := .mk' (by kernel_rfl) ty42
theorem st55 : StructT Tryd.prog 55 [(0, 1), (1, 1)] [false, false] [.pointer none, .slice none 0 0] := .mk' (by kernel_rfl) ty55
theorem st56 : StructT Tryd.prog 56 [(0, 1), (1, 1)] [false, false] [.pointer none, .slice none 0 0] := .mk' (by kernel_rfl) ty56
theorem st89 : StructT Tryd.prog 89 [(0, 1), (1, 1), (2, 1), (3, 1)] [false, false, false, false] [.pointer none, .pointer none, .pointer none, .string ⟨⟨[]⟩⟩] := .mk' (by kernel_rfl) ty89
theorem st90 : StructT Tryd.prog 90 [(0, 1), (1, 1), (2, 1), (3, 1)] [false, false, false, false] [.pointer none, .pointer none, .pointer none, .string ⟨⟨[]⟩⟩] := .mk' (by kernel_rfl) ty90
theorem st92 : StructT Tryd.prog 92 [(0, 0)] [true] [] := .mk' (by kernel_rfl) ty92
theorem st93 : StructT Tryd.prog 93 [(0, 0)] [true] [] := .mk' (by kernel_rfl) ty93
theorem u8_95 : U8I Tryd.prog 95 := by unfold U8I; kernel_rfl
theorem u8_96 : U8I Tryd.prog 96 := by unfold U8I; kernel_rfl
theorem st100 : StructT Tryd.prog 100 [(0, 1), (1, 1), (2, 1), (3, 1), (4, 1), (5, 1), (6, 1), (7, 1), (8, 1), (9, 1), (10, 1)] [false, false, false, false, false, false, false, false, false, false, false] [.int .u64 0, .int .u64 0, .int .u32 0, .int .u8 0, .int .u8 0, .int .u8 0, .int .u8 0, .nilFunc, .pointer none, .int .i32 0, .int .i32 0] := .mk' (by kernel_rfl) ty100
theorem st101 : StructT Tryd.prog 101 [(0, 1), (1, 1), (2, 1), (3, 1), (4, 1), (5, 1), (6, 1), (7, 1), (8, 1), (9, 1), (10, 1)] [false, false, false, false, false, false, false, false, false, false, false] [.int .u64 0, .int .u64 0, .int .u32 0, .int .u8 0, .int .u8 0, .int .u8 0, .int .u8 0, .nilFunc, .pointer none, .int .i32 0, .int .i32 0] := .mk' (by kernel_rfl) ty101

end Go.Proofs.YtihnelncimkegaaDoor
