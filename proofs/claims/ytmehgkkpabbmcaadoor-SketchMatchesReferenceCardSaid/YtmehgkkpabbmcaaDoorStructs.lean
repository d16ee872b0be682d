/-
  The facts on this translation's structs: printed by a program of ours (gen_types.py).
-/
import Derived.Test.YtmehgkkpabbmcaaDoorTypes
import Derived.Test.YtmehgkkpabbmcaaDoorVcMem3
namespace Go.Proofs.YtmehgkkpabbmcaaDoor
open Go
set_option maxRecDepth 100000

theorem st7 : StructT Tryd.prog 7 [(0, 1), (1, 1), (2, 1), (3, 1)] [false, false, false, false] [.int .i64 0, .int .i64 0, .bool false, .int .u8 0] := .mk' (by kernel_rfl) ty7
theorem st8 : StructT Tryd.prog 8 [(0, 1), (1, 1), (2, 1), (3, 1)] [false, false, false, false] [.int .i64 0, .int .i64 0, .bool false, .int .u8 0] := .mk' (by kernel_rfl) ty8
theorem st13 : StructT Tryd.prog 13 [(0, 1), (1, 1)] [false, false] [.string ⟨⟨[]⟩⟩, .int .u64 0] := .mk' (by kernel_rfl) ty13
theorem st14 : StructT Tryd.prog 14 [(0, 1), (1, 1)] [false, false] [.string ⟨⟨[]⟩⟩, .int .u64 0] := .mk' (by kernel_rfl) ty14
theorem st18 : StructT Tryd.prog 18 [(0, 1)] [false] [.pointer none] := .mk' (by kernel_rfl) ty18
theorem st19 : StructT Tryd.prog 19 [(0, 1)] [false] [.pointer none] := .mk' (by kernel_rfl) ty19
theorem pl30 : plainB Tryd.prog 30 [(0, 2), (1, 2)] = true := by kernel_rfl
theorem st30 : StructT Tryd.prog 30 [(0, 1), (1, 1)] [false, false] [.int .i64 0, .int .i64 0] := .mk' (by kernel_rfl) ty30
theorem pl31 : plainB Tryd.prog 31 [(0, 2), (1, 2)] = true := by kernel_rfl
theorem st31 : StructT Tryd.prog 31 [(0, 1), (1, 1)] [false, false] [.int .i64 0, .int .i64 0] := .mk' (by kernel_rfl) ty31
theorem st60 : StructT Tryd.prog 60 [(0, 1), (1, 1)] [false, false] [.pointer none, .slice none 0 0] := .mk' (by kernel_rfl) ty60
theorem st61 : StructT Tryd.prog 61 [(0, 1), (1, 1)] [false, false] [.pointer none, .slice none 0 0] := .mk' (by kernel_rfl) ty61
theorem st91 : StructT Tryd.prog 91 [(0, 1), (1, 1), (2, 1), (3, 1)] [false, false, false, false] [.pointer none, .pointer none, .pointer none, .string ⟨⟨[]⟩⟩] := .mk' (by kernel_rfl) ty91
theorem st92 : StructT Tryd.prog 92 [(0, 1), (1, 1), (2, 1), (3, 1)] [false, false, false, false] [.pointer none, .pointer none, .pointer none, .string ⟨⟨[]⟩⟩] := .mk' (by kernel_rfl) ty92
theorem st94 : StructT Tryd.prog 94 [(0, 0)] [true] [] := .mk' (by kernel_rfl) ty94
theorem st95 : StructT Tryd.prog 95 [(0, 0)] [true] [] := .mk' (by kernel_rfl) ty95
theorem st102 : StructT Tryd.prog 102 [(0, 1), (1, 1), (2, 1), (3, 1), (4, 1), (5, 1), (6, 1), (7, 1), (8, 1), (9, 1), (10, 1)] [false, false, false, false, false, false, false, false, false, false, false] [.int .u64 0, .int .u64 0, .int .u32 0, .int .u8 0, .int .u8 0, .int .u8 0, .int .u8 0, .nilFunc, .pointer none, .int .i32 0, .int .i32 0] := .mk' (by kernel_rfl) ty102
theorem st103 : StructT Tryd.prog 103 [(0, 1), (1, 1), (2, 1), (3, 1), (4, 1), (5, 1), (6, 1), (7, 1), (8, 1), (9, 1), (10, 1)] [false, false, false, false, false, false, false, false, false, false, false] [.int .u64 0, .int .u64 0, .int .u32 0, .int .u8 0, .int .u8 0, .int .u8 0, .int .u8 0, .nilFunc, .pointer none, .int .i32 0, .int .i32 0] := .mk' (by kernel_rfl) ty103

end Go.Proofs.YtmehgkkpabbmcaaDoor
