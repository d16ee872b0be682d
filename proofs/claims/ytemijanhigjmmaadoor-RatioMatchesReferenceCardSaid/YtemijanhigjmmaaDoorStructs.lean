/-
  The facts on this translation's structs: printed by a program of ours (gen_types.py).
-/
import Derived.Test.YtemijanhigjmmaaDoorTypes
import Derived.Test.YtemijanhigjmmaaDoorVcIface
namespace Go.Proofs.YtemijanhigjmmaaDoor
open Go
set_option maxRecDepth 100000

theorem u8_5 : U8I Tryd.prog 5 := by unfold U8I; kernel_rfl
theorem u8_6 : U8I Tryd.prog 6 := by unfold U8I; kernel_rfl
theorem st7 : StructT Tryd.prog 7 [(0, 1), (1, 1), (2, 1), (3, 1)] [false, false, false, false] [.int .i64 0, .int .i64 0, .bool false, .int .u8 0] := .mk' (by kernel_rfl) ty7
theorem st8 : StructT Tryd.prog 8 [(0, 1), (1, 1), (2, 1), (3, 1)] [false, false, false, false] [.int .i64 0, .int .i64 0, .bool false, .int .u8 0] := .mk' (by kernel_rfl) ty8
theorem st13 : StructT Tryd.prog 13 [(0, 1), (1, 1)] [false, false] [.string ⟨⟨[]⟩⟩, .int .u64 0] := .mk' (by kernel_rfl) ty13
theorem st14 : StructT Tryd.prog 14 [(0, 1), (1, 1)] [false, false] [.string ⟨⟨[]⟩⟩, .int .u64 0] := .mk' (by kernel_rfl) ty14
theorem st18 : StructT Tryd.prog 18 [(0, 1)] [false] [.pointer none] := .mk' (by kernel_rfl) ty18
theorem st19 : StructT Tryd.prog 19 [(0, 1)] [false] [.pointer none] := .mk' (by kernel_rfl) ty19
theorem ifc20 : Tryd.prog.underlying 20 = some (.interface (Tryd.prog.methodsAt 20)) := by kernel_rfl
theorem pl23 : plainB Tryd.prog 23 [(0, 2), (1, 2)] = true := by kernel_rfl
theorem st23 : StructT Tryd.prog 23 [(0, 1), (1, 1)] [false, false] [.int .i64 0, .int .i64 0] := .mk' (by kernel_rfl) ty23
theorem pl24 : plainB Tryd.prog 24 [(0, 2), (1, 2)] = true := by kernel_rfl
theorem st24 : StructT Tryd.prog 24 [(0, 1), (1, 1)] [false, false] [.int .i64 0, .int .i64 0] := .mk' (by kernel_rfl) ty24
theorem pl40 : plainB Tryd.prog 40 [(0, 2), (1, 2), (2, 3)] = true := by kernel_rfl
theorem st40 : StructT Tryd.prog 40 [(0, 1), (1, 1), (2, 1)] [false, false, false] [.int .i64 0, .int .i64 0, .string ⟨⟨[]⟩⟩] := .mk' (by kernel_rfl) ty40
theorem pl41 : plainB Tryd.prog 41 [(0, 2), (1, 2), (2, 3)] = true := by kernel_rfl
theorem st41 : StructT Tryd.prog 41 [(0, 1), (1, 1), (2, 1)] [false, false, false] [.int .i64 0, .int .i64 0, .string ⟨⟨[]⟩⟩] := .mk' (by kernel_rfl) ty41
theorem ifc52 : Tryd.prog.underlying 52 = some (.interface (Tryd.prog.methodsAt 52)) := by kernel_rfl
theorem ifc53 : Tryd.prog.underlying 53 = some (.interface (Tryd.prog.methodsAt 53)) := by kernel_rfl
theorem st82 : StructT Tryd.prog 82 [(0, 1), (1, 1), (2, 1)] [false, false, false] [.string ⟨⟨[]⟩⟩, .string ⟨⟨[]⟩⟩, .nilIface] := .mk' (by kernel_rfl) ty82
theorem st83 : StructT Tryd.prog 83 [(0, 1), (1, 1), (2, 1)] [false, false, false] [.string ⟨⟨[]⟩⟩, .string ⟨⟨[]⟩⟩, .nilIface] := .mk' (by kernel_rfl) ty83
theorem pl95 : plainB Tryd.prog 95 [(0, 3)] = true := by kernel_rfl
theorem st95 : StructT Tryd.prog 95 [(0, 1)] [false] [.string ⟨⟨[]⟩⟩] := .mk' (by kernel_rfl) ty95
theorem pl96 : plainB Tryd.prog 96 [(0, 3)] = true := by kernel_rfl
theorem st96 : StructT Tryd.prog 96 [(0, 1)] [false] [.string ⟨⟨[]⟩⟩] := .mk' (by kernel_rfl) ty96
theorem st101 : StructT Tryd.prog 101 [(0, 1), (1, 1), (2, 1), (3, 1)] [false, false, false, false] [.pointer none, .pointer none, .pointer none, .string ⟨⟨[]⟩⟩] := .mk' (by kernel_rfl) ty101
theorem st102 : StructT Tryd.prog 102 [(0, 1), (1, 1), (2, 1), (3, 1)] [false, false, false, false] [.pointer none, .pointer none, .pointer none, .string ⟨⟨[]⟩⟩] := .mk' (by kernel_rfl) ty102
theorem st104 : StructT Tryd.prog 104 [(0, 0)] [true] [] := .mk' (by kernel_rfl) ty104
theorem st105 : StructT Tryd.prog 105 [(0, 0)] [true] [] := .mk' (by kernel_rfl) ty105
theorem u8_107 : U8I Tryd.prog 107 := by unfold U8I; kernel_rfl
theorem u8_108 : U8I Tryd.prog 108 := by unfold U8I; kernel_rfl
theorem st112 : StructT Tryd.prog 112 [(0, 1), (1, 1), (2, 1), (3, 1), (4, 1), (5, 1), (6, 1), (7, 1), (8, 1), (9, 1), (10, 1)] [false, false, false, false, false, false, false, false, false, false, false] [.int .u64 0, .int .u64 0, .int .u32 0, .int .u8 0, .int .u8 0, .int .u8 0, .int .u8 0, .nilFunc, .pointer none, .int .i32 0, .int .i32 0] := .mk' (by kernel_rfl) ty112
theorem st113 : StructT Tryd.prog 113 [(0, 1), (1, 1), (2, 1), (3, 1), (4, 1), (5, 1), (6, 1), (7, 1), (8, 1), (9, 1), (10, 1)] [false, false, false, false, false, false, false, false, false, false, false] [.int .u64 0, .int .u64 0, .int .u32 0, .int .u8 0, .int .u8 0, .int .u8 0, .int .u8 0, .nilFunc, .pointer none, .int .i32 0, .int .i32 0] := .mk' (by kernel_rfl) ty113

end Go.Proofs.YtemijanhigjmmaaDoor
