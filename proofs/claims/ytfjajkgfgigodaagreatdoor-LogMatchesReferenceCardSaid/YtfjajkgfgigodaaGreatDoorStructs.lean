/-
  The facts on this translation's structs: printed by a program of ours (gen_types.py).
-/
import Derived.Test.YtfjajkgfgigodaaGreatDoorTypes
import Derived.Test.YtfjajkgfgigodaaGreatDoorVcLex
import Derived.Test.YtfjajkgfgigodaaGreatDoorVcArr
import Derived.Test.YtfjajkgfgigodaaGreatDoorVcTree
import Derived.Test.YtfjajkgfgigodaaGreatDoorVcPtr
namespace Go.Proofs.YtfjajkgfgigodaaGreatDoor
open Go
set_option maxRecDepth 100000

theorem u8_5 : U8I Tryz.prog 5 := by unfold U8I; kernel_rfl
theorem u8_6 : U8I Tryz.prog 6 := by unfold U8I; kernel_rfl
theorem st7 : StructT Tryz.prog 7 [(0, 1), (1, 1), (2, 1), (3, 1)] [false, false, false, false] [.int .i64 0, .int .i64 0, .bool false, .int .u8 0] := .mk' (by kernel_rfl) ty7
theorem st8 : StructT Tryz.prog 8 [(0, 1), (1, 1), (2, 1), (3, 1)] [false, false, false, false] [.int .i64 0, .int .i64 0, .bool false, .int .u8 0] := .mk' (by kernel_rfl) ty8
theorem con8 : concreteB Tryz.prog 8 = true := by kernel_rfl
theorem st13 : StructT Tryz.prog 13 [(0, 1), (1, 1)] [false, false] [.string ⟨⟨[]⟩⟩, .int .u64 0] := .mk' (by kernel_rfl) ty13
theorem st14 : StructT Tryz.prog 14 [(0, 1), (1, 1)] [false, false] [.string ⟨⟨[]⟩⟩, .int .u64 0] := .mk' (by kernel_rfl) ty14
theorem con14 : concreteB Tryz.prog 14 = true := by kernel_rfl
theorem st18 : StructT Tryz.prog 18 [(0, 1)] [false] [.pointer none] := .mk' (by kernel_rfl) ty18
theorem st19 : StructT Tryz.prog 19 [(0, 1)] [false] [.pointer none] := .mk' (by kernel_rfl) ty19
theorem con19 : concreteB Tryz.prog 19 = true := by kernel_rfl
theorem ifc20 : Tryz.prog.underlying 20 = some (.interface (Tryz.prog.methodsAt 20)) := by kernel_rfl
theorem st42 : StructT Tryz.prog 42 [(0, 1), (1, 1), (2, 1), (3, 1), (4, 1), (5, 1)] [false, false, false, false, false, false] [.int .u8 0, .string ⟨⟨[]⟩⟩, .slice none 0 0, .int .i64 0, .int .i64 0, .int .i64 0] := .mk' (by kernel_rfl) ty42
theorem st43 : StructT Tryz.prog 43 [(0, 1), (1, 1), (2, 1), (3, 1), (4, 1), (5, 1)] [false, false, false, false, false, false] [.int .u8 0, .string ⟨⟨[]⟩⟩, .slice none 0 0, .int .i64 0, .int .i64 0, .int .i64 0] := .mk' (by kernel_rfl) ty43
theorem con43 : concreteB Tryz.prog 43 = true := by kernel_rfl
theorem st62 : StructT Tryz.prog 62 [(0, 1), (1, 1), (2, 1), (3, 1), (4, 1)] [false, false, false, false, false] [.slice none 0 0, .slice none 0 0, .slice none 0 0, .bool false, .pointer none] := .mk' (by kernel_rfl) ty62
theorem st63 : StructT Tryz.prog 63 [(0, 1), (1, 1), (2, 1), (3, 1), (4, 1)] [false, false, false, false, false] [.slice none 0 0, .slice none 0 0, .slice none 0 0, .bool false, .pointer none] := .mk' (by kernel_rfl) ty63
theorem con63 : concreteB Tryz.prog 63 = true := by kernel_rfl
theorem pl64 : plainB Tryz.prog 64 [(0, 2), (1, 2)] = true := by kernel_rfl
theorem st64 : StructT Tryz.prog 64 [(0, 1), (1, 1)] [false, false] [.int .i64 0, .int .i64 0] := .mk' (by kernel_rfl) ty64
theorem pl65 : plainB Tryz.prog 65 [(0, 2), (1, 2)] = true := by kernel_rfl
theorem st65 : StructT Tryz.prog 65 [(0, 1), (1, 1)] [false, false] [.int .i64 0, .int .i64 0] := .mk' (by kernel_rfl) ty65
theorem con65 : concreteB Tryz.prog 65 = true := by kernel_rfl
theorem st68 : StructT Tryz.prog 68 [(0, 2), (2, 1)] [true, false] [.int .i64 0, .int .i64 0, .string ⟨⟨[]⟩⟩] := .mk' (by kernel_rfl) ty68
theorem st69 : StructT Tryz.prog 69 [(0, 2), (2, 1)] [true, false] [.int .i64 0, .int .i64 0, .string ⟨⟨[]⟩⟩] := .mk' (by kernel_rfl) ty69
theorem con69 : concreteB Tryz.prog 69 = true := by kernel_rfl
theorem pl71 : plainB Tryz.prog 71 [(0, 2), (1, 2), (2, 2)] = true := by kernel_rfl
theorem st71 : StructT Tryz.prog 71 [(0, 1), (1, 1), (2, 1)] [false, false, false] [.int .i64 0, .int .i64 0, .int .i64 0] := .mk' (by kernel_rfl) ty71
theorem pl72 : plainB Tryz.prog 72 [(0, 2), (1, 2), (2, 2)] = true := by kernel_rfl
theorem st72 : StructT Tryz.prog 72 [(0, 1), (1, 1), (2, 1)] [false, false, false] [.int .i64 0, .int .i64 0, .int .i64 0] := .mk' (by kernel_rfl) ty72
theorem con72 : concreteB Tryz.prog 72 = true := by kernel_rfl
theorem st73 : StructT Tryz.prog 73 [(0, 3), (3, 1), (4, 1), (5, 1), (6, 1), (7, 1)] [true, false, false, false, false, false] [.int .i64 0, .int .i64 0, .int .i64 0, .pointer none, .int .i64 0, .int .i64 0, .slice none 0 0, .bool false] := .mk' (by kernel_rfl) ty73
theorem st74 : StructT Tryz.prog 74 [(0, 3), (3, 1), (4, 1), (5, 1), (6, 1), (7, 1)] [true, false, false, false, false, false] [.int .i64 0, .int .i64 0, .int .i64 0, .pointer none, .int .i64 0, .int .i64 0, .slice none 0 0, .bool false] := .mk' (by kernel_rfl) ty74
theorem con74 : concreteB Tryz.prog 74 = true := by kernel_rfl
theorem pl90 : plainB Tryz.prog 90 [(0, 2), (1, 2), (2, 2)] = true := by kernel_rfl
theorem st90 : StructT Tryz.prog 90 [(0, 1), (1, 1), (2, 1)] [false, false, false] [.int .i64 0, .int .i64 0, .int .i64 0] := .mk' (by kernel_rfl) ty90
theorem pl91 : plainB Tryz.prog 91 [(0, 2), (1, 2), (2, 2)] = true := by kernel_rfl
theorem st91 : StructT Tryz.prog 91 [(0, 1), (1, 1), (2, 1)] [false, false, false] [.int .i64 0, .int .i64 0, .int .i64 0] := .mk' (by kernel_rfl) ty91
theorem con91 : concreteB Tryz.prog 91 = true := by kernel_rfl
theorem st93 : StructT Tryz.prog 93 [(0, 1), (1, 1), (2, 1), (3, 1), (4, 1), (5, 1), (6, 1), (7, 1)] [false, false, false, false, false, false, false, false] [.slice none 0 0, .slice none 0 0, .slice none 0 0, .bool false, .bool false, .int .i64 0, .int .i64 0, .int .i64 0] := .mk' (by kernel_rfl) ty93
theorem st94 : StructT Tryz.prog 94 [(0, 1), (1, 1), (2, 1), (3, 1), (4, 1), (5, 1), (6, 1), (7, 1)] [false, false, false, false, false, false, false, false] [.slice none 0 0, .slice none 0 0, .slice none 0 0, .bool false, .bool false, .int .i64 0, .int .i64 0, .int .i64 0] := .mk' (by kernel_rfl) ty94
theorem con94 : concreteB Tryz.prog 94 = true := by kernel_rfl
theorem arr95 : ArrT Tryz.prog 95 3 3 (.int .i64 0) 8 := ⟨Tryz.underlying95, ty3⟩
theorem st97 : StructT Tryz.prog 97 [(0, 1), (1, 1), (2, 1), (3, 1), (4, 1), (5, 1), (6, 1), (7, 1)] [false, false, false, false, false, false, false, false] [.pointer none, .int .i64 0, .int .i64 0, .int .i64 0, .int .i64 0, .int .i64 0, .slice none 0 0, .bool false] := .mk' (by kernel_rfl) ty97
theorem st98 : StructT Tryz.prog 98 [(0, 1), (1, 1), (2, 1), (3, 1), (4, 1), (5, 1), (6, 1), (7, 1)] [false, false, false, false, false, false, false, false] [.pointer none, .int .i64 0, .int .i64 0, .int .i64 0, .int .i64 0, .int .i64 0, .slice none 0 0, .bool false] := .mk' (by kernel_rfl) ty98
theorem con98 : concreteB Tryz.prog 98 = true := by kernel_rfl
theorem pl103 : plainB Tryz.prog 103 [(0, 2), (1, 3)] = true := by kernel_rfl
theorem st103 : StructT Tryz.prog 103 [(0, 1), (1, 1)] [false, false] [.int .i64 0, .string ⟨⟨[]⟩⟩] := .mk' (by kernel_rfl) ty103
theorem pl104 : plainB Tryz.prog 104 [(0, 2), (1, 3)] = true := by kernel_rfl
theorem st104 : StructT Tryz.prog 104 [(0, 1), (1, 1)] [false, false] [.int .i64 0, .string ⟨⟨[]⟩⟩] := .mk' (by kernel_rfl) ty104
theorem con104 : concreteB Tryz.prog 104 = true := by kernel_rfl
theorem ifc107 : Tryz.prog.underlying 107 = some (.interface (Tryz.prog.methodsAt 107)) := by kernel_rfl
theorem ifc108 : Tryz.prog.underlying 108 = some (.interface (Tryz.prog.methodsAt 108)) := by kernel_rfl
theorem pl131 : plainB Tryz.prog 131 [(0, 2), (1, 2)] = true := by kernel_rfl
theorem st131 : StructT Tryz.prog 131 [(0, 1), (1, 1)] [false, false] [.int .i64 0, .int .i64 0] := .mk' (by kernel_rfl) ty131
theorem pl132 : plainB Tryz.prog 132 [(0, 2), (1, 2)] = true := by kernel_rfl
theorem st132 : StructT Tryz.prog 132 [(0, 1), (1, 1)] [false, false] [.int .i64 0, .int .i64 0] := .mk' (by kernel_rfl) ty132
theorem con132 : concreteB Tryz.prog 132 = true := by kernel_rfl
theorem st134 : StructT Tryz.prog 134 [(0, 1), (1, 1)] [false, false] [.pointer none, .slice none 0 0] := .mk' (by kernel_rfl) ty134
theorem st135 : StructT Tryz.prog 135 [(0, 1), (1, 1)] [false, false] [.pointer none, .slice none 0 0] := .mk' (by kernel_rfl) ty135
theorem con135 : concreteB Tryz.prog 135 = true := by kernel_rfl
theorem st153 : StructT Tryz.prog 153 [(0, 1), (1, 1), (2, 1)] [false, false, false] [.string ⟨⟨[]⟩⟩, .string ⟨⟨[]⟩⟩, .nilIface] := .mk' (by kernel_rfl) ty153
theorem st154 : StructT Tryz.prog 154 [(0, 1), (1, 1), (2, 1)] [false, false, false] [.string ⟨⟨[]⟩⟩, .string ⟨⟨[]⟩⟩, .nilIface] := .mk' (by kernel_rfl) ty154
theorem con154 : concreteB Tryz.prog 154 = true := by kernel_rfl
theorem pl166 : plainB Tryz.prog 166 [(0, 3)] = true := by kernel_rfl
theorem st166 : StructT Tryz.prog 166 [(0, 1)] [false] [.string ⟨⟨[]⟩⟩] := .mk' (by kernel_rfl) ty166
theorem pl167 : plainB Tryz.prog 167 [(0, 3)] = true := by kernel_rfl
theorem st167 : StructT Tryz.prog 167 [(0, 1)] [false] [.string ⟨⟨[]⟩⟩] := .mk' (by kernel_rfl) ty167
theorem con167 : concreteB Tryz.prog 167 = true := by kernel_rfl
theorem arr171 : ArrT Tryz.prog 171 5 24 (.int .u8 0) 1 := ⟨Tryz.underlying171, ty5⟩
theorem arr180 : ArrT Tryz.prog 180 149 20 (.int .u64 0) 8 := ⟨Tryz.underlying180, ty149⟩
theorem arr181 : ArrT Tryz.prog 181 5 65 (.int .u8 0) 1 := ⟨Tryz.underlying181, ty5⟩
theorem arr185 : ArrT Tryz.prog 185 5 32 (.int .u8 0) 1 := ⟨Tryz.underlying185, ty5⟩
theorem arr186 : ArrT Tryz.prog 186 5 64 (.int .u8 0) 1 := ⟨Tryz.underlying186, ty5⟩
theorem st187 : StructT Tryz.prog 187 [(0, 1), (1, 1), (2, 1), (3, 1)] [false, false, false, false] [.pointer none, .pointer none, .pointer none, .string ⟨⟨[]⟩⟩] := .mk' (by kernel_rfl) ty187
theorem st188 : StructT Tryz.prog 188 [(0, 1), (1, 1), (2, 1), (3, 1)] [false, false, false, false] [.pointer none, .pointer none, .pointer none, .string ⟨⟨[]⟩⟩] := .mk' (by kernel_rfl) ty188
theorem con188 : concreteB Tryz.prog 188 = true := by kernel_rfl
theorem arr189 : ArrT Tryz.prog 189 16 0 (.pointer none) 8 := ⟨Tryz.underlying189, ty16⟩
theorem st190 : StructT Tryz.prog 190 [(0, 0)] [true] [] := .mk' (by kernel_rfl) ty190
theorem st191 : StructT Tryz.prog 191 [(0, 0)] [true] [] := .mk' (by kernel_rfl) ty191
theorem con191 : concreteB Tryz.prog 191 = true := by kernel_rfl
theorem u8_192 : U8I Tryz.prog 192 := by unfold U8I; kernel_rfl
theorem u8_193 : U8I Tryz.prog 193 := by unfold U8I; kernel_rfl
theorem st197 : StructT Tryz.prog 197 [(0, 1), (1, 1), (2, 1), (3, 1), (4, 1), (5, 1), (6, 1), (7, 1), (8, 1), (9, 1), (10, 1)] [false, false, false, false, false, false, false, false, false, false, false] [.int .u64 0, .int .u64 0, .int .u32 0, .int .u8 0, .int .u8 0, .int .u8 0, .int .u8 0, .nilFunc, .pointer none, .int .i32 0, .int .i32 0] := .mk' (by kernel_rfl) ty197
theorem st198 : StructT Tryz.prog 198 [(0, 1), (1, 1), (2, 1), (3, 1), (4, 1), (5, 1), (6, 1), (7, 1), (8, 1), (9, 1), (10, 1)] [false, false, false, false, false, false, false, false, false, false, false] [.int .u64 0, .int .u64 0, .int .u32 0, .int .u8 0, .int .u8 0, .int .u8 0, .int .u8 0, .nilFunc, .pointer none, .int .i32 0, .int .i32 0] := .mk' (by kernel_rfl) ty198
theorem con198 : concreteB Tryz.prog 198 = true := by kernel_rfl

end Go.Proofs.YtfjajkgfgigodaaGreatDoor
