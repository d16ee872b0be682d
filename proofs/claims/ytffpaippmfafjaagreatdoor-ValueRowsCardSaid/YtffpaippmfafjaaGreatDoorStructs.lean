/-
  The facts on this translation's structs: printed by a program of ours (gen_types.py).
-/
import Derived.Test.YtffpaippmfafjaaGreatDoorTypes
import Derived.Test.YtffpaippmfafjaaGreatDoorVcLex
import Derived.Test.YtffpaippmfafjaaGreatDoorVcArr
namespace Go.Proofs.YtffpaippmfafjaaGreatDoor
open Go
set_option maxRecDepth 100000

theorem u8_5 : U8I Tryz.prog 5 := by unfold U8I; kernel_rfl
theorem u8_6 : U8I Tryz.prog 6 := by unfold U8I; kernel_rfl
theorem st7 : StructT Tryz.prog 7 [(0, 1), (1, 1), (2, 1), (3, 1)] [false, false, false, false] [.int .i64 0, .int .i64 0, .bool false, .int .u8 0] := .mk' (by kernel_rfl) ty7
theorem st8 : StructT Tryz.prog 8 [(0, 1), (1, 1), (2, 1), (3, 1)] [false, false, false, false] [.int .i64 0, .int .i64 0, .bool false, .int .u8 0] := .mk' (by kernel_rfl) ty8
theorem con8 : concreteB Tryz.prog 8 = true := by kernel_rfl
theorem st13 : StructT Tryz.prog 13 [(0, 1), (1, 1)] [false, false] [.string ⟨⟨[]⟩⟩, .int .u64 0] := .mk' (by kernel_rfl) ty13
theorem st14 : StructT Tryz.prog 14 [(0, 1), (1, 1)] [false, false] [.string ⟨⟨[]⟩⟩, .int .u64 0] := .mk' (by kernel_rfl) ty14
theorem con14 : concreteB Tryz.prog 14 = true := by kernel_rfl
theorem st18 : StructT Tryz.prog 18 [(0, 1)] [false] [.pointer none] := .mk' (by kernel_rfl) ty18
theorem st19 : StructT Tryz.prog 19 [(0, 1)] [false] [.pointer none] := .mk' (by kernel_rfl) ty19
theorem con19 : concreteB Tryz.prog 19 = true := by kernel_rfl
theorem ifc20 : Tryz.prog.underlying 20 = some (.interface (Tryz.prog.methodsAt 20)) := by kernel_rfl
theorem pl22 : plainB Tryz.prog 22 [(0, 2), (1, 2), (2, 3)] = true := by kernel_rfl
theorem st22 : StructT Tryz.prog 22 [(0, 1), (1, 1), (2, 1)] [false, false, false] [.int .i64 0, .int .i64 0, .string ⟨⟨[]⟩⟩] := .mk' (by kernel_rfl) ty22
theorem pl23 : plainB Tryz.prog 23 [(0, 2), (1, 2), (2, 3)] = true := by kernel_rfl
theorem st23 : StructT Tryz.prog 23 [(0, 1), (1, 1), (2, 1)] [false, false, false] [.int .i64 0, .int .i64 0, .string ⟨⟨[]⟩⟩] := .mk' (by kernel_rfl) ty23
theorem con23 : concreteB Tryz.prog 23 = true := by kernel_rfl
theorem st62 : StructT Tryz.prog 62 [(0, 1), (1, 1)] [false, false] [.int .i64 0, .nilFunc] := .mk' (by kernel_rfl) ty62
theorem st63 : StructT Tryz.prog 63 [(0, 1), (1, 1)] [false, false] [.int .i64 0, .nilFunc] := .mk' (by kernel_rfl) ty63
theorem con63 : concreteB Tryz.prog 63 = true := by kernel_rfl
theorem ifc64 : Tryz.prog.underlying 64 = some (.interface (Tryz.prog.methodsAt 64)) := by kernel_rfl
theorem ifc65 : Tryz.prog.underlying 65 = some (.interface (Tryz.prog.methodsAt 65)) := by kernel_rfl
theorem st70 : StructT Tryz.prog 70 [(0, 1), (1, 1)] [false, false] [.pointer none, .slice none 0 0] := .mk' (by kernel_rfl) ty70
theorem st71 : StructT Tryz.prog 71 [(0, 1), (1, 1)] [false, false] [.pointer none, .slice none 0 0] := .mk' (by kernel_rfl) ty71
theorem con71 : concreteB Tryz.prog 71 = true := by kernel_rfl
theorem con77 : concreteB Tryz.prog 77 = true := by kernel_rfl
theorem con78 : concreteB Tryz.prog 78 = true := by kernel_rfl
theorem st80 : StructT Tryz.prog 80 [(0, 0), (0, 1)] [true, false] [.int .u32 0] := .mk' (by kernel_rfl) ty80
theorem st81 : StructT Tryz.prog 81 [(0, 0), (0, 1)] [true, false] [.int .u32 0] := .mk' (by kernel_rfl) ty81
theorem con81 : concreteB Tryz.prog 81 = true := by kernel_rfl
theorem st82 : StructT Tryz.prog 82 [(0, 1), (1, 1)] [false, false] [.int .i32 0, .int .u32 0] := .mk' (by kernel_rfl) ty82
theorem st83 : StructT Tryz.prog 83 [(0, 1), (1, 1)] [false, false] [.int .i32 0, .int .u32 0] := .mk' (by kernel_rfl) ty83
theorem con83 : concreteB Tryz.prog 83 = true := by kernel_rfl
theorem st84 : StructT Tryz.prog 84 [(0, 0), (0, 2)] [true, true] [.int .i32 0, .int .u32 0] := .mk' (by kernel_rfl) ty84
theorem st85 : StructT Tryz.prog 85 [(0, 0), (0, 2)] [true, true] [.int .i32 0, .int .u32 0] := .mk' (by kernel_rfl) ty85
theorem con85 : concreteB Tryz.prog 85 = true := by kernel_rfl
theorem st86 : StructT Tryz.prog 86 [(0, 0), (0, 1), (1, 2)] [true, true, true] [.int .u32 0, .int .i32 0, .int .u32 0] := .mk' (by kernel_rfl) ty86
theorem st87 : StructT Tryz.prog 87 [(0, 0), (0, 1), (1, 2)] [true, true, true] [.int .u32 0, .int .i32 0, .int .u32 0] := .mk' (by kernel_rfl) ty87
theorem con87 : concreteB Tryz.prog 87 = true := by kernel_rfl
theorem ifc88 : Tryz.prog.underlying 88 = some (.interface (Tryz.prog.methodsAt 88)) := by kernel_rfl
theorem ifc89 : Tryz.prog.underlying 89 = some (.interface (Tryz.prog.methodsAt 89)) := by kernel_rfl
theorem st90 : StructT Tryz.prog 90 [(0, 3), (3, 1), (4, 1)] [true, false, false] [.int .u32 0, .int .i32 0, .int .u32 0, .nilIface, .slice none 0 0] := .mk' (by kernel_rfl) ty90
theorem st91 : StructT Tryz.prog 91 [(0, 3), (3, 1), (4, 1)] [true, false, false] [.int .u32 0, .int .i32 0, .int .u32 0, .nilIface, .slice none 0 0] := .mk' (by kernel_rfl) ty91
theorem con91 : concreteB Tryz.prog 91 = true := by kernel_rfl
theorem arr122 : ArrT Tryz.prog 122 5 24 (.int .u8 0) 1 := ⟨Tryz.underlying122, ty5⟩
theorem st130 : StructT Tryz.prog 130 [(0, 1), (1, 1), (2, 1)] [false, false, false] [.string ⟨⟨[]⟩⟩, .string ⟨⟨[]⟩⟩, .nilIface] := .mk' (by kernel_rfl) ty130
theorem st131 : StructT Tryz.prog 131 [(0, 1), (1, 1), (2, 1)] [false, false, false] [.string ⟨⟨[]⟩⟩, .string ⟨⟨[]⟩⟩, .nilIface] := .mk' (by kernel_rfl) ty131
theorem con131 : concreteB Tryz.prog 131 = true := by kernel_rfl
theorem st138 : StructT Tryz.prog 138 [(0, 1), (1, 1)] [false, false] [.pointer none, .string ⟨⟨[]⟩⟩] := .mk' (by kernel_rfl) ty138
theorem st139 : StructT Tryz.prog 139 [(0, 1), (1, 1)] [false, false] [.pointer none, .string ⟨⟨[]⟩⟩] := .mk' (by kernel_rfl) ty139
theorem con139 : concreteB Tryz.prog 139 = true := by kernel_rfl
theorem st142 : StructT Tryz.prog 142 [(0, 1), (1, 1), (2, 1), (3, 1), (4, 1)] [false, false, false, false, false] [.string ⟨⟨[]⟩⟩, .int .i64 0, .string ⟨⟨[]⟩⟩, .pointer none, .slice none 0 0] := .mk' (by kernel_rfl) ty142
theorem st143 : StructT Tryz.prog 143 [(0, 1), (1, 1), (2, 1), (3, 1), (4, 1)] [false, false, false, false, false] [.string ⟨⟨[]⟩⟩, .int .i64 0, .string ⟨⟨[]⟩⟩, .pointer none, .slice none 0 0] := .mk' (by kernel_rfl) ty143
theorem con143 : concreteB Tryz.prog 143 = true := by kernel_rfl
theorem arr149 : ArrT Tryz.prog 149 74 20 (.int .u64 0) 8 := ⟨Tryz.underlying149, ty74⟩
theorem arr150 : ArrT Tryz.prog 150 5 65 (.int .u8 0) 1 := ⟨Tryz.underlying150, ty5⟩
theorem pl155 : plainB Tryz.prog 155 [(0, 3)] = true := by kernel_rfl
theorem st155 : StructT Tryz.prog 155 [(0, 1)] [false] [.string ⟨⟨[]⟩⟩] := .mk' (by kernel_rfl) ty155
theorem pl156 : plainB Tryz.prog 156 [(0, 3)] = true := by kernel_rfl
theorem st156 : StructT Tryz.prog 156 [(0, 1)] [false] [.string ⟨⟨[]⟩⟩] := .mk' (by kernel_rfl) ty156
theorem con156 : concreteB Tryz.prog 156 = true := by kernel_rfl
theorem arr171 : ArrT Tryz.prog 171 5 32 (.int .u8 0) 1 := ⟨Tryz.underlying171, ty5⟩
theorem arr172 : ArrT Tryz.prog 172 5 64 (.int .u8 0) 1 := ⟨Tryz.underlying172, ty5⟩
theorem st173 : StructT Tryz.prog 173 [(0, 1), (1, 1), (2, 1), (3, 1)] [false, false, false, false] [.pointer none, .pointer none, .pointer none, .string ⟨⟨[]⟩⟩] := .mk' (by kernel_rfl) ty173
theorem st174 : StructT Tryz.prog 174 [(0, 1), (1, 1), (2, 1), (3, 1)] [false, false, false, false] [.pointer none, .pointer none, .pointer none, .string ⟨⟨[]⟩⟩] := .mk' (by kernel_rfl) ty174
theorem con174 : concreteB Tryz.prog 174 = true := by kernel_rfl
theorem arr175 : ArrT Tryz.prog 175 16 0 (.pointer none) 8 := ⟨Tryz.underlying175, ty16⟩
theorem st176 : StructT Tryz.prog 176 [(0, 0)] [true] [] := .mk' (by kernel_rfl) ty176
theorem st177 : StructT Tryz.prog 177 [(0, 0)] [true] [] := .mk' (by kernel_rfl) ty177
theorem con177 : concreteB Tryz.prog 177 = true := by kernel_rfl
theorem u8_179 : U8I Tryz.prog 179 := by unfold U8I; kernel_rfl
theorem u8_180 : U8I Tryz.prog 180 := by unfold U8I; kernel_rfl
theorem st184 : StructT Tryz.prog 184 [(0, 1), (1, 1), (2, 1), (3, 1), (4, 1), (5, 1), (6, 1), (7, 1), (8, 1), (9, 1), (10, 1)] [false, false, false, false, false, false, false, false, false, false, false] [.int .u64 0, .int .u64 0, .int .u32 0, .int .u8 0, .int .u8 0, .int .u8 0, .int .u8 0, .nilFunc, .pointer none, .int .i32 0, .int .i32 0] := .mk' (by kernel_rfl) ty184
theorem st185 : StructT Tryz.prog 185 [(0, 1), (1, 1), (2, 1), (3, 1), (4, 1), (5, 1), (6, 1), (7, 1), (8, 1), (9, 1), (10, 1)] [false, false, false, false, false, false, false, false, false, false, false] [.int .u64 0, .int .u64 0, .int .u32 0, .int .u8 0, .int .u8 0, .int .u8 0, .int .u8 0, .nilFunc, .pointer none, .int .i32 0, .int .i32 0] := .mk' (by kernel_rfl) ty185
theorem con185 : concreteB Tryz.prog 185 = true := by kernel_rfl
theorem ifc191 : Tryz.prog.underlying 191 = some (.interface (Tryz.prog.methodsAt 191)) := by kernel_rfl
theorem ifc192 : Tryz.prog.underlying 192 = some (.interface (Tryz.prog.methodsAt 192)) := by kernel_rfl
theorem ifc193 : Tryz.prog.underlying 193 = some (.interface (Tryz.prog.methodsAt 193)) := by kernel_rfl
theorem ifc194 : Tryz.prog.underlying 194 = some (.interface (Tryz.prog.methodsAt 194)) := by kernel_rfl
theorem st199 : StructT Tryz.prog 199 [(0, 1)] [false] [.nilIface] := .mk' (by kernel_rfl) ty199
theorem st200 : StructT Tryz.prog 200 [(0, 1)] [false] [.nilIface] := .mk' (by kernel_rfl) ty200
theorem con200 : concreteB Tryz.prog 200 = true := by kernel_rfl

end Go.Proofs.YtffpaippmfafjaaGreatDoor
