/-
  The facts on this translation's structs: printed by a program of ours (gen_types.py).
-/
import Derived.Test.YtnmfanjhepepbaaGreatDoorTypes
import Derived.Test.YtnmfanjhepepbaaGreatDoorVcLex
import Derived.Test.YtnmfanjhepepbaaGreatDoorVcArr
import Derived.Test.YtnmfanjhepepbaaGreatDoorVcTree
namespace Go.Proofs.YtnmfanjhepepbaaGreatDoor
open Go
set_option maxRecDepth 100000

theorem u8_5 : U8I Tryz.prog 5 := by unfold U8I; kernel_rfl
theorem u8_6 : U8I Tryz.prog 6 := by unfold U8I; kernel_rfl
theorem st7 : StructT Tryz.prog 7 [(0, 1), (1, 1), (2, 1), (3, 1)] [false, false, false, false] [.int .i64 0, .int .i64 0, .bool false, .int .u8 0] := .mk' (by kernel_rfl) ty7
theorem st8 : StructT Tryz.prog 8 [(0, 1), (1, 1), (2, 1), (3, 1)] [false, false, false, false] [.int .i64 0, .int .i64 0, .bool false, .int .u8 0] := .mk' (by kernel_rfl) ty8
theorem con8 : concreteB Tryz.prog 8 = true := by kernel_rfl
theorem st13 : StructT Tryz.prog 13 [(0, 1), (1, 1)] [false, false] [.string ⟨⟨[]⟩⟩, .int .u64 0] := .mk' (by kernel_rfl) ty13
theorem st14 : StructT Tryz.prog 14 [(0, 1), (1, 1)] [false, false] [.string ⟨⟨[]⟩⟩, .int .u64 0] := .mk' (by kernel_rfl) ty14
theorem con14 : concreteB Tryz.prog 14 = true := by kernel_rfl
theorem st18 : StructT Tryz.prog 18 [(0, 1)] [false] [.pointer none] := .mk' (by kernel_rfl) ty18
theorem st19 : StructT Tryz.prog 19 [(0, 1)] [false] [.pointer none] := .mk' (by kernel_rfl) ty19
theorem con19 : concreteB Tryz.prog 19 = true := by kernel_rfl
theorem ifc20 : Tryz.prog.underlying 20 = some (.interface (Tryz.prog.methodsAt 20)) := by kernel_rfl
theorem st24 : StructT Tryz.prog 24 [(0, 1)] [false] [.slice none 0 0] := .mk' (by kernel_rfl) ty24
theorem st25 : StructT Tryz.prog 25 [(0, 1)] [false] [.slice none 0 0] := .mk' (by kernel_rfl) ty25
theorem con25 : concreteB Tryz.prog 25 = true := by kernel_rfl
theorem pl37 : plainB Tryz.prog 37 [(0, 2), (1, 3), (2, 2), (3, 2)] = true := by kernel_rfl
theorem st37 : StructT Tryz.prog 37 [(0, 1), (1, 1), (2, 1), (3, 1)] [false, false, false, false] [.int .i64 0, .string ⟨⟨[]⟩⟩, .int .i64 0, .int .i64 0] := .mk' (by kernel_rfl) ty37
theorem pl38 : plainB Tryz.prog 38 [(0, 2), (1, 3), (2, 2), (3, 2)] = true := by kernel_rfl
theorem st38 : StructT Tryz.prog 38 [(0, 1), (1, 1), (2, 1), (3, 1)] [false, false, false, false] [.int .i64 0, .string ⟨⟨[]⟩⟩, .int .i64 0, .int .i64 0] := .mk' (by kernel_rfl) ty38
theorem con38 : concreteB Tryz.prog 38 = true := by kernel_rfl
theorem st48 : StructT Tryz.prog 48 [(0, 1), (1, 1), (2, 1), (3, 1), (4, 1), (5, 1), (6, 1), (7, 1), (8, 1)] [false, false, false, false, false, false, false, false, false] [.int .i64 0, .string ⟨⟨[]⟩⟩, .slice none 0 0, .slice none 0 0, .slice none 0 0, .string ⟨⟨[]⟩⟩, .string ⟨⟨[]⟩⟩, .int .i64 0, .int .i64 0] := .mk' (by kernel_rfl) ty48
theorem st49 : StructT Tryz.prog 49 [(0, 1), (1, 1), (2, 1), (3, 1), (4, 1), (5, 1), (6, 1), (7, 1), (8, 1)] [false, false, false, false, false, false, false, false, false] [.int .i64 0, .string ⟨⟨[]⟩⟩, .slice none 0 0, .slice none 0 0, .slice none 0 0, .string ⟨⟨[]⟩⟩, .string ⟨⟨[]⟩⟩, .int .i64 0, .int .i64 0] := .mk' (by kernel_rfl) ty49
theorem con49 : concreteB Tryz.prog 49 = true := by kernel_rfl
theorem st50 : StructT Tryz.prog 50 [(0, 1), (1, 1), (2, 1), (3, 1), (4, 1), (5, 1), (6, 1), (7, 1), (8, 1), (9, 1), (10, 1), (11, 1), (12, 1), (13, 1), (14, 1), (15, 1), (16, 9)] [false, false, false, false, false, false, false, false, false, false, false, false, false, false, false, false, true] [.int .i64 0, .string ⟨⟨[]⟩⟩, .int .i64 0, .string ⟨⟨[]⟩⟩, .string ⟨⟨[]⟩⟩, .slice none 0 0, .slice none 0 0, .int .i64 0, .int .i64 0, .int .i64 0, .slice none 0 0, .string ⟨⟨[]⟩⟩, .string ⟨⟨[]⟩⟩, .slice none 0 0, .slice none 0 0, .slice none 0 0, .int .i64 0, .string ⟨⟨[]⟩⟩, .slice none 0 0, .slice none 0 0, .slice none 0 0, .string ⟨⟨[]⟩⟩, .string ⟨⟨[]⟩⟩, .int .i64 0, .int .i64 0] := .mk' (by kernel_rfl) ty50
theorem st51 : StructT Tryz.prog 51 [(0, 1), (1, 1), (2, 1), (3, 1), (4, 1), (5, 1), (6, 1), (7, 1), (8, 1), (9, 1), (10, 1), (11, 1), (12, 1), (13, 1), (14, 1), (15, 1), (16, 9)] [false, false, false, false, false, false, false, false, false, false, false, false, false, false, false, false, true] [.int .i64 0, .string ⟨⟨[]⟩⟩, .int .i64 0, .string ⟨⟨[]⟩⟩, .string ⟨⟨[]⟩⟩, .slice none 0 0, .slice none 0 0, .int .i64 0, .int .i64 0, .int .i64 0, .slice none 0 0, .string ⟨⟨[]⟩⟩, .string ⟨⟨[]⟩⟩, .slice none 0 0, .slice none 0 0, .slice none 0 0, .int .i64 0, .string ⟨⟨[]⟩⟩, .slice none 0 0, .slice none 0 0, .slice none 0 0, .string ⟨⟨[]⟩⟩, .string ⟨⟨[]⟩⟩, .int .i64 0, .int .i64 0] := .mk' (by kernel_rfl) ty51
theorem con51 : concreteB Tryz.prog 51 = true := by kernel_rfl
theorem pl53 : plainB Tryz.prog 53 [(0, 2), (1, 2), (2, 3)] = true := by kernel_rfl
theorem st53 : StructT Tryz.prog 53 [(0, 1), (1, 1), (2, 1)] [false, false, false] [.int .i64 0, .int .i64 0, .string ⟨⟨[]⟩⟩] := .mk' (by kernel_rfl) ty53
theorem pl54 : plainB Tryz.prog 54 [(0, 2), (1, 2), (2, 3)] = true := by kernel_rfl
theorem st54 : StructT Tryz.prog 54 [(0, 1), (1, 1), (2, 1)] [false, false, false] [.int .i64 0, .int .i64 0, .string ⟨⟨[]⟩⟩] := .mk' (by kernel_rfl) ty54
theorem con54 : concreteB Tryz.prog 54 = true := by kernel_rfl
theorem st55 : StructT Tryz.prog 55 [(0, 1), (1, 1), (2, 1), (3, 3)] [false, false, false, true] [.string ⟨⟨[]⟩⟩, .string ⟨⟨[]⟩⟩, .bool false, .int .i64 0, .int .i64 0, .string ⟨⟨[]⟩⟩] := .mk' (by kernel_rfl) ty55
theorem st56 : StructT Tryz.prog 56 [(0, 1), (1, 1), (2, 1), (3, 3)] [false, false, false, true] [.string ⟨⟨[]⟩⟩, .string ⟨⟨[]⟩⟩, .bool false, .int .i64 0, .int .i64 0, .string ⟨⟨[]⟩⟩] := .mk' (by kernel_rfl) ty56
theorem con56 : concreteB Tryz.prog 56 = true := by kernel_rfl
theorem st57 : StructT Tryz.prog 57 [(0, 6), (6, 1), (7, 6), (13, 1)] [true, false, true, false] [.string ⟨⟨[]⟩⟩, .string ⟨⟨[]⟩⟩, .bool false, .int .i64 0, .int .i64 0, .string ⟨⟨[]⟩⟩, .int .i64 0, .string ⟨⟨[]⟩⟩, .string ⟨⟨[]⟩⟩, .bool false, .int .i64 0, .int .i64 0, .string ⟨⟨[]⟩⟩, .int .i64 0] := .mk' (by kernel_rfl) ty57
theorem st58 : StructT Tryz.prog 58 [(0, 6), (6, 1), (7, 6), (13, 1)] [true, false, true, false] [.string ⟨⟨[]⟩⟩, .string ⟨⟨[]⟩⟩, .bool false, .int .i64 0, .int .i64 0, .string ⟨⟨[]⟩⟩, .int .i64 0, .string ⟨⟨[]⟩⟩, .string ⟨⟨[]⟩⟩, .bool false, .int .i64 0, .int .i64 0, .string ⟨⟨[]⟩⟩, .int .i64 0] := .mk' (by kernel_rfl) ty58
theorem con58 : concreteB Tryz.prog 58 = true := by kernel_rfl
theorem pl59 : plainB Tryz.prog 59 [(0, 2), (1, 2)] = true := by kernel_rfl
theorem st59 : StructT Tryz.prog 59 [(0, 1), (1, 1)] [false, false] [.int .i64 0, .int .i64 0] := .mk' (by kernel_rfl) ty59
theorem pl60 : plainB Tryz.prog 60 [(0, 2), (1, 2)] = true := by kernel_rfl
theorem st60 : StructT Tryz.prog 60 [(0, 1), (1, 1)] [false, false] [.int .i64 0, .int .i64 0] := .mk' (by kernel_rfl) ty60
theorem con60 : concreteB Tryz.prog 60 = true := by kernel_rfl
theorem st61 : StructT Tryz.prog 61 [(0, 1), (1, 1), (2, 1), (3, 2), (5, 1), (6, 1)] [false, false, false, true, false, false] [.string ⟨⟨[]⟩⟩, .int .i64 0, .int .i64 0, .int .i64 0, .int .i64 0, .int .i64 0, .int .i64 0] := .mk' (by kernel_rfl) ty61
theorem st62 : StructT Tryz.prog 62 [(0, 1), (1, 1), (2, 1), (3, 2), (5, 1), (6, 1)] [false, false, false, true, false, false] [.string ⟨⟨[]⟩⟩, .int .i64 0, .int .i64 0, .int .i64 0, .int .i64 0, .int .i64 0, .int .i64 0] := .mk' (by kernel_rfl) ty62
theorem con62 : concreteB Tryz.prog 62 = true := by kernel_rfl
theorem pl63 : plainB Tryz.prog 63 [(0, 2), (1, 2)] = true := by kernel_rfl
theorem st63 : StructT Tryz.prog 63 [(0, 1), (1, 1)] [false, false] [.int .i64 0, .int .i64 0] := .mk' (by kernel_rfl) ty63
theorem pl64 : plainB Tryz.prog 64 [(0, 2), (1, 2)] = true := by kernel_rfl
theorem st64 : StructT Tryz.prog 64 [(0, 1), (1, 1)] [false, false] [.int .i64 0, .int .i64 0] := .mk' (by kernel_rfl) ty64
theorem con64 : concreteB Tryz.prog 64 = true := by kernel_rfl
theorem st67 : StructT Tryz.prog 67 [(0, 1), (1, 1)] [false, false] [.slice none 0 0, .int .i64 0] := .mk' (by kernel_rfl) ty67
theorem st68 : StructT Tryz.prog 68 [(0, 1), (1, 1)] [false, false] [.slice none 0 0, .int .i64 0] := .mk' (by kernel_rfl) ty68
theorem con68 : concreteB Tryz.prog 68 = true := by kernel_rfl
theorem st72 : StructT Tryz.prog 72 [(0, 1), (1, 1), (2, 1), (3, 1), (4, 1)] [false, false, false, false, false] [.slice none 0 0, .int .i64 0, .int .i64 0, .int .i64 0, .int .i64 0] := .mk' (by kernel_rfl) ty72
theorem st73 : StructT Tryz.prog 73 [(0, 1), (1, 1), (2, 1), (3, 1), (4, 1)] [false, false, false, false, false] [.slice none 0 0, .int .i64 0, .int .i64 0, .int .i64 0, .int .i64 0] := .mk' (by kernel_rfl) ty73
theorem con73 : concreteB Tryz.prog 73 = true := by kernel_rfl
theorem pl74 : plainB Tryz.prog 74 [(0, 2), (1, 2)] = true := by kernel_rfl
theorem st74 : StructT Tryz.prog 74 [(0, 1), (1, 1)] [false, false] [.int .i64 0, .int .i64 0] := .mk' (by kernel_rfl) ty74
theorem pl75 : plainB Tryz.prog 75 [(0, 2), (1, 2)] = true := by kernel_rfl
theorem st75 : StructT Tryz.prog 75 [(0, 1), (1, 1)] [false, false] [.int .i64 0, .int .i64 0] := .mk' (by kernel_rfl) ty75
theorem con75 : concreteB Tryz.prog 75 = true := by kernel_rfl
theorem pl78 : plainB Tryz.prog 78 [(0, 3), (1, 2)] = true := by kernel_rfl
theorem st78 : StructT Tryz.prog 78 [(0, 1), (1, 1)] [false, false] [.string ⟨⟨[]⟩⟩, .int .i64 0] := .mk' (by kernel_rfl) ty78
theorem pl79 : plainB Tryz.prog 79 [(0, 3), (1, 2)] = true := by kernel_rfl
theorem st79 : StructT Tryz.prog 79 [(0, 1), (1, 1)] [false, false] [.string ⟨⟨[]⟩⟩, .int .i64 0] := .mk' (by kernel_rfl) ty79
theorem con79 : concreteB Tryz.prog 79 = true := by kernel_rfl
theorem arr81 : ArrT Tryz.prog 81 80 4 (.nilFunc) 8 := ⟨Tryz.underlying81, ty80⟩
theorem st82 : StructT Tryz.prog 82 [(0, 4)] [true] [.nilFunc, .nilFunc, .nilFunc, .nilFunc] := .mk' (by kernel_rfl) ty82
theorem st83 : StructT Tryz.prog 83 [(0, 4)] [true] [.nilFunc, .nilFunc, .nilFunc, .nilFunc] := .mk' (by kernel_rfl) ty83
theorem con83 : concreteB Tryz.prog 83 = true := by kernel_rfl
theorem arr88 : ArrT Tryz.prog 88 9 10 (.string ⟨⟨[]⟩⟩) 16 := ⟨Tryz.underlying88, ty9⟩
theorem st104 : StructT Tryz.prog 104 [(0, 1), (1, 3)] [false, true] [.string ⟨⟨[]⟩⟩, .int .i64 0, .int .i64 0, .string ⟨⟨[]⟩⟩] := .mk' (by kernel_rfl) ty104
theorem st105 : StructT Tryz.prog 105 [(0, 1), (1, 3)] [false, true] [.string ⟨⟨[]⟩⟩, .int .i64 0, .int .i64 0, .string ⟨⟨[]⟩⟩] := .mk' (by kernel_rfl) ty105
theorem con105 : concreteB Tryz.prog 105 = true := by kernel_rfl
theorem pl107 : plainB Tryz.prog 107 [(0, 3), (1, 3)] = true := by kernel_rfl
theorem st107 : StructT Tryz.prog 107 [(0, 1), (1, 1)] [false, false] [.string ⟨⟨[]⟩⟩, .string ⟨⟨[]⟩⟩] := .mk' (by kernel_rfl) ty107
theorem pl108 : plainB Tryz.prog 108 [(0, 3), (1, 3)] = true := by kernel_rfl
theorem st108 : StructT Tryz.prog 108 [(0, 1), (1, 1)] [false, false] [.string ⟨⟨[]⟩⟩, .string ⟨⟨[]⟩⟩] := .mk' (by kernel_rfl) ty108
theorem con108 : concreteB Tryz.prog 108 = true := by kernel_rfl
theorem ifc113 : Tryz.prog.underlying 113 = some (.interface (Tryz.prog.methodsAt 113)) := by kernel_rfl
theorem ifc114 : Tryz.prog.underlying 114 = some (.interface (Tryz.prog.methodsAt 114)) := by kernel_rfl
theorem st121 : StructT Tryz.prog 121 [(0, 1), (1, 1), (2, 3)] [false, false, true] [.string ⟨⟨[]⟩⟩, .int .i64 0, .int .i64 0, .int .i64 0, .string ⟨⟨[]⟩⟩] := .mk' (by kernel_rfl) ty121
theorem st122 : StructT Tryz.prog 122 [(0, 1), (1, 1), (2, 3)] [false, false, true] [.string ⟨⟨[]⟩⟩, .int .i64 0, .int .i64 0, .int .i64 0, .string ⟨⟨[]⟩⟩] := .mk' (by kernel_rfl) ty122
theorem con122 : concreteB Tryz.prog 122 = true := by kernel_rfl
theorem st148 : StructT Tryz.prog 148 [(0, 1), (1, 1), (2, 1)] [false, false, false] [.string ⟨⟨[]⟩⟩, .bool false, .nilFunc] := .mk' (by kernel_rfl) ty148
theorem st149 : StructT Tryz.prog 149 [(0, 1), (1, 1), (2, 1)] [false, false, false] [.string ⟨⟨[]⟩⟩, .bool false, .nilFunc] := .mk' (by kernel_rfl) ty149
theorem con149 : concreteB Tryz.prog 149 = true := by kernel_rfl
theorem st162 : StructT Tryz.prog 162 [(0, 1), (1, 1), (2, 1)] [false, false, false] [.string ⟨⟨[]⟩⟩, .string ⟨⟨[]⟩⟩, .nilIface] := .mk' (by kernel_rfl) ty162
theorem st163 : StructT Tryz.prog 163 [(0, 1), (1, 1), (2, 1)] [false, false, false] [.string ⟨⟨[]⟩⟩, .string ⟨⟨[]⟩⟩, .nilIface] := .mk' (by kernel_rfl) ty163
theorem con163 : concreteB Tryz.prog 163 = true := by kernel_rfl
theorem pl169 : plainB Tryz.prog 169 [(0, 3)] = true := by kernel_rfl
theorem st169 : StructT Tryz.prog 169 [(0, 1)] [false] [.string ⟨⟨[]⟩⟩] := .mk' (by kernel_rfl) ty169
theorem pl170 : plainB Tryz.prog 170 [(0, 3)] = true := by kernel_rfl
theorem st170 : StructT Tryz.prog 170 [(0, 1)] [false] [.string ⟨⟨[]⟩⟩] := .mk' (by kernel_rfl) ty170
theorem con170 : concreteB Tryz.prog 170 = true := by kernel_rfl
theorem arr172 : ArrT Tryz.prog 172 5 24 (.int .u8 0) 1 := ⟨Tryz.underlying172, ty5⟩
theorem arr179 : ArrT Tryz.prog 179 157 20 (.int .u64 0) 8 := ⟨Tryz.underlying179, ty157⟩
theorem arr181 : ArrT Tryz.prog 181 5 65 (.int .u8 0) 1 := ⟨Tryz.underlying181, ty5⟩
theorem arr185 : ArrT Tryz.prog 185 5 32 (.int .u8 0) 1 := ⟨Tryz.underlying185, ty5⟩
theorem arr186 : ArrT Tryz.prog 186 5 64 (.int .u8 0) 1 := ⟨Tryz.underlying186, ty5⟩
theorem st187 : StructT Tryz.prog 187 [(0, 1), (1, 1), (2, 1), (3, 1)] [false, false, false, false] [.pointer none, .pointer none, .pointer none, .string ⟨⟨[]⟩⟩] := .mk' (by kernel_rfl) ty187
theorem st188 : StructT Tryz.prog 188 [(0, 1), (1, 1), (2, 1), (3, 1)] [false, false, false, false] [.pointer none, .pointer none, .pointer none, .string ⟨⟨[]⟩⟩] := .mk' (by kernel_rfl) ty188
theorem con188 : concreteB Tryz.prog 188 = true := by kernel_rfl
theorem arr189 : ArrT Tryz.prog 189 16 0 (.pointer none) 8 := ⟨Tryz.underlying189, ty16⟩
theorem st190 : StructT Tryz.prog 190 [(0, 0)] [true] [] := .mk' (by kernel_rfl) ty190
theorem st191 : StructT Tryz.prog 191 [(0, 0)] [true] [] := .mk' (by kernel_rfl) ty191
theorem con191 : concreteB Tryz.prog 191 = true := by kernel_rfl
theorem u8_192 : U8I Tryz.prog 192 := by unfold U8I; kernel_rfl
theorem u8_193 : U8I Tryz.prog 193 := by unfold U8I; kernel_rfl
theorem st197 : StructT Tryz.prog 197 [(0, 1), (1, 1), (2, 1), (3, 1), (4, 1), (5, 1), (6, 1), (7, 1), (8, 1), (9, 1), (10, 1)] [false, false, false, false, false, false, false, false, false, false, false] [.int .u64 0, .int .u64 0, .int .u32 0, .int .u8 0, .int .u8 0, .int .u8 0, .int .u8 0, .nilFunc, .pointer none, .int .i32 0, .int .i32 0] := .mk' (by kernel_rfl) ty197
theorem st198 : StructT Tryz.prog 198 [(0, 1), (1, 1), (2, 1), (3, 1), (4, 1), (5, 1), (6, 1), (7, 1), (8, 1), (9, 1), (10, 1)] [false, false, false, false, false, false, false, false, false, false, false] [.int .u64 0, .int .u64 0, .int .u32 0, .int .u8 0, .int .u8 0, .int .u8 0, .int .u8 0, .nilFunc, .pointer none, .int .i32 0, .int .i32 0] := .mk' (by kernel_rfl) ty198
theorem con198 : concreteB Tryz.prog 198 = true := by kernel_rfl

end Go.Proofs.YtnmfanjhepepbaaGreatDoor
