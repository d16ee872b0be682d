/-
  The facts on this translation's structs: printed by a program of ours (gen_types.py).
-/
import Derived.Test.YtnmfanjhepepbaaDoorTypes
import Derived.Test.YtnmfanjhepepbaaDoorVcLex
import Derived.Test.YtnmfanjhepepbaaDoorVcArr
import Derived.Test.YtnmfanjhepepbaaDoorVcTree
namespace Go.Proofs.YtnmfanjhepepbaaDoor
open Go
set_option maxRecDepth 100000

theorem u8_5 : U8I Tryd.prog 5 := by unfold U8I; kernel_rfl
theorem u8_6 : U8I Tryd.prog 6 := by unfold U8I; kernel_rfl
theorem st7 : StructT Tryd.prog 7 [(0, 1), (1, 1), (2, 1), (3, 1)] [false, false, false, false] [.int .i64 0, .int .i64 0, .bool false, .int .u8 0] := .mk' (by kernel_rfl) ty7
theorem st8 : StructT Tryd.prog 8 [(0, 1), (1, 1), (2, 1), (3, 1)] [false, false, false, false] [.int .i64 0, .int .i64 0, .bool false, .int .u8 0] := .mk' (by kernel_rfl) ty8
theorem con8 : concreteB Tryd.prog 8 = true := by kernel_rfl
theorem st13 : StructT Tryd.prog 13 [(0, 1), (1, 1)] [false, false] [.string ⟨⟨[]⟩⟩, .int .u64 0] := .mk' (by kernel_rfl) ty13
theorem st14 : StructT Tryd.prog 14 [(0, 1), (1, 1)] [false, false] [.string ⟨⟨[]⟩⟩, .int .u64 0] := .mk' (by kernel_rfl) ty14
theorem con14 : concreteB Tryd.prog 14 = true := by kernel_rfl
theorem st18 : StructT Tryd.prog 18 [(0, 1)] [false] [.pointer none] := .mk' (by kernel_rfl) ty18
theorem st19 : StructT Tryd.prog 19 [(0, 1)] [false] [.pointer none] := .mk' (by kernel_rfl) ty19
theorem con19 : concreteB Tryd.prog 19 = true := by kernel_rfl
theorem ifc20 : Tryd.prog.underlying 20 = some (.interface (Tryd.prog.methodsAt 20)) := by kernel_rfl
theorem st24 : StructT Tryd.prog 24 [(0, 1)] [false] [.slice none 0 0] := .mk' (by kernel_rfl) ty24
theorem st25 : StructT Tryd.prog 25 [(0, 1)] [false] [.slice none 0 0] := .mk' (by kernel_rfl) ty25
theorem con25 : concreteB Tryd.prog 25 = true := by kernel_rfl
theorem pl32 : plainB Tryd.prog 32 [(0, 2), (1, 3), (2, 2), (3, 2)] = true := by kernel_rfl
theorem st32 : StructT Tryd.prog 32 [(0, 1), (1, 1), (2, 1), (3, 1)] [false, false, false, false] [.int .i64 0, .string ⟨⟨[]⟩⟩, .int .i64 0, .int .i64 0] := .mk' (by kernel_rfl) ty32
theorem pl33 : plainB Tryd.prog 33 [(0, 2), (1, 3), (2, 2), (3, 2)] = true := by kernel_rfl
theorem st33 : StructT Tryd.prog 33 [(0, 1), (1, 1), (2, 1), (3, 1)] [false, false, false, false] [.int .i64 0, .string ⟨⟨[]⟩⟩, .int .i64 0, .int .i64 0] := .mk' (by kernel_rfl) ty33
theorem con33 : concreteB Tryd.prog 33 = true := by kernel_rfl
theorem st42 : StructT Tryd.prog 42 [(0, 1), (1, 1), (2, 1), (3, 1), (4, 1), (5, 1), (6, 1), (7, 1), (8, 1)] [false, false, false, false, false, false, false, false, false] [.int .i64 0, .string ⟨⟨[]⟩⟩, .slice none 0 0, .slice none 0 0, .slice none 0 0, .string ⟨⟨[]⟩⟩, .string ⟨⟨[]⟩⟩, .int .i64 0, .int .i64 0] := .mk' (by kernel_rfl) ty42
theorem st43 : StructT Tryd.prog 43 [(0, 1), (1, 1), (2, 1), (3, 1), (4, 1), (5, 1), (6, 1), (7, 1), (8, 1)] [false, false, false, false, false, false, false, false, false] [.int .i64 0, .string ⟨⟨[]⟩⟩, .slice none 0 0, .slice none 0 0, .slice none 0 0, .string ⟨⟨[]⟩⟩, .string ⟨⟨[]⟩⟩, .int .i64 0, .int .i64 0] := .mk' (by kernel_rfl) ty43
theorem con43 : concreteB Tryd.prog 43 = true := by kernel_rfl
theorem st44 : StructT Tryd.prog 44 [(0, 1), (1, 1), (2, 1), (3, 1), (4, 1), (5, 1), (6, 1), (7, 1), (8, 1), (9, 1), (10, 1), (11, 1), (12, 1), (13, 1), (14, 1), (15, 1), (16, 9)] [false, false, false, false, false, false, false, false, false, false, false, false, false, false, false, false, true] [.int .i64 0, .string ⟨⟨[]⟩⟩, .int .i64 0, .string ⟨⟨[]⟩⟩, .string ⟨⟨[]⟩⟩, .slice none 0 0, .slice none 0 0, .int .i64 0, .int .i64 0, .int .i64 0, .slice none 0 0, .string ⟨⟨[]⟩⟩, .string ⟨⟨[]⟩⟩, .slice none 0 0, .slice none 0 0, .slice none 0 0, .int .i64 0, .string ⟨⟨[]⟩⟩, .slice none 0 0, .slice none 0 0, .slice none 0 0, .string ⟨⟨[]⟩⟩, .string ⟨⟨[]⟩⟩, .int .i64 0, .int .i64 0] := .mk' (by kernel_rfl) ty44
theorem st45 : StructT Tryd.prog 45 [(0, 1), (1, 1), (2, 1), (3, 1), (4, 1), (5, 1), (6, 1), (7, 1), (8, 1), (9, 1), (10, 1), (11, 1), (12, 1), (13, 1), (14, 1), (15, 1), (16, 9)] [false, false, false, false, false, false, false, false, false, false, false, false, false, false, false, false, true] [.int .i64 0, .string ⟨⟨[]⟩⟩, .int .i64 0, .string ⟨⟨[]⟩⟩, .string ⟨⟨[]⟩⟩, .slice none 0 0, .slice none 0 0, .int .i64 0, .int .i64 0, .int .i64 0, .slice none 0 0, .string ⟨⟨[]⟩⟩, .string ⟨⟨[]⟩⟩, .slice none 0 0, .slice none 0 0, .slice none 0 0, .int .i64 0, .string ⟨⟨[]⟩⟩, .slice none 0 0, .slice none 0 0, .slice none 0 0, .string ⟨⟨[]⟩⟩, .string ⟨⟨[]⟩⟩, .int .i64 0, .int .i64 0] := .mk' (by kernel_rfl) ty45
theorem con45 : concreteB Tryd.prog 45 = true := by kernel_rfl
theorem pl51 : plainB Tryd.prog 51 [(0, 2), (1, 2), (2, 3)] = true := by kernel_rfl
theorem st51 : StructT Tryd.prog 51 [(0, 1), (1, 1), (2, 1)] [false, false, false] [.int .i64 0, .int .i64 0, .string ⟨⟨[]⟩⟩] := .mk' (by kernel_rfl) ty51
theorem pl52 : plainB Tryd.prog 52 [(0, 2), (1, 2), (2, 3)] = true := by kernel_rfl
theorem st52 : StructT Tryd.prog 52 [(0, 1), (1, 1), (2, 1)] [false, false, false] [.int .i64 0, .int .i64 0, .string ⟨⟨[]⟩⟩] := .mk' (by kernel_rfl) ty52
theorem con52 : concreteB Tryd.prog 52 = true := by kernel_rfl
theorem st53 : StructT Tryd.prog 53 [(0, 1), (1, 1), (2, 1), (3, 3)] [false, false, false, true] [.string ⟨⟨[]⟩⟩, .string ⟨⟨[]⟩⟩, .bool false, .int .i64 0, .int .i64 0, .string ⟨⟨[]⟩⟩] := .mk' (by kernel_rfl) ty53
theorem st54 : StructT Tryd.prog 54 [(0, 1), (1, 1), (2, 1), (3, 3)] [false, false, false, true] [.string ⟨⟨[]⟩⟩, .string ⟨⟨[]⟩⟩, .bool false, .int .i64 0, .int .i64 0, .string ⟨⟨[]⟩⟩] := .mk' (by kernel_rfl) ty54
theorem con54 : concreteB Tryd.prog 54 = true := by kernel_rfl
theorem st55 : StructT Tryd.prog 55 [(0, 6), (6, 1), (7, 6), (13, 1)] [true, false, true, false] [.string ⟨⟨[]⟩⟩, .string ⟨⟨[]⟩⟩, .bool false, .int .i64 0, .int .i64 0, .string ⟨⟨[]⟩⟩, .int .i64 0, .string ⟨⟨[]⟩⟩, .string ⟨⟨[]⟩⟩, .bool false, .int .i64 0, .int .i64 0, .string ⟨⟨[]⟩⟩, .int .i64 0] := .mk' (by kernel_rfl) ty55
theorem st56 : StructT Tryd.prog 56 [(0, 6), (6, 1), (7, 6), (13, 1)] [true, false, true, false] [.string ⟨⟨[]⟩⟩, .string ⟨⟨[]⟩⟩, .bool false, .int .i64 0, .int .i64 0, .string ⟨⟨[]⟩⟩, .int .i64 0, .string ⟨⟨[]⟩⟩, .string ⟨⟨[]⟩⟩, .bool false, .int .i64 0, .int .i64 0, .string ⟨⟨[]⟩⟩, .int .i64 0] := .mk' (by kernel_rfl) ty56
theorem con56 : concreteB Tryd.prog 56 = true := by kernel_rfl
theorem pl58 : plainB Tryd.prog 58 [(0, 2), (1, 2)] = true := by kernel_rfl
theorem st58 : StructT Tryd.prog 58 [(0, 1), (1, 1)] [false, false] [.int .i64 0, .int .i64 0] := .mk' (by kernel_rfl) ty58
theorem pl59 : plainB Tryd.prog 59 [(0, 2), (1, 2)] = true := by kernel_rfl
theorem st59 : StructT Tryd.prog 59 [(0, 1), (1, 1)] [false, false] [.int .i64 0, .int .i64 0] := .mk' (by kernel_rfl) ty59
theorem con59 : concreteB Tryd.prog 59 = true := by kernel_rfl
theorem st60 : StructT Tryd.prog 60 [(0, 1), (1, 1), (2, 1), (3, 2), (5, 1), (6, 1)] [false, false, false, true, false, false] [.string ⟨⟨[]⟩⟩, .int .i64 0, .int .i64 0, .int .i64 0, .int .i64 0, .int .i64 0, .int .i64 0] := .mk' (by kernel_rfl) ty60
theorem st61 : StructT Tryd.prog 61 [(0, 1), (1, 1), (2, 1), (3, 2), (5, 1), (6, 1)] [false, false, false, true, false, false] [.string ⟨⟨[]⟩⟩, .int .i64 0, .int .i64 0, .int .i64 0, .int .i64 0, .int .i64 0, .int .i64 0] := .mk' (by kernel_rfl) ty61
theorem con61 : concreteB Tryd.prog 61 = true := by kernel_rfl
theorem pl62 : plainB Tryd.prog 62 [(0, 2), (1, 2)] = true := by kernel_rfl
theorem st62 : StructT Tryd.prog 62 [(0, 1), (1, 1)] [false, false] [.int .i64 0, .int .i64 0] := .mk' (by kernel_rfl) ty62
theorem pl63 : plainB Tryd.prog 63 [(0, 2), (1, 2)] = true := by kernel_rfl
theorem st63 : StructT Tryd.prog 63 [(0, 1), (1, 1)] [false, false] [.int .i64 0, .int .i64 0] := .mk' (by kernel_rfl) ty63
theorem con63 : concreteB Tryd.prog 63 = true := by kernel_rfl
theorem st66 : StructT Tryd.prog 66 [(0, 1), (1, 1)] [false, false] [.slice none 0 0, .int .i64 0] := .mk' (by kernel_rfl) ty66
theorem st67 : StructT Tryd.prog 67 [(0, 1), (1, 1)] [false, false] [.slice none 0 0, .int .i64 0] := .mk' (by kernel_rfl) ty67
theorem con67 : concreteB Tryd.prog 67 = true := by kernel_rfl
theorem pl70 : plainB Tryd.prog 70 [(0, 2), (1, 2)] = true := by kernel_rfl
theorem st70 : StructT Tryd.prog 70 [(0, 1), (1, 1)] [false, false] [.int .i64 0, .int .i64 0] := .mk' (by kernel_rfl) ty70
theorem pl71 : plainB Tryd.prog 71 [(0, 2), (1, 2)] = true := by kernel_rfl
theorem st71 : StructT Tryd.prog 71 [(0, 1), (1, 1)] [false, false] [.int .i64 0, .int .i64 0] := .mk' (by kernel_rfl) ty71
theorem con71 : concreteB Tryd.prog 71 = true := by kernel_rfl
theorem pl74 : plainB Tryd.prog 74 [(0, 3), (1, 2)] = true := by kernel_rfl
theorem st74 : StructT Tryd.prog 74 [(0, 1), (1, 1)] [false, false] [.string ⟨⟨[]⟩⟩, .int .i64 0] := .mk' (by kernel_rfl) ty74
theorem pl75 : plainB Tryd.prog 75 [(0, 3), (1, 2)] = true := by kernel_rfl
theorem st75 : StructT Tryd.prog 75 [(0, 1), (1, 1)] [false, false] [.string ⟨⟨[]⟩⟩, .int .i64 0] := .mk' (by kernel_rfl) ty75
theorem con75 : concreteB Tryd.prog 75 = true := by kernel_rfl
theorem arr77 : ArrT Tryd.prog 77 76 4 (.nilFunc) 8 := ⟨Tryd.underlying77, ty76⟩
theorem st78 : StructT Tryd.prog 78 [(0, 4)] [true] [.nilFunc, .nilFunc, .nilFunc, .nilFunc] := .mk' (by kernel_rfl) ty78
theorem st79 : StructT Tryd.prog 79 [(0, 4)] [true] [.nilFunc, .nilFunc, .nilFunc, .nilFunc] := .mk' (by kernel_rfl) ty79
theorem con79 : concreteB Tryd.prog 79 = true := by kernel_rfl
theorem arr84 : ArrT Tryd.prog 84 9 10 (.string ⟨⟨[]⟩⟩) 16 := ⟨Tryd.underlying84, ty9⟩
theorem ifc92 : Tryd.prog.underlying 92 = some (.interface (Tryd.prog.methodsAt 92)) := by kernel_rfl
theorem ifc93 : Tryd.prog.underlying 93 = some (.interface (Tryd.prog.methodsAt 93)) := by kernel_rfl
theorem st101 : StructT Tryd.prog 101 [(0, 1), (1, 1), (2, 3)] [false, false, true] [.string ⟨⟨[]⟩⟩, .int .i64 0, .int .i64 0, .int .i64 0, .string ⟨⟨[]⟩⟩] := .mk' (by kernel_rfl) ty101
theorem st102 : StructT Tryd.prog 102 [(0, 1), (1, 1), (2, 3)] [false, false, true] [.string ⟨⟨[]⟩⟩, .int .i64 0, .int .i64 0, .int .i64 0, .string ⟨⟨[]⟩⟩] := .mk' (by kernel_rfl) ty102
theorem con102 : concreteB Tryd.prog 102 = true := by kernel_rfl
theorem st110 : StructT Tryd.prog 110 [(0, 1), (1, 3)] [false, true] [.string ⟨⟨[]⟩⟩, .int .i64 0, .int .i64 0, .string ⟨⟨[]⟩⟩] := .mk' (by kernel_rfl) ty110
theorem st111 : StructT Tryd.prog 111 [(0, 1), (1, 3)] [false, true] [.string ⟨⟨[]⟩⟩, .int .i64 0, .int .i64 0, .string ⟨⟨[]⟩⟩] := .mk' (by kernel_rfl) ty111
theorem con111 : concreteB Tryd.prog 111 = true := by kernel_rfl
theorem pl114 : plainB Tryd.prog 114 [(0, 3), (1, 3)] = true := by kernel_rfl
theorem st114 : StructT Tryd.prog 114 [(0, 1), (1, 1)] [false, false] [.string ⟨⟨[]⟩⟩, .string ⟨⟨[]⟩⟩] := .mk' (by kernel_rfl) ty114
theorem pl115 : plainB Tryd.prog 115 [(0, 3), (1, 3)] = true := by kernel_rfl
theorem st115 : StructT Tryd.prog 115 [(0, 1), (1, 1)] [false, false] [.string ⟨⟨[]⟩⟩, .string ⟨⟨[]⟩⟩] := .mk' (by kernel_rfl) ty115
theorem con115 : concreteB Tryd.prog 115 = true := by kernel_rfl
theorem st127 : StructT Tryd.prog 127 [(0, 1), (1, 1), (2, 1)] [false, false, false] [.string ⟨⟨[]⟩⟩, .bool false, .nilFunc] := .mk' (by kernel_rfl) ty127
theorem st128 : StructT Tryd.prog 128 [(0, 1), (1, 1), (2, 1)] [false, false, false] [.string ⟨⟨[]⟩⟩, .bool false, .nilFunc] := .mk' (by kernel_rfl) ty128
theorem con128 : concreteB Tryd.prog 128 = true := by kernel_rfl
theorem st144 : StructT Tryd.prog 144 [(0, 1), (1, 1), (2, 1)] [false, false, false] [.string ⟨⟨[]⟩⟩, .string ⟨⟨[]⟩⟩, .nilIface] := .mk' (by kernel_rfl) ty144
theorem st145 : StructT Tryd.prog 145 [(0, 1), (1, 1), (2, 1)] [false, false, false] [.string ⟨⟨[]⟩⟩, .string ⟨⟨[]⟩⟩, .nilIface] := .mk' (by kernel_rfl) ty145
theorem con145 : concreteB Tryd.prog 145 = true := by kernel_rfl
theorem pl151 : plainB Tryd.prog 151 [(0, 3)] = true := by kernel_rfl
theorem st151 : StructT Tryd.prog 151 [(0, 1)] [false] [.string ⟨⟨[]⟩⟩] := .mk' (by kernel_rfl) ty151
theorem pl152 : plainB Tryd.prog 152 [(0, 3)] = true := by kernel_rfl
theorem st152 : StructT Tryd.prog 152 [(0, 1)] [false] [.string ⟨⟨[]⟩⟩] := .mk' (by kernel_rfl) ty152
theorem con152 : concreteB Tryd.prog 152 = true := by kernel_rfl
theorem arr154 : ArrT Tryd.prog 154 5 24 (.int .u8 0) 1 := ⟨Tryd.underlying154, ty5⟩
theorem arr161 : ArrT Tryd.prog 161 139 20 (.int .u64 0) 8 := ⟨Tryd.underlying161, ty139⟩
theorem arr163 : ArrT Tryd.prog 163 5 65 (.int .u8 0) 1 := ⟨Tryd.underlying163, ty5⟩
theorem arr167 : ArrT Tryd.prog 167 5 32 (.int .u8 0) 1 := ⟨Tryd.underlying167, ty5⟩
theorem arr168 : ArrT Tryd.prog 168 5 64 (.int .u8 0) 1 := ⟨Tryd.underlying168, ty5⟩
theorem st169 : StructT Tryd.prog 169 [(0, 1), (1, 1), (2, 1), (3, 1)] [false, false, false, false] [.pointer none, .pointer none, .pointer none, .string ⟨⟨[]⟩⟩] := .mk' (by kernel_rfl) ty169
theorem st170 : StructT Tryd.prog 170 [(0, 1), (1, 1), (2, 1), (3, 1)] [false, false, false, false] [.pointer none, .pointer none, .pointer none, .string ⟨⟨[]⟩⟩] := .mk' (by kernel_rfl) ty170
theorem con170 : concreteB Tryd.prog 170 = true := by kernel_rfl
theorem arr171 : ArrT Tryd.prog 171 16 0 (.pointer none) 8 := ⟨Tryd.underlying171, ty16⟩
theorem st172 : StructT Tryd.prog 172 [(0, 0)] [true] [] := .mk' (by kernel_rfl) ty172
theorem st173 : StructT Tryd.prog 173 [(0, 0)] [true] [] := .mk' (by kernel_rfl) ty173
theorem con173 : concreteB Tryd.prog 173 = true := by kernel_rfl
theorem u8_174 : U8I Tryd.prog 174 := by unfold U8I; kernel_rfl
theorem u8_175 : U8I Tryd.prog 175 := by unfold U8I; kernel_rfl
theorem st179 : StructT Tryd.prog 179 [(0, 1), (1, 1), (2, 1), (3, 1), (4, 1), (5, 1), (6, 1), (7, 1), (8, 1), (9, 1), (10, 1)] [false, false, false, false, false, false, false, false, false, false, false] [.int .u64 0, .int .u64 0, .int .u32 0, .int .u8 0, .int .u8 0, .int .u8 0, .int .u8 0, .nilFunc, .pointer none, .int .i32 0, .int .i32 0] := .mk' (by kernel_rfl) ty179
theorem st180 : StructT Tryd.prog 180 [(0, 1), (1, 1), (2, 1), (3, 1), (4, 1), (5, 1), (6, 1), (7, 1), (8, 1), (9, 1), (10, 1)] [false, false, false, false, false, false, false, false, false, false, false] [.int .u64 0, .int .u64 0, .int .u32 0, .int .u8 0, .int .u8 0, .int .u8 0, .int .u8 0, .nilFunc, .pointer none, .int .i32 0, .int .i32 0] := .mk' (by kernel_rfl) ty180
theorem con180 : concreteB Tryd.prog 180 = true := by kernel_rfl

end Go.Proofs.YtnmfanjhepepbaaDoor
