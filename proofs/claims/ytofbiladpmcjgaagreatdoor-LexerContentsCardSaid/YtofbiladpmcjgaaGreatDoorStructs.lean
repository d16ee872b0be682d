/-
  The facts on this translation's structs: printed by a program of ours (gen_types.py).
-/
import Derived.Test.YtofbiladpmcjgaaGreatDoorTypes
import Derived.Test.YtofbiladpmcjgaaGreatDoorVcLex
import Derived.Test.YtofbiladpmcjgaaGreatDoorVcArr
namespace Go.Proofs.YtofbiladpmcjgaaGreatDoor
open Go
set_option maxRecDepth 100000

theorem u8_5 : U8I Tryz.prog 5 := by unfold U8I; kernel_rfl
theorem u8_6 : U8I Tryz.prog 6 := by unfold U8I; kernel_rfl
theorem st7 : StructT Tryz.prog 7 [(0, 1), (1, 1), (2, 1), (3, 1)] [false, false, false, false] [.int .i64 0, .int .i64 0, .bool false, .int .u8 0] := .mk' (by kernel_rfl) ty7
theorem st8 : StructT Tryz.prog 8 [(0, 1), (1, 1), (2, 1), (3, 1)] [false, false, false, false] [.int .i64 0, .int .i64 0, .bool false, .int .u8 0] := .mk' (by kernel_rfl) ty8
theorem con8 : concreteB Tryz.prog 8 = true := by kernel_rfl
theorem st13 : StructT Tryz.prog 13 [(0, 1), (1, 1)] [false, false] [.string ⟨⟨[]⟩⟩, .int .u64 0] := .mk' (by kernel_rfl) ty13
theorem st14 : StructT Tryz.prog 14 [(0, 1), (1, 1)] [false, false] [.string ⟨⟨[]⟩⟩, .int .u64 0] := .mk' (by kernel_rfl) ty14
theorem con14 : concreteB Tryz.prog 14 = true := by kernel_rfl
theorem st18 : StructT Tryz.prog 18 [(0, 1)] [false] [.pointer none] := .mk' (by kernel_rfl) ty18
theorem st19 : StructT Tryz.prog 19 [(0, 1)] [false] [.pointer none] := .mk' (by kernel_rfl) ty19
theorem con19 : concreteB Tryz.prog 19 = true := by kernel_rfl
theorem ifc20 : Tryz.prog.underlying 20 = some (.interface (Tryz.prog.methodsAt 20)) := by kernel_rfl
theorem pl32 : plainB Tryz.prog 32 [(0, 2), (1, 2), (2, 3)] = true := by kernel_rfl
theorem st32 : StructT Tryz.prog 32 [(0, 1), (1, 1), (2, 1)] [false, false, false] [.int .i64 0, .int .i64 0, .string ⟨⟨[]⟩⟩] := .mk' (by kernel_rfl) ty32
theorem pl33 : plainB Tryz.prog 33 [(0, 2), (1, 2), (2, 3)] = true := by kernel_rfl
theorem st33 : StructT Tryz.prog 33 [(0, 1), (1, 1), (2, 1)] [false, false, false] [.int .i64 0, .int .i64 0, .string ⟨⟨[]⟩⟩] := .mk' (by kernel_rfl) ty33
theorem con33 : concreteB Tryz.prog 33 = true := by kernel_rfl
theorem pl34 : plainB Tryz.prog 34 [(0, 2), (1, 3), (2, 2), (3, 2)] = true := by kernel_rfl
theorem st34 : StructT Tryz.prog 34 [(0, 1), (1, 1), (2, 1), (3, 1)] [false, false, false, false] [.int .i64 0, .string ⟨⟨[]⟩⟩, .int .i64 0, .int .i64 0] := .mk' (by kernel_rfl) ty34
theorem pl35 : plainB Tryz.prog 35 [(0, 2), (1, 3), (2, 2), (3, 2)] = true := by kernel_rfl
theorem st35 : StructT Tryz.prog 35 [(0, 1), (1, 1), (2, 1), (3, 1)] [false, false, false, false] [.int .i64 0, .string ⟨⟨[]⟩⟩, .int .i64 0, .int .i64 0] := .mk' (by kernel_rfl) ty35
theorem con35 : concreteB Tryz.prog 35 = true := by kernel_rfl
theorem pl37 : plainB Tryz.prog 37 [(0, 2), (1, 2)] = true := by kernel_rfl
theorem st37 : StructT Tryz.prog 37 [(0, 1), (1, 1)] [false, false] [.int .i64 0, .int .i64 0] := .mk' (by kernel_rfl) ty37
theorem pl38 : plainB Tryz.prog 38 [(0, 2), (1, 2)] = true := by kernel_rfl
theorem st38 : StructT Tryz.prog 38 [(0, 1), (1, 1)] [false, false] [.int .i64 0, .int .i64 0] := .mk' (by kernel_rfl) ty38
theorem con38 : concreteB Tryz.prog 38 = true := by kernel_rfl
theorem pl41 : plainB Tryz.prog 41 [(0, 3), (1, 2)] = true := by kernel_rfl
theorem st41 : StructT Tryz.prog 41 [(0, 1), (1, 1)] [false, false] [.string ⟨⟨[]⟩⟩, .int .i64 0] := .mk' (by kernel_rfl) ty41
theorem pl42 : plainB Tryz.prog 42 [(0, 3), (1, 2)] = true := by kernel_rfl
theorem st42 : StructT Tryz.prog 42 [(0, 1), (1, 1)] [false, false] [.string ⟨⟨[]⟩⟩, .int .i64 0] := .mk' (by kernel_rfl) ty42
theorem con42 : concreteB Tryz.prog 42 = true := by kernel_rfl
theorem arr44 : ArrT Tryz.prog 44 43 4 (.nilFunc) 8 := ⟨Tryz.underlying44, ty43⟩
theorem st45 : StructT Tryz.prog 45 [(0, 4)] [true] [.nilFunc, .nilFunc, .nilFunc, .nilFunc] := .mk' (by kernel_rfl) ty45
theorem st46 : StructT Tryz.prog 46 [(0, 4)] [true] [.nilFunc, .nilFunc, .nilFunc, .nilFunc] := .mk' (by kernel_rfl) ty46
theorem con46 : concreteB Tryz.prog 46 = true := by kernel_rfl
theorem ifc57 : Tryz.prog.underlying 57 = some (.interface (Tryz.prog.methodsAt 57)) := by kernel_rfl
theorem ifc58 : Tryz.prog.underlying 58 = some (.interface (Tryz.prog.methodsAt 58)) := by kernel_rfl
theorem con66 : concreteB Tryz.prog 66 = true := by kernel_rfl
theorem con67 : concreteB Tryz.prog 67 = true := by kernel_rfl
theorem st68 : StructT Tryz.prog 68 [(0, 0), (0, 1)] [true, false] [.int .u32 0] := .mk' (by kernel_rfl) ty68
theorem st69 : StructT Tryz.prog 69 [(0, 0), (0, 1)] [true, false] [.int .u32 0] := .mk' (by kernel_rfl) ty69
theorem con69 : concreteB Tryz.prog 69 = true := by kernel_rfl
theorem st70 : StructT Tryz.prog 70 [(0, 1), (1, 1)] [false, false] [.int .i32 0, .int .u32 0] := .mk' (by kernel_rfl) ty70
theorem st71 : StructT Tryz.prog 71 [(0, 1), (1, 1)] [false, false] [.int .i32 0, .int .u32 0] := .mk' (by kernel_rfl) ty71
theorem con71 : concreteB Tryz.prog 71 = true := by kernel_rfl
theorem st72 : StructT Tryz.prog 72 [(0, 0), (0, 2)] [true, true] [.int .i32 0, .int .u32 0] := .mk' (by kernel_rfl) ty72
theorem st73 : StructT Tryz.prog 73 [(0, 0), (0, 2)] [true, true] [.int .i32 0, .int .u32 0] := .mk' (by kernel_rfl) ty73
theorem con73 : concreteB Tryz.prog 73 = true := by kernel_rfl
theorem st74 : StructT Tryz.prog 74 [(0, 0), (0, 1), (1, 2)] [true, true, true] [.int .u32 0, .int .i32 0, .int .u32 0] := .mk' (by kernel_rfl) ty74
theorem st75 : StructT Tryz.prog 75 [(0, 0), (0, 1), (1, 2)] [true, true, true] [.int .u32 0, .int .i32 0, .int .u32 0] := .mk' (by kernel_rfl) ty75
theorem con75 : concreteB Tryz.prog 75 = true := by kernel_rfl
theorem ifc76 : Tryz.prog.underlying 76 = some (.interface (Tryz.prog.methodsAt 76)) := by kernel_rfl
theorem ifc77 : Tryz.prog.underlying 77 = some (.interface (Tryz.prog.methodsAt 77)) := by kernel_rfl
theorem st78 : StructT Tryz.prog 78 [(0, 3), (3, 1), (4, 1)] [true, false, false] [.int .u32 0, .int .i32 0, .int .u32 0, .nilIface, .slice none 0 0] := .mk' (by kernel_rfl) ty78
theorem st79 : StructT Tryz.prog 79 [(0, 3), (3, 1), (4, 1)] [true, false, false] [.int .u32 0, .int .i32 0, .int .u32 0, .nilIface, .slice none 0 0] := .mk' (by kernel_rfl) ty79
theorem con79 : concreteB Tryz.prog 79 = true := by kernel_rfl
theorem arr106 : ArrT Tryz.prog 106 5 24 (.int .u8 0) 1 := ⟨Tryz.underlying106, ty5⟩
theorem st115 : StructT Tryz.prog 115 [(0, 1), (1, 1), (2, 1)] [false, false, false] [.string ⟨⟨[]⟩⟩, .string ⟨⟨[]⟩⟩, .nilIface] := .mk' (by kernel_rfl) ty115
theorem st116 : StructT Tryz.prog 116 [(0, 1), (1, 1), (2, 1)] [false, false, false] [.string ⟨⟨[]⟩⟩, .string ⟨⟨[]⟩⟩, .nilIface] := .mk' (by kernel_rfl) ty116
theorem con116 : concreteB Tryz.prog 116 = true := by kernel_rfl
theorem st123 : StructT Tryz.prog 123 [(0, 1), (1, 1)] [false, false] [.pointer none, .string ⟨⟨[]⟩⟩] := .mk' (by kernel_rfl) ty123
theorem st124 : StructT Tryz.prog 124 [(0, 1), (1, 1)] [false, false] [.pointer none, .string ⟨⟨[]⟩⟩] := .mk' (by kernel_rfl) ty124
theorem con124 : concreteB Tryz.prog 124 = true := by kernel_rfl
theorem st127 : StructT Tryz.prog 127 [(0, 1), (1, 1), (2, 1), (3, 1), (4, 1)] [false, false, false, false, false] [.string ⟨⟨[]⟩⟩, .int .i64 0, .string ⟨⟨[]⟩⟩, .pointer none, .slice none 0 0] := .mk' (by kernel_rfl) ty127
theorem st128 : StructT Tryz.prog 128 [(0, 1), (1, 1), (2, 1), (3, 1), (4, 1)] [false, false, false, false, false] [.string ⟨⟨[]⟩⟩, .int .i64 0, .string ⟨⟨[]⟩⟩, .pointer none, .slice none 0 0] := .mk' (by kernel_rfl) ty128
theorem con128 : concreteB Tryz.prog 128 = true := by kernel_rfl
theorem arr134 : ArrT Tryz.prog 134 107 20 (.int .u64 0) 8 := ⟨Tryz.underlying134, ty107⟩
theorem arr135 : ArrT Tryz.prog 135 5 65 (.int .u8 0) 1 := ⟨Tryz.underlying135, ty5⟩
theorem pl141 : plainB Tryz.prog 141 [(0, 3)] = true := by kernel_rfl
theorem st141 : StructT Tryz.prog 141 [(0, 1)] [false] [.string ⟨⟨[]⟩⟩] := .mk' (by kernel_rfl) ty141
theorem pl142 : plainB Tryz.prog 142 [(0, 3)] = true := by kernel_rfl
theorem st142 : StructT Tryz.prog 142 [(0, 1)] [false] [.string ⟨⟨[]⟩⟩] := .mk' (by kernel_rfl) ty142
theorem con142 : concreteB Tryz.prog 142 = true := by kernel_rfl
theorem arr159 : ArrT Tryz.prog 159 5 32 (.int .u8 0) 1 := ⟨Tryz.underlying159, ty5⟩
theorem arr160 : ArrT Tryz.prog 160 5 64 (.int .u8 0) 1 := ⟨Tryz.underlying160, ty5⟩
theorem st162 : StructT Tryz.prog 162 [(0, 1), (1, 1), (2, 1), (3, 1)] [false, false, false, false] [.pointer none, .pointer none, .pointer none, .string ⟨⟨[]⟩⟩] := .mk' (by kernel_rfl) ty162
theorem st163 : StructT Tryz.prog 163 [(0, 1), (1, 1), (2, 1), (3, 1)] [false, false, false, false] [.pointer none, .pointer none, .pointer none, .string ⟨⟨[]⟩⟩] := .mk' (by kernel_rfl) ty163
theorem con163 : concreteB Tryz.prog 163 = true := by kernel_rfl
theorem arr164 : ArrT Tryz.prog 164 16 0 (.pointer none) 8 := ⟨Tryz.underlying164, ty16⟩
theorem st165 : StructT Tryz.prog 165 [(0, 0)] [true] [] := .mk' (by kernel_rfl) ty165
theorem st166 : StructT Tryz.prog 166 [(0, 0)] [true] [] := .mk' (by kernel_rfl) ty166
theorem con166 : concreteB Tryz.prog 166 = true := by kernel_rfl
theorem u8_168 : U8I Tryz.prog 168 := by unfold U8I; kernel_rfl
theorem u8_169 : U8I Tryz.prog 169 := by unfold U8I; kernel_rfl
theorem st173 : StructT Tryz.prog 173 [(0, 1), (1, 1), (2, 1), (3, 1), (4, 1), (5, 1), (6, 1), (7, 1), (8, 1), (9, 1), (10, 1)] [false, false, false, false, false, false, false, false, false, false, false] [.int .u64 0, .int .u64 0, .int .u32 0, .int .u8 0, .int .u8 0, .int .u8 0, .int .u8 0, .nilFunc, .pointer none, .int .i32 0, .int .i32 0] := .mk' (by kernel_rfl) ty173
theorem st174 : StructT Tryz.prog 174 [(0, 1), (1, 1), (2, 1), (3, 1), (4, 1), (5, 1), (6, 1), (7, 1), (8, 1), (9, 1), (10, 1)] [false, false, false, false, false, false, false, false, false, false, false] [.int .u64 0, .int .u64 0, .int .u32 0, .int .u8 0, .int .u8 0, .int .u8 0, .int .u8 0, .nilFunc, .pointer none, .int .i32 0, .int .i32 0] := .mk' (by kernel_rfl) ty174
theorem con174 : concreteB Tryz.prog 174 = true := by kernel_rfl
theorem st177 : StructT Tryz.prog 177 [(0, 1), (1, 1)] [false, false] [.pointer none, .slice none 0 0] := .mk' (by kernel_rfl) ty177
theorem st178 : StructT Tryz.prog 178 [(0, 1), (1, 1)] [false, false] [.pointer none, .slice none 0 0] := .mk' (by kernel_rfl) ty178
theorem con178 : concreteB Tryz.prog 178 = true := by kernel_rfl
theorem ifc185 : Tryz.prog.underlying 185 = some (.interface (Tryz.prog.methodsAt 185)) := by kernel_rfl
theorem ifc186 : Tryz.prog.underlying 186 = some (.interface (Tryz.prog.methodsAt 186)) := by kernel_rfl
theorem ifc187 : Tryz.prog.underlying 187 = some (.interface (Tryz.prog.methodsAt 187)) := by kernel_rfl
theorem ifc188 : Tryz.prog.underlying 188 = some (.interface (Tryz.prog.methodsAt 188)) := by kernel_rfl
theorem st193 : StructT Tryz.prog 193 [(0, 1)] [false] [.nilIface] := .mk' (by kernel_rfl) ty193
theorem st194 : StructT Tryz.prog 194 [(0, 1)] [false] [.nilIface] := .mk' (by kernel_rfl) ty194
theorem con194 : concreteB Tryz.prog 194 = true := by kernel_rfl

end Go.Proofs.YtofbiladpmcjgaaGreatDoor
