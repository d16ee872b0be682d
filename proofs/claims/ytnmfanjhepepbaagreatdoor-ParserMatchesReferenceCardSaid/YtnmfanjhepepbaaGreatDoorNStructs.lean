/-
  The facts on this translation's structs: printed by a program of ours (gen_types.py).
-/
import Derived.Test.YtnmfanjhepepbaaGreatDoorNTypes
import Derived.Test.YtnmfanjhepepbaaGreatDoorNVcLex
import Derived.Test.YtnmfanjhepepbaaGreatDoorNVcArr
import Derived.Test.YtnmfanjhepepbaaGreatDoorNVcTree
namespace Go.Proofs.YtnmfanjhepepbaaGreatDoor
open Go
set_option maxRecDepth 100000

theorem ifc20 : Tryz.prog.underlying 20 = some (.interface (Tryz.prog.methodsAt 20)) := by kernel_rfl
theorem st25 : StructT Tryz.prog 25 [(0, 1)] [false] [.slice none 0 0] := .mk' (by kernel_rfl) ty25
theorem st38 : StructT Tryz.prog 38 [(0, 1), (1, 1), (2, 1), (3, 1)] [false, false, false, false] [.int .i64 0, .string ⟨⟨[]⟩⟩, .int .i64 0, .int .i64 0] := .mk' (by kernel_rfl) ty38
theorem st49 : StructT Tryz.prog 49 [(0, 1), (1, 1), (2, 1), (3, 1), (4, 1), (5, 1), (6, 1), (7, 1), (8, 1)] [false, false, false, false, false, false, false, false, false] [.int .i64 0, .string ⟨⟨[]⟩⟩, .slice none 0 0, .slice none 0 0, .slice none 0 0, .string ⟨⟨[]⟩⟩, .string ⟨⟨[]⟩⟩, .int .i64 0, .int .i64 0] := .mk' (by kernel_rfl) ty49
theorem st51 : StructT Tryz.prog 51 [(0, 1), (1, 1), (2, 1), (3, 1), (4, 1), (5, 1), (6, 1), (7, 1), (8, 1), (9, 1), (10, 1), (11, 1), (12, 1), (13, 1), (14, 1), (15, 1), (16, 9)] [false, false, false, false, false, false, false, false, false, false, false, false, false, false, false, false, true] [.int .i64 0, .string ⟨⟨[]⟩⟩, .int .i64 0, .string ⟨⟨[]⟩⟩, .string ⟨⟨[]⟩⟩, .slice none 0 0, .slice none 0 0, .int .i64 0, .int .i64 0, .int .i64 0, .slice none 0 0, .string ⟨⟨[]⟩⟩, .string ⟨⟨[]⟩⟩, .slice none 0 0, .slice none 0 0, .slice none 0 0, .int .i64 0, .string ⟨⟨[]⟩⟩, .slice none 0 0, .slice none 0 0, .slice none 0 0, .string ⟨⟨[]⟩⟩, .string ⟨⟨[]⟩⟩, .int .i64 0, .int .i64 0] := .mk' (by kernel_rfl) ty51
theorem st54 : StructT Tryz.prog 54 [(0, 1), (1, 1), (2, 1)] [false, false, false] [.int .i64 0, .int .i64 0, .string ⟨⟨[]⟩⟩] := .mk' (by kernel_rfl) ty54
theorem st56 : StructT Tryz.prog 56 [(0, 1), (1, 1), (2, 1), (3, 3)] [false, false, false, true] [.string ⟨⟨[]⟩⟩, .string ⟨⟨[]⟩⟩, .bool false, .int .i64 0, .int .i64 0, .string ⟨⟨[]⟩⟩] := .mk' (by kernel_rfl) ty56
theorem st58 : StructT Tryz.prog 58 [(0, 6), (6, 1), (7, 6), (13, 1)] [true, false, true, false] [.string ⟨⟨[]⟩⟩, .string ⟨⟨[]⟩⟩, .bool false, .int .i64 0, .int .i64 0, .string ⟨⟨[]⟩⟩, .int .i64 0, .string ⟨⟨[]⟩⟩, .string ⟨⟨[]⟩⟩, .bool false, .int .i64 0, .int .i64 0, .string ⟨⟨[]⟩⟩, .int .i64 0] := .mk' (by kernel_rfl) ty58
theorem st60 : StructT Tryz.prog 60 [(0, 1), (1, 1)] [false, false] [.int .i64 0, .int .i64 0] := .mk' (by kernel_rfl) ty60
theorem st62 : StructT Tryz.prog 62 [(0, 1), (1, 1), (2, 1), (3, 2), (5, 1), (6, 1)] [false, false, false, true, false, false] [.string ⟨⟨[]⟩⟩, .int .i64 0, .int .i64 0, .int .i64 0, .int .i64 0, .int .i64 0, .int .i64 0] := .mk' (by kernel_rfl) ty62
theorem st64 : StructT Tryz.prog 64 [(0, 1), (1, 1)] [false, false] [.int .i64 0, .int .i64 0] := .mk' (by kernel_rfl) ty64
theorem con64 : concreteB Tryz.prog 64 = true := by kernel_rfl
theorem st68 : StructT Tryz.prog 68 [(0, 1), (1, 1)] [false, false] [.slice none 0 0, .int .i64 0] := .mk' (by kernel_rfl) ty68
theorem st73 : StructT Tryz.prog 73 [(0, 1), (1, 1), (2, 1), (3, 1), (4, 1)] [false, false, false, false, false] [.slice none 0 0, .int .i64 0, .int .i64 0, .int .i64 0, .int .i64 0] := .mk' (by kernel_rfl) ty73
theorem st75 : StructT Tryz.prog 75 [(0, 1), (1, 1)] [false, false] [.int .i64 0, .int .i64 0] := .mk' (by kernel_rfl) ty75
theorem con75 : concreteB Tryz.prog 75 = true := by kernel_rfl
theorem st79 : StructT Tryz.prog 79 [(0, 1), (1, 1)] [false, false] [.string ⟨⟨[]⟩⟩, .int .i64 0] := .mk' (by kernel_rfl) ty79
theorem arr81 : ArrT Tryz.prog 81 80 4 (.nilFunc) 8 := ⟨Tryz.underlying81, ty80⟩
theorem st83 : StructT Tryz.prog 83 [(0, 4)] [true] [.nilFunc, .nilFunc, .nilFunc, .nilFunc] := .mk' (by kernel_rfl) ty83
theorem arr88 : ArrT Tryz.prog 88 9 10 (.string ⟨⟨[]⟩⟩) 16 := ⟨Tryz.underlying88, ty9⟩
theorem st105 : StructT Tryz.prog 105 [(0, 1), (1, 3)] [false, true] [.string ⟨⟨[]⟩⟩, .int .i64 0, .int .i64 0, .string ⟨⟨[]⟩⟩] := .mk' (by kernel_rfl) ty105
theorem pl108 : plainB Tryz.prog 108 [(0, 3), (1, 3)] = true := by kernel_rfl
theorem st108 : StructT Tryz.prog 108 [(0, 1), (1, 1)] [false, false] [.string ⟨⟨[]⟩⟩, .string ⟨⟨[]⟩⟩] := .mk' (by kernel_rfl) ty108
theorem st122 : StructT Tryz.prog 122 [(0, 1), (1, 1), (2, 3)] [false, false, true] [.string ⟨⟨[]⟩⟩, .int .i64 0, .int .i64 0, .int .i64 0, .string ⟨⟨[]⟩⟩] := .mk' (by kernel_rfl) ty122
theorem st149 : StructT Tryz.prog 149 [(0, 1), (1, 1), (2, 1)] [false, false, false] [.string ⟨⟨[]⟩⟩, .bool false, .nilFunc] := .mk' (by kernel_rfl) ty149
end Go.Proofs.YtnmfanjhepepbaaGreatDoor
