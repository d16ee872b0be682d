/-
  The facts on this translation's types that the walks use: printed by a program of ours (gen_types.py).
-/
import Derived.Test.YtnmfanjhepepbaaGreatDoorRows
import Derived.Test.YtnmfanjhepepbaaGreatDoorNVcMem2
namespace Go.Proofs.YtnmfanjhepepbaaGreatDoor
open Go
set_option maxRecDepth 100000

theorem mixed : Tryz.prog.follows .mixedOrders = true := by kernel_rfl
theorem ty3 : TyI Tryz.prog 3 false [.int .i64 0] 8 := .mk' (z := .int .i64 0) Tryz.underlying3 rfl (by kernel_rfl) rfl
theorem int3 : Tryz.prog.underlying 3 = some (.int .i64) := Tryz.underlying3
theorem ty4 : TyI Tryz.prog 4 false [.bool false] 1 := .mk' (z := .bool false) Tryz.underlying4 rfl (by kernel_rfl) rfl
theorem ty5 : TyI Tryz.prog 5 false [.int .u8 0] 1 := .mk' (z := .int .u8 0) Tryz.underlying5 rfl (by kernel_rfl) rfl
theorem int5 : Tryz.prog.underlying 5 = some (.int .u8) := Tryz.underlying5
theorem ty9 : TyI Tryz.prog 9 false [.string ⟨⟨[]⟩⟩] 16 := .mk' (z := .string ⟨⟨[]⟩⟩) Tryz.underlying9 rfl (by kernel_rfl) rfl
theorem str9 : Tryz.prog.underlying 9 = some .string := Tryz.underlying9
theorem ty23 : TyI Tryz.prog 23 false [.slice none 0 0] 24 := .mk' (z := .slice none 0 0) Tryz.underlying23 rfl (by kernel_rfl) rfl
theorem sl23 : SliceT Tryz.prog 23 51 := Tryz.underlying23
theorem ty25 : TyI Tryz.prog 25 true [.slice none 0 0] 24 := .mk' (z := .agg ⟨[.slice none 0 0]⟩) Tryz.underlying25 rfl (by kernel_rfl) rfl
theorem ty26 : TyI Tryz.prog 26 false [.int .i64 0] 8 := .mk' (z := .int .i64 0) Tryz.underlying26 rfl (by kernel_rfl) rfl
theorem ty31 : TyI Tryz.prog 31 false [.slice none 0 0] 24 := .mk' (z := .slice none 0 0) Tryz.underlying31 rfl (by kernel_rfl) rfl
theorem sl31 : SliceT Tryz.prog 31 38 := Tryz.underlying31
theorem ty38 : TyI Tryz.prog 38 true [.int .i64 0, .string ⟨⟨[]⟩⟩, .int .i64 0, .int .i64 0] 40 := .mk' (z := .agg ⟨[.int .i64 0, .string ⟨⟨[]⟩⟩, .int .i64 0, .int .i64 0]⟩) Tryz.underlying38 rfl (by kernel_rfl) rfl
theorem ty41 : TyI Tryz.prog 41 false [.slice none 0 0] 24 := .mk' (z := .slice none 0 0) Tryz.underlying41 rfl (by kernel_rfl) rfl
theorem sl41 : SliceT Tryz.prog 41 122 := Tryz.underlying41
theorem ty42 : TyI Tryz.prog 42 false [.slice none 0 0] 24 := .mk' (z := .slice none 0 0) Tryz.underlying42 rfl (by kernel_rfl) rfl
theorem sl42 : SliceT Tryz.prog 42 9 := Tryz.underlying42
theorem ty43 : TyI Tryz.prog 43 false [.slice none 0 0] 24 := .mk' (z := .slice none 0 0) Tryz.underlying43 rfl (by kernel_rfl) rfl
theorem sl43 : SliceT Tryz.prog 43 62 := Tryz.underlying43
theorem ty44 : TyI Tryz.prog 44 false [.slice none 0 0] 24 := .mk' (z := .slice none 0 0) Tryz.underlying44 rfl (by kernel_rfl) rfl
theorem sl44 : SliceT Tryz.prog 44 105 := Tryz.underlying44
theorem ty45 : TyI Tryz.prog 45 false [.slice none 0 0] 24 := .mk' (z := .slice none 0 0) Tryz.underlying45 rfl (by kernel_rfl) rfl
theorem sl45 : SliceT Tryz.prog 45 108 := Tryz.underlying45
theorem ty46 : TyI Tryz.prog 46 false [.slice none 0 0] 24 := .mk' (z := .slice none 0 0) Tryz.underlying46 rfl (by kernel_rfl) rfl
theorem sl46 : SliceT Tryz.prog 46 58 := Tryz.underlying46
theorem ty47 : TyI Tryz.prog 47 false [.slice none 0 0] 24 := .mk' (z := .slice none 0 0) Tryz.underlying47 rfl (by kernel_rfl) rfl
theorem sl47 : SliceT Tryz.prog 47 49 := Tryz.underlying47
theorem ty49 : TyI Tryz.prog 49 true [.int .i64 0, .string ⟨⟨[]⟩⟩, .slice none 0 0, .slice none 0 0, .slice none 0 0, .string ⟨⟨[]⟩⟩, .string ⟨⟨[]⟩⟩, .int .i64 0, .int .i64 0] 144 := .mk' (z := .agg ⟨[.int .i64 0, .string ⟨⟨[]⟩⟩, .slice none 0 0, .slice none 0 0, .slice none 0 0, .string ⟨⟨[]⟩⟩, .string ⟨⟨[]⟩⟩, .int .i64 0, .int .i64 0]⟩) Tryz.underlying49 rfl (by kernel_rfl) rfl
theorem ty51 : TyI Tryz.prog 51 true [.int .i64 0, .string ⟨⟨[]⟩⟩, .int .i64 0, .string ⟨⟨[]⟩⟩, .string ⟨⟨[]⟩⟩, .slice none 0 0, .slice none 0 0, .int .i64 0, .int .i64 0, .int .i64 0, .slice none 0 0, .string ⟨⟨[]⟩⟩, .string ⟨⟨[]⟩⟩, .slice none 0 0, .slice none 0 0, .slice none 0 0, .int .i64 0, .string ⟨⟨[]⟩⟩, .slice none 0 0, .slice none 0 0, .slice none 0 0, .string ⟨⟨[]⟩⟩, .string ⟨⟨[]⟩⟩, .int .i64 0, .int .i64 0] 408 := .mk' (z := .agg ⟨[.int .i64 0, .string ⟨⟨[]⟩⟩, .int .i64 0, .string ⟨⟨[]⟩⟩, .string ⟨⟨[]⟩⟩, .slice none 0 0, .slice none 0 0, .int .i64 0, .int .i64 0, .int .i64 0, .slice none 0 0, .string ⟨⟨[]⟩⟩, .string ⟨⟨[]⟩⟩, .slice none 0 0, .slice none 0 0, .slice none 0 0, .int .i64 0, .string ⟨⟨[]⟩⟩, .slice none 0 0, .slice none 0 0, .slice none 0 0, .string ⟨⟨[]⟩⟩, .string ⟨⟨[]⟩⟩, .int .i64 0, .int .i64 0]⟩) Tryz.underlying51 rfl (by kernel_rfl) rfl
theorem ty54 : TyI Tryz.prog 54 true [.int .i64 0, .int .i64 0, .string ⟨⟨[]⟩⟩] 32 := .mk' (z := .agg ⟨[.int .i64 0, .int .i64 0, .string ⟨⟨[]⟩⟩]⟩) Tryz.underlying54 rfl (by kernel_rfl) rfl
theorem ty56 : TyI Tryz.prog 56 true [.string ⟨⟨[]⟩⟩, .string ⟨⟨[]⟩⟩, .bool false, .int .i64 0, .int .i64 0, .string ⟨⟨[]⟩⟩] 72 := .mk' (z := .agg ⟨[.string ⟨⟨[]⟩⟩, .string ⟨⟨[]⟩⟩, .bool false, .int .i64 0, .int .i64 0, .string ⟨⟨[]⟩⟩]⟩) Tryz.underlying56 rfl (by kernel_rfl) rfl
theorem ty58 : TyI Tryz.prog 58 true [.string ⟨⟨[]⟩⟩, .string ⟨⟨[]⟩⟩, .bool false, .int .i64 0, .int .i64 0, .string ⟨⟨[]⟩⟩, .int .i64 0, .string ⟨⟨[]⟩⟩, .string ⟨⟨[]⟩⟩, .bool false, .int .i64 0, .int .i64 0, .string ⟨⟨[]⟩⟩, .int .i64 0] 160 := .mk' (z := .agg ⟨[.string ⟨⟨[]⟩⟩, .string ⟨⟨[]⟩⟩, .bool false, .int .i64 0, .int .i64 0, .string ⟨⟨[]⟩⟩, .int .i64 0, .string ⟨⟨[]⟩⟩, .string ⟨⟨[]⟩⟩, .bool false, .int .i64 0, .int .i64 0, .string ⟨⟨[]⟩⟩, .int .i64 0]⟩) Tryz.underlying58 rfl (by kernel_rfl) rfl
theorem ty60 : TyI Tryz.prog 60 true [.int .i64 0, .int .i64 0] 16 := .mk' (z := .agg ⟨[.int .i64 0, .int .i64 0]⟩) Tryz.underlying60 rfl (by kernel_rfl) rfl
theorem ty62 : TyI Tryz.prog 62 true [.string ⟨⟨[]⟩⟩, .int .i64 0, .int .i64 0, .int .i64 0, .int .i64 0, .int .i64 0, .int .i64 0] 64 := .mk' (z := .agg ⟨[.string ⟨⟨[]⟩⟩, .int .i64 0, .int .i64 0, .int .i64 0, .int .i64 0, .int .i64 0, .int .i64 0]⟩) Tryz.underlying62 rfl (by kernel_rfl) rfl
theorem ty64 : TyI Tryz.prog 64 true [.int .i64 0, .int .i64 0] 16 := .mk' (z := .agg ⟨[.int .i64 0, .int .i64 0]⟩) Tryz.underlying64 rfl (by kernel_rfl) rfl
theorem ty66 : TyI Tryz.prog 66 false [.pointer none] 8 := .mk' (z := .pointer none) Tryz.underlying66 rfl (by kernel_rfl) rfl
theorem ty68 : TyI Tryz.prog 68 true [.slice none 0 0, .int .i64 0] 32 := .mk' (z := .agg ⟨[.slice none 0 0, .int .i64 0]⟩) Tryz.underlying68 rfl (by kernel_rfl) rfl
theorem ty73 : TyI Tryz.prog 73 true [.slice none 0 0, .int .i64 0, .int .i64 0, .int .i64 0, .int .i64 0] 56 := .mk' (z := .agg ⟨[.slice none 0 0, .int .i64 0, .int .i64 0, .int .i64 0, .int .i64 0]⟩) Tryz.underlying73 rfl (by kernel_rfl) rfl
theorem ty75 : TyI Tryz.prog 75 true [.int .i64 0, .int .i64 0] 16 := .mk' (z := .agg ⟨[.int .i64 0, .int .i64 0]⟩) Tryz.underlying75 rfl (by kernel_rfl) rfl
theorem ty79 : TyI Tryz.prog 79 true [.string ⟨⟨[]⟩⟩, .int .i64 0] 24 := .mk' (z := .agg ⟨[.string ⟨⟨[]⟩⟩, .int .i64 0]⟩) Tryz.underlying79 rfl (by kernel_rfl) rfl
theorem ty80 : TyI Tryz.prog 80 false [.nilFunc] 8 := .mk' (z := .nilFunc) Tryz.underlying80 rfl (by kernel_rfl) rfl
theorem ty81 : TyI Tryz.prog 81 true [.nilFunc, .nilFunc, .nilFunc, .nilFunc] 32 := .mk' (z := .agg ⟨[.nilFunc, .nilFunc, .nilFunc, .nilFunc]⟩) Tryz.underlying81 rfl (by kernel_rfl) rfl
theorem ty83 : TyI Tryz.prog 83 true [.nilFunc, .nilFunc, .nilFunc, .nilFunc] 32 := .mk' (z := .agg ⟨[.nilFunc, .nilFunc, .nilFunc, .nilFunc]⟩) Tryz.underlying83 rfl (by kernel_rfl) rfl
theorem ty105 : TyI Tryz.prog 105 true [.string ⟨⟨[]⟩⟩, .int .i64 0, .int .i64 0, .string ⟨⟨[]⟩⟩] 48 := .mk' (z := .agg ⟨[.string ⟨⟨[]⟩⟩, .int .i64 0, .int .i64 0, .string ⟨⟨[]⟩⟩]⟩) Tryz.underlying105 rfl (by kernel_rfl) rfl
theorem ty108 : TyI Tryz.prog 108 true [.string ⟨⟨[]⟩⟩, .string ⟨⟨[]⟩⟩] 32 := .mk' (z := .agg ⟨[.string ⟨⟨[]⟩⟩, .string ⟨⟨[]⟩⟩]⟩) Tryz.underlying108 rfl (by kernel_rfl) rfl
theorem sl117 : SliceT Tryz.prog 117 5 := Tryz.underlying117
theorem ty122 : TyI Tryz.prog 122 true [.string ⟨⟨[]⟩⟩, .int .i64 0, .int .i64 0, .int .i64 0, .string ⟨⟨[]⟩⟩] 56 := .mk' (z := .agg ⟨[.string ⟨⟨[]⟩⟩, .int .i64 0, .int .i64 0, .int .i64 0, .string ⟨⟨[]⟩⟩]⟩) Tryz.underlying122 rfl (by kernel_rfl) rfl
theorem sl145 : SliceT Tryz.prog 145 149 := Tryz.underlying145
theorem ty147 : TyI Tryz.prog 147 false [.nilFunc] 8 := .mk' (z := .nilFunc) Tryz.underlying147 rfl (by kernel_rfl) rfl
theorem ty149 : TyI Tryz.prog 149 true [.string ⟨⟨[]⟩⟩, .bool false, .nilFunc] 32 := .mk' (z := .agg ⟨[.string ⟨⟨[]⟩⟩, .bool false, .nilFunc]⟩) Tryz.underlying149 rfl (by kernel_rfl) rfl
end Go.Proofs.YtnmfanjhepepbaaGreatDoor
