/-
  The facts on this translation's types that the walks use: printed by a program of ours (gen_types.py).
-/
import Derived.Test.YtnmfanjhepepbaaGreatDoorRows
import Derived.Test.YtnmfanjhepepbaaGreatDoorVcMem2
namespace Go.Proofs.YtnmfanjhepepbaaGreatDoor
open Go
set_option maxRecDepth 100000

theorem mixed : Tryz.prog.follows .mixedOrders = true := by kernel_rfl
theorem ty1 : TyI Tryz.prog 1 false [.nilFunc] 8 := .mk' (z := .nilFunc) Tryz.underlying1 rfl (by kernel_rfl) rfl
theorem ty2 : TyI Tryz.prog 2 false [.int .i64 0] 8 := .mk' (z := .int .i64 0) Tryz.underlying2 rfl (by kernel_rfl) rfl
theorem int2 : Tryz.prog.underlying 2 = some (.int .i64) := Tryz.underlying2
theorem ty3 : TyI Tryz.prog 3 false [.int .i64 0] 8 := .mk' (z := .int .i64 0) Tryz.underlying3 rfl (by kernel_rfl) rfl
theorem int3 : Tryz.prog.underlying 3 = some (.int .i64) := Tryz.underlying3
theorem ty4 : TyI Tryz.prog 4 false [.bool false] 1 := .mk' (z := .bool false) Tryz.underlying4 rfl (by kernel_rfl) rfl
theorem bool4 : Tryz.prog.underlying 4 = some .bool := Tryz.underlying4
theorem ty5 : TyI Tryz.prog 5 false [.int .u8 0] 1 := .mk' (z := .int .u8 0) Tryz.underlying5 rfl (by kernel_rfl) rfl
theorem int5 : Tryz.prog.underlying 5 = some (.int .u8) := Tryz.underlying5
theorem ty6 : TyI Tryz.prog 6 false [.int .u8 0] 1 := .mk' (z := .int .u8 0) Tryz.underlying6 rfl (by kernel_rfl) rfl
theorem int6 : Tryz.prog.underlying 6 = some (.int .u8) := Tryz.underlying6
theorem ty7 : TyI Tryz.prog 7 true [.int .i64 0, .int .i64 0, .bool false, .int .u8 0] 24 := .mk' (z := .agg ⟨[.int .i64 0, .int .i64 0, .bool false, .int .u8 0]⟩) Tryz.underlying7 rfl (by kernel_rfl) rfl
theorem ty8 : TyI Tryz.prog 8 true [.int .i64 0, .int .i64 0, .bool false, .int .u8 0] 24 := .mk' (z := .agg ⟨[.int .i64 0, .int .i64 0, .bool false, .int .u8 0]⟩) Tryz.underlying8 rfl (by kernel_rfl) rfl
theorem ty9 : TyI Tryz.prog 9 false [.string ⟨⟨[]⟩⟩] 16 := .mk' (z := .string ⟨⟨[]⟩⟩) Tryz.underlying9 rfl (by kernel_rfl) rfl
theorem str9 : Tryz.prog.underlying 9 = some .string := Tryz.underlying9
theorem ty10 : TyI Tryz.prog 10 false [.string ⟨⟨[]⟩⟩] 16 := .mk' (z := .string ⟨⟨[]⟩⟩) Tryz.underlying10 rfl (by kernel_rfl) rfl
theorem str10 : Tryz.prog.underlying 10 = some .string := Tryz.underlying10
theorem ty11 : TyI Tryz.prog 11 false [.string ⟨⟨[]⟩⟩] 16 := .mk' (z := .string ⟨⟨[]⟩⟩) Tryz.underlying11 rfl (by kernel_rfl) rfl
theorem str11 : Tryz.prog.underlying 11 = some .string := Tryz.underlying11
theorem ty12 : TyI Tryz.prog 12 false [.int .u64 0] 8 := .mk' (z := .int .u64 0) Tryz.underlying12 rfl (by kernel_rfl) rfl
theorem int12 : Tryz.prog.underlying 12 = some (.int .u64) := Tryz.underlying12
theorem ty13 : TyI Tryz.prog 13 true [.string ⟨⟨[]⟩⟩, .int .u64 0] 24 := .mk' (z := .agg ⟨[.string ⟨⟨[]⟩⟩, .int .u64 0]⟩) Tryz.underlying13 rfl (by kernel_rfl) rfl
theorem ty14 : TyI Tryz.prog 14 true [.string ⟨⟨[]⟩⟩, .int .u64 0] 24 := .mk' (z := .agg ⟨[.string ⟨⟨[]⟩⟩, .int .u64 0]⟩) Tryz.underlying14 rfl (by kernel_rfl) rfl
theorem ty15 : TyI Tryz.prog 15 false [.pointer none] 8 := .mk' (z := .pointer none) Tryz.underlying15 rfl (by kernel_rfl) rfl
theorem ty16 : TyI Tryz.prog 16 false [.pointer none] 8 := .mk' (z := .pointer none) Tryz.underlying16 rfl (by kernel_rfl) rfl
theorem ty17 : TyI Tryz.prog 17 false [.pointer none] 8 := .mk' (z := .pointer none) Tryz.underlying17 rfl (by kernel_rfl) rfl
theorem ty18 : TyI Tryz.prog 18 true [.pointer none] 8 := .mk' (z := .agg ⟨[.pointer none]⟩) Tryz.underlying18 rfl (by kernel_rfl) rfl
theorem ty19 : TyI Tryz.prog 19 true [.pointer none] 8 := .mk' (z := .agg ⟨[.pointer none]⟩) Tryz.underlying19 rfl (by kernel_rfl) rfl
theorem ty20 : TyI Tryz.prog 20 false [.nilIface] 16 := .mk' (z := .nilIface) Tryz.underlying20 rfl (by kernel_rfl) rfl
theorem ty21 : TyI Tryz.prog 21 false [.int .i32 0] 4 := .mk' (z := .int .i32 0) Tryz.underlying21 rfl (by kernel_rfl) rfl
theorem int21 : Tryz.prog.underlying 21 = some (.int .i32) := Tryz.underlying21
theorem ty22 : TyI Tryz.prog 22 false [.nilFunc] 8 := .mk' (z := .nilFunc) Tryz.underlying22 rfl (by kernel_rfl) rfl
theorem ty23 : TyI Tryz.prog 23 false [.slice none 0 0] 24 := .mk' (z := .slice none 0 0) Tryz.underlying23 rfl (by kernel_rfl) rfl
theorem sl23 : SliceT Tryz.prog 23 51 := Tryz.underlying23
theorem ty24 : TyI Tryz.prog 24 true [.slice none 0 0] 24 := .mk' (z := .agg ⟨[.slice none 0 0]⟩) Tryz.underlying24 rfl (by kernel_rfl) rfl
theorem ty25 : TyI Tryz.prog 25 true [.slice none 0 0] 24 := .mk' (z := .agg ⟨[.slice none 0 0]⟩) Tryz.underlying25 rfl (by kernel_rfl) rfl
theorem ty26 : TyI Tryz.prog 26 false [.int .i64 0] 8 := .mk' (z := .int .i64 0) Tryz.underlying26 rfl (by kernel_rfl) rfl
theorem int26 : Tryz.prog.underlying 26 = some (.int .i64) := Tryz.underlying26
theorem ty28 : TyI Tryz.prog 28 false [.nilFunc] 8 := .mk' (z := .nilFunc) Tryz.underlying28 rfl (by kernel_rfl) rfl
theorem ty29 : TyI Tryz.prog 29 false [.nilFunc] 8 := .mk' (z := .nilFunc) Tryz.underlying29 rfl (by kernel_rfl) rfl
theorem ty30 : TyI Tryz.prog 30 false [.nilFunc] 8 := .mk' (z := .nilFunc) Tryz.underlying30 rfl (by kernel_rfl) rfl
theorem ty31 : TyI Tryz.prog 31 false [.slice none 0 0] 24 := .mk' (z := .slice none 0 0) Tryz.underlying31 rfl (by kernel_rfl) rfl
theorem sl31 : SliceT Tryz.prog 31 38 := Tryz.underlying31
theorem ty33 : TyI Tryz.prog 33 false [.nilFunc] 8 := .mk' (z := .nilFunc) Tryz.underlying33 rfl (by kernel_rfl) rfl
theorem ty34 : TyI Tryz.prog 34 false [.slice none 0 0] 24 := .mk' (z := .slice none 0 0) Tryz.underlying34 rfl (by kernel_rfl) rfl
theorem sl34 : SliceT Tryz.prog 34 3 := Tryz.underlying34
theorem ty36 : TyI Tryz.prog 36 false [.nilFunc] 8 := .mk' (z := .nilFunc) Tryz.underlying36 rfl (by kernel_rfl) rfl
theorem ty37 : TyI Tryz.prog 37 true [.int .i64 0, .string ⟨⟨[]⟩⟩, .int .i64 0, .int .i64 0] 40 := .mk' (z := .agg ⟨[.int .i64 0, .string ⟨⟨[]⟩⟩, .int .i64 0, .int .i64 0]⟩) Tryz.underlying37 rfl (by kernel_rfl) rfl
theorem ty38 : TyI Tryz.prog 38 true [.int .i64 0, .string ⟨⟨[]⟩⟩, .int .i64 0, .int .i64 0] 40 := .mk' (z := .agg ⟨[.int .i64 0, .string ⟨⟨[]⟩⟩, .int .i64 0, .int .i64 0]⟩) Tryz.underlying38 rfl (by kernel_rfl) rfl
theorem ty39 : TyI Tryz.prog 39 false [.nilFunc] 8 := .mk' (z := .nilFunc) Tryz.underlying39 rfl (by kernel_rfl) rfl
theorem ty40 : TyI Tryz.prog 40 false [.nilFunc] 8 := .mk' (z := .nilFunc) Tryz.underlying40 rfl (by kernel_rfl) rfl
theorem ty41 : TyI Tryz.prog 41 false [.slice none 0 0] 24 := .mk' (z := .slice none 0 0) Tryz.underlying41 rfl (by kernel_rfl) rfl
theorem sl41 : SliceT Tryz.prog 41 122 := Tryz.underlying41
theorem ty42 : TyI Tryz.prog 42 false [.slice none 0 0] 24 := .mk' (z := .slice none 0 0) Tryz.underlying42 rfl (by kernel_rfl) rfl
theorem sl42 : SliceT Tryz.prog 42 9 := Tryz.underlying42
theorem ty43 : TyI Tryz.prog 43 false [.slice none 0 0] 24 := .mk' (z := .slice none 0 0) Tryz.underlying43 rfl (by kernel_rfl) rfl
theorem sl43 : SliceT Tryz.prog 43 62 := Tryz.underlying43
theorem ty44 : TyI Tryz.prog 44 false [.slice none 0 0] 24 := .mk' (z := .slice none 0 0) Tryz.underlying44 rfl (by kernel_rfl) rfl
theorem sl44 : SliceT Tryz.prog 44 105 := Tryz.underlying44
theorem ty45 : TyI Tryz.prog 45 false [.slice none 0 0] 24 := .mk' (z := .slice none 0 0) Tryz.underlying45 rfl (by kernel_rfl) rfl
theorem sl45 : SliceT Tryz.prog 45 108 := Tryz.underlying45
theorem ty46 : TyI Tryz.prog 46 false [.slice none 0 0] 24 := .mk' (z := .slice none 0 0) Tryz.underlying46 rfl (by kernel_rfl) rfl
theorem sl46 : SliceT Tryz.prog 46 58 := Tryz.underlying46
theorem ty47 : TyI Tryz.prog 47 false [.slice none 0 0] 24 := .mk' (z := .slice none 0 0) Tryz.underlying47 rfl (by kernel_rfl) rfl
theorem sl47 : SliceT Tryz.prog 47 49 := Tryz.underlying47
theorem ty48 : TyI Tryz.prog 48 true [.int .i64 0, .string ⟨⟨[]⟩⟩, .slice none 0 0, .slice none 0 0, .slice none 0 0, .string ⟨⟨[]⟩⟩, .string ⟨⟨[]⟩⟩, .int .i64 0, .int .i64 0] 144 := .mk' (z := .agg ⟨[.int .i64 0, .string ⟨⟨[]⟩⟩, .slice none 0 0, .slice none 0 0, .slice none 0 0, .string ⟨⟨[]⟩⟩, .string ⟨⟨[]⟩⟩, .int .i64 0, .int .i64 0]⟩) Tryz.underlying48 rfl (by kernel_rfl) rfl
theorem ty49 : TyI Tryz.prog 49 true [.int .i64 0, .string ⟨⟨[]⟩⟩, .slice none 0 0, .slice none 0 0, .slice none 0 0, .string ⟨⟨[]⟩⟩, .string ⟨⟨[]⟩⟩, .int .i64 0, .int .i64 0] 144 := .mk' (z := .agg ⟨[.int .i64 0, .string ⟨⟨[]⟩⟩, .slice none 0 0, .slice none 0 0, .slice none 0 0, .string ⟨⟨[]⟩⟩, .string ⟨⟨[]⟩⟩, .int .i64 0, .int .i64 0]⟩) Tryz.underlying49 rfl (by kernel_rfl) rfl
theorem ty50 : TyI Tryz.prog 50 true [.int .i64 0, .string ⟨⟨[]⟩⟩, .int .i64 0, .string ⟨⟨[]⟩⟩, .string ⟨⟨[]⟩⟩, .slice none 0 0, .slice none 0 0, .int .i64 0, .int .i64 0, .int .i64 0, .slice none 0 0, .string ⟨⟨[]⟩⟩, .string ⟨⟨[]⟩⟩, .slice none 0 0, .slice none 0 0, .slice none 0 0, .int .i64 0, .string ⟨⟨[]⟩⟩, .slice none 0 0, .slice none 0 0, .slice none 0 0, .string ⟨⟨[]⟩⟩, .string ⟨⟨[]⟩⟩, .int .i64 0, .int .i64 0] 408 := .mk' (z := .agg ⟨[.int .i64 0, .string ⟨⟨[]⟩⟩, .int .i64 0, .string ⟨⟨[]⟩⟩, .string ⟨⟨[]⟩⟩, .slice none 0 0, .slice none 0 0, .int .i64 0, .int .i64 0, .int .i64 0, .slice none 0 0, .string ⟨⟨[]⟩⟩, .string ⟨⟨[]⟩⟩, .slice none 0 0, .slice none 0 0, .slice none 0 0, .int .i64 0, .string ⟨⟨[]⟩⟩, .slice none 0 0, .slice none 0 0, .slice none 0 0, .string ⟨⟨[]⟩⟩, .string ⟨⟨[]⟩⟩, .int .i64 0, .int .i64 0]⟩) Tryz.underlying50 rfl (by kernel_rfl) rfl
theorem ty51 : TyI Tryz.prog 51 true [.int .i64 0, .string ⟨⟨[]⟩⟩, .int .i64 0, .string ⟨⟨[]⟩⟩, .string ⟨⟨[]⟩⟩, .slice none 0 0, .slice none 0 0, .int .i64 0, .int .i64 0, .int .i64 0, .slice none 0 0, .string ⟨⟨[]⟩⟩, .string ⟨⟨[]⟩⟩, .slice none 0 0, .slice none 0 0, .slice none 0 0, .int .i64 0, .string ⟨⟨[]⟩⟩, .slice none 0 0, .slice none 0 0, .slice none 0 0, .string ⟨⟨[]⟩⟩, .string ⟨⟨[]⟩⟩, .int .i64 0, .int .i64 0] 408 := .mk' (z := .agg ⟨[.int .i64 0, .string ⟨⟨[]⟩⟩, .int .i64 0, .string ⟨⟨[]⟩⟩, .string ⟨⟨[]⟩⟩, .slice none 0 0, .slice none 0 0, .int .i64 0, .int .i64 0, .int .i64 0, .slice none 0 0, .string ⟨⟨[]⟩⟩, .string ⟨⟨[]⟩⟩, .slice none 0 0, .slice none 0 0, .slice none 0 0, .int .i64 0, .string ⟨⟨[]⟩⟩, .slice none 0 0, .slice none 0 0, .slice none 0 0, .string ⟨⟨[]⟩⟩, .string ⟨⟨[]⟩⟩, .int .i64 0, .int .i64 0]⟩) Tryz.underlying51 rfl (by kernel_rfl) rfl
theorem ty52 : TyI Tryz.prog 52 false [.nilFunc] 8 := .mk' (z := .nilFunc) Tryz.underlying52 rfl (by kernel_rfl) rfl
theorem ty53 : TyI Tryz.prog 53 true [.int .i64 0, .int .i64 0, .string ⟨⟨[]⟩⟩] 32 := .mk' (z := .agg ⟨[.int .i64 0, .int .i64 0, .string ⟨⟨[]⟩⟩]⟩) Tryz.underlying53 rfl (by kernel_rfl) rfl
theorem ty54 : TyI Tryz.prog 54 true [.int .i64 0, .int .i64 0, .string ⟨⟨[]⟩⟩] 32 := .mk' (z := .agg ⟨[.int .i64 0, .int .i64 0, .string ⟨⟨[]⟩⟩]⟩) Tryz.underlying54 rfl (by kernel_rfl) rfl
theorem ty55 : TyI Tryz.prog 55 true [.string ⟨⟨[]⟩⟩, .string ⟨⟨[]⟩⟩, .bool false, .int .i64 0, .int .i64 0, .string ⟨⟨[]⟩⟩] 72 := .mk' (z := .agg ⟨[.string ⟨⟨[]⟩⟩, .string ⟨⟨[]⟩⟩, .bool false, .int .i64 0, .int .i64 0, .string ⟨⟨[]⟩⟩]⟩) Tryz.underlying55 rfl (by kernel_rfl) rfl
theorem ty56 : TyI Tryz.prog 56 true [.string ⟨⟨[]⟩⟩, .string ⟨⟨[]⟩⟩, .bool false, .int .i64 0, .int .i64 0, .string ⟨⟨[]⟩⟩] 72 := .mk' (z := .agg ⟨[.string ⟨⟨[]⟩⟩, .string ⟨⟨[]⟩⟩, .bool false, .int .i64 0, .int .i64 0, .string ⟨⟨[]⟩⟩]⟩) Tryz.underlying56 rfl (by kernel_rfl) rfl
theorem ty57 : TyI Tryz.prog 57 true [.string ⟨⟨[]⟩⟩, .string ⟨⟨[]⟩⟩, .bool false, .int .i64 0, .int .i64 0, .string ⟨⟨[]⟩⟩, .int .i64 0, .string ⟨⟨[]⟩⟩, .string ⟨⟨[]⟩⟩, .bool false, .int .i64 0, .int .i64 0, .string ⟨⟨[]⟩⟩, .int .i64 0] 160 := .mk' (z := .agg ⟨[.string ⟨⟨[]⟩⟩, .string ⟨⟨[]⟩⟩, .bool false, .int .i64 0, .int .i64 0, .string ⟨⟨[]⟩⟩, .int .i64 0, .string ⟨⟨[]⟩⟩, .string ⟨⟨[]⟩⟩, .bool false, .int .i64 0, .int .i64 0, .string ⟨⟨[]⟩⟩, .int .i64 0]⟩) Tryz.underlying57 rfl (by kernel_rfl) rfl
theorem ty58 : TyI Tryz.prog 58 true [.string ⟨⟨[]⟩⟩, .string ⟨⟨[]⟩⟩, .bool false, .int .i64 0, .int .i64 0, .string ⟨⟨[]⟩⟩, .int .i64 0, .string ⟨⟨[]⟩⟩, .string ⟨⟨[]⟩⟩, .bool false, .int .i64 0, .int .i64 0, .string ⟨⟨[]⟩⟩, .int .i64 0] 160 := .mk' (z := .agg ⟨[.string ⟨⟨[]⟩⟩, .string ⟨⟨[]⟩⟩, .bool false, .int .i64 0, .int .i64 0, .string ⟨⟨[]⟩⟩, .int .i64 0, .string ⟨⟨[]⟩⟩, .string ⟨⟨[]⟩⟩, .bool false, .int .i64 0, .int .i64 0, .string ⟨⟨[]⟩⟩, .int .i64 0]⟩) Tryz.underlying58 rfl (by kernel_rfl) rfl
theorem ty59 : TyI Tryz.prog 59 true [.int .i64 0, .int .i64 0] 16 := .mk' (z := .agg ⟨[.int .i64 0, .int .i64 0]⟩) Tryz.underlying59 rfl (by kernel_rfl) rfl
theorem ty60 : TyI Tryz.prog 60 true [.int .i64 0, .int .i64 0] 16 := .mk' (z := .agg ⟨[.int .i64 0, .int .i64 0]⟩) Tryz.underlying60 rfl (by kernel_rfl) rfl
theorem ty61 : TyI Tryz.prog 61 true [.string ⟨⟨[]⟩⟩, .int .i64 0, .int .i64 0, .int .i64 0, .int .i64 0, .int .i64 0, .int .i64 0] 64 := .mk' (z := .agg ⟨[.string ⟨⟨[]⟩⟩, .int .i64 0, .int .i64 0, .int .i64 0, .int .i64 0, .int .i64 0, .int .i64 0]⟩) Tryz.underlying61 rfl (by kernel_rfl) rfl
theorem ty62 : TyI Tryz.prog 62 true [.string ⟨⟨[]⟩⟩, .int .i64 0, .int .i64 0, .int .i64 0, .int .i64 0, .int .i64 0, .int .i64 0] 64 := .mk' (z := .agg ⟨[.string ⟨⟨[]⟩⟩, .int .i64 0, .int .i64 0, .int .i64 0, .int .i64 0, .int .i64 0, .int .i64 0]⟩) Tryz.underlying62 rfl (by kernel_rfl) rfl
theorem ty63 : TyI Tryz.prog 63 true [.int .i64 0, .int .i64 0] 16 := .mk' (z := .agg ⟨[.int .i64 0, .int .i64 0]⟩) Tryz.underlying63 rfl (by kernel_rfl) rfl
theorem ty64 : TyI Tryz.prog 64 true [.int .i64 0, .int .i64 0] 16 := .mk' (z := .agg ⟨[.int .i64 0, .int .i64 0]⟩) Tryz.underlying64 rfl (by kernel_rfl) rfl
theorem ty66 : TyI Tryz.prog 66 false [.pointer none] 8 := .mk' (z := .pointer none) Tryz.underlying66 rfl (by kernel_rfl) rfl
theorem ty67 : TyI Tryz.prog 67 true [.slice none 0 0, .int .i64 0] 32 := .mk' (z := .agg ⟨[.slice none 0 0, .int .i64 0]⟩) Tryz.underlying67 rfl (by kernel_rfl) rfl
theorem ty68 : TyI Tryz.prog 68 true [.slice none 0 0, .int .i64 0] 32 := .mk' (z := .agg ⟨[.slice none 0 0, .int .i64 0]⟩) Tryz.underlying68 rfl (by kernel_rfl) rfl
theorem ty69 : TyI Tryz.prog 69 false [.nilFunc] 8 := .mk' (z := .nilFunc) Tryz.underlying69 rfl (by kernel_rfl) rfl
theorem ty70 : TyI Tryz.prog 70 false [.nilFunc] 8 := .mk' (z := .nilFunc) Tryz.underlying70 rfl (by kernel_rfl) rfl
theorem ty71 : TyI Tryz.prog 71 false [.pointer none] 8 := .mk' (z := .pointer none) Tryz.underlying71 rfl (by kernel_rfl) rfl
theorem ty72 : TyI Tryz.prog 72 true [.slice none 0 0, .int .i64 0, .int .i64 0, .int .i64 0, .int .i64 0] 56 := .mk' (z := .agg ⟨[.slice none 0 0, .int .i64 0, .int .i64 0, .int .i64 0, .int .i64 0]⟩) Tryz.underlying72 rfl (by kernel_rfl) rfl
theorem ty73 : TyI Tryz.prog 73 true [.slice none 0 0, .int .i64 0, .int .i64 0, .int .i64 0, .int .i64 0] 56 := .mk' (z := .agg ⟨[.slice none 0 0, .int .i64 0, .int .i64 0, .int .i64 0, .int .i64 0]⟩) Tryz.underlying73 rfl (by kernel_rfl) rfl
theorem ty74 : TyI Tryz.prog 74 true [.int .i64 0, .int .i64 0] 16 := .mk' (z := .agg ⟨[.int .i64 0, .int .i64 0]⟩) Tryz.underlying74 rfl (by kernel_rfl) rfl
theorem ty75 : TyI Tryz.prog 75 true [.int .i64 0, .int .i64 0] 16 := .mk' (z := .agg ⟨[.int .i64 0, .int .i64 0]⟩) Tryz.underlying75 rfl (by kernel_rfl) rfl
theorem ty77 : TyI Tryz.prog 77 false [.pointer none] 8 := .mk' (z := .pointer none) Tryz.underlying77 rfl (by kernel_rfl) rfl
theorem ty78 : TyI Tryz.prog 78 true [.string ⟨⟨[]⟩⟩, .int .i64 0] 24 := .mk' (z := .agg ⟨[.string ⟨⟨[]⟩⟩, .int .i64 0]⟩) Tryz.underlying78 rfl (by kernel_rfl) rfl
theorem ty79 : TyI Tryz.prog 79 true [.string ⟨⟨[]⟩⟩, .int .i64 0] 24 := .mk' (z := .agg ⟨[.string ⟨⟨[]⟩⟩, .int .i64 0]⟩) Tryz.underlying79 rfl (by kernel_rfl) rfl
theorem ty80 : TyI Tryz.prog 80 false [.nilFunc] 8 := .mk' (z := .nilFunc) Tryz.underlying80 rfl (by kernel_rfl) rfl
theorem ty81 : TyI Tryz.prog 81 true [.nilFunc, .nilFunc, .nilFunc, .nilFunc] 32 := .mk' (z := .agg ⟨[.nilFunc, .nilFunc, .nilFunc, .nilFunc]⟩) Tryz.underlying81 rfl (by kernel_rfl) rfl
theorem ty82 : TyI Tryz.prog 82 true [.nilFunc, .nilFunc, .nilFunc, .nilFunc] 32 := .mk' (z := .agg ⟨[.nilFunc, .nilFunc, .nilFunc, .nilFunc]⟩) Tryz.underlying82 rfl (by kernel_rfl) rfl
theorem ty83 : TyI Tryz.prog 83 true [.nilFunc, .nilFunc, .nilFunc, .nilFunc] 32 := .mk' (z := .agg ⟨[.nilFunc, .nilFunc, .nilFunc, .nilFunc]⟩) Tryz.underlying83 rfl (by kernel_rfl) rfl
theorem ty85 : TyI Tryz.prog 85 false [.nilFunc] 8 := .mk' (z := .nilFunc) Tryz.underlying85 rfl (by kernel_rfl) rfl
theorem ty86 : TyI Tryz.prog 86 false [.nilFunc] 8 := .mk' (z := .nilFunc) Tryz.underlying86 rfl (by kernel_rfl) rfl
theorem ty87 : TyI Tryz.prog 87 false [.nilFunc] 8 := .mk' (z := .nilFunc) Tryz.underlying87 rfl (by kernel_rfl) rfl
theorem ty88 : TyI Tryz.prog 88 true [.string ⟨⟨[]⟩⟩, .string ⟨⟨[]⟩⟩, .string ⟨⟨[]⟩⟩, .string ⟨⟨[]⟩⟩, .string ⟨⟨[]⟩⟩, .string ⟨⟨[]⟩⟩, .string ⟨⟨[]⟩⟩, .string ⟨⟨[]⟩⟩, .string ⟨⟨[]⟩⟩, .string ⟨⟨[]⟩⟩] 160 := .mk' (z := .agg ⟨[.string ⟨⟨[]⟩⟩, .string ⟨⟨[]⟩⟩, .string ⟨⟨[]⟩⟩, .string ⟨⟨[]⟩⟩, .string ⟨⟨[]⟩⟩, .string ⟨⟨[]⟩⟩, .string ⟨⟨[]⟩⟩, .string ⟨⟨[]⟩⟩, .string ⟨⟨[]⟩⟩, .string ⟨⟨[]⟩⟩]⟩) Tryz.underlying88 rfl (by kernel_rfl) rfl
theorem ty89 : TyI Tryz.prog 89 false [.nilFunc] 8 := .mk' (z := .nilFunc) Tryz.underlying89 rfl (by kernel_rfl) rfl
theorem ty90 : TyI Tryz.prog 90 false [.nilFunc] 8 := .mk' (z := .nilFunc) Tryz.underlying90 rfl (by kernel_rfl) rfl
theorem ty91 : TyI Tryz.prog 91 false [.map none] 8 := .mk' (z := .map none) Tryz.underlying91 rfl (by kernel_rfl) rfl
theorem ty92 : TyI Tryz.prog 92 false [.pointer none] 8 := .mk' (z := .pointer none) Tryz.underlying92 rfl (by kernel_rfl) rfl
theorem ty93 : TyI Tryz.prog 93 false [.nilFunc] 8 := .mk' (z := .nilFunc) Tryz.underlying93 rfl (by kernel_rfl) rfl
theorem ty94 : TyI Tryz.prog 94 false [.nilFunc] 8 := .mk' (z := .nilFunc) Tryz.underlying94 rfl (by kernel_rfl) rfl
theorem ty96 : TyI Tryz.prog 96 false [.nilFunc] 8 := .mk' (z := .nilFunc) Tryz.underlying96 rfl (by kernel_rfl) rfl
theorem ty97 : TyI Tryz.prog 97 false [.nilFunc] 8 := .mk' (z := .nilFunc) Tryz.underlying97 rfl (by kernel_rfl) rfl
theorem ty98 : TyI Tryz.prog 98 false [.nilFunc] 8 := .mk' (z := .nilFunc) Tryz.underlying98 rfl (by kernel_rfl) rfl
theorem ty99 : TyI Tryz.prog 99 false [.nilFunc] 8 := .mk' (z := .nilFunc) Tryz.underlying99 rfl (by kernel_rfl) rfl
theorem ty100 : TyI Tryz.prog 100 false [.nilFunc] 8 := .mk' (z := .nilFunc) Tryz.underlying100 rfl (by kernel_rfl) rfl
theorem ty102 : TyI Tryz.prog 102 false [.nilFunc] 8 := .mk' (z := .nilFunc) Tryz.underlying102 rfl (by kernel_rfl) rfl
theorem ty103 : TyI Tryz.prog 103 false [.nilFunc] 8 := .mk' (z := .nilFunc) Tryz.underlying103 rfl (by kernel_rfl) rfl
theorem ty104 : TyI Tryz.prog 104 true [.string ⟨⟨[]⟩⟩, .int .i64 0, .int .i64 0, .string ⟨⟨[]⟩⟩] 48 := .mk' (z := .agg ⟨[.string ⟨⟨[]⟩⟩, .int .i64 0, .int .i64 0, .string ⟨⟨[]⟩⟩]⟩) Tryz.underlying104 rfl (by kernel_rfl) rfl
theorem ty105 : TyI Tryz.prog 105 true [.string ⟨⟨[]⟩⟩, .int .i64 0, .int .i64 0, .string ⟨⟨[]⟩⟩] 48 := .mk' (z := .agg ⟨[.string ⟨⟨[]⟩⟩, .int .i64 0, .int .i64 0, .string ⟨⟨[]⟩⟩]⟩) Tryz.underlying105 rfl (by kernel_rfl) rfl
theorem ty106 : TyI Tryz.prog 106 false [.nilFunc] 8 := .mk' (z := .nilFunc) Tryz.underlying106 rfl (by kernel_rfl) rfl
theorem ty107 : TyI Tryz.prog 107 true [.string ⟨⟨[]⟩⟩, .string ⟨⟨[]⟩⟩] 32 := .mk' (z := .agg ⟨[.string ⟨⟨[]⟩⟩, .string ⟨⟨[]⟩⟩]⟩) Tryz.underlying107 rfl (by kernel_rfl) rfl
theorem ty108 : TyI Tryz.prog 108 true [.string ⟨⟨[]⟩⟩, .string ⟨⟨[]⟩⟩] 32 := .mk' (z := .agg ⟨[.string ⟨⟨[]⟩⟩, .string ⟨⟨[]⟩⟩]⟩) Tryz.underlying108 rfl (by kernel_rfl) rfl
theorem ty109 : TyI Tryz.prog 109 false [.nilFunc] 8 := .mk' (z := .nilFunc) Tryz.underlying109 rfl (by kernel_rfl) rfl
theorem ty110 : TyI Tryz.prog 110 false [.nilFunc] 8 := .mk' (z := .nilFunc) Tryz.underlying110 rfl (by kernel_rfl) rfl
theorem ty111 : TyI Tryz.prog 111 false [.nilFunc] 8 := .mk' (z := .nilFunc) Tryz.underlying111 rfl (by kernel_rfl) rfl
theorem ty112 : TyI Tryz.prog 112 false [.nilFunc] 8 := .mk' (z := .nilFunc) Tryz.underlying112 rfl (by kernel_rfl) rfl
theorem ty113 : TyI Tryz.prog 113 false [.nilIface] 16 := .mk' (z := .nilIface) Tryz.underlying113 rfl (by kernel_rfl) rfl
theorem ty114 : TyI Tryz.prog 114 false [.nilIface] 16 := .mk' (z := .nilIface) Tryz.underlying114 rfl (by kernel_rfl) rfl
theorem ty116 : TyI Tryz.prog 116 false [.nilFunc] 8 := .mk' (z := .nilFunc) Tryz.underlying116 rfl (by kernel_rfl) rfl
theorem ty117 : TyI Tryz.prog 117 false [.slice none 0 0] 24 := .mk' (z := .slice none 0 0) Tryz.underlying117 rfl (by kernel_rfl) rfl
theorem sl117 : SliceT Tryz.prog 117 5 := Tryz.underlying117
theorem ty118 : TyI Tryz.prog 118 false [.nilFunc] 8 := .mk' (z := .nilFunc) Tryz.underlying118 rfl (by kernel_rfl) rfl
theorem ty119 : TyI Tryz.prog 119 false [.nilFunc] 8 := .mk' (z := .nilFunc) Tryz.underlying119 rfl (by kernel_rfl) rfl
theorem ty120 : TyI Tryz.prog 120 false [.nilFunc] 8 := .mk' (z := .nilFunc) Tryz.underlying120 rfl (by kernel_rfl) rfl
theorem ty121 : TyI Tryz.prog 121 true [.string ⟨⟨[]⟩⟩, .int .i64 0, .int .i64 0, .int .i64 0, .string ⟨⟨[]⟩⟩] 56 := .mk' (z := .agg ⟨[.string ⟨⟨[]⟩⟩, .int .i64 0, .int .i64 0, .int .i64 0, .string ⟨⟨[]⟩⟩]⟩) Tryz.underlying121 rfl (by kernel_rfl) rfl
theorem ty122 : TyI Tryz.prog 122 true [.string ⟨⟨[]⟩⟩, .int .i64 0, .int .i64 0, .int .i64 0, .string ⟨⟨[]⟩⟩] 56 := .mk' (z := .agg ⟨[.string ⟨⟨[]⟩⟩, .int .i64 0, .int .i64 0, .int .i64 0, .string ⟨⟨[]⟩⟩]⟩) Tryz.underlying122 rfl (by kernel_rfl) rfl
theorem ty123 : TyI Tryz.prog 123 false [.nilFunc] 8 := .mk' (z := .nilFunc) Tryz.underlying123 rfl (by kernel_rfl) rfl
theorem ty124 : TyI Tryz.prog 124 false [.nilFunc] 8 := .mk' (z := .nilFunc) Tryz.underlying124 rfl (by kernel_rfl) rfl
theorem ty125 : TyI Tryz.prog 125 false [.nilFunc] 8 := .mk' (z := .nilFunc) Tryz.underlying125 rfl (by kernel_rfl) rfl
theorem ty126 : TyI Tryz.prog 126 false [.nilFunc] 8 := .mk' (z := .nilFunc) Tryz.underlying126 rfl (by kernel_rfl) rfl
theorem ty127 : TyI Tryz.prog 127 false [.nilFunc] 8 := .mk' (z := .nilFunc) Tryz.underlying127 rfl (by kernel_rfl) rfl
theorem ty128 : TyI Tryz.prog 128 false [.nilFunc] 8 := .mk' (z := .nilFunc) Tryz.underlying128 rfl (by kernel_rfl) rfl
theorem ty129 : TyI Tryz.prog 129 false [.nilFunc] 8 := .mk' (z := .nilFunc) Tryz.underlying129 rfl (by kernel_rfl) rfl
theorem ty130 : TyI Tryz.prog 130 false [.nilFunc] 8 := .mk' (z := .nilFunc) Tryz.underlying130 rfl (by kernel_rfl) rfl
theorem ty131 : TyI Tryz.prog 131 false [.nilFunc] 8 := .mk' (z := .nilFunc) Tryz.underlying131 rfl (by kernel_rfl) rfl
theorem ty132 : TyI Tryz.prog 132 false [.nilFunc] 8 := .mk' (z := .nilFunc) Tryz.underlying132 rfl (by kernel_rfl) rfl
theorem ty133 : TyI Tryz.prog 133 false [.nilFunc] 8 := .mk' (z := .nilFunc) Tryz.underlying133 rfl (by kernel_rfl) rfl
theorem ty134 : TyI Tryz.prog 134 false [.nilFunc] 8 := .mk' (z := .nilFunc) Tryz.underlying134 rfl (by kernel_rfl) rfl
theorem ty136 : TyI Tryz.prog 136 false [.nilFunc] 8 := .mk' (z := .nilFunc) Tryz.underlying136 rfl (by kernel_rfl) rfl
theorem ty138 : TyI Tryz.prog 138 false [.nilFunc] 8 := .mk' (z := .nilFunc) Tryz.underlying138 rfl (by kernel_rfl) rfl
theorem ty139 : TyI Tryz.prog 139 false [.nilFunc] 8 := .mk' (z := .nilFunc) Tryz.underlying139 rfl (by kernel_rfl) rfl
theorem ty140 : TyI Tryz.prog 140 false [.nilFunc] 8 := .mk' (z := .nilFunc) Tryz.underlying140 rfl (by kernel_rfl) rfl
theorem ty141 : TyI Tryz.prog 141 false [.nilFunc] 8 := .mk' (z := .nilFunc) Tryz.underlying141 rfl (by kernel_rfl) rfl
theorem ty142 : TyI Tryz.prog 142 false [.nilFunc] 8 := .mk' (z := .nilFunc) Tryz.underlying142 rfl (by kernel_rfl) rfl
theorem ty143 : TyI Tryz.prog 143 false [.nilFunc] 8 := .mk' (z := .nilFunc) Tryz.underlying143 rfl (by kernel_rfl) rfl
theorem ty144 : TyI Tryz.prog 144 false [.nilFunc] 8 := .mk' (z := .nilFunc) Tryz.underlying144 rfl (by kernel_rfl) rfl
theorem ty145 : TyI Tryz.prog 145 false [.slice none 0 0] 24 := .mk' (z := .slice none 0 0) Tryz.underlying145 rfl (by kernel_rfl) rfl
theorem sl145 : SliceT Tryz.prog 145 149 := Tryz.underlying145
theorem ty146 : TyI Tryz.prog 146 false [.nilFunc] 8 := .mk' (z := .nilFunc) Tryz.underlying146 rfl (by kernel_rfl) rfl
theorem ty147 : TyI Tryz.prog 147 false [.nilFunc] 8 := .mk' (z := .nilFunc) Tryz.underlying147 rfl (by kernel_rfl) rfl
theorem ty148 : TyI Tryz.prog 148 true [.string ⟨⟨[]⟩⟩, .bool false, .nilFunc] 32 := .mk' (z := .agg ⟨[.string ⟨⟨[]⟩⟩, .bool false, .nilFunc]⟩) Tryz.underlying148 rfl (by kernel_rfl) rfl
theorem ty149 : TyI Tryz.prog 149 true [.string ⟨⟨[]⟩⟩, .bool false, .nilFunc] 32 := .mk' (z := .agg ⟨[.string ⟨⟨[]⟩⟩, .bool false, .nilFunc]⟩) Tryz.underlying149 rfl (by kernel_rfl) rfl
theorem ty150 : TyI Tryz.prog 150 false [.pointer none] 8 := .mk' (z := .pointer none) Tryz.underlying150 rfl (by kernel_rfl) rfl
theorem ty151 : TyI Tryz.prog 151 false [.int .i64 0] 8 := .mk' (z := .int .i64 0) Tryz.underlying151 rfl (by kernel_rfl) rfl
theorem int151 : Tryz.prog.underlying 151 = some (.int .i64) := Tryz.underlying151
theorem ty153 : TyI Tryz.prog 153 false [.nilFunc] 8 := .mk' (z := .nilFunc) Tryz.underlying153 rfl (by kernel_rfl) rfl
theorem ty154 : TyI Tryz.prog 154 false [.pointer none] 8 := .mk' (z := .pointer none) Tryz.underlying154 rfl (by kernel_rfl) rfl
theorem ty155 : TyI Tryz.prog 155 false [.nilFunc] 8 := .mk' (z := .nilFunc) Tryz.underlying155 rfl (by kernel_rfl) rfl
theorem ty156 : TyI Tryz.prog 156 false [.nilFunc] 8 := .mk' (z := .nilFunc) Tryz.underlying156 rfl (by kernel_rfl) rfl
theorem ty157 : TyI Tryz.prog 157 false [.int .u64 0] 8 := .mk' (z := .int .u64 0) Tryz.underlying157 rfl (by kernel_rfl) rfl
theorem int157 : Tryz.prog.underlying 157 = some (.int .u64) := Tryz.underlying157
theorem ty159 : TyI Tryz.prog 159 false [.nilFunc] 8 := .mk' (z := .nilFunc) Tryz.underlying159 rfl (by kernel_rfl) rfl
theorem ty160 : TyI Tryz.prog 160 false [.int .u64 0] 8 := .mk' (z := .int .u64 0) Tryz.underlying160 rfl (by kernel_rfl) rfl
theorem int160 : Tryz.prog.underlying 160 = some (.int .u64) := Tryz.underlying160
theorem ty161 : TyI Tryz.prog 161 false [.nilFunc] 8 := .mk' (z := .nilFunc) Tryz.underlying161 rfl (by kernel_rfl) rfl
theorem ty162 : TyI Tryz.prog 162 true [.string ⟨⟨[]⟩⟩, .string ⟨⟨[]⟩⟩, .nilIface] 48 := .mk' (z := .agg ⟨[.string ⟨⟨[]⟩⟩, .string ⟨⟨[]⟩⟩, .nilIface]⟩) Tryz.underlying162 rfl (by kernel_rfl) rfl
theorem ty163 : TyI Tryz.prog 163 true [.string ⟨⟨[]⟩⟩, .string ⟨⟨[]⟩⟩, .nilIface] 48 := .mk' (z := .agg ⟨[.string ⟨⟨[]⟩⟩, .string ⟨⟨[]⟩⟩, .nilIface]⟩) Tryz.underlying163 rfl (by kernel_rfl) rfl
theorem ty164 : TyI Tryz.prog 164 false [.nilFunc] 8 := .mk' (z := .nilFunc) Tryz.underlying164 rfl (by kernel_rfl) rfl
theorem ty165 : TyI Tryz.prog 165 false [.nilFunc] 8 := .mk' (z := .nilFunc) Tryz.underlying165 rfl (by kernel_rfl) rfl
theorem ty166 : TyI Tryz.prog 166 false [.nilFunc] 8 := .mk' (z := .nilFunc) Tryz.underlying166 rfl (by kernel_rfl) rfl
theorem ty167 : TyI Tryz.prog 167 false [.pointer none] 8 := .mk' (z := .pointer none) Tryz.underlying167 rfl (by kernel_rfl) rfl
theorem ty168 : TyI Tryz.prog 168 false [.pointer none] 8 := .mk' (z := .pointer none) Tryz.underlying168 rfl (by kernel_rfl) rfl
theorem ty169 : TyI Tryz.prog 169 true [.string ⟨⟨[]⟩⟩] 16 := .mk' (z := .agg ⟨[.string ⟨⟨[]⟩⟩]⟩) Tryz.underlying169 rfl (by kernel_rfl) rfl
theorem ty170 : TyI Tryz.prog 170 true [.string ⟨⟨[]⟩⟩] 16 := .mk' (z := .agg ⟨[.string ⟨⟨[]⟩⟩]⟩) Tryz.underlying170 rfl (by kernel_rfl) rfl
theorem ty171 : TyI Tryz.prog 171 false [.nilFunc] 8 := .mk' (z := .nilFunc) Tryz.underlying171 rfl (by kernel_rfl) rfl
theorem ty172 : TyI Tryz.prog 172 true [.int .u8 0, .int .u8 0, .int .u8 0, .int .u8 0, .int .u8 0, .int .u8 0, .int .u8 0, .int .u8 0, .int .u8 0, .int .u8 0, .int .u8 0, .int .u8 0, .int .u8 0, .int .u8 0, .int .u8 0, .int .u8 0, .int .u8 0, .int .u8 0, .int .u8 0, .int .u8 0, .int .u8 0, .int .u8 0, .int .u8 0, .int .u8 0] 24 := .mk' (z := .agg ⟨[.int .u8 0, .int .u8 0, .int .u8 0, .int .u8 0, .int .u8 0, .int .u8 0, .int .u8 0, .int .u8 0, .int .u8 0, .int .u8 0, .int .u8 0, .int .u8 0, .int .u8 0, .int .u8 0, .int .u8 0, .int .u8 0, .int .u8 0, .int .u8 0, .int .u8 0, .int .u8 0, .int .u8 0, .int .u8 0, .int .u8 0, .int .u8 0]⟩) Tryz.underlying172 rfl (by kernel_rfl) rfl
theorem ty173 : TyI Tryz.prog 173 false [.nilFunc] 8 := .mk' (z := .nilFunc) Tryz.underlying173 rfl (by kernel_rfl) rfl
theorem ty174 : TyI Tryz.prog 174 false [.nilFunc] 8 := .mk' (z := .nilFunc) Tryz.underlying174 rfl (by kernel_rfl) rfl
theorem ty176 : TyI Tryz.prog 176 false [.nilFunc] 8 := .mk' (z := .nilFunc) Tryz.underlying176 rfl (by kernel_rfl) rfl
theorem ty177 : TyI Tryz.prog 177 false [.nilFunc] 8 := .mk' (z := .nilFunc) Tryz.underlying177 rfl (by kernel_rfl) rfl
theorem ty178 : TyI Tryz.prog 178 false [.nilFunc] 8 := .mk' (z := .nilFunc) Tryz.underlying178 rfl (by kernel_rfl) rfl
theorem ty179 : TyI Tryz.prog 179 true [.int .u64 0, .int .u64 0, .int .u64 0, .int .u64 0, .int .u64 0, .int .u64 0, .int .u64 0, .int .u64 0, .int .u64 0, .int .u64 0, .int .u64 0, .int .u64 0, .int .u64 0, .int .u64 0, .int .u64 0, .int .u64 0, .int .u64 0, .int .u64 0, .int .u64 0, .int .u64 0] 160 := .mk' (z := .agg ⟨[.int .u64 0, .int .u64 0, .int .u64 0, .int .u64 0, .int .u64 0, .int .u64 0, .int .u64 0, .int .u64 0, .int .u64 0, .int .u64 0, .int .u64 0, .int .u64 0, .int .u64 0, .int .u64 0, .int .u64 0, .int .u64 0, .int .u64 0, .int .u64 0, .int .u64 0, .int .u64 0]⟩) Tryz.underlying179 rfl (by kernel_rfl) rfl
theorem ty180 : TyI Tryz.prog 180 false [.int .u32 0] 4 := .mk' (z := .int .u32 0) Tryz.underlying180 rfl (by kernel_rfl) rfl
theorem int180 : Tryz.prog.underlying 180 = some (.int .u32) := Tryz.underlying180
theorem ty181 : TyI Tryz.prog 181 true [.int .u8 0, .int .u8 0, .int .u8 0, .int .u8 0, .int .u8 0, .int .u8 0, .int .u8 0, .int .u8 0, .int .u8 0, .int .u8 0, .int .u8 0, .int .u8 0, .int .u8 0, .int .u8 0, .int .u8 0, .int .u8 0, .int .u8 0, .int .u8 0, .int .u8 0, .int .u8 0, .int .u8 0, .int .u8 0, .int .u8 0, .int .u8 0, .int .u8 0, .int .u8 0, .int .u8 0, .int .u8 0, .int .u8 0, .int .u8 0, .int .u8 0, .int .u8 0, .int .u8 0, .int .u8 0, .int .u8 0, .int .u8 0, .int .u8 0, .int .u8 0, .int .u8 0, .int .u8 0, .int .u8 0, .int .u8 0, .int .u8 0, .int .u8 0, .int .u8 0, .int .u8 0, .int .u8 0, .int .u8 0, .int .u8 0, .int .u8 0, .int .u8 0, .int .u8 0, .int .u8 0, .int .u8 0, .int .u8 0, .int .u8 0, .int .u8 0, .int .u8 0, .int .u8 0, .int .u8 0, .int .u8 0, .int .u8 0, .int .u8 0, .int .u8 0, .int .u8 0] 65 := .mk' (z := .agg ⟨[.int .u8 0, .int .u8 0, .int .u8 0, .int .u8 0, .int .u8 0, .int .u8 0, .int .u8 0, .int .u8 0, .int .u8 0, .int .u8 0, .int .u8 0, .int .u8 0, .int .u8 0, .int .u8 0, .int .u8 0, .int .u8 0, .int .u8 0, .int .u8 0, .int .u8 0, .int .u8 0, .int .u8 0, .int .u8 0, .int .u8 0, .int .u8 0, .int .u8 0, .int .u8 0, .int .u8 0, .int .u8 0, .int .u8 0, .int .u8 0, .int .u8 0, .int .u8 0, .int .u8 0, .int .u8 0, .int .u8 0, .int .u8 0, .int .u8 0, .int .u8 0, .int .u8 0, .int .u8 0, .int .u8 0, .int .u8 0, .int .u8 0, .int .u8 0, .int .u8 0, .int .u8 0, .int .u8 0, .int .u8 0, .int .u8 0, .int .u8 0, .int .u8 0, .int .u8 0, .int .u8 0, .int .u8 0, .int .u8 0, .int .u8 0, .int .u8 0, .int .u8 0, .int .u8 0, .int .u8 0, .int .u8 0, .int .u8 0, .int .u8 0, .int .u8 0, .int .u8 0]⟩) Tryz.underlying181 rfl (by kernel_rfl) rfl
theorem ty182 : TyI Tryz.prog 182 false [.nilFunc] 8 := .mk' (z := .nilFunc) Tryz.underlying182 rfl (by kernel_rfl) rfl
theorem ty183 : TyI Tryz.prog 183 false [.nilFunc] 8 := .mk' (z := .nilFunc) Tryz.underlying183 rfl (by kernel_rfl) rfl
theorem ty184 : TyI Tryz.prog 184 false [.nilFunc] 8 := .mk' (z := .nilFunc) Tryz.underlying184 rfl (by kernel_rfl) rfl
theorem ty185 : TyI Tryz.prog 185 true [.int .u8 0, .int .u8 0, .int .u8 0, .int .u8 0, .int .u8 0, .int .u8 0, .int .u8 0, .int .u8 0, .int .u8 0, .int .u8 0, .int .u8 0, .int .u8 0, .int .u8 0, .int .u8 0, .int .u8 0, .int .u8 0, .int .u8 0, .int .u8 0, .int .u8 0, .int .u8 0, .int .u8 0, .int .u8 0, .int .u8 0, .int .u8 0, .int .u8 0, .int .u8 0, .int .u8 0, .int .u8 0, .int .u8 0, .int .u8 0, .int .u8 0, .int .u8 0] 32 := .mk' (z := .agg ⟨[.int .u8 0, .int .u8 0, .int .u8 0, .int .u8 0, .int .u8 0, .int .u8 0, .int .u8 0, .int .u8 0, .int .u8 0, .int .u8 0, .int .u8 0, .int .u8 0, .int .u8 0, .int .u8 0, .int .u8 0, .int .u8 0, .int .u8 0, .int .u8 0, .int .u8 0, .int .u8 0, .int .u8 0, .int .u8 0, .int .u8 0, .int .u8 0, .int .u8 0, .int .u8 0, .int .u8 0, .int .u8 0, .int .u8 0, .int .u8 0, .int .u8 0, .int .u8 0]⟩) Tryz.underlying185 rfl (by kernel_rfl) rfl
theorem ty186 : TyI Tryz.prog 186 true [.int .u8 0, .int .u8 0, .int .u8 0, .int .u8 0, .int .u8 0, .int .u8 0, .int .u8 0, .int .u8 0, .int .u8 0, .int .u8 0, .int .u8 0, .int .u8 0, .int .u8 0, .int .u8 0, .int .u8 0, .int .u8 0, .int .u8 0, .int .u8 0, .int .u8 0, .int .u8 0, .int .u8 0, .int .u8 0, .int .u8 0, .int .u8 0, .int .u8 0, .int .u8 0, .int .u8 0, .int .u8 0, .int .u8 0, .int .u8 0, .int .u8 0, .int .u8 0, .int .u8 0, .int .u8 0, .int .u8 0, .int .u8 0, .int .u8 0, .int .u8 0, .int .u8 0, .int .u8 0, .int .u8 0, .int .u8 0, .int .u8 0, .int .u8 0, .int .u8 0, .int .u8 0, .int .u8 0, .int .u8 0, .int .u8 0, .int .u8 0, .int .u8 0, .int .u8 0, .int .u8 0, .int .u8 0, .int .u8 0, .int .u8 0, .int .u8 0, .int .u8 0, .int .u8 0, .int .u8 0, .int .u8 0, .int .u8 0, .int .u8 0, .int .u8 0] 64 := .mk' (z := .agg ⟨[.int .u8 0, .int .u8 0, .int .u8 0, .int .u8 0, .int .u8 0, .int .u8 0, .int .u8 0, .int .u8 0, .int .u8 0, .int .u8 0, .int .u8 0, .int .u8 0, .int .u8 0, .int .u8 0, .int .u8 0, .int .u8 0, .int .u8 0, .int .u8 0, .int .u8 0, .int .u8 0, .int .u8 0, .int .u8 0, .int .u8 0, .int .u8 0, .int .u8 0, .int .u8 0, .int .u8 0, .int .u8 0, .int .u8 0, .int .u8 0, .int .u8 0, .int .u8 0, .int .u8 0, .int .u8 0, .int .u8 0, .int .u8 0, .int .u8 0, .int .u8 0, .int .u8 0, .int .u8 0, .int .u8 0, .int .u8 0, .int .u8 0, .int .u8 0, .int .u8 0, .int .u8 0, .int .u8 0, .int .u8 0, .int .u8 0, .int .u8 0, .int .u8 0, .int .u8 0, .int .u8 0, .int .u8 0, .int .u8 0, .int .u8 0, .int .u8 0, .int .u8 0, .int .u8 0, .int .u8 0, .int .u8 0, .int .u8 0, .int .u8 0, .int .u8 0]⟩) Tryz.underlying186 rfl (by kernel_rfl) rfl
theorem ty187 : TyI Tryz.prog 187 true [.pointer none, .pointer none, .pointer none, .string ⟨⟨[]⟩⟩] 40 := .mk' (z := .agg ⟨[.pointer none, .pointer none, .pointer none, .string ⟨⟨[]⟩⟩]⟩) Tryz.underlying187 rfl (by kernel_rfl) rfl
theorem ty188 : TyI Tryz.prog 188 true [.pointer none, .pointer none, .pointer none, .string ⟨⟨[]⟩⟩] 40 := .mk' (z := .agg ⟨[.pointer none, .pointer none, .pointer none, .string ⟨⟨[]⟩⟩]⟩) Tryz.underlying188 rfl (by kernel_rfl) rfl
theorem ty189 : TyI Tryz.prog 189 true [] 0 := .mk' (z := .agg ⟨[]⟩) Tryz.underlying189 rfl (by kernel_rfl) rfl
theorem ty190 : TyI Tryz.prog 190 true [] 0 := .mk' (z := .agg ⟨[]⟩) Tryz.underlying190 rfl (by kernel_rfl) rfl
theorem ty191 : TyI Tryz.prog 191 true [] 0 := .mk' (z := .agg ⟨[]⟩) Tryz.underlying191 rfl (by kernel_rfl) rfl
theorem ty192 : TyI Tryz.prog 192 false [.int .u8 0] 1 := .mk' (z := .int .u8 0) Tryz.underlying192 rfl (by kernel_rfl) rfl
theorem int192 : Tryz.prog.underlying 192 = some (.int .u8) := Tryz.underlying192
theorem ty193 : TyI Tryz.prog 193 false [.int .u8 0] 1 := .mk' (z := .int .u8 0) Tryz.underlying193 rfl (by kernel_rfl) rfl
theorem int193 : Tryz.prog.underlying 193 = some (.int .u8) := Tryz.underlying193
theorem ty194 : TyI Tryz.prog 194 false [.nilFunc] 8 := .mk' (z := .nilFunc) Tryz.underlying194 rfl (by kernel_rfl) rfl
theorem ty195 : TyI Tryz.prog 195 false [.int .i32 0] 4 := .mk' (z := .int .i32 0) Tryz.underlying195 rfl (by kernel_rfl) rfl
theorem int195 : Tryz.prog.underlying 195 = some (.int .i32) := Tryz.underlying195
theorem ty196 : TyI Tryz.prog 196 false [.int .i32 0] 4 := .mk' (z := .int .i32 0) Tryz.underlying196 rfl (by kernel_rfl) rfl
theorem int196 : Tryz.prog.underlying 196 = some (.int .i32) := Tryz.underlying196
theorem ty197 : TyI Tryz.prog 197 true [.int .u64 0, .int .u64 0, .int .u32 0, .int .u8 0, .int .u8 0, .int .u8 0, .int .u8 0, .nilFunc, .pointer none, .int .i32 0, .int .i32 0] 48 := .mk' (z := .agg ⟨[.int .u64 0, .int .u64 0, .int .u32 0, .int .u8 0, .int .u8 0, .int .u8 0, .int .u8 0, .nilFunc, .pointer none, .int .i32 0, .int .i32 0]⟩) Tryz.underlying197 rfl (by kernel_rfl) rfl
theorem ty198 : TyI Tryz.prog 198 true [.int .u64 0, .int .u64 0, .int .u32 0, .int .u8 0, .int .u8 0, .int .u8 0, .int .u8 0, .nilFunc, .pointer none, .int .i32 0, .int .i32 0] 48 := .mk' (z := .agg ⟨[.int .u64 0, .int .u64 0, .int .u32 0, .int .u8 0, .int .u8 0, .int .u8 0, .int .u8 0, .nilFunc, .pointer none, .int .i32 0, .int .i32 0]⟩) Tryz.underlying198 rfl (by kernel_rfl) rfl
theorem ty199 : TyI Tryz.prog 199 false [.pointer none] 8 := .mk' (z := .pointer none) Tryz.underlying199 rfl (by kernel_rfl) rfl

end Go.Proofs.YtnmfanjhepepbaaGreatDoor
