/-
  The facts on this translation's types that the walks use: printed by a program of ours (gen_types.py).
-/
import Derived.Test.YtihnelncimkegaaDoorRows
import Derived.Test.YtihnelncimkegaaDoorVcMem2
namespace Go.Proofs.YtihnelncimkegaaDoor
open Go
set_option maxRecDepth 100000

theorem mixed : Tryd.prog.follows .mixedOrders = true := by kernel_rfl
theorem ty1 : TyI Tryd.prog 1 false [.nilFunc] 8 := .mk' (z := .nilFunc) Tryd.underlying1 rfl (by kernel_rfl) rfl
theorem ty2 : TyI Tryd.prog 2 false [.int .i64 0] 8 := .mk' (z := .int .i64 0) Tryd.underlying2 rfl (by kernel_rfl) rfl
theorem int2 : Tryd.prog.underlying 2 = some (.int .i64) := Tryd.underlying2
theorem ty3 : TyI Tryd.prog 3 false [.int .i64 0] 8 := .mk' (z := .int .i64 0) Tryd.underlying3 rfl (by kernel_rfl) rfl
theorem int3 : Tryd.prog.underlying 3 = some (.int .i64) := Tryd.underlying3
theorem ty4 : TyI Tryd.prog 4 false [.bool false] 1 := .mk' (z := .bool false) Tryd.underlying4 rfl (by kernel_rfl) rfl
theorem bool4 : Tryd.prog.underlying 4 = some .bool := Tryd.underlying4
theorem ty5 : TyI Tryd.prog 5 false [.int .u8 0] 1 := .mk' (z := .int .u8 0) Tryd.underlying5 rfl (by kernel_rfl) rfl
theorem int5 : Tryd.prog.underlying 5 = some (.int .u8) := Tryd.underlying5
theorem ty6 : TyI Tryd.prog 6 false [.int .u8 0] 1 := .mk' (z := .int .u8 0) Tryd.underlying6 rfl (by kernel_rfl) rfl
theorem int6 : Tryd.prog.underlying 6 = some (.int .u8) := Tryd.underlying6
theorem ty7 : TyI Tryd.prog 7 true [.int .i64 0, .int .i64 0, .bool false, .int .u8 0] 24 := .mk' (z := .agg ⟨[.int .i64 0, .int .i64 0, .bool false, .int .u8 0]⟩) Tryd.underlying7 rfl (by kernel_rfl) rfl
theorem ty8 : TyI Tryd.prog 8 true [.int .i64 0, .int .i64 0, .bool false, .int .u8 0] 24 := .mk' (z := .agg ⟨[.int .i64 0, .int .i64 0, .bool false, .int .u8 0]⟩) Tryd.underlying8 rfl (by kernel_rfl) rfl
theorem ty9 : TyI Tryd.prog 9 false [.string ⟨⟨[]⟩⟩] 16 := .mk' (z := .string ⟨⟨[]⟩⟩) Tryd.underlying9 rfl (by kernel_rfl) rfl
theorem str9 : Tryd.prog.underlying 9 = some .string := Tryd.underlying9
theorem ty10 : TyI Tryd.prog 10 false [.string ⟨⟨[]⟩⟩] 16 := .mk' (z := .string ⟨⟨[]⟩⟩) Tryd.underlying10 rfl (by kernel_rfl) rfl
theorem str10 : Tryd.prog.underlying 10 = some .string := Tryd.underlying10
theorem ty11 : TyI Tryd.prog 11 false [.string ⟨⟨[]⟩⟩] 16 := .mk' (z := .string ⟨⟨[]⟩⟩) Tryd.underlying11 rfl (by kernel_rfl) rfl
theorem str11 : Tryd.prog.underlying 11 = some .string := Tryd.underlying11
theorem ty12 : TyI Tryd.prog 12 false [.int .u64 0] 8 := .mk' (z := .int .u64 0) Tryd.underlying12 rfl (by kernel_rfl) rfl
theorem int12 : Tryd.prog.underlying 12 = some (.int .u64) := Tryd.underlying12
theorem ty13 : TyI Tryd.prog 13 true [.string ⟨⟨[]⟩⟩, .int .u64 0] 24 := .mk' (z := .agg ⟨[.string ⟨⟨[]⟩⟩, .int .u64 0]⟩) Tryd.underlying13 rfl (by kernel_rfl) rfl
theorem ty14 : TyI Tryd.prog 14 true [.string ⟨⟨[]⟩⟩, .int .u64 0] 24 := .mk' (z := .agg ⟨[.string ⟨⟨[]⟩⟩, .int .u64 0]⟩) Tryd.underlying14 rfl (by kernel_rfl) rfl
theorem ty15 : TyI Tryd.prog 15 false [.pointer none] 8 := .mk' (z := .pointer none) Tryd.underlying15 rfl (by kernel_rfl) rfl
theorem ty16 : TyI Tryd.prog 16 false [.pointer none] 8 := .mk' (z := .pointer none) Tryd.underlying16 rfl (by kernel_rfl) rfl
theorem ty17 : TyI Tryd.prog 17 false [.pointer none] 8 := .mk' (z := .pointer none) Tryd.underlying17 rfl (by kernel_rfl) rfl
theorem ty18 : TyI Tryd.prog 18 true [.pointer none] 8 := .mk' (z := .agg ⟨[.pointer none]⟩) Tryd.underlying18 rfl (by kernel_rfl) rfl
theorem ty19 : TyI Tryd.prog 19 true [.pointer none] 8 := .mk' (z := .agg ⟨[.pointer none]⟩) Tryd.underlying19 rfl (by kernel_rfl) rfl
theorem ty20 : TyI Tryd.prog 20 false [.nilIface] 16 := .mk' (z := .nilIface) Tryd.underlying20 rfl (by kernel_rfl) rfl
theorem ty21 : TyI Tryd.prog 21 false [.int .i32 0] 4 := .mk' (z := .int .i32 0) Tryd.underlying21 rfl (by kernel_rfl) rfl
theorem int21 : Tryd.prog.underlying 21 = some (.int .i32) := Tryd.underlying21
theorem ty22 : TyI Tryd.prog 22 false [.slice none 0 0] 24 := .mk' (z := .slice none 0 0) Tryd.underlying22 rfl (by kernel_rfl) rfl
theorem sl22 : SliceT Tryd.prog 22 9 := Tryd.underlying22
theorem ty23 : TyI Tryd.prog 23 false [.nilFunc] 8 := .mk' (z := .nilFunc) Tryd.underlying23 rfl (by kernel_rfl) rfl
theorem ty24 : TyI Tryd.prog 24 false [.nilFunc] 8 := .mk' (z := .nilFunc) Tryd.underlying24 rfl (by kernel_rfl) rfl
theorem ty25 : TyI Tryd.prog 25 false [.int .i64 0] 8 := .mk' (z := .int .i64 0) Tryd.underlying25 rfl (by kernel_rfl) rfl
theorem int25 : Tryd.prog.underlying 25 = some (.int .i64) := Tryd.underlying25
theorem ty27 : TyI Tryd.prog 27 false [.nilFunc] 8 := .mk' (z := .nilFunc) Tryd.underlying27 rfl (by kernel_rfl) rfl
theorem ty28 : TyI Tryd.prog 28 false [.nilFunc] 8 := .mk' (z := .nilFunc) Tryd.underlying28 rfl (by kernel_rfl) rfl
theorem ty29 : TyI Tryd.prog 29 false [.nilFunc] 8 := .mk' (z := .nilFunc) Tryd.underlying29 rfl (by kernel_rfl) rfl
theorem ty30 : TyI Tryd.prog 30 false [.nilFunc] 8 := .mk' (z := .nilFunc) Tryd.underlying30 rfl (by kernel_rfl) rfl
theorem ty31 : TyI Tryd.prog 31 false [.nilFunc] 8 := .mk' (z := .nilFunc) Tryd.underlying31 rfl (by kernel_rfl) rfl
theorem ty32 : TyI Tryd.prog 32 false [.nilFunc] 8 := .mk' (z := .nilFunc) Tryd.underlying32 rfl (by kernel_rfl) rfl
theorem ty33 : TyI Tryd.prog 33 false [.nilFunc] 8 := .mk' (z := .nilFunc) Tryd.underlying33 rfl (by kernel_rfl) rfl
theorem ty34 : TyI Tryd.prog 34 false [.int .u16 0] 2 := .mk' (z := .int .u16 0) Tryd.underlying34 rfl (by kernel_rfl) rfl
theorem int34 : Tryd.prog.underlying 34 = some (.int .u16) := Tryd.underlying34
theorem ty35 : TyI Tryd.prog 35 false [.slice none 0 0] 24 := .mk' (z := .slice none 0 0) Tryd.underlying35 rfl (by kernel_rfl) rfl
theorem sl35 : SliceT Tryd.prog 35 5 := Tryd.underlying35
theorem ty36 : TyI Tryd.prog 36 false [.nilFunc] 8 := .mk' (z := .nilFunc) Tryd.underlying36 rfl (by kernel_rfl) rfl
theorem ty37 : TyI Tryd.prog 37 false [.nilFunc] 8 := .mk' (z := .nilFunc) Tryd.underlying37 rfl (by kernel_rfl) rfl
theorem ty38 : TyI Tryd.prog 38 false [.nilFunc] 8 := .mk' (z := .nilFunc) Tryd.underlying38 rfl (by kernel_rfl) rfl
theorem ty39 : TyI Tryd.prog 39 false [.nilFunc] 8 := .mk' (z := .nilFunc) Tryd.underlying39 rfl (by kernel_rfl) rfl
theorem ty40 : TyI Tryd.prog 40 false [.nilFunc] 8 := .mk' (z := .nilFunc) Tryd.underlying40 rfl (by kernel_rfl) rfl
theorem ty41 : TyI Tryd.prog 41 true [.int .i64 0, .int .i64 0] 16 := .mk' (z := .agg ⟨[.int .i64 0, .int .i64 0]⟩) Tryd.underlying41 rfl (by kernel_rfl) rfl
theorem ty42 : TyI Tryd.prog 42 true [.int .i64 0, .int .i64 0] 16 := .mk' (z := .agg ⟨[.int .i64 0, .int .i64 0]⟩) Tryd.underlying42 rfl (by kernel_rfl) rfl
theorem ty43 : TyI Tryd.prog 43 false [.nilFunc] 8 := .mk' (z := .nilFunc) Tryd.underlying43 rfl (by kernel_rfl) rfl
theorem ty45 : TyI Tryd.prog 45 false [.nilFunc] 8 := .mk' (z := .nilFunc) Tryd.underlying45 rfl (by kernel_rfl) rfl
theorem ty47 : TyI Tryd.prog 47 false [.nilFunc] 8 := .mk' (z := .nilFunc) Tryd.underlying47 rfl (by kernel_rfl) rfl
theorem ty48 : TyI Tryd.prog 48 false [.nilFunc] 8 := .mk' (z := .nilFunc) Tryd.underlying48 rfl (by kernel_rfl) rfl
theorem ty49 : TyI Tryd.prog 49 false [.nilFunc] 8 := .mk' (z := .nilFunc) Tryd.underlying49 rfl (by kernel_rfl) rfl
theorem ty50 : TyI Tryd.prog 50 false [.nilFunc] 8 := .mk' (z := .nilFunc) Tryd.underlying50 rfl (by kernel_rfl) rfl
theorem ty51 : TyI Tryd.prog 51 false [.nilFunc] 8 := .mk' (z := .nilFunc) Tryd.underlying51 rfl (by kernel_rfl) rfl
theorem ty52 : TyI Tryd.prog 52 false [.slice none 0 0] 24 := .mk' (z := .slice none 0 0) Tryd.underlying52 rfl (by kernel_rfl) rfl
theorem sl52 : SliceT Tryd.prog 52 42 := Tryd.underlying52
theorem ty53 : TyI Tryd.prog 53 false [.int .u64 0] 8 := .mk' (z := .int .u64 0) Tryd.underlying53 rfl (by kernel_rfl) rfl
theorem int53 : Tryd.prog.underlying 53 = some (.int .u64) := Tryd.underlying53
theorem ty54 : TyI Tryd.prog 54 false [.pointer none] 8 := .mk' (z := .pointer none) Tryd.underlying54 rfl (by kernel_rfl) rfl
theorem ty55 : TyI Tryd.prog 55 true [.pointer none, .slice none 0 0] 32 := .mk' (z := .agg ⟨[.pointer none, .slice none 0 0]⟩) Tryd.underlying55 rfl (by kernel_rfl) rfl
theorem ty56 : TyI Tryd.prog 56 true [.pointer none, .slice none 0 0] 32 := .mk' (z := .agg ⟨[.pointer none, .slice none 0 0]⟩) Tryd.underlying56 rfl (by kernel_rfl) rfl
theorem ty57 : TyI Tryd.prog 57 false [.nilFunc] 8 := .mk' (z := .nilFunc) Tryd.underlying57 rfl (by kernel_rfl) rfl
theorem ty58 : TyI Tryd.prog 58 false [.nilIface] 16 := .mk' (z := .nilIface) Tryd.underlying58 rfl (by kernel_rfl) rfl
theorem ty59 : TyI Tryd.prog 59 false [.nilIface] 16 := .mk' (z := .nilIface) Tryd.underlying59 rfl (by kernel_rfl) rfl
theorem ty61 : TyI Tryd.prog 61 false [.nilFunc] 8 := .mk' (z := .nilFunc) Tryd.underlying61 rfl (by kernel_rfl) rfl
theorem ty62 : TyI Tryd.prog 62 false [.nilFunc] 8 := .mk' (z := .nilFunc) Tryd.underlying62 rfl (by kernel_rfl) rfl
theorem ty63 : TyI Tryd.prog 63 false [.nilFunc] 8 := .mk' (z := .nilFunc) Tryd.underlying63 rfl (by kernel_rfl) rfl
theorem ty64 : TyI Tryd.prog 64 false [.nilFunc] 8 := .mk' (z := .nilFunc) Tryd.underlying64 rfl (by kernel_rfl) rfl
theorem ty65 : TyI Tryd.prog 65 false [.pointer none] 8 := .mk' (z := .pointer none) Tryd.underlying65 rfl (by kernel_rfl) rfl
theorem ty66 : TyI Tryd.prog 66 false [.nilFunc] 8 := .mk' (z := .nilFunc) Tryd.underlying66 rfl (by kernel_rfl) rfl
theorem ty67 : TyI Tryd.prog 67 false [.nilFunc] 8 := .mk' (z := .nilFunc) Tryd.underlying67 rfl (by kernel_rfl) rfl
theorem ty68 : TyI Tryd.prog 68 false [.pointer none] 8 := .mk' (z := .pointer none) Tryd.underlying68 rfl (by kernel_rfl) rfl
theorem ty69 : TyI Tryd.prog 69 false [.nilFunc] 8 := .mk' (z := .nilFunc) Tryd.underlying69 rfl (by kernel_rfl) rfl
theorem ty70 : TyI Tryd.prog 70 false [.nilFunc] 8 := .mk' (z := .nilFunc) Tryd.underlying70 rfl (by kernel_rfl) rfl
theorem ty71 : TyI Tryd.prog 71 false [.nilFunc] 8 := .mk' (z := .nilFunc) Tryd.underlying71 rfl (by kernel_rfl) rfl
theorem ty72 : TyI Tryd.prog 72 false [.int .u32 0] 4 := .mk' (z := .int .u32 0) Tryd.underlying72 rfl (by kernel_rfl) rfl
theorem int72 : Tryd.prog.underlying 72 = some (.int .u32) := Tryd.underlying72
theorem ty74 : TyI Tryd.prog 74 false [.nilFunc] 8 := .mk' (z := .nilFunc) Tryd.underlying74 rfl (by kernel_rfl) rfl
theorem ty75 : TyI Tryd.prog 75 true [.int .u8 0, .int .u8 0, .int .u8 0, .int .u8 0, .int .u8 0, .int .u8 0, .int .u8 0, .int .u8 0, .int .u8 0, .int .u8 0, .int .u8 0, .int .u8 0, .int .u8 0, .int .u8 0, .int .u8 0, .int .u8 0, .int .u8 0, .int .u8 0, .int .u8 0, .int .u8 0, .int .u8 0, .int .u8 0, .int .u8 0, .int .u8 0] 24 := .mk' (z := .agg ⟨[.int .u8 0, .int .u8 0, .int .u8 0, .int .u8 0, .int .u8 0, .int .u8 0, .int .u8 0, .int .u8 0, .int .u8 0, .int .u8 0, .int .u8 0, .int .u8 0, .int .u8 0, .int .u8 0, .int .u8 0, .int .u8 0, .int .u8 0, .int .u8 0, .int .u8 0, .int .u8 0, .int .u8 0, .int .u8 0, .int .u8 0, .int .u8 0]⟩) Tryd.underlying75 rfl (by kernel_rfl) rfl
theorem ty76 : TyI Tryd.prog 76 false [.int .u64 0] 8 := .mk' (z := .int .u64 0) Tryd.underlying76 rfl (by kernel_rfl) rfl
theorem int76 : Tryd.prog.underlying 76 = some (.int .u64) := Tryd.underlying76
theorem ty77 : TyI Tryd.prog 77 false [.nilFunc] 8 := .mk' (z := .nilFunc) Tryd.underlying77 rfl (by kernel_rfl) rfl
theorem ty78 : TyI Tryd.prog 78 false [.nilFunc] 8 := .mk' (z := .nilFunc) Tryd.underlying78 rfl (by kernel_rfl) rfl
theorem ty80 : TyI Tryd.prog 80 false [.nilFunc] 8 := .mk' (z := .nilFunc) Tryd.underlying80 rfl (by kernel_rfl) rfl
theorem ty81 : TyI Tryd.prog 81 false [.nilFunc] 8 := .mk' (z := .nilFunc) Tryd.underlying81 rfl (by kernel_rfl) rfl
theorem ty82 : TyI Tryd.prog 82 true [.int .u64 0, .int .u64 0, .int .u64 0, .int .u64 0, .int .u64 0, .int .u64 0, .int .u64 0, .int .u64 0, .int .u64 0, .int .u64 0, .int .u64 0, .int .u64 0, .int .u64 0, .int .u64 0, .int .u64 0, .int .u64 0, .int .u64 0, .int .u64 0, .int .u64 0, .int .u64 0] 160 := .mk' (z := .agg ⟨[.int .u64 0, .int .u64 0, .int .u64 0, .int .u64 0, .int .u64 0, .int .u64 0, .int .u64 0, .int .u64 0, .int .u64 0, .int .u64 0, .int .u64 0, .int .u64 0, .int .u64 0, .int .u64 0, .int .u64 0, .int .u64 0, .int .u64 0, .int .u64 0, .int .u64 0, .int .u64 0]⟩) Tryd.underlying82 rfl (by kernel_rfl) rfl
theorem ty83 : TyI Tryd.prog 83 true [.int .u8 0, .int .u8 0, .int .u8 0, .int .u8 0, .int .u8 0, .int .u8 0, .int .u8 0, .int .u8 0, .int .u8 0, .int .u8 0, .int .u8 0, .int .u8 0, .int .u8 0, .int .u8 0, .int .u8 0, .int .u8 0, .int .u8 0, .int .u8 0, .int .u8 0, .int .u8 0, .int .u8 0, .int .u8 0, .int .u8 0, .int .u8 0, .int .u8 0, .int .u8 0, .int .u8 0, .int .u8 0, .int .u8 0, .int .u8 0, .int .u8 0, .int .u8 0, .int .u8 0, .int .u8 0, .int .u8 0, .int .u8 0, .int .u8 0, .int .u8 0, .int .u8 0, .int .u8 0, .int .u8 0, .int .u8 0, .int .u8 0, .int .u8 0, .int .u8 0, .int .u8 0, .int .u8 0, .int .u8 0, .int .u8 0, .int .u8 0, .int .u8 0, .int .u8 0, .int .u8 0, .int .u8 0, .int .u8 0, .int .u8 0, .int .u8 0, .int .u8 0, .int .u8 0, .int .u8 0, .int .u8 0, .int .u8 0, .int .u8 0, .int .u8 0, .int .u8 0] 65 := .mk' (z := .agg ⟨[.int .u8 0, .int .u8 0, .int .u8 0, .int .u8 0, .int .u8 0, .int .u8 0, .int .u8 0, .int .u8 0, .int .u8 0, .int .u8 0, .int .u8 0, .int .u8 0, .int .u8 0, .int .u8 0, .int .u8 0, .int .u8 0, .int .u8 0, .int .u8 0, .int .u8 0, .int .u8 0, .int .u8 0, .int .u8 0, .int .u8 0, .int .u8 0, .int .u8 0, .int .u8 0, .int .u8 0, .int .u8 0, .int .u8 0, .int .u8 0, .int .u8 0, .int .u8 0, .int .u8 0, .int .u8 0, .int .u8 0, .int .u8 0, .int .u8 0, .int .u8 0, .int .u8 0, .int .u8 0, .int .u8 0, .int .u8 0, .int .u8 0, .int .u8 0, .int .u8 0, .int .u8 0, .int .u8 0, .int .u8 0, .int .u8 0, .int .u8 0, .int .u8 0, .int .u8 0, .int .u8 0, .int .u8 0, .int .u8 0, .int .u8 0, .int .u8 0, .int .u8 0, .int .u8 0, .int .u8 0, .int .u8 0, .int .u8 0, .int .u8 0, .int .u8 0, .int .u8 0]⟩) Tryd.underlying83 rfl (by kernel_rfl) rfl
theorem ty84 : TyI Tryd.prog 84 false [.nilFunc] 8 := .mk' (z := .nilFunc) Tryd.underlying84 rfl (by kernel_rfl) rfl
theorem ty85 : TyI Tryd.prog 85 false [.nilFunc] 8 := .mk' (z := .nilFunc) Tryd.underlying85 rfl (by kernel_rfl) rfl
theorem ty86 : TyI Tryd.prog 86 false [.nilFunc] 8 := .mk' (z := .nilFunc) Tryd.underlying86 rfl (by kernel_rfl) rfl
theorem ty87 : TyI Tryd.prog 87 true [.int .u8 0, .int .u8 0, .int .u8 0, .int .u8 0, .int .u8 0, .int .u8 0, .int .u8 0, .int .u8 0, .int .u8 0, .int .u8 0, .int .u8 0, .int .u8 0, .int .u8 0, .int .u8 0, .int .u8 0, .int .u8 0, .int .u8 0, .int .u8 0, .int .u8 0, .int .u8 0, .int .u8 0, .int .u8 0, .int .u8 0, .int .u8 0, .int .u8 0, .int .u8 0, .int .u8 0, .int .u8 0, .int .u8 0, .int .u8 0, .int .u8 0, .int .u8 0] 32 := .mk' (z := .agg ⟨[.int .u8 0, .int .u8 0, .int .u8 0, .int .u8 0, .int .u8 0, .int .u8 0, .int .u8 0, .int .u8 0, .int .u8 0, .int .u8 0, .int .u8 0, .int .u8 0, .int .u8 0, .int .u8 0, .int .u8 0, .int .u8 0, .int .u8 0, .int .u8 0, .int .u8 0, .int .u8 0, .int .u8 0, .int .u8 0, .int .u8 0, .int .u8 0, .int .u8 0, .int .u8 0, .int .u8 0, .int .u8 0, .int .u8 0, .int .u8 0, .int .u8 0, .int .u8 0]⟩) Tryd.underlying87 rfl (by kernel_rfl) rfl
theorem ty88 : TyI Tryd.prog 88 true [.int .u8 0, .int .u8 0, .int .u8 0, .int .u8 0, .int .u8 0, .int .u8 0, .int .u8 0, .int .u8 0, .int .u8 0, .int .u8 0, .int .u8 0, .int .u8 0, .int .u8 0, .int .u8 0, .int .u8 0, .int .u8 0, .int .u8 0, .int .u8 0, .int .u8 0, .int .u8 0, .int .u8 0, .int .u8 0, .int .u8 0, .int .u8 0, .int .u8 0, .int .u8 0, .int .u8 0, .int .u8 0, .int .u8 0, .int .u8 0, .int .u8 0, .int .u8 0, .int .u8 0, .int .u8 0, .int .u8 0, .int .u8 0, .int .u8 0, .int .u8 0, .int .u8 0, .int .u8 0, .int .u8 0, .int .u8 0, .int .u8 0, .int .u8 0, .int .u8 0, .int .u8 0, .int .u8 0, .int .u8 0, .int .u8 0, .int .u8 0, .int .u8 0, .int .u8 0, .int .u8 0, .int .u8 0, .int .u8 0, .int .u8 0, .int .u8 0, .int .u8 0, .int .u8 0, .int .u8 0, .int .u8 0, .int .u8 0, .int .u8 0, .int .u8 0] 64 := .mk' (z := .agg ⟨[.int .u8 0, .int .u8 0, .int .u8 0, .int .u8 0, .int .u8 0, .int .u8 0, .int .u8 0, .int .u8 0, .int .u8 0, .int .u8 0, .int .u8 0, .int .u8 0, .int .u8 0, .int .u8 0, .int .u8 0, .int .u8 0, .int .u8 0, .int .u8 0, .int .u8 0, .int .u8 0, .int .u8 0, .int .u8 0, .int .u8 0, .int .u8 0, .int .u8 0, .int .u8 0, .int .u8 0, .int .u8 0, .int .u8 0, .int .u8 0, .int .u8 0, .int .u8 0, .int .u8 0, .int .u8 0, .int .u8 0, .int .u8 0, .int .u8 0, .int .u8 0, .int .u8 0, .int .u8 0, .int .u8 0, .int .u8 0, .int .u8 0, .int .u8 0, .int .u8 0, .int .u8 0, .int .u8 0, .int .u8 0, .int .u8 0, .int .u8 0, .int .u8 0, .int .u8 0, .int .u8 0, .int .u8 0, .int .u8 0, .int .u8 0, .int .u8 0, .int .u8 0, .int .u8 0, .int .u8 0, .int .u8 0, .int .u8 0, .int .u8 0, .int .u8 0]⟩) Tryd.underlying88 rfl (by kernel_rfl) rfl
theorem ty89 : TyI Tryd.prog 89 true [.pointer none, .pointer none, .pointer none, .string ⟨⟨[]⟩⟩] 40 := .mk' (z := .agg ⟨[.pointer none, .pointer none, .pointer none, .string ⟨⟨[]⟩⟩]⟩) Tryd.underlying89 rfl (by kernel_rfl) rfl
theorem ty90 : TyI Tryd.prog 90 true [.pointer none, .pointer none, .pointer none, .string ⟨⟨[]⟩⟩] 40 := .mk' (z := .agg ⟨[.pointer none, .pointer none, .pointer none, .string ⟨⟨[]⟩⟩]⟩) Tryd.underlying90 rfl (by kernel_rfl) rfl
theorem ty91 : TyI Tryd.prog 91 true [] 0 := .mk' (z := .agg ⟨[]⟩) Tryd.underlying91 rfl (by kernel_rfl) rfl
theorem ty92 : TyI Tryd.prog 92 true [] 0 := .mk' (z := .agg ⟨[]⟩) Tryd.underlying92 rfl (by kernel_rfl) rfl
theorem ty93 : TyI Tryd.prog 93 true [] 0 := .mk' (z := .agg ⟨[]⟩) Tryd.underlying93 rfl (by kernel_rfl) rfl
theorem ty94 : TyI Tryd.prog 94 false [.nilFunc] 8 := .mk' (z := .nilFunc) Tryd.underlying94 rfl (by kernel_rfl) rfl
theorem ty95 : TyI Tryd.prog 95 false [.int .u8 0] 1 := .mk' (z := .int .u8 0) Tryd.underlying95 rfl (by kernel_rfl) rfl
theorem int95 : Tryd.prog.underlying 95 = some (.int .u8) := Tryd.underlying95
theorem ty96 : TyI Tryd.prog 96 false [.int .u8 0] 1 := .mk' (z := .int .u8 0) Tryd.underlying96 rfl (by kernel_rfl) rfl
theorem int96 : Tryd.prog.underlying 96 = some (.int .u8) := Tryd.underlying96
theorem ty97 : TyI Tryd.prog 97 false [.nilFunc] 8 := .mk' (z := .nilFunc) Tryd.underlying97 rfl (by kernel_rfl) rfl
theorem ty98 : TyI Tryd.prog 98 false [.int .i32 0] 4 := .mk' (z := .int .i32 0) Tryd.underlying98 rfl (by kernel_rfl) rfl
theorem int98 : Tryd.prog.underlying 98 = some (.int .i32) := Tryd.underlying98
theorem ty99 : TyI Tryd.prog 99 false [.int .i32 0] 4 := .mk' (z := .int .i32 0) Tryd.underlying99 rfl (by kernel_rfl) rfl
theorem int99 : Tryd.prog.underlying 99 = some (.int .i32) := Tryd.underlying99
theorem ty100 : TyI Tryd.prog 100 true [.int .u64 0, .int .u64 0, .int .u32 0, .int .u8 0, .int .u8 0, .int .u8 0, .int .u8 0, .nilFunc, .pointer none, .int .i32 0, .int .i32 0] 48 := .mk' (z := .agg ⟨[.int .u64 0, .int .u64 0, .int .u32 0, .int .u8 0, .int .u8 0, .int .u8 0, .int .u8 0, .nilFunc, .pointer none, .int .i32 0, .int .i32 0]⟩) Tryd.underlying100 rfl (by kernel_rfl) rfl
theorem ty101 : TyI Tryd.prog 101 true [.int .u64 0, .int .u64 0, .int .u32 0, .int .u8 0, .int .u8 0, .int .u8 0, .int .u8 0, .nilFunc, .pointer none, .int .i32 0, .int .i32 0] 48 := .mk' (z := .agg ⟨[.int .u64 0, .int .u64 0, .int .u32 0, .int .u8 0, .int .u8 0, .int .u8 0, .int .u8 0, .nilFunc, .pointer none, .int .i32 0, .int .i32 0]⟩) Tryd.underlying101 rfl (by kernel_rfl) rfl

end Go.Proofs.YtihnelncimkegaaDoor
