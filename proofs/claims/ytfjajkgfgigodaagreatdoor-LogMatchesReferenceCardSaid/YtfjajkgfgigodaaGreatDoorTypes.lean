/-
  The facts on this translation's types that the walks use: printed by a program of ours (gen_types.py).
-/
import Derived.Test.YtfjajkgfgigodaaGreatDoorRows
import Derived.Test.YtfjajkgfgigodaaGreatDoorVcMem2
namespace Go.Proofs.YtfjajkgfgigodaaGreatDoor
open Go
set_option maxRecDepth 100000

theorem mixed : Tryz.prog.follows .mixedOrders = true := by kernel_rfl
theorem ty1 : TyI Tryz.prog 1 false [.nilFunc] 8 := .mk' (z := .nilFunc) Tryz.underlying1 rfl (by kernel_rfl) rfl
theorem ty2 : TyI Tryz.prog 2 false [.int .i64 0] 8 := .mk' (z := .int .i64 0) Tryz.underlying2 rfl (by kernel_rfl) rfl
theorem int2 : Tryz.prog.underlying 2 = some (.int .i64) := Tryz.underlying2
theorem ty3 : TyI Tryz.prog 3 false [.int .i64 0] 8 := .mk' (z := .int .i64 0) Tryz.underlying3 rfl (by kernel_rfl) rfl
theorem int3 : Tryz.prog.underlying 3 = some (.int .i64) := Tryz.underlying3
theorem ty4 : TyI Tryz.prog 4 false [.bool false] 1 := .mk' (z := .bool false) Tryz.underlying4 rfl (by kernel_rfl) rfl
theorem bool4 : Tryz.prog.underlying 4 = some .bool := Tryz.underlying4
theorem ty5 : TyI Tryz.prog 5 false [.int .u8 0] 1 := .mk' (z := .int .u8 0) Tryz.underlying5 rfl (by kernel_rfl) rfl
theorem int5 : Tryz.prog.underlying 5 = some (.int .u8) := Tryz.underlying5
theorem ty6 : TyI Tryz.prog 6 false [.int .u8 0] 1 := .mk' (z := .int .u8 0) Tryz.underlying6 rfl (by kernel_rfl) rfl
theorem int6 : Tryz.prog.underlying 6 = some (.int .u8) := Tryz.underlying6
theorem ty7 : TyI Tryz.prog 7 true [.int .i64 0, .int .i64 0, .bool false, .int .u8 0] 24 := .mk' (z := .agg ⟨[.int .i64 0, .int .i64 0, .bool false, .int .u8 0]⟩) Tryz.underlying7 rfl (by kernel_rfl) rfl
theorem ty8 : TyI Tryz.prog 8 true [.int .i64 0, .int .i64 0, .bool false, .int .u8 0] 24 := .mk' (z := .agg ⟨[.int .i64 0, .int .i64 0, .bool false, .int .u8 0]⟩) Tryz.underlying8 rfl (by kernel_rfl) rfl
theorem ty9 : TyI Tryz.prog 9 false [.string ⟨⟨[]⟩⟩] 16 := .mk' (z := .string ⟨⟨[]⟩⟩) Tryz.underlying9 rfl (by kernel_rfl) rfl
theorem str9 : Tryz.prog.underlying 9 = some .string := Tryz.underlying9
theorem ty10 : TyI Tryz.prog 10 false [.string ⟨⟨[]⟩⟩] 16 := .mk' (z := .string ⟨⟨[]⟩⟩) Tryz.underlying10 rfl (by kernel_rfl) rfl
theorem str10 : Tryz.prog.underlying 10 = some .string := Tryz.underlying10
theorem ty11 : TyI Tryz.prog 11 false [.string ⟨⟨[]⟩⟩] 16 := .mk' (z := .string ⟨⟨[]⟩⟩) Tryz.underlying11 rfl (by kernel_rfl) rfl
theorem str11 : Tryz.prog.underlying 11 = some .string := Tryz.underlying11
theorem ty12 : TyI Tryz.prog 12 false [.int .u64 0] 8 := .mk' (z := .int .u64 0) Tryz.underlying12 rfl (by kernel_rfl) rfl
theorem int12 : Tryz.prog.underlying 12 = some (.int .u64) := Tryz.underlying12
theorem ty13 : TyI Tryz.prog 13 true [.string ⟨⟨[]⟩⟩, .int .u64 0] 24 := .mk' (z := .agg ⟨[.string ⟨⟨[]⟩⟩, .int .u64 0]⟩) Tryz.underlying13 rfl (by kernel_rfl) rfl
theorem ty14 : TyI Tryz.prog 14 true [.string ⟨⟨[]⟩⟩, .int .u64 0] 24 := .mk' (z := .agg ⟨[.string ⟨⟨[]⟩⟩, .int .u64 0]⟩) Tryz.underlying14 rfl (by kernel_rfl) rfl
theorem ty15 : TyI Tryz.prog 15 false [.pointer none] 8 := .mk' (z := .pointer none) Tryz.underlying15 rfl (by kernel_rfl) rfl
theorem ty16 : TyI Tryz.prog 16 false [.pointer none] 8 := .mk' (z := .pointer none) Tryz.underlying16 rfl (by kernel_rfl) rfl
theorem ty17 : TyI Tryz.prog 17 false [.pointer none] 8 := .mk' (z := .pointer none) Tryz.underlying17 rfl (by kernel_rfl) rfl
theorem ty18 : TyI Tryz.prog 18 true [.pointer none] 8 := .mk' (z := .agg ⟨[.pointer none]⟩) Tryz.underlying18 rfl (by kernel_rfl) rfl
theorem ty19 : TyI Tryz.prog 19 true [.pointer none] 8 := .mk' (z := .agg ⟨[.pointer none]⟩) Tryz.underlying19 rfl (by kernel_rfl) rfl
theorem ty20 : TyI Tryz.prog 20 false [.nilIface] 16 := .mk' (z := .nilIface) Tryz.underlying20 rfl (by kernel_rfl) rfl
theorem ty21 : TyI Tryz.prog 21 false [.int .i32 0] 4 := .mk' (z := .int .i32 0) Tryz.underlying21 rfl (by kernel_rfl) rfl
theorem int21 : Tryz.prog.underlying 21 = some (.int .i32) := Tryz.underlying21
theorem ty22 : TyI Tryz.prog 22 false [.slice none 0 0] 24 := .mk' (z := .slice none 0 0) Tryz.underlying22 rfl (by kernel_rfl) rfl
theorem sl22 : SliceT Tryz.prog 22 9 := Tryz.underlying22
theorem ty23 : TyI Tryz.prog 23 false [.nilFunc] 8 := .mk' (z := .nilFunc) Tryz.underlying23 rfl (by kernel_rfl) rfl
theorem ty24 : TyI Tryz.prog 24 false [.pointer none] 8 := .mk' (z := .pointer none) Tryz.underlying24 rfl (by kernel_rfl) rfl
theorem ty25 : TyI Tryz.prog 25 false [.nilFunc] 8 := .mk' (z := .nilFunc) Tryz.underlying25 rfl (by kernel_rfl) rfl
theorem ty26 : TyI Tryz.prog 26 false [.nilFunc] 8 := .mk' (z := .nilFunc) Tryz.underlying26 rfl (by kernel_rfl) rfl
theorem ty27 : TyI Tryz.prog 27 false [.int .i64 0] 8 := .mk' (z := .int .i64 0) Tryz.underlying27 rfl (by kernel_rfl) rfl
theorem int27 : Tryz.prog.underlying 27 = some (.int .i64) := Tryz.underlying27
theorem ty28 : TyI Tryz.prog 28 false [.nilFunc] 8 := .mk' (z := .nilFunc) Tryz.underlying28 rfl (by kernel_rfl) rfl
theorem ty29 : TyI Tryz.prog 29 false [.pointer none] 8 := .mk' (z := .pointer none) Tryz.underlying29 rfl (by kernel_rfl) rfl
theorem ty31 : TyI Tryz.prog 31 false [.nilFunc] 8 := .mk' (z := .nilFunc) Tryz.underlying31 rfl (by kernel_rfl) rfl
theorem ty32 : TyI Tryz.prog 32 false [.nilFunc] 8 := .mk' (z := .nilFunc) Tryz.underlying32 rfl (by kernel_rfl) rfl
theorem ty33 : TyI Tryz.prog 33 false [.nilFunc] 8 := .mk' (z := .nilFunc) Tryz.underlying33 rfl (by kernel_rfl) rfl
theorem ty34 : TyI Tryz.prog 34 false [.nilFunc] 8 := .mk' (z := .nilFunc) Tryz.underlying34 rfl (by kernel_rfl) rfl
theorem ty35 : TyI Tryz.prog 35 false [.slice none 0 0] 24 := .mk' (z := .slice none 0 0) Tryz.underlying35 rfl (by kernel_rfl) rfl
theorem sl35 : SliceT Tryz.prog 35 43 := Tryz.underlying35
theorem ty36 : TyI Tryz.prog 36 false [.nilFunc] 8 := .mk' (z := .nilFunc) Tryz.underlying36 rfl (by kernel_rfl) rfl
theorem ty38 : TyI Tryz.prog 38 false [.nilFunc] 8 := .mk' (z := .nilFunc) Tryz.underlying38 rfl (by kernel_rfl) rfl
theorem ty39 : TyI Tryz.prog 39 false [.nilFunc] 8 := .mk' (z := .nilFunc) Tryz.underlying39 rfl (by kernel_rfl) rfl
theorem ty40 : TyI Tryz.prog 40 false [.nilFunc] 8 := .mk' (z := .nilFunc) Tryz.underlying40 rfl (by kernel_rfl) rfl
theorem ty41 : TyI Tryz.prog 41 false [.nilFunc] 8 := .mk' (z := .nilFunc) Tryz.underlying41 rfl (by kernel_rfl) rfl
theorem ty42 : TyI Tryz.prog 42 true [.int .u8 0, .string ⟨⟨[]⟩⟩, .slice none 0 0, .int .i64 0, .int .i64 0, .int .i64 0] 72 := .mk' (z := .agg ⟨[.int .u8 0, .string ⟨⟨[]⟩⟩, .slice none 0 0, .int .i64 0, .int .i64 0, .int .i64 0]⟩) Tryz.underlying42 rfl (by kernel_rfl) rfl
theorem ty43 : TyI Tryz.prog 43 true [.int .u8 0, .string ⟨⟨[]⟩⟩, .slice none 0 0, .int .i64 0, .int .i64 0, .int .i64 0] 72 := .mk' (z := .agg ⟨[.int .u8 0, .string ⟨⟨[]⟩⟩, .slice none 0 0, .int .i64 0, .int .i64 0, .int .i64 0]⟩) Tryz.underlying43 rfl (by kernel_rfl) rfl
theorem ty45 : TyI Tryz.prog 45 false [.nilFunc] 8 := .mk' (z := .nilFunc) Tryz.underlying45 rfl (by kernel_rfl) rfl
theorem ty46 : TyI Tryz.prog 46 false [.nilFunc] 8 := .mk' (z := .nilFunc) Tryz.underlying46 rfl (by kernel_rfl) rfl
theorem ty47 : TyI Tryz.prog 47 false [.nilFunc] 8 := .mk' (z := .nilFunc) Tryz.underlying47 rfl (by kernel_rfl) rfl
theorem ty48 : TyI Tryz.prog 48 false [.nilFunc] 8 := .mk' (z := .nilFunc) Tryz.underlying48 rfl (by kernel_rfl) rfl
theorem ty49 : TyI Tryz.prog 49 false [.nilFunc] 8 := .mk' (z := .nilFunc) Tryz.underlying49 rfl (by kernel_rfl) rfl
theorem ty50 : TyI Tryz.prog 50 false [.nilFunc] 8 := .mk' (z := .nilFunc) Tryz.underlying50 rfl (by kernel_rfl) rfl
theorem ty51 : TyI Tryz.prog 51 false [.nilFunc] 8 := .mk' (z := .nilFunc) Tryz.underlying51 rfl (by kernel_rfl) rfl
theorem ty52 : TyI Tryz.prog 52 false [.nilFunc] 8 := .mk' (z := .nilFunc) Tryz.underlying52 rfl (by kernel_rfl) rfl
theorem ty53 : TyI Tryz.prog 53 false [.pointer none] 8 := .mk' (z := .pointer none) Tryz.underlying53 rfl (by kernel_rfl) rfl
theorem ty54 : TyI Tryz.prog 54 false [.nilFunc] 8 := .mk' (z := .nilFunc) Tryz.underlying54 rfl (by kernel_rfl) rfl
theorem ty55 : TyI Tryz.prog 55 false [.pointer none] 8 := .mk' (z := .pointer none) Tryz.underlying55 rfl (by kernel_rfl) rfl
theorem ty57 : TyI Tryz.prog 57 false [.nilFunc] 8 := .mk' (z := .nilFunc) Tryz.underlying57 rfl (by kernel_rfl) rfl
theorem ty58 : TyI Tryz.prog 58 false [.nilFunc] 8 := .mk' (z := .nilFunc) Tryz.underlying58 rfl (by kernel_rfl) rfl
theorem ty59 : TyI Tryz.prog 59 false [.slice none 0 0] 24 := .mk' (z := .slice none 0 0) Tryz.underlying59 rfl (by kernel_rfl) rfl
theorem sl59 : SliceT Tryz.prog 59 5 := Tryz.underlying59
theorem ty60 : TyI Tryz.prog 60 false [.slice none 0 0] 24 := .mk' (z := .slice none 0 0) Tryz.underlying60 rfl (by kernel_rfl) rfl
theorem sl60 : SliceT Tryz.prog 60 69 := Tryz.underlying60
theorem ty61 : TyI Tryz.prog 61 false [.pointer none] 8 := .mk' (z := .pointer none) Tryz.underlying61 rfl (by kernel_rfl) rfl
theorem ty62 : TyI Tryz.prog 62 true [.slice none 0 0, .slice none 0 0, .slice none 0 0, .bool false, .pointer none] 88 := .mk' (z := .agg ⟨[.slice none 0 0, .slice none 0 0, .slice none 0 0, .bool false, .pointer none]⟩) Tryz.underlying62 rfl (by kernel_rfl) rfl
theorem ty63 : TyI Tryz.prog 63 true [.slice none 0 0, .slice none 0 0, .slice none 0 0, .bool false, .pointer none] 88 := .mk' (z := .agg ⟨[.slice none 0 0, .slice none 0 0, .slice none 0 0, .bool false, .pointer none]⟩) Tryz.underlying63 rfl (by kernel_rfl) rfl
theorem ty64 : TyI Tryz.prog 64 true [.int .i64 0, .int .i64 0] 16 := .mk' (z := .agg ⟨[.int .i64 0, .int .i64 0]⟩) Tryz.underlying64 rfl (by kernel_rfl) rfl
theorem ty65 : TyI Tryz.prog 65 true [.int .i64 0, .int .i64 0] 16 := .mk' (z := .agg ⟨[.int .i64 0, .int .i64 0]⟩) Tryz.underlying65 rfl (by kernel_rfl) rfl
theorem ty67 : TyI Tryz.prog 67 false [.nilFunc] 8 := .mk' (z := .nilFunc) Tryz.underlying67 rfl (by kernel_rfl) rfl
theorem ty68 : TyI Tryz.prog 68 true [.int .i64 0, .int .i64 0, .string ⟨⟨[]⟩⟩] 32 := .mk' (z := .agg ⟨[.int .i64 0, .int .i64 0, .string ⟨⟨[]⟩⟩]⟩) Tryz.underlying68 rfl (by kernel_rfl) rfl
theorem ty69 : TyI Tryz.prog 69 true [.int .i64 0, .int .i64 0, .string ⟨⟨[]⟩⟩] 32 := .mk' (z := .agg ⟨[.int .i64 0, .int .i64 0, .string ⟨⟨[]⟩⟩]⟩) Tryz.underlying69 rfl (by kernel_rfl) rfl
theorem ty70 : TyI Tryz.prog 70 false [.nilFunc] 8 := .mk' (z := .nilFunc) Tryz.underlying70 rfl (by kernel_rfl) rfl
theorem ty71 : TyI Tryz.prog 71 true [.int .i64 0, .int .i64 0, .int .i64 0] 24 := .mk' (z := .agg ⟨[.int .i64 0, .int .i64 0, .int .i64 0]⟩) Tryz.underlying71 rfl (by kernel_rfl) rfl
theorem ty72 : TyI Tryz.prog 72 true [.int .i64 0, .int .i64 0, .int .i64 0] 24 := .mk' (z := .agg ⟨[.int .i64 0, .int .i64 0, .int .i64 0]⟩) Tryz.underlying72 rfl (by kernel_rfl) rfl
theorem ty73 : TyI Tryz.prog 73 true [.int .i64 0, .int .i64 0, .int .i64 0, .pointer none, .int .i64 0, .int .i64 0, .slice none 0 0, .bool false] 80 := .mk' (z := .agg ⟨[.int .i64 0, .int .i64 0, .int .i64 0, .pointer none, .int .i64 0, .int .i64 0, .slice none 0 0, .bool false]⟩) Tryz.underlying73 rfl (by kernel_rfl) rfl
theorem ty74 : TyI Tryz.prog 74 true [.int .i64 0, .int .i64 0, .int .i64 0, .pointer none, .int .i64 0, .int .i64 0, .slice none 0 0, .bool false] 80 := .mk' (z := .agg ⟨[.int .i64 0, .int .i64 0, .int .i64 0, .pointer none, .int .i64 0, .int .i64 0, .slice none 0 0, .bool false]⟩) Tryz.underlying74 rfl (by kernel_rfl) rfl
theorem ty76 : TyI Tryz.prog 76 false [.nilFunc] 8 := .mk' (z := .nilFunc) Tryz.underlying76 rfl (by kernel_rfl) rfl
theorem ty77 : TyI Tryz.prog 77 false [.nilFunc] 8 := .mk' (z := .nilFunc) Tryz.underlying77 rfl (by kernel_rfl) rfl
theorem ty78 : TyI Tryz.prog 78 false [.nilFunc] 8 := .mk' (z := .nilFunc) Tryz.underlying78 rfl (by kernel_rfl) rfl
theorem ty79 : TyI Tryz.prog 79 false [.nilFunc] 8 := .mk' (z := .nilFunc) Tryz.underlying79 rfl (by kernel_rfl) rfl
theorem ty80 : TyI Tryz.prog 80 false [.nilFunc] 8 := .mk' (z := .nilFunc) Tryz.underlying80 rfl (by kernel_rfl) rfl
theorem ty81 : TyI Tryz.prog 81 false [.nilFunc] 8 := .mk' (z := .nilFunc) Tryz.underlying81 rfl (by kernel_rfl) rfl
theorem ty82 : TyI Tryz.prog 82 false [.nilFunc] 8 := .mk' (z := .nilFunc) Tryz.underlying82 rfl (by kernel_rfl) rfl
theorem ty83 : TyI Tryz.prog 83 false [.nilFunc] 8 := .mk' (z := .nilFunc) Tryz.underlying83 rfl (by kernel_rfl) rfl
theorem ty84 : TyI Tryz.prog 84 false [.slice none 0 0] 24 := .mk' (z := .slice none 0 0) Tryz.underlying84 rfl (by kernel_rfl) rfl
theorem sl84 : SliceT Tryz.prog 84 3 := Tryz.underlying84
theorem ty85 : TyI Tryz.prog 85 false [.nilFunc] 8 := .mk' (z := .nilFunc) Tryz.underlying85 rfl (by kernel_rfl) rfl
theorem ty87 : TyI Tryz.prog 87 false [.nilFunc] 8 := .mk' (z := .nilFunc) Tryz.underlying87 rfl (by kernel_rfl) rfl
theorem ty88 : TyI Tryz.prog 88 false [.nilFunc] 8 := .mk' (z := .nilFunc) Tryz.underlying88 rfl (by kernel_rfl) rfl
theorem ty89 : TyI Tryz.prog 89 false [.nilFunc] 8 := .mk' (z := .nilFunc) Tryz.underlying89 rfl (by kernel_rfl) rfl
theorem ty90 : TyI Tryz.prog 90 true [.int .i64 0, .int .i64 0, .int .i64 0] 24 := .mk' (z := .agg ⟨[.int .i64 0, .int .i64 0, .int .i64 0]⟩) Tryz.underlying90 rfl (by kernel_rfl) rfl
theorem ty91 : TyI Tryz.prog 91 true [.int .i64 0, .int .i64 0, .int .i64 0] 24 := .mk' (z := .agg ⟨[.int .i64 0, .int .i64 0, .int .i64 0]⟩) Tryz.underlying91 rfl (by kernel_rfl) rfl
theorem ty92 : TyI Tryz.prog 92 false [.slice none 0 0] 24 := .mk' (z := .slice none 0 0) Tryz.underlying92 rfl (by kernel_rfl) rfl
theorem sl92 : SliceT Tryz.prog 92 104 := Tryz.underlying92
theorem ty93 : TyI Tryz.prog 93 true [.slice none 0 0, .slice none 0 0, .slice none 0 0, .bool false, .bool false, .int .i64 0, .int .i64 0, .int .i64 0] 104 := .mk' (z := .agg ⟨[.slice none 0 0, .slice none 0 0, .slice none 0 0, .bool false, .bool false, .int .i64 0, .int .i64 0, .int .i64 0]⟩) Tryz.underlying93 rfl (by kernel_rfl) rfl
theorem ty94 : TyI Tryz.prog 94 true [.slice none 0 0, .slice none 0 0, .slice none 0 0, .bool false, .bool false, .int .i64 0, .int .i64 0, .int .i64 0] 104 := .mk' (z := .agg ⟨[.slice none 0 0, .slice none 0 0, .slice none 0 0, .bool false, .bool false, .int .i64 0, .int .i64 0, .int .i64 0]⟩) Tryz.underlying94 rfl (by kernel_rfl) rfl
theorem ty95 : TyI Tryz.prog 95 true [.int .i64 0, .int .i64 0, .int .i64 0] 24 := .mk' (z := .agg ⟨[.int .i64 0, .int .i64 0, .int .i64 0]⟩) Tryz.underlying95 rfl (by kernel_rfl) rfl
theorem ty96 : TyI Tryz.prog 96 false [.nilFunc] 8 := .mk' (z := .nilFunc) Tryz.underlying96 rfl (by kernel_rfl) rfl
theorem ty97 : TyI Tryz.prog 97 true [.pointer none, .int .i64 0, .int .i64 0, .int .i64 0, .int .i64 0, .int .i64 0, .slice none 0 0, .bool false] 80 := .mk' (z := .agg ⟨[.pointer none, .int .i64 0, .int .i64 0, .int .i64 0, .int .i64 0, .int .i64 0, .slice none 0 0, .bool false]⟩) Tryz.underlying97 rfl (by kernel_rfl) rfl
theorem ty98 : TyI Tryz.prog 98 true [.pointer none, .int .i64 0, .int .i64 0, .int .i64 0, .int .i64 0, .int .i64 0, .slice none 0 0, .bool false] 80 := .mk' (z := .agg ⟨[.pointer none, .int .i64 0, .int .i64 0, .int .i64 0, .int .i64 0, .int .i64 0, .slice none 0 0, .bool false]⟩) Tryz.underlying98 rfl (by kernel_rfl) rfl
theorem ty100 : TyI Tryz.prog 100 false [.nilFunc] 8 := .mk' (z := .nilFunc) Tryz.underlying100 rfl (by kernel_rfl) rfl
theorem ty101 : TyI Tryz.prog 101 false [.nilFunc] 8 := .mk' (z := .nilFunc) Tryz.underlying101 rfl (by kernel_rfl) rfl
theorem ty102 : TyI Tryz.prog 102 false [.nilFunc] 8 := .mk' (z := .nilFunc) Tryz.underlying102 rfl (by kernel_rfl) rfl
theorem ty103 : TyI Tryz.prog 103 true [.int .i64 0, .string ⟨⟨[]⟩⟩] 24 := .mk' (z := .agg ⟨[.int .i64 0, .string ⟨⟨[]⟩⟩]⟩) Tryz.underlying103 rfl (by kernel_rfl) rfl
theorem ty104 : TyI Tryz.prog 104 true [.int .i64 0, .string ⟨⟨[]⟩⟩] 24 := .mk' (z := .agg ⟨[.int .i64 0, .string ⟨⟨[]⟩⟩]⟩) Tryz.underlying104 rfl (by kernel_rfl) rfl
theorem ty105 : TyI Tryz.prog 105 false [.nilFunc] 8 := .mk' (z := .nilFunc) Tryz.underlying105 rfl (by kernel_rfl) rfl
theorem ty106 : TyI Tryz.prog 106 false [.nilFunc] 8 := .mk' (z := .nilFunc) Tryz.underlying106 rfl (by kernel_rfl) rfl
theorem ty107 : TyI Tryz.prog 107 false [.nilIface] 16 := .mk' (z := .nilIface) Tryz.underlying107 rfl (by kernel_rfl) rfl
theorem ty108 : TyI Tryz.prog 108 false [.nilIface] 16 := .mk' (z := .nilIface) Tryz.underlying108 rfl (by kernel_rfl) rfl
theorem ty110 : TyI Tryz.prog 110 false [.nilFunc] 8 := .mk' (z := .nilFunc) Tryz.underlying110 rfl (by kernel_rfl) rfl
theorem ty111 : TyI Tryz.prog 111 false [.nilFunc] 8 := .mk' (z := .nilFunc) Tryz.underlying111 rfl (by kernel_rfl) rfl
theorem ty112 : TyI Tryz.prog 112 false [.nilFunc] 8 := .mk' (z := .nilFunc) Tryz.underlying112 rfl (by kernel_rfl) rfl
theorem ty114 : TyI Tryz.prog 114 false [.nilFunc] 8 := .mk' (z := .nilFunc) Tryz.underlying114 rfl (by kernel_rfl) rfl
theorem ty116 : TyI Tryz.prog 116 false [.nilFunc] 8 := .mk' (z := .nilFunc) Tryz.underlying116 rfl (by kernel_rfl) rfl
theorem ty117 : TyI Tryz.prog 117 false [.nilFunc] 8 := .mk' (z := .nilFunc) Tryz.underlying117 rfl (by kernel_rfl) rfl
theorem ty118 : TyI Tryz.prog 118 false [.nilFunc] 8 := .mk' (z := .nilFunc) Tryz.underlying118 rfl (by kernel_rfl) rfl
theorem ty119 : TyI Tryz.prog 119 false [.nilFunc] 8 := .mk' (z := .nilFunc) Tryz.underlying119 rfl (by kernel_rfl) rfl
theorem ty120 : TyI Tryz.prog 120 false [.nilFunc] 8 := .mk' (z := .nilFunc) Tryz.underlying120 rfl (by kernel_rfl) rfl
theorem ty122 : TyI Tryz.prog 122 false [.nilFunc] 8 := .mk' (z := .nilFunc) Tryz.underlying122 rfl (by kernel_rfl) rfl
theorem ty123 : TyI Tryz.prog 123 false [.nilFunc] 8 := .mk' (z := .nilFunc) Tryz.underlying123 rfl (by kernel_rfl) rfl
theorem ty124 : TyI Tryz.prog 124 false [.nilFunc] 8 := .mk' (z := .nilFunc) Tryz.underlying124 rfl (by kernel_rfl) rfl
theorem ty125 : TyI Tryz.prog 125 false [.nilFunc] 8 := .mk' (z := .nilFunc) Tryz.underlying125 rfl (by kernel_rfl) rfl
theorem ty126 : TyI Tryz.prog 126 false [.nilFunc] 8 := .mk' (z := .nilFunc) Tryz.underlying126 rfl (by kernel_rfl) rfl
theorem ty127 : TyI Tryz.prog 127 false [.nilFunc] 8 := .mk' (z := .nilFunc) Tryz.underlying127 rfl (by kernel_rfl) rfl
theorem ty128 : TyI Tryz.prog 128 false [.nilFunc] 8 := .mk' (z := .nilFunc) Tryz.underlying128 rfl (by kernel_rfl) rfl
theorem ty129 : TyI Tryz.prog 129 false [.int .u64 0] 8 := .mk' (z := .int .u64 0) Tryz.underlying129 rfl (by kernel_rfl) rfl
theorem int129 : Tryz.prog.underlying 129 = some (.int .u64) := Tryz.underlying129
theorem ty130 : TyI Tryz.prog 130 false [.nilFunc] 8 := .mk' (z := .nilFunc) Tryz.underlying130 rfl (by kernel_rfl) rfl
theorem ty131 : TyI Tryz.prog 131 true [.int .i64 0, .int .i64 0] 16 := .mk' (z := .agg ⟨[.int .i64 0, .int .i64 0]⟩) Tryz.underlying131 rfl (by kernel_rfl) rfl
theorem ty132 : TyI Tryz.prog 132 true [.int .i64 0, .int .i64 0] 16 := .mk' (z := .agg ⟨[.int .i64 0, .int .i64 0]⟩) Tryz.underlying132 rfl (by kernel_rfl) rfl
theorem ty133 : TyI Tryz.prog 133 false [.pointer none] 8 := .mk' (z := .pointer none) Tryz.underlying133 rfl (by kernel_rfl) rfl
theorem ty134 : TyI Tryz.prog 134 true [.pointer none, .slice none 0 0] 32 := .mk' (z := .agg ⟨[.pointer none, .slice none 0 0]⟩) Tryz.underlying134 rfl (by kernel_rfl) rfl
theorem ty135 : TyI Tryz.prog 135 true [.pointer none, .slice none 0 0] 32 := .mk' (z := .agg ⟨[.pointer none, .slice none 0 0]⟩) Tryz.underlying135 rfl (by kernel_rfl) rfl
theorem ty136 : TyI Tryz.prog 136 false [.nilFunc] 8 := .mk' (z := .nilFunc) Tryz.underlying136 rfl (by kernel_rfl) rfl
theorem ty137 : TyI Tryz.prog 137 false [.nilFunc] 8 := .mk' (z := .nilFunc) Tryz.underlying137 rfl (by kernel_rfl) rfl
theorem ty138 : TyI Tryz.prog 138 false [.nilFunc] 8 := .mk' (z := .nilFunc) Tryz.underlying138 rfl (by kernel_rfl) rfl
theorem ty139 : TyI Tryz.prog 139 false [.int .i64 0] 8 := .mk' (z := .int .i64 0) Tryz.underlying139 rfl (by kernel_rfl) rfl
theorem int139 : Tryz.prog.underlying 139 = some (.int .i64) := Tryz.underlying139
theorem ty141 : TyI Tryz.prog 141 false [.nilFunc] 8 := .mk' (z := .nilFunc) Tryz.underlying141 rfl (by kernel_rfl) rfl
theorem ty142 : TyI Tryz.prog 142 false [.pointer none] 8 := .mk' (z := .pointer none) Tryz.underlying142 rfl (by kernel_rfl) rfl
theorem ty143 : TyI Tryz.prog 143 false [.nilFunc] 8 := .mk' (z := .nilFunc) Tryz.underlying143 rfl (by kernel_rfl) rfl
theorem ty144 : TyI Tryz.prog 144 false [.nilFunc] 8 := .mk' (z := .nilFunc) Tryz.underlying144 rfl (by kernel_rfl) rfl
theorem ty145 : TyI Tryz.prog 145 false [.slice none 0 0] 24 := .mk' (z := .slice none 0 0) Tryz.underlying145 rfl (by kernel_rfl) rfl
theorem sl145 : SliceT Tryz.prog 145 132 := Tryz.underlying145
theorem ty146 : TyI Tryz.prog 146 false [.nilFunc] 8 := .mk' (z := .nilFunc) Tryz.underlying146 rfl (by kernel_rfl) rfl
theorem ty147 : TyI Tryz.prog 147 false [.pointer none] 8 := .mk' (z := .pointer none) Tryz.underlying147 rfl (by kernel_rfl) rfl
theorem ty148 : TyI Tryz.prog 148 false [.nilFunc] 8 := .mk' (z := .nilFunc) Tryz.underlying148 rfl (by kernel_rfl) rfl
theorem ty149 : TyI Tryz.prog 149 false [.int .u64 0] 8 := .mk' (z := .int .u64 0) Tryz.underlying149 rfl (by kernel_rfl) rfl
theorem int149 : Tryz.prog.underlying 149 = some (.int .u64) := Tryz.underlying149
theorem ty151 : TyI Tryz.prog 151 false [.nilFunc] 8 := .mk' (z := .nilFunc) Tryz.underlying151 rfl (by kernel_rfl) rfl
theorem ty152 : TyI Tryz.prog 152 false [.nilFunc] 8 := .mk' (z := .nilFunc) Tryz.underlying152 rfl (by kernel_rfl) rfl
theorem ty153 : TyI Tryz.prog 153 true [.string ⟨⟨[]⟩⟩, .string ⟨⟨[]⟩⟩, .nilIface] 48 := .mk' (z := .agg ⟨[.string ⟨⟨[]⟩⟩, .string ⟨⟨[]⟩⟩, .nilIface]⟩) Tryz.underlying153 rfl (by kernel_rfl) rfl
theorem ty154 : TyI Tryz.prog 154 true [.string ⟨⟨[]⟩⟩, .string ⟨⟨[]⟩⟩, .nilIface] 48 := .mk' (z := .agg ⟨[.string ⟨⟨[]⟩⟩, .string ⟨⟨[]⟩⟩, .nilIface]⟩) Tryz.underlying154 rfl (by kernel_rfl) rfl
theorem ty155 : TyI Tryz.prog 155 false [.nilFunc] 8 := .mk' (z := .nilFunc) Tryz.underlying155 rfl (by kernel_rfl) rfl
theorem ty156 : TyI Tryz.prog 156 false [.nilFunc] 8 := .mk' (z := .nilFunc) Tryz.underlying156 rfl (by kernel_rfl) rfl
theorem ty157 : TyI Tryz.prog 157 false [.pointer none] 8 := .mk' (z := .pointer none) Tryz.underlying157 rfl (by kernel_rfl) rfl
theorem ty158 : TyI Tryz.prog 158 false [.nilFunc] 8 := .mk' (z := .nilFunc) Tryz.underlying158 rfl (by kernel_rfl) rfl
theorem ty159 : TyI Tryz.prog 159 false [.nilFunc] 8 := .mk' (z := .nilFunc) Tryz.underlying159 rfl (by kernel_rfl) rfl
theorem ty160 : TyI Tryz.prog 160 false [.nilFunc] 8 := .mk' (z := .nilFunc) Tryz.underlying160 rfl (by kernel_rfl) rfl
theorem ty162 : TyI Tryz.prog 162 false [.nilFunc] 8 := .mk' (z := .nilFunc) Tryz.underlying162 rfl (by kernel_rfl) rfl
theorem ty163 : TyI Tryz.prog 163 false [.nilFunc] 8 := .mk' (z := .nilFunc) Tryz.underlying163 rfl (by kernel_rfl) rfl
theorem ty164 : TyI Tryz.prog 164 false [.nilFunc] 8 := .mk' (z := .nilFunc) Tryz.underlying164 rfl (by kernel_rfl) rfl
theorem ty165 : TyI Tryz.prog 165 false [.pointer none] 8 := .mk' (z := .pointer none) Tryz.underlying165 rfl (by kernel_rfl) rfl
theorem ty166 : TyI Tryz.prog 166 true [.string ⟨⟨[]⟩⟩] 16 := .mk' (z := .agg ⟨[.string ⟨⟨[]⟩⟩]⟩) Tryz.underlying166 rfl (by kernel_rfl) rfl
theorem ty167 : TyI Tryz.prog 167 true [.string ⟨⟨[]⟩⟩] 16 := .mk' (z := .agg ⟨[.string ⟨⟨[]⟩⟩]⟩) Tryz.underlying167 rfl (by kernel_rfl) rfl
theorem ty168 : TyI Tryz.prog 168 false [.int .u32 0] 4 := .mk' (z := .int .u32 0) Tryz.underlying168 rfl (by kernel_rfl) rfl
theorem int168 : Tryz.prog.underlying 168 = some (.int .u32) := Tryz.underlying168
theorem ty170 : TyI Tryz.prog 170 false [.nilFunc] 8 := .mk' (z := .nilFunc) Tryz.underlying170 rfl (by kernel_rfl) rfl
theorem ty171 : TyI Tryz.prog 171 true [.int .u8 0, .int .u8 0, .int .u8 0, .int .u8 0, .int .u8 0, .int .u8 0, .int .u8 0, .int .u8 0, .int .u8 0, .int .u8 0, .int .u8 0, .int .u8 0, .int .u8 0, .int .u8 0, .int .u8 0, .int .u8 0, .int .u8 0, .int .u8 0, .int .u8 0, .int .u8 0, .int .u8 0, .int .u8 0, .int .u8 0, .int .u8 0] 24 := .mk' (z := .agg ⟨[.int .u8 0, .int .u8 0, .int .u8 0, .int .u8 0, .int .u8 0, .int .u8 0, .int .u8 0, .int .u8 0, .int .u8 0, .int .u8 0, .int .u8 0, .int .u8 0, .int .u8 0, .int .u8 0, .int .u8 0, .int .u8 0, .int .u8 0, .int .u8 0, .int .u8 0, .int .u8 0, .int .u8 0, .int .u8 0, .int .u8 0, .int .u8 0]⟩) Tryz.underlying171 rfl (by kernel_rfl) rfl
theorem ty172 : TyI Tryz.prog 172 false [.nilFunc] 8 := .mk' (z := .nilFunc) Tryz.underlying172 rfl (by kernel_rfl) rfl
theorem ty173 : TyI Tryz.prog 173 false [.nilFunc] 8 := .mk' (z := .nilFunc) Tryz.underlying173 rfl (by kernel_rfl) rfl
theorem ty175 : TyI Tryz.prog 175 false [.nilFunc] 8 := .mk' (z := .nilFunc) Tryz.underlying175 rfl (by kernel_rfl) rfl
theorem ty176 : TyI Tryz.prog 176 false [.nilFunc] 8 := .mk' (z := .nilFunc) Tryz.underlying176 rfl (by kernel_rfl) rfl
theorem ty178 : TyI Tryz.prog 178 false [.nilFunc] 8 := .mk' (z := .nilFunc) Tryz.underlying178 rfl (by kernel_rfl) rfl
theorem ty179 : TyI Tryz.prog 179 false [.nilFunc] 8 := .mk' (z := .nilFunc) Tryz.underlying179 rfl (by kernel_rfl) rfl
theorem ty180 : TyI Tryz.prog 180 true [.int .u64 0, .int .u64 0, .int .u64 0, .int .u64 0, .int .u64 0, .int .u64 0, .int .u64 0, .int .u64 0, .int .u64 0, .int .u64 0, .int .u64 0, .int .u64 0, .int .u64 0, .int .u64 0, .int .u64 0, .int .u64 0, .int .u64 0, .int .u64 0, .int .u64 0, .int .u64 0] 160 := .mk' (z := .agg ⟨[.int .u64 0, .int .u64 0, .int .u64 0, .int .u64 0, .int .u64 0, .int .u64 0, .int .u64 0, .int .u64 0, .int .u64 0, .int .u64 0, .int .u64 0, .int .u64 0, .int .u64 0, .int .u64 0, .int .u64 0, .int .u64 0, .int .u64 0, .int .u64 0, .int .u64 0, .int .u64 0]⟩) Tryz.underlying180 rfl (by kernel_rfl) rfl
theorem ty181 : TyI Tryz.prog 181 true [.int .u8 0, .int .u8 0, .int .u8 0, .int .u8 0, .int .u8 0, .int .u8 0, .int .u8 0, .int .u8 0, .int .u8 0, .int .u8 0, .int .u8 0, .int .u8 0, .int .u8 0, .int .u8 0, .int .u8 0, .int .u8 0, .int .u8 0, .int .u8 0, .int .u8 0, .int .u8 0, .int .u8 0, .int .u8 0, .int .u8 0, .int .u8 0, .int .u8 0, .int .u8 0, .int .u8 0, .int .u8 0, .int .u8 0, .int .u8 0, .int .u8 0, .int .u8 0, .int .u8 0, .int .u8 0, .int .u8 0, .int .u8 0, .int .u8 0, .int .u8 0, .int .u8 0, .int .u8 0, .int .u8 0, .int .u8 0, .int .u8 0, .int .u8 0, .int .u8 0, .int .u8 0, .int .u8 0, .int .u8 0, .int .u8 0, .int .u8 0, .int .u8 0, .int .u8 0, .int .u8 0, .int .u8 0, .int .u8 0, .int .u8 0, .int .u8 0, .int .u8 0, .int .u8 0, .int .u8 0, .int .u8 0, .int .u8 0, .int .u8 0, .int .u8 0, .int .u8 0] 65 := .mk' (z := .agg ⟨[.int .u8 0, .int .u8 0, .int .u8 0, .int .u8 0, .int .u8 0, .int .u8 0, .int .u8 0, .int .u8 0, .int .u8 0, .int .u8 0, .int .u8 0, .int .u8 0, .int .u8 0, .int .u8 0, .int .u8 0, .int .u8 0, .int .u8 0, .int .u8 0, .int .u8 0, .int .u8 0, .int .u8 0, .int .u8 0, .int .u8 0, .int .u8 0, .int .u8 0, .int .u8 0, .int .u8 0, .int .u8 0, .int .u8 0, .int .u8 0, .int .u8 0, .int .u8 0, .int .u8 0, .int .u8 0, .int .u8 0, .int .u8 0, .int .u8 0, .int .u8 0, .int .u8 0, .int .u8 0, .int .u8 0, .int .u8 0, .int .u8 0, .int .u8 0, .int .u8 0, .int .u8 0, .int .u8 0, .int .u8 0, .int .u8 0, .int .u8 0, .int .u8 0, .int .u8 0, .int .u8 0, .int .u8 0, .int .u8 0, .int .u8 0, .int .u8 0, .int .u8 0, .int .u8 0, .int .u8 0, .int .u8 0, .int .u8 0, .int .u8 0, .int .u8 0, .int .u8 0]⟩) Tryz.underlying181 rfl (by kernel_rfl) rfl
theorem ty182 : TyI Tryz.prog 182 false [.nilFunc] 8 := .mk' (z := .nilFunc) Tryz.underlying182 rfl (by kernel_rfl) rfl
theorem ty183 : TyI Tryz.prog 183 false [.nilFunc] 8 := .mk' (z := .nilFunc) Tryz.underlying183 rfl (by kernel_rfl) rfl
theorem ty184 : TyI Tryz.prog 184 false [.nilFunc] 8 := .mk' (z := .nilFunc) Tryz.underlying184 rfl (by kernel_rfl) rfl
theorem ty185 : TyI Tryz.prog 185 true [.int .u8 0, .int .u8 0, .int .u8 0, .int .u8 0, .int .u8 0, .int .u8 0, .int .u8 0, .int .u8 0, .int .u8 0, .int .u8 0, .int .u8 0, .int .u8 0, .int .u8 0, .int .u8 0, .int .u8 0, .int .u8 0, .int .u8 0, .int .u8 0, .int .u8 0, .int .u8 0, .int .u8 0, .int .u8 0, .int .u8 0, .int .u8 0, .int .u8 0, .int .u8 0, .int .u8 0, .int .u8 0, .int .u8 0, .int .u8 0, .int .u8 0, .int .u8 0] 32 := .mk' (z := .agg ⟨[.int .u8 0, .int .u8 0, .int .u8 0, .int .u8 0, .int .u8 0, .int .u8 0, .int .u8 0, .int .u8 0, .int .u8 0, .int .u8 0, .int .u8 0, .int .u8 0, .int .u8 0, .int .u8 0, .int .u8 0, .int .u8 0, .int .u8 0, .int .u8 0, .int .u8 0, .int .u8 0, .int .u8 0, .int .u8 0, .int .u8 0, .int .u8 0, .int .u8 0, .int .u8 0, .int .u8 0, .int .u8 0, .int .u8 0, .int .u8 0, .int .u8 0, .int .u8 0]⟩) Tryz.underlying185 rfl (by kernel_rfl) rfl
theorem ty186 : TyI Tryz.prog 186 true [.int .u8 0, .int .u8 0, .int .u8 0, .int .u8 0, .int .u8 0, .int .u8 0, .int .u8 0, .int .u8 0, .int .u8 0, .int .u8 0, .int .u8 0, .int .u8 0, .int .u8 0, .int .u8 0, .int .u8 0, .int .u8 0, .int .u8 0, .int .u8 0, .int .u8 0, .int .u8 0, .int .u8 0, .int .u8 0, .int .u8 0, .int .u8 0, .int .u8 0, .int .u8 0, .int .u8 0, .int .u8 0, .int .u8 0, .int .u8 0, .int .u8 0, .int .u8 0, .int .u8 0, .int .u8 0, .int .u8 0, .int .u8 0, .int .u8 0, .int .u8 0, .int .u8 0, .int .u8 0, .int .u8 0, .int .u8 0, .int .u8 0, .int .u8 0, .int .u8 0, .int .u8 0, .int .u8 0, .int .u8 0, .int .u8 0, .int .u8 0, .int .u8 0, .int .u8 0, .int .u8 0, .int .u8 0, .int .u8 0, .int .u8 0, .int .u8 0, .int .u8 0, .int .u8 0, .int .u8 0, .int .u8 0, .int .u8 0, .int .u8 0, .int .u8 0] 64 := .mk' (z := .agg ⟨[.int .u8 0, .int .u8 0, .int .u8 0, .int .u8 0, .int .u8 0, .int .u8 0, .int .u8 0, .int .u8 0, .int .u8 0, .int .u8 0, .int .u8 0, .int .u8 0, .int .u8 0, .int .u8 0, .int .u8 0, .int .u8 0, .int .u8 0, .int .u8 0, .int .u8 0, .int .u8 0, .int .u8 0, .int .u8 0, .int .u8 0, .int .u8 0, .int .u8 0, .int .u8 0, .int .u8 0, .int .u8 0, .int .u8 0, .int .u8 0, .int .u8 0, .int .u8 0, .int .u8 0, .int .u8 0, .int .u8 0, .int .u8 0, .int .u8 0, .int .u8 0, .int .u8 0, .int .u8 0, .int .u8 0, .int .u8 0, .int .u8 0, .int .u8 0, .int .u8 0, .int .u8 0, .int .u8 0, .int .u8 0, .int .u8 0, .int .u8 0, .int .u8 0, .int .u8 0, .int .u8 0, .int .u8 0, .int .u8 0, .int .u8 0, .int .u8 0, .int .u8 0, .int .u8 0, .int .u8 0, .int .u8 0, .int .u8 0, .int .u8 0, .int .u8 0]⟩) Tryz.underlying186 rfl (by kernel_rfl) rfl
theorem ty187 : TyI Tryz.prog 187 true [.pointer none, .pointer none, .pointer none, .string ⟨⟨[]⟩⟩] 40 := .mk' (z := .agg ⟨[.pointer none, .pointer none, .pointer none, .string ⟨⟨[]⟩⟩]⟩) Tryz.underlying187 rfl (by kernel_rfl) rfl
theorem ty188 : TyI Tryz.prog 188 true [.pointer none, .pointer none, .pointer none, .string ⟨⟨[]⟩⟩] 40 := .mk' (z := .agg ⟨[.pointer none, .pointer none, .pointer none, .string ⟨⟨[]⟩⟩]⟩) Tryz.underlying188 rfl (by kernel_rfl) rfl
theorem ty189 : TyI Tryz.prog 189 true [] 0 := .mk' (z := .agg ⟨[]⟩) Tryz.underlying189 rfl (by kernel_rfl) rfl
theorem ty190 : TyI Tryz.prog 190 true [] 0 := .mk' (z := .agg ⟨[]⟩) Tryz.underlying190 rfl (by kernel_rfl) rfl
theorem ty191 : TyI Tryz.prog 191 true [] 0 := .mk' (z := .agg ⟨[]⟩) Tryz.underlying191 rfl (by kernel_rfl) rfl
theorem ty192 : TyI Tryz.prog 192 false [.int .u8 0] 1 := .mk' (z := .int .u8 0) Tryz.underlying192 rfl (by kernel_rfl) rfl
theorem int192 : Tryz.prog.underlying 192 = some (.int .u8) := Tryz.underlying192
theorem ty193 : TyI Tryz.prog 193 false [.int .u8 0] 1 := .mk' (z := .int .u8 0) Tryz.underlying193 rfl (by kernel_rfl) rfl
theorem int193 : Tryz.prog.underlying 193 = some (.int .u8) := Tryz.underlying193
theorem ty194 : TyI Tryz.prog 194 false [.nilFunc] 8 := .mk' (z := .nilFunc) Tryz.underlying194 rfl (by kernel_rfl) rfl
theorem ty195 : TyI Tryz.prog 195 false [.int .i32 0] 4 := .mk' (z := .int .i32 0) Tryz.underlying195 rfl (by kernel_rfl) rfl
theorem int195 : Tryz.prog.underlying 195 = some (.int .i32) := Tryz.underlying195
theorem ty196 : TyI Tryz.prog 196 false [.int .i32 0] 4 := .mk' (z := .int .i32 0) Tryz.underlying196 rfl (by kernel_rfl) rfl
theorem int196 : Tryz.prog.underlying 196 = some (.int .i32) := Tryz.underlying196
theorem ty197 : TyI Tryz.prog 197 true [.int .u64 0, .int .u64 0, .int .u32 0, .int .u8 0, .int .u8 0, .int .u8 0, .int .u8 0, .nilFunc, .pointer none, .int .i32 0, .int .i32 0] 48 := .mk' (z := .agg ⟨[.int .u64 0, .int .u64 0, .int .u32 0, .int .u8 0, .int .u8 0, .int .u8 0, .int .u8 0, .nilFunc, .pointer none, .int .i32 0, .int .i32 0]⟩) Tryz.underlying197 rfl (by kernel_rfl) rfl
theorem ty198 : TyI Tryz.prog 198 true [.int .u64 0, .int .u64 0, .int .u32 0, .int .u8 0, .int .u8 0, .int .u8 0, .int .u8 0, .nilFunc, .pointer none, .int .i32 0, .int .i32 0] 48 := .mk' (z := .agg ⟨[.int .u64 0, .int .u64 0, .int .u32 0, .int .u8 0, .int .u8 0, .int .u8 0, .int .u8 0, .nilFunc, .pointer none, .int .i32 0, .int .i32 0]⟩) Tryz.underlying198 rfl (by kernel_rfl) rfl

end Go.Proofs.YtfjajkgfgigodaaGreatDoor
