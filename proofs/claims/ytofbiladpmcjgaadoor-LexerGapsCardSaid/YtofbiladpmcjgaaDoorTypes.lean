/-
  The facts on this translation's types that the walks use: printed by a program of ours (gen_types.py).
-/
import Derived.Test.YtofbiladpmcjgaaDoorRows
import Derived.Test.YtofbiladpmcjgaaDoorVcMem2
namespace Go.Proofs.YtofbiladpmcjgaaDoor
open Go
set_option maxRecDepth 100000

theorem mixed : Tryd.prog.follows .mixedOrders = true := by kernel_rfl
theorem ty1 : TyI Tryd.prog 1 false [.nilFunc] 8 := .mk' (z := .nilFunc) Tryd.underlying1 rfl (by kernel_rfl) rfl
theorem ty2 : TyI Tryd.prog 2 false [.int .i64 0] 8 := .mk' (z := .int .i64 0) Tryd.underlying2 rfl (by kernel_rfl) rfl
theorem int2 : Tryd.prog.underlying 2 = some (.int .i64) := Tryd.underlying2
theorem ty3 : TyI Tryd.prog 3 false [.int .i64 0] 8 := .mk' (z := .int .i64 0) Tryd.underlying3 rfl (by kernel_rfl) rfl
theorem int3 : Tryd.prog.underlying 3 = some (.int .i64) := Tryd.underlying3
theorem ty4 : TyI Tryd.prog 4 false [.bool false] 1 := .mk' (z := .bool false) Tryd.underlying4 rfl (by kernel_rfl) rfl
theorem bool4 : Tryd.prog.underlying 4 = some .bool := Tryd.underlying4
theorem ty5 : TyI Tryd.prog 5 false [.int .u8 0] 1 := .mk' (z := .int .u8 0) Tryd.underlying5 rfl (by kernel_rfl) rfl
theorem int5 : Tryd.prog.underlying 5 = some (.int .u8) := Tryd.underlying5
theorem ty6 : TyI Tryd.prog 6 false [.int .u8 0] 1 := .mk' (z := .int .u8 0) Tryd.underlying6 rfl (by kernel_rfl) rfl
theorem int6 : Tryd.prog.underlying 6 = some (.int .u8) := Tryd.underlying6
theorem ty7 : TyI Tryd.prog 7 true [.int .i64 0, .int .i64 0, .bool false, .int .u8 0] 24 := .mk' (z := .agg ⟨[.int .i64 0, .int .i64 0, .bool false, .int .u8 0]⟩) Tryd.underlying7 rfl (by kernel_rfl) rfl
theorem ty8 : TyI Tryd.prog 8 true [.int .i64 0, .int .i64 0, .bool false, .int .u8 0] 24 := .mk' (z := .agg ⟨[.int .i64 0, .int .i64 0, .bool false, .int .u8 0]⟩) Tryd.underlying8 rfl (by kernel_rfl) rfl
theorem ty9 : TyI Tryd.prog 9 false [.string ⟨⟨[]⟩⟩] 16 := .mk' (z := .string ⟨⟨[]⟩⟩) Tryd.underlying9 rfl (by kernel_rfl) rfl
theorem str9 : Tryd.prog.underlying 9 = some .string := Tryd.underlying9
theorem ty10 : TyI Tryd.prog 10 false [.string ⟨⟨[]⟩⟩] 16 := .mk' (z := .string ⟨⟨[]⟩⟩) Tryd.underlying10 rfl (by kernel_rfl) rfl
theorem str10 : Tryd.prog.underlying 10 = some .string := Tryd.underlying10
theorem ty11 : TyI Tryd.prog 11 false [.string ⟨⟨[]⟩⟩] 16 := .mk' (z := .string ⟨⟨[]⟩⟩) Tryd.underlying11 rfl (by kernel_rfl) rfl
theorem str11 : Tryd.prog.underlying 11 = some .string := Tryd.underlying11
theorem ty12 : TyI Tryd.prog 12 false [.int .u64 0] 8 := .mk' (z := .int .u64 0) Tryd.underlying12 rfl (by kernel_rfl) rfl
theorem int12 : Tryd.prog.underlying 12 = some (.int .u64) := Tryd.underlying12
theorem ty13 : TyI Tryd.prog 13 true [.string ⟨⟨[]⟩⟩, .int .u64 0] 24 := .mk' (z := .agg ⟨[.string ⟨⟨[]⟩⟩, .int .u64 0]⟩) Tryd.underlying13 rfl (by kernel_rfl) rfl
theorem ty14 : TyI Tryd.prog 14 true [.string ⟨⟨[]⟩⟩, .int .u64 0] 24 := .mk' (z := .agg ⟨[.string ⟨⟨[]⟩⟩, .int .u64 0]⟩) Tryd.underlying14 rfl (by kernel_rfl) rfl
theorem ty15 : TyI Tryd.prog 15 false [.pointer none] 8 := .mk' (z := .pointer none) Tryd.underlying15 rfl (by kernel_rfl) rfl
theorem ty16 : TyI Tryd.prog 16 false [.pointer none] 8 := .mk' (z := .pointer none) Tryd.underlying16 rfl (by kernel_rfl) rfl
theorem ty17 : TyI Tryd.prog 17 false [.pointer none] 8 := .mk' (z := .pointer none) Tryd.underlying17 rfl (by kernel_rfl) rfl
theorem ty18 : TyI Tryd.prog 18 true [.pointer none] 8 := .mk' (z := .agg ⟨[.pointer none]⟩) Tryd.underlying18 rfl (by kernel_rfl) rfl
theorem ty19 : TyI Tryd.prog 19 true [.pointer none] 8 := .mk' (z := .agg ⟨[.pointer none]⟩) Tryd.underlying19 rfl (by kernel_rfl) rfl
theorem ty20 : TyI Tryd.prog 20 false [.nilIface] 16 := .mk' (z := .nilIface) Tryd.underlying20 rfl (by kernel_rfl) rfl
theorem ty21 : TyI Tryd.prog 21 false [.int .i32 0] 4 := .mk' (z := .int .i32 0) Tryd.underlying21 rfl (by kernel_rfl) rfl
theorem int21 : Tryd.prog.underlying 21 = some (.int .i32) := Tryd.underlying21
theorem ty22 : TyI Tryd.prog 22 false [.nilFunc] 8 := .mk' (z := .nilFunc) Tryd.underlying22 rfl (by kernel_rfl) rfl
theorem ty23 : TyI Tryd.prog 23 false [.slice none 0 0] 24 := .mk' (z := .slice none 0 0) Tryd.underlying23 rfl (by kernel_rfl) rfl
theorem sl23 : SliceT Tryd.prog 23 30 := Tryd.underlying23
theorem ty24 : TyI Tryd.prog 24 false [.int .i64 0] 8 := .mk' (z := .int .i64 0) Tryd.underlying24 rfl (by kernel_rfl) rfl
theorem int24 : Tryd.prog.underlying 24 = some (.int .i64) := Tryd.underlying24
theorem ty26 : TyI Tryd.prog 26 false [.nilFunc] 8 := .mk' (z := .nilFunc) Tryd.underlying26 rfl (by kernel_rfl) rfl
theorem ty27 : TyI Tryd.prog 27 false [.nilFunc] 8 := .mk' (z := .nilFunc) Tryd.underlying27 rfl (by kernel_rfl) rfl
theorem ty28 : TyI Tryd.prog 28 false [.nilFunc] 8 := .mk' (z := .nilFunc) Tryd.underlying28 rfl (by kernel_rfl) rfl
theorem ty29 : TyI Tryd.prog 29 true [.int .i64 0, .string ⟨⟨[]⟩⟩, .int .i64 0, .int .i64 0] 40 := .mk' (z := .agg ⟨[.int .i64 0, .string ⟨⟨[]⟩⟩, .int .i64 0, .int .i64 0]⟩) Tryd.underlying29 rfl (by kernel_rfl) rfl
theorem ty30 : TyI Tryd.prog 30 true [.int .i64 0, .string ⟨⟨[]⟩⟩, .int .i64 0, .int .i64 0] 40 := .mk' (z := .agg ⟨[.int .i64 0, .string ⟨⟨[]⟩⟩, .int .i64 0, .int .i64 0]⟩) Tryd.underlying30 rfl (by kernel_rfl) rfl
theorem ty31 : TyI Tryd.prog 31 false [.nilFunc] 8 := .mk' (z := .nilFunc) Tryd.underlying31 rfl (by kernel_rfl) rfl
theorem ty32 : TyI Tryd.prog 32 false [.int .u16 0] 2 := .mk' (z := .int .u16 0) Tryd.underlying32 rfl (by kernel_rfl) rfl
theorem int32 : Tryd.prog.underlying 32 = some (.int .u16) := Tryd.underlying32
theorem ty33 : TyI Tryd.prog 33 false [.nilFunc] 8 := .mk' (z := .nilFunc) Tryd.underlying33 rfl (by kernel_rfl) rfl
theorem ty34 : TyI Tryd.prog 34 false [.nilFunc] 8 := .mk' (z := .nilFunc) Tryd.underlying34 rfl (by kernel_rfl) rfl
theorem ty35 : TyI Tryd.prog 35 true [.int .i64 0, .int .i64 0] 16 := .mk' (z := .agg ⟨[.int .i64 0, .int .i64 0]⟩) Tryd.underlying35 rfl (by kernel_rfl) rfl
theorem ty36 : TyI Tryd.prog 36 true [.int .i64 0, .int .i64 0] 16 := .mk' (z := .agg ⟨[.int .i64 0, .int .i64 0]⟩) Tryd.underlying36 rfl (by kernel_rfl) rfl
theorem ty38 : TyI Tryd.prog 38 false [.pointer none] 8 := .mk' (z := .pointer none) Tryd.underlying38 rfl (by kernel_rfl) rfl
theorem ty39 : TyI Tryd.prog 39 true [.string ⟨⟨[]⟩⟩, .int .i64 0] 24 := .mk' (z := .agg ⟨[.string ⟨⟨[]⟩⟩, .int .i64 0]⟩) Tryd.underlying39 rfl (by kernel_rfl) rfl
theorem ty40 : TyI Tryd.prog 40 true [.string ⟨⟨[]⟩⟩, .int .i64 0] 24 := .mk' (z := .agg ⟨[.string ⟨⟨[]⟩⟩, .int .i64 0]⟩) Tryd.underlying40 rfl (by kernel_rfl) rfl
theorem ty41 : TyI Tryd.prog 41 false [.nilFunc] 8 := .mk' (z := .nilFunc) Tryd.underlying41 rfl (by kernel_rfl) rfl
theorem ty42 : TyI Tryd.prog 42 true [.nilFunc, .nilFunc, .nilFunc, .nilFunc] 32 := .mk' (z := .agg ⟨[.nilFunc, .nilFunc, .nilFunc, .nilFunc]⟩) Tryd.underlying42 rfl (by kernel_rfl) rfl
theorem ty43 : TyI Tryd.prog 43 true [.nilFunc, .nilFunc, .nilFunc, .nilFunc] 32 := .mk' (z := .agg ⟨[.nilFunc, .nilFunc, .nilFunc, .nilFunc]⟩) Tryd.underlying43 rfl (by kernel_rfl) rfl
theorem ty44 : TyI Tryd.prog 44 true [.nilFunc, .nilFunc, .nilFunc, .nilFunc] 32 := .mk' (z := .agg ⟨[.nilFunc, .nilFunc, .nilFunc, .nilFunc]⟩) Tryd.underlying44 rfl (by kernel_rfl) rfl
theorem ty46 : TyI Tryd.prog 46 false [.nilFunc] 8 := .mk' (z := .nilFunc) Tryd.underlying46 rfl (by kernel_rfl) rfl
theorem ty47 : TyI Tryd.prog 47 false [.nilFunc] 8 := .mk' (z := .nilFunc) Tryd.underlying47 rfl (by kernel_rfl) rfl
theorem ty49 : TyI Tryd.prog 49 false [.nilFunc] 8 := .mk' (z := .nilFunc) Tryd.underlying49 rfl (by kernel_rfl) rfl
theorem ty50 : TyI Tryd.prog 50 false [.nilFunc] 8 := .mk' (z := .nilFunc) Tryd.underlying50 rfl (by kernel_rfl) rfl
theorem ty51 : TyI Tryd.prog 51 false [.nilFunc] 8 := .mk' (z := .nilFunc) Tryd.underlying51 rfl (by kernel_rfl) rfl
theorem ty52 : TyI Tryd.prog 52 false [.nilIface] 16 := .mk' (z := .nilIface) Tryd.underlying52 rfl (by kernel_rfl) rfl
theorem ty53 : TyI Tryd.prog 53 false [.nilIface] 16 := .mk' (z := .nilIface) Tryd.underlying53 rfl (by kernel_rfl) rfl
theorem ty55 : TyI Tryd.prog 55 false [.nilFunc] 8 := .mk' (z := .nilFunc) Tryd.underlying55 rfl (by kernel_rfl) rfl
theorem ty56 : TyI Tryd.prog 56 false [.slice none 0 0] 24 := .mk' (z := .slice none 0 0) Tryd.underlying56 rfl (by kernel_rfl) rfl
theorem sl56 : SliceT Tryd.prog 56 5 := Tryd.underlying56
theorem ty57 : TyI Tryd.prog 57 false [.nilFunc] 8 := .mk' (z := .nilFunc) Tryd.underlying57 rfl (by kernel_rfl) rfl
theorem ty59 : TyI Tryd.prog 59 false [.nilFunc] 8 := .mk' (z := .nilFunc) Tryd.underlying59 rfl (by kernel_rfl) rfl
theorem ty60 : TyI Tryd.prog 60 false [.nilFunc] 8 := .mk' (z := .nilFunc) Tryd.underlying60 rfl (by kernel_rfl) rfl
theorem ty61 : TyI Tryd.prog 61 false [.int .i64 0] 8 := .mk' (z := .int .i64 0) Tryd.underlying61 rfl (by kernel_rfl) rfl
theorem int61 : Tryd.prog.underlying 61 = some (.int .i64) := Tryd.underlying61
theorem ty63 : TyI Tryd.prog 63 false [.nilFunc] 8 := .mk' (z := .nilFunc) Tryd.underlying63 rfl (by kernel_rfl) rfl
theorem ty64 : TyI Tryd.prog 64 false [.pointer none] 8 := .mk' (z := .pointer none) Tryd.underlying64 rfl (by kernel_rfl) rfl
theorem ty65 : TyI Tryd.prog 65 false [.nilFunc] 8 := .mk' (z := .nilFunc) Tryd.underlying65 rfl (by kernel_rfl) rfl
theorem ty66 : TyI Tryd.prog 66 false [.nilFunc] 8 := .mk' (z := .nilFunc) Tryd.underlying66 rfl (by kernel_rfl) rfl
theorem ty67 : TyI Tryd.prog 67 false [.int .u64 0] 8 := .mk' (z := .int .u64 0) Tryd.underlying67 rfl (by kernel_rfl) rfl
theorem int67 : Tryd.prog.underlying 67 = some (.int .u64) := Tryd.underlying67
theorem ty69 : TyI Tryd.prog 69 false [.nilFunc] 8 := .mk' (z := .nilFunc) Tryd.underlying69 rfl (by kernel_rfl) rfl
theorem ty70 : TyI Tryd.prog 70 false [.int .u64 0] 8 := .mk' (z := .int .u64 0) Tryd.underlying70 rfl (by kernel_rfl) rfl
theorem int70 : Tryd.prog.underlying 70 = some (.int .u64) := Tryd.underlying70
theorem ty71 : TyI Tryd.prog 71 false [.nilFunc] 8 := .mk' (z := .nilFunc) Tryd.underlying71 rfl (by kernel_rfl) rfl
theorem ty72 : TyI Tryd.prog 72 true [.string ⟨⟨[]⟩⟩, .string ⟨⟨[]⟩⟩, .nilIface] 48 := .mk' (z := .agg ⟨[.string ⟨⟨[]⟩⟩, .string ⟨⟨[]⟩⟩, .nilIface]⟩) Tryd.underlying72 rfl (by kernel_rfl) rfl
theorem ty73 : TyI Tryd.prog 73 true [.string ⟨⟨[]⟩⟩, .string ⟨⟨[]⟩⟩, .nilIface] 48 := .mk' (z := .agg ⟨[.string ⟨⟨[]⟩⟩, .string ⟨⟨[]⟩⟩, .nilIface]⟩) Tryd.underlying73 rfl (by kernel_rfl) rfl
theorem ty74 : TyI Tryd.prog 74 false [.nilFunc] 8 := .mk' (z := .nilFunc) Tryd.underlying74 rfl (by kernel_rfl) rfl
theorem ty75 : TyI Tryd.prog 75 false [.nilFunc] 8 := .mk' (z := .nilFunc) Tryd.underlying75 rfl (by kernel_rfl) rfl
theorem ty76 : TyI Tryd.prog 76 false [.nilFunc] 8 := .mk' (z := .nilFunc) Tryd.underlying76 rfl (by kernel_rfl) rfl
theorem ty77 : TyI Tryd.prog 77 false [.pointer none] 8 := .mk' (z := .pointer none) Tryd.underlying77 rfl (by kernel_rfl) rfl
theorem ty78 : TyI Tryd.prog 78 false [.pointer none] 8 := .mk' (z := .pointer none) Tryd.underlying78 rfl (by kernel_rfl) rfl
theorem ty79 : TyI Tryd.prog 79 true [.string ⟨⟨[]⟩⟩] 16 := .mk' (z := .agg ⟨[.string ⟨⟨[]⟩⟩]⟩) Tryd.underlying79 rfl (by kernel_rfl) rfl
theorem ty80 : TyI Tryd.prog 80 true [.string ⟨⟨[]⟩⟩] 16 := .mk' (z := .agg ⟨[.string ⟨⟨[]⟩⟩]⟩) Tryd.underlying80 rfl (by kernel_rfl) rfl
theorem ty81 : TyI Tryd.prog 81 false [.nilFunc] 8 := .mk' (z := .nilFunc) Tryd.underlying81 rfl (by kernel_rfl) rfl
theorem ty82 : TyI Tryd.prog 82 true [.int .u8 0, .int .u8 0, .int .u8 0, .int .u8 0, .int .u8 0, .int .u8 0, .int .u8 0, .int .u8 0, .int .u8 0, .int .u8 0, .int .u8 0, .int .u8 0, .int .u8 0, .int .u8 0, .int .u8 0, .int .u8 0, .int .u8 0, .int .u8 0, .int .u8 0, .int .u8 0, .int .u8 0, .int .u8 0, .int .u8 0, .int .u8 0] 24 := .mk' (z := .agg ⟨[.int .u8 0, .int .u8 0, .int .u8 0, .int .u8 0, .int .u8 0, .int .u8 0, .int .u8 0, .int .u8 0, .int .u8 0, .int .u8 0, .int .u8 0, .int .u8 0, .int .u8 0, .int .u8 0, .int .u8 0, .int .u8 0, .int .u8 0, .int .u8 0, .int .u8 0, .int .u8 0, .int .u8 0, .int .u8 0, .int .u8 0, .int .u8 0]⟩) Tryd.underlying82 rfl (by kernel_rfl) rfl
theorem ty83 : TyI Tryd.prog 83 false [.nilFunc] 8 := .mk' (z := .nilFunc) Tryd.underlying83 rfl (by kernel_rfl) rfl
theorem ty84 : TyI Tryd.prog 84 false [.nilFunc] 8 := .mk' (z := .nilFunc) Tryd.underlying84 rfl (by kernel_rfl) rfl
theorem ty86 : TyI Tryd.prog 86 false [.nilFunc] 8 := .mk' (z := .nilFunc) Tryd.underlying86 rfl (by kernel_rfl) rfl
theorem ty87 : TyI Tryd.prog 87 false [.nilFunc] 8 := .mk' (z := .nilFunc) Tryd.underlying87 rfl (by kernel_rfl) rfl
theorem ty88 : TyI Tryd.prog 88 false [.nilFunc] 8 := .mk' (z := .nilFunc) Tryd.underlying88 rfl (by kernel_rfl) rfl
theorem ty89 : TyI Tryd.prog 89 true [.int .u64 0, .int .u64 0, .int .u64 0, .int .u64 0, .int .u64 0, .int .u64 0, .int .u64 0, .int .u64 0, .int .u64 0, .int .u64 0, .int .u64 0, .int .u64 0, .int .u64 0, .int .u64 0, .int .u64 0, .int .u64 0, .int .u64 0, .int .u64 0, .int .u64 0, .int .u64 0] 160 := .mk' (z := .agg ⟨[.int .u64 0, .int .u64 0, .int .u64 0, .int .u64 0, .int .u64 0, .int .u64 0, .int .u64 0, .int .u64 0, .int .u64 0, .int .u64 0, .int .u64 0, .int .u64 0, .int .u64 0, .int .u64 0, .int .u64 0, .int .u64 0, .int .u64 0, .int .u64 0, .int .u64 0, .int .u64 0]⟩) Tryd.underlying89 rfl (by kernel_rfl) rfl
theorem ty90 : TyI Tryd.prog 90 false [.int .u32 0] 4 := .mk' (z := .int .u32 0) Tryd.underlying90 rfl (by kernel_rfl) rfl
theorem int90 : Tryd.prog.underlying 90 = some (.int .u32) := Tryd.underlying90
theorem ty91 : TyI Tryd.prog 91 true [.int .u8 0, .int .u8 0, .int .u8 0, .int .u8 0, .int .u8 0, .int .u8 0, .int .u8 0, .int .u8 0, .int .u8 0, .int .u8 0, .int .u8 0, .int .u8 0, .int .u8 0, .int .u8 0, .int .u8 0, .int .u8 0, .int .u8 0, .int .u8 0, .int .u8 0, .int .u8 0, .int .u8 0, .int .u8 0, .int .u8 0, .int .u8 0, .int .u8 0, .int .u8 0, .int .u8 0, .int .u8 0, .int .u8 0, .int .u8 0, .int .u8 0, .int .u8 0, .int .u8 0, .int .u8 0, .int .u8 0, .int .u8 0, .int .u8 0, .int .u8 0, .int .u8 0, .int .u8 0, .int .u8 0, .int .u8 0, .int .u8 0, .int .u8 0, .int .u8 0, .int .u8 0, .int .u8 0, .int .u8 0, .int .u8 0, .int .u8 0, .int .u8 0, .int .u8 0, .int .u8 0, .int .u8 0, .int .u8 0, .int .u8 0, .int .u8 0, .int .u8 0, .int .u8 0, .int .u8 0, .int .u8 0, .int .u8 0, .int .u8 0, .int .u8 0, .int .u8 0] 65 := .mk' (z := .agg ⟨[.int .u8 0, .int .u8 0, .int .u8 0, .int .u8 0, .int .u8 0, .int .u8 0, .int .u8 0, .int .u8 0, .int .u8 0, .int .u8 0, .int .u8 0, .int .u8 0, .int .u8 0, .int .u8 0, .int .u8 0, .int .u8 0, .int .u8 0, .int .u8 0, .int .u8 0, .int .u8 0, .int .u8 0, .int .u8 0, .int .u8 0, .int .u8 0, .int .u8 0, .int .u8 0, .int .u8 0, .int .u8 0, .int .u8 0, .int .u8 0, .int .u8 0, .int .u8 0, .int .u8 0, .int .u8 0, .int .u8 0, .int .u8 0, .int .u8 0, .int .u8 0, .int .u8 0, .int .u8 0, .int .u8 0, .int .u8 0, .int .u8 0, .int .u8 0, .int .u8 0, .int .u8 0, .int .u8 0, .int .u8 0, .int .u8 0, .int .u8 0, .int .u8 0, .int .u8 0, .int .u8 0, .int .u8 0, .int .u8 0, .int .u8 0, .int .u8 0, .int .u8 0, .int .u8 0, .int .u8 0, .int .u8 0, .int .u8 0, .int .u8 0, .int .u8 0, .int .u8 0]⟩) Tryd.underlying91 rfl (by kernel_rfl) rfl
theorem ty92 : TyI Tryd.prog 92 false [.nilFunc] 8 := .mk' (z := .nilFunc) Tryd.underlying92 rfl (by kernel_rfl) rfl
theorem ty93 : TyI Tryd.prog 93 false [.nilFunc] 8 := .mk' (z := .nilFunc) Tryd.underlying93 rfl (by kernel_rfl) rfl
theorem ty94 : TyI Tryd.prog 94 false [.nilFunc] 8 := .mk' (z := .nilFunc) Tryd.underlying94 rfl (by kernel_rfl) rfl
theorem ty95 : TyI Tryd.prog 95 true [.int .u8 0, .int .u8 0, .int .u8 0, .int .u8 0, .int .u8 0, .int .u8 0, .int .u8 0, .int .u8 0, .int .u8 0, .int .u8 0, .int .u8 0, .int .u8 0, .int .u8 0, .int .u8 0, .int .u8 0, .int .u8 0, .int .u8 0, .int .u8 0, .int .u8 0, .int .u8 0, .int .u8 0, .int .u8 0, .int .u8 0, .int .u8 0, .int .u8 0, .int .u8 0, .int .u8 0, .int .u8 0, .int .u8 0, .int .u8 0, .int .u8 0, .int .u8 0] 32 := .mk' (z := .agg ⟨[.int .u8 0, .int .u8 0, .int .u8 0, .int .u8 0, .int .u8 0, .int .u8 0, .int .u8 0, .int .u8 0, .int .u8 0, .int .u8 0, .int .u8 0, .int .u8 0, .int .u8 0, .int .u8 0, .int .u8 0, .int .u8 0, .int .u8 0, .int .u8 0, .int .u8 0, .int .u8 0, .int .u8 0, .int .u8 0, .int .u8 0, .int .u8 0, .int .u8 0, .int .u8 0, .int .u8 0, .int .u8 0, .int .u8 0, .int .u8 0, .int .u8 0, .int .u8 0]⟩) Tryd.underlying95 rfl (by kernel_rfl) rfl
theorem ty96 : TyI Tryd.prog 96 true [.int .u8 0, .int .u8 0, .int .u8 0, .int .u8 0, .int .u8 0, .int .u8 0, .int .u8 0, .int .u8 0, .int .u8 0, .int .u8 0, .int .u8 0, .int .u8 0, .int .u8 0, .int .u8 0, .int .u8 0, .int .u8 0, .int .u8 0, .int .u8 0, .int .u8 0, .int .u8 0, .int .u8 0, .int .u8 0, .int .u8 0, .int .u8 0, .int .u8 0, .int .u8 0, .int .u8 0, .int .u8 0, .int .u8 0, .int .u8 0, .int .u8 0, .int .u8 0, .int .u8 0, .int .u8 0, .int .u8 0, .int .u8 0, .int .u8 0, .int .u8 0, .int .u8 0, .int .u8 0, .int .u8 0, .int .u8 0, .int .u8 0, .int .u8 0, .int .u8 0, .int .u8 0, .int .u8 0, .int .u8 0, .int .u8 0, .int .u8 0, .int .u8 0, .int .u8 0, .int .u8 0, .int .u8 0, .int .u8 0, .int .u8 0, .int .u8 0, .int .u8 0, .int .u8 0, .int .u8 0, .int .u8 0, .int .u8 0, .int .u8 0, .int .u8 0] 64 := .mk' (z := .agg ⟨[.int .u8 0, .int .u8 0, .int .u8 0, .int .u8 0, .int .u8 0, .int .u8 0, .int .u8 0, .int .u8 0, .int .u8 0, .int .u8 0, .int .u8 0, .int .u8 0, .int .u8 0, .int .u8 0, .int .u8 0, .int .u8 0, .int .u8 0, .int .u8 0, .int .u8 0, .int .u8 0, .int .u8 0, .int .u8 0, .int .u8 0, .int .u8 0, .int .u8 0, .int .u8 0, .int .u8 0, .int .u8 0, .int .u8 0, .int .u8 0, .int .u8 0, .int .u8 0, .int .u8 0, .int .u8 0, .int .u8 0, .int .u8 0, .int .u8 0, .int .u8 0, .int .u8 0, .int .u8 0, .int .u8 0, .int .u8 0, .int .u8 0, .int .u8 0, .int .u8 0, .int .u8 0, .int .u8 0, .int .u8 0, .int .u8 0, .int .u8 0, .int .u8 0, .int .u8 0, .int .u8 0, .int .u8 0, .int .u8 0, .int .u8 0, .int .u8 0, .int .u8 0, .int .u8 0, .int .u8 0, .int .u8 0, .int .u8 0, .int .u8 0, .int .u8 0]⟩) Tryd.underlying96 rfl (by kernel_rfl) rfl
theorem ty97 : TyI Tryd.prog 97 false [.nilFunc] 8 := .mk' (z := .nilFunc) Tryd.underlying97 rfl (by kernel_rfl) rfl
theorem ty98 : TyI Tryd.prog 98 true [.pointer none, .pointer none, .pointer none, .string ⟨⟨[]⟩⟩] 40 := .mk' (z := .agg ⟨[.pointer none, .pointer none, .pointer none, .string ⟨⟨[]⟩⟩]⟩) Tryd.underlying98 rfl (by kernel_rfl) rfl
theorem ty99 : TyI Tryd.prog 99 true [.pointer none, .pointer none, .pointer none, .string ⟨⟨[]⟩⟩] 40 := .mk' (z := .agg ⟨[.pointer none, .pointer none, .pointer none, .string ⟨⟨[]⟩⟩]⟩) Tryd.underlying99 rfl (by kernel_rfl) rfl
theorem ty100 : TyI Tryd.prog 100 true [] 0 := .mk' (z := .agg ⟨[]⟩) Tryd.underlying100 rfl (by kernel_rfl) rfl
theorem ty101 : TyI Tryd.prog 101 true [] 0 := .mk' (z := .agg ⟨[]⟩) Tryd.underlying101 rfl (by kernel_rfl) rfl
theorem ty102 : TyI Tryd.prog 102 true [] 0 := .mk' (z := .agg ⟨[]⟩) Tryd.underlying102 rfl (by kernel_rfl) rfl
theorem ty103 : TyI Tryd.prog 103 false [.nilFunc] 8 := .mk' (z := .nilFunc) Tryd.underlying103 rfl (by kernel_rfl) rfl
theorem ty104 : TyI Tryd.prog 104 false [.int .u8 0] 1 := .mk' (z := .int .u8 0) Tryd.underlying104 rfl (by kernel_rfl) rfl
theorem int104 : Tryd.prog.underlying 104 = some (.int .u8) := Tryd.underlying104
theorem ty105 : TyI Tryd.prog 105 false [.int .u8 0] 1 := .mk' (z := .int .u8 0) Tryd.underlying105 rfl (by kernel_rfl) rfl
theorem int105 : Tryd.prog.underlying 105 = some (.int .u8) := Tryd.underlying105
theorem ty106 : TyI Tryd.prog 106 false [.nilFunc] 8 := .mk' (z := .nilFunc) Tryd.underlying106 rfl (by kernel_rfl) rfl
theorem ty107 : TyI Tryd.prog 107 false [.int .i32 0] 4 := .mk' (z := .int .i32 0) Tryd.underlying107 rfl (by kernel_rfl) rfl
theorem int107 : Tryd.prog.underlying 107 = some (.int .i32) := Tryd.underlying107
theorem ty108 : TyI Tryd.prog 108 false [.int .i32 0] 4 := .mk' (z := .int .i32 0) Tryd.underlying108 rfl (by kernel_rfl) rfl
theorem int108 : Tryd.prog.underlying 108 = some (.int .i32) := Tryd.underlying108
theorem ty109 : TyI Tryd.prog 109 true [.int .u64 0, .int .u64 0, .int .u32 0, .int .u8 0, .int .u8 0, .int .u8 0, .int .u8 0, .nilFunc, .pointer none, .int .i32 0, .int .i32 0] 48 := .mk' (z := .agg ⟨[.int .u64 0, .int .u64 0, .int .u32 0, .int .u8 0, .int .u8 0, .int .u8 0, .int .u8 0, .nilFunc, .pointer none, .int .i32 0, .int .i32 0]⟩) Tryd.underlying109 rfl (by kernel_rfl) rfl
theorem ty110 : TyI Tryd.prog 110 true [.int .u64 0, .int .u64 0, .int .u32 0, .int .u8 0, .int .u8 0, .int .u8 0, .int .u8 0, .nilFunc, .pointer none, .int .i32 0, .int .i32 0] 48 := .mk' (z := .agg ⟨[.int .u64 0, .int .u64 0, .int .u32 0, .int .u8 0, .int .u8 0, .int .u8 0, .int .u8 0, .nilFunc, .pointer none, .int .i32 0, .int .i32 0]⟩) Tryd.underlying110 rfl (by kernel_rfl) rfl
theorem ty111 : TyI Tryd.prog 111 false [.pointer none] 8 := .mk' (z := .pointer none) Tryd.underlying111 rfl (by kernel_rfl) rfl

end Go.Proofs.YtofbiladpmcjgaaDoor
