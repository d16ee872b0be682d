/-
  The facts on this translation's types that the walks use: printed by a program of ours (gen_types.py).
-/
import Derived.Test.YtnmfanjhepepbaaDoorRows
import Derived.Test.YtnmfanjhepepbaaDoorVcMem2
namespace Go.Proofs.YtnmfanjhepepbaaDoor
open Go
set_option maxRecDepth 100000

theorem mixed : Tryd.prog.follows .mixedOrders = true := by kernel_rfl
theorem ty1 : TyI Tryd.prog 1 false [.nilFunc] 8 := .mk' (z := .nilFunc) Tryd.underlying1 rfl (by kernel_rfl) rfl
theorem ty2 : TyI Tryd.prog 2 false [.int .i64 0] 8 := .mk' (z := .int .i64 0) Tryd.underlying2 rfl (by kernel_rfl) rfl
theorem int2 : Tryd.prog.underlying 2 = some (.int .i64) := Tryd.underlying2
theorem ty3 : TyI Tryd.prog 3 false [.int .i64 0] 8 := .mk' (z := .int .i64 0) Tryd.underlying3 rfl (by kernel_rfl) rfl
theorem int3 : Tryd.prog.underlying 3 = some (.int .i64) := Tryd.underlying3
theorem ty4 : TyI Tryd.prog 4 false [.bool false] 1 := .mk' (z := .bool false) Tryd.underlying4 rfl (by kernel_rfl) rfl
theorem bool4 : Tryd.prog.underlying 4 = some .bool := Tryd.underlying4
theorem ty5 : TyI Tryd.prog 5 false [.int .u8 0] 1 := .mk' (z := .int .u8 0) Tryd.underlying5 rfl (by kernel_rfl) rfl
theorem int5 : Tryd.prog.underlying 5 = some (.int .u8) := Tryd.underlying5
theorem ty6 : TyI Tryd.prog 6 false [.int .u8 0] 1 := .mk' (z := .int .u8 0) Tryd.underlying6 rfl (by kernel_rfl) rfl
theorem int6 : Tryd.prog.underlying 6 = some (.int .u8) := Tryd.underlying6
theorem ty7 : TyI Tryd.prog 7 true [.int .i64 0, .int .i64 0, .bool false, .int .u8 0] 24 := .mk' (z := .agg ⟨[.int .i64 0, .int .i64 0, .bool false, .int .u8 0]⟩) Tryd.underlying7 rfl (by kernel_rfl) rfl
theorem ty8 : TyI Tryd.prog 8 true [.int .i64 0, .int .i64 0, .bool false, .int .u8 0] 24 := .mk' (z := .agg ⟨[.int .i64 0, .int .i64 0, .bool false, .int .u8 0]⟩) Tryd.underlying8 rfl (by kernel_rfl) rfl
theorem ty9 : TyI Tryd.prog 9 false [.string ⟨⟨[]⟩⟩] 16 := .mk' (z := .string ⟨⟨[]⟩⟩) Tryd.underlying9 rfl (by kernel_rfl) rfl
theorem str9 : Tryd.prog.underlying 9 = some .string := Tryd.underlying9
theorem ty10 : TyI Tryd.prog 10 false [.string ⟨⟨[]⟩⟩] 16 := .mk' (z := .string ⟨⟨[]⟩⟩) Tryd.underlying10 rfl (by kernel_rfl) rfl
theorem str10 : Tryd.prog.underlying 10 = some .string := Tryd.underlying10
theorem ty11 : TyI Tryd.prog 11 false [.string ⟨⟨[]⟩⟩] 16 := .mk' (z := .string ⟨⟨[]⟩⟩) Tryd.underlying11 rfl (by kernel_rfl) rfl
theorem str11 : Tryd.prog.underlying 11 = some .string := Tryd.underlying11
theorem ty12 : TyI Tryd.prog 12 false [.int .u64 0] 8 := .mk' (z := .int .u64 0) Tryd.underlying12 rfl (by kernel_rfl) rfl
theorem int12 : Tryd.prog.underlying 12 = some (.int .u64) := Tryd.underlying12
theorem ty13 : TyI Tryd.prog 13 true [.string ⟨⟨[]⟩⟩, .int .u64 0] 24 := .mk' (z := .agg ⟨[.string ⟨⟨[]⟩⟩, .int .u64 0]⟩) Tryd.underlying13 rfl (by kernel_rfl) rfl
theorem ty14 : TyI Tryd.prog 14 true [.string ⟨⟨[]⟩⟩, .int .u64 0] 24 := .mk' (z := .agg ⟨[.string ⟨⟨[]⟩⟩, .int .u64 0]⟩) Tryd.underlying14 rfl (by kernel_rfl) rfl
theorem ty15 : TyI Tryd.prog 15 false [.pointer none] 8 := .mk' (z := .pointer none) Tryd.underlying15 rfl (by kernel_rfl) rfl
theorem ty16 : TyI Tryd.prog 16 false [.pointer none] 8 := .mk' (z := .pointer none) Tryd.underlying16 rfl (by kernel_rfl) rfl
theorem ty17 : TyI Tryd.prog 17 false [.pointer none] 8 := .mk' (z := .pointer none) Tryd.underlying17 rfl (by kernel_rfl) rfl
theorem ty18 : TyI Tryd.prog 18 true [.pointer none] 8 := .mk' (z := .agg ⟨[.pointer none]⟩) Tryd.underlying18 rfl (by kernel_rfl) rfl
theorem ty19 : TyI Tryd.prog 19 true [.pointer none] 8 := .mk' (z := .agg ⟨[.pointer none]⟩) Tryd.underlying19 rfl (by kernel_rfl) rfl
theorem ty20 : TyI Tryd.prog 20 false [.nilIface] 16 := .mk' (z := .nilIface) Tryd.underlying20 rfl (by kernel_rfl) rfl
theorem ty21 : TyI Tryd.prog 21 false [.int .i32 0] 4 := .mk' (z := .int .i32 0) Tryd.underlying21 rfl (by kernel_rfl) rfl
theorem int21 : Tryd.prog.underlying 21 = some (.int .i32) := Tryd.underlying21
theorem ty22 : TyI Tryd.prog 22 false [.nilFunc] 8 := .mk' (z := .nilFunc) Tryd.underlying22 rfl (by kernel_rfl) rfl
theorem ty23 : TyI Tryd.prog 23 false [.slice none 0 0] 24 := .mk' (z := .slice none 0 0) Tryd.underlying23 rfl (by kernel_rfl) rfl
theorem sl23 : SliceT Tryd.prog 23 45 := Tryd.underlying23
theorem ty24 : TyI Tryd.prog 24 true [.slice none 0 0] 24 := .mk' (z := .agg ⟨[.slice none 0 0]⟩) Tryd.underlying24 rfl (by kernel_rfl) rfl
theorem ty25 : TyI Tryd.prog 25 true [.slice none 0 0] 24 := .mk' (z := .agg ⟨[.slice none 0 0]⟩) Tryd.underlying25 rfl (by kernel_rfl) rfl
theorem ty26 : TyI Tryd.prog 26 false [.int .i64 0] 8 := .mk' (z := .int .i64 0) Tryd.underlying26 rfl (by kernel_rfl) rfl
theorem int26 : Tryd.prog.underlying 26 = some (.int .i64) := Tryd.underlying26
theorem ty28 : TyI Tryd.prog 28 false [.nilFunc] 8 := .mk' (z := .nilFunc) Tryd.underlying28 rfl (by kernel_rfl) rfl
theorem ty29 : TyI Tryd.prog 29 false [.slice none 0 0] 24 := .mk' (z := .slice none 0 0) Tryd.underlying29 rfl (by kernel_rfl) rfl
theorem sl29 : SliceT Tryd.prog 29 33 := Tryd.underlying29
theorem ty31 : TyI Tryd.prog 31 false [.nilFunc] 8 := .mk' (z := .nilFunc) Tryd.underlying31 rfl (by kernel_rfl) rfl
theorem ty32 : TyI Tryd.prog 32 true [.int .i64 0, .string ⟨⟨[]⟩⟩, .int .i64 0, .int .i64 0] 40 := .mk' (z := .agg ⟨[.int .i64 0, .string ⟨⟨[]⟩⟩, .int .i64 0, .int .i64 0]⟩) Tryd.underlying32 rfl (by kernel_rfl) rfl
theorem ty33 : TyI Tryd.prog 33 true [.int .i64 0, .string ⟨⟨[]⟩⟩, .int .i64 0, .int .i64 0] 40 := .mk' (z := .agg ⟨[.int .i64 0, .string ⟨⟨[]⟩⟩, .int .i64 0, .int .i64 0]⟩) Tryd.underlying33 rfl (by kernel_rfl) rfl
theorem ty34 : TyI Tryd.prog 34 false [.nilFunc] 8 := .mk' (z := .nilFunc) Tryd.underlying34 rfl (by kernel_rfl) rfl
theorem ty35 : TyI Tryd.prog 35 false [.slice none 0 0] 24 := .mk' (z := .slice none 0 0) Tryd.underlying35 rfl (by kernel_rfl) rfl
theorem sl35 : SliceT Tryd.prog 35 102 := Tryd.underlying35
theorem ty36 : TyI Tryd.prog 36 false [.slice none 0 0] 24 := .mk' (z := .slice none 0 0) Tryd.underlying36 rfl (by kernel_rfl) rfl
theorem sl36 : SliceT Tryd.prog 36 9 := Tryd.underlying36
theorem ty37 : TyI Tryd.prog 37 false [.slice none 0 0] 24 := .mk' (z := .slice none 0 0) Tryd.underlying37 rfl (by kernel_rfl) rfl
theorem sl37 : SliceT Tryd.prog 37 61 := Tryd.underlying37
theorem ty38 : TyI Tryd.prog 38 false [.slice none 0 0] 24 := .mk' (z := .slice none 0 0) Tryd.underlying38 rfl (by kernel_rfl) rfl
theorem sl38 : SliceT Tryd.prog 38 111 := Tryd.underlying38
theorem ty39 : TyI Tryd.prog 39 false [.slice none 0 0] 24 := .mk' (z := .slice none 0 0) Tryd.underlying39 rfl (by kernel_rfl) rfl
theorem sl39 : SliceT Tryd.prog 39 115 := Tryd.underlying39
theorem ty40 : TyI Tryd.prog 40 false [.slice none 0 0] 24 := .mk' (z := .slice none 0 0) Tryd.underlying40 rfl (by kernel_rfl) rfl
theorem sl40 : SliceT Tryd.prog 40 56 := Tryd.underlying40
theorem ty41 : TyI Tryd.prog 41 false [.slice none 0 0] 24 := .mk' (z := .slice none 0 0) Tryd.underlying41 rfl (by kernel_rfl) rfl
theorem sl41 : SliceT Tryd.prog 41 43 := Tryd.underlying41
theorem ty42 : TyI Tryd.prog 42 true [.int .i64 0, .string ⟨⟨[]⟩⟩, .slice none 0 0, .slice none 0 0, .slice none 0 0, .string ⟨⟨[]⟩⟩, .string ⟨⟨[]⟩⟩, .int .i64 0, .int .i64 0] 144 := .mk' (z := .agg ⟨[.int .i64 0, .string ⟨⟨[]⟩⟩, .slice none 0 0, .slice none 0 0, .slice none 0 0, .string ⟨⟨[]⟩⟩, .string ⟨⟨[]⟩⟩, .int .i64 0, .int .i64 0]⟩) Tryd.underlying42 rfl (by kernel_rfl) rfl
theorem ty43 : TyI Tryd.prog 43 true [.int .i64 0, .string ⟨⟨[]⟩⟩, .slice none 0 0, .slice none 0 0, .slice none 0 0, .string ⟨⟨[]⟩⟩, .string ⟨⟨[]⟩⟩, .int .i64 0, .int .i64 0] 144 := .mk' (z := .agg ⟨[.int .i64 0, .string ⟨⟨[]⟩⟩, .slice none 0 0, .slice none 0 0, .slice none 0 0, .string ⟨⟨[]⟩⟩, .string ⟨⟨[]⟩⟩, .int .i64 0, .int .i64 0]⟩) Tryd.underlying43 rfl (by kernel_rfl) rfl
theorem ty44 : TyI Tryd.prog 44 true [.int .i64 0, .string ⟨⟨[]⟩⟩, .int .i64 0, .string ⟨⟨[]⟩⟩, .string ⟨⟨[]⟩⟩, .slice none 0 0, .slice none 0 0, .int .i64 0, .int .i64 0, .int .i64 0, .slice none 0 0, .string ⟨⟨[]⟩⟩, .string ⟨⟨[]⟩⟩, .slice none 0 0, .slice none 0 0, .slice none 0 0, .int .i64 0, .string ⟨⟨[]⟩⟩, .slice none 0 0, .slice none 0 0, .slice none 0 0, .string ⟨⟨[]⟩⟩, .string ⟨⟨[]⟩⟩, .int .i64 0, .int .i64 0] 408 := .mk' (z := .agg ⟨[.int .i64 0, .string ⟨⟨[]⟩⟩, .int .i64 0, .string ⟨⟨[]⟩⟩, .string ⟨⟨[]⟩⟩, .slice none 0 0, .slice none 0 0, .int .i64 0, .int .i64 0, .int .i64 0, .slice none 0 0, .string ⟨⟨[]⟩⟩, .string ⟨⟨[]⟩⟩, .slice none 0 0, .slice none 0 0, .slice none 0 0, .int .i64 0, .string ⟨⟨[]⟩⟩, .slice none 0 0, .slice none 0 0, .slice none 0 0, .string ⟨⟨[]⟩⟩, .string ⟨⟨[]⟩⟩, .int .i64 0, .int .i64 0]⟩) Tryd.underlying44 rfl (by kernel_rfl) rfl
theorem ty45 : TyI Tryd.prog 45 true [.int .i64 0, .string ⟨⟨[]⟩⟩, .int .i64 0, .string ⟨⟨[]⟩⟩, .string ⟨⟨[]⟩⟩, .slice none 0 0, .slice none 0 0, .int .i64 0, .int .i64 0, .int .i64 0, .slice none 0 0, .string ⟨⟨[]⟩⟩, .string ⟨⟨[]⟩⟩, .slice none 0 0, .slice none 0 0, .slice none 0 0, .int .i64 0, .string ⟨⟨[]⟩⟩, .slice none 0 0, .slice none 0 0, .slice none 0 0, .string ⟨⟨[]⟩⟩, .string ⟨⟨[]⟩⟩, .int .i64 0, .int .i64 0] 408 := .mk' (z := .agg ⟨[.int .i64 0, .string ⟨⟨[]⟩⟩, .int .i64 0, .string ⟨⟨[]⟩⟩, .string ⟨⟨[]⟩⟩, .slice none 0 0, .slice none 0 0, .int .i64 0, .int .i64 0, .int .i64 0, .slice none 0 0, .string ⟨⟨[]⟩⟩, .string ⟨⟨[]⟩⟩, .slice none 0 0, .slice none 0 0, .slice none 0 0, .int .i64 0, .string ⟨⟨[]⟩⟩, .slice none 0 0, .slice none 0 0, .slice none 0 0, .string ⟨⟨[]⟩⟩, .string ⟨⟨[]⟩⟩, .int .i64 0, .int .i64 0]⟩) Tryd.underlying45 rfl (by kernel_rfl) rfl
theorem ty46 : TyI Tryd.prog 46 false [.nilFunc] 8 := .mk' (z := .nilFunc) Tryd.underlying46 rfl (by kernel_rfl) rfl
theorem ty48 : TyI Tryd.prog 48 false [.nilFunc] 8 := .mk' (z := .nilFunc) Tryd.underlying48 rfl (by kernel_rfl) rfl
theorem ty49 : TyI Tryd.prog 49 false [.nilFunc] 8 := .mk' (z := .nilFunc) Tryd.underlying49 rfl (by kernel_rfl) rfl
theorem ty50 : TyI Tryd.prog 50 false [.nilFunc] 8 := .mk' (z := .nilFunc) Tryd.underlying50 rfl (by kernel_rfl) rfl
theorem ty51 : TyI Tryd.prog 51 true [.int .i64 0, .int .i64 0, .string ⟨⟨[]⟩⟩] 32 := .mk' (z := .agg ⟨[.int .i64 0, .int .i64 0, .string ⟨⟨[]⟩⟩]⟩) Tryd.underlying51 rfl (by kernel_rfl) rfl
theorem ty52 : TyI Tryd.prog 52 true [.int .i64 0, .int .i64 0, .string ⟨⟨[]⟩⟩] 32 := .mk' (z := .agg ⟨[.int .i64 0, .int .i64 0, .string ⟨⟨[]⟩⟩]⟩) Tryd.underlying52 rfl (by kernel_rfl) rfl
theorem ty53 : TyI Tryd.prog 53 true [.string ⟨⟨[]⟩⟩, .string ⟨⟨[]⟩⟩, .bool false, .int .i64 0, .int .i64 0, .string ⟨⟨[]⟩⟩] 72 := .mk' (z := .agg ⟨[.string ⟨⟨[]⟩⟩, .string ⟨⟨[]⟩⟩, .bool false, .int .i64 0, .int .i64 0, .string ⟨⟨[]⟩⟩]⟩) Tryd.underlying53 rfl (by kernel_rfl) rfl
theorem ty54 : TyI Tryd.prog 54 true [.string ⟨⟨[]⟩⟩, .string ⟨⟨[]⟩⟩, .bool false, .int .i64 0, .int .i64 0, .string ⟨⟨[]⟩⟩] 72 := .mk' (z := .agg ⟨[.string ⟨⟨[]⟩⟩, .string ⟨⟨[]⟩⟩, .bool false, .int .i64 0, .int .i64 0, .string ⟨⟨[]⟩⟩]⟩) Tryd.underlying54 rfl (by kernel_rfl) rfl
theorem ty55 : TyI Tryd.prog 55 true [.string ⟨⟨[]⟩⟩, .string ⟨⟨[]⟩⟩, .bool false, .int .i64 0, .int .i64 0, .string ⟨⟨[]⟩⟩, .int .i64 0, .string ⟨⟨[]⟩⟩, .string ⟨⟨[]⟩⟩, .bool false, .int .i64 0, .int .i64 0, .string ⟨⟨[]⟩⟩, .int .i64 0] 160 := .mk' (z := .agg ⟨[.string ⟨⟨[]⟩⟩, .string ⟨⟨[]⟩⟩, .bool false, .int .i64 0, .int .i64 0, .string ⟨⟨[]⟩⟩, .int .i64 0, .string ⟨⟨[]⟩⟩, .string ⟨⟨[]⟩⟩, .bool false, .int .i64 0, .int .i64 0, .string ⟨⟨[]⟩⟩, .int .i64 0]⟩) Tryd.underlying55 rfl (by kernel_rfl) rfl
theorem ty56 : TyI Tryd.prog 56 true [.string ⟨⟨[]⟩⟩, .string ⟨⟨[]⟩⟩, .bool false, .int .i64 0, .int .i64 0, .string ⟨⟨[]⟩⟩, .int .i64 0, .string ⟨⟨[]⟩⟩, .string ⟨⟨[]⟩⟩, .bool false, .int .i64 0, .int .i64 0, .string ⟨⟨[]⟩⟩, .int .i64 0] 160 := .mk' (z := .agg ⟨[.string ⟨⟨[]⟩⟩, .string ⟨⟨[]⟩⟩, .bool false, .int .i64 0, .int .i64 0, .string ⟨⟨[]⟩⟩, .int .i64 0, .string ⟨⟨[]⟩⟩, .string ⟨⟨[]⟩⟩, .bool false, .int .i64 0, .int .i64 0, .string ⟨⟨[]⟩⟩, .int .i64 0]⟩) Tryd.underlying56 rfl (by kernel_rfl) rfl
theorem ty57 : TyI Tryd.prog 57 false [.nilFunc] 8 := .mk' (z := .nilFunc) Tryd.underlying57 rfl (by kernel_rfl) rfl
theorem ty58 : TyI Tryd.prog 58 true [.int .i64 0, .int .i64 0] 16 := .mk' (z := .agg ⟨[.int .i64 0, .int .i64 0]⟩) Tryd.underlying58 rfl (by kernel_rfl) rfl
theorem ty59 : TyI Tryd.prog 59 true [.int .i64 0, .int .i64 0] 16 := .mk' (z := .agg ⟨[.int .i64 0, .int .i64 0]⟩) Tryd.underlying59 rfl (by kernel_rfl) rfl
theorem ty60 : TyI Tryd.prog 60 true [.string ⟨⟨[]⟩⟩, .int .i64 0, .int .i64 0, .int .i64 0, .int .i64 0, .int .i64 0, .int .i64 0] 64 := .mk' (z := .agg ⟨[.string ⟨⟨[]⟩⟩, .int .i64 0, .int .i64 0, .int .i64 0, .int .i64 0, .int .i64 0, .int .i64 0]⟩) Tryd.underlying60 rfl (by kernel_rfl) rfl
theorem ty61 : TyI Tryd.prog 61 true [.string ⟨⟨[]⟩⟩, .int .i64 0, .int .i64 0, .int .i64 0, .int .i64 0, .int .i64 0, .int .i64 0] 64 := .mk' (z := .agg ⟨[.string ⟨⟨[]⟩⟩, .int .i64 0, .int .i64 0, .int .i64 0, .int .i64 0, .int .i64 0, .int .i64 0]⟩) Tryd.underlying61 rfl (by kernel_rfl) rfl
theorem ty62 : TyI Tryd.prog 62 true [.int .i64 0, .int .i64 0] 16 := .mk' (z := .agg ⟨[.int .i64 0, .int .i64 0]⟩) Tryd.underlying62 rfl (by kernel_rfl) rfl
theorem ty63 : TyI Tryd.prog 63 true [.int .i64 0, .int .i64 0] 16 := .mk' (z := .agg ⟨[.int .i64 0, .int .i64 0]⟩) Tryd.underlying63 rfl (by kernel_rfl) rfl
theorem ty65 : TyI Tryd.prog 65 false [.pointer none] 8 := .mk' (z := .pointer none) Tryd.underlying65 rfl (by kernel_rfl) rfl
theorem ty66 : TyI Tryd.prog 66 true [.slice none 0 0, .int .i64 0] 32 := .mk' (z := .agg ⟨[.slice none 0 0, .int .i64 0]⟩) Tryd.underlying66 rfl (by kernel_rfl) rfl
theorem ty67 : TyI Tryd.prog 67 true [.slice none 0 0, .int .i64 0] 32 := .mk' (z := .agg ⟨[.slice none 0 0, .int .i64 0]⟩) Tryd.underlying67 rfl (by kernel_rfl) rfl
theorem ty68 : TyI Tryd.prog 68 false [.nilFunc] 8 := .mk' (z := .nilFunc) Tryd.underlying68 rfl (by kernel_rfl) rfl
theorem ty69 : TyI Tryd.prog 69 false [.nilFunc] 8 := .mk' (z := .nilFunc) Tryd.underlying69 rfl (by kernel_rfl) rfl
theorem ty70 : TyI Tryd.prog 70 true [.int .i64 0, .int .i64 0] 16 := .mk' (z := .agg ⟨[.int .i64 0, .int .i64 0]⟩) Tryd.underlying70 rfl (by kernel_rfl) rfl
theorem ty71 : TyI Tryd.prog 71 true [.int .i64 0, .int .i64 0] 16 := .mk' (z := .agg ⟨[.int .i64 0, .int .i64 0]⟩) Tryd.underlying71 rfl (by kernel_rfl) rfl
theorem ty73 : TyI Tryd.prog 73 false [.pointer none] 8 := .mk' (z := .pointer none) Tryd.underlying73 rfl (by kernel_rfl) rfl
theorem ty74 : TyI Tryd.prog 74 true [.string ⟨⟨[]⟩⟩, .int .i64 0] 24 := .mk' (z := .agg ⟨[.string ⟨⟨[]⟩⟩, .int .i64 0]⟩) Tryd.underlying74 rfl (by kernel_rfl) rfl
theorem ty75 : TyI Tryd.prog 75 true [.string ⟨⟨[]⟩⟩, .int .i64 0] 24 := .mk' (z := .agg ⟨[.string ⟨⟨[]⟩⟩, .int .i64 0]⟩) Tryd.underlying75 rfl (by kernel_rfl) rfl
theorem ty76 : TyI Tryd.prog 76 false [.nilFunc] 8 := .mk' (z := .nilFunc) Tryd.underlying76 rfl (by kernel_rfl) rfl
theorem ty77 : TyI Tryd.prog 77 true [.nilFunc, .nilFunc, .nilFunc, .nilFunc] 32 := .mk' (z := .agg ⟨[.nilFunc, .nilFunc, .nilFunc, .nilFunc]⟩) Tryd.underlying77 rfl (by kernel_rfl) rfl
theorem ty78 : TyI Tryd.prog 78 true [.nilFunc, .nilFunc, .nilFunc, .nilFunc] 32 := .mk' (z := .agg ⟨[.nilFunc, .nilFunc, .nilFunc, .nilFunc]⟩) Tryd.underlying78 rfl (by kernel_rfl) rfl
theorem ty79 : TyI Tryd.prog 79 true [.nilFunc, .nilFunc, .nilFunc, .nilFunc] 32 := .mk' (z := .agg ⟨[.nilFunc, .nilFunc, .nilFunc, .nilFunc]⟩) Tryd.underlying79 rfl (by kernel_rfl) rfl
theorem ty81 : TyI Tryd.prog 81 false [.nilFunc] 8 := .mk' (z := .nilFunc) Tryd.underlying81 rfl (by kernel_rfl) rfl
theorem ty82 : TyI Tryd.prog 82 false [.nilFunc] 8 := .mk' (z := .nilFunc) Tryd.underlying82 rfl (by kernel_rfl) rfl
theorem ty83 : TyI Tryd.prog 83 false [.nilFunc] 8 := .mk' (z := .nilFunc) Tryd.underlying83 rfl (by kernel_rfl) rfl
theorem ty84 : TyI Tryd.prog 84 true [.string ⟨⟨[]⟩⟩, .string ⟨⟨[]⟩⟩, .string ⟨⟨[]⟩⟩, .string ⟨⟨[]⟩⟩, .string ⟨⟨[]⟩⟩, .string ⟨⟨[]⟩⟩, .string ⟨⟨[]⟩⟩, .string ⟨⟨[]⟩⟩, .string ⟨⟨[]⟩⟩, .string ⟨⟨[]⟩⟩] 160 := .mk' (z := .agg ⟨[.string ⟨⟨[]⟩⟩, .string ⟨⟨[]⟩⟩, .string ⟨⟨[]⟩⟩, .string ⟨⟨[]⟩⟩, .string ⟨⟨[]⟩⟩, .string ⟨⟨[]⟩⟩, .string ⟨⟨[]⟩⟩, .string ⟨⟨[]⟩⟩, .string ⟨⟨[]⟩⟩, .string ⟨⟨[]⟩⟩]⟩) Tryd.underlying84 rfl (by kernel_rfl) rfl
theorem ty85 : TyI Tryd.prog 85 false [.nilFunc] 8 := .mk' (z := .nilFunc) Tryd.underlying85 rfl (by kernel_rfl) rfl
theorem ty86 : TyI Tryd.prog 86 false [.nilFunc] 8 := .mk' (z := .nilFunc) Tryd.underlying86 rfl (by kernel_rfl) rfl
theorem ty87 : TyI Tryd.prog 87 false [.map none] 8 := .mk' (z := .map none) Tryd.underlying87 rfl (by kernel_rfl) rfl
theorem ty88 : TyI Tryd.prog 88 false [.pointer none] 8 := .mk' (z := .pointer none) Tryd.underlying88 rfl (by kernel_rfl) rfl
theorem ty89 : TyI Tryd.prog 89 false [.nilFunc] 8 := .mk' (z := .nilFunc) Tryd.underlying89 rfl (by kernel_rfl) rfl
theorem ty90 : TyI Tryd.prog 90 false [.nilFunc] 8 := .mk' (z := .nilFunc) Tryd.underlying90 rfl (by kernel_rfl) rfl
theorem ty91 : TyI Tryd.prog 91 false [.nilFunc] 8 := .mk' (z := .nilFunc) Tryd.underlying91 rfl (by kernel_rfl) rfl
theorem ty92 : TyI Tryd.prog 92 false [.nilIface] 16 := .mk' (z := .nilIface) Tryd.underlying92 rfl (by kernel_rfl) rfl
theorem ty93 : TyI Tryd.prog 93 false [.nilIface] 16 := .mk' (z := .nilIface) Tryd.underlying93 rfl (by kernel_rfl) rfl
theorem ty95 : TyI Tryd.prog 95 false [.nilFunc] 8 := .mk' (z := .nilFunc) Tryd.underlying95 rfl (by kernel_rfl) rfl
theorem ty96 : TyI Tryd.prog 96 false [.slice none 0 0] 24 := .mk' (z := .slice none 0 0) Tryd.underlying96 rfl (by kernel_rfl) rfl
theorem sl96 : SliceT Tryd.prog 96 5 := Tryd.underlying96
theorem ty97 : TyI Tryd.prog 97 false [.nilFunc] 8 := .mk' (z := .nilFunc) Tryd.underlying97 rfl (by kernel_rfl) rfl
theorem ty98 : TyI Tryd.prog 98 false [.nilFunc] 8 := .mk' (z := .nilFunc) Tryd.underlying98 rfl (by kernel_rfl) rfl
theorem ty99 : TyI Tryd.prog 99 false [.nilFunc] 8 := .mk' (z := .nilFunc) Tryd.underlying99 rfl (by kernel_rfl) rfl
theorem ty100 : TyI Tryd.prog 100 false [.nilFunc] 8 := .mk' (z := .nilFunc) Tryd.underlying100 rfl (by kernel_rfl) rfl
theorem ty101 : TyI Tryd.prog 101 true [.string ⟨⟨[]⟩⟩, .int .i64 0, .int .i64 0, .int .i64 0, .string ⟨⟨[]⟩⟩] 56 := .mk' (z := .agg ⟨[.string ⟨⟨[]⟩⟩, .int .i64 0, .int .i64 0, .int .i64 0, .string ⟨⟨[]⟩⟩]⟩) Tryd.underlying101 rfl (by kernel_rfl) rfl
theorem ty102 : TyI Tryd.prog 102 true [.string ⟨⟨[]⟩⟩, .int .i64 0, .int .i64 0, .int .i64 0, .string ⟨⟨[]⟩⟩] 56 := .mk' (z := .agg ⟨[.string ⟨⟨[]⟩⟩, .int .i64 0, .int .i64 0, .int .i64 0, .string ⟨⟨[]⟩⟩]⟩) Tryd.underlying102 rfl (by kernel_rfl) rfl
theorem ty103 : TyI Tryd.prog 103 false [.nilFunc] 8 := .mk' (z := .nilFunc) Tryd.underlying103 rfl (by kernel_rfl) rfl
theorem ty104 : TyI Tryd.prog 104 false [.nilFunc] 8 := .mk' (z := .nilFunc) Tryd.underlying104 rfl (by kernel_rfl) rfl
theorem ty106 : TyI Tryd.prog 106 false [.nilFunc] 8 := .mk' (z := .nilFunc) Tryd.underlying106 rfl (by kernel_rfl) rfl
theorem ty107 : TyI Tryd.prog 107 false [.nilFunc] 8 := .mk' (z := .nilFunc) Tryd.underlying107 rfl (by kernel_rfl) rfl
theorem ty108 : TyI Tryd.prog 108 false [.nilFunc] 8 := .mk' (z := .nilFunc) Tryd.underlying108 rfl (by kernel_rfl) rfl
theorem ty109 : TyI Tryd.prog 109 false [.nilFunc] 8 := .mk' (z := .nilFunc) Tryd.underlying109 rfl (by kernel_rfl) rfl
theorem ty110 : TyI Tryd.prog 110 true [.string ⟨⟨[]⟩⟩, .int .i64 0, .int .i64 0, .string ⟨⟨[]⟩⟩] 48 := .mk' (z := .agg ⟨[.string ⟨⟨[]⟩⟩, .int .i64 0, .int .i64 0, .string ⟨⟨[]⟩⟩]⟩) Tryd.underlying110 rfl (by kernel_rfl) rfl
theorem ty111 : TyI Tryd.prog 111 true [.string ⟨⟨[]⟩⟩, .int .i64 0, .int .i64 0, .string ⟨⟨[]⟩⟩] 48 := .mk' (z := .agg ⟨[.string ⟨⟨[]⟩⟩, .int .i64 0, .int .i64 0, .string ⟨⟨[]⟩⟩]⟩) Tryd.underlying111 rfl (by kernel_rfl) rfl
theorem ty112 : TyI Tryd.prog 112 false [.nilFunc] 8 := .mk' (z := .nilFunc) Tryd.underlying112 rfl (by kernel_rfl) rfl
theorem ty113 : TyI Tryd.prog 113 false [.nilFunc] 8 := .mk' (z := .nilFunc) Tryd.underlying113 rfl (by kernel_rfl) rfl
theorem ty114 : TyI Tryd.prog 114 true [.string ⟨⟨[]⟩⟩, .string ⟨⟨[]⟩⟩] 32 := .mk' (z := .agg ⟨[.string ⟨⟨[]⟩⟩, .string ⟨⟨[]⟩⟩]⟩) Tryd.underlying114 rfl (by kernel_rfl) rfl
theorem ty115 : TyI Tryd.prog 115 true [.string ⟨⟨[]⟩⟩, .string ⟨⟨[]⟩⟩] 32 := .mk' (z := .agg ⟨[.string ⟨⟨[]⟩⟩, .string ⟨⟨[]⟩⟩]⟩) Tryd.underlying115 rfl (by kernel_rfl) rfl
theorem ty116 : TyI Tryd.prog 116 false [.nilFunc] 8 := .mk' (z := .nilFunc) Tryd.underlying116 rfl (by kernel_rfl) rfl
theorem ty117 : TyI Tryd.prog 117 false [.nilFunc] 8 := .mk' (z := .nilFunc) Tryd.underlying117 rfl (by kernel_rfl) rfl
theorem ty118 : TyI Tryd.prog 118 false [.nilFunc] 8 := .mk' (z := .nilFunc) Tryd.underlying118 rfl (by kernel_rfl) rfl
theorem ty119 : TyI Tryd.prog 119 false [.nilFunc] 8 := .mk' (z := .nilFunc) Tryd.underlying119 rfl (by kernel_rfl) rfl
theorem ty120 : TyI Tryd.prog 120 false [.nilFunc] 8 := .mk' (z := .nilFunc) Tryd.underlying120 rfl (by kernel_rfl) rfl
theorem ty121 : TyI Tryd.prog 121 false [.nilFunc] 8 := .mk' (z := .nilFunc) Tryd.underlying121 rfl (by kernel_rfl) rfl
theorem ty122 : TyI Tryd.prog 122 false [.nilFunc] 8 := .mk' (z := .nilFunc) Tryd.underlying122 rfl (by kernel_rfl) rfl
theorem ty123 : TyI Tryd.prog 123 false [.nilFunc] 8 := .mk' (z := .nilFunc) Tryd.underlying123 rfl (by kernel_rfl) rfl
theorem ty124 : TyI Tryd.prog 124 false [.slice none 0 0] 24 := .mk' (z := .slice none 0 0) Tryd.underlying124 rfl (by kernel_rfl) rfl
theorem sl124 : SliceT Tryd.prog 124 128 := Tryd.underlying124
theorem ty125 : TyI Tryd.prog 125 false [.nilFunc] 8 := .mk' (z := .nilFunc) Tryd.underlying125 rfl (by kernel_rfl) rfl
theorem ty126 : TyI Tryd.prog 126 false [.nilFunc] 8 := .mk' (z := .nilFunc) Tryd.underlying126 rfl (by kernel_rfl) rfl
theorem ty127 : TyI Tryd.prog 127 true [.string ⟨⟨[]⟩⟩, .bool false, .nilFunc] 32 := .mk' (z := .agg ⟨[.string ⟨⟨[]⟩⟩, .bool false, .nilFunc]⟩) Tryd.underlying127 rfl (by kernel_rfl) rfl
theorem ty128 : TyI Tryd.prog 128 true [.string ⟨⟨[]⟩⟩, .bool false, .nilFunc] 32 := .mk' (z := .agg ⟨[.string ⟨⟨[]⟩⟩, .bool false, .nilFunc]⟩) Tryd.underlying128 rfl (by kernel_rfl) rfl
theorem ty129 : TyI Tryd.prog 129 false [.pointer none] 8 := .mk' (z := .pointer none) Tryd.underlying129 rfl (by kernel_rfl) rfl
theorem ty130 : TyI Tryd.prog 130 false [.int .i64 0] 8 := .mk' (z := .int .i64 0) Tryd.underlying130 rfl (by kernel_rfl) rfl
theorem int130 : Tryd.prog.underlying 130 = some (.int .i64) := Tryd.underlying130
theorem ty132 : TyI Tryd.prog 132 false [.nilFunc] 8 := .mk' (z := .nilFunc) Tryd.underlying132 rfl (by kernel_rfl) rfl
theorem ty133 : TyI Tryd.prog 133 false [.pointer none] 8 := .mk' (z := .pointer none) Tryd.underlying133 rfl (by kernel_rfl) rfl
theorem ty134 : TyI Tryd.prog 134 false [.nilFunc] 8 := .mk' (z := .nilFunc) Tryd.underlying134 rfl (by kernel_rfl) rfl
theorem ty135 : TyI Tryd.prog 135 false [.nilFunc] 8 := .mk' (z := .nilFunc) Tryd.underlying135 rfl (by kernel_rfl) rfl
theorem ty137 : TyI Tryd.prog 137 false [.nilFunc] 8 := .mk' (z := .nilFunc) Tryd.underlying137 rfl (by kernel_rfl) rfl
theorem ty138 : TyI Tryd.prog 138 false [.nilFunc] 8 := .mk' (z := .nilFunc) Tryd.underlying138 rfl (by kernel_rfl) rfl
theorem ty139 : TyI Tryd.prog 139 false [.int .u64 0] 8 := .mk' (z := .int .u64 0) Tryd.underlying139 rfl (by kernel_rfl) rfl
theorem int139 : Tryd.prog.underlying 139 = some (.int .u64) := Tryd.underlying139
theorem ty141 : TyI Tryd.prog 141 false [.nilFunc] 8 := .mk' (z := .nilFunc) Tryd.underlying141 rfl (by kernel_rfl) rfl
theorem ty142 : TyI Tryd.prog 142 false [.int .u64 0] 8 := .mk' (z := .int .u64 0) Tryd.underlying142 rfl (by kernel_rfl) rfl
theorem int142 : Tryd.prog.underlying 142 = some (.int .u64) := Tryd.underlying142
theorem ty143 : TyI Tryd.prog 143 false [.nilFunc] 8 := .mk' (z := .nilFunc) Tryd.underlying143 rfl (by kernel_rfl) rfl
theorem ty144 : TyI Tryd.prog 144 true [.string ⟨⟨[]⟩⟩, .string ⟨⟨[]⟩⟩, .nilIface] 48 := .mk' (z := .agg ⟨[.string ⟨⟨[]⟩⟩, .string ⟨⟨[]⟩⟩, .nilIface]⟩) Tryd.underlying144 rfl (by kernel_rfl) rfl
theorem ty145 : TyI Tryd.prog 145 true [.string ⟨⟨[]⟩⟩, .string ⟨⟨[]⟩⟩, .nilIface] 48 := .mk' (z := .agg ⟨[.string ⟨⟨[]⟩⟩, .string ⟨⟨[]⟩⟩, .nilIface]⟩) Tryd.underlying145 rfl (by kernel_rfl) rfl
theorem ty146 : TyI Tryd.prog 146 false [.nilFunc] 8 := .mk' (z := .nilFunc) Tryd.underlying146 rfl (by kernel_rfl) rfl
theorem ty147 : TyI Tryd.prog 147 false [.nilFunc] 8 := .mk' (z := .nilFunc) Tryd.underlying147 rfl (by kernel_rfl) rfl
theorem ty148 : TyI Tryd.prog 148 false [.nilFunc] 8 := .mk' (z := .nilFunc) Tryd.underlying148 rfl (by kernel_rfl) rfl
theorem ty149 : TyI Tryd.prog 149 false [.pointer none] 8 := .mk' (z := .pointer none) Tryd.underlying149 rfl (by kernel_rfl) rfl
theorem ty150 : TyI Tryd.prog 150 false [.pointer none] 8 := .mk' (z := .pointer none) Tryd.underlying150 rfl (by kernel_rfl) rfl
theorem ty151 : TyI Tryd.prog 151 true [.string ⟨⟨[]⟩⟩] 16 := .mk' (z := .agg ⟨[.string ⟨⟨[]⟩⟩]⟩) Tryd.underlying151 rfl (by kernel_rfl) rfl
theorem ty152 : TyI Tryd.prog 152 true [.string ⟨⟨[]⟩⟩] 16 := .mk' (z := .agg ⟨[.string ⟨⟨[]⟩⟩]⟩) Tryd.underlying152 rfl (by kernel_rfl) rfl
theorem ty153 : TyI Tryd.prog 153 false [.nilFunc] 8 := .mk' (z := .nilFunc) Tryd.underlying153 rfl (by kernel_rfl) rfl
theorem ty154 : TyI Tryd.prog 154 true [.int .u8 0, .int .u8 0, .int .u8 0, .int .u8 0, .int .u8 0, .int .u8 0, .int .u8 0, .int .u8 0, .int .u8 0, .int .u8 0, .int .u8 0, .int .u8 0, .int .u8 0, .int .u8 0, .int .u8 0, .int .u8 0, .int .u8 0, .int .u8 0, .int .u8 0, .int .u8 0, .int .u8 0, .int .u8 0, .int .u8 0, .int .u8 0] 24 := .mk' (z := .agg ⟨[.int .u8 0, .int .u8 0, .int .u8 0, .int .u8 0, .int .u8 0, .int .u8 0, .int .u8 0, .int .u8 0, .int .u8 0, .int .u8 0, .int .u8 0, .int .u8 0, .int .u8 0, .int .u8 0, .int .u8 0, .int .u8 0, .int .u8 0, .int .u8 0, .int .u8 0, .int .u8 0, .int .u8 0, .int .u8 0, .int .u8 0, .int .u8 0]⟩) Tryd.underlying154 rfl (by kernel_rfl) rfl
theorem ty155 : TyI Tryd.prog 155 false [.nilFunc] 8 := .mk' (z := .nilFunc) Tryd.underlying155 rfl (by kernel_rfl) rfl
theorem ty156 : TyI Tryd.prog 156 false [.nilFunc] 8 := .mk' (z := .nilFunc) Tryd.underlying156 rfl (by kernel_rfl) rfl
theorem ty158 : TyI Tryd.prog 158 false [.nilFunc] 8 := .mk' (z := .nilFunc) Tryd.underlying158 rfl (by kernel_rfl) rfl
theorem ty159 : TyI Tryd.prog 159 false [.nilFunc] 8 := .mk' (z := .nilFunc) Tryd.underlying159 rfl (by kernel_rfl) rfl
theorem ty160 : TyI Tryd.prog 160 false [.nilFunc] 8 := .mk' (z := .nilFunc) Tryd.underlying160 rfl (by kernel_rfl) rfl
theorem ty161 : TyI Tryd.prog 161 true [.int .u64 0, .int .u64 0, .int .u64 0, .int .u64 0, .int .u64 0, .int .u64 0, .int .u64 0, .int .u64 0, .int .u64 0, .int .u64 0, .int .u64 0, .int .u64 0, .int .u64 0, .int .u64 0, .int .u64 0, .int .u64 0, .int .u64 0, .int .u64 0, .int .u64 0, .int .u64 0] 160 := .mk' (z := .agg ⟨[.int .u64 0, .int .u64 0, .int .u64 0, .int .u64 0, .int .u64 0, .int .u64 0, .int .u64 0, .int .u64 0, .int .u64 0, .int .u64 0, .int .u64 0, .int .u64 0, .int .u64 0, .int .u64 0, .int .u64 0, .int .u64 0, .int .u64 0, .int .u64 0, .int .u64 0, .int .u64 0]⟩) Tryd.underlying161 rfl (by kernel_rfl) rfl
theorem ty162 : TyI Tryd.prog 162 false [.int .u32 0] 4 := .mk' (z := .int .u32 0) Tryd.underlying162 rfl (by kernel_rfl) rfl
theorem int162 : Tryd.prog.underlying 162 = some (.int .u32) := Tryd.underlying162
theorem ty163 : TyI Tryd.prog 163 true [.int .u8 0, .int .u8 0, .int .u8 0, .int .u8 0, .int .u8 0, .int .u8 0, .int .u8 0, .int .u8 0, .int .u8 0, .int .u8 0, .int .u8 0, .int .u8 0, .int .u8 0, .int .u8 0, .int .u8 0, .int .u8 0, .int .u8 0, .int .u8 0, .int .u8 0, .int .u8 0, .int .u8 0, .int .u8 0, .int .u8 0, .int .u8 0, .int .u8 0, .int .u8 0, .int .u8 0, .int .u8 0, .int .u8 0, .int .u8 0, .int .u8 0, .int .u8 0, .int .u8 0, .int .u8 0, .int .u8 0, .int .u8 0, .int .u8 0, .int .u8 0, .int .u8 0, .int .u8 0, .int .u8 0, .int .u8 0, .int .u8 0, .int .u8 0, .int .u8 0, .int .u8 0, .int .u8 0, .int .u8 0, .int .u8 0, .int .u8 0, .int .u8 0, .int .u8 0, .int .u8 0, .int .u8 0, .int .u8 0, .int .u8 0, .int .u8 0, .int .u8 0, .int .u8 0, .int .u8 0, .int .u8 0, .int .u8 0, .int .u8 0, .int .u8 0, .int .u8 0] 65 := .mk' (z := .agg ⟨[.int .u8 0, .int .u8 0, .int .u8 0, .int .u8 0, .int .u8 0, .int .u8 0, .int .u8 0, .int .u8 0, .int .u8 0, .int .u8 0, .int .u8 0, .int .u8 0, .int .u8 0, .int .u8 0, .int .u8 0, .int .u8 0, .int .u8 0, .int .u8 0, .int .u8 0, .int .u8 0, .int .u8 0, .int .u8 0, .int .u8 0, .int .u8 0, .int .u8 0, .int .u8 0, .int .u8 0, .int .u8 0, .int .u8 0, .int .u8 0, .int .u8 0, .int .u8 0, .int .u8 0, .int .u8 0, .int .u8 0, .int .u8 0, .int .u8 0, .int .u8 0, .int .u8 0, .int .u8 0, .int .u8 0, .int .u8 0, .int .u8 0, .int .u8 0, .int .u8 0, .int .u8 0, .int .u8 0, .int .u8 0, .int .u8 0, .int .u8 0, .int .u8 0, .int .u8 0, .int .u8 0, .int .u8 0, .int .u8 0, .int .u8 0, .int .u8 0, .int .u8 0, .int .u8 0, .int .u8 0, .int .u8 0, .int .u8 0, .int .u8 0, .int .u8 0, .int .u8 0]⟩) Tryd.underlying163 rfl (by kernel_rfl) rfl
theorem ty164 : TyI Tryd.prog 164 false [.nilFunc] 8 := .mk' (z := .nilFunc) Tryd.underlying164 rfl (by kernel_rfl) rfl
theorem ty165 : TyI Tryd.prog 165 false [.nilFunc] 8 := .mk' (z := .nilFunc) Tryd.underlying165 rfl (by kernel_rfl) rfl
theorem ty166 : TyI Tryd.prog 166 false [.nilFunc] 8 := .mk' (z := .nilFunc) Tryd.underlying166 rfl (by kernel_rfl) rfl
theorem ty167 : TyI Tryd.prog 167 true [.int .u8 0, .int .u8 0, .int .u8 0, .int .u8 0, .int .u8 0, .int .u8 0, .int .u8 0, .int .u8 0, .int .u8 0, .int .u8 0, .int .u8 0, .int .u8 0, .int .u8 0, .int .u8 0, .int .u8 0, .int .u8 0, .int .u8 0, .int .u8 0, .int .u8 0, .int .u8 0, .int .u8 0, .int .u8 0, .int .u8 0, .int .u8 0, .int .u8 0, .int .u8 0, .int .u8 0, .int .u8 0, .int .u8 0, .int .u8 0, .int .u8 0, .int .u8 0] 32 := .mk' (z := .agg ⟨[.int .u8 0, .int .u8 0, .int .u8 0, .int .u8 0, .int .u8 0, .int .u8 0, .int .u8 0, .int .u8 0, .int .u8 0, .int .u8 0, .int .u8 0, .int .u8 0, .int .u8 0, .int .u8 0, .int .u8 0, .int .u8 0, .int .u8 0, .int .u8 0, .int .u8 0, .int .u8 0, .int .u8 0, .int .u8 0, .int .u8 0, .int .u8 0, .int .u8 0, .int .u8 0, .int .u8 0, .int .u8 0, .int .u8 0, .int .u8 0, .int .u8 0, .int .u8 0]⟩) Tryd.underlying167 rfl (by kernel_rfl) rfl
theorem ty168 : TyI Tryd.prog 168 true [.int .u8 0, .int .u8 0, .int .u8 0, .int .u8 0, .int .u8 0, .int .u8 0, .int .u8 0, .int .u8 0, .int .u8 0, .int .u8 0, .int .u8 0, .int .u8 0, .int .u8 0, .int .u8 0, .int .u8 0, .int .u8 0, .int .u8 0, .int .u8 0, .int .u8 0, .int .u8 0, .int .u8 0, .int .u8 0, .int .u8 0, .int .u8 0, .int .u8 0, .int .u8 0, .int .u8 0, .int .u8 0, .int .u8 0, .int .u8 0, .int .u8 0, .int .u8 0, .int .u8 0, .int .u8 0, .int .u8 0, .int .u8 0, .int .u8 0, .int .u8 0, .int .u8 0, .int .u8 0, .int .u8 0, .int .u8 0, .int .u8 0, .int .u8 0, .int .u8 0, .int .u8 0, .int .u8 0, .int .u8 0, .int .u8 0, .int .u8 0, .int .u8 0, .int .u8 0, .int .u8 0, .int .u8 0, .int .u8 0, .int .u8 0, .int .u8 0, .int .u8 0, .int .u8 0, .int .u8 0, .int .u8 0, .int .u8 0, .int .u8 0, .int .u8 0] 64 := .mk' (z := .agg ⟨[.int .u8 0, .int .u8 0, .int .u8 0, .int .u8 0, .int .u8 0, .int .u8 0, .int .u8 0, .int .u8 0, .int .u8 0, .int .u8 0, .int .u8 0, .int .u8 0, .int .u8 0, .int .u8 0, .int .u8 0, .int .u8 0, .int .u8 0, .int .u8 0, .int .u8 0, .int .u8 0, .int .u8 0, .int .u8 0, .int .u8 0, .int .u8 0, .int .u8 0, .int .u8 0, .int .u8 0, .int .u8 0, .int .u8 0, .int .u8 0, .int .u8 0, .int .u8 0, .int .u8 0, .int .u8 0, .int .u8 0, .int .u8 0, .int .u8 0, .int .u8 0, .int .u8 0, .int .u8 0, .int .u8 0, .int .u8 0, .int .u8 0, .int .u8 0, .int .u8 0, .int .u8 0, .int .u8 0, .int .u8 0, .int .u8 0, .int .u8 0, .int .u8 0, .int .u8 0, .int .u8 0, .int .u8 0, .int .u8 0, .int .u8 0, .int .u8 0, .int .u8 0, .int .u8 0, .int .u8 0, .int .u8 0, .int .u8 0, .int .u8 0, .int .u8 0]⟩) Tryd.underlying168 rfl (by kernel_rfl) rfl
theorem ty169 : TyI Tryd.prog 169 true [.pointer none, .pointer none, .pointer none, .string ⟨⟨[]⟩⟩] 40 := .mk' (z := .agg ⟨[.pointer none, .pointer none, .pointer none, .string ⟨⟨[]⟩⟩]⟩) Tryd.underlying169 rfl (by kernel_rfl) rfl
theorem ty170 : TyI Tryd.prog 170 true [.pointer none, .pointer none, .pointer none, .string ⟨⟨[]⟩⟩] 40 := .mk' (z := .agg ⟨[.pointer none, .pointer none, .pointer none, .string ⟨⟨[]⟩⟩]⟩) Tryd.underlying170 rfl (by kernel_rfl) rfl
theorem ty171 : TyI Tryd.prog 171 true [] 0 := .mk' (z := .agg ⟨[]⟩) Tryd.underlying171 rfl (by kernel_rfl) rfl
theorem ty172 : TyI Tryd.prog 172 true [] 0 := .mk' (z := .agg ⟨[]⟩) Tryd.underlying172 rfl (by kernel_rfl) rfl
theorem ty173 : TyI Tryd.prog 173 true [] 0 := .mk' (z := .agg ⟨[]⟩) Tryd.underlying173 rfl (by kernel_rfl) rfl
theorem ty174 : TyI Tryd.prog 174 false [.int .u8 0] 1 := .mk' (z := .int .u8 0) Tryd.underlying174 rfl (by kernel_rfl) rfl
theorem int174 : Tryd.prog.underlying 174 = some (.int .u8) := Tryd.underlying174
theorem ty175 : TyI Tryd.prog 175 false [.int .u8 0] 1 := .mk' (z := .int .u8 0) Tryd.underlying175 rfl (by kernel_rfl) rfl
theorem int175 : Tryd.prog.underlying 175 = some (.int .u8) := Tryd.underlying175
theorem ty176 : TyI Tryd.prog 176 false [.nilFunc] 8 := .mk' (z := .nilFunc) Tryd.underlying176 rfl (by kernel_rfl) rfl
theorem ty177 : TyI Tryd.prog 177 false [.int .i32 0] 4 := .mk' (z := .int .i32 0) Tryd.underlying177 rfl (by kernel_rfl) rfl
theorem int177 : Tryd.prog.underlying 177 = some (.int .i32) := Tryd.underlying177
theorem ty178 : TyI Tryd.prog 178 false [.int .i32 0] 4 := .mk' (z := .int .i32 0) Tryd.underlying178 rfl (by kernel_rfl) rfl
theorem int178 : Tryd.prog.underlying 178 = some (.int .i32) := Tryd.underlying178
theorem ty179 : TyI Tryd.prog 179 true [.int .u64 0, .int .u64 0, .int .u32 0, .int .u8 0, .int .u8 0, .int .u8 0, .int .u8 0, .nilFunc, .pointer none, .int .i32 0, .int .i32 0] 48 := .mk' (z := .agg ⟨[.int .u64 0, .int .u64 0, .int .u32 0, .int .u8 0, .int .u8 0, .int .u8 0, .int .u8 0, .nilFunc, .pointer none, .int .i32 0, .int .i32 0]⟩) Tryd.underlying179 rfl (by kernel_rfl) rfl
theorem ty180 : TyI Tryd.prog 180 true [.int .u64 0, .int .u64 0, .int .u32 0, .int .u8 0, .int .u8 0, .int .u8 0, .int .u8 0, .nilFunc, .pointer none, .int .i32 0, .int .i32 0] 48 := .mk' (z := .agg ⟨[.int .u64 0, .int .u64 0, .int .u32 0, .int .u8 0, .int .u8 0, .int .u8 0, .int .u8 0, .nilFunc, .pointer none, .int .i32 0, .int .i32 0]⟩) Tryd.underlying180 rfl (by kernel_rfl) rfl
theorem ty181 : TyI Tryd.prog 181 false [.pointer none] 8 := .mk' (z := .pointer none) Tryd.underlying181 rfl (by kernel_rfl) rfl

end Go.Proofs.YtnmfanjhepepbaaDoor
