/-
  The statement ValueShifts of chapter 2, walked.
-/
import Derived.Test.YtffpaippmfafjaaGreatDoorStructs
import Derived.Test.YtffpaippmfafjaaGreatDoorFnHeadV
namespace Go.Proofs.YtffpaippmfafjaaGreatDoor
open Go

set_option maxHeartbeats 8000000 in
set_option maxRecDepth 100000 in
theorem shifts_spec (a b op add sh : Int) (h : Heap) (ha : -9223372036854775808 ≤ a ∧ a ≤ 9223372036854775807) (hb : -9223372036854775808 ≤ b ∧ b ≤ 9223372036854775807) (hadd : -9223372036854775808 ≤ add ∧ add ≤ 9223372036854775807) (hsh : -9223372036854775808 ≤ sh ∧ sh ≤ 9223372036854775807) (hT : TabH h) (hV : VarH h) :
    SpecR Tryz.prog 8 [.int .i64 a, .int .i64 b, .int .i64 op, .int .i64 add, .int .i64 sh] h fun v h' => v = .bool true ∧ Own h [] h' := by
  refine Spec.enter Tryz.func8 rfl Tryz.ntmps8 (by kernel_rfl) ?_
  have o0 := Own.refl h
  refine CallVC.ret (head_spec _ (hT.ext (Own.ext (by assumption))) (hV.ext (Own.ext (by assumption)))) ?_
  rintro _ h1 ⟨rfl, oc⟩
  have p1 := oc.thenE (by assumption)
  clear oc
  have tm : ∀ x : Int, -400000000 ≤ x.tmod 400000001 ∧ x.tmod 400000001 ≤ 400000000 := fun x => by have h1 := Int.tmod_lt_of_pos x (b := 400000001) (by decide); have h2 := Int.lt_tmod_of_pos x (b := 400000001) (by decide); omega
  refine StillVC.run (StillVC.rem rfl rfl (by decide) ?_)
  refine StillVC.run (StillVC.rem rfl rfl (by decide) ?_)
  refine StillVC.run (StillVC.rem rfl rfl (by decide) ?_)
  refine StillVC.run (StillVC.rem rfl rfl (by decide) ?_)
  have ta := tm a
  have tb := tm b
  have td := tm add
  have ts := tm sh
  generalize a.tmod 400000001 = a at *
  generalize b.tmod 400000001 = b at *
  generalize add.tmod 400000001 = add at *
  generalize sh.tmod 400000001 = sh at *
  refine CallVC.ret (mkNumber_spec (a) _) ?_
  rintro _ h30 ⟨rfl, oc⟩
  have p30 := oc.thenE (by assumption)
  clear oc
  refine CallVC.ret (mkNumber_spec (b) _) ?_
  rintro _ h40 ⟨rfl, oc⟩
  have p40 := oc.thenE (by assumption)
  clear oc
  refine CallVC.ret (test_spec 2 (a) [] op 2 (b) [] (add) _ (by decide) (by decide)) ?_
  rintro _ h50 ⟨rfl, oc⟩
  have p50 := oc.thenE (by assumption)
  clear oc
  rw [test_num (by omega) (by omega)]
  refine Ar.i64 (by omega) (by omega) ?_
  refine CallVC.ret (mkNumber_spec (a + sh) _) ?_
  rintro _ h60 ⟨rfl, oc⟩
  have p60 := oc.thenE (by assumption)
  clear oc
  refine Ar.i64 (by omega) (by omega) ?_
  refine CallVC.ret (mkNumber_spec (b + sh) _) ?_
  rintro _ h70 ⟨rfl, oc⟩
  have p70 := oc.thenE (by assumption)
  clear oc
  refine CallVC.ret (test_spec 2 (a + sh) [] op 2 (b + sh) [] (add) _ (by decide) (by decide)) ?_
  rintro _ h80 ⟨rfl, oc⟩
  have p80 := oc.thenE (by assumption)
  clear oc
  rw [test_num (by omega) (by omega)]
  rw [show a + sh - (b + sh) = a - b by omega]
  refine StillVC.run (StillVC.neB bool4 rfl rfl ?_)
  refine Br.ndec (fun hc => absurd (by first | omega | assumption | decide | exact rfl) hc) (fun c83 => ?_)
  refine CallVC.ret (mkNumber_spec (a) _) ?_
  rintro _ h90 ⟨rfl, oc⟩
  have p90 := oc.thenE (by assumption)
  clear oc
  refine Ar.i64 (by omega) (by omega) ?_
  refine CallVC.ret (mkNumber_spec (b + add) _) ?_
  rintro _ h100 ⟨rfl, oc⟩
  have p100 := oc.thenE (by assumption)
  clear oc
  refine CallVC.ret (test_spec 2 (a) [] op 2 (b + add) [] (0) _ (by decide) (by decide)) ?_
  rintro _ h110 ⟨rfl, oc⟩
  have p110 := oc.thenE (by assumption)
  clear oc
  rw [test_num (by omega) (by omega)]
  rw [op_shift, show opB op (cmpI a (b + add)) = opB op (cmpI (a - b) add) from by have h1 := cmpI_cases a (b + add); have h2 := cmpI_cases (a - b) add; rw [show cmpI a (b + add) = cmpI (a - b) add by omega]]
  refine StillVC.run (StillVC.neB bool4 rfl rfl ?_)
  refine Br.ndec (fun hc => absurd (by first | omega | assumption | decide | exact rfl) hc) (fun c113 => ?_)
  refine Br.tt ?_
  refine CallVC.ret (mkNumber_spec (a) _) ?_
  rintro _ h120 ⟨rfl, oc⟩
  have p120 := oc.thenE (by assumption)
  clear oc
  refine CallVC.ret (mkNumber_spec (b) _) ?_
  rintro _ h130 ⟨rfl, oc⟩
  have p130 := oc.thenE (by assumption)
  clear oc
  refine CallVC.ret (test_spec 2 (a) [] 3 2 (b) [] (add) _ (by decide) (by decide)) ?_
  rintro _ h140 ⟨rfl, oc⟩
  have p140 := oc.thenE (by assumption)
  clear oc
  rw [test_num (by omega) (by omega)]
  refine CallVC.ret (mkNumber_spec (a) _) ?_
  rintro _ h150 ⟨rfl, oc⟩
  have p150 := oc.thenE (by assumption)
  clear oc
  refine CallVC.ret (mkNumber_spec (b) _) ?_
  rintro _ h160 ⟨rfl, oc⟩
  have p160 := oc.thenE (by assumption)
  clear oc
  refine Ar.i64 (by omega) (by omega) ?_
  refine CallVC.ret (test_spec 2 (a) [] 4 2 (b) [] (add - 1) _ (by decide) (by decide)) ?_
  rintro _ h170 ⟨rfl, oc⟩
  have p170 := oc.thenE (by assumption)
  clear oc
  rw [test_num (by omega) (by omega)]
  rw [← op_less_most]
  refine StillVC.run (StillVC.eqB bool4 rfl rfl ?_)
  refine RetVC.one rfl ?_
  exact ⟨by simp, Own.sel (by assumption) [] rfl⟩

end Go.Proofs.YtffpaippmfafjaaGreatDoor
