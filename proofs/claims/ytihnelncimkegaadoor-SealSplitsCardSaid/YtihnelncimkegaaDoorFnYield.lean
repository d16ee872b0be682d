/-
  The regions of chapter 45's iterator that call yield.
-/
import Derived.Test.YtihnelncimkegaaDoorStructs
import Derived.Test.YtihnelncimkegaaDoorFnStr
import Derived.RangeFuncFrom
namespace Go.Proofs.YtihnelncimkegaaDoor
open Go Go.RowKit

abbrev yv (l : Nat) : Value := .func (.yield l) #[] #[]

theorem wpOpsIn_cons {F : Fence} {n : Nat} {P : Program} {ops : Array Oper} {Q : Exit → Act → World → Prop} {i : Nat} {rest : List Nat} {a : Act} {w : World} {o : Oper} (ho : ops[i]? = some o) (hg : o.guard = none)
    (h : o.wpIn F n P a w (wpOpsIn F n P ops Q rest) Q) : wpOpsIn F n P ops Q (i :: rest) a w := by
  simp only [wpOpsIn, ho]
  rw [if_pos (by simp [Region.wanted, hg])]
  exact h

theorem opIn_value {n : Nat} {P : Program} {dst : Option Tmp} {op : Op} {ty : TypeId} {pos : String} {after : Array Edge} {s : List Value} {ds : List Deferred} {w : World} {v : Value} {next : Act → World → Prop} {Q : Exit → Act → World → Prop}
    (hrun : (execOp (ev s) ⟨none, op, ty, "", #[], none⟩).run P w = .ok (.value v) w) (hn : next (act (sput s dst v) ds) w) : Oper.wpIn Fence.wide n P ⟨dst, op, ty, pos, after, none⟩ (act s ds) w next Q := by
  refine ⟨fun _ _ => trivial, ?_⟩
  show Oper.uponIn Fence.wide n P ⟨dst, op, ty, pos, after, none⟩ (act s ds) next Q ((execOp (act s ds).eval ⟨dst, op, ty, pos, after, none⟩).run P w)
  rw [act_eval, execOp_head, hrun, Oper.uponIn_value, act_sput]
  exact hn

theorem opIn_yield {n : Nat} {P : Program} {dst : Option Tmp} {f x : Operand} {tys : Array TypeId} {ty : TypeId} {pos : String} {after : Array Edge} {s : List Value} {ds : List Deferred} {w : World} {l : Nat} {v : Value} {next : Act → World → Prop} {Q : Exit → Act → World → Prop} {R : Ending → World → Prop}
    (hf : ev s f = yv l) (hx : ev s x = v) (hY : YieldAt Fence.wide (n - 1) P l #[v] w R) (hn : ∀ e w', R e w' → ∃ u, e = .returned u ∧ next (act (sput s dst u) ds) w') :
    Oper.wpIn Fence.wide n P ⟨dst, .call ⟨.value f, ⟨[x]⟩, tys⟩, ty, pos, after, none⟩ (act s ds) w next Q := by
  obtain ⟨fn, tmps, assign, body, hy, hR⟩ := hY
  refine ⟨fun _ _ => trivial, ?_⟩
  show Oper.uponIn Fence.wide n P ⟨dst, .call ⟨.value f, ⟨[x]⟩, tys⟩, ty, pos, after, none⟩ (act s ds) next Q ((execOp (act s ds).eval ⟨dst, .call ⟨.value f, ⟨[x]⟩, tys⟩, ty, pos, after, none⟩).run P w)
  have hrun : (execOp (act s ds).eval ⟨dst, .call ⟨.value f, ⟨[x]⟩, tys⟩, ty, pos, after, none⟩).run P w = .ok (.round l fn tmps assign body) w := by
    rw [act_eval]
    simp [execOp, resolve, invoke, hf, hx, Deferred.ofValue, yv, hy]
  rw [hrun, Oper.uponIn_round]
  refine ⟨fun h => by simp [Fence.wide] at h, hR.mono fun e w' he => ?_⟩
  obtain ⟨u, rfl, hu⟩ := hn e w' he
  show next ((act s ds).put dst u) w'
  rw [act_sput]; exact hu

abbrev sl (l b : Nat) (x2 : Value) (s : List UInt8) (x : Nat → Value) : List Value :=
  [yv l, .pointer (some ⟨b, 0, none⟩), x2, .string ⟨⟨s⟩⟩, x 4, x 5, x 6, x 7, x 8, x 9, x 10, x 11, x 12, x 13, x 14, x 15, x 16, x 17, x 18, x 19, x 20, x 21, x 22]

set_option maxRecDepth 100000 in
theorem yield2 {id : Nat} {t1 t2 t3 t4 t5 : TypeId} {p1 p2 p3 p4 p5 : String} {e1 e2 e3 e4 e5 : Array Edge} {tys : Array TypeId} {l b : Nat} {x2 : Value} {s : List UInt8} {x : Nat → Value} {w : World} {Q : Exit → Act → World → Prop} {R : Ending → World → Prop} (h40 : 40 < s.length)
    (hY : YieldAt Fence.wide 4 Tryd.prog l #[.string ⟨⟨s.take 40⟩⟩] w R)
    (hQ : ∀ e w', R e w' → ∃ bv : Bool, e = .returned (.bool bv) ∧ ∀ x' : Nat → Value, x' 17 = .bool (!bv) → Q .normal (act (sl l b x2 s x') []) w') :
    (Code.region id #[⟨some 13, .move (.tmp 0), t1, p1, e1, none⟩, ⟨some 14, .move (.tmp 3), t2, p2, e2, none⟩, ⟨some 15, .slice 9 (.tmp 14) none (some (.const (.int .i64 40))) none, t3, p3, e3, none⟩,
      ⟨some 16, .call ⟨.value (.tmp 13), #[.tmp 15], tys⟩, t4, p4, e4, none⟩, ⟨some 17, .unOp .not 4 (.tmp 16), t5, p5, e5, none⟩] false).wp Tryd.prog Q (act (sl l b x2 s x) []) w := by
  refine wpIn_wide.1 (wpIn_region (F := Fence.wide) (n := 5) ?_)
  show wpOpsIn _ _ _ _ _ [0, 1, 2, 3, 4] _ _
  refine wpOpsIn_cons rfl rfl (opIn_value (v := yv l) (by simp [execOp, ev, sget]) ?_)
  refine wpOpsIn_cons rfl rfl (opIn_value (v := .string ⟨⟨s⟩⟩) (by simp [execOp, ev, sget, sput]) ?_)
  have hst : StillVC true Tryd.prog (.slice 9 (.tmp 14) none (some (.const (.int .i64 40))) none) t3 (sput (sput (sl l b x2 s x) (some 13) (yv l)) (some 14) (.string ⟨⟨s⟩⟩)) w.heap (fun v _ _ => v = .string ⟨⟨s.take 40⟩⟩) := by
    refine StillVC.sliceS (i := 0) (j := 40) (cs := s) str9 rfl rfl ⟨_, rfl⟩ (by omega) (by omega) (by omega) ?_
    rfl
  obtain ⟨v, _, reads, hre, _, hrun, rfl⟩ := hst.ex
  have hre' := hre rfl
  subst hre'
  refine wpOpsIn_cons rfl rfl (opIn_value (hrun w (by simp)) ?_)
  refine wpOpsIn_cons rfl rfl (opIn_yield (l := l) (v := .string ⟨⟨s.take 40⟩⟩) rfl rfl hY fun e w' he => ?_)
  obtain ⟨bv, rfl, hq⟩ := hQ e w' he
  refine ⟨_, rfl, ?_⟩
  refine wpOpsIn_cons rfl rfl (opIn_value (v := .bool (!bv)) (by simp [execOp, ev, sget, sput, Op.unary]) ?_)
  show Q .normal _ w'
  exact hq (fun k => match k with | 13 => yv l | 14 => .string ⟨⟨s⟩⟩ | 15 => .string ⟨⟨s.take 40⟩⟩ | 16 => .bool bv | 17 => .bool (!bv) | k => x k) rfl

set_option maxRecDepth 100000 in
theorem yield4 {id : Nat} {t1 t2 t4 : TypeId} {p1 p2 p4 : String} {e1 e2 e4 : Array Edge} {tys : Array TypeId} {l b : Nat} {x2 : Value} {s : List UInt8} {x : Nat → Value} {w : World} {Q : Exit → Act → World → Prop} {R : Ending → World → Prop}
    (hY : YieldAt Fence.wide 4 Tryd.prog l #[.string ⟨⟨s⟩⟩] w R)
    (hQ : ∀ e w', R e w' → ∃ v, e = .returned v ∧ ∀ x' : Nat → Value, Q .normal (act (sl l b x2 s x') []) w') :
    (Code.region id #[⟨some 20, .move (.tmp 0), t1, p1, e1, none⟩, ⟨some 21, .move (.tmp 3), t2, p2, e2, none⟩,
      ⟨some 22, .call ⟨.value (.tmp 20), #[.tmp 21], tys⟩, t4, p4, e4, none⟩] false).wp Tryd.prog Q (act (sl l b x2 s x) []) w := by
  refine wpIn_wide.1 (wpIn_region (F := Fence.wide) (n := 5) ?_)
  show wpOpsIn _ _ _ _ _ [0, 1, 2] _ _
  refine wpOpsIn_cons rfl rfl (opIn_value (v := yv l) (by simp [execOp, ev, sget]) ?_)
  refine wpOpsIn_cons rfl rfl (opIn_value (v := .string ⟨⟨s⟩⟩) (by simp [execOp, ev, sget, sput]) ?_)
  refine wpOpsIn_cons rfl rfl (opIn_yield (l := l) (v := .string ⟨⟨s⟩⟩) rfl rfl hY fun e w' he => ?_)
  obtain ⟨v, rfl, hq⟩ := hQ e w' he
  refine ⟨v, rfl, ?_⟩
  show Q .normal _ w'
  exact hq (fun k => match k with | 20 => yv l | 21 => .string ⟨⟨s⟩⟩ | 22 => v | k => x k)

end Go.Proofs.YtihnelncimkegaaDoor
