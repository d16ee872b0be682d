/-
  More rules: pointers that are tested for nil, interfaces made and asserted, panics, arrays of one-cell elements, three results in memory.
-/
import Derived.Test.YtfjajkgfgigodaaGreatDoorVcDefer
namespace Go.Proofs.YtfjajkgfgigodaaGreatDoor
open Go

section
variable {P : Program} {ty : TypeId} {s : List Value} {h : Heap} {K : KK} {Q : QQ} {pr : Bool}

theorem StillVC.nilCheck {x : Operand} {a : Addr} (hx : ev s x = .pointer (some a)) (hk : K (.pointer (some a)) false h) : StillVC pr P (.nilCheck x) ty s h K :=
  .pure' _ false (fun w => by simp [execOp, hx]) hk

/-- What a computation checks of a type that is no interface. -/
def concreteB (P : Program) (t : TypeId) : Bool :=
  match P.underlying t with
  | some (.interface _) => false
  | some _ => true
  | none => false

theorem StillVC.mkIface {t : TypeId} {x : Operand} {v : Value} (hb : concreteB P t = true) (hx : ev s x = v) (hk : K (.iface t v) false h) : StillVC pr P (.makeInterface t x) ty s h K := by
  refine .pure' _ false (fun w => ?_) hk
  unfold concreteB at hb
  split at hb
  · cases hb
  · rename_i d hd hne
    simp only [execOp, hx, Instr.makeInterface, Sem.run_bind, run_underlying hne, Result.andThen_ok]
    cases d <;> first | (exact absurd rfl (hd _)) | simp
  · cases hb

theorem StillVC.assertOk {t tx : TypeId} {x : Operand} {v : Value} (hb : concreteB P t = true) (hx : ev s x = .iface t v) (hk : K (.tuple ⟨[v, .bool true]⟩) false h) : StillVC pr P (.typeAssert x tx t true) ty s h K := by
  refine .pure' _ false (fun w => ?_) hk
  unfold concreteB at hb
  split at hb
  · cases hb
  · rename_i d hd hne
    simp only [execOp, hx, Instr.typeAssert, Sem.run_bind, run_underlying hne, Result.andThen_ok]
    cases d <;> first | (exact absurd rfl (hd _)) | simp
  · cases hb

theorem RunVC.panicI {x : Operand} {t : TypeId} {v : Value} (hx : ev s x = .iface t v) (hq : Q (.panic [{ v := .iface t v, recovered := false }]) s h) : RunVC P (.panic x) ty s h K Q :=
  .panics fun w hw => ⟨.iface t v, w, by simp [execOp, hx, Instr.panic, goPanic], .refl w, by rw [hw]; exact hq⟩

/-- An array of n elements of one cell. -/
structure ArrT (P : Program) (t e : TypeId) (n : Nat) (z : Value) (by_ : Nat) : Prop where
  arr : P.underlying t = some (.array n e)
  el : TyI P e false [z] by_

theorem StillVC.indexA {t e : TypeId} {n by_ : Nat} {z : Value} {x i : Operand} {cs : List Value} {k : IntKind} {m : Int} {u : Value} (hT : ArrT P t e n z by_) (hx : ev s x = .agg ⟨cs⟩) (hi : ev s i = .int k m) (h0 : 0 ≤ m) (h1 : m < n) (hu : cs[m.toNat]? = some u) (hk : K u false h) :
    StillVC pr P (.index t x i) ty s h K := by
  refine .pure' _ false (fun w => ?_) hk
  simp [execOp, hx, hi, Instr.index, run_underlying hT.arr, h0, h1, hT.el.sizeOf, part, hT.el.isAgg, hu, asIntOf]

/-- An array, all of whose places are given in order. -/
theorem StillVC.buildA {t e : TypeId} {n by_ byA : Nat} {z : Value} {zero : List Value} {parts : List (Nat × Operand)} (hT : ArrT P t e n z by_) (hZ : TyI P t true zero byA) (hzl : zero.length = n)
    (hp : parts.map (·.1) = List.range' 0 parts.length) (hn : parts.length = n) (hk : evsK s (parts.map (·.2)) fun vs => vs.all (fun u => u.oneCell') = true ∧ K (.agg ⟨vs⟩) false h) : StillVC pr P (.build t ⟨parts⟩) ty s h K := by
  rw [evsK_eq] at hk
  obtain ⟨h1, hk⟩ := hk
  refine .pure' _ false (fun w => ?_) hk
  obtain ⟨inf, z', hi, _, hz, hc, _⟩ := hZ.info
  have hzr := zipIdx_of_range parts s 0 hp
  have hus : ∀ u ∈ (parts.map (·.2)).map (ev s), u.cells.toList.length = 1 ∧ u.cells.toList = [u] := by
    intro u hu
    have := List.all_eq_true.1 h1 u hu
    cases u <;> simp [Value.oneCell'] at this <;> exact ⟨rfl, rfl⟩
  have hul : ((parts.map (·.2)).map (ev s)).length = n := by simpa using hn
  generalize (parts.map (·.2)).map (ev s) = us at *
  have hflat : us.flatMap (fun u => u.cells.toList) = us := by
    clear hzr hul hk h1
    induction us with
    | nil => rfl
    | cons u us ih => rw [List.flatMap_cons, (hus u (by simp)).2, ih (fun v hv => hus v (by simp [hv]))]; rfl
  have hfill := fill_rows 1 us 0 zero (fun u hu => (hus u hu).1) (by omega)
  rw [hflat, Nat.zero_add, hul, Nat.zero_mul, List.take_zero, List.nil_append, Nat.mul_one, List.drop_of_length_le (by omega), List.append_nil] at hfill
  simp only [Nat.mul_one] at hfill
  have hparts : ((⟨parts⟩ : Array (Nat × Operand)).map fun x => match x with | (i, x) => (i, ev s x)).toList = us.zipIdx.map (fun p => (p.2, p.1)) := by
    rw [← hzr]; simp
  have key : (Instr.build t ((⟨parts⟩ : Array (Nat × Operand)).map fun x => match x with | (i, x) => (i, ev s x))).run P w = .ok (.agg us.toArray) w := by
    unfold Instr.build
    simp only [Sem.run_bind, zeroValue, typeInfo, run_program, hi, hz, Sem.run_pure, Result.andThen_ok, run_underlying hT.arr, hT.el.sizeOf, hc, hparts]
    simp [hfill]
  simp only [List.map_toArray] at key
  simp [execOp, key]

theorem results_cells3 {fn : Func} {a b c ta tb tc : Nat} {za zb zc : List Value} {ya yb yc pa pb pc : Nat} {u v x : Value} (hf : fn.results = #[.cell a ta, .cell b tb, .cell c tc])
    (hA : TyI P ta false za ya) (hB : TyI P tb false zb yb) (hC : TyI P tc false zc yc) (ea : sget s a = .pointer (some ⟨pa, 0, none⟩)) (eb : sget s b = .pointer (some ⟨pb, 0, none⟩)) (ec : sget s c = .pointer (some ⟨pc, 0, none⟩))
    (ca : cellAt h ⟨pa, 0, none⟩ = some u) (cb : cellAt h ⟨pb, 0, none⟩ = some v) (cc : cellAt h ⟨pc, 0, none⟩ = some x) (w : World) (hw : w.heap = h) :
    (results fn s.toArray).run P w = .ok (.tuple ⟨[u, v, x]⟩) w := by
  have e1 : s.toArray.getD a undef = .pointer (some ⟨pa, 0, none⟩) := by rw [← ea, ← sget_getD]; simp
  have e2 : s.toArray.getD b undef = .pointer (some ⟨pb, 0, none⟩) := by rw [← eb, ← sget_getD]; simp
  have e3 : s.toArray.getD c undef = .pointer (some ⟨pc, 0, none⟩) := by rw [← ec, ← sget_getD]; simp
  simp only [Array.getD_eq_getD_getElem?, List.getElem?_toArray] at e1 e2 e3
  subst hw
  rw [← cellAt_eq] at ca cb cc
  simp [results, hf, e1, e2, e3, asAddr, loadVar, hA.isAgg, hB.isAgg, hC.isAgg, run_load, ca, cb, cc]

/-- Three results of one cell each, in memory. -/
theorem RetVC.cell3 {fn : Func} {R : Value → Heap → Prop} {a b c ta tb tc : Nat} {za zb zc : List Value} {ya yb yc pa pb pc : Nat} {u v x : Value} (hf : fn.results = #[.cell a ta, .cell b tb, .cell c tc])
    (hA : TyI P ta false za ya) (hB : TyI P tb false zb yb) (hC : TyI P tc false zc yc) (ea : sget s a = .pointer (some ⟨pa, 0, none⟩)) (eb : sget s b = .pointer (some ⟨pb, 0, none⟩)) (ec : sget s c = .pointer (some ⟨pc, 0, none⟩))
    (ca : cellAt h ⟨pa, 0, none⟩ = some u) (cb : cellAt h ⟨pb, 0, none⟩ = some v) (cc : cellAt h ⟨pc, 0, none⟩ = some x) (hr : R (.tuple ⟨[u, v, x]⟩) h) : RetVC P fn s h R where
  ex := ⟨_, fun w hw => results_cells3 hf hA hB hC ea eb ec ca cb cc w hw, hr⟩

end
end Go.Proofs.YtfjajkgfgigodaaGreatDoor
