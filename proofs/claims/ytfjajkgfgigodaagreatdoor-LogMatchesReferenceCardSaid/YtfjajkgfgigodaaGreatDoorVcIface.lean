/-
  More rules: an interface's value against nil.
-/
import Derived.Test.YtfjajkgfgigodaaGreatDoorVcMem4
import Derived.WideLaws
namespace Go.Proofs.YtfjajkgfgigodaaGreatDoor
open Go

/-- Is this interface's value nil? -/
def nilI : Value → Option Bool
  | .nilIface => some true
  | .iface _ _ => some false
  | _ => none

section
variable {P : Program} {ty : TypeId} {s : List Value} {h : Heap} {K : KK} {pr : Bool}

theorem StillVC.eqI {t t' : TypeId} {x : Operand} {b : Bool} (hI : P.underlying t = some (.interface (P.methodsAt t))) (hx : nilI (ev s x) = some b) (hk : K (.bool b) false h) : StillVC pr P (.binOp .eql t x (.const .nilIface) t') ty s h K := by
  have e2 : ev s (.const .nilIface) = .nilIface := rfl
  refine .pure' (.bool b) false (fun w => ?_) hk
  cases hv : ev s x with
  | nilIface =>
    rw [hv] at hx; cases hx
    simp [execOp, hv, e2, eqGuard_nil_constR, run_eql_nil_nil _ t hI]
  | iface d u =>
    rw [hv] at hx; cases hx
    simp [execOp, hv, e2, eqGuard_at_iface, run_eql_held_nil _ t d u hI]
  | _ => rw [hv] at hx; cases hx

theorem StillVC.neI {t t' : TypeId} {x : Operand} {b : Bool} (hI : P.underlying t = some (.interface (P.methodsAt t))) (hx : nilI (ev s x) = some b) (hk : K (.bool (!b)) false h) : StillVC pr P (.binOp .neq t x (.const .nilIface) t') ty s h K := by
  have e2 : ev s (.const .nilIface) = .nilIface := rfl
  refine .pure' (.bool (!b)) false (fun w => ?_) hk
  cases hv : ev s x with
  | nilIface =>
    rw [hv] at hx; cases hx
    simp [execOp, hv, e2, eqGuard_nil_constR, run_neq_nil_nil _ t hI]
  | iface d u =>
    rw [hv] at hx; cases hx
    simp [execOp, hv, e2, eqGuard_at_iface, run_neq_held_nil _ t d u hI]
  | _ => rw [hv] at hx; cases hx

/-- Where two ways meet again, and what is owned is as before. -/
theorem Br.joinO {t : Bool} {A B : Code} {X Y : Prop} {N : List Value → Heap → Prop} {Q : QQ} {h0 : Base} {L : List Item} (asg : List Nat) (o : Own h0 L h)
    (hX : X = vcode P A (onN N Q) s h) (hY : Y = vcode P B (onN N Q) s h)
    (hab : Own h0 L h → Br t (vcode P A (onN (fun s' h' => mask asg 0 s' = mask asg 0 s ∧ Own h0 L h') Q) s h) (vcode P B (onN (fun s' h' => mask asg 0 s' = mask asg 0 s ∧ Own h0 L h') Q) s h))
    (hr : ∀ (junk : Nat → Value) (h' : Heap), Own h0 L h' → havocK asg [] [] junk 0 s fun s1 => N s1 h') :
    Br t X Y A B :=
  Br.join asg [] (fun _ h' => Own h0 L h') hX hY (hab o) (fun vs junk h' hI => by
    have := hr junk h' hI
    rw [havocK_eq] at this ⊢
    have e : ∀ (l : List Value) (k : Nat), havoc asg [] vs junk k l = havoc asg [] [] junk k l := by
      intro l
      induction l with
      | nil => intro k; rfl
      | cons v l ih => intro k; simp only [havoc, ih, live1]
    rw [e]
    exact this)

/- ONE RESULT IN MEMORY -/
theorem results_cell {fn : Func} {a t : TypeId} {h0 : Base} {L : List Item} (hf : fn.results = #[.cell a t]) {zero : List Value} {by_ : Nat} {b : Nat} {vs : List Value} {t' : TypeId} (o : Own h0 L h) (k : Nat) (hk : L[k]? = some (box b vs t'))
    (hT : TyI P t true zero by_) (hl : vs.length = zero.length) (ha : sget s a = .pointer (some ⟨b, 0, none⟩)) (w : World) (hw : w.heap = h) :
    (results fn s.toArray).run P w = .ok (.agg ⟨vs⟩) w := by
  have hc := run_loadCellsFrom (P := P) (w := w) (a := ⟨b, 0, none⟩) vs 0 #[] (fun j hj => by
    rw [Nat.zero_add, Addr.add_lit, Nat.zero_add, cellAt_eq, hw]; exact o.cellB k hk j)
  have e1 : s.toArray.getD a undef = .pointer (some ⟨b, 0, none⟩) := by rw [← ha, ← sget_getD]; simp
  simp only [Array.getD_eq_getD_getElem?, List.getElem?_toArray] at e1
  simp [results, hf, e1, asAddr, loadVar, hT.isAgg, hT.sizeOf, ← hl, loadCells, hc]

/-- A struct result that lies in a box of the call's own. -/
theorem RetVC.cell1 {fn : Func} {a t : TypeId} {R : Value → Heap → Prop} {h0 : Base} {L : List Item} (hf : fn.results = #[.cell a t]) {zero : List Value} {by_ : Nat} {b : Nat} {vs : List Value} {t' : TypeId} (o : Own h0 L h) (k : Nat) (hk : L[k]? = some (box b vs t'))
    (hT : TyI P t true zero by_) (hl : vs.length = zero.length) (ha : sget s a = .pointer (some ⟨b, 0, none⟩)) (hr : R (.agg ⟨vs⟩) h) : RetVC P fn s h R where
  ex := ⟨_, fun w hw => results_cell hf o k hk hT hl ha w hw, hr⟩

end
end Go.Proofs.YtfjajkgfgigodaaGreatDoor
