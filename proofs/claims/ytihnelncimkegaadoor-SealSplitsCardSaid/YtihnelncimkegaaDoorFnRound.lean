/-
  A walk of a round's body: the small program logic in a round's frame.
-/
import Derived.Test.YtihnelncimkegaaDoorStructs
import Derived.Test.YtihnelncimkegaaDoorFnParts
namespace Go.Proofs.YtihnelncimkegaaDoor
open Go Go.RowKit

def noDefer (o : Oper) : Bool := match o.op with | .defer _ => false | _ => true
def plainOp (o : Oper) : Bool := noDefer o && o.guard.isNone

theorem opIn_of_wp {k n : Nat} {P : Program} {o : Oper} {a : Act} {w : World} {next : Act → World → Prop} {Q : Exit → Act → World → Prop} (hd : noDefer o = true) (h : Oper.wp P o a w next Q) :
    Oper.wpIn (Fence.wide.inRound k) n P o a w next Q := by
  refine ⟨fun _ _ => trivial, ?_⟩
  have hs : o.semAt (Fence.wide.inRound k).round a.eval = execOp a.eval o := Oper.semAt_eq _ _ _ (fun c hc => by simp [noDefer, hc] at hd)
  rw [hs]
  unfold Oper.wp at h
  have hdep : (Fence.wide.inRound k).depth.isSome = true → 1 ≤ n := fun h => by simp [Fence.wide, Fence.inRound] at h
  cases hr : (execOp a.eval o).run P w with
  | halt x w' =>
    rw [hr] at h
    cases x <;> first | exact h | exact h.elim
  | ok r w' =>
    rw [hr] at h
    cases r with
    | value v => exact h
    | skip => exact h
    | defer d => exact h
    | enter f args => exact ⟨hdep, (callsIn_wide (n := n - 1)).2 h⟩
    | row row args =>
      refine ⟨hdep, fun c cs _ => ?_⟩
      obtain ⟨v, w2, hR, hst⟩ := h c cs
      exact ⟨v, w2, hR, stepsIn_wide.2 hst⟩
    | _ => exact h.elim

theorem vreg_soundR {k n : Nat} {P : Program} {ops : Array Oper} {Q : QQ} {w0 : World} {ds : List Deferred} : ∀ (l : List Oper) (D : List Nat) (s : List Value) (w : World), l.all plainOp = true →
    Same w0 w → vreg P ops.toList l D s w.heap Q → wpListIn (Fence.wide.inRound k) n P ops (lift w0 ds Q) l (act s ds) w
  | [], _, s, w, _, hs, hv => ⟨s, rfl, hs, hv⟩
  | ⟨dst, op, ty, pos, after, some (j, want)⟩ :: rest, D, s, w, hp, hs, hv => by simp [plainOp] at hp
  | ⟨dst, op, ty, pos, after, none⟩ :: rest, D, s, w, hp, hs, hv => by
    simp only [List.all_cons, Bool.and_eq_true] at hp
    simp only [vreg_cons, vstep] at hv
    unfold wpListIn
    rw [if_pos (by simp [Region.wanted])]
    refine opIn_of_wp (by have := hp.1; simp only [plainOp, Bool.and_eq_true] at this; exact this.1) ?_
    exact (vop_sound hv).run w rfl ds dst pos after none _ _
      (fun v l w' hw' hk => by rw [act_sput]; rw [ssetO_eq] at hk; exact vreg_soundR rest _ _ _ hp.2 (hs.trans hw') hk)
      (fun c w' hw' hq => ⟨s, rfl, hs.trans hw', hq⟩)

theorem regionR {k n id : Nat} {P : Program} {ops : Array Oper} {Q : QQ} {w : World} {ds : List Deferred} {s : List Value} (hp : ops.toList.all plainOp = true) (hv : vreg P ops.toList ops.toList [] s w.heap Q) :
    (Code.region id ops false).wpIn (Fence.wide.inRound k) n P (lift w ds Q) (act s ds) w :=
  wpIn_region_list (vreg_soundR _ _ _ _ hp (.refl w) hv)

/-- What a call owns lies on where a block that is no cells has turned. -/
theorem Own.turned {B : Base} {L : List Item} {w w' : World} {row : Option Nat} (o : Own B L w.heap) (hg : w.grownBy w' row) (hr : ∀ r, row = some r → B.h.size ≤ r ∧ ∃ x : Obj, w.heap[r]? = some x ∧ x.isCells = false)
    (hc : ∀ x ∈ L ++ B.T, ∀ b, x.fp b → ∃ c t f, w.heap[b]? = some (.cells c t f)) : Own B L w'.heap := by
  have hne : ∀ x ∈ L ++ B.T, ∀ b, x.fp b → some b ≠ row := by
    intro x hx b hb e
    obtain ⟨_, y, hy, hyc⟩ := hr b e.symm
    obtain ⟨c, t, f, hcell⟩ := hc x hx b hb
    rw [hcell] at hy
    injection hy with hy
    subst hy
    simp [Obj.isCells] at hyc
  have keep : ∀ b, b < w.heap.size → some b ≠ row → w'.heap[b]? = w.heap[b]? := fun b hb hn => hg.block b hb (fun e => hn e)
  unfold Own at o ⊢
  refine ⟨⟨Nat.le_trans o.ext.size hg.size, fun b hb => ?_⟩, fun x hx => ?_, o.lo, fun x hx b hb => Nat.lt_of_lt_of_le (o.hi x hx b hb) hg.size, o.dis⟩
  · rw [keep b (Nat.lt_of_lt_of_le hb o.ext.size) (fun e => by have := (hr b e.symm).1; omega)]
    exact o.ext.old b hb
  · exact x.loc _ _ (fun b hb => keep b (o.hi x hx b hb) (hne x hx b hb)) (o.sat x hx)

end Go.Proofs.YtihnelncimkegaaDoor
