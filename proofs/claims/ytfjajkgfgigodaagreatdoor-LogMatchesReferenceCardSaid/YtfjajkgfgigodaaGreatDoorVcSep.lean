/-
  Items that are put together into one, and taken apart again.
-/
import Derived.Test.YtfjajkgfgigodaaGreatDoorVcPtr
import Derived.Test.YtfjajkgfgigodaaGreatDoorVcMap
import Derived.Test.YtfjajkgfgigodaaGreatDoorVcDrawP
import Derived.Test.YtfjajkgfgigodaaGreatDoorVcFork
namespace Go.Proofs.YtfjajkgfgigodaaGreatDoor
open Go

def sepI (L : List Item) : Item where
  fp b := ∃ x, x ∈ L ∧ x.fp b
  sat h := (∀ x ∈ L, x.sat h) ∧ L.Pairwise fun (x y : Item) => ∀ b : Nat, x.fp b → ¬ y.fp b
  loc h h' e := fun k => ⟨fun x hx => x.loc h h' (fun b hb => e b ⟨x, hx, hb⟩) (k.1 x hx), k.2⟩

theorem OwnR.sep {h0 h : Heap} {L M : List Item} (o : OwnR h0 (L ++ M) h) : OwnR h0 (sepI L :: M) h where
  ext := o.ext
  sat z hz := by
    rcases List.mem_cons.1 hz with rfl | hz
    · exact ⟨fun x hx => o.sat x (List.mem_append_left _ hx), (List.pairwise_append.1 o.dis).1⟩
    · exact o.sat z (List.mem_append_right _ hz)
  lo z hz b hb := by
    rcases List.mem_cons.1 hz with rfl | hz
    · obtain ⟨x, hx, hb⟩ := hb
      exact o.lo x (List.mem_append_left _ hx) b hb
    · exact o.lo z (List.mem_append_right _ hz) b hb
  hi z hz b hb := by
    rcases List.mem_cons.1 hz with rfl | hz
    · obtain ⟨x, hx, hb⟩ := hb
      exact o.hi x (List.mem_append_left _ hx) b hb
    · exact o.hi z (List.mem_append_right _ hz) b hb
  dis := by
    obtain ⟨_, h2, h3⟩ := List.pairwise_append.1 o.dis
    refine List.pairwise_cons.2 ⟨fun z hz b hb => ?_, h2⟩
    obtain ⟨x, hx, hb⟩ := hb
    exact h3 x hx z hz b hb

theorem OwnR.unsep {h0 h : Heap} {L M : List Item} (o : OwnR h0 (sepI L :: M) h) : OwnR h0 (L ++ M) h where
  ext := o.ext
  sat z hz := by
    rcases List.mem_append.1 hz with hz | hz
    · exact (o.sat (sepI L) (by simp)).1 z hz
    · exact o.sat z (by simp [hz])
  lo z hz b hb := by
    rcases List.mem_append.1 hz with hz | hz
    · exact o.lo (sepI L) (by simp) b ⟨z, hz, hb⟩
    · exact o.lo z (by simp [hz]) b hb
  hi z hz b hb := by
    rcases List.mem_append.1 hz with hz | hz
    · exact o.hi (sepI L) (by simp) b ⟨z, hz, hb⟩
    · exact o.hi z (by simp [hz]) b hb
  dis := by
    obtain ⟨h1, h2⟩ := List.pairwise_cons.1 o.dis
    exact List.pairwise_append.2 ⟨(o.sat (sepI L) (by simp)).2, h2, fun x hx y hy b hb => h1 y hy b ⟨x, hx, hb⟩⟩

section
variable {B : Base} {h : Heap} {L M : List Item}

theorem Own.sep (o : Own B (L ++ M) h) : Own B (sepI L :: M) h := by
  unfold Own at o ⊢
  rw [List.append_assoc] at o
  exact OwnR.sep o

theorem Own.unsep (o : Own B (sepI L :: M) h) : Own B (L ++ M) h := by
  unfold Own at o ⊢
  rw [List.append_assoc]
  exact OwnR.unsep o

theorem Own.sep1 (o : Own B L h) : Own B [sepI L] h := Own.sep (M := []) (by simpa using o)
theorem Own.unsep1 (o : Own B [sepI L] h) : Own B L h := by simpa using Own.unsep o

theorem Reads.sep {I : Item} {sz n : Nat} {v : Value} {xs : List Value} (hI : I ∈ L) (r : Reads I sz v n xs) : Reads (sepI L) sz v n xs := fun h s => r h (s.1 I hI)

end

section
variable {P : Program} {s : List Value} {h : Heap}

theorem results_cellS {fn : Func} {a t : TypeId} {z : List Value} {y p : Nat} {u : Value} (hf : fn.results = #[.cell a t]) (hB : TyI P t false z y) (ea : sget s a = .pointer (some ⟨p, 0, none⟩))
    (ca : cellAt h ⟨p, 0, none⟩ = some u) (w : World) (hw : w.heap = h) : (results fn s.toArray).run P w = .ok u w := by
  subst hw
  have e1 : s.toArray.getD a undef = .pointer (some ⟨p, 0, none⟩) := by rw [← ea, ← sget_getD]; simp
  simp only [Array.getD_eq_getD_getElem?, List.getElem?_toArray] at e1
  rw [← cellAt_eq] at ca
  simp [results, hf, e1, asAddr, loadVar, hB.isAgg, run_load, ca]

/-- One result of one cell, in memory. -/
theorem RetVC.cellS {fn : Func} {R : Value → Heap → Prop} {a t : TypeId} {z : List Value} {y p : Nat} {u : Value} (hf : fn.results = #[.cell a t]) (hB : TyI P t false z y) (ea : sget s a = .pointer (some ⟨p, 0, none⟩))
    (ca : cellAt h ⟨p, 0, none⟩ = some u) (hr : R u h) : RetVC P fn s h R where
  ex := ⟨_, fun w hw => results_cellS hf hB ea ca w hw, hr⟩

/-- A struct that is loaded where loads and stores come in any order. -/
theorem StillVCA.loadB {B : Base} {L : List Item} {t : TypeId} {x : Operand} {zero : List Value} {by_ : Nat} {b : Nat} {vs : List Value} {t' ty : TypeId} {K : KK} (o : Own B L h) (k : Nat) (hk : L[k]? = some (box b vs t')) (hT : TyI P t true zero by_)
    (hx : ev s x = .pointer (some ⟨b, 0, none⟩)) (hl : vs.length = zero.length) (hK : K (.agg ⟨vs⟩) false h) : StillVCA (fun a => a.block = b) P (.load t x) ty s h K :=
  ⟨.agg ⟨vs⟩, false, vs.zipIdx.map fun p => (⟨b, p.2, none⟩, p.1), fun r hr => by
    obtain ⟨p, hp, rfl⟩ := List.mem_map.1 hr
    have := List.mem_zipIdx_iff_getElem?.1 hp
    exact (o.cellB k hk p.2).trans this, fun r hr => by
    obtain ⟨p, hp, rfl⟩ := List.mem_map.1 hr
    rfl, fun w hw => by
    have hc := run_loadCellsFrom (P := P) (w := w) (a := ⟨b, 0, none⟩) vs 0 #[] (fun j hj => by
      rw [Nat.zero_add, Addr.add_lit, Nat.zero_add]
      rw [List.getElem?_eq_getElem hj]
      exact hw (⟨b, j, none⟩, vs[j]) (List.mem_map.2 ⟨(vs[j], j), List.mem_zipIdx_iff_getElem?.2 (List.getElem?_eq_getElem hj), rfl⟩))
    simp [execOp, hx, Instr.loadAt, Instr.sureAddr, loadVar, hT.isAgg, hT.sizeOf, ← hl, loadCells, hc], hK⟩

end
theorem Own.tail {B : Base} {x : Item} {L : List Item} {h : Heap} (o : Own B (x :: L) h) : Own B L h where
  ext := OwnR.ext o
  sat z hz := OwnR.sat o z (List.mem_cons_of_mem _ hz)
  lo z hz := OwnR.lo o z (List.mem_cons_of_mem _ hz)
  hi z hz := OwnR.hi o z (List.mem_cons_of_mem _ hz)
  dis := (List.pairwise_cons.1 (OwnR.dis o)).2

theorem Own.permL {B : Base} {L M : List Item} {h : Heap} (o : Own B L h) (p : L.Perm M) : Own B M h := OwnR.perm o (p.append_right _)

/- REGIONS THAT DRAW THEIR ORDER, WHERE WHAT IS NEW MAY BE WRITTEN -/
/-- Nothing that was there at the beginning is changed. -/
def KeptFrom (m : Heap) (a b : Heap) : Prop := a = b ∨ (Ext m a ∧ Ext m b)

theorem KeptFrom.cell {m a b : Heap} (e : KeptFrom m a b) {p : Addr} {v : Value} (hp : p.block < m.size) (hc : cellAt a p = some v) : cellAt b p = some v := by
  rcases e with rfl | ⟨e1, e2⟩
  · exact hc
  · rw [cellAt_congr (e2.old _ hp)]
    rw [cellAt_congr (e1.old _ hp)] at hc
    exact hc

theorem DrawVC.introMT {P : Program} {ops : Array Oper} {Q : QQ} {id : Nat} {s : List Value} {h : Heap}
    (st0 stR tails : List Nat) (t : OT) (hm : P.follows .mixedOrders = true) (hok : (Region.noSelect ops && tailsOk ops stR tails && ordOkT ops st0 stR t (Array.replicate ops.size false)) = true) (hlen : t.size = ops.size)
    (hp : ∀ c s s' h, Q (.panic c) s h → Q (.panic c) s' h) (hv : vordT (KeptFrom h) (fun a => a.block < h.size) P ops.toList st0 stR tails t [] s h Q) : DrawVC P id ops s h Q where
  wp w0 w ds hw hs := by
    subst hw
    simp only [Bool.and_eq_true] at hok
    refine wp_region_any hm (wpEG_any (E := KeptFrom w.heap) (fl := fun j => !mem tails j) _ _ _ _ ?_)
    have hcl : Closed ops (Array.replicate ops.size false) := by
      intro j hj
      exfalso
      by_cases hlt : j < ops.size <;> simp [hlt] at hj
    have := vordT_sound (P := P) (w0 := w0) (ds := ds) (E := KeptFrom w.heap) (A := fun a => a.block < w.heap.size) (fun _ => .inl rfl) (fun h h' a v he ha hc => he.cell ha hc) hp hok.1.1 hok.1.2 t [] s { w with drawn := w.drawn + 1 } _ (hs.trans ⟨rfl, rfl, rfl, by simp⟩) hcl hok.2 hv
    rw [hlen] at this
    exact this

theorem StillVCA.loadC {P : Program} {ty : TypeId} {s : List Value} {h : Heap} {K : KK} {t : TypeId} {x : Operand} {zero : List Value} {by_ : Nat} {a : Addr} {v : Value} (hT : TyI P t false zero by_) (hx : ev s x = .pointer (some a)) (hc : cellAt h a = some v) (hk : K v false h) : StillVCA (fun a => a.block < h.size) P (.load t x) ty s h K :=
  .load1 hT hx (cellAt_lt hc) hc hk

/- ENDS -/
/-- A function returns, or it panics. -/
def Ends (Post : Value → Heap → Prop) (Pan : List PanicEntry → Heap → Prop) : Ending → Heap → Prop
  | .returned v, h => Post v h
  | .panicked c, h => Pan c h
  | .outgrown, _ => False

theorem CallVC.ends {P : Program} {g : FuncId} {args s : List Value} {h : Heap} {K : KK} {Q : QQ} {Post : Value → Heap → Prop} {Pan : List PanicEntry → Heap → Prop}
    (sp : Spec P g args h (Ends Post Pan)) (hk : ∀ v h', Post v h' → K v false h') (hq : ∀ c h', Pan c h' → Q (.panic c) s h') : CallVC P g args s h K Q where
  spec := ⟨_, .inl sp, hk, hq, fun _ h => h.elim⟩

theorem Ends.mono {P P' : Value → Heap → Prop} {C C' : List PanicEntry → Heap → Prop} (h1 : ∀ v h, P v h → P' v h) (h2 : ∀ c h, C c h → C' c h) (e : Ending) (h : Heap) (he : Ends P C e h) : Ends P' C' e h := by
  cases e with
  | returned v => exact h1 v h he
  | panicked c => exact h2 c h he
  | outgrown => exact he.elim

end Go.Proofs.YtfjajkgfgigodaaGreatDoor
