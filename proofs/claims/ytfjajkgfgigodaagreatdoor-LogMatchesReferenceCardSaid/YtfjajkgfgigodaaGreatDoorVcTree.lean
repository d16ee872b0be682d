/-
  What an item lets be read, whatever the heap; items that are joined: for trees that a program builds.
-/
import Derived.Test.YtfjajkgfgigodaaGreatDoorVcDraw2
import Derived.Test.YtfjajkgfgigodaaGreatDoorVcArr
namespace Go.Proofs.YtfjajkgfgigodaaGreatDoor
open Go

section
variable {B : Base} {L : List Item} {h h' : Heap}

theorem Own.satK (o : Own B L h) (k : Nat) {x : Item} (hk : L[k]? = some x) : x.sat h := o.sat _ (List.mem_of_getElem? hk)

/-- A slice's elements, as long as the item holds. -/
def Reads (I : Item) (sz : Nat) (v : Value) (n : Nat) (xs : List Value) : Prop := ∀ h : Heap, I.sat h → ArrN sz h v n xs

theorem Own.reads (o : Own B L h) (k : Nat) {I : Item} {sz n : Nat} {v : Value} {xs : List Value} (r : Reads I sz v n xs) (hk : L[k]? = some I) : ArrN sz h v n xs := r h (o.satK k hk)

theorem StillVC.sliceTok {pr : Bool} {P : Program} {ty : TypeId} {s : List Value} {K : KK} {t e : TypeId} {by_ n : Nat} {x l : Operand} {agg : Bool} {zero xs : List Value} {k : IntKind} {i : Int} {I : Item} (hS : SliceT P t e) (hE : TyI P e agg zero by_) (hR : Reads I zero.length (ev s x) n xs) (hI : I.sat h)
    (hl : ev s l = .int k i) (h0 : 0 ≤ i) (h1 : i ≤ n) (hk : ∀ v, Reads I zero.length v (n - i.toNat) (xs.drop (i.toNat * zero.length)) → K v false h) : StillVC pr P (.slice t x (some l) none none) ty s h K := by
  obtain ⟨hxl, a, cap, hv, hcl, _⟩ := hR h hI
  have he : P.elem t = e := by unfold SliceT at hS; simp [Program.elem, hS]
  have hS' : P.underlying t = some (.slice (P.elem t)) := by rw [he]; exact hS
  refine .pure' (sliced a i.toNat n cap zero.length) false (fun w => ?_) (hk _ fun h' hI' => ?_)
  · simp [execOp, hv, hl, run_sliceAt_slice w t _ _ _ _ hS', run_slice_l w t a n cap hS' k i h0 h1, he, hE.sizeOf]
  · obtain ⟨_, a', cap', hv', _, r⟩ := hR h' hI'
    rw [hv] at hv'
    injection hv' with ea _ ec
    subst ea ec
    have hlen : (xs.drop (i.toNat * zero.length)).length = (n - i.toNat) * zero.length := by rw [List.length_drop, hxl, Nat.sub_mul]
    refine ⟨hlen, if cap = i.toNat then a else a.map (·.add (i.toNat * zero.length)), cap - i.toNat, rfl, by omega, ?_⟩
    by_cases hz : n ≤ i.toNat
    · left; omega
    · rcases r with rfl | ⟨b, o, rfl, hc⟩
      · omega
      · refine .inr ⟨b, o + i.toNat * zero.length, by rw [if_neg (by omega)]; simp [Addr.add_lit], fun j hj => ?_⟩
        rw [hlen] at hj
        rw [Nat.add_assoc, hc (i.toNat * zero.length + j) (by rw [hxl]; rw [Nat.sub_mul] at hj; omega), List.getElem?_drop]

theorem Reads.isS {I : Item} {sz n : Nat} {v : Value} {xs : List Value} (r : Reads I sz v n xs) (hI : I.sat h) : ∃ a c, v = .slice a n c := by
  obtain ⟨_, a, c, hv, _⟩ := r h hI
  exact ⟨a, c, hv⟩

/- ITEMS THAT ARE JOINED -/
def emptyI : Item := ⟨fun _ => False, fun _ => True, fun _ _ _ _ => trivial⟩

def joinI (x y : Item) : Item where
  fp b := x.fp b ∨ y.fp b
  sat h := x.sat h ∧ y.sat h
  loc h h' e := fun k => ⟨x.loc h h' (fun b hb => e b (.inl hb)) k.1, y.loc h h' (fun b hb => e b (.inr hb)) k.2⟩

theorem Own.emptyI' (o : Own B L h) : Own B (emptyI :: L) h where
  ext := OwnR.ext o
  sat x hx := by
    rcases List.mem_cons.1 hx with rfl | hx
    · trivial
    · exact OwnR.sat o x hx
  lo x hx b hb := by
    rcases List.mem_cons.1 hx with rfl | hx
    · exact hb.elim
    · exact OwnR.lo o x hx b hb
  hi x hx b hb := by
    rcases List.mem_cons.1 hx with rfl | hx
    · exact hb.elim
    · exact OwnR.hi o x hx b hb
  dis := List.pairwise_cons.2 ⟨fun _ _ _ hb => hb.elim, OwnR.dis o⟩

theorem Own.join {x y : Item} (o : Own B (x :: y :: L) h) : Own B (joinI x y :: L) h where
  ext := OwnR.ext o
  sat z hz := by
    rcases List.mem_cons.1 hz with rfl | hz
    · exact ⟨OwnR.sat o x (by simp), OwnR.sat o y (by simp)⟩
    · exact OwnR.sat o z (by simp at hz ⊢; exact .inr (.inr hz))
  lo z hz b hb := by
    rcases List.mem_cons.1 hz with rfl | hz
    · rcases hb with hb | hb
      · exact OwnR.lo o x (by simp) b hb
      · exact OwnR.lo o y (by simp) b hb
    · exact OwnR.lo o z (by simp at hz ⊢; exact .inr (.inr hz)) b hb
  hi z hz b hb := by
    rcases List.mem_cons.1 hz with rfl | hz
    · rcases hb with hb | hb
      · exact OwnR.hi o x (by simp) b hb
      · exact OwnR.hi o y (by simp) b hb
    · exact OwnR.hi o z (by simp at hz ⊢; exact .inr (.inr hz)) b hb
  dis := by
    have hd := OwnR.dis o
    simp only [List.cons_append, List.pairwise_cons] at hd
    obtain ⟨h1, h2, h3⟩ := hd
    refine List.pairwise_cons.2 ⟨fun z hz b hb => ?_, h3⟩
    rcases hb with hb | hb
    · exact h1 z (List.mem_cons_of_mem _ hz) b hb
    · exact h2 z hz b hb

theorem row_reads {v : Value} {e : TypeId} {sz n : Nat} {xs : List Value} : Reads (row v e sz n xs) sz v n xs := fun _ r => rowH.arrN r

theorem box_reads {b n c sz : Nat} {cs : List Value} {t : TypeId} (hn : cs.length = n * sz) (hc : n ≤ c) : Reads (box b cs t) sz (.slice (some ⟨b, 0, none⟩) n c) n cs := fun h r => by
  refine ⟨hn, _, c, rfl, hc, .inr ⟨b, 0, rfl, fun i hi => ?_⟩⟩
  have hb : h[b]? = some (.cells cs.toArray t (0, 0)) := r
  simp [cellAt, hb]

theorem nil_reads {I : Item} {sz : Nat} : Reads I sz (.slice none 0 0) 0 [] := fun h _ => ArrN.nil sz h

theorem Reads.inl {I J : Item} {sz n : Nat} {v : Value} {xs : List Value} (r : Reads I sz v n xs) : Reads (joinI I J) sz v n xs := fun h s => r h s.1
theorem Reads.inr {I J : Item} {sz n : Nat} {v : Value} {xs : List Value} (r : Reads J sz v n xs) : Reads (joinI I J) sz v n xs := fun h s => r h s.2

end
end Go.Proofs.YtfjajkgfgigodaaGreatDoor
