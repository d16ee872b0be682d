/-
  More rules: a pointer against nil; pieces of a box, and copies into them.
-/
import Derived.Test.YtfjajkgfgigodaaGreatDoorVcTree
import Derived.Laws.Pointers
import Derived.Lib.BufferWrite
namespace Go.Proofs.YtfjajkgfgigodaaGreatDoor
open Go

section
variable {P : Program} {ty : TypeId} {s : List Value} {h0 : Base} {h : Heap} {L : List Item} {K : KK} {Q : QQ} {pr : Bool}

theorem StillVC.eqP {t t' : TypeId} {x y : Operand} {a : Option Addr} (hp : P.underlying t = some (.pointer (P.pointee t))) (hx : ev s x = .pointer a) (hy : ev s y = .pointer none) (hk : K (.bool a.isNone) false h) : StillVC pr P (.binOp .eql t x y t') ty s h K :=
  .pure' _ false (fun w => by simp [execOp, hx, hy, eqGuard_at_pointer, run_eql_pointer_nil w t a hp]) hk
theorem StillVC.neP {t t' : TypeId} {x y : Operand} {a : Option Addr} (hp : P.underlying t = some (.pointer (P.pointee t))) (hx : ev s x = .pointer a) (hy : ev s y = .pointer none) (hk : K (.bool (!a.isNone)) false h) : StillVC pr P (.binOp .neq t x y t') ty s h K :=
  .pure' _ false (fun w => by simp [execOp, hx, hy, eqGuard_at_pointer, run_neq_pointer_nil w t a hp]) hk
theorem RunVC.eqP {t t' : TypeId} {x y : Operand} {a : Option Addr} (hp : P.underlying t = some (.pointer (P.pointee t))) (hx : ev s x = .pointer a) (hy : ev s y = .pointer none) (hk : K (.bool a.isNone) false h) : RunVC P (.binOp .eql t x y t') ty s h K Q := (StillVC.eqP hp hx hy hk).run
theorem RunVC.neP {t t' : TypeId} {x y : Operand} {a : Option Addr} (hp : P.underlying t = some (.pointer (P.pointee t))) (hx : ev s x = .pointer a) (hy : ev s y = .pointer none) (hk : K (.bool (!a.isNone)) false h) : RunVC P (.binOp .neq t x y t') ty s h K Q := (StillVC.neP hp hx hy hk).run

/-- A piece of a box's slice. -/
theorem StillVC.sliceLHB {t e : TypeId} {by_ : Nat} {x l m : Operand} {agg : Bool} {z : Value} {b n c : Nat} {k k' : IntKind} {i j : Int} (hS : SliceT P t e) (hE : TyI P e agg [z] by_) (hx : ev s x = .slice (some ⟨b, 0, none⟩) n c)
    (hl : ev s l = .int k i) (hm : ev s m = .int k' j) (h0 : 0 ≤ i) (h1 : i ≤ j) (h2 : j ≤ c) (h3 : i < c) (hk : K (.slice (some ⟨b, i.toNat, none⟩) (j.toNat - i.toNat) (c - i.toNat)) false h) : StillVC pr P (.slice t x (some l) (some m) none) ty s h K := by
  have he : P.elem t = e := by unfold SliceT at hS; simp [Program.elem, hS]
  have hS' : P.underlying t = some (.slice (P.elem t)) := by rw [he]; exact hS
  have hne : ¬ c = i.toNat := by omega
  have e1 : sliced (some ⟨b, 0, none⟩) i.toNat j.toNat c 1 = .slice (some ⟨b, i.toNat, none⟩) (j.toNat - i.toNat) (c - i.toNat) := by
    simp [sliced, hne, Addr.add_lit]
  rw [← e1] at hk
  refine .pure' _ false (fun w => ?_) hk
  simp [execOp, hx, hl, hm, run_sliceAt_slice w t _ _ _ _ hS', run_slice_lh w t _ n c hS' k k' i j h0 h1 h2, he, hE.sizeOf]

/-- As sliceLHB, with natural numbers. -/
theorem StillVC.sliceLHC {t e : TypeId} {by_ : Nat} {x l m : Operand} {agg : Bool} {z : Value} {b n c : Nat} {k k' : IntKind} {i' j' : Int} (i j n' c' : Nat) (hS : SliceT P t e) (hE : TyI P e agg [z] by_) (hx : ev s x = .slice (some ⟨b, 0, none⟩) n c)
    (hl : ev s l = .int k i') (hm : ev s m = .int k' j') (ei : i' = i) (ej : j' = j) (h1 : i ≤ j) (h2 : j ≤ c) (h3 : i < c) (en : j - i = n') (ec : c - i = c') (hk : K (.slice (some ⟨b, i, none⟩) n' c') false h) : StillVC pr P (.slice t x (some l) (some m) none) ty s h K := by
  subst ei ej en ec
  exact .sliceLHB hS hE hx hl hm (by omega) (by omega) (by omega) (by omega) hk

/-- A piece of a box, as a slice that is read. -/
theorem Own.boxArrAt (o : Own h0 L h) (k : Nat) {b : Nat} {cs : List Value} {t : TypeId} (hk : L[k]? = some (box b cs t)) {off n c : Nat} (hn : off + n ≤ cs.length) (hc : n ≤ c) : Arr h (.slice (some ⟨b, off, none⟩) n c) ((cs.drop off).take n) := by
  have hl : ((cs.drop off).take n).length = n := by simp; omega
  refine ⟨_, c, by rw [hl], by rw [hl]; exact hc, .inr ⟨b, off, rfl, fun i hi => ?_⟩⟩
  rw [hl] at hi
  rw [List.getElem?_take, if_pos hi, List.getElem?_drop]
  exact o.cellB k hk (off + i)

/-- A copy of a text into a box. -/
theorem RunVC.copyBS {t u e : TypeId} {x y : Operand} {z : Value} {by_ b off n c : Nat} {cs : List Value} {l : List UInt8} {t' : TypeId} (o : Own h0 L h) (k : Nat) (hk : L[k]? = some (box b cs t')) (hS : SliceT P t e) (hE : TyI P e false [z] by_)
    (hx : ev s x = .slice (some ⟨b, off, none⟩) n c) (hy : ev s y = .string ⟨⟨l⟩⟩) (hn : l.length ≤ n) (hl : off + l.length ≤ cs.length)
    (hK : ∀ h', lsetK L k (box b (cs.take off ++ bytes l ++ cs.drop (off + l.length)) t') fun L' => Own h0 L' h' → K (.int .i64 l.length) false h') : RunVC P (.call ⟨.builtin .copy, ⟨[x, y]⟩, ⟨[t, u]⟩⟩) ty s h K Q :=
  .of fun w hw => by
    subst hw
    obtain ⟨i, z', hi, hs, hz', hzc, hby⟩ := hE.info
    have hb := o.boxBlk k hk
    have hsz : (⟨⟨l⟩⟩ : ByteArray).size = l.length := rfl
    have hr := Lib.run_copy_row_string (P := P) w t u ty e b off n c ⟨⟨l⟩⟩ cs.toArray t' hS (by simp [hi]; simpa using hs) hb (by rw [hsz]; exact hn) (by rw [hsz]; simpa using hl)
    have hr' : (Builtin.copy_ #[t, u] ty #[.slice (some ⟨b, off, none⟩) n c, .string ⟨⟨l⟩⟩]).run P w = .ok (goInt l.length) (w.setRow b (cs.take off ++ bytes l ++ cs.drop (off + l.length)).toArray) := hr
    refine ⟨.int .i64 l.length, false, w.setRow b (cs.take off ++ bytes l ++ cs.drop (off + l.length)).toArray, ?_, ?_, ?_⟩
    · simp only [execOp, resolve, Sem.run_bind, Sem.run_pure, Result.andThen_ok]
      simp [invoke, builtin, hx, hy, hr', goInt]
    · exact ⟨rfl, rfl, rfl, by simp [World.setRow]⟩
    · have := hK (w.setRow b (cs.take off ++ bytes l ++ cs.drop (off + l.length)).toArray).heap
      rw [lsetK_eq] at this
      refine this (o.set hk (by simp [World.setRow]) (fun x _ hx => ?_) ?_ (fun x hx => .inl hx) (fun x hx => ?_))
      · have hne : ¬ b = x := fun e => hx e.symm
        simp [World.setRow, Array.getElem?_modify, hne]
      · exact setRow_heap w b cs.toArray _ t' (0, 0) hb
      · have := o.hi _ (List.mem_of_getElem? hk) x hx
        simpa [World.setRow] using this

/-- The beginning of a slice that an item lets be read. -/
theorem StillVC.sliceTokH {t e : TypeId} {by_ n : Nat} {x m : Operand} {agg : Bool} {zero xs : List Value} {k' : IntKind} {j : Int} {I : Item} (jn : Nat) (hS : SliceT P t e) (hE : TyI P e agg zero by_) (hR : Reads I zero.length (ev s x) n xs) (hI : I.sat h)
    (hm : ev s m = .int k' j) (ej : j = jn) (h2 : jn ≤ n) (hk : ∀ v, Reads I zero.length v jn (xs.take (jn * zero.length)) → K v false h) : StillVC pr P (.slice t x none (some m) none) ty s h K := by
  subst ej
  obtain ⟨hxl, a, cap, hv, hcl, _⟩ := hR h hI
  have he : P.elem t = e := by unfold SliceT at hS; simp [Program.elem, hS]
  have hS' : P.underlying t = some (.slice (P.elem t)) := by rw [he]; exact hS
  refine .pure' (sliced a 0 jn cap zero.length) false (fun w => ?_) (hk _ fun h' hI' => ?_)
  · simp [execOp, hv, hm, run_sliceAt_slice w t _ _ _ _ hS', run_slice_h w t a n cap hS' k' (jn : Int) (by omega) (by omega), he, hE.sizeOf]
  · obtain ⟨_, a', cap', hv', _, r⟩ := hR h' hI'
    rw [hv] at hv'
    injection hv' with ea _ ec
    subst ea ec
    have hjn : jn * zero.length ≤ n * zero.length := Nat.mul_le_mul_right _ h2
    have hlen : (xs.take (jn * zero.length)).length = jn * zero.length := by rw [List.length_take, hxl]; omega
    refine ⟨hlen, if cap = 0 then a else a.map (·.add (0 * zero.length)), cap - 0, rfl, by omega, ?_⟩
    by_cases hz : jn = 0
    · exact .inl hz
    · rcases r with rfl | ⟨b, o, rfl, hc⟩
      · omega
      · refine .inr ⟨b, o, by rw [if_neg (by omega)]; simp [Addr.add_lit], fun q hq => ?_⟩
        rw [hlen] at hq
        rw [hc q (by omega), List.getElem?_take, if_pos hq]

end
end Go.Proofs.YtfjajkgfgigodaaGreatDoor
