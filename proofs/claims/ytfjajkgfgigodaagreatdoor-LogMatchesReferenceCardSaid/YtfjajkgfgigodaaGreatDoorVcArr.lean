/-
  Arrays behind a pointer; slices of a box; copy.
-/
import Derived.Test.YtfjajkgfgigodaaGreatDoorVcSync
import Derived.Laws.CopyRow
namespace Go.Proofs.YtfjajkgfgigodaaGreatDoor
open Go

section
variable {P : Program} {ty : TypeId} {s : List Value} {h0 : Base} {h : Heap} {L : List Item} {K : KK} {Q : QQ} {pr : Bool}

theorem StillVC.idxArr {t e : TypeId} {n by_ : Nat} {x i : Operand} {agg : Bool} {zero : List Value} {b o : Nat} {k : IntKind} {m : Int} (hu : P.underlying t = some (.array n e)) (hE : TyI P e agg zero by_)
    (hx : ev s x = .pointer (some ⟨b, o, none⟩)) (hi : ev s i = .int k m) (h1 : 0 ≤ m) (h2 : m < n) (hk : K (.pointer (some ⟨b, o + m.toNat * zero.length, none⟩)) false h) : StillVC pr P (.indexAddr t x i) ty s h K := by
  refine .pure' _ false (fun w => ?_) hk
  have he : P.elem t = e := by simp [Program.elem, hu]
  have hn : P.arrayLen t = n := by simp [Program.arrayLen, hu]
  have hu' : P.underlying t = some (.array (P.arrayLen t) (P.elem t)) := by rw [he, hn]; exact hu
  simp [execOp, hi, hx, run_indexAt_array w t _ _ _ hu', h1, h2, he, hn, hE.sizeOf, Addr.add_lit]

/-- The end of a box's slice. -/
theorem StillVC.sliceFB {t e : TypeId} {by_ : Nat} {x l : Operand} {agg : Bool} {z : Value} {b n c : Nat} {k : IntKind} {i : Int} (hS : SliceT P t e) (hE : TyI P e agg [z] by_) (hx : ev s x = .slice (some ⟨b, 0, none⟩) n c)
    (hl : ev s l = .int k i) (h0 : 0 ≤ i) (h1 : i ≤ n) (h2 : i < c) (hk : K (.slice (some ⟨b, i.toNat, none⟩) (n - i.toNat) (c - i.toNat)) false h) : StillVC pr P (.slice t x (some l) none none) ty s h K := by
  have he : P.elem t = e := by unfold SliceT at hS; simp [Program.elem, hS]
  have hS' : P.underlying t = some (.slice (P.elem t)) := by rw [he]; exact hS
  have hne : ¬ c = i.toNat := by omega
  have e1 : sliced (some ⟨b, 0, none⟩) i.toNat n c 1 = .slice (some ⟨b, i.toNat, none⟩) (n - i.toNat) (c - i.toNat) := by
    simp [sliced, hne, Addr.add_lit]
  rw [← e1] at hk
  refine .pure' _ false (fun w => ?_) hk
  simp [execOp, hx, hl, run_sliceAt_slice w t _ _ _ _ hS', run_slice_l w t _ n c hS' k i h0 h1, he, hE.sizeOf]

theorem RunVC.copyB {t u e : TypeId} {x y : Operand} {z : Value} {by_ b off n c : Nat} {cs ys : List Value} {t' : TypeId} (o : Own h0 L h) (k : Nat) (hk : L[k]? = some (box b cs t')) (hS : SliceT P t e) (hE : TyI P e false [z] by_)
    (hx : ev s x = .slice (some ⟨b, off, none⟩) n c) (hA : Arr h (ev s y) ys) (hpos : 0 < ys.length) (hn : ys.length ≤ n) (hl : off + ys.length ≤ cs.length) (h1 : ∀ u ∈ ys, u.oneCell' = true)
    (hK : ∀ h', lsetK L k (box b (cs.take off ++ ys ++ cs.drop (off + ys.length)) t') fun L' => Own h0 L' h' → K (.int .i64 ys.length) false h') : RunVC P (.call ⟨.builtin .copy, ⟨[x, y]⟩, ⟨[t, u]⟩⟩) ty s h K Q :=
  .of fun w hw => by
    subst hw
    obtain ⟨i, z', hi, hs, hz', hzc, hby⟩ := hE.info
    have hb := o.boxBlk k hk
    obtain ⟨a, cap, hv, hcap, r⟩ := hA
    rcases r with rfl | ⟨g, og, rfl, hc⟩
    · simp at hpos
    have hr := run_copy_row (P := P) w t u ty e b off n c ⟨g, og, none⟩ ys.length cap cs.toArray t' ys hS (by simp [hi]; simpa using hs) hb (show ys.length = Nat.min ys.length n from (Nat.min_eq_left hn).symm)
      (fun j v hj => by
        rw [Addr.add_lit, cellAt_eq]
        obtain ⟨hj', _⟩ := List.getElem?_eq_some_iff.1 hj
        rw [hc j hj']; exact hj) (by simpa using hl) h1
    refine ⟨.int .i64 ys.length, false, w.setRow b (cs.take off ++ ys ++ cs.drop (off + ys.length)).toArray, ?_, ?_, ?_⟩
    · simp only [execOp, resolve, Sem.run_bind, Sem.run_pure, Result.andThen_ok]
      simp [invoke, builtin, hx, hv, hr, goInt]
    · exact ⟨rfl, rfl, rfl, by simp [World.setRow]⟩
    · have := hK (w.setRow b (cs.take off ++ ys ++ cs.drop (off + ys.length)).toArray).heap
      rw [lsetK_eq] at this
      refine this (o.set hk (by simp [World.setRow]) (fun x _ hx => ?_) ?_ (fun x hx => .inl hx) (fun x hx => ?_))
      · have hne : ¬ b = x := fun e => hx e.symm
        simp [World.setRow, Array.getElem?_modify, hne]
      · exact setRow_heap w b cs.toArray _ t' (0, 0) hb
      · have := o.hi _ (List.mem_of_getElem? hk) x hx
        simpa [World.setRow] using this

/-- A store of a whole struct or array. -/
theorem RunVC.storeAll {t : TypeId} {a x : Operand} {zero vs : List Value} {by_ : Nat} {agg : Bool} {b : Nat} {cs : List Value} {t' : TypeId} (o : Own h0 L h) (k : Nat) (hk : L[k]? = some (box b cs t')) (hT : TyI P t agg zero by_)
    (ha : ev s a = .pointer (some ⟨b, 0, none⟩)) (hx : ev s x = .agg ⟨vs⟩) (hv : vs.length = zero.length) (hc : cs.length = zero.length) (h1 : vs.all (fun u => u.oneCell') = true)
    (hK : ∀ h', lsetK L k (box b vs t') fun L' => Own h0 L' h' → K undef false h') : RunVC P (.store t a x) ty s h K Q := by
  refine RunVC.store o k hk hT ha (by omega) ?_
  rw [evK_eq, hx, cellsK_eq]
  refine ⟨⟨hv, h1⟩, fun h' => ?_⟩
  rw [lsetsK_eq]
  have e : lset cs 0 (Value.agg ⟨vs⟩).cells.toList = vs := by
    show lset cs 0 vs = vs
    rw [lset_eq vs cs 0 (by omega)]
    simp
    omega
  rw [e]
  exact hK h'

/-- A call of a method of an interface's value. -/
theorem RunVC.invokeR {x : Operand} {name : String} {args : List Operand} {tys : Array TypeId} {g : FuncId} {full : List Value} {recv : Value} {Post : Value → Heap → Prop} (hx : ev s x = recv)
    (hm : ∀ w : World, (callMethod recv name (args.map (ev s)).toArray).run P w = .ok (.enter g full.toArray) w) (sp : SpecR P g full h Post) (hk : ∀ v h', Post v h' → K v false h') :
    RunVC P (.call ⟨.invoke x name, ⟨args⟩, tys⟩) ty s h K Q where
  run w hw ds dst pos after guard next Q' hn hq := by
    have hrun : (execOp (ev s) ⟨none, .call ⟨.invoke x name, ⟨args⟩, tys⟩, ty, "", #[], none⟩).run P w = .ok (.enter g full.toArray) w := by
      have := hm w
      have e : List.take args.length (List.map (ev s) args) = List.map (ev s) args := List.take_of_length_le (by simp)
      simpa [execOp, resolve, invoke, hx, e] using this
    simp only [Oper.wp, act_eval, execOp_head, hrun, Oper.upon]
    refine (sp.2 w hw).mono fun e w' ⟨hs, hR⟩ => ?_
    cases e with
    | returned v => exact hn v false w' hs (hk v _ hR)
    | panicked c => exact hR.elim
    | outgrown => exact hR.elim

theorem StillVC.strLss {t t' : TypeId} {x y : Operand} {a b : List UInt8} (hx : ev s x = .string ⟨⟨a⟩⟩) (hy : ev s y = .string ⟨⟨b⟩⟩) (hk : K (.bool (Op.bytesLess a b)) false h) : StillVC pr P (.binOp .lss t x y t') ty s h K :=
  .pure' _ false (fun w => by simp [execOp, hx, hy, eqGuard_at_string, binOp, Op.stringOp]) hk
theorem StillVC.strGtr {t t' : TypeId} {x y : Operand} {a b : List UInt8} (hx : ev s x = .string ⟨⟨a⟩⟩) (hy : ev s y = .string ⟨⟨b⟩⟩) (hk : K (.bool (!(Op.bytesLess a b || a == b))) false h) : StillVC pr P (.binOp .gtr t x y t') ty s h K :=
  .pure' _ false (fun w => by simp [execOp, hx, hy, eqGuard_at_string, binOp, Op.stringOp]) hk

end

theorem Own.of_ext {h h' : Heap} (e : Ext h h') : Own h [] h' := OwnR.own ⟨e, by simp, by simp, by simp, .nil⟩
theorem Own.thenE {B : Base} {L : List Item} {h h' : Heap} (o' : Own h [] h') (o : Own B L h) : Own B L h' := o.ext' o'

theorem Own.rowIs {B : Base} {L : List Item} {h : Heap} (o : Own B L h) (k : Nat) {v : Value} {e sz n : Nat} {xs : List Value} (hk : L[k]? = some (row v e sz n xs)) : ∃ a c, v = .slice a n c := by
  obtain ⟨_, r⟩ : rowH h e sz v n xs := o.sat _ (List.mem_of_getElem? hk)
  rcases r with ⟨rfl, rfl⟩ | ⟨g, cap, cur, rfl, _⟩
  · exact ⟨_, _, rfl⟩
  · exact ⟨_, _, rfl⟩

end Go.Proofs.YtfjajkgfgigodaaGreatDoor
