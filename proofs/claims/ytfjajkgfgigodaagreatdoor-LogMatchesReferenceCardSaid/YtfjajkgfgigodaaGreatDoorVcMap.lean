/-
  Maps of the call's own with integers for keys: they are made, filled with new keys, and looked up.
-/
import Derived.Test.YtfjajkgfgigodaaGreatDoorVcTree
import Derived.Test.YtfjajkgfgigodaaGreatDoorVcDefer
namespace Go.Proofs.YtfjajkgfgigodaaGreatDoor
open Go

def mapI (r : Nat) (es : List MapEntry) (clock : Nat) : Item where
  fp x := x = r
  sat h := h[r]? = some (.map es.toArray clock)
  loc _ _ e := fun k => (e r rfl).trans k

section
variable {P : Program} {ty : TypeId} {s : List Value} {h0 : Base} {h : Heap} {L : List Item} {K : KK} {Q : QQ}

theorem RunVC.makeMap {t : TypeId} (o : Own h0 L h) (hk : ∀ r h', lappK L (mapI r [] 0) fun L' => Own h0 L' h' → K (.map (some r)) false h') : RunVC P (.makeMap t none) ty s h K Q :=
  .of fun w hw => by
    subst hw
    refine ⟨.map (some w.heap.size), false, { w with heap := w.heap.push (.map #[] 0) }, by simp [execOp, Instr.makeMap, newObj, Sem.run], ⟨rfl, rfl, rfl, by simp⟩, ?_⟩
    have := hk w.heap.size (w.heap.push (.map #[] 0))
    rw [lappK_eq] at this
    refine this (o.callR ⟨⟨by simp, fun b hb => by rw [Array.getElem?_push, if_neg (by omega)]⟩, ?_, ?_, ?_, List.pairwise_singleton _ _⟩)
    · intro x hx; simp only [List.mem_singleton] at hx; subst hx
      simp [mapI]
    · intro x hx b hb; simp only [List.mem_singleton] at hx; subst hx; cases hb; exact Nat.le_refl _
    · intro x hx b hb; simp only [List.mem_singleton] at hx; subst hx; cases hb; simp

theorem getMap {w : World} {r : Nat} {es : Array MapEntry} {clock : Nat} (hb : w.heap[r]? = some (.map es clock)) : (getObj r).run P w = .ok (.map es clock) w := by simp [getObj, Sem.run, hb]
theorem setMap {w : World} {r : Nat} {es : Array MapEntry} {clock : Nat} (o : Obj) (hb : w.heap[r]? = some (.map es clock)) : (setObj r o).run P w = .ok () { w with heap := w.heap.setIfInBounds r o } := by simp [setObj, Sem.run, hb]

theorem run_checkKey {kt : TypeId} {ik : IntKind} {n : Int} {b : Bool} (hkt : P.underlying kt = some (.int ik)) (w : World) : ∀ k, k ≠ 0 → (Instr.checkKey b k kt (.int ik n)).run P w = .ok () w
  | 0, h => absurd rfl h
  | k + 1, _ => by simp [Instr.checkKey, run_underlying hkt]

theorem run_findKey {kt : TypeId} {ik : IntKind} {n : Int} {es : List MapEntry} {r : Option (Nat × Value)} (hkt : P.underlying kt = some (.int ik)) (hf : Instr.findNow (.int ik) (.int ik n) es 0 = some r) (w : World) : (Instr.findKey kt (.int ik n) es).run P w = .ok r w := by
  simp [Instr.findKey, run_underlying hkt, hf]

theorem RunVC.insert {t kt et : TypeId} {m k x : Operand} {ik : IntKind} {n : Int} {r : Nat} {es : List MapEntry} {c : Nat} (o : Own h0 L h) (i : Nat) (hi : L[i]? = some (mapI r es c)) (hu : P.underlying t = some (.map kt et)) (hkt : P.underlying kt = some (.int ik))
    (hm : ev s m = .map (some r)) (hn : ev s k = .int ik n) (hf : Instr.findNow (.int ik) (.int ik n) es 0 = some none)
    (hK : ∀ h', lsetK L i (mapI r (es ++ [⟨.int ik n, ev s x, c⟩]) (c + 1)) fun L' => Own h0 L' h' → K undef false h') : RunVC P (.insert t m k x) ty s h K Q :=
  .of_skip fun w hw => by
    subst hw
    have hb : w.heap[r]? = some (.map es.toArray c) := o.sat _ (List.mem_of_getElem? hi)
    refine ⟨{ w with heap := w.heap.setIfInBounds r (.map (es.toArray.push ⟨.int ik n, ev s x, c⟩) (c + 1)) }, ?_, ⟨rfl, rfl, rfl, by simp⟩, ?_⟩
    · simp [execOp, hm, hn, Instr.mapUpdate, run_underlying hu, getMap hb, run_checkKey hkt w 10000 (by decide), run_findKey hkt hf, setMap _ hb]
    · have := hK (w.heap.setIfInBounds r (.map (es.toArray.push ⟨.int ik n, ev s x, c⟩) (c + 1)))
      rw [lsetK_eq] at this
      have hlt : r < w.heap.size := (Array.getElem?_eq_some_iff.1 hb).1
      refine this (o.set hi (by simp) (fun b _ hnb => ?_) ?_ (fun b hb => .inl hb) (fun b hb => ?_))
      · rw [Array.getElem?_setIfInBounds_ne (fun e => hnb e.symm)]
      · simp [mapI, hlt]
      · cases hb; simpa using hlt

theorem RunVC.lookup {t kt et : TypeId} {m k : Operand} {ik : IntKind} {n : Int} {r i : Nat} {es : List MapEntry} {c : Nat} {v : Value} (o : Own h0 L h) (j : Nat) (hj : L[j]? = some (mapI r es c)) (hu : P.underlying t = some (.map kt et)) (hkt : P.underlying kt = some (.int ik))
    (hm : ev s m = .map (some r)) (hn : ev s k = .int ik n) (hf : Instr.findNow (.int ik) (.int ik n) es 0 = some (some (i, v))) (hK : K v false h) : RunVC P (.lookup t m k false) ty s h K Q :=
  .of fun w hw => by
    subst hw
    have hb : w.heap[r]? = some (.map es.toArray c) := o.sat _ (List.mem_of_getElem? hj)
    exact ⟨v, false, w, by simp [execOp, hm, hn, Instr.lookup, run_underlying hu, getMap hb, run_checkKey hkt w 10000 (by decide), run_findKey hkt hf], .refl w, hK⟩

/-- All of an array behind a pointer. -/
theorem StillVC.sliceG {pr : Bool} {t e : TypeId} {n by_ b : Nat} {x : Operand} {agg : Bool} {zero : List Value} (hu : P.underlying t = some (.array n e)) (hE : TyI P e agg zero by_) (hx : ev s x = .pointer (some ⟨b, 0, none⟩))
    (hk : K (.slice (some ⟨b, 0, none⟩) n n) false h) : StillVC pr P (.slice t x none none none) ty s h K := by
  refine .pure' _ false (fun w => ?_) hk
  have he : P.elem t = e := by simp [Program.elem, hu]
  have hn : P.arrayLen t = n := by simp [Program.arrayLen, hu]
  have hu' : P.underlying t = some (.array (P.arrayLen t) (P.elem t)) := by rw [he, hn]; exact hu
  simp [execOp, hx, run_sliceAt_array_all w t _ hu', he, hn, hE.sizeOf, slicedAt, Addr.add_lit]

theorem RunVC.sliceG {t e : TypeId} {n by_ b : Nat} {x : Operand} {agg : Bool} {zero : List Value} (hu : P.underlying t = some (.array n e)) (hE : TyI P e agg zero by_) (hx : ev s x = .pointer (some ⟨b, 0, none⟩))
    (hk : K (.slice (some ⟨b, 0, none⟩) n n) false h) : RunVC P (.slice t x none none none) ty s h K Q := (StillVC.sliceG hu hE hx hk).run

theorem results_cell3A {fn : Func} {a b c ta tb tc : Nat} {za zb zc : List Value} {ya yb yc pa pb pc : Nat} {u v x : Value} (hf : fn.results = #[.cell a ta, .cell b tb, .cell c tc])
    (hA : TyI P ta true za ya) (hz : za.length = 1) (hB : TyI P tb false zb yb) (hC : TyI P tc false zc yc) (ea : sget s a = .pointer (some ⟨pa, 0, none⟩)) (eb : sget s b = .pointer (some ⟨pb, 0, none⟩)) (ec : sget s c = .pointer (some ⟨pc, 0, none⟩))
    (ca : cellAt h ⟨pa, 0, none⟩ = some u) (cb : cellAt h ⟨pb, 0, none⟩ = some v) (cc : cellAt h ⟨pc, 0, none⟩ = some x) (w : World) (hw : w.heap = h) :
    (results fn s.toArray).run P w = .ok (.tuple ⟨[.agg ⟨[u]⟩, v, x]⟩) w := by
  have e1 : s.toArray.getD a undef = .pointer (some ⟨pa, 0, none⟩) := by rw [← ea, ← sget_getD]; simp
  have e2 : s.toArray.getD b undef = .pointer (some ⟨pb, 0, none⟩) := by rw [← eb, ← sget_getD]; simp
  have e3 : s.toArray.getD c undef = .pointer (some ⟨pc, 0, none⟩) := by rw [← ec, ← sget_getD]; simp
  simp only [Array.getD_eq_getD_getElem?, List.getElem?_toArray] at e1 e2 e3
  subst hw
  have hc := run_loadCellsFrom (P := P) (w := w) (a := ⟨pa, 0, none⟩) [u] 0 #[] (fun j hj => by
    obtain rfl : j = 0 := by simpa using hj
    rw [Addr.add_lit, cellAt_eq]; exact ca)
  rw [← cellAt_eq] at cb cc
  simp only [List.length_cons, List.length_nil, Nat.zero_add] at hc
  simp [results, hf, e1, e2, e3, asAddr, loadVar, hA.isAgg, hB.isAgg, hC.isAgg, hA.sizeOf, hz, loadCells, hc, run_load, cb, cc]

/-- A struct of one cell and two results of one cell, in memory. -/
theorem RetVC.cell3A {fn : Func} {R : Value → Heap → Prop} {a b c ta tb tc : Nat} {za zb zc : List Value} {ya yb yc pa pb pc : Nat} {u v x : Value} (hf : fn.results = #[.cell a ta, .cell b tb, .cell c tc])
    (hA : TyI P ta true za ya) (hz : za.length = 1) (hB : TyI P tb false zb yb) (hC : TyI P tc false zc yc) (ea : sget s a = .pointer (some ⟨pa, 0, none⟩)) (eb : sget s b = .pointer (some ⟨pb, 0, none⟩)) (ec : sget s c = .pointer (some ⟨pc, 0, none⟩))
    (ca : cellAt h ⟨pa, 0, none⟩ = some u) (cb : cellAt h ⟨pb, 0, none⟩ = some v) (cc : cellAt h ⟨pc, 0, none⟩ = some x) (hr : R (.tuple ⟨[.agg ⟨[u]⟩, v, x]⟩) h) : RetVC P fn s h R where
  ex := ⟨_, fun w hw => results_cell3A hf hA hz hB hC ea eb ec ca cb cc w hw, hr⟩

/-- A function that defers behind two regions and a test. -/
theorem Spec.enterD2 {P : Program} {f : FuncId} {fn : Func} {r0 r1 c1 rest : Code} {id n : Nat} {ops : Array Oper} {args : List Value} {h : Heap} {R : Ending → Heap → Prop}
    (hf : P.funcs[f]? = some fn) (hb : fn.body = some (.seq r0 (.seq r1 (.seq c1 (.seq (.region id ops false) rest))))) (hn : fn.ntmps = n) (hname : (fn.name == "runtime.NumGoroutine") = false)
    (hv : entryK args n fun s => vcode P r0 (onN (fun s h => vcode P r1 (onN (fun s h => vcode P c1 (onN (fun s h => DeferVC P fn id ops rest R s h) (endQ P fn R)) s h) (endQ P fn R)) s h) (endQ P fn R)) s h) : Spec P f args h R := by
  refine ⟨⟨fn, hf, by simp [hb], hname⟩, fun w hw => ?_⟩
  subst hw
  rw [entryK_eq] at hv
  have he : act (args ++ List.replicate (n - args.length) undef) [] = { tmps := args.toArray ++ Array.replicate (fn.ntmps - args.toArray.size) undef, defers := [] } := by
    simp [act, hn]
  have leave0 : ∀ e s' w', Same w w' → endQ P fn R e s' w'.heap → bodyPostD P fn (fun e w' => Same w w' ∧ R e w'.heap) e (act s' []) w' := by
    intro e s' w' hs hq
    cases e with
    | normal => obtain ⟨v, hr, hR⟩ := hq.ex; exact ⟨v, hr w' rfl, hs, hR⟩
    | ret => obtain ⟨v, hr, hR⟩ := hq.ex; exact ⟨v, hr w' rfl, hs, hR⟩
    | panic c => exact ⟨hs, hq⟩
    | _ => exact hq.elim
  refine calls_of_wp_defers hf hb ?_
  rw [← he]
  refine wp_seq (wp_mono (vcode_sound (w0 := w) (ds := []) r0 _ _ w (.refl w) hv) ?_)
  rintro e a w1 ⟨s1, rfl, hs1, hq⟩
  cases e with
  | normal =>
    refine wp_seq (wp_mono (vcode_sound (w0 := w) (ds := []) r1 _ _ w1 hs1 hq) ?_)
    rintro e a w2 ⟨s2, rfl, hs2, hq⟩
    cases e with
    | normal =>
      refine wp_seq (wp_mono (vcode_sound (w0 := w) (ds := []) c1 _ _ w2 hs2 hq) ?_)
      rintro e a w2 ⟨s2, rfl, hs2, hq⟩
      cases e with
      | normal =>
        obtain ⟨s3, d, hd, hr⟩ := hq.ex
        refine wp_seq (hd w2 _ (wp_mono (vcode_sound (w0 := w) (ds := [d]) rest _ _ w2 hs2 (vcode_mono rest (Q' := leaveQ P fn d R) (fun e s h hq => ?_) _ _ hr)) ?_))
        · cases e <;> first | exact hq | exact hq.elim
        · rintro e a w3 ⟨s4, rfl, hs3, hq⟩
          cases e with
          | normal => exact hq.lv w w3 hs3 rfl
          | ret => exact hq.lv w w3 hs3 rfl
          | panic c => exact hq.lv w w3 hs3 rfl
          | _ => exact hq.elim
      | ret => exact leave0 .ret s2 w2 hs2 hq
      | panic c => exact leave0 (.panic c) s2 w2 hs2 hq
      | _ => exact hq.elim
    | ret => exact leave0 .ret s2 w2 hs2 hq
    | panic c => exact leave0 (.panic c) s2 w2 hs2 hq
    | _ => exact hq.elim
  | ret => exact leave0 .ret s1 w1 hs1 hq
  | panic c => exact leave0 (.panic c) s1 w1 hs1 hq
  | _ => exact hq.elim

end
end Go.Proofs.YtfjajkgfgigodaaGreatDoor
