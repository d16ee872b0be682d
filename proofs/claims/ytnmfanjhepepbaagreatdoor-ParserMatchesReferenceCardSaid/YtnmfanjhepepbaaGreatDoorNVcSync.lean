/-
  Functions without a body (atomic operations, marks), and functions that defer calls of functions.
-/
import Derived.Test.YtnmfanjhepepbaaGreatDoorNVcDraw2
import Derived.Laws.LoneSync
namespace Go.Proofs.YtnmfanjhepepbaaGreatDoor
open Go

section
variable {P : Program} {f : FuncId} {fn : Func} {B : Base} {L : List Item} {h : Heap}

theorem XSpec.load (hf : P.funcs[f]? = some fn) (hname : (fn.name == "runtime.NumGoroutine") = false) (hb : fn.body.isNone = true) (hn : Extern.findNext fn = none) (k : IntKind)
    (he : Extern.find fn = some (Extern.Atomic.loadT (.int k))) {a : Addr} {x : Int} (hc : cellAt h a = some (.int k x)) : XSpec P f [.pointer (some a)] h (Ret fun v h' => v = .int k x ∧ h' = h) :=
  fun w hw => ⟨_, w, run_call_load hf hname hb hn k he (by rw [cellAt_eq, hw]; exact hc), .refl w, rfl, hw⟩

theorem Own.setCell {w : World} (o : Own B L w.heap) (q : Nat) {b : Nat} {cs : List Value} {t : TypeId} (hk : L[q]? = some (box b cs t)) (off : Nat) (v : Value) :
    Own B (L.set q (box b (cs.set off v) t)) (w.setCell ⟨b, off, none⟩ v).heap := by
  have hb := o.boxBlk q hk
  refine o.set hk (by simp) (fun x _ hx => ?_) (setCell_blk hb) (fun x hx => .inl hx) (fun x hx => ?_)
  · have := (sets_other [v] w b off).2.1 x hx
    simpa [wsets] using this
  · have := o.hi _ (List.mem_of_getElem? hk) x hx
    simpa using this

theorem Same.setCell (w : World) (a : Addr) (v : Value) : Same w (w.setCell a v) := ⟨rfl, rfl, rfl, by simp⟩

theorem box_cell {w : World} (o : Own B L w.heap) (q : Nat) {b : Nat} {cs : List Value} {t : TypeId} (hk : L[q]? = some (box b cs t)) {off : Nat} {v : Value} (hv : cs[off]? = some v) :
    w.cell? ⟨b, off, none⟩ = some v ∧ w.frozen? ⟨b, off, none⟩ = false := by
  have hb := o.boxBlk q hk
  refine ⟨by rw [cellAt_eq, o.cellB q hk]; exact hv, ?_⟩
  simp [World.frozen?, hb]

theorem XSpec.store (hf : P.funcs[f]? = some fn) (hname : (fn.name == "runtime.NumGoroutine") = false) (hb : fn.body.isNone = true) (hn : Extern.findNext fn = none)
    (he : Extern.find fn = some Extern.Atomic.storeT) (o : Own B L h) (q : Nat) {b off : Nat} {cs : List Value} {t : TypeId} (hk : L[q]? = some (box b cs t)) {k : IntKind} {y : Int} {u : Value} (hv : cs[off]? = some u) :
    XSpec P f [.pointer (some ⟨b, off, none⟩), .int k y] h (Ret fun v h' => v = .tuple #[] ∧ Own B (L.set q (box b (cs.set off (.int k y)) t)) h') := fun w hw => by
  subst hw
  obtain ⟨hc, hz⟩ := box_cell o q hk hv
  exact ⟨_, _, run_call_store hf hname hb hn he hc hz, Same.setCell _ _ _, rfl, o.setCell q hk off _⟩

theorem XSpec.add (hf : P.funcs[f]? = some fn) (hname : (fn.name == "runtime.NumGoroutine") = false) (hb : fn.body.isNone = true) (hn : Extern.findNext fn = none) (k : IntKind)
    (he : Extern.find fn = some (Extern.Atomic.update (Op.intArith .add) k true)) (o : Own B L h) (q : Nat) {b off : Nat} {cs : List Value} {t : TypeId} (hk : L[q]? = some (box b cs t)) {x y : Int} (hv : cs[off]? = some (.int k x)) :
    XSpec P f [.pointer (some ⟨b, off, none⟩), .int k y] h (Ret fun v h' => v = .int k (k.wrap (x + y)) ∧ Own B (L.set q (box b (cs.set off (.int k (k.wrap (x + y)))) t)) h') := fun w hw => by
  subst hw
  obtain ⟨hc, hz⟩ := box_cell o q hk hv
  exact ⟨_, _, run_call_add hf hname hb hn k he hc hz (by simp [Op.intArith]), Same.setCell _ _ _, rfl, o.setCell q hk off _⟩

end

/- DEFERRED CALLS OF FUNCTIONS -/
/-- A function, entered as a deferred call. -/
def DSpec (P : Program) (f : FuncId) (args : List Value) (h : Heap) (R : Ending → Heap → Prop) : Prop :=
  (∃ fn, P.funcs[f]? = some fn ∧ fn.body.isNone = false ∧ (fn.name == "runtime.NumGoroutine") = false) ∧
  ∀ (u : FrameMode) (w : World), w.heap = h → CallsD P f args.toArray u w fun e u' w' => u' = u ∧ Same w w' ∧ R e w'.heap

theorem DSpec.enter {P : Program} {f : FuncId} {fn : Func} {c : Code} {n : Nat} {args : List Value} {h : Heap} {R : Ending → Heap → Prop}
    (hf : P.funcs[f]? = some fn) (hb : fn.body = some c) (hn : fn.ntmps = n) (hname : (fn.name == "runtime.NumGoroutine") = false)
    (hv : entryK args n fun s => vcode P c (endQ P fn R) s h) : DSpec P f args h R := by
  refine ⟨⟨fn, hf, by simp [hb], hname⟩, fun u w hw => ?_⟩
  subst hw
  rw [entryK_eq] at hv
  have hwp := vcode_sound (w0 := w) (ds := []) c _ _ w (.refl w) hv
  have he : act (args ++ List.replicate (n - args.length) undef) [] = { tmps := args.toArray ++ Array.replicate (fn.ntmps - args.toArray.size) undef, defers := [] } := by
    simp [act, hn]
  rw [he] at hwp
  refine callsD_of_wp (R := fun e w' => Same w w' ∧ R e w'.heap) hf hb (wp_mono hwp ?_)
  rintro e a w' ⟨s', rfl, hs', hq⟩
  cases e with
  | normal => obtain ⟨v, hr, hR⟩ := hq.ex; exact ⟨rfl, v, hr w' rfl, hs', hR⟩
  | ret => obtain ⟨v, hr, hR⟩ := hq.ex; exact ⟨rfl, v, hr w' rfl, hs', hR⟩
  | panic c => exact ⟨rfl, hs', hq⟩
  | _ => exact hq.elim

end Go.Proofs.YtnmfanjhepepbaaGreatDoor
