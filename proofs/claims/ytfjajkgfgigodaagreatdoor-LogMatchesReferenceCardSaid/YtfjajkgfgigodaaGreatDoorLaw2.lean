/-
  A law of which the world's shape is wanted too; arguments that are structs of one-cell fields.
-/
import Derived.Test.YtfjajkgfgigodaaGreatDoorLaw
import Derived.Lib.SmallJoins
import Derived.Shelf.Vars
namespace Go.Proofs.YtfjajkgfgigodaaGreatDoor
open Go Go.ChangeShapes Go.WideShapes Go.ChangeAt Go.RowKit Go.WideElems Go.Joins Go.Deep

section
variable {H : Type} {enc : TypeId × Value → H} {P : Program} {W : World}

theorem In.pairZ {base : Nat} {t : TypeId} {v : Value} {d : DataW H} {f0 f1 : Field} (i : In enc P W base t v d) (hs : P.underlying t = some (.struct #[f0, f1])) (hone : oneCellFields P #[f0, f1] = true) (hC : P.cellsOf t = 2)
    (h0 : P.underlying f0.type = some (.int .i64)) (h1 : P.underlying f1.type = some (.int .i64)) :
    ∃ a b : Int, v = .agg ⟨[.int .i64 a, .int .i64 b]⟩ ∧ (-9223372036854775808 ≤ a ∧ a ≤ 9223372036854775807) ∧ (-9223372036854775808 ≤ b ∧ b ≤ 9223372036854775807) := by
  obtain ⟨p, h⟩ := i.trod
  obtain ⟨v0, v1, y0, y1, n, rfl, _, _, t0, t1⟩ := open_agg2 hs hone hC i.ok h
  obtain ⟨a, ha, _, wa⟩ := DataW.trod_int h0 t0
  obtain ⟨b, hb, _, wb⟩ := DataW.trod_int h1 t1
  simp only [List.cons.injEq, and_true] at ha hb
  subst ha hb
  exact ⟨a, b, rfl, by simpa [Lit.wf, IntKind.min, IntKind.max, IntKind.signed, IntKind.bits] using wa, by simpa [Lit.wf, IntKind.min, IntKind.max, IntKind.signed, IntKind.bits] using wb⟩

theorem In.rawZ {base : Nat} {t : TypeId} {v : Value} {d : DataW H} {f0 f1 f2 : Field} (i : In enc P W base t v d) (hs : P.underlying t = some (.struct #[f0, f1, f2])) (hone : oneCellFields P #[f0, f1, f2] = true) (hC : P.cellsOf t = 3)
    (h0 : P.underlying f0.type = some (.int .i64)) (h1 : P.underlying f1.type = some (.int .i64)) (h2 : P.underlying f2.type = some .string) :
    ∃ (a b : Int) (l : List UInt8), v = .agg ⟨[.int .i64 a, .int .i64 b, .string ⟨⟨l⟩⟩]⟩ ∧ (-9223372036854775808 ≤ a ∧ a ≤ 9223372036854775807) ∧ (-9223372036854775808 ≤ b ∧ b ≤ 9223372036854775807) ∧ l.length ≤ 9223372036854775807 := by
  obtain ⟨p, h⟩ := i.trod
  obtain ⟨v0, v1, v2, y0, y1, y2, n, rfl, _, _, t0, t1, t2⟩ := open_agg3 hs hone hC i.ok h
  obtain ⟨a, ha, _, wa⟩ := DataW.trod_int h0 t0
  obtain ⟨b, hb, _, wb⟩ := DataW.trod_int h1 t1
  obtain ⟨⟨⟨l⟩⟩, hl, _, wl⟩ := DataW.trod_string h2 t2
  simp only [List.cons.injEq, and_true] at ha hb hl
  subst ha hb hl
  exact ⟨a, b, l, rfl, by simpa [Lit.wf, IntKind.min, IntKind.max, IntKind.signed, IntKind.bits] using wa, by simpa [Lit.wf, IntKind.min, IntKind.max, IntKind.signed, IntKind.bits] using wb, by unfold maxLen at wl; exact wl⟩

/-- As law_lifted; the walk is handed the world's shape too. -/
theorem law_liftedS {C : Checked} {os : Os} {f : FuncId} {fn : Func} {s : ChangeSpec} {X : World → Array Value → Prop} {tb : TypeId} (args0 : Array Value) (fuel : Nat) (w0 : World)
    (hX : ∀ (w w' : World) (args : Array Value), w.heap = w'.heap → X w args → X w' args) (own : ownKnob C.prog.godebug = none) (started : os.Started) (noInit : C.prog.inits.idxOf? f = none) (hfn : C.prog.funcs[f]? = some fn)
    (hl : laidOutB C.prog = true) (hts : (fn.params.toList.all fun t => C.prog.readableRec t && decide (t < C.prog.types.size)) = true) (hres : fn.resultTypes = #[tb]) (htb : C.prog.underlying tb = some .bool) (hvars : s.vars = [])
    (hs : ∀ ds : List (DataW H), ds.length = fn.params.toList.length → s.fn H ds = { results := [.lit (.bool true)], args := ds })
    (hos : w0.os = os) (hsh : (w0.forCall (fun _ _ => 0) ⟨#[], args0, []⟩).Shaped C.prog)
    (hok : Input.okWideB C.prog (w0.forCall (fun _ _ => 0) ⟨#[], args0, []⟩) f ⟨#[], args0, []⟩ = true)
    (hpre : s.preB enc C.prog fn [] false (w0.forCall (fun _ _ => 0) ⟨#[], args0, []⟩).memory args0 fuel = true)
    (hsz : s.sizedB enc C.prog fn false (w0.forCall (fun _ _ => 0) ⟨#[], args0, []⟩).memory args0 fuel = true)
    (hx : X (w0.forCall (fun _ _ => 0) ⟨#[], args0, []⟩).memory args0)
    (hspec : ∀ (W : World) (base : Nat) (args : List Value) (ds : List (DataW H)), InAll enc C.prog W base fn.params.toList args ds → X W args.toArray → W.ShapedOpen C.prog → SpecR C.prog f args W.heap fun r h' => r = .bool true ∧ Own W.heap [] h') :
    ReturnsInHanded {} C os f .any (fun w args => (s.pre enc C.prog fn [] false w args ∧ X w args) ∧ sizedMet enc C.prog fn (OpenSpec.ofChange s) false w args) (s.post enc C.prog fn false true false false) := by
  refine returnsInHanded_of_calls own started noInit (ChangeSpec.witness_shaped (enc := enc) (C := C) (os := os) (X := X) false w0 args0 fuel hos hsh hok hpre hsz hx) ?_
  intro w tape i _ hshape _ hok' hpre' _
  obtain ⟨_, _, _, fn', hfn', _, _, _, _, hval⟩ := hok'
  obtain rfl : fn' = fn := Option.some.inj (hfn'.symm.trans hfn)
  obtain ⟨⟨⟨ds, gs, before, hw0, _⟩, hx0⟩, hz⟩ := hpre'
  have hW := DataW.Whole.of_heap (w' := w.forCall tape i) (by rfl) hw0
  have hw := hz.weights hw0
  have hL : X (w.forCall tape i) i.args := hX _ _ _ (by rfl) hx0
  generalize w.forCall tape i = W at *
  obtain ⟨_, args, _⟩ := i
  simp only at *
  have hW' := hW
  obtain ⟨p, q, hA, hV, rfl, hfz, hnd⟩ := hW
  rw [hvars] at hV
  obtain ⟨rfl, rfl⟩ := trodVars_none hV
  have hvt : s.plain.varTypes C.prog = [] := by simp [ChangeSpec.plain, DataSpec.varTypes, hvars]
  have hvt2 : (OpenSpec.ofChange s).bare.plain.varTypes C.prog = [] := hvt
  rw [hvt2, List.append_nil, List.append_nil] at hw
  have hin := InAll.mk' (base := w.heap.size) _ _ _ _ hA (fun j t v ht hv => hval j t v (by simpa using ht) (by simpa using hv)) hw
  have hlen := trodAll_len _ _ _ _ hA
  have hlt : ∀ x ∈ p, x.block < W.heap.size := fun x hx => hW'.lt x (by simp [hx])
  refine ((hspec W _ args.toList ds hin (by simpa using hL) hshape).2 W rfl).mono fun e W' ⟨hsame, he⟩ => ?_
  cases e with
  | returned v =>
    obtain ⟨rfl, ho⟩ := he
    have hB : Below W.heap.size W W' := ⟨hsame.os, hsame.tape, hsame.output, ho.ext.size, ho.ext.old⟩
    refine ChangeSpec.post_blind ⟨ds, [], p ++ [], [], p, [], hW', ?_, ?_, ?_, hB.frame _, fun h => by cases h⟩
    · rw [List.append_nil, hs ds hlen, hres]
      exact trodAll_mk1 (RowKit.shut_bool htb _)
    · rw [List.append_nil, hs ds hlen]
      exact trodAll_stays hl hB _ _ _ _ hts hA hlt
    · rw [List.append_nil, hs ds hlen, hvars]
      rfl
  | panicked c => exact he.elim
  | outgrown => exact he.elim

end
end Go.Proofs.YtfjajkgfgigodaaGreatDoor
