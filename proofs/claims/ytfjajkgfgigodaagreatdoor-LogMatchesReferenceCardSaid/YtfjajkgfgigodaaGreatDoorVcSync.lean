/-
  Functions without a body (atomic operations, marks), and functions that defer calls of functions.
-/
import Derived.Test.YtfjajkgfgigodaaGreatDoorVcDraw2
import Derived.Laws.LoneSync
namespace Go.Proofs.YtfjajkgfgigodaaGreatDoor
open Go

section
variable {P : Program} {f : FuncId} {fn : Func} {B : Base} {L : List Item} {h : Heap}

theorem XSpec.mark0 (hf : P.funcs[f]? = some fn) (hname : (fn.name == "runtime.NumGoroutine") = false) (hb : fn.body.isNone = true) (hn : Extern.findNext fn = none) (m : Mark)
    (he : Extern.find fn = some (fun _ => do mark m; pure Extern.Race.none_)) : XSpec P f [] h (Ret fun v h' => v = .tuple #[] ∧ h' = h) :=
  fun w hw => ⟨_, w, run_call_mark0 hf hname hb hn m he w, .refl w, rfl, hw⟩

theorem XSpec.marked (hf : P.funcs[f]? = some fn) (hname : (fn.name == "runtime.NumGoroutine") = false) (hb : fn.body.isNone = true) (hn : Extern.findNext fn = none) (m : Addr → Mark)
    (he : Extern.find fn = some (Extern.Race.marked m)) (a : Addr) : XSpec P f [.pointer (some a)] h (Ret fun v h' => v = .tuple #[] ∧ h' = h) :=
  fun w hw => ⟨_, w, run_call_marked hf hname hb hn m he a w, .refl w, rfl, hw⟩

theorem XSpec.load (hf : P.funcs[f]? = some fn) (hname : (fn.name == "runtime.NumGoroutine") = false) (hb : fn.body.isNone = true) (hn : Extern.findNext fn = none) (k : IntKind)
    (he : Extern.find fn = some (Extern.Atomic.loadT (.int k))) {a : Addr} {x : Int} (hc : cellAt h a = some (.int k x)) : XSpec P f [.pointer (some a)] h (Ret fun v h' => v = .int k x ∧ h' = h) :=
  fun w hw => ⟨_, w, run_call_load hf hname hb hn k he (by rw [cellAt_eq, hw]; exact hc), .refl w, rfl, hw⟩

theorem Own.setCell {w : World} (o : Own B L w.heap) (q : Nat) {b : Nat} {cs : List Value} {t : TypeId} (hk : L[q]? = some (box b cs t)) (off : Nat) (v : Value) :
    Own B (L.set q (box b (cs.set off v) t)) (w.setCell ⟨b, off, none⟩ v).heap := by
  have hb := o.boxBlk q hk
  refine o.set hk (by simp) (fun x _ hx => ?_) (setCell_blk hb) (fun x hx => .inl hx) (fun x hx => ?_)
  · have := (sets_other [v] w b off).2.1 x hx
    simpa [wsets] using this
  · have := o.hi _ (List.mem_of_getElem? hk) x hx
    simpa using this

theorem Same.setCell (w : World) (a : Addr) (v : Value) : Same w (w.setCell a v) := ⟨rfl, rfl, rfl, by simp⟩

theorem box_cell {w : World} (o : Own B L w.heap) (q : Nat) {b : Nat} {cs : List Value} {t : TypeId} (hk : L[q]? = some (box b cs t)) {off : Nat} {v : Value} (hv : cs[off]? = some v) :
    w.cell? ⟨b, off, none⟩ = some v ∧ w.frozen? ⟨b, off, none⟩ = false := by
  have hb := o.boxBlk q hk
  refine ⟨by rw [cellAt_eq, o.cellB q hk]; exact hv, ?_⟩
  simp [World.frozen?, hb]

theorem XSpec.cas (hf : P.funcs[f]? = some fn) (hname : (fn.name == "runtime.NumGoroutine") = false) (hb : fn.body.isNone = true) (hn : Extern.findNext fn = none) (k : IntKind)
    (he : Extern.find fn = some (Extern.Atomic.casT (.int k))) (o : Own B L h) (q : Nat) {b off : Nat} {cs : List Value} {t : TypeId} (hk : L[q]? = some (box b cs t)) {x y : Int} (hv : cs[off]? = some (.int k x)) :
    XSpec P f [.pointer (some ⟨b, off, none⟩), .int k x, .int k y] h (Ret fun v h' => v = .bool true ∧ Own B (L.set q (box b (cs.set off (.int k y)) t)) h') := fun w hw => by
  subst hw
  obtain ⟨hc, hz⟩ := box_cell o q hk hv
  exact ⟨_, _, run_call_cas_hit hf hname hb hn k he hc hz, Same.setCell _ _ _, rfl, o.setCell q hk off _⟩

theorem XSpec.store (hf : P.funcs[f]? = some fn) (hname : (fn.name == "runtime.NumGoroutine") = false) (hb : fn.body.isNone = true) (hn : Extern.findNext fn = none)
    (he : Extern.find fn = some Extern.Atomic.storeT) (o : Own B L h) (q : Nat) {b off : Nat} {cs : List Value} {t : TypeId} (hk : L[q]? = some (box b cs t)) {k : IntKind} {y : Int} {u : Value} (hv : cs[off]? = some u) :
    XSpec P f [.pointer (some ⟨b, off, none⟩), .int k y] h (Ret fun v h' => v = .tuple #[] ∧ Own B (L.set q (box b (cs.set off (.int k y)) t)) h') := fun w hw => by
  subst hw
  obtain ⟨hc, hz⟩ := box_cell o q hk hv
  exact ⟨_, _, run_call_store hf hname hb hn he hc hz, Same.setCell _ _ _, rfl, o.setCell q hk off _⟩

theorem XSpec.add (hf : P.funcs[f]? = some fn) (hname : (fn.name == "runtime.NumGoroutine") = false) (hb : fn.body.isNone = true) (hn : Extern.findNext fn = none) (k : IntKind)
    (he : Extern.find fn = some (Extern.Atomic.update (Op.intArith .add) k true)) (o : Own B L h) (q : Nat) {b off : Nat} {cs : List Value} {t : TypeId} (hk : L[q]? = some (box b cs t)) {x y : Int} (hv : cs[off]? = some (.int k x)) :
    XSpec P f [.pointer (some ⟨b, off, none⟩), .int k y] h (Ret fun v h' => v = .int k (k.wrap (x + y)) ∧ Own B (L.set q (box b (cs.set off (.int k (k.wrap (x + y)))) t)) h') := fun w hw => by
  subst hw
  obtain ⟨hc, hz⟩ := box_cell o q hk hv
  exact ⟨_, _, run_call_add hf hname hb hn k he hc hz (by simp [Op.intArith]), Same.setCell _ _ _, rfl, o.setCell q hk off _⟩

theorem StillVC.toUnsafe {ty : TypeId} {s : List Value} {K : KK} {src dst e : TypeId} {x : Operand} {a : Addr} {v : Value} (hs : P.underlying src = some (.pointer e)) (hd : P.underlying dst = some .unsafePointer)
    (hsz : ((P.info? e).map fun i => decide (i.size = 0)) = some false) (hx : ev s x = .pointer (some a)) (hc : cellAt h a = some v) (hk : K (.pointer (some a)) false h) : StillVC false P (.convert src dst x) ty s h K :=
  ⟨.pointer (some a), false, [(a, v)], by simp, by simpa using hc, fun w hw => by
    have : w.cell? a = some v := hw (a, v) (by simp)
    have := run_convert_to_unsafe (P := P) (src := src) (dst := dst) hs hd hsz this
    simp [execOp, hx, this], hk⟩

end

/- DEFERRED CALLS OF FUNCTIONS -/
/-- A function, entered as a deferred call. -/
def DSpec (P : Program) (f : FuncId) (args : List Value) (h : Heap) (R : Ending → Heap → Prop) : Prop :=
  (∃ fn, P.funcs[f]? = some fn ∧ fn.body.isNone = false ∧ (fn.name == "runtime.NumGoroutine") = false) ∧
  ∀ (u : FrameMode) (w : World), w.heap = h → CallsD P f args.toArray u w fun e u' w' => u' = u ∧ Same w w' ∧ R e w'.heap

theorem DSpec.enter {P : Program} {f : FuncId} {fn : Func} {c : Code} {n : Nat} {args : List Value} {h : Heap} {R : Ending → Heap → Prop}
    (hf : P.funcs[f]? = some fn) (hb : fn.body = some c) (hn : fn.ntmps = n) (hname : (fn.name == "runtime.NumGoroutine") = false)
    (hv : entryK args n fun s => vcode P c (endQ P fn R) s h) : DSpec P f args h R := by
  refine ⟨⟨fn, hf, by simp [hb], hname⟩, fun u w hw => ?_⟩
  subst hw
  rw [entryK_eq] at hv
  have hwp := vcode_sound (w0 := w) (ds := []) c _ _ w (.refl w) hv
  have he : act (args ++ List.replicate (n - args.length) undef) [] = { tmps := args.toArray ++ Array.replicate (fn.ntmps - args.toArray.size) undef, defers := [] } := by
    simp [act, hn]
  rw [he] at hwp
  refine callsD_of_wp (R := fun e w' => Same w w' ∧ R e w'.heap) hf hb (wp_mono hwp ?_)
  rintro e a w' ⟨s', rfl, hs', hq⟩
  cases e with
  | normal => obtain ⟨v, hr, hR⟩ := hq.ex; exact ⟨rfl, v, hr w' rfl, hs', hR⟩
  | ret => obtain ⟨v, hr, hR⟩ := hq.ex; exact ⟨rfl, v, hr w' rfl, hs', hR⟩
  | panic c => exact ⟨rfl, hs', hq⟩
  | _ => exact hq.elim

/-- The last deferred call runs, and returns. -/
theorem leaves_step {P : Program} {fn : Func} {tmps : Array Value} {R : Ending → World → Prop} {f : FuncId} {args : List Value} {ds : List Deferred} {w : World} {Post : Value → Heap → Prop}
    (sp : DSpec P f args w.heap (Ret Post)) (hk : ∀ v w', Same w w' → Post v w'.heap → Leaves P fn tmps R ds .returning w') :
    Leaves P fn tmps R ({ target := .fn (.func f) #[], args := args.toArray } :: ds) .returning w := by
  obtain ⟨⟨gn, hg, hbody, hname⟩, hsp⟩ := sp
  refine leaves_cons (f := f) (args := args.toArray) (by simp) ?_ ?_
  · have h1 : ¬ gn.name = "runtime.NumGoroutine" := by simpa using hname
    have h2 : ¬ gn.body = none := by intro e; simp [e] at hbody
    simp [invoke, callFunc, hg, h1, h2]
  · refine (hsp .returning w rfl).mono ?_
    rintro e u' w' ⟨rfl, hs, hR⟩
    cases e with
    | returned v => exact hk v w' hs hR
    | panicked c => exact hR.elim
    | outgrown => exact hR.elim

/-- A region that defers the call of a method of a field. -/
theorem wp_defer_field {P : Program} {id t1 t2 t3 T k g : Nat} {more : List Operand} {s : List Value} {w : World} {ds : List Deferred} {b o off sz : Nat} {places : List (Nat × Nat)} {aggs : List Bool} {zero : List Value}
    {ty1 ty2 ty3 ty4 : TypeId} {p1 p2 p3 p4 : String} {a1 a2 a3 a4 : Array Edge} {tys : Array TypeId} {Q : Exit → Act → World → Prop}
    (hT : StructT P T places aggs zero) (hp : places[k]? = some (off, sz)) (hz : Nat.beq sz 0 = false) (h0 : sget s 0 = .pointer (some ⟨b, o, none⟩)) (_h1 : 0 < t1) (h2 : t1 < t2) (h3 : t2 < t3) (hl : t3 < s.length) (hm : ∀ x ∈ more, ∃ v, x = .const v)
    (hk : Q .normal (act (((s.set t1 (.pointer (some ⟨b, o, none⟩))).set t2 (.pointer (some ⟨b, o, none⟩))).set t3 (.pointer (some ⟨b, o + off, none⟩))) (⟨.fn (.func g) #[], (.pointer (some ⟨b, o + off, none⟩) :: more.map (ev s)).toArray⟩ :: ds)) w) :
    (Code.region id #[⟨some t1, .move (.tmp 0), ty1, p1, a1, none⟩, ⟨some t2, .nilCheck (.tmp t1), ty2, p2, a2, none⟩, ⟨some t3, .fieldAddr T (.tmp t2) k, ty3, p3, a3, none⟩, ⟨none, .defer ⟨.value (.func g), ⟨.tmp t3 :: more⟩, tys⟩, ty4, p4, a4, none⟩] false).wp P Q (act s ds) w := by
  have gs : ∀ (s : List Value) (t : Nat) (v : Value), t < s.length → sget (s.set t v) t = v := fun s t v ht => by rw [← sget_getD]; simp [List.getD, ht]
  refine wp_region ?_
  show wpOps P _ Q [0, 1, 2, 3] (act s ds) w
  unfold wpOps
  simp only [List.getElem?_toArray, List.getElem?_cons_zero, Region.wanted, if_true]
  refine .inl ?_
  have e1 : ev s (.tmp 0) = .pointer (some ⟨b, o, none⟩) := h0
  have r1 : (execOp (ev s) ⟨none, .move (.tmp 0), ty1, "", #[], none⟩).run P w = .ok (.value (.pointer (some ⟨b, o, none⟩))) w := by simp [execOp, e1]
  simp only [Oper.wp, act_eval, execOp_head, r1, Oper.upon, act_put]
  unfold wpOps
  simp only [List.getElem?_toArray, List.getElem?_cons_succ, List.getElem?_cons_zero, Region.wanted, if_true]
  refine .inl ?_
  have e2 : ev (s.set t1 (.pointer (some ⟨b, o, none⟩))) (.tmp t1) = .pointer (some ⟨b, o, none⟩) := gs _ _ _ (by omega)
  have r2 : (execOp (ev (s.set t1 (.pointer (some ⟨b, o, none⟩)))) ⟨none, .nilCheck (.tmp t1), ty2, "", #[], none⟩).run P w = .ok (.value (.pointer (some ⟨b, o, none⟩))) w := by simp [execOp, e2]
  simp only [Oper.wp, act_eval, execOp_head, r2, Oper.upon, act_put]
  unfold wpOps
  simp only [List.getElem?_toArray, List.getElem?_cons_succ, List.getElem?_cons_zero, Region.wanted, if_true]
  refine .inl ?_
  have e3 : ev ((s.set t1 (.pointer (some ⟨b, o, none⟩))).set t2 (.pointer (some ⟨b, o, none⟩))) (.tmp t2) = .pointer (some ⟨b, o, none⟩) := gs _ _ _ (by simp; omega)
  obtain ⟨v, l, reads, hre, _, hrun, hv⟩ := (StillVC.fieldAddr (pr := true) (P := P) (ty := ty3) (s := (s.set t1 (.pointer (some ⟨b, o, none⟩))).set t2 (.pointer (some ⟨b, o, none⟩))) (h := w.heap) (x := .tmp t2) (f := k)
    (K := fun v _ _ => v = .pointer (some ⟨b, o + off, none⟩)) hT e3 hp hz rfl).ex
  subst hv
  have r3 := hrun w (by rw [hre rfl]; simp)
  simp only [Oper.wp, act_eval, execOp_head, r3, Oper.upon, act_put]
  unfold wpOps
  simp only [List.getElem?_toArray, List.getElem?_cons_succ, List.getElem?_cons_zero, Region.wanted, if_true]
  refine .inl ?_
  have e5 : more.map (ev (((s.set t1 (.pointer (some ⟨b, o, none⟩))).set t2 (.pointer (some ⟨b, o, none⟩))).set t3 (.pointer (some ⟨b, o + off, none⟩)))) = more.map (ev s) := by
    refine List.map_congr_left fun x hx => ?_
    obtain ⟨v, rfl⟩ := hm x hx
    rfl
  simp only [Oper.wp, act_eval]
  have e7 := gs ((s.set t1 (.pointer (some ⟨b, o, none⟩))).set t2 (.pointer (some ⟨b, o, none⟩))) t3 (.pointer (some ⟨b, o + off, none⟩)) (by simp; omega)
  simp [execOp, resolve, e5, ev, Deferred.ofValue, Oper.upon, wpOps, e7]
  exact hk

end Go.Proofs.YtfjajkgfgigodaaGreatDoor
