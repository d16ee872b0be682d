/-
  Functions with one deferred closure that recovers: the kit's laws on defers and recovers, for the small program logic.
-/
import Derived.Test.YtfjajkgfgigodaaGreatDoorVcIface
import Derived.Recover
namespace Go.Proofs.YtfjajkgfgigodaaGreatDoor
open Go

/-- A region that defers one call: the slots behind it, and the call. -/
def Defers (P : Program) (id : Nat) (ops : Array Oper) (s s1 : List Value) (d : Deferred) : Prop :=
  ∀ (w : World) (Q : Exit → Act → World → Prop), Q .normal (act s1 [d]) w → (Code.region id ops false).wp P Q (act s []) w

/-- The deferred call runs, and the function ends. -/
structure LeaveVC (P : Program) (fn : Func) (d : Deferred) (u : FrameMode) (s : List Value) (h : Heap) (R : Ending → Heap → Prop) : Prop where
  lv : ∀ w0 w : World, Same w0 w → w.heap = h → Leaves P fn s.toArray (fun e w' => Same w0 w' ∧ R e w'.heap) [d] u w

def leaveQ (P : Program) (fn : Func) (d : Deferred) (R : Ending → Heap → Prop) : QQ := fun e s h =>
  match e with
  | .normal => LeaveVC P fn d .returning s h R
  | .ret => LeaveVC P fn d .returning s h R
  | .panic c => LeaveVC P fn d (.panicking c) s h R
  | _ => False

structure DeferVC (P : Program) (fn : Func) (id : Nat) (ops : Array Oper) (rest : Code) (R : Ending → Heap → Prop) (s : List Value) (h : Heap) : Prop where
  ex : ∃ s1 d, Defers P id ops s s1 d ∧ vcode P rest (ngQ (leaveQ P fn d R)) s1 h

theorem Spec.enterD {P : Program} {f : FuncId} {fn : Func} {r0 c1 rest : Code} {id n : Nat} {ops : Array Oper} {args : List Value} {h : Heap} {R : Ending → Heap → Prop}
    (hf : P.funcs[f]? = some fn) (hb : fn.body = some (.seq r0 (.scope (.seq c1 (.seq (.region id ops false) rest))))) (hn : fn.ntmps = n) (hname : (fn.name == "runtime.NumGoroutine") = false)
    (hv : entryK args n fun s => vcode P r0 (onN (fun s h => vcode P c1 (onN (fun s h => DeferVC P fn id ops rest R s h) (ngQ (endQ P fn R))) s h) (endQ P fn R)) s h) : Spec P f args h R := by
  refine ⟨⟨fn, hf, by simp [hb], hname⟩, fun w hw => ?_⟩
  subst hw
  rw [entryK_eq] at hv
  have he : act (args ++ List.replicate (n - args.length) undef) [] = { tmps := args.toArray ++ Array.replicate (fn.ntmps - args.toArray.size) undef, defers := [] } := by
    simp [act, hn]
  have leave0 : ∀ e s' w', Same w w' → endQ P fn R e s' w'.heap → bodyPostD P fn (fun e w' => Same w w' ∧ R e w'.heap) e (act s' []) w' := by
    intro e s' w' hs hq
    cases e with
    | normal => obtain ⟨v, hr, hR⟩ := hq.ex; exact ⟨v, hr w' rfl, hs, hR⟩
    | ret => obtain ⟨v, hr, hR⟩ := hq.ex; exact ⟨v, hr w' rfl, hs, hR⟩
    | panic c => exact ⟨hs, hq⟩
    | _ => exact hq.elim
  refine calls_of_wp_defers hf hb ?_
  rw [← he]
  refine wp_seq (wp_mono (vcode_sound (w0 := w) (ds := []) r0 _ _ w (.refl w) hv) ?_)
  rintro e a w1 ⟨s1, rfl, hs1, hq⟩
  cases e with
  | normal =>
    refine wp_scope_straight (wp_seq (wp_mono (vcode_sound (w0 := w) (ds := []) c1 _ _ w1 hs1 hq) ?_))
    rintro e a w2 ⟨s2, rfl, hs2, hq⟩
    cases e with
    | normal =>
      obtain ⟨s3, d, hd, hr⟩ := hq.ex
      refine wp_seq (hd w2 _ (wp_mono (vcode_sound (w0 := w) (ds := [d]) rest _ _ w2 hs2 hr) ?_))
      rintro e a w3 ⟨s4, rfl, hs3, hq⟩
      cases e with
      | normal => exact hq.lv w w3 hs3 rfl
      | ret => exact hq.lv w w3 hs3 rfl
      | panic c => exact hq.lv w w3 hs3 rfl
      | _ => exact hq.elim
    | ret => exact leave0 .ret s2 w2 hs2 hq
    | panic c => exact leave0 (.panic c) s2 w2 hs2 hq
    | _ => exact hq.elim
  | ret => exact leave0 .ret s1 w1 hs1 hq
  | panic c => exact leave0 (.panic c) s1 w1 hs1 hq
  | _ => exact hq.elim

/-- A region that makes a closure and defers its call. -/
theorem DeferVC.closure {P : Program} {fn : Func} {id g t : Nat} {rest : Code} {R : Ending → Heap → Prop} {s : List Value} {h : Heap} {caps : List Operand} {ty ty' : TypeId} {pos pos' : String} {after after' : Array Edge} {tys : Array TypeId} (ht : t < s.length)
    (hk : evsK s caps fun cap => ssetK s t (.func (.func g) ⟨[]⟩ ⟨cap⟩) fun s1 => vcode P rest (ngQ (leaveQ P fn ⟨.fn (.func g) ⟨cap⟩, #[]⟩ R)) s1 h) :
    DeferVC P fn id #[⟨some t, .makeFunc (.func g) ⟨[]⟩ ⟨caps⟩, ty, pos, after, none⟩, ⟨none, .defer ⟨.value (.tmp t), ⟨[]⟩, tys⟩, ty', pos', after', none⟩] rest R s h := by
  simp only [evsK_eq, ssetK_eq] at hk
  refine ⟨_, _, ?_, hk⟩
  intro w Q hQ
  refine wp_region ?_
  have e1 : ∀ a, (act (s.set t a) []).eval (.tmp t) = a := by
    intro a
    rw [act_eval]
    simp only [ev, ← sget_getD]
    simp [List.getD, ht]
  have e0 : ∀ a, (act s []).put (some t) a = act (s.set t a) [] := fun a => act_put _ _ _ _
  have e2 : caps.map (act s []).eval = caps.map (ev s) := by rw [act_eval]
  show wpOps P _ Q [0, 1] (act s []) w
  unfold wpOps
  simp only [List.getElem?_toArray, List.getElem?_cons_zero, Region.wanted, if_true]
  refine .inl ?_
  simp only [Oper.wp, execOp, Instr.makeFunc, Sem.run_bind, Sem.run_pure, Result.andThen_ok, Oper.upon, List.map_toArray, List.map_nil, e2, e0]
  unfold wpOps
  simp only [List.getElem?_toArray, List.getElem?_cons_succ, List.getElem?_cons_zero, Region.wanted, if_true]
  refine .inl ?_
  simp [Oper.wp, execOp, resolve, e1, Deferred.ofValue, Oper.upon, wpOps]
  exact hQ

/-- A region that recovers: the slots behind it, by what recover gives. -/
def Recovers (P : Program) (ops : Array Oper) (s : List Value) (f : Value → List Value) : Prop :=
  ∀ (cs : List Frame) (w : World) (Q : Exit → Act → List Frame → World → Prop),
    (∀ v cs', (recoverD cs = some (v, cs') ∨ (recoverD cs = none ∧ v = .nilIface ∧ cs' = cs)) → Q .normal (act (f v) []) cs' w) → wpOpsS P ops Q (List.range ops.size) (act s []) cs w

/-- How the function ends behind the deferred call: by its results. -/
def recQ (P : Program) (fn : Func) (s : List Value) (R : Ending → Heap → Prop) : QQ := fun e _ h =>
  match e with
  | .normal => RetVC P fn s h fun v h => R (.returned v) h
  | .ret => RetVC P fn s h fun v h => R (.returned v) h
  | _ => False

theorem LeaveVC.recovers {P : Program} {fn gn : Func} {g : FuncId} {id n : Nat} {ops : Array Oper} {rest : Code} {cap s : List Value} {h : Heap} {R : Ending → Heap → Prop} {u : FrameMode} {f : Value → List Value} (v : Value)
    (hg : P.funcs[g]? = some gn) (hb : gn.body = some (.seq (.region id ops false) rest)) (hn : gn.ntmps = n) (hname : (gn.name == "runtime.NumGoroutine") = false) (hres : gn.results = #[])
    (hu : (u = .returning ∧ v = .nilIface) ∨ u = .panicking [{ v, recovered := false }])
    (hrec : Recovers P ops (cap ++ List.replicate (n - cap.length) undef) f) (hv : vcode P rest (recQ P fn s R) (f v) h) :
    LeaveVC P fn ⟨.fn (.func g) ⟨cap⟩, #[]⟩ u s h R where
  lv w0 w hs hw := by
    subst hw
    have hun : u ≠ .run := by
      rcases hu with ⟨rfl, _⟩ | rfl <;> intro e <;> cases e
    refine leaves_cons (f := g) (args := ⟨cap⟩) hun ?_ ?_
    · have h1 : ¬ gn.name = "runtime.NumGoroutine" := by simpa using hname
      have h2 : ¬ gn.body = none := by intro e; simp [e] at hb
      simp [invoke, callFunc, hg, h1, h2]
    · refine callsD_of_wpS hg hb ?_
      intro c₀ cs hc
      have he : ({ tmps := (⟨cap⟩ : Array Value) ++ Array.replicate (gn.ntmps - (⟨cap⟩ : Array Value).size) undef, defers := [] } : Act) = act (cap ++ List.replicate (n - cap.length) undef) [] := by
        simp [act, hn]
      rw [he]
      refine wpS_seq (wpS_region (hrec _ _ _ ?_))
      intro v' cs' hv'
      have key : v' = v ∧ ∃ u', cs' = { c₀ with mode := u' } :: cs ∧ settle u' = .returning := by
        rcases hu with ⟨rfl, rfl⟩ | rfl
        · have : recoverD (c₀ :: cs) = none := by simp [recoverD, hc]
          rw [this] at hv'
          rcases hv' with h | ⟨_, rfl, rfl⟩
          · cases h
          · exact ⟨rfl, .returning, by rw [← hc], rfl⟩
        · have : recoverD (c₀ :: cs) = some (v, { c₀ with mode := .panicking [{ v, recovered := true }] } :: cs) := by simp [recoverD, hc]
          rw [this] at hv'
          rcases hv' with h | ⟨h, _⟩
          · injection h with h
            injection h with h1 h2
            exact ⟨h1.symm, _, h2.symm, rfl⟩
          · cases h
      obtain ⟨rfl, u', rfl, hu'⟩ := key
      refine wpS_of_wp (wp_mono (vcode_sound (w0 := w0) (ds := []) rest _ _ w hs hv) ?_)
      rintro e a w' ⟨s', rfl, hs', hq⟩
      have hr : ∀ q : RetVC P fn s w'.heap (fun v h => R (.returned v) h), Leaves P fn s.toArray (fun e w' => Same w0 w' ∧ R e w'.heap) [] (settle u') w' := by
        intro q
        obtain ⟨r, hr, hR⟩ := q.ex
        rw [hu']
        exact ⟨r, hr w' rfl, hs', hR⟩
      cases e with
      | normal => exact ⟨rfl, u', rfl, .tuple #[], by rw [results_none hres], hr hq⟩
      | ret => exact ⟨rfl, u', rfl, .tuple #[], by rw [results_none hres], hr hq⟩
      | _ => exact hq.elim

end Go.Proofs.YtfjajkgfgigodaaGreatDoor
