/-
  From what the statements' form hands to a call (data that were read, of a size that fits) to the arguments of the walks, and back.
-/
import Derived.Test.YtfjajkgfgigodaaGreatDoorVcMem3
import Derived.ProofKit
import Derived.LaidMore
import Derived.OpenShut
import Derived.Stop.Joined
import Derived.Stop.LaidErr
import Derived.SliceStrings
import Derived.SevenTiedAt
namespace Go.Proofs.YtfjajkgfgigodaaGreatDoor
open Go Go.ChangeShapes Go.WideShapes Go.ChangeAt Go.RowKit Go.WideElems

section
variable {H : Type} {enc : TypeId × Value → H} {P : Program} {W : World}

/-- One argument: its value has its type's form, reads as a datum, and is of a size that fits. -/
structure In {H : Type} (enc : TypeId × Value → H) (P : Program) (W : World) (base : Nat) (t : TypeId) (v : Value) (d : DataW H) : Prop where
  ok : Value.okWide P W .any base t v
  trod : ∃ p, DataW.Trod enc P W 0 (fun _ => true) true t v d p
  fits : (d.weights P t).all (· ≤ reachBytes) = true

def InAll {H : Type} (enc : TypeId × Value → H) (P : Program) (W : World) (base : Nat) : List TypeId → List Value → List (DataW H) → Prop
  | [], [], [] => True
  | t :: ts, v :: vs, d :: ds => In enc P W base t v d ∧ InAll enc P W base ts vs ds
  | _, _, _ => False

theorem InAll.nil {base : Nat} {vs : List Value} {ds : List (DataW H)} (h : InAll enc P W base [] vs ds) : vs = [] := by
  cases vs with
  | nil => rfl
  | cons v vs => exact (show False from h).elim

theorem InAll.cons {base : Nat} {t : TypeId} {ts : List TypeId} {vs : List Value} {ds : List (DataW H)} (h : InAll enc P W base (t :: ts) vs ds) :
    ∃ v d vs' ds', vs = v :: vs' ∧ ds = d :: ds' ∧ In enc P W base t v d ∧ InAll enc P W base ts vs' ds' := by
  cases vs with
  | nil => exact (show False from h).elim
  | cons v vs => cases ds with
    | nil => exact (show False from h).elim
    | cons d ds => exact ⟨v, d, vs, ds, rfl, rfl, h.1, h.2⟩

theorem InAll.mk' {base : Nat} : ∀ (ts : List TypeId) (vs : List Value) (ds : List (DataW H)) (ps : List MemPlace),
    DataW.TrodAll enc P W 0 (fun _ => true) true ts vs ds ps → (∀ (j : Nat) t v, ts[j]? = some t → vs[j]? = some v → Value.okWide P W .any base t v) →
    (DataW.weightsEach P ts ds).all (· ≤ reachBytes) = true → InAll enc P W base ts vs ds
  | [], [], [], _, _, _, _ => trivial
  | t :: ts, v :: vs, d :: ds, ps, ⟨p, q, h1, h2, _⟩, hv, hw => by
    simp only [DataW.weightsEach, List.all_append, Bool.and_eq_true] at hw
    exact ⟨⟨hv 0 t v rfl rfl, ⟨p, h1⟩, hw.1⟩, InAll.mk' ts vs ds q h2 (fun j t v ht hv' => hv (j + 1) t v ht hv') hw.2⟩
  | [], _ :: _, [], _, h, _, _ => (show False from h).elim
  | [], [], _ :: _, _, h, _, _ => (show False from h).elim
  | [], _ :: _, _ :: _, _, h, _, _ => (show False from h).elim
  | _ :: _, [], [], _, h, _, _ => (show False from h).elim
  | _ :: _, [], _ :: _, _, h, _, _ => (show False from h).elim
  | _ :: _, _ :: _, [], _, h, _, _ => (show False from h).elim

theorem trodAll_len : ∀ (ts : List TypeId) (vs : List Value) (ds : List (DataW H)) (ps : List MemPlace), DataW.TrodAll enc P W 0 (fun _ => true) true ts vs ds ps → ds.length = ts.length
  | [], [], [], _, _ => rfl
  | _ :: ts, _ :: vs, _ :: ds, _, ⟨_, q, _, h2, _⟩ => by simp [trodAll_len ts vs ds q h2]
  | [], _ :: _, [], _, h => (show False from h).elim
  | [], [], _ :: _, _, h => (show False from h).elim
  | [], _ :: _, _ :: _, _, h => (show False from h).elim
  | _ :: _, [], [], _, h => (show False from h).elim
  | _ :: _, [], _ :: _, _, h => (show False from h).elim
  | _ :: _, _ :: _, [], _, h => (show False from h).elim

theorem trodAll_stays (hl : laidOutB P = true) {W' : World} (hb : Below W.heap.size W W') : ∀ (ts : List TypeId) (vs : List Value) (ds : List (DataW H)) (ps : List MemPlace),
    (ts.all fun t => P.readableRec t && decide (t < P.types.size)) = true → DataW.TrodAll enc P W 0 (fun _ => true) true ts vs ds ps → (∀ x ∈ ps, x.block < W.heap.size) →
    DataW.TrodAll enc P W' 0 (fun b => decide (b < W.heap.size)) true ts vs ds ps
  | [], [], [], _, _, h, _ => h
  | t :: ts, v :: vs, d :: ds, ps, ht, ⟨p, q, h1, h2, e⟩, hlt => by
    subst e
    simp only [List.all_cons, Bool.and_eq_true, decide_eq_true_eq] at ht
    exact ⟨p, q, Below.trod hl ht.1.1 ht.1.2 h1 hb (fun x hx => hlt x (by simp [hx])), trodAll_stays hl hb ts vs ds q (by simpa using ht.2) h2 (fun x hx => hlt x (by simp [hx])), rfl⟩
  | [], _ :: _, [], _, _, h, _ => (show False from h).elim
  | [], [], _ :: _, _, _, h, _ => (show False from h).elim
  | [], _ :: _, _ :: _, _, _, h, _ => (show False from h).elim
  | _ :: _, [], [], _, _, h, _ => (show False from h).elim
  | _ :: _, [], _ :: _, _, _, h, _ => (show False from h).elim
  | _ :: _, _ :: _, [], _, _, h, _ => (show False from h).elim

/- ONE ARGUMENT -/
theorem In.string {base : Nat} {t : TypeId} {v : Value} {d : DataW H} (i : In enc P W base t v d) (ht : P.underlying t = some .string) : ∃ l : List UInt8, v = .string ⟨⟨l⟩⟩ ∧ l.length ≤ 140737488351232 := by
  obtain ⟨p, h⟩ := i.trod
  obtain ⟨s, rfl, rfl, _, _⟩ := ChangeMaps.open_string ht i.ok h
  have := i.fits
  obtain ⟨⟨l⟩⟩ := s
  exact ⟨l, rfl, by simp [DataW.weights, reachBytes] at this; exact of_decide_eq_true this⟩

theorem In.int {base : Nat} {t : TypeId} {v : Value} {d : DataW H} {k : IntKind} (i : In enc P W base t v d) (ht : P.underlying t = some (.int k)) : ∃ n : Int, v = .int k n ∧ k.min ≤ n ∧ n ≤ k.max := by
  obtain ⟨p, h⟩ := i.trod
  obtain ⟨n, rfl, rfl, _, wn⟩ := open_int ht i.ok h
  refine ⟨n, rfl, ?_⟩
  simpa [Lit.wf] using wn

theorem In.bool {base : Nat} {t : TypeId} {v : Value} {d : DataW H} (i : In enc P W base t v d) (ht : P.underlying t = some .bool) : ∃ b : Bool, v = .bool b := by
  obtain ⟨p, h⟩ := i.trod
  obtain ⟨b, rfl, _⟩ := RowKit.open_bool ht i.ok h
  exact ⟨b, rfl⟩

theorem arr_of_cells {a : Addr} {len cap : Nat} {xs : List Value} (hlen : xs.length = len) (hl : len ≤ cap) (hc : ∀ i u, xs[i]? = some u → W.cell? (a.add i) = some u) : Arr W.heap (.slice (some a) len cap) xs := by
  refine ⟨some a, cap, by rw [hlen], by omega, ?_⟩
  cases xs with
  | nil => exact .inl rfl
  | cons x xs =>
    right
    have h0 := hc 0 x rfl
    obtain ⟨b, o, sp⟩ := a
    cases sp with
    | none => exact ⟨b, o, rfl, fun i hi => by
        obtain ⟨u, hu⟩ := getx hi
        have := hc i u hu
        rw [hu, ← this, Addr.add_lit]; rfl⟩
    | some q =>
      exfalso
      have : (Addr.add ⟨b, o, some q⟩ 0) = ⟨b, o, some q⟩ := by simp [Addr.add]
      rw [this, cellAt_eq] at h0
      simp only [cellAt] at h0
      split at h0
      · simp at h0
      · simp at h0

theorem In.ints {base : Nat} {t e : TypeId} {v : Value} {d : DataW H} {k : IntKind} {by_ : Nat} (i : In enc P W base t v d) (ht : P.underlying t = some (.slice e)) (he : P.underlying e = some (.int k)) (hc : P.cellsOf e = 1) (hb : P.bytesOf e = by_) :
    ∃ zs : List Int, Arr W.heap v (zs.map (Value.int k)) ∧ zs.length * by_ ≤ 140737488351232 ∧ ∀ z ∈ zs, k.min ≤ z ∧ z ≤ k.max := by
  obtain ⟨p, fuel, h⟩ := i.trod
  obtain ⟨a0, len, cap, rfl⟩ := okWide_slice ht i.ok
  have hw := i.fits
  rcases open_ints ht he hc h with ⟨hcs, hx⟩ | ⟨a, len', cap', zs, hcs, _, hl, hm, hz, hx, hcell, hwf⟩
  · simp only [Value.cells, List.cons.injEq, and_true] at hcs
    rw [hcs]
    exact ⟨[], Arr.nil _, by simp, by simp⟩
  · simp only [Value.cells, List.cons.injEq, and_true] at hcs
    rw [hcs]
    have hzl : zs.length = cap' := by simpa using hz
    have hlen : (zs.take len').length = len' := by simp; omega
    refine ⟨zs.take len', arr_of_cells (by simpa using hlen) hl (fun j u hu => ?_), ?_, fun z hz' => ?_⟩
    · simp only [List.getElem?_map, List.getElem?_take] at hu
      split at hu
      · obtain ⟨z, hz', rfl⟩ := Option.map_eq_some_iff.1 hu
        rw [hcell j (by obtain ⟨hj, _⟩ := List.getElem?_eq_some_iff.1 hz'; exact hj)]
        simp [hz']
      · simp at hu
    · have hd : d = _ := congrArg Prod.fst hx
      rw [hd] at hw
      simp only [DataW.weights, ht, List.all_cons, Bool.and_eq_true, decide_eq_true_eq, lits, List.length_map, hb] at hw
      have h1 := hw.1
      have h2 : len' * by_ ≤ (len' + (zs.drop len').length) * by_ := Nat.mul_le_mul_right _ (by omega)
      simp only [hlen] at h1 ⊢
      simp only [reachBytes] at h1
      omega
    · have := hwf z (List.mem_of_mem_take hz')
      simpa [Lit.wf] using this

theorem In.strs {base : Nat} {t e : TypeId} {v : Value} {d : DataW H} {by_ : Nat} (i : In enc P W base t v d) (ht : P.underlying t = some (.slice e)) (he : P.underlying e = some .string) (hc : P.cellsOf e = 1) (hb : P.bytesOf e = by_) :
    ∃ ss : List (List UInt8), Arr W.heap v (Go.Proofs.YtfjajkgfgigodaaGreatDoor.strs ss) ∧ ss.length * by_ ≤ 140737488351232 ∧ ∀ s ∈ ss, s.length ≤ 140737488351232 := by
  obtain ⟨p, fuel, h⟩ := i.trod
  obtain ⟨a0, len, cap, rfl⟩ := okWide_slice ht i.ok
  have hw := i.fits
  rcases open_strings ht he hc h with ⟨hcs, hx⟩ | ⟨a, len', cap', ss, hcs, _, hl, hm, hz, hx, hcell, hwf⟩
  · simp only [Value.cells, List.cons.injEq, and_true] at hcs
    rw [hcs]
    exact ⟨[], Arr.nil _, by simp, by simp⟩
  · simp only [Value.cells, List.cons.injEq, and_true] at hcs
    rw [hcs]
    have hzl : ss.length = cap' := by simpa using hz
    have hlen : (ss.take len').length = len' := by simp; omega
    have hd : d = _ := congrArg Prod.fst hx
    rw [hd] at hw
    simp only [DataW.weights, ht, List.all_cons, Bool.and_eq_true, decide_eq_true_eq, ChangeShapes.strs, List.length_map, hb, List.all_append] at hw
    have hall : ∀ (l : List ByteArray), (DataW.weightsAll P e (l.map fun s => (DataW.lit (.string s.data.toList) : DataW H))).all (· ≤ reachBytes) = true → ∀ s ∈ l, s.data.toList.length ≤ 140737488351232 := by
      intro l
      induction l with
      | nil => simp
      | cons s l ih =>
        intro hl' s' hs'
        simp only [List.map_cons, DataW.weightsAll, DataW.weights, List.singleton_append, List.all_cons, Bool.and_eq_true, decide_eq_true_eq] at hl'
        rcases List.mem_cons.1 hs' with rfl | hs'
        · simpa [reachBytes] using hl'.1
        · exact ih hl'.2 s' hs'
    refine ⟨(ss.take len').map (fun s => s.data.toList), arr_of_cells (by simpa using hlen) hl (fun j u hu => ?_), ?_, fun z hz' => ?_⟩
    · simp only [List.getElem?_map, List.getElem?_take] at hu
      split at hu
      · obtain ⟨z, hz', rfl⟩ := Option.map_eq_some_iff.1 hu
        obtain ⟨s, hs, rfl⟩ := Option.map_eq_some_iff.1 hz'
        rw [hcell j (by obtain ⟨hj, _⟩ := List.getElem?_eq_some_iff.1 hs; exact hj)]
        obtain ⟨⟨l⟩⟩ := s
        simp [hs]
      · simp at hu
    · have h1 := hw.1
      have h2 : len' * by_ ≤ (len' + (ss.drop len').length) * by_ := Nat.mul_le_mul_right _ (by omega)
      simp only [hlen, List.length_map] at h1 ⊢
      simp only [reachBytes] at h1
      omega
    · obtain ⟨s, hs, rfl⟩ := List.mem_map.1 hz'
      exact hall _ hw.2.1 s hs

/- THE LAW -/
/-- A law: whatever the input, true; every argument reads as it did. -/
theorem law_lifted {C : Checked} {os : Os} {f : FuncId} {fn : Func} {s : ChangeSpec} {X : World → Array Value → Prop} {tb : TypeId} (args0 : Array Value) (fuel : Nat) (w0 : World)
    (hX : ∀ (w w' : World) (args : Array Value), w.heap = w'.heap → X w args → X w' args) (own : ownKnob C.prog.godebug = none) (started : os.Started) (noInit : C.prog.inits.idxOf? f = none) (hfn : C.prog.funcs[f]? = some fn)
    (hl : laidOutB C.prog = true) (hts : (fn.params.toList.all fun t => C.prog.readableRec t && decide (t < C.prog.types.size)) = true) (hres : fn.resultTypes = #[tb]) (htb : C.prog.underlying tb = some .bool) (hvars : s.vars = [])
    (hs : ∀ ds : List (DataW H), ds.length = fn.params.toList.length → s.fn H ds = { results := [.lit (.bool true)], args := ds })
    (hos : w0.os = os) (hsh : (w0.forCall (fun _ _ => 0) ⟨#[], args0, []⟩).Shaped C.prog)
    (hok : Input.okWideB C.prog (w0.forCall (fun _ _ => 0) ⟨#[], args0, []⟩) f ⟨#[], args0, []⟩ = true)
    (hpre : s.preB enc C.prog fn [] false (w0.forCall (fun _ _ => 0) ⟨#[], args0, []⟩).memory args0 fuel = true)
    (hsz : s.sizedB enc C.prog fn false (w0.forCall (fun _ _ => 0) ⟨#[], args0, []⟩).memory args0 fuel = true)
    (hx : X (w0.forCall (fun _ _ => 0) ⟨#[], args0, []⟩).memory args0)
    (hspec : ∀ (W : World) (base : Nat) (args : List Value) (ds : List (DataW H)), InAll enc C.prog W base fn.params.toList args ds → X W args.toArray → SpecR C.prog f args W.heap fun r h' => r = .bool true ∧ Own W.heap [] h') :
    ReturnsInHanded {} C os f .any (fun w args => (s.pre enc C.prog fn [] false w args ∧ X w args) ∧ sizedMet enc C.prog fn (OpenSpec.ofChange s) false w args) (s.post enc C.prog fn false true false false) := by
  refine returnsInHanded_of_change_and (C := C) (X := X) hX own started noInit hfn (ChangeSpec.witness_shaped (enc := enc) (C := C) (os := os) (X := X) false w0 args0 fuel hos hsh hok hpre hsz hx) ?_
  intro W base args ds gs before hval hW _ hw hL _
  have hW' := hW
  obtain ⟨p, q, hA, hV, rfl, hfz, hnd⟩ := hW
  rw [hvars] at hV
  obtain ⟨rfl, rfl⟩ := trodVars_none hV
  have hvt : s.plain.varTypes C.prog = [] := by simp [ChangeSpec.plain, DataSpec.varTypes, hvars]
  rw [hvt, List.append_nil, List.append_nil] at hw
  have hin := InAll.mk' (base := base) _ _ _ _ hA (fun j t v ht hv => hval j t v (by simpa using ht) (by simpa using hv)) hw
  have hlen := trodAll_len _ _ _ _ hA
  have hlt : ∀ x ∈ p, x.block < W.heap.size := fun x hx => hW'.lt x (by simp [hx])
  refine ((hspec W base args.toList ds hin (by simpa using hL)).2 W rfl).mono fun e W' ⟨hsame, he⟩ => ?_
  cases e with
  | returned v =>
    obtain ⟨rfl, ho⟩ := he
    have hB : Below W.heap.size W W' := ⟨hsame.os, hsame.tape, hsame.output, ho.ext.size, ho.ext.old⟩
    refine ⟨_, rfl, ds, [], p ++ [], [], p, [], hW', ?_, ?_, ?_, hB.frame _, fun h => by cases h⟩
    · rw [List.append_nil, hs ds hlen, hres]
      exact trodAll_mk1 (RowKit.shut_bool htb _)
    · rw [List.append_nil, hs ds hlen]
      exact trodAll_stays hl hB _ _ _ _ hts hA hlt
    · rw [List.append_nil, hs ds hlen, hvars]
      rfl
  | panicked c => exact he.elim
  | outgrown => exact he.elim

end
end Go.Proofs.YtfjajkgfgigodaaGreatDoor
