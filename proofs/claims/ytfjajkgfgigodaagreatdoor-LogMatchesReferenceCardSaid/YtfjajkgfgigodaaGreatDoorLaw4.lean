/-
  Arguments that are slices of operations (XOps).
-/
import Derived.Test.YtfjajkgfgigodaaGreatDoorLaw3
import Derived.Test.YtfjajkgfgigodaaGreatDoorOps
namespace Go.Proofs.YtfjajkgfgigodaaGreatDoor
open Go Go.ChangeShapes Go.WideShapes Go.ChangeAt Go.RowKit Go.WideElems Go.Joins Go.Deep

section
variable {H : Type} {enc : TypeId × Value → H} {P : Program} {W : World}

theorem weightsAll_at {P : Program} {e : TypeId} : ∀ {l : List (DataW H)}, (DataW.weightsAll P e l).all (· ≤ reachBytes) = true → ∀ {j : Nat} {d : DataW H}, l[j]? = some d → (d.weights P e).all (· ≤ reachBytes) = true
  | [], _, _, _, hj => by simp at hj
  | x :: l, h, 0, d, hj => by
    simp only [DataW.weightsAll, List.all_append, Bool.and_eq_true] at h
    simp at hj
    subst hj
    exact h.1
  | x :: l, h, j + 1, d, hj => by
    simp only [DataW.weightsAll, List.all_append, Bool.and_eq_true] at h
    exact weightsAll_at h.2 (by simpa using hj)

theorem trod_strs {t e : TypeId} {by_ fuel : Nat} {cs : List Value} {x : DataW H × List MemPlace} (ht : P.underlying t = some (.slice e)) (he : P.underlying e = some .string) (hc : P.cellsOf e = 1) (hb : P.bytesOf e = by_)
    (h : DataW.trod enc P W 0 (fun _ => true) true fuel t cs = some x) (hw : (x.1.weights P t).all (· ≤ reachBytes) = true) :
    ∃ (v : Value) (ss : List (List UInt8)), cs = [v] ∧ Arr W.heap v (Go.Proofs.YtfjajkgfgigodaaGreatDoor.strs ss) ∧ ∀ s ∈ ss, s.length ≤ 140737488351232 := by
  rcases open_strings ht he hc h with ⟨hcs, hx⟩ | ⟨a, len', cap', ss, hcs, _, hl, hm, hz, hx, hcell, hwf⟩
  · exact ⟨_, [], hcs, Arr.nil _, by simp⟩
  · have hzl : ss.length = cap' := by simpa using hz
    have hlen : (ss.take len').length = len' := by simp; omega
    have hd : x.1 = _ := congrArg Prod.fst hx
    rw [hd] at hw
    simp only [DataW.weights, ht, List.all_cons, Bool.and_eq_true, decide_eq_true_eq, ChangeShapes.strs, List.length_map, hb, List.all_append] at hw
    have hall : ∀ (l : List ByteArray), (DataW.weightsAll P e (l.map fun s => (DataW.lit (.string s.data.toList) : DataW H))).all (· ≤ reachBytes) = true → ∀ s ∈ l, s.data.toList.length ≤ 140737488351232 := by
      intro l
      induction l with
      | nil => simp
      | cons s l ih =>
        intro hl' s' hs'
        simp only [List.map_cons, DataW.weightsAll, DataW.weights, List.singleton_append, List.all_cons, Bool.and_eq_true, decide_eq_true_eq] at hl'
        rcases List.mem_cons.1 hs' with rfl | hs'
        · simpa [reachBytes] using hl'.1
        · exact ih hl'.2 s' hs'
    refine ⟨_, (ss.take len').map (fun s => s.data.toList), hcs, arr_of_cells (by simpa using hlen) hl (fun j u hu => ?_), fun z hz' => ?_⟩
    · simp only [List.getElem?_map, List.getElem?_take] at hu
      split at hu
      · obtain ⟨z, hz', rfl⟩ := Option.map_eq_some_iff.1 hu
        obtain ⟨s, hs, rfl⟩ := Option.map_eq_some_iff.1 hz'
        rw [hcell j (by obtain ⟨hj, _⟩ := List.getElem?_eq_some_iff.1 hs; exact hj)]
        obtain ⟨⟨l⟩⟩ := s
        simp [hs]
      · simp at hu
    · obtain ⟨s, hs, rfl⟩ := List.mem_map.1 hz'
      exact hall _ hw.2.1 s hs

theorem trod_struct6 {t : TypeId} {f0 f1 f2 f3 f4 f5 : Field} {fuel : Nat} {cs : List Value} {x : DataW H × List MemPlace} (ht : P.underlying t = some (.struct #[f0, f1, f2, f3, f4, f5])) (h : DataW.trod enc P W 0 (fun _ => true) true fuel t cs = some x) :
    ∃ y0 y1 y2 y3 y4 y5 n, x.1 = .agg [y0.1, y1.1, y2.1, y3.1, y4.1, y5.1] ∧ cs.length = P.cellsOf t ∧ DataW.trod enc P W 0 (fun _ => true) true n f0.type ((cs.drop f0.offset).take (P.cellsOf f0.type)) = some y0 ∧
      DataW.trod enc P W 0 (fun _ => true) true n f1.type ((cs.drop f1.offset).take (P.cellsOf f1.type)) = some y1 ∧ DataW.trod enc P W 0 (fun _ => true) true n f2.type ((cs.drop f2.offset).take (P.cellsOf f2.type)) = some y2 ∧
      DataW.trod enc P W 0 (fun _ => true) true n f3.type ((cs.drop f3.offset).take (P.cellsOf f3.type)) = some y3 ∧ DataW.trod enc P W 0 (fun _ => true) true n f4.type ((cs.drop f4.offset).take (P.cellsOf f4.type)) = some y4 ∧
      DataW.trod enc P W 0 (fun _ => true) true n f5.type ((cs.drop f5.offset).take (P.cellsOf f5.type)) = some y5 := by
  obtain ⟨xs, n, _, rfl, hl, hlen, hf⟩ := DataW.trod_struct ht h
  match xs, hlen with
  | [y0, y1, y2, y3, y4, y5], _ => exact ⟨y0, y1, y2, y3, y4, y5, n, by simp, hl, by simpa using hf 0 f0 rfl, by simpa using hf 1 f1 rfl, by simpa using hf 2 f2 rfl, by simpa using hf 3 f3 rfl, by simpa using hf 4 f4 rfl, by simpa using hf 5 f5 rfl⟩

theorem In.ops {base : Nat} {t e se : TypeId} {v : Value} {d : DataW H} {f0 f1 f2 f3 f4 f5 : Field} (i : In enc P W base t v d) (ht : P.underlying t = some (.slice e)) (hs : P.underlying e = some (.struct #[f0, f1, f2, f3, f4, f5])) (hone : oneCellFields P #[f0, f1, f2, f3, f4, f5] = true) (hC : P.cellsOf e = 6)
    (h0 : P.underlying f0.type = some (.int .u8)) (h1 : P.underlying f1.type = some .string) (h2 : P.underlying f2.type = some (.slice se)) (hse : P.underlying se = some .string) (hsc : P.cellsOf se = 1) (h3 : P.underlying f3.type = some (.int .i64)) (h4 : P.underlying f4.type = some (.int .i64)) (h5 : P.underlying f5.type = some (.int .i64)) :
    ∃ xs : List OpW, Ops W.heap v xs := by
  obtain ⟨p, fuel, h⟩ := i.trod
  obtain ⟨a0, len0, cap0, rfl⟩ := okWide_slice ht i.ok
  have hw := i.fits
  rcases open_slice ht h with ⟨hcs, hx⟩ | ⟨a, len, cap, m, n, D, Pl, hcs, hb, hl, hm, hmm, hx, hel⟩
  · simp only [Value.cells, List.cons.injEq, and_true] at hcs
    rw [hcs]
    exact ⟨[], ArrN.nil 6 _, by simp⟩
  · simp only [Value.cells, List.cons.injEq, and_true] at hcs
    rw [hcs]
    have hlm : len ≤ m := by rw [hmm]; split <;> omega
    have hd : d = _ := congrArg Prod.fst hx
    rw [hd] at hw
    simp only [DataW.weights, ht, List.all_cons, Bool.and_eq_true, List.all_append] at hw
    have each : ∀ j, j < len → ∃ q : OpW, (∀ r u, (opC q)[r]? = some u → W.cell? ((a.add (j * 6)).add r) = some u) ∧ OpOK W.heap q := by
      intro j hj
      obtain ⟨cs', g1, g2⟩ := hel j (by omega)
      have wj : ((D j).weights P e).all (· ≤ reachBytes) = true := weightsAll_at hw.2.1 (j := j) (by simp [hj])
      rw [hC] at g1
      obtain ⟨_, hlen, hcell⟩ := World.cells?_some g1
      obtain ⟨y0, y1, y2, y3, y4, y5, k, hD, _, t0, t1, t2, t3, t4, t5⟩ := trod_struct6 hs g2
      obtain ⟨o0, k0⟩ := hone_of hone 0 f0 rfl
      obtain ⟨o1, k1⟩ := hone_of hone 1 f1 rfl
      obtain ⟨o2, k2⟩ := hone_of hone 2 f2 rfl
      obtain ⟨o3, k3⟩ := hone_of hone 3 f3 rfl
      obtain ⟨o4, k4⟩ := hone_of hone 4 f4 rfl
      obtain ⟨o5, k5⟩ := hone_of hone 5 f5 rfl
      have hD' : D j = .agg [y0.1, y1.1, y2.1, y3.1, y4.1, y5.1] := hD
      rw [hD'] at wj
      simp only [DataW.weights, hs, DataW.weightsEach, List.map_cons, List.map_nil, List.all_append, Bool.and_eq_true] at wj
      match cs', hlen with
      | [v0, v1, v2, v3, v4, v5], _ =>
        simp [o0, k0] at t0
        simp [o1, k1] at t1
        simp [o2, k2] at t2
        simp [o3, k3] at t3
        simp [o4, k4] at t4
        simp [o5, k5] at t5
        obtain ⟨x0, e0, _, w0⟩ := DataW.trod_int h0 t0
        obtain ⟨⟨⟨x1⟩⟩, e1, hx1, _⟩ := DataW.trod_string h1 t1
        obtain ⟨x2, ss, e2, harr, hss⟩ := trod_strs h2 hse hsc rfl t2 wj.2.2.1
        obtain ⟨x3, e3, _, w3⟩ := DataW.trod_int h3 t3
        obtain ⟨x4, e4, _, w4⟩ := DataW.trod_int h4 t4
        obtain ⟨x5, e5, _, w5⟩ := DataW.trod_int h5 t5
        have w1 := wj.2.1
        rw [hx1] at w1
        simp only [List.cons.injEq, and_true] at e0 e1 e2 e3 e4 e5
        subst e0 e1 e2 e3 e4 e5
        refine ⟨⟨x0, x1, v2, ss, x3, x4, x5⟩, fun r u hu => ?_, harr, ?_, ?_, hss, ?_, ?_, ?_⟩
        · have hr : r < 6 := by
            have := List.getElem?_eq_some_iff.1 hu
            obtain ⟨hr, _⟩ := this
            exact hr
          rw [hcell r hr]
          exact hu
        · simpa [Lit.wf, IntKind.min, IntKind.max, IntKind.signed, IntKind.bits] using w0
        · have := List.all_eq_true.1 w1 x1.length (by simp [DataW.weights])
          exact of_decide_eq_true this
        · simpa [Lit.wf, IntKind.min, IntKind.max, IntKind.signed, IntKind.bits] using w3
        · simpa [Lit.wf, IntKind.min, IntKind.max, IntKind.signed, IntKind.bits] using w4
        · simpa [Lit.wf, IntKind.min, IntKind.max, IntKind.signed, IntKind.bits] using w5
    obtain ⟨q, hq⟩ := choose_lt each
    have hlen : ((List.range len).map q).length = len := by simp
    refine ⟨(List.range len).map q, ?_, fun x hx => ?_⟩
    · rw [hlen]
      refine arrN_of_cells (f := opC) (fun _ => rfl) (by decide) hlen hl (fun j y hy r u hu => ?_)
      simp only [List.getElem?_map, Option.map_eq_some_iff] at hy
      obtain ⟨j', hj', rfl⟩ := hy
      obtain ⟨hj, e⟩ := List.getElem?_eq_some_iff.1 hj'
      simp at hj e
      subst e
      exact (hq j hj).1 r u hu
    · obtain ⟨j, hj, rfl⟩ := List.mem_map.1 hx
      exact (hq j (List.mem_range.1 hj)).2

end
end Go.Proofs.YtfjajkgfgigodaaGreatDoor
