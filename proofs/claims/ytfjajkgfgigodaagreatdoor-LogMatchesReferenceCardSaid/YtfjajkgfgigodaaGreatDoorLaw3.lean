/-
  Arguments that are slices of structs of three one-cell fields (two numbers and a text).
-/
import Derived.Test.YtfjajkgfgigodaaGreatDoorLaw2
import Derived.Test.YtfjajkgfgigodaaGreatDoorVcMem4
import Derived.Deep.Strs
namespace Go.Proofs.YtfjajkgfgigodaaGreatDoor
open Go Go.ChangeShapes Go.WideShapes Go.ChangeAt Go.RowKit Go.WideElems Go.Joins Go.Deep

section
variable {H : Type} {enc : TypeId × Value → H} {P : Program} {W : World}

def rawC (x : Int × Int × List UInt8) : List Value := [.int .i64 x.1, .int .i64 x.2.1, .string ⟨⟨x.2.2⟩⟩]

theorem arrN_of_cells {α : Type} {f : α → List Value} {sz : Nat} (hf : ∀ y, (f y).length = sz) (hsz : 0 < sz) {a : Addr} {len cap : Nat} {xs : List α} (hlen : xs.length = len) (hl : len ≤ cap)
    (hc : ∀ j y, xs[j]? = some y → ∀ r u, (f y)[r]? = some u → W.cell? ((a.add (j * sz)).add r) = some u) : ArrN sz W.heap (.slice (some a) len cap) len (xs.flatMap f) := by
  refine ⟨by rw [flat_length hf, hlen], some a, cap, rfl, hl, ?_⟩
  cases xs with
  | nil => exact .inl hlen.symm
  | cons x xs =>
    right
    have h00 := hc 0 x rfl 0 ((f x)[0]'(by rw [hf]; exact hsz)) (by simp [hf, hsz])
    obtain ⟨b, o, sp⟩ := a
    cases sp with
    | none =>
      refine ⟨b, o, rfl, fun i hi => ?_⟩
      rw [flat_length hf] at hi
      have hd : i / sz < (x :: xs).length := Nat.div_lt_of_lt_mul (by rw [Nat.mul_comm]; exact hi)
      obtain ⟨y, hy⟩ := getx hd
      have hr : i % sz < (f y).length := by rw [hf]; exact Nat.mod_lt _ hsz
      obtain ⟨u, hu⟩ := getx hr
      have e : i / sz * sz + i % sz = i := by rw [Nat.mul_comm]; exact Nat.div_add_mod i sz
      have h1 := hc _ y hy _ u hu
      have h2 := flat_get1 (f := f) hf hy hu
      rw [e] at h2
      rw [h2, ← h1, add_add, e, Addr.add_lit]
      rfl
    | some q =>
      exfalso
      have : ((Addr.add ⟨b, o, some q⟩ (0 * sz)).add 0) = ⟨b, o, some q⟩ := by simp [Addr.add]
      rw [this, cellAt_eq] at h00
      simp only [cellAt] at h00
      split at h00
      · simp at h00
      · simp at h00

theorem In.raws {base : Nat} {t e : TypeId} {v : Value} {d : DataW H} {f0 f1 f2 : Field} (i : In enc P W base t v d) (ht : P.underlying t = some (.slice e)) (hs : P.underlying e = some (.struct #[f0, f1, f2])) (hone : oneCellFields P #[f0, f1, f2] = true) (hC : P.cellsOf e = 3)
    (h0 : P.underlying f0.type = some (.int .i64)) (h1 : P.underlying f1.type = some (.int .i64)) (h2 : P.underlying f2.type = some .string) :
    ∃ xs : List (Int × Int × List UInt8), ArrN 3 W.heap v xs.length (xs.flatMap rawC) := by
  obtain ⟨p, fuel, h⟩ := i.trod
  obtain ⟨a0, len0, cap0, rfl⟩ := okWide_slice ht i.ok
  rcases open_slice ht h with ⟨hcs, hx⟩ | ⟨a, len, cap, m, n, D, Pl, hcs, hb, hl, hm, hmm, hx, hel⟩
  · simp only [Value.cells, List.cons.injEq, and_true] at hcs
    rw [hcs]
    exact ⟨[], ArrN.nil 3 _⟩
  · simp only [Value.cells, List.cons.injEq, and_true] at hcs
    rw [hcs]
    have hlm : len ≤ m := by rw [hmm]; split <;> omega
    have each : ∀ j, j < len → ∃ q : Int × Int × List UInt8, ∀ r u, (rawC q)[r]? = some u → W.cell? ((a.add (j * 3)).add r) = some u := by
      intro j hj
      obtain ⟨cs', g1, g2⟩ := hel j (by omega)
      rw [hC] at g1
      obtain ⟨_, hlen, hcell⟩ := World.cells?_some g1
      obtain ⟨y0, y1, y2, k, _, _, t0, t1, t2⟩ := trod_struct3 hs g2
      obtain ⟨o0, k0⟩ := hone_of hone 0 f0 rfl
      obtain ⟨o1, k1⟩ := hone_of hone 1 f1 rfl
      obtain ⟨o2, k2⟩ := hone_of hone 2 f2 rfl
      match cs', hlen with
      | [v0, v1, v2], _ =>
        simp [o0, k0] at t0
        simp [o1, k1] at t1
        simp [o2, k2] at t2
        obtain ⟨x0, e0, _, _⟩ := DataW.trod_int h0 t0
        obtain ⟨x1, e1, _, _⟩ := DataW.trod_int h1 t1
        obtain ⟨⟨⟨x2⟩⟩, e2, _, _⟩ := DataW.trod_string h2 t2
        simp only [List.cons.injEq, and_true] at e0 e1 e2
        subst e0 e1 e2
        refine ⟨(x0, x1, x2), fun r u hu => ?_⟩
        have hr : r < 3 := by
          have := List.getElem?_eq_some_iff.1 hu
          obtain ⟨hr, _⟩ := this
          exact hr
        rw [hcell r hr]
        exact hu
    obtain ⟨q, hq⟩ := choose_lt each
    refine ⟨(List.range len).map q, ?_⟩
    have hlen : ((List.range len).map q).length = len := by simp
    rw [hlen]
    refine arrN_of_cells (f := rawC) (fun _ => rfl) (by decide) hlen hl (fun j y hy r u hu => ?_)
    simp only [List.getElem?_map, Option.map_eq_some_iff] at hy
    obtain ⟨j', hj', rfl⟩ := hy
    obtain ⟨hj, e⟩ := List.getElem?_eq_some_iff.1 hj'
    simp at hj e
    subst e
    exact hq j hj r u hu

end
end Go.Proofs.YtfjajkgfgigodaaGreatDoor
