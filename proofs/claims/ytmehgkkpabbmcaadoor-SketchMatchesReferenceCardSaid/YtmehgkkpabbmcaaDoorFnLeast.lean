/-
  The least hash depends on the set of the tokens alone; the union of two sketches is the sketch of all tokens.
-/
import Derived.Test.YtmehgkkpabbmcaaDoorStructs
import Derived.Test.YtmehgkkpabbmcaaDoorFnHead
namespace Go.Proofs.YtmehgkkpabbmcaaDoor
open Go

theorem fold_min (seed : Int) : ∀ (ts : List (List UInt8)) (b : Int), ts.foldl (fun b t => min b (hash t seed)) b ≤ b ∧ (∀ t ∈ ts, ts.foldl (fun b t => min b (hash t seed)) b ≤ hash t seed) ∧
    (ts.foldl (fun b t => min b (hash t seed)) b = b ∨ ∃ t ∈ ts, ts.foldl (fun b t => min b (hash t seed)) b = hash t seed)
  | [], b => by simp
  | t :: ts, b => by
    have hm : min b (hash t seed) ≤ b ∧ min b (hash t seed) ≤ hash t seed ∧ (min b (hash t seed) = b ∨ min b (hash t seed) = hash t seed) := by omega
    obtain ⟨h1, h2, h3⟩ := fold_min seed ts (min b (hash t seed))
    simp only [List.foldl_cons]
    generalize ts.foldl (fun b t => min b (hash t seed)) (min b (hash t seed)) = r at *
    generalize min b (hash t seed) = q at *
    refine ⟨by omega, fun u hu => ?_, ?_⟩
    · rcases List.mem_cons.1 hu with rfl | hu
      · omega
      · exact h2 u hu
    · rcases h3 with h3 | ⟨u, hu, h3⟩
      · rcases hm.2.2 with h4 | h4
        · exact .inl (h3.trans h4)
        · exact .inr ⟨t, by simp, h3.trans h4⟩
      · exact .inr ⟨u, by simp [hu], h3⟩

theorem leastL_le {seed : Int} {ss : List (List UInt8)} {t : List UInt8} (ht : t ∈ ss) : leastL seed ss ≤ hash t seed := by
  cases ss with
  | nil => simp at ht
  | cons u us =>
    obtain ⟨h1, h2, _⟩ := fold_min seed us (hash u seed)
    rcases List.mem_cons.1 ht with rfl | ht
    · exact h1
    · exact h2 t ht

theorem leastL_mem {seed : Int} {ss : List (List UInt8)} (h : ss ≠ []) : ∃ t ∈ ss, leastL seed ss = hash t seed := by
  cases ss with
  | nil => exact absurd rfl h
  | cons u us =>
    obtain ⟨_, _, h3⟩ := fold_min seed us (hash u seed)
    rcases h3 with h3 | ⟨t, ht, h3⟩
    · exact ⟨u, by simp, h3⟩
    · exact ⟨t, by simp [ht], h3⟩

theorem leastL_eq {seed : Int} {ss ts : List (List UInt8)} (h : ∀ t, t ∈ ss ↔ t ∈ ts) : leastL seed ss = leastL seed ts := by
  cases ss with
  | nil => cases ts with
    | nil => rfl
    | cons u us => exact absurd ((h u).2 (by simp)) (by simp)
  | cons u us =>
    have n1 : (u :: us) ≠ [] := by simp
    have n2 : ts ≠ [] := by intro e; subst e; exact absurd ((h u).1 (by simp)) (by simp)
    obtain ⟨x, hx, ex⟩ := leastL_mem (seed := seed) n1
    obtain ⟨y, hy, ey⟩ := leastL_mem (seed := seed) n2
    have := leastL_le (seed := seed) ((h x).1 hx)
    have := leastL_le (seed := seed) ((h y).2 hy)
    omega

theorem makeL_eq {ss ts : List (List UInt8)} (n : Nat) (h : ∀ t, t ∈ ss ↔ t ∈ ts) : makeL ss n = makeL ts n := by
  unfold makeL
  exact List.map_congr_left fun i _ => leastL_eq h

theorem leastL_range (seed : Int) (ss : List (List UInt8)) : -1 ≤ leastL seed ss ∧ leastL seed ss < 2147483647 ∧ (leastL seed ss < 0 ↔ ss = []) := by
  cases ss with
  | nil => simp [leastL]
  | cons u us =>
    obtain ⟨x, _, ex⟩ := leastL_mem (seed := seed) (ss := u :: us) (by simp)
    have := hash_range x seed
    refine ⟨by omega, by omega, ?_⟩
    simp; omega

theorem leastL_append (seed : Int) (ss ts : List (List UInt8)) (h1 : ss ≠ []) (h2 : ts ≠ []) : leastL seed (ss ++ ts) = min (leastL seed ss) (leastL seed ts) := by
  obtain ⟨x, hx, ex⟩ := leastL_mem (seed := seed) h1
  obtain ⟨y, hy, ey⟩ := leastL_mem (seed := seed) h2
  obtain ⟨z, hz, ez⟩ := leastL_mem (seed := seed) (ss := ss ++ ts) (by simp [h1])
  have a1 := leastL_le (seed := seed) (ss := ss ++ ts) (t := x) (by simp [hx])
  have a2 := leastL_le (seed := seed) (ss := ss ++ ts) (t := y) (by simp [hy])
  rcases List.mem_append.1 hz with hz | hz
  · have := leastL_le (seed := seed) hz; omega
  · have := leastL_le (seed := seed) hz; omega

theorem makeL_head {ss : List (List UInt8)} {n : Nat} (h : 1 ≤ n) : (makeL ss n).headD 0 = leastL 0 ss := by
  obtain ⟨m, rfl⟩ : ∃ m, n = m + 1 := ⟨n - 1, by omega⟩
  simp [makeL, List.range_succ_eq_map]

theorem makeL_get {ss : List (List UInt8)} {n i : Nat} (h : i < n) : (makeL ss n)[i]? = some (leastL i ss) := by
  simp [makeL, h]

theorem okB_make (ss : List (List UInt8)) {n : Nat} (h1 : 1 ≤ n) (h2 : n ≤ 64) : okB (makeL ss n) = true := by
  refine okB_true (by rw [makeL_length]; exact h1) (by rw [makeL_length]; exact h2) fun x hx => ?_
  rw [makeL_head h1]
  obtain ⟨i, _, rfl⟩ := List.mem_map.1 hx
  have r := leastL_range i ss
  have r0 := leastL_range 0 ss
  exact ⟨r.1, r.2.1, r.2.2.trans r0.2.2.symm⟩

theorem union_make (ss ts : List (List UInt8)) {n : Nat} (h1 : 1 ≤ n) (h2 : n ≤ 64) : unionR (makeL ss n) (makeL ts n) = (makeL (ss ++ ts) n, 0) := by
  unfold unionR
  rw [okB_make ss h1 h2, okB_make ts h1 h2, makeL_length, makeL_length, decide_eq_true rfl]
  simp only [Bool.and_self, if_true, Prod.mk.injEq, and_true]
  have r := leastL_range 0 ss
  have q := leastL_range 0 ts
  unfold unionL
  rw [makeL_head h1, makeL_head h1]
  by_cases e1 : ss = []
  · subst e1; simp [leastL]
  · rw [if_neg (by have := mt r.2.2.1 e1; omega)]
    by_cases e2 : ts = []
    · subst e2; simp [leastL]
    · rw [if_neg (by have := mt q.2.2.1 e2; omega)]
      apply List.ext_getElem?
      intro i
      rw [List.getElem?_zipWith]
      by_cases hi : i < n
      · rw [makeL_get hi, makeL_get hi, makeL_get hi, leastL_append _ _ _ e1 e2]
      · rw [List.getElem?_eq_none (by rw [makeL_length]; omega), List.getElem?_eq_none (by rw [makeL_length]; omega), List.getElem?_eq_none (by rw [makeL_length]; omega)]

end Go.Proofs.YtmehgkkpabbmcaaDoor
