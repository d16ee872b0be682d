/-
  Bands of chapter 5.
-/
import Derived.Test.YtmehgkkpabbmcaaDoorStructs
import Derived.Test.YtmehgkkpabbmcaaDoorFnValid
import Derived.Test.YtmehgkkpabbmcaaDoorFnText
namespace Go.Proofs.YtmehgkkpabbmcaaDoor
open Go

/-- The texts of a band's numbers. -/
def partsL (l : List Int) (r i : Nat) : List (List UInt8) := ((l.drop (i * r)).take r).map Lib.itoa

/-- A band's key. -/
def keyL (l : List Int) (r i : Nat) : List UInt8 := Lib.itoa i ++ [58] ++ Lib.join (partsL l r i) [46]

def bandsL (l : List Int) (r : Nat) : List (List UInt8) := if l.headD 0 = -1 then [] else (List.range (l.length / r)).map fun i => keyL l r i

def bandsR (l : List Int) (rows : Int) : List (List UInt8) × Int :=
  if okB l && decide (1 ≤ rows) && decide (rows ≤ l.length) && decide (l.length % rows.toNat = 0) then (bandsL l rows.toNat, 0) else ([], 1)

theorem join_cons2 (x y : List UInt8) (r : List (List UInt8)) (sep : List UInt8) : Lib.join (x :: y :: r) sep = x ++ sep ++ Lib.join (y :: r) sep := by
  simp [Lib.join, List.intercalate, List.intersperse]

theorem join_len (c : UInt8) : ∀ ss : List (List UInt8), (∀ s ∈ ss, s.length ≤ 21) → (Lib.join ss [c]).length ≤ 22 * ss.length
  | [], _ => by simp [Lib.join_nil]
  | [x], h => by
    rw [Lib.join_one]
    have := h x (by simp)
    simp
    omega
  | x :: y :: r, h => by
    rw [join_cons2]
    have h1 := h x (by simp)
    have h2 := join_len c (y :: r) (fun s hs => h s (by simp [hs]))
    simp only [List.length_append, List.length_cons, List.length_nil] at h2 ⊢
    omega

theorem partsL_len {l : List Int} {r i : Nat} (h : i * r + r ≤ l.length) : (partsL l r i).length = r := by
  simp [partsL]
  omega

theorem partsL_get {l : List Int} {r i k : Nat} {x : Int} (hk : k < r) (hx : l[i * r + k]? = some x) : (partsL l r i)[k]? = some (Lib.itoa x) := by
  simp only [partsL, List.getElem?_map, List.getElem?_take, List.getElem?_drop, if_pos hk, hx, Option.map_some]

theorem partsL_short {l : List Int} {r i : Nat} (hal : ∀ x ∈ l, -1 ≤ x ∧ x < 2147483647) : ∀ s ∈ partsL l r i, s.length ≤ 21 := by
  intro s hs
  simp only [partsL, List.mem_map] at hs
  obtain ⟨x, hx, rfl⟩ := hs
  have := hal x (List.mem_of_mem_drop (List.mem_of_mem_take hx))
  exact itoa_short x (by omega) (by omega)

theorem fill_set {α : Type} {A : List α} {r k : Nat} {z v : α} (hl : A.length = r) (hk : k < r) (hv : A[k]? = some v) : (A.take k ++ List.replicate (r - k) z).set k v = A.take (k + 1) ++ List.replicate (r - (k + 1)) z := by
  have e : r - k = (r - (k + 1)) + 1 := by omega
  have hlt : (A.take k).length = k := by simp; omega
  rw [e, List.replicate_succ, List.set_append, if_neg (by omega), hlt, Nat.sub_self, List.set_cons_zero, List.take_add_one, hv]
  simp

set_option maxRecDepth 100000 in
theorem bands_spec (l : List Int) (rows : Int) (v : Value) (h : Heap) (a0 : Arr h v (ints l)) (hl : l.length ≤ 1000000000) (r0 : -9223372036854775808 ≤ rows) (r1 : rows ≤ 9223372036854775807) (ht : TabH h) :
    SpecR Tryd.prog 18 [v, .int .i64 rows] h fun r h' => ∃ w, r = .tuple ⟨[w, .int .i64 (bandsR l rows).2]⟩ ∧ Own h [ro w (strs (bandsR l rows).1)] h' := by
  refine Spec.enter Tryd.func18 rfl Tryd.ntmps18 (by kernel_rfl) ?_
  have o0 := Own.refl h
  have ln : (ints l).length = l.length := by simp
  refine CallVC.ret (right_spec l v _ a0 hl) ?_
  rintro _ h1 ⟨rfl, oa⟩
  cases ka : okB l with
  | false =>
    refine Br.tt ?_
    refine Br.tt ?_
    refine RetVC.two rfl ?_
    have hR : bandsR l rows = ([], 1) := by simp [bandsR, ka]
    rw [hR]
    exact ⟨_, rfl, oa.nilRo⟩
  | true =>
    by_cases hr1 : 1 ≤ rows
    · by_cases hr2 : rows ≤ l.length
      · by_cases hr3 : (l.length : Int) % rows = 0
        · obtain ⟨r, rfl⟩ : ∃ r : Nat, rows = r := ⟨rows.toNat, by omega⟩
          have hr3' : l.length % r = 0 := by exact_mod_cast hr3
          have hR : bandsR l r = (bandsL l r, 0) := by simp [bandsR, ka, hr2, hr3']; omega
          rw [hR]
          obtain ⟨hl1, hl64, hal⟩ := okB_spec ka
          refine Br.ff ?_
          refine Br.dec (fun hc => absurd hc (by omega)) (fun c20 => ?_)
          refine StillVC.run (StillVC.lenAn (a0.ext oa.ext) (by assumption) sl23 ?_)
          refine Br.dec (fun hc => absurd hc (by omega)) (fun c22 => ?_)
          refine StillVC.run (StillVC.lenAn (a0.ext oa.ext) (by assumption) sl23 ?_)
          refine StillVC.run (StillVC.remE rfl rfl (by omega) (by omega) ?_)
          refine Br.ndec (fun hc => absurd (by first | omega | assumption | decide) hc) (fun c25 => ?_)
          refine CallVC.ret (empty_spec l v _ (a0.ext oa.ext) hl1) ?_
          rintro _ h2 ⟨rfl, ob⟩
          have o2 := oa.ext' ob
          clear oa ob o0
          by_cases hem : l.headD 0 = -1
          · refine Br.dec (fun c30 => ?_) (fun hc => absurd (by omega) hc)
            refine RetVC.two rfl ?_
            have hB : bandsL l r = [] := if_pos hem
            rw [hB]
            exact ⟨_, rfl, o2.nilRo⟩
          · have hB : bandsL l r = (List.range (l.length / r)).map fun i => keyL l r i := if_neg hem
            rw [hB]
            have o3 := o2.nilRow 9 1
            clear o2
            have hq0 : (0 : Int) ≤ (l.length : Int) / (r : Int) := Int.ediv_nonneg (by omega) (by omega)
            have hq1 : ((l.length / r : Nat) : Int) = (l.length : Int) / (r : Int) := Int.natCast_ediv _ _
            have hq2 : l.length / r ≤ l.length := Nat.div_le_self _ _
            have hq3 : l.length / r * r = l.length := Nat.div_mul_cancel (Nat.dvd_of_mod_eq_zero hr3')
            refine Br.dec (fun hc => absurd hc (by omega)) (fun c40 => ?_)
            refine StillVC.run (StillVC.lenAn (a0.ext o3.ext) (by assumption) sl23 ?_)
            refine StillVC.run (StillVC.quoE rfl rfl (by omega) (by omega) (by simp [IntKind.max, IntKind.signed, IntKind.bits]; omega) ?_)
            refine LoopVC.intro [6, 7, 8, 9, 36, 37, 38, 39, 40, 41, 42, 43, 44, 45, 46, 47, 48, 49, 50, 51, 52, 53, 54, 55, 56, 57, 58, 59, 60, 61, 62, 63, 64, 65, 66, 67] [6, 36] (fun vs hh => ∃ (i : Nat) (w : Value), i ≤ l.length / r ∧ vs = [w, .int .i64 i] ∧ Own h [row w 9 1 i (strs ((List.range i).map fun i => keyL l r i))] hh) (fun vs _ => match vs with | [_, .int _ i] => l.length / r - i.toNat | _ => 0) ?_ ?_
            · exact ⟨0, _, by omega, rfl, o3⟩
            · clear o3
              rintro vs junk h3 ⟨i, w, hi, rfl, o3⟩
              by_cases hlt : i < l.length / r
              · have hm0 : (0 : Int) ≤ (i : Int) * (r : Int) := Int.mul_nonneg (by omega) (by omega)
                have hm1 : i * r + r ≤ l.length := by
                  have := Nat.mul_le_mul_right r (show i + 1 ≤ l.length / r by omega)
                  rw [Nat.add_mul, hq3] at this
                  omega
                have hm2 : ((i * r : Nat) : Int) = (i : Int) * (r : Int) := Int.natCast_mul _ _
                have hpl := partsL_len hm1
                have hps := partsL_short (r := r) (i := i) (fun x hx => ⟨(hal x hx).1, (hal x hx).2.1⟩)
                refine Br.dec (fun c50 => ?_) (fun hc => absurd (by omega) hc)
                (refine RunVC.make o3 sl22 ty9 rfl rfl (by omega) (by omega) (by omega) ?_; intro b51 m51 o51)
                refine LoopVC.intro [9, 42, 43, 44, 45, 46, 47, 48, 49, 50, 51, 52, 53, 54, 55, 56, 57] [42] (fun vs hh => ∃ (k : Nat), k ≤ r ∧ vs = [.int .i64 k] ∧ Own h [row w 9 1 i (strs ((List.range i).map fun i => keyL l r i)), box b51 (strs ((partsL l r i).take k) ++ List.replicate (r - k) (Value.string ⟨⟨[]⟩⟩)) 9] hh) (fun vs _ => match vs with | [.int _ k] => r - k.toNat | _ => 0) ?_ ?_
                · exact ⟨0, by omega, rfl, by simpa using o51⟩
                · clear o51 o3
                  rintro vs junk h4 ⟨k, hk, rfl, o4⟩
                  by_cases hlt2 : k < r
                  · obtain ⟨x, hx⟩ := getx (show i * r + k < l.length by omega)
                    have hx2 : l[((i : Int) * (r : Int) + (k : Int)).toNat]? = some x := hx
                    have hxm := hal x (List.mem_of_getElem? hx)
                    have hpg := partsL_get hlt2 hx
                    have hbl : (strs ((partsL l r i).take k) ++ List.replicate (r - k) (Value.string ⟨⟨[]⟩⟩)).length = r := by simp; omega
                    refine Br.dec (fun c60 => ?_) (fun hc => absurd (by omega) hc)
                    refine Ar.i64 (by omega) (by omega) ?_
                    refine Ar.i64 (by omega) (by omega) ?_
                    refine StillVC.run (StillVC.idx sl23 ty3 (a0.ext o4.ext) rfl (by omega) (by omega) ?_)
                    refine StillVC.run (StillVC.loadM (a0.ext o4.ext) ty3 rfl (by first | assumption | rfl) ?_)
                    refine CallVC.ret (itoa_spec x _ (by omega) (by omega) (ht.ext o4.ext)) ?_
                    rintro _ h5 ⟨rfl, oc⟩
                    have o5 := o4.ext' oc
                    clear o4
                    refine StillVC.run (StillVC.idxB o5 1 rfl sl22 ty9 rfl rfl (by omega) (by simp; omega) ?_)
                    (refine RunVC.store o5 1 rfl ty9 rfl (by simp only [List.length_cons, List.length_nil, Nat.zero_add]; omega) (And.intro ⟨rfl, rfl⟩ ?_); intro m71 o71)
                    refine Ar.i64 (by omega) (by omega) ?_
                    refine ⟨rfl, ?_⟩
                    refine ⟨⟨k + 1, by omega, rfl, ?_⟩, by simp; omega⟩
                    have hfs := fill_set (A := strs (partsL l r i)) (z := Value.string ⟨⟨[]⟩⟩) (by simp; omega) hlt2 (v := .string ⟨⟨Lib.itoa x⟩⟩) (by rw [List.getElem?_map, hpg]; rfl)
                    rw [← List.map_take, ← List.map_take] at hfs
                    rw [← hfs]
                    assumption
                  · obtain rfl : k = r := by omega
                    rw [List.take_of_length_le (by omega), Nat.sub_self, List.replicate_zero, List.append_nil] at o4
                    refine Br.dec (fun hc => absurd hc (by omega)) (fun c80 => ?_)
                    refine CallVC.ret (itoa_spec i _ (by omega) (by omega) (ht.ext o4.ext)) ?_
                    rintro _ h5 ⟨rfl, oc⟩
                    have o5 := o4.ext' oc
                    clear o4
                    have hia := itoa_short i (by omega) (by omega)
                    have hjl := join_len 46 (partsL l k i) hps
                    refine StillVC.run (StillVC.strAdd rfl rfl (by simp; omega) ?_)
                    refine CallVC.ret (join_spec (partsL l k i) [46] _ _ (o5.boxArr 1 rfl (by simp; omega) (Nat.le_refl _)) (by omega) (by omega)) ?_
                    rintro _ h6 ⟨rfl, od⟩
                    have o6 := o5.ext' od
                    clear o5
                    refine StillVC.run (StillVC.strAdd rfl rfl (by simp; omega) ?_)
                    (refine RunVC.lit o6 sl22 ty9 rfl rfl (by decide) (And.intro rfl ?_); intro b101 m101 o101)
                    (refine RunVC.append o101 0 rfl sl22 ty9 (by decide) (o101.boxArr 2 rfl (by simp) (by simp)).toN (by simp [Value.oneCell']) (by simp [maxLen]; omega) (by simp; omega) ?_; intro v102 m102 o102)
                    refine Ar.i64 (by omega) (by omega) ?_
                    refine ⟨rfl, ?_⟩
                    refine ⟨⟨i + 1, _, by omega, rfl, ?_⟩, by simp; omega⟩
                    have o8 := o102.sel [0] rfl
                    have e : strs ((List.range (i + 1)).map fun i => keyL l k i) = strs ((List.range i).map fun i => keyL l k i) ++ [Value.string ⟨⟨Lib.itoa i ++ [58] ++ Lib.join (partsL l k i) [46]⟩⟩] := by simp [List.range_succ, keyL]
                    rw [e]
                    exact o8
              · refine Br.dec (fun hc => absurd hc (by omega)) (fun c70 => ?_)
                refine RetVC.two rfl ?_
                obtain rfl : i = l.length / r := by omega
                exact ⟨_, rfl, o3.rowRo 0 rfl⟩
        · have hR : bandsR l rows = ([], 1) := by
            have : ¬ l.length % rows.toNat = 0 := by
              intro e
              apply hr3
              rw [show rows = (rows.toNat : Int) by omega, ← Int.natCast_emod, e]
              rfl
            simp [bandsR, this]
          rw [hR]
          refine Br.ff ?_
          refine Br.dec (fun hc => absurd hc (by omega)) (fun c30 => ?_)
          refine StillVC.run (StillVC.lenAn (a0.ext oa.ext) (by assumption) sl23 ?_)
          refine Br.dec (fun hc => absurd hc (by omega)) (fun c32 => ?_)
          refine StillVC.run (StillVC.lenAn (a0.ext oa.ext) (by assumption) sl23 ?_)
          refine StillVC.run (StillVC.remE rfl rfl (by omega) (by omega) ?_)
          refine Br.ndec (fun c35 => ?_) (fun hc => absurd hc (by first | omega | assumption | decide))
          refine RetVC.two rfl ?_
          exact ⟨_, rfl, oa.nilRo⟩
      · have hR : bandsR l rows = ([], 1) := by simp [bandsR, hr2]
        rw [hR]
        refine Br.ff ?_
        refine Br.dec (fun hc => absurd hc (by omega)) (fun c40 => ?_)
        refine StillVC.run (StillVC.lenAn (a0.ext oa.ext) (by assumption) sl23 ?_)
        refine Br.dec (fun c42 => ?_) (fun hc => absurd (by omega) hc)
        refine Br.tt ?_
        refine RetVC.two rfl ?_
        exact ⟨_, rfl, oa.nilRo⟩
    · have hR : bandsR l rows = ([], 1) := by simp [bandsR, hr1]
      rw [hR]
      refine Br.ff ?_
      refine Br.dec (fun c50 => ?_) (fun hc => absurd (by omega) hc)
      refine Br.tt ?_
      refine RetVC.two rfl ?_
      exact ⟨_, rfl, oa.nilRo⟩

/-- What the reference's text of a key is after k of its numbers. -/
def refKey (l : List Int) (r i k : Nat) : List UInt8 := Lib.itoa i ++ [58] ++ Lib.join ((partsL l r i).take k) [46]

theorem join_snoc (c : UInt8) : ∀ (ss : List (List UInt8)) (s : List UInt8), ss ≠ [] → Lib.join (ss ++ [s]) [c] = Lib.join ss [c] ++ [c] ++ s
  | [], _, h => absurd rfl h
  | [x], s, _ => by
    rw [List.singleton_append, join_cons2, Lib.join_one, Lib.join_one]
  | x :: y :: r, s, _ => by
    have := join_snoc c (y :: r) s (by simp)
    rw [List.cons_append, List.cons_append, join_cons2, join_cons2, ← List.cons_append, this]
    simp

theorem refKey_step {l : List Int} {r i k : Nat} {x : Int} (hk : k < r) (hx : l[i * r + k]? = some x) :
    refKey l r i (k + 1) = (if 0 < k then refKey l r i k ++ [46] else refKey l r i k) ++ Lib.itoa x := by
  have hg := partsL_get hk hx
  unfold refKey
  rw [List.take_add_one, hg]
  by_cases h0 : 0 < k
  · rw [if_pos h0, Option.toList_some, join_snoc]
    · simp
    · intro e
      have : ((partsL l r i).take k).length = 0 := by rw [e]; rfl
      have hl := (List.getElem?_eq_some_iff.1 hg).1
      rw [List.length_take] at this
      omega
  · have : k = 0 := by omega
    subst this
    simp [Lib.join_nil, Lib.join_one]

set_option maxRecDepth 100000 in
theorem refBands_spec (l : List Int) (rows : Int) (v : Value) (h : Heap) (a0 : Arr h v (ints l)) (hl : l.length ≤ 1000000000) (r0 : -9223372036854775808 ≤ rows) (r1 : rows ≤ 9223372036854775807) :
    SpecR Tryd.prog 19 [v, .int .i64 rows] h fun r h' => ∃ w, r = .tuple ⟨[w, .int .i64 (bandsR l rows).2]⟩ ∧ Own h [ro w (strs (bandsR l rows).1)] h' := by
  refine Spec.enter Tryd.func19 rfl Tryd.ntmps19 (by kernel_rfl) ?_
  have o0 := Own.refl h
  have ln : (ints l).length = l.length := by simp
  refine CallVC.ret (refValid_spec l v _ a0 hl) ?_
  rintro _ h1 ⟨rfl, oa⟩
  cases ka : okB l with
  | false =>
    refine Br.tt ?_
    refine Br.tt ?_
    refine RetVC.two rfl ?_
    have hR : bandsR l rows = ([], 1) := by simp [bandsR, ka]
    rw [hR]
    exact ⟨_, rfl, oa.nilRo⟩
  | true =>
    by_cases hr1 : 1 ≤ rows
    · by_cases hr2 : rows ≤ l.length
      · by_cases hr3 : (l.length : Int) % rows = 0
        · obtain ⟨r, rfl⟩ : ∃ r : Nat, rows = r := ⟨rows.toNat, by omega⟩
          have hr3' : l.length % r = 0 := by exact_mod_cast hr3
          have hR : bandsR l r = (bandsL l r, 0) := by simp [bandsR, ka, hr2, hr3']; omega
          rw [hR]
          obtain ⟨hl1, hl64, hal⟩ := okB_spec ka
          have hhd := headD_get hl1
          have hhm := hal _ (headD_mem hl1)
          have o3 := oa.nilRow 9 1
          clear oa o0
          have hq0 : (0 : Int) ≤ (l.length : Int) / (r : Int) := Int.ediv_nonneg (by omega) (by omega)
          have hq1 : ((l.length / r : Nat) : Int) = (l.length : Int) / (r : Int) := Int.natCast_ediv _ _
          have hq2 : l.length / r ≤ l.length := Nat.div_le_self _ _
          have hq3 : l.length / r * r = l.length := Nat.div_mul_cancel (Nat.dvd_of_mod_eq_zero hr3')
          have hq4 : 0 < l.length / r := Nat.div_pos (by omega) (by omega)
          refine Br.ff ?_
          refine Br.dec (fun hc => absurd hc (by omega)) (fun c40 => ?_)
          refine StillVC.run (StillVC.lenAn (a0.ext o3.ext) (by assumption) sl23 ?_)
          refine Br.dec (fun hc => absurd hc (by omega)) (fun c42 => ?_)
          refine StillVC.run (StillVC.lenAn (a0.ext o3.ext) (by assumption) sl23 ?_)
          refine StillVC.run (StillVC.remE rfl rfl (by omega) (by omega) ?_)
          refine Br.ndec (fun hc => absurd (by first | omega | assumption | decide) hc) (fun c45 => ?_)
          refine LoopVC.intro [6, 7, 8, 9, 30, 31, 32, 33, 34, 35, 36, 37, 38, 39, 40, 41, 42, 43, 44, 45, 46, 47, 48, 49, 50, 51, 52, 53, 54, 55, 56, 57, 58, 59, 60, 61, 62, 63, 64, 65, 66, 67, 68, 69, 70] [6, 7] (fun vs hh => ∃ (i : Nat) (w : Value), i ≤ l.length / r ∧ (0 < i → 0 ≤ l.headD 0) ∧ vs = [w, .int .i64 i] ∧ Own h [row w 9 1 i (strs ((List.range i).map fun i => keyL l r i))] hh) (fun vs _ => match vs with | [_, .int _ i] => l.length / r - i.toNat | _ => 0) ?_ ?_
          · exact ⟨0, _, by omega, by omega, rfl, o3⟩
          · clear o3
            rintro vs junk h3 ⟨i, w, hi, hi0, rfl, o3⟩
            by_cases hlt : i < l.length / r
            · by_cases hem : 0 ≤ l.headD 0
              · have hm0 : (0 : Int) ≤ (i : Int) * (r : Int) := Int.mul_nonneg (by omega) (by omega)
                have hm1 : i * r + r ≤ l.length := by
                  have := Nat.mul_le_mul_right r (show i + 1 ≤ l.length / r by omega)
                  rw [Nat.add_mul, hq3] at this
                  omega
                have hm2 : ((i * r : Nat) : Int) = (i : Int) * (r : Int) := Int.natCast_mul _ _
                have hpl := partsL_len hm1
                have hps := partsL_short (r := r) (i := i) (fun x hx => ⟨(hal x hx).1, (hal x hx).2.1⟩)
                refine StillVC.run (StillVC.lenAn (a0.ext o3.ext) (by assumption) sl23 ?_)
                refine StillVC.run (StillVC.quoE rfl rfl (by omega) (by omega) (by simp [IntKind.max, IntKind.signed, IntKind.bits]; omega) ?_)
                refine Br.dec (fun c52 => ?_) (fun hc => absurd (by omega) hc)
                refine StillVC.run (StillVC.idx sl23 ty3 (a0.ext o3.ext) rfl (by omega) (by omega) ?_)
                refine StillVC.run (StillVC.loadM (a0.ext o3.ext) ty3 rfl (by first | assumption | rfl) ?_)
                refine Br.dec (fun c55 => ?_) (fun hc => absurd (by omega) hc)
                refine CallVC.ret (decimal_spec i _ (by omega) (by omega)) ?_
                rintro _ h4 ⟨rfl, oc⟩
                have o4 := o3.ext' oc
                clear o3
                have hia := itoa_short i (by omega) (by omega)
                refine StillVC.run (StillVC.strAdd rfl rfl (by simp; omega) ?_)
                refine LoopVC.intro [8, 9, 47, 48, 49, 50, 51, 52, 53, 54, 55, 56, 57, 58, 59, 60, 61, 62, 63, 64, 65, 66] [8, 9] (fun vs hh => ∃ (k : Nat), k ≤ r ∧ vs = [.string ⟨⟨refKey l r i k⟩⟩, .int .i64 k] ∧ Own h [row w 9 1 i (strs ((List.range i).map fun i => keyL l r i))] hh) (fun vs _ => match vs with | [_, .int _ k] => r - k.toNat | _ => 0) ?_ ?_
                · exact ⟨0, by omega, by simp [refKey, Lib.join_nil], o4⟩
                · clear o4
                  rintro vs junk h5 ⟨k, hk, rfl, o5⟩
                  have hkl : (refKey l r i k).length ≤ 2000 := by
                    have hj := join_len 46 ((partsL l r i).take k) (fun s hs => hps s (List.mem_of_mem_take hs))
                    rw [List.length_take] at hj
                    simp only [refKey, List.length_append, List.length_cons, List.length_nil]
                    omega
                  by_cases hlt2 : k < r
                  · obtain ⟨x, hx⟩ := getx (show i * r + k < l.length by omega)
                    have hx2 : l[((i : Int) * (r : Int) + (k : Int)).toNat]? = some x := hx
                    have hxm := hal x (List.mem_of_getElem? hx)
                    have hst := refKey_step hlt2 hx
                    have hxi := itoa_short x (by omega) (by omega)
                    by_cases hk0 : 0 < k
                    · rw [if_pos hk0] at hst
                      refine Br.dec (fun c70 => ?_) (fun hc => absurd (by omega) hc)
                      refine Br.dec (fun c71 => ?_) (fun hc => absurd (by omega) hc)
                      refine StillVC.run (StillVC.strAdd rfl rfl (by simp; omega) ?_)
                      refine Ar.i64 (by omega) (by omega) ?_
                      refine Ar.i64 (by omega) (by omega) ?_
                      refine StillVC.run (StillVC.idx sl23 ty3 (a0.ext o5.ext) rfl (by omega) (by omega) ?_)
                      refine StillVC.run (StillVC.loadM (a0.ext o5.ext) ty3 rfl (by first | assumption | rfl) ?_)
                      refine CallVC.ret (decimal_spec x _ (by omega) (by omega)) ?_
                      rintro _ h6 ⟨rfl, od⟩
                      have o6 := o5.ext' od
                      clear o5
                      have hkl2 : (refKey l r i k ++ [46]).length ≤ 2001 := by simp; omega
                      refine StillVC.run (StillVC.strAdd rfl rfl (by simp; omega) ?_)
                      refine Ar.i64 (by omega) (by omega) ?_
                      refine ⟨rfl, ?_⟩
                      exact ⟨⟨k + 1, by omega, by rw [hst]; rfl, o6⟩, by simp; omega⟩
                    · rw [if_neg hk0] at hst
                      refine Br.dec (fun c70 => ?_) (fun hc => absurd (by omega) hc)
                      refine Br.dec (fun hc => absurd hc (by omega)) (fun c71 => ?_)
                      refine Ar.i64 (by omega) (by omega) ?_
                      refine Ar.i64 (by omega) (by omega) ?_
                      refine StillVC.run (StillVC.idx sl23 ty3 (a0.ext o5.ext) rfl (by omega) (by omega) ?_)
                      refine StillVC.run (StillVC.loadM (a0.ext o5.ext) ty3 rfl (by first | assumption | rfl) ?_)
                      refine CallVC.ret (decimal_spec x _ (by omega) (by omega)) ?_
                      rintro _ h6 ⟨rfl, od⟩
                      have o6 := o5.ext' od
                      clear o5
                      refine StillVC.run (StillVC.strAdd rfl rfl (by omega) ?_)
                      refine Ar.i64 (by omega) (by omega) ?_
                      refine ⟨rfl, ?_⟩
                      exact ⟨⟨k + 1, by omega, by rw [hst]; rfl, o6⟩, by simp; omega⟩
                  · obtain rfl : k = r := by omega
                    have hrk : refKey l k i k = keyL l k i := by
                      unfold refKey keyL
                      rw [List.take_of_length_le (by omega)]
                    refine Br.dec (fun hc => absurd hc (by omega)) (fun c90 => ?_)
                    (refine RunVC.lit o5 sl22 ty9 rfl rfl (by decide) (And.intro rfl ?_); intro b91 m91 o91)
                    (refine RunVC.append o91 0 rfl sl22 ty9 (by decide) (o91.boxArr 1 rfl (by simp) (by simp)).toN (by simp [Value.oneCell']) (by simp [maxLen]; omega) (by simp; omega) ?_; intro v92 m92 o92)
                    refine Ar.i64 (by omega) (by omega) ?_
                    refine ⟨rfl, ?_⟩
                    refine ⟨⟨i + 1, _, by omega, fun _ => hem, rfl, ?_⟩, by simp; omega⟩
                    have o8 := o92.sel [0] rfl
                    have e : strs ((List.range (i + 1)).map fun i => keyL l k i) = strs ((List.range i).map fun i => keyL l k i) ++ [Value.string ⟨⟨refKey l k i k⟩⟩] := by simp [List.range_succ, hrk]
                    rw [e]
                    exact o8
              · refine StillVC.run (StillVC.lenAn (a0.ext o3.ext) (by assumption) sl23 ?_)
                refine StillVC.run (StillVC.quoE rfl rfl (by omega) (by omega) (by simp [IntKind.max, IntKind.signed, IntKind.bits]; omega) ?_)
                refine Br.dec (fun c82 => ?_) (fun hc => absurd (by omega) hc)
                refine StillVC.run (StillVC.idx sl23 ty3 (a0.ext o3.ext) rfl (by omega) (by omega) ?_)
                refine StillVC.run (StillVC.loadM (a0.ext o3.ext) ty3 rfl (by first | assumption | rfl) ?_)
                refine Br.dec (fun hc => absurd hc (by omega)) (fun c85 => ?_)
                refine RetVC.two rfl ?_
                have hB : bandsL l r = [] := if_pos (by omega)
                obtain rfl : i = 0 := by omega
                rw [hB]
                exact ⟨_, rfl, o3.rowRo 0 rfl⟩
            · refine StillVC.run (StillVC.lenAn (a0.ext o3.ext) (by assumption) sl23 ?_)
              refine StillVC.run (StillVC.quoE rfl rfl (by omega) (by omega) (by simp [IntKind.max, IntKind.signed, IntKind.bits]; omega) ?_)
              refine Br.dec (fun hc => absurd hc (by omega)) (fun c72 => ?_)
              refine Br.ff ?_
              refine RetVC.two rfl ?_
              obtain rfl : i = l.length / r := by omega
              have hB : bandsL l r = (List.range (l.length / r)).map fun i => keyL l r i := if_neg (by have := hi0 hq4; omega)
              rw [hB]
              exact ⟨_, rfl, o3.rowRo 0 rfl⟩
        · have hR : bandsR l rows = ([], 1) := by
            have : ¬ l.length % rows.toNat = 0 := by
              intro e
              apply hr3
              rw [show rows = (rows.toNat : Int) by omega, ← Int.natCast_emod, e]
              rfl
            simp [bandsR, this]
          rw [hR]
          refine Br.ff ?_
          refine Br.dec (fun hc => absurd hc (by omega)) (fun c30 => ?_)
          refine StillVC.run (StillVC.lenAn (a0.ext oa.ext) (by assumption) sl23 ?_)
          refine Br.dec (fun hc => absurd hc (by omega)) (fun c32 => ?_)
          refine StillVC.run (StillVC.lenAn (a0.ext oa.ext) (by assumption) sl23 ?_)
          refine StillVC.run (StillVC.remE rfl rfl (by omega) (by omega) ?_)
          refine Br.ndec (fun c35 => ?_) (fun hc => absurd hc (by first | omega | assumption | decide))
          refine RetVC.two rfl ?_
          exact ⟨_, rfl, oa.nilRo⟩
      · have hR : bandsR l rows = ([], 1) := by simp [bandsR, hr2]
        rw [hR]
        refine Br.ff ?_
        refine Br.dec (fun hc => absurd hc (by omega)) (fun c40 => ?_)
        refine StillVC.run (StillVC.lenAn (a0.ext oa.ext) (by assumption) sl23 ?_)
        refine Br.dec (fun c42 => ?_) (fun hc => absurd (by omega) hc)
        refine Br.tt ?_
        refine RetVC.two rfl ?_
        exact ⟨_, rfl, oa.nilRo⟩
    · have hR : bandsR l rows = ([], 1) := by simp [bandsR, hr1]
      rw [hR]
      refine Br.ff ?_
      refine Br.dec (fun c50 => ?_) (fun hc => absurd (by omega) hc)
      refine Br.tt ?_
      refine RetVC.two rfl ?_
      exact ⟨_, rfl, oa.nilRo⟩

end Go.Proofs.YtmehgkkpabbmcaaDoor
