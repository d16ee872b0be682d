/-
  least and Make of chapter 5.
-/
import Derived.Test.YtmehgkkpabbmcaaDoorStructs
import Derived.Test.YtmehgkkpabbmcaaDoorFnHash
namespace Go.Proofs.YtmehgkkpabbmcaaDoor
open Go

def leastL (seed : Int) : List (List UInt8) → Int
  | [] => -1
  | t :: ts => ts.foldl (fun b t => min b (hash t seed)) (hash t seed)

def Short (ss : List (List UInt8)) : Prop := ss.length ≤ 1000000 ∧ ∀ t ∈ ss, t.length ≤ 1000000000000

theorem Short.get {ss : List (List UInt8)} (hs : Short ss) {i : Nat} {t : List UInt8} (h : ss[i]? = some t) : t.length ≤ 1000000000000 := hs.2 t (List.mem_of_getElem? h)

theorem least_spec (seed : Int) (v : Value) (ss : List (List UInt8)) (h : Heap) (a0 : Arr h v (strs ss)) (hs : Short ss) :
    SpecR Tryd.prog 24 [.int .i64 seed, v] h fun r h' => r = .int .i64 (leastL seed ss) ∧ Own h [] h' := by
  refine Spec.enter Tryd.func24 rfl Tryd.ntmps24 (by kernel_rfl) ?_
  have o0 := Own.refl h
  have ln : (strs ss).length = ss.length := by simp
  have hl := hs.1
  cases ss with
  | nil =>
    refine StillVC.run (StillVC.lenAn a0 (by assumption) sl22 ?_)
    refine Br.tt ?_
    refine RetVC.one rfl ?_
    exact ⟨rfl, o0⟩
  | cons t ts =>
    have l2 : (t :: ts).length = ts.length + 1 := rfl
    refine StillVC.run (StillVC.lenAn a0 (by assumption) sl22 ?_)
    refine Br.dec (fun hc => absurd hc (by omega)) (fun c21 => ?_)
    refine StillVC.run (StillVC.idx sl22 ty9 a0 rfl (by omega) (by omega) ?_)
    refine StillVC.run (StillVC.loadM a0 ty9 rfl (by first | assumption | rfl) ?_)
    refine CallVC.ret (hash_spec t seed _ (hs.get (i := 0) rfl)) ?_
    rintro _ h1 ⟨rfl, oa⟩
    have o1 := o0.ext' oa
    have ld : (List.drop (Int.toNat 1) (strs (t :: ts))).length = ts.length := by simp
    (refine StillVC.run (StillVC.sliceF sl22 ty9 (a0.ext o1.ext) rfl (by omega) (by simp; omega) ?_); intro v30 a30)
    refine StillVC.run (StillVC.lenAn a30 (by assumption) sl22 ?_)
    have a31 : Arr h1 v30 (strs ts) := a30
    clear a30 a0 o0 c21
    refine LoopVC.intro [5, 7, 19, 20, 21, 22, 23, 24, 25, 26, 27, 28] [5, 19] (fun vs hh => ∃ (i : Nat), i ≤ ts.length ∧ vs = [.int .i64 ((ts.take i).foldl (fun b t => min b (hash t seed)) (hash t seed)), .int .i64 i] ∧ Own h [] hh ∧ Arr hh v30 (strs ts)) (fun vs _ => match vs with | [_, .int _ i] => ts.length - i.toNat | _ => 0) ?_ ?_
    · exact ⟨0, by omega, rfl, o1, a31⟩
    · clear o1 a31
      rintro vs junk h2 ⟨i, hi, rfl, o2, a2⟩
      have l3 : (strs ts).length = ts.length := by simp
      by_cases hlt : i < ts.length
      · obtain ⟨u, hu⟩ := getx hlt
        refine Br.dec (fun c50 => ?_) (fun hc => absurd (by omega) hc)
        refine StillVC.run (StillVC.idx sl22 ty9 a2 rfl (by omega) (by omega) ?_)
        refine StillVC.run (StillVC.loadM a2 ty9 rfl (by first | assumption | rfl) ?_)
        refine CallVC.ret (hash_spec u seed _ (hs.get (i := i + 1) (by simpa using hu))) ?_
        rintro _ h3 ⟨rfl, ob⟩
        have o3 := o2.ext' ob
        have a3 := a2.ext ob.ext
        refine StillVC.run (StillVC.min2 rfl rfl ?_)
        refine Ar.i64 (by omega) (by omega) ?_
        refine ⟨rfl, ?_⟩
        refine ⟨⟨i + 1, by omega, ?_, o3, a3⟩, ?_⟩
        · rw [List.take_add_one, hu]; simp
        · simp; omega
      · refine Br.dec (fun hc => absurd hc (by omega)) (fun c70 => ?_)
        refine RetVC.one rfl ?_
        obtain rfl : i = ts.length := by omega
        exact ⟨by rw [List.take_length]; rfl, o2⟩

def makeL (ss : List (List UInt8)) (n : Nat) : List Int := (List.range n).map fun (i : Nat) => leastL (i : Int) ss

/-- Make: the numbers, and the error. -/
def makeR (ss : List (List UInt8)) (n : Int) : List Int × Int := if 1 ≤ n ∧ n ≤ 64 then (makeL ss n.toNat, 0) else ([], 1)

theorem makeL_length (ss : List (List UInt8)) (n : Nat) : (makeL ss n).length = n := by simp [makeL]

theorem make_set (ss : List (List UInt8)) (n k : Nat) (hk : k < n) :
    ((ints (makeL ss k)) ++ List.replicate (n - k) (Value.int .i64 0)).set k (.int .i64 (leastL k ss)) = ints (makeL ss (k + 1)) ++ List.replicate (n - (k + 1)) (Value.int .i64 0) := by
  have : n - k = (n - (k + 1)) + 1 := by omega
  rw [this, List.replicate_succ, List.set_append, if_neg (by simp [makeL])]
  simp [makeL, List.range_succ]

theorem make_spec (v : Value) (ss : List (List UInt8)) (n : Int) (h : Heap) (a0 : Arr h v (strs ss)) (hs : Short ss) :
    SpecR Tryd.prog 12 [v, .int .i64 n] h fun r h' => ∃ w, r = .tuple ⟨[w, .int .i64 (makeR ss n).2]⟩ ∧ Own h [ro w (ints (makeR ss n).1)] h' := by
  refine Spec.enter Tryd.func12 rfl Tryd.ntmps12 (by kernel_rfl) ?_
  have o0 := Own.refl h
  by_cases hn : 1 ≤ n ∧ n ≤ 64
  · have hr : makeR ss n = (makeL ss n.toNat, 0) := by simp [makeR, hn]
    rw [hr]
    obtain ⟨hn1, hn2⟩ := hn
    refine Br.dec (fun hc => absurd hc (by omega)) (fun c10 => ?_)
    refine Br.dec (fun hc => absurd hc (by omega)) (fun c11 => ?_)
    (refine RunVC.make o0 sl23 ty3 rfl rfl (by omega) (by omega) (by omega) ?_; intro b12 m12 o12)
    refine LoopVC.intro [7, 17, 18, 19, 20, 21, 22, 23, 24, 25, 26] [17] (fun vs hh => ∃ (i : Nat), i ≤ n.toNat ∧ vs = [.int .i64 i] ∧ Own h [box b12 (ints (makeL ss i) ++ List.replicate (n.toNat - i) (.int .i64 0)) 3] hh) (fun vs _ => match vs with | [.int _ i] => n.toNat - i.toNat | _ => 0) ?_ ?_
    · exact ⟨0, by omega, rfl, by simpa [makeL] using o12⟩
    · clear o12 c11 c10
      rintro vs junk h2 ⟨i, hi, rfl, o2⟩
      have lb : (ints (makeL ss i) ++ List.replicate (n.toNat - i) (Value.int .i64 0)).length = n.toNat := by simp [makeL_length]; omega
      by_cases hlt : i < n.toNat
      · refine Br.dec (fun c20 => ?_) (fun hc => absurd (by omega) hc)
        refine CallVC.ret (least_spec i v ss _ (a0.ext o2.ext) hs) ?_
        rintro _ h3 ⟨rfl, ob⟩
        have o3 := o2.ext' ob
        clear o2
        refine StillVC.run (StillVC.idxB o3 0 rfl sl23 ty3 rfl rfl (by omega) (by simp; omega) ?_)
        (refine RunVC.store o3 0 rfl ty3 rfl (by simp only [List.length_cons, List.length_nil, Nat.zero_add]; omega) (And.intro ⟨rfl, rfl⟩ ?_); intro m31 o31)
        refine Ar.i64 (by omega) (by omega) ?_
        refine ⟨rfl, ?_⟩
        refine ⟨⟨i + 1, by omega, rfl, ?_⟩, ?_⟩
        · rw [← make_set ss n.toNat i hlt]; exact o31
        · simp; omega
      · refine Br.dec (fun hc => absurd hc (by omega)) (fun c40 => ?_)
        refine RetVC.two rfl ?_
        obtain rfl : i = n.toNat := by omega
        refine ⟨_, rfl, ?_⟩
        have o5 := o2.boxRo 0 rfl lb (Nat.le_refl _)
        simpa using o5
  · have hr : makeR ss n = ([], 1) := by simp [makeR, hn]
    rw [hr]
    by_cases hn1 : n < 1
    · refine Br.dec (fun c20 => ?_) (fun hc => absurd (by omega) hc)
      refine Br.tt ?_
      refine RetVC.two rfl ?_
      exact ⟨_, rfl, o0.nilRo⟩
    · have hn2 : 64 < n := by omega
      refine Br.dec (fun hc => absurd hc (by omega)) (fun c30 => ?_)
      refine Br.dec (fun c31 => ?_) (fun hc => absurd (by omega) hc)
      refine RetVC.two rfl ?_
      exact ⟨_, rfl, o0.nilRo⟩

theorem fold_min_nonneg (seed : Int) (ts : List (List UInt8)) : ∀ b : Int, 0 ≤ b → 0 ≤ ts.foldl (fun b t => min b (hash t seed)) b := by
  induction ts with
  | nil => intro b hb; exact hb
  | cons t ts ih => intro b hb; exact ih _ (by have := (hash_range t seed).1; show 0 ≤ min b _; omega)

theorem least_snoc (seed : Int) (ss : List (List UInt8)) (k : Nat) (t : List UInt8) (ht : ss[k]? = some t) :
    leastL seed (ss.take (k + 1)) = if leastL seed (ss.take k) < 0 ∨ hash t seed < leastL seed (ss.take k) then hash t seed else leastL seed (ss.take k) := by
  have h0 := (hash_range t seed).1
  cases ss with
  | nil => simp at ht
  | cons u us =>
    cases k with
    | zero => simp at ht; subst ht; simp [leastL]
    | succ k =>
      have ht' : us[k]? = some t := by simpa using ht
      have hn := fold_min_nonneg seed (us.take k) (hash u seed) (hash_range u seed).1
      simp only [List.take_succ_cons, leastL]
      rw [List.take_add_one, ht']
      simp only [Option.toList_some, List.foldl_append, List.foldl_cons, List.foldl_nil]
      have key : ∀ x : Int, 0 ≤ x → min x (hash t seed) = if x < 0 ∨ hash t seed < x then hash t seed else x := by
        intro x hx; split <;> omega
      exact key _ hn

theorem refMake_spec (v : Value) (ss : List (List UInt8)) (n : Int) (h : Heap) (a0 : Arr h v (strs ss)) (hs : Short ss) :
    SpecR Tryd.prog 13 [v, .int .i64 n] h fun r h' => ∃ w, r = .tuple ⟨[w, .int .i64 (makeR ss n).2]⟩ ∧ Own h [ro w (ints (makeR ss n).1)] h' := by
  refine Spec.enter Tryd.func13 rfl Tryd.ntmps13 (by kernel_rfl) ?_
  have o0 := Own.refl h
  by_cases hn : 1 ≤ n ∧ n ≤ 64
  · have hr : makeR ss n = (makeL ss n.toNat, 0) := by simp [makeR, hn]
    rw [hr]
    obtain ⟨hn1, hn2⟩ := hn
    have o1 := o0.nilRow 3 1
    refine Br.dec (fun hc => absurd hc (by omega)) (fun c10 => ?_)
    refine Br.dec (fun hc => absurd hc (by omega)) (fun c11 => ?_)
    refine LoopVC.intro [6, 7, 8, 9, 10, 17, 18, 19, 20, 21, 22, 23, 24, 25, 26, 27, 28, 29, 30, 31, 32, 33, 34, 35, 36, 37, 38, 39, 40, 41, 42, 43, 44, 45] [6, 7] (fun vs hh => ∃ (i : Nat) (w : Value), i ≤ n.toNat ∧ vs = [w, .int .i64 i] ∧ Own h [row w 3 1 i (ints (makeL ss i))] hh) (fun vs _ => match vs with | [_, .int _ i] => n.toNat - i.toNat | _ => 0) ?_ ?_
    · exact ⟨0, _, by omega, rfl, o1⟩
    · clear o1
      rintro vs junk h2 ⟨i, w, hi, rfl, o2⟩
      by_cases hlt : i < n.toNat
      · refine Br.dec (fun c20 => ?_) (fun hc => absurd (by omega) hc)
        refine LoopVC.intro [8, 9, 10, 22, 23, 24, 25, 26, 27, 28, 29, 30, 31, 32, 33, 34, 35, 36, 37, 38, 39, 40, 41] [8, 9] (fun vs hh => ∃ (k : Nat), k ≤ ss.length ∧ vs = [.int .i64 (leastL i (ss.take k)), .int .i64 k] ∧ Own h [row w 3 1 i (ints (makeL ss i))] hh) (fun vs _ => match vs with | [_, .int _ k] => ss.length - k.toNat | _ => 0) ?_ ?_
        · exact ⟨0, by omega, rfl, o2⟩
        · clear o2
          rintro vs junk h3 ⟨k, hk, rfl, o3⟩
          have ln : (strs ss).length = ss.length := by simp
          have hl := hs.1
          by_cases hlt2 : k < ss.length
          · obtain ⟨u, hu⟩ := getx hlt2
            have sn := least_snoc i ss k u hu
            generalize leastL i (ss.take k) = x at *
            refine StillVC.run (StillVC.lenAn (a0.ext o3.ext) (by assumption) sl22 ?_)
            refine Br.dec (fun c31 => ?_) (fun hc => absurd (by omega) hc)
            refine StillVC.run (StillVC.idx sl22 ty9 (a0.ext o3.ext) rfl (by omega) (by omega) ?_)
            refine StillVC.run (StillVC.loadM (a0.ext o3.ext) ty9 rfl (by first | assumption | rfl) ?_)
            refine CallVC.ret (refHash_spec u i _ (hs.get hu)) ?_
            rintro _ h4 ⟨rfl, ob⟩
            have o4 := o3.ext' ob
            clear o3
            have r2 := (hash_range u i).1
            refine Br.dec (fun c40 => ?_) (fun c40 => ?_)
            refine Br.tt ?_
            refine Ar.i64 (by omega) (by omega) ?_
            refine ⟨rfl, ?_⟩
            rotate_left
            refine Br.dec (fun c41 => ?_) (fun c41 => ?_)
            refine Ar.i64 (by omega) (by omega) ?_
            refine ⟨rfl, ?_⟩
            rotate_left
            refine Ar.i64 (by omega) (by omega) ?_
            refine ⟨rfl, ?_⟩
            · refine ⟨⟨k + 1, by omega, ?_, o4⟩, by simp; omega⟩
              rw [sn, if_neg (by omega)]; rfl
            · refine ⟨⟨k + 1, by omega, ?_, o4⟩, by simp; omega⟩
              rw [sn, if_pos (by omega)]; rfl
            · refine ⟨⟨k + 1, by omega, ?_, o4⟩, by simp; omega⟩
              rw [sn, if_pos (by omega)]; rfl
          · obtain rfl : k = ss.length := by omega
            rw [List.take_length]
            refine StillVC.run (StillVC.lenAn (a0.ext o3.ext) (by assumption) sl22 ?_)
            refine Br.dec (fun hc => absurd hc (by omega)) (fun c61 => ?_)
            (refine RunVC.lit o3 sl23 ty3 rfl rfl (by decide) (And.intro rfl ?_); intro b62 m62 o62)
            (refine RunVC.append o62 0 rfl sl23 ty3 (by decide) (o62.boxArr 1 rfl (by simp) (by simp)).toN (by simp [Value.oneCell']) (by simp [maxLen]; omega) (by simp; omega) ?_; intro v63 m63 o63)
            refine Ar.i64 (by omega) (by omega) ?_
            refine ⟨rfl, ?_⟩
            refine ⟨⟨i + 1, _, by omega, rfl, ?_⟩, by simp; omega⟩
            have o8 := o63.sel [0] rfl
            have e : ints (makeL ss (i + 1)) = ints (makeL ss i) ++ [Value.int .i64 (leastL i ss)] := by simp [makeL, List.range_succ]
            rw [e]; exact o8
      · refine Br.dec (fun hc => absurd hc (by omega)) (fun c70 => ?_)
        refine RetVC.two rfl ?_
        obtain rfl : i = n.toNat := by omega
        exact ⟨_, rfl, o2.rowRo 0 rfl⟩
  · have hr : makeR ss n = ([], 1) := by simp [makeR, hn]
    rw [hr]
    by_cases hn1 : n < 1
    · refine Br.dec (fun c20 => ?_) (fun hc => absurd (by omega) hc)
      refine Br.tt ?_
      refine RetVC.two rfl ?_
      exact ⟨_, rfl, o0.nilRo⟩
    · have hn2 : 64 < n := by omega
      refine Br.dec (fun hc => absurd hc (by omega)) (fun c30 => ?_)
      refine Br.dec (fun c31 => ?_) (fun hc => absurd (by omega) hc)
      refine RetVC.two rfl ?_
      exact ⟨_, rfl, o0.nilRo⟩

end Go.Proofs.YtmehgkkpabbmcaaDoor
