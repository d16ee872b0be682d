/-
  The reference's union of chapter 5.
-/
import Derived.Test.YtmehgkkpabbmcaaDoorStructs
import Derived.Test.YtmehgkkpabbmcaaDoorFnValid
namespace Go.Proofs.YtmehgkkpabbmcaaDoor
open Go

theorem unionL_ref {a b : List Int} (ka : okB a = true) (kb : okB b = true) (ha : 0 ≤ a.headD 0) (hb : 0 ≤ b.headD 0) : unionL a b = a.zipWith min b := by
  unfold unionL
  rw [if_neg (by omega), if_neg (by omega)]

theorem zip_step {a b : List Int} {i : Nat} {x y : Int} (hx : a[i]? = some x) (hy : b[i]? = some y) : (a.zipWith min b).take i ++ [min x y] = (a.zipWith min b).take (i + 1) := by
  rw [List.take_add_one, List.getElem?_zipWith, hx, hy]
  rfl

set_option maxRecDepth 100000 in
theorem refUnion_spec (a b : List Int) (va vb : Value) (h : Heap) (a0 : Arr h va (ints a)) (b0 : Arr h vb (ints b)) (ha : a.length ≤ 1000000000) (hb : b.length ≤ 1000000000) :
    SpecR Tryd.prog 15 [va, vb] h fun r h' => ∃ w, r = .tuple ⟨[w, .int .i64 (unionR a b).2]⟩ ∧ Own h [ro w (ints (unionR a b).1)] h' := by
  refine Spec.enter Tryd.func15 rfl Tryd.ntmps15 (by kernel_rfl) ?_
  have o0 := Own.refl h
  have la : (ints a).length = a.length := by simp
  have lb : (ints b).length = b.length := by simp
  refine CallVC.ret (refValid_spec a va _ a0 ha) ?_
  rintro _ h1 ⟨rfl, oa⟩
  cases ka : okB a with
  | false =>
    refine Br.tt ?_
    refine Br.tt ?_
    refine RetVC.two rfl ?_
    have hR : unionR a b = ([], 1) := by simp [unionR, ka]
    rw [hR]
    exact ⟨_, rfl, oa.nilRo⟩
  | true =>
    refine Br.ff ?_
    refine CallVC.ret (refValid_spec b vb _ (b0.ext oa.ext) hb) ?_
    rintro _ h2 ⟨rfl, ob⟩
    have o2 := oa.ext' ob
    clear oa ob o0
    cases kb : okB b with
    | false =>
      refine Br.tt ?_
      refine Br.tt ?_
      refine RetVC.two rfl ?_
      have hR : unionR a b = ([], 1) := by simp [unionR, kb]
      rw [hR]
      exact ⟨_, rfl, o2.nilRo⟩
    | true =>
      by_cases hab : a.length = b.length
      · have hR : unionR a b = (unionL a b, 0) := by simp [unionR, ka, kb, hab]
        rw [hR]
        obtain ⟨hl1, hl64, hal⟩ := okB_spec ka
        obtain ⟨hb1, hb64, hbl⟩ := okB_spec kb
        have hha := headD_get hl1
        have hhb := headD_get hb1
        have hma := hal _ (headD_mem hl1)
        have hmb := hbl _ (headD_mem hb1)
        by_cases hea : a.headD 0 < 0
        · have hU : unionL a b = b := by unfold unionL; rw [if_pos (by omega)]
          rw [hU]
          refine Br.ff ?_
          refine StillVC.run (StillVC.lenAn (a0.ext o2.ext) (by assumption) sl23 ?_)
          refine StillVC.run (StillVC.lenAn (b0.ext o2.ext) (by assumption) sl23 ?_)
          refine Br.ndec (fun hc => absurd (by first | omega | assumption | decide) hc) (fun c42 => ?_)
          refine StillVC.run (StillVC.idx sl23 ty3 (a0.ext o2.ext) rfl (by omega) (by omega) ?_)
          refine StillVC.run (StillVC.loadM (a0.ext o2.ext) ty3 rfl (by first | assumption | rfl) ?_)
          refine Br.dec (fun c45 => ?_) (fun hc => absurd (by omega) hc)
          (refine RunVC.lit o2 sl23 ty3 rfl rfl (by decide) (And.intro rfl ?_); intro b46 m46 o46)
          have o47 : Own h [row (.slice (some ⟨b46, 0, none⟩) 0 0) 3 1 0 []] m46 := o46.boxRow 0 rfl 1 0 0 rfl (Nat.le_refl _) (by decide)
          (refine RunVC.append o47 0 rfl sl23 ty3 (by decide) (b0.ext o47.ext).toN (by simp [Value.oneCell']) (by simp [maxLen]; omega) (by simp; omega) ?_; intro v50 m50 o50)
          refine RetVC.two rfl ?_
          have o60 := o50.sel [0] rfl
          have o61 : Own h [row v50 3 1 b.length (ints b)] m50 := by simpa [pick] using o60
          exact ⟨_, rfl, o61.rowRo 0 rfl⟩
        · by_cases heb : b.headD 0 < 0
          · have hU : unionL a b = a := by unfold unionL; rw [if_neg (by omega), if_pos (by omega)]
            rw [hU]
            refine Br.ff ?_
            refine StillVC.run (StillVC.lenAn (a0.ext o2.ext) (by assumption) sl23 ?_)
            refine StillVC.run (StillVC.lenAn (b0.ext o2.ext) (by assumption) sl23 ?_)
            refine Br.ndec (fun hc => absurd (by first | omega | assumption | decide) hc) (fun c52 => ?_)
            refine StillVC.run (StillVC.idx sl23 ty3 (a0.ext o2.ext) rfl (by omega) (by omega) ?_)
            refine StillVC.run (StillVC.loadM (a0.ext o2.ext) ty3 rfl (by first | assumption | rfl) ?_)
            refine Br.dec (fun hc => absurd hc (by omega)) (fun c55 => ?_)
            refine StillVC.run (StillVC.idx sl23 ty3 (b0.ext o2.ext) rfl (by omega) (by omega) ?_)
            refine StillVC.run (StillVC.loadM (b0.ext o2.ext) ty3 rfl (by first | assumption | rfl) ?_)
            refine Br.dec (fun c58 => ?_) (fun hc => absurd (by omega) hc)
            (refine RunVC.lit o2 sl23 ty3 rfl rfl (by decide) (And.intro rfl ?_); intro b59 m59 o59)
            have o60 : Own h [row (.slice (some ⟨b59, 0, none⟩) 0 0) 3 1 0 []] m59 := o59.boxRow 0 rfl 1 0 0 rfl (Nat.le_refl _) (by decide)
            (refine RunVC.append o60 0 rfl sl23 ty3 (by decide) (a0.ext o60.ext).toN (by simp [Value.oneCell']) (by simp [maxLen]; omega) (by simp; omega) ?_; intro v60 m60 o60)
            refine RetVC.two rfl ?_
            have o61 := o60.sel [0] rfl
            have o62 : Own h [row v60 3 1 a.length (ints a)] m60 := by simpa [pick] using o61
            exact ⟨_, rfl, o62.rowRo 0 rfl⟩
          · have hU := unionL_ref ka kb (by omega) (by omega)
            rw [hU]
            have o3 := o2.nilRow 3 1
            clear o2
            refine Br.ff ?_
            refine StillVC.run (StillVC.lenAn (a0.ext o3.ext) (by assumption) sl23 ?_)
            refine StillVC.run (StillVC.lenAn (b0.ext o3.ext) (by assumption) sl23 ?_)
            refine Br.ndec (fun hc => absurd (by first | omega | assumption | decide) hc) (fun c62 => ?_)
            refine StillVC.run (StillVC.idx sl23 ty3 (a0.ext o3.ext) rfl (by omega) (by omega) ?_)
            refine StillVC.run (StillVC.loadM (a0.ext o3.ext) ty3 rfl (by first | assumption | rfl) ?_)
            refine Br.dec (fun hc => absurd hc (by omega)) (fun c65 => ?_)
            refine StillVC.run (StillVC.idx sl23 ty3 (b0.ext o3.ext) rfl (by omega) (by omega) ?_)
            refine StillVC.run (StillVC.loadM (b0.ext o3.ext) ty3 rfl (by first | assumption | rfl) ?_)
            refine Br.dec (fun hc => absurd hc (by omega)) (fun c68 => ?_)
            refine LoopVC.intro [6, 7, 37, 38, 39, 40, 41, 42, 43, 44, 45, 46, 47, 48, 49, 50, 51, 52, 53, 54] [6, 7] (fun vs hh => ∃ (i : Nat) (w : Value), i ≤ a.length ∧ vs = [w, .int .i64 i] ∧ Own h [row w 3 1 i (ints ((a.zipWith min b).take i))] hh) (fun vs _ => match vs with | [_, .int _ i] => a.length - i.toNat | _ => 0) ?_ ?_
            · exact ⟨0, _, by omega, rfl, o3⟩
            · clear o3
              rintro vs junk h3 ⟨i, w, hi, rfl, o3⟩
              by_cases hlt : i < a.length
              · obtain ⟨x, hx⟩ := getx hlt
                obtain ⟨y, hy⟩ := getx (show i < b.length by omega)
                refine StillVC.run (StillVC.lenAn (a0.ext o3.ext) (by assumption) sl23 ?_)
                refine Br.dec (fun c71 => ?_) (fun hc => absurd (by omega) hc)
                refine DrawVC.intro [0, 1, 2, 3, 5, 6, 7, 9, 12] [4, 8] [10, 11] [0, 1, 2, 3, 4, 5, 6, 7, 8, 9, 10, 11, 12] mixed (by kernel_rfl) rfl (fun _ _ _ _ h => h) ?_
                refine StillVC.idx sl23 ty3 (a0.ext o3.ext) rfl (by omega) (by omega) ?_
                refine StillVC.loadM (a0.ext o3.ext) ty3 rfl (by first | assumption | rfl) ?_
                refine StillVC.idx sl23 ty3 (b0.ext o3.ext) rfl (by omega) (by omega) ?_
                refine StillVC.loadM (b0.ext o3.ext) ty3 rfl (by first | assumption | rfl) ?_
                refine StillVC.min2 rfl rfl ?_
                (refine RunVC.lit o3 sl23 ty3 rfl rfl (by decide) (And.intro rfl ?_); intro b77 m77 o77)
                (refine RunVC.append o77 0 rfl sl23 ty3 (by decide) (o77.boxArr 1 rfl (by simp) (by simp)).toN (by simp [Value.oneCell']) (by simp [maxLen]; omega) (by simp; omega) ?_; intro v78 m78 o78)
                refine Ar.i64 (by omega) (by omega) ?_
                refine ⟨rfl, ?_⟩
                refine ⟨⟨i + 1, _, by omega, rfl, ?_⟩, by simp; omega⟩
                rw [← zip_step hx hy]
                have o79 := o78.sel [0] rfl
                have e : ints ((a.zipWith min b).take i ++ [min x y]) = ints ((a.zipWith min b).take i) ++ [Value.int .i64 (min x y)] := by simp
                rw [e]
                exact o79
              · refine StillVC.run (StillVC.lenAn (a0.ext o3.ext) (by assumption) sl23 ?_)
                refine Br.dec (fun hc => absurd hc (by omega)) (fun c81 => ?_)
                refine RetVC.two rfl ?_
                obtain rfl : i = a.length := by omega
                rw [List.take_of_length_le (by rw [List.length_zipWith]; omega)] at o3
                exact ⟨_, rfl, o3.rowRo 0 rfl⟩
      · refine Br.ff ?_
        refine StillVC.run (StillVC.lenAn (a0.ext o2.ext) (by assumption) sl23 ?_)
        refine StillVC.run (StillVC.lenAn (b0.ext o2.ext) (by assumption) sl23 ?_)
        refine Br.ndec (fun c62 => ?_) (fun hc => absurd hc (by first | omega | assumption | decide))
        refine RetVC.two rfl ?_
        have hR : unionR a b = ([], 1) := by simp [unionR, hab]
        rw [hR]
        exact ⟨_, rfl, o2.nilRo⟩

end Go.Proofs.YtmehgkkpabbmcaaDoor
