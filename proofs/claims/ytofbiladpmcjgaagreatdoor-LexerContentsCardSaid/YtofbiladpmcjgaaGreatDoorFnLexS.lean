/-
  The lexer's gaps.
-/
import Derived.Test.YtofbiladpmcjgaaGreatDoorStructs
import Derived.Test.YtofbiladpmcjgaaGreatDoorFnLexNum
namespace Go.Proofs.YtofbiladpmcjgaaGreatDoor
open Go

/-- How many bytes are gaps; within a comment or not. -/
def gapF (comment : Bool) : List UInt8 → Nat
  | [] => 0
  | c :: r => if c.toNat = 10 then 1 + gapF false r else if c.toNat = 35 then 1 + gapF true r else if comment = false ∧ c.toNat ≠ 32 ∧ c.toNat ≠ 9 then 0 else 1 + gapF comment r

theorem gapF_le : ∀ (k : Bool) (l : List UInt8), gapF k l ≤ l.length
  | _, [] => Nat.le_refl _
  | k, c :: r => by
    have h1 := gapF_le false r
    have h2 := gapF_le true r
    have h3 := gapF_le k r
    unfold gapF
    split
    · simp; omega
    · split
      · simp; omega
      · split
        · simp
        · simp; omega

theorem gapF_comment : ∀ (l : List UInt8), gapF true l = spanN notNl l + gapF false (l.drop (spanN notNl l))
  | [] => rfl
  | c :: r => by
    have ih := gapF_comment r
    by_cases hc : c.toNat = 10
    · have hn : notNl c = false := by simp [notNl, hc]
      have hs : spanN notNl (c :: r) = 0 := by unfold spanN; rw [List.takeWhile_cons, hn]; rfl
      rw [hs]
      simp [gapF, hc]
    · have hn : notNl c = true := by simp [notNl, hc]
      have hs : spanN notNl (c :: r) = spanN notNl r + 1 := by unfold spanN; rw [List.takeWhile_cons, hn]; rfl
      rw [hs, List.drop_succ_cons]
      have : gapF true (c :: r) = 1 + gapF true r := by
        rw [gapF, if_neg hc]
        by_cases h35 : c.toNat = 35
        · rw [if_pos h35]
        · rw [if_neg h35, if_neg (by simp)]
      rw [this, ih]
      omega

theorem gapF_hash {c : UInt8} {r : List UInt8} (hc : c.toNat = 35) : gapF false (c :: r) = spanN notNl (c :: r) + gapF false ((c :: r).drop (spanN notNl (c :: r))) := by
  rw [← gapF_comment]
  simp [gapF, hc]

theorem gapF_at {t : List UInt8} {j : Nat} {c : UInt8} (hc : t[j]? = some c) :
    gapF false (t.drop j) = if c.toNat = 10 then 1 + gapF false (t.drop (j + 1)) else if c.toNat = 35 then 1 + gapF true (t.drop (j + 1)) else if c.toNat ≠ 32 ∧ c.toNat ≠ 9 then 0 else 1 + gapF false (t.drop (j + 1)) := by
  obtain ⟨hj, rfl⟩ := List.getElem?_eq_some_iff.1 hc
  rw [List.drop_eq_getElem_cons hj, gapF]
  simp only [true_and]

theorem gapF_hash_at {t : List UInt8} {j : Nat} {c : UInt8} (hc : t[j]? = some c) (h35 : c.toNat = 35) :
    gapF false (t.drop j) = spanN notNl (t.drop j) + gapF false (t.drop (j + spanN notNl (t.drop j))) ∧ 0 < spanN notNl (t.drop j) := by
  obtain ⟨hj, rfl⟩ := List.getElem?_eq_some_iff.1 hc
  constructor
  · have := gapF_hash (r := t.drop (j + 1)) h35
    rw [← List.drop_eq_getElem_cons hj, List.drop_drop] at this
    exact this
  · have hn : notNl t[j] = true := by simp [notNl, h35]
    rw [List.drop_eq_getElem_cons hj]
    unfold spanN
    rw [List.takeWhile_cons, hn]
    simp

/-- What is left ahead of the scan. -/
def leftM (b : Nat) (t : List UInt8) (hh : Heap) : Nat :=
  match cellAt hh ⟨b, 1, none⟩ with
  | some (.int _ n) => t.length - n.toNat
  | _ => 0

theorem leftM_of {B : Base} {b j : Nat} {t : List UInt8} {h : Heap} {ty : TypeId} (o : Own B [box b [.string ⟨⟨t⟩⟩, .int .i64 j] ty] h) : leftM b t h = t.length - j := by
  unfold leftM
  rw [o.cellB 0 rfl 1]
  simp

set_option maxRecDepth 100000 in
theorem skip_spec (B : Base) (b : Nat) (t : List UInt8) (i : Nat) (h : Heap) (hi : i ≤ t.length) (hl : t.length ≤ 1000000)
    (o0 : Own B [box b [.string ⟨⟨t⟩⟩, .int .i64 i] 42] h) :
    SpecR Tryz.prog 15 [.pointer (some ⟨b, 0, none⟩)] h fun r h' => r = .tuple #[] ∧ Own B [box b [.string ⟨⟨t⟩⟩, .int .i64 (i + gapF false (t.drop i) : Nat)] 42] h' := by
  refine Spec.enter Tryz.func15 rfl Tryz.ntmps15 (by kernel_rfl) ?_
  refine LoopVC.intro [2, 3, 4, 5, 6, 7, 8, 9, 10, 11, 12, 13, 14, 15, 16, 17, 18, 19, 20, 21, 22, 23, 24, 25, 26, 27, 28, 29, 30, 31, 32, 33, 34, 35, 36, 37, 38, 39, 40, 41, 42] [] (fun vs hh => vs = [] ∧ ∃ (j : Nat), j ≤ t.length ∧ j + gapF false (t.drop j) = i + gapF false (t.drop i) ∧ Own B [box b [.string ⟨⟨t⟩⟩, .int .i64 j] 42] hh) (fun _ hh => leftM b t hh) ?_ ?_
  · exact ⟨rfl, i, hi, rfl, o0⟩
  · rintro vs junk hh ⟨rfl, j, hj, hg, oh⟩
    have hm := leftM_of oh
    by_cases hlt : j < t.length
    · obtain ⟨c, hc⟩ := getx hlt
      have ha := gapF_at hc
      have h1 := gapF_le false (t.drop (j + 1))
      have h35' := fun h => gapF_hash_at hc h
      by_cases h10 : c.toNat = 32 ∨ c.toNat = 9 ∨ c.toNat = 10
      · have hstep : gapF false (t.drop j) = 1 + gapF false (t.drop (j + 1)) := by
          rw [ha]
          by_cases h1 : c.toNat = 10
          · rw [if_pos h1]
          · rw [if_neg h1, if_neg (by omega), if_neg (by omega)]
        refine DrawVC.intro [0, 1, 2, 4, 5, 6, 8, 9] [3, 7] [] [0, 1, 2, 3, 4, 5, 6, 7, 8, 9] mixed (by kernel_rfl) rfl (fun _ _ _ _ h => h) ?_
        refine StillVC.nilCheck rfl ?_
        refine StillVC.fieldAddr st42 rfl rfl rfl ?_
        refine StillVC.loadO oh 0 rfl ty3 rfl rfl ?_
        refine StillVC.nilCheck rfl ?_
        refine StillVC.fieldAddr st42 rfl rfl rfl ?_
        refine StillVC.loadO oh 0 rfl ty9 rfl rfl ?_
        refine StillVC.lenS rfl str9 ?_
        refine Br.dec (fun c27 => ?_) (fun hc => absurd (by omega) hc)
        refine DrawVC.intro [0, 1, 2, 4, 5, 6, 8] [3, 7] [] [0, 1, 2, 3, 4, 5, 6, 7, 8] mixed (by kernel_rfl) rfl (fun _ _ _ _ h => h) ?_
        refine StillVC.nilCheck rfl ?_
        refine StillVC.fieldAddr st42 rfl rfl rfl ?_
        refine StillVC.loadO oh 0 rfl ty9 rfl rfl ?_
        refine StillVC.nilCheck rfl ?_
        refine StillVC.fieldAddr st42 rfl rfl rfl ?_
        refine StillVC.loadO oh 0 rfl ty3 rfl rfl ?_
        refine StillVC.strIdx rfl rfl str9 (by omega) (by assumption) ?_
        refine Br.dec (fun c35 => ?_) (fun c35 => ?_)
        refine Br.dec (fun c36 => ?_) (fun hc => absurd (by omega) hc)
        refine StillVC.run (StillVC.nilCheck rfl ?_)
        refine StillVC.run (StillVC.fieldAddr st42 rfl rfl rfl ?_)
        refine StillVC.run (StillVC.loadO oh 0 rfl ty3 rfl rfl ?_)
        refine Ar.i64 (by omega) (by omega) ?_
        refine StillVC.run (StillVC.nilCheck rfl ?_)
        refine StillVC.run (StillVC.fieldAddr st42 rfl rfl rfl ?_)
        (refine RunVC.store oh 0 rfl ty3 rfl (by simp) (And.intro ⟨rfl, rfl⟩ ?_); intro m42 o42)
        refine ⟨rfl, ?_⟩
        rotate_left
        refine Br.dec (fun c43 => ?_) (fun c43 => ?_)
        refine Br.dec (fun c44 => ?_) (fun hc => absurd (by omega) hc)
        refine StillVC.run (StillVC.nilCheck rfl ?_)
        refine StillVC.run (StillVC.fieldAddr st42 rfl rfl rfl ?_)
        refine StillVC.run (StillVC.loadO oh 0 rfl ty3 rfl rfl ?_)
        refine Ar.i64 (by omega) (by omega) ?_
        refine StillVC.run (StillVC.nilCheck rfl ?_)
        refine StillVC.run (StillVC.fieldAddr st42 rfl rfl rfl ?_)
        (refine RunVC.store oh 0 rfl ty3 rfl (by simp) (And.intro ⟨rfl, rfl⟩ ?_); intro m50 o50)
        refine ⟨rfl, ?_⟩
        rotate_left
        refine Br.dec (fun c51 => ?_) (fun hc => absurd (by omega) hc)
        refine StillVC.run (StillVC.nilCheck rfl ?_)
        refine StillVC.run (StillVC.fieldAddr st42 rfl rfl rfl ?_)
        refine StillVC.run (StillVC.loadO oh 0 rfl ty3 rfl rfl ?_)
        refine Ar.i64 (by omega) (by omega) ?_
        refine StillVC.run (StillVC.nilCheck rfl ?_)
        refine StillVC.run (StillVC.fieldAddr st42 rfl rfl rfl ?_)
        (refine RunVC.store oh 0 rfl ty3 rfl (by simp) (And.intro ⟨rfl, rfl⟩ ?_); intro m57 o57)
        refine ⟨rfl, ?_⟩
        all_goals
          refine ⟨⟨rfl, j + 1, by omega, by omega, by assumption⟩, ?_⟩
          rw [hm, leftM_of (j := j + 1) (ty := 42) (by assumption)]
          omega
      · by_cases h35 : c.toNat = 35
        · obtain ⟨hs1, hs2⟩ := h35' h35
          have hsl := spanN_le notNl (t.drop j)
          have hdl : (t.drop j).length = t.length - j := by simp
          refine DrawVC.intro [0, 1, 2, 4, 5, 6, 8, 9] [3, 7] [] [0, 1, 2, 3, 4, 5, 6, 7, 8, 9] mixed (by kernel_rfl) rfl (fun _ _ _ _ h => h) ?_
          refine StillVC.nilCheck rfl ?_
          refine StillVC.fieldAddr st42 rfl rfl rfl ?_
          refine StillVC.loadO oh 0 rfl ty3 rfl rfl ?_
          refine StillVC.nilCheck rfl ?_
          refine StillVC.fieldAddr st42 rfl rfl rfl ?_
          refine StillVC.loadO oh 0 rfl ty9 rfl rfl ?_
          refine StillVC.lenS rfl str9 ?_
          refine Br.dec (fun c47 => ?_) (fun hc => absurd (by omega) hc)
          refine DrawVC.intro [0, 1, 2, 4, 5, 6, 8] [3, 7] [] [0, 1, 2, 3, 4, 5, 6, 7, 8] mixed (by kernel_rfl) rfl (fun _ _ _ _ h => h) ?_
          refine StillVC.nilCheck rfl ?_
          refine StillVC.fieldAddr st42 rfl rfl rfl ?_
          refine StillVC.loadO oh 0 rfl ty9 rfl rfl ?_
          refine StillVC.nilCheck rfl ?_
          refine StillVC.fieldAddr st42 rfl rfl rfl ?_
          refine StillVC.loadO oh 0 rfl ty3 rfl rfl ?_
          refine StillVC.strIdx rfl rfl str9 (by omega) (by assumption) ?_
          refine Br.dec (fun hc => absurd hc (by omega)) (fun c55 => ?_)
          refine Br.dec (fun hc => absurd hc (by omega)) (fun c56 => ?_)
          refine Br.dec (fun hc => absurd hc (by omega)) (fun c57 => ?_)
          refine Br.dec (fun c58 => ?_) (fun hc => absurd (by omega) hc)
          refine DrawVC.intro [0, 1, 2, 4, 6, 7, 8] [3] [9] [0, 1, 2, 3, 4, 5, 6, 7, 8, 9] mixed (by kernel_rfl) rfl (fun _ _ _ _ h => h) ?_
          refine StillVC.nilCheck rfl ?_
          refine StillVC.fieldAddr st42 rfl rfl rfl ?_
          refine StillVC.loadO oh 0 rfl ty3 rfl rfl ?_
          refine CallVC.ret (run_spec notNl 29 [] b t j _ hj hl (oh.cellB 0 rfl 0) (oh.cellB 0 rfl 1) (fun d h' e => skip1_spec d h')) ?_
          rintro _ h2 ⟨rfl, ob⟩
          have o2 := ob.thenE (by assumption)
          generalize spanN notNl (t.drop j) = n at *
          refine And.intro ob.ext ?_
          refine Ar.i64 (by omega) (by omega) ?_
          refine StillVC.nilCheck rfl ?_
          refine StillVC.fieldAddr st42 rfl rfl rfl ?_
          (refine RunVC.store o2 0 rfl ty3 rfl (by simp) (And.intro ⟨rfl, rfl⟩ ?_); intro m72 o72)
          refine ⟨rfl, ?_⟩
          all_goals
            refine ⟨⟨rfl, j + n, by omega, by omega, by assumption⟩, ?_⟩
            rw [hm, leftM_of (j := j + n) (ty := 42) (by assumption)]
            omega
        · have hz : gapF false (t.drop j) = 0 := by rw [ha, if_neg (by omega), if_neg h35, if_pos (by omega)]
          rw [← hg, hz, Nat.add_zero]
          refine DrawVC.intro [0, 1, 2, 4, 5, 6, 8, 9] [3, 7] [] [0, 1, 2, 3, 4, 5, 6, 7, 8, 9] mixed (by kernel_rfl) rfl (fun _ _ _ _ h => h) ?_
          refine StillVC.nilCheck rfl ?_
          refine StillVC.fieldAddr st42 rfl rfl rfl ?_
          refine StillVC.loadO oh 0 rfl ty3 rfl rfl ?_
          refine StillVC.nilCheck rfl ?_
          refine StillVC.fieldAddr st42 rfl rfl rfl ?_
          refine StillVC.loadO oh 0 rfl ty9 rfl rfl ?_
          refine StillVC.lenS rfl str9 ?_
          refine Br.dec (fun c87 => ?_) (fun hc => absurd (by omega) hc)
          refine DrawVC.intro [0, 1, 2, 4, 5, 6, 8] [3, 7] [] [0, 1, 2, 3, 4, 5, 6, 7, 8] mixed (by kernel_rfl) rfl (fun _ _ _ _ h => h) ?_
          refine StillVC.nilCheck rfl ?_
          refine StillVC.fieldAddr st42 rfl rfl rfl ?_
          refine StillVC.loadO oh 0 rfl ty9 rfl rfl ?_
          refine StillVC.nilCheck rfl ?_
          refine StillVC.fieldAddr st42 rfl rfl rfl ?_
          refine StillVC.loadO oh 0 rfl ty3 rfl rfl ?_
          refine StillVC.strIdx rfl rfl str9 (by omega) (by assumption) ?_
          refine Br.dec (fun hc => absurd hc (by omega)) (fun c95 => ?_)
          refine Br.dec (fun hc => absurd hc (by omega)) (fun c96 => ?_)
          refine Br.dec (fun hc => absurd hc (by omega)) (fun c97 => ?_)
          refine Br.dec (fun hc => absurd hc (by omega)) (fun c98 => ?_)
          refine RetVC.zero rfl ?_
          exact ⟨rfl, oh⟩
    · have hz : gapF false (t.drop j) = 0 := by rw [List.drop_of_length_le (by omega)]; rfl
      rw [← hg, hz, Nat.add_zero]
      refine DrawVC.intro [0, 1, 2, 4, 5, 6, 8, 9] [3, 7] [] [0, 1, 2, 3, 4, 5, 6, 7, 8, 9] mixed (by kernel_rfl) rfl (fun _ _ _ _ h => h) ?_
      refine StillVC.nilCheck rfl ?_
      refine StillVC.fieldAddr st42 rfl rfl rfl ?_
      refine StillVC.loadO oh 0 rfl ty3 rfl rfl ?_
      refine StillVC.nilCheck rfl ?_
      refine StillVC.fieldAddr st42 rfl rfl rfl ?_
      refine StillVC.loadO oh 0 rfl ty9 rfl rfl ?_
      refine StillVC.lenS rfl str9 ?_
      refine Br.dec (fun hc => absurd hc (by omega)) (fun c97 => ?_)
      refine RetVC.zero rfl ?_
      exact ⟨rfl, oh⟩

end Go.Proofs.YtofbiladpmcjgaaGreatDoor
