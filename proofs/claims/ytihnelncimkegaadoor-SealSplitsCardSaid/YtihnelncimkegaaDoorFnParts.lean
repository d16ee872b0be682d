/-
  The parts of a text: the iterator of chapter 45 hands them over one by one.
-/
import Derived.Test.YtihnelncimkegaaDoorStructs
import Derived.Test.YtihnelncimkegaaDoorFnYield
namespace Go.Proofs.YtihnelncimkegaaDoor
open Go Go.RowKit

def chunks (s : List UInt8) : List (List UInt8) := if _h : s.length ≤ 40 then [s] else s.take 40 :: chunks (s.drop 40)
termination_by s.length
decreasing_by simp; omega

theorem chunks_le {s : List UInt8} (h : s.length ≤ 40) : chunks s = [s] := by rw [chunks, dif_pos h]
theorem chunks_gt {s : List UInt8} (h : 40 < s.length) : chunks s = s.take 40 :: chunks (s.drop 40) := by rw [chunks, dif_neg (by omega)]

def wholeL (t : List UInt8) : List UInt8 := Lib.decDigits t.length ++ [58] ++ t
def splitL (t : List UInt8) : List (List UInt8) := chunks (wholeL t)

theorem itoa_nat (n : Nat) : Lib.itoa (n : Int) = Lib.decDigits n := Lib.itoa_nonneg n

/-- The slots behind the iterator's first region. -/
def N0 (l b : Nat) (x2 : Value) (s : List UInt8) (h0 : Heap) : List Value → Heap → Prop := fun s' h' => s' = sl l b x2 s (fun k => sget s' k) ∧ Ext h0 h'

def Q1 (l b : Nat) (s : List UInt8) (h0 : Heap) : QQ
  | .normal, s', h' => 40 < s.length ∧ s' = sl l b undef s (fun k => sget s' k) ∧ h' = h0
  | .exit 0, s', h' => s.length ≤ 40 ∧ s' = sl l b undef s (fun k => sget s' k) ∧ h' = h0
  | _, _, _ => False

def QB (l b : Nat) (t : List UInt8) (J Jx : List (List UInt8) → World → Prop) : Exit → Act → World → Prop
  | .normal, a, w => ∃ s x i, a = act (sl l b undef s x) [] ∧ s.length ≤ 40 ∧ J ((splitL t).take i) w ∧ chunks s = (splitL t).drop i
  | .ret, a, w => a.defers = [] ∧ ∃ pre, Jx pre w
  | _, _, _ => False

theorem carry {J : List (List UInt8) → World → Prop} {B : Nat} (hJ : AbidesFrom B J) {p : List (List UInt8)} {w w' : World} (h : J p w) (hs : Same w w') (he : Ext w.heap w'.heap) : J p w' :=
  hJ p w w' none h ⟨hs.os, hs.tape, hs.output, he.size, fun k hk _ => he.old k hk⟩ (fun r e => by cases e)

theorem drop_head {α : Type} {l : List α} {i : Nat} {x : α} {r : List α} (h : l.drop i = x :: r) : i < l.length ∧ l.take (i + 1) = l.take i ++ [x] ∧ l.drop (i + 1) = r := by
  have hi : i < l.length := by
    rcases Nat.lt_or_ge i l.length with h' | h'
    · exact h'
    · rw [List.drop_of_length_le h'] at h; cases h
  rw [List.drop_eq_getElem_cons hi] at h
  injection h with h1 h2
  exact ⟨hi, by rw [List.take_succ_eq_append_getElem hi, h1], h2⟩

set_option maxRecDepth 100000 in
set_option maxHeartbeats 1600000 in
theorem parts1_stops (t : List UInt8) (b : Nat) (w : World) (hB : b < w.heap.size) (hc : cellAt w.heap ⟨b, 0, none⟩ = some (.string ⟨⟨t⟩⟩)) (ht : TabH w.heap) (hl : t.length ≤ 140737488351232) :
    SeqStopsA Fence.wide 5 Tryd.prog 37 #[.pointer (some ⟨b, 0, none⟩)] (fun x : List UInt8 => #[.string ⟨⟨x⟩⟩]) (fun xs => xs = splitL t) (fun _ => True) (splitL t).length w := by
  intro l J Jx W hW hJ hJx hY h0
  refine callsIn_of_wp Tryd.func37 rfl trivial ?_ rfl
  refine (wpIn_wide (n := 5)).2 ?_
  have hcW : cellAt W.heap ⟨b, 0, none⟩ = some (.string ⟨⟨t⟩⟩) := (show Ext w.heap W.heap from ⟨hW.size, hW.block⟩).cell hc
  have htW : TabH W.heap := ht.ext ⟨hW.size, hW.block⟩
  simp only [Tryd.ntmps37, List.size_toArray, List.length_cons, List.length_nil, Nat.reduceAdd, Nat.reduceSub, Array.replicate_succ, Array.replicate_zero, List.push_toArray, List.append_toArray, List.nil_append, List.cons_append]
  refine wp_seq (wp_mono (vcode_sound (w0 := W) (ds := []) _ (onN (N0 l b undef (wholeL t) W.heap) (fun _ _ _ => False)) [yv l, .pointer (some ⟨b, 0, none⟩), undef, undef, undef, undef, undef, undef, undef, undef, undef, undef, undef, undef, undef, undef, undef, undef, undef, undef, undef, undef, undef] W (.refl W) ?_) ?_)
  · have o0 := Own.refl W.heap
    refine DrawVC.intro [1, 3, 5, 6] [0, 4] [] [0, 1, 4, 2, 3, 5, 6] mixed (by kernel_rfl) rfl (fun _ _ _ _ h => h) ?_
    refine StillVC.load1 ty9 rfl (by assumption) ?_
    refine StillVC.lenS rfl str9 ?_
    refine StillVC.load1 ty9 rfl (by assumption) ?_
    refine CallVC.ret (itoa_spec t.length _ (by omega) (by omega) htW) ?_
    rintro _ h1 ⟨rfl, oc⟩
    rw [itoa_nat]
    have hd := decDigits_short t.length (by omega)
    refine And.intro oc.ext ?_
    refine StillVC.strAdd rfl rfl (by first | omega | (simp; omega)) ?_
    refine StillVC.strAdd rfl rfl (by first | omega | (simp; omega)) ?_
    exact ⟨rfl, oc.ext⟩
  · rintro e a' w' ⟨s', rfl, hs', hq⟩
    cases e with
    | normal =>
      obtain ⟨hs1, hext⟩ := hq
      generalize (fun k => sget s' k) = x at hs1
      subst hs1
      have hJ0 : J [] w' := carry hJ h0 hs' hext
      have hwl : (wholeL t).length ≤ 281474976710656 := by
        have hd := decDigits_short t.length (by omega)
        simp [wholeL]; omega
      clear hext hs' h0
      refine wp_seq (wp_mono (wp_block (Q := QB l b t J Jx) (wp_loop (fun a w => ∃ s x i, a = act (sl l b undef s x) [] ∧ J ((splitL t).take i) w ∧ chunks s = (splitL t).drop i ∧ s.length ≤ 281474976710656)
        (fun a _ => match sget a.tmps.toList 3 with | .string st => st.size | _ => 0) ⟨wholeL t, x, 0, rfl, hJ0, rfl, hwl⟩ ?_)) ?_)
      · clear hJ0 hwl
        rintro a w1 ⟨s, x, i, rfl, hj, hch, hsl⟩
        refine wp_seq (wp_mono (vcode_sound (w0 := w1) (ds := []) _ (Q1 l b s w1.heap) (sl l b undef s x) w1 (.refl w1) ?_) ?_)
        · by_cases h40 : 40 < s.length
          · refine StillVC.run (StillVC.lenS rfl str9 ?_)
            refine Br.dec (fun c31 => ?_) (fun hc => absurd (by omega) hc)
            exact ⟨h40, rfl, rfl⟩
          · refine StillVC.run (StillVC.lenS rfl str9 ?_)
            refine Br.dec (fun hc => absurd hc (by omega)) (fun c41 => ?_)
            exact ⟨by omega, rfl, rfl⟩
        · rintro e a2 w2 ⟨s2, rfl, hs2, hq⟩
          cases e with
          | normal =>
            obtain ⟨h40, e2, eh⟩ := hq
            generalize (fun k => sget s2 k) = x2 at e2
            subst e2
            have hj2 : J ((splitL t).take i) w2 := carry hJ hj hs2 (by rw [eh]; exact .refl _)
            rw [chunks_gt h40] at hch
            obtain ⟨hi, htk, hdr⟩ := drop_head hch.symm
            refine wp_block (wp_seq (wp_seq (yield2 h40 (hY _ (s.take 40) w2 hj2 (by rw [List.length_take]; omega)) fun e w3 he => ?_)))
            rcases he with ⟨rfl, hj3, _⟩ | ⟨rfl, hx3⟩
            · refine ⟨true, rfl, fun x' hx' => ?_⟩
              refine wp_cond_split (t := false) (by rw [act_eval]; exact hx') (fun h => by cases h) (fun _ => wp_skip ?_)
              refine wp_mono (vcode_sound (w0 := w3) (ds := []) _ (onN (fun s' h' => s' = sl l b undef (s.drop 40) (fun k => sget s' k) ∧ h' = w3.heap) (fun _ _ _ => False)) _ w3 (.refl w3) ?_) ?_
              · refine StillVC.run (StillVC.sliceS str9 rfl ⟨_, rfl⟩ rfl (by omega) (by omega) (by omega) ?_)
                refine ⟨?_, rfl⟩
                have : ((s.take (s.length : Int).toNat).drop (Int.toNat 40)) = s.drop 40 := by rw [Int.toNat_natCast, List.take_length]; rfl
                rw [this]; rfl
              · rintro e a4 w4 ⟨s4, rfl, hs4, hq4⟩
                cases e with
                | normal =>
                  obtain ⟨e4, eh4⟩ := hq4
                  generalize (fun k => sget s4 k) = x4 at e4
                  subst e4
                  rw [← htk] at hj3
                  refine ⟨⟨s.drop 40, x4, i + 1, rfl, carry hJ hj3 hs4 (by rw [eh4]; exact .refl _), hdr.symm, by simp; omega⟩, ?_⟩
                  show (s.drop 40).length < s.length
                  simp; omega
                | _ => exact hq4.elim
            · refine ⟨false, rfl, fun x' hx' => ?_⟩
              refine wp_cond_split (t := true) (by rw [act_eval]; exact hx') (fun _ => wp_ret ?_) (fun h => by cases h)
              exact ⟨rfl, _, hx3⟩
          | exit id =>
            cases id with
            | zero =>
              obtain ⟨h40, e2, eh⟩ := hq
              exact ⟨s, _, i, by rw [e2], h40, carry hJ hj hs2 (by rw [eh]; exact .refl _), hch⟩
            | succ id => exact hq.elim
          | _ => exact hq.elim
      · rintro e a2 w2 hq
        cases e with
        | normal =>
          obtain ⟨s, x, i, rfl, h40, hj, hch⟩ := hq
          rw [chunks_le h40] at hch
          obtain ⟨hi, htk, hdr⟩ := drop_head hch.symm
          refine yield4 (hY _ s w2 hj (by rw [List.length_take]; omega)) fun e w3 he => ?_
          have hall : (splitL t).take i ++ [s] = splitL t := by
            rw [← htk]
            refine List.take_of_length_le ?_
            have := congrArg List.length hdr
            simp at this; omega
          rcases he with ⟨rfl, hj3, _⟩ | ⟨rfl, hx3⟩
          · refine ⟨_, rfl, fun x' => ⟨rfl, _, results_none rfl _ _ _, ⟨_, rfl⟩, .inl ⟨_, rfl, ?_⟩⟩⟩
            rwa [hall] at hj3
          · exact ⟨_, rfl, fun x' => ⟨rfl, _, results_none rfl _ _ _, ⟨_, rfl⟩, .inr ⟨_, trivial, hx3⟩⟩⟩
        | ret =>
          obtain ⟨hd, pre, hx⟩ := hq
          exact ⟨hd, _, results_none rfl _ _ _, ⟨_, rfl⟩, .inr ⟨pre, trivial, hx⟩⟩
        | _ => exact hq.elim
    | _ => exact hq.elim

end Go.Proofs.YtihnelncimkegaaDoor
