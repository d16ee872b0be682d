/-
  The lexer's readers: numbers and symbols.
-/
import Derived.Test.YtofbiladpmcjgaaGreatDoorStructs
import Derived.Test.YtofbiladpmcjgaaGreatDoorShelf
import Derived.Test.YtofbiladpmcjgaaGreatDoorDec
import Derived.Test.YtofbiladpmcjgaaGreatDoorFnLexN
import Derived.Lib.AtoiErrMem
namespace Go.Proofs.YtofbiladpmcjgaaGreatDoor
open Go


theorem digitVal_of {c : UInt8} (h : 48 ≤ c.toNat ∧ c.toNat ≤ 57) : Lib.digitVal c = some (c.toNat - 48) := if_pos h

theorem decFrom_digits : ∀ (l : List UInt8) (acc : Nat), (∀ c ∈ l, 48 ≤ c.toNat ∧ c.toNat ≤ 57) → Lib.decFrom acc l = some (l.foldl (fun n c => n * 10 + (c.toNat - 48)) acc)
  | [], acc, _ => rfl
  | c :: l, acc, h => by
    rw [Lib.decFrom, digitVal_of (h c (by simp))]
    exact decFrom_digits l _ (fun d hd => h d (by simp [hd]))

theorem atoi_digits {l : List UInt8} (hl : l ≠ []) (h : ∀ c ∈ l, 48 ≤ c.toNat ∧ c.toNat ≤ 57) : Lib.atoi l = some ((undec l : Nat) : Int) := by
  cases l with
  | nil => exact absurd rfl hl
  | cons b r =>
    have hb := h b (by simp)
    have h45 : (b == 45) = false := by
      rw [beq_eq_false_iff_ne]
      rintro rfl
      simp at hb
    have h43 : (b == 43) = false := by
      rw [beq_eq_false_iff_ne]
      rintro rfl
      simp at hb
    rw [Lib.atoi, h45, h43]
    simp only [Bool.false_eq_true, if_false, Lib.decNat, List.isEmpty_cons]
    rw [decFrom_digits _ _ h]
    rfl

theorem atoi_spec (l : List UInt8) (h : Heap) (hl : l.length ≤ 18) (hne : l ≠ []) (hd : ∀ c ∈ l, 48 ≤ c.toNat ∧ c.toNat ≤ 57) :
    SpecR Tryz.prog 26 [.string ⟨⟨l⟩⟩] h fun r h' => r = .tuple ⟨[.int .i64 (undec l), .nilIface]⟩ ∧ Own h [] h' := by
  refine ⟨⟨_, Tryz.func26, rfl, by kernel_rfl⟩, fun w hw => ?_⟩
  subst hw
  refine (Tryz.strconv_Atoi ⟨⟨l⟩⟩ (undec l) hl (atoi_digits hne hd) w).mono ?_
  rintro e w' ⟨rfl, t, rfl⟩
  have hb := Lib.bytesWorld_below w 5 t
  exact ⟨⟨hb.os, hb.tape, hb.output, hb.size⟩, rfl, Own.of_ext ⟨hb.size, hb.block⟩⟩

theorem indexByte_spec (l : List UInt8) (c : UInt8) (h : Heap) :
    SpecR Tryz.prog 27 [.string ⟨⟨l⟩⟩, .int .u8 c.toNat] h fun r h' => r = .int .i64 (Lib.indexByte l c) ∧ Own h [] h' := by
  refine ⟨⟨_, Tryz.func27, rfl, by kernel_rfl⟩, fun w hw => ?_⟩
  subst hw
  refine (Tryz.strings_IndexByte ⟨⟨l⟩⟩ c.toNat w).mono ?_
  rintro e w' ⟨rfl, rfl⟩
  refine ⟨.refl _, ?_, Own.refl _⟩
  have : ((c.toNat : Int).toNat).toUInt8 = c := by simp
  rw [this]

theorem hasPrefix_spec (l p : List UInt8) (h : Heap) :
    SpecR Tryz.prog 28 [.string ⟨⟨l⟩⟩, .string ⟨⟨p⟩⟩] h fun r h' => r = .bool (Lib.hasPrefix l p) ∧ Own h [] h' := by
  refine ⟨⟨_, Tryz.func28, rfl, by kernel_rfl⟩, fun w hw => ?_⟩
  subst hw
  refine (Tryz.strings_HasPrefix ⟨⟨l⟩⟩ ⟨⟨p⟩⟩ w).mono ?_
  rintro e w' ⟨rfl, rfl⟩
  exact ⟨.refl _, rfl, Own.refl _⟩

/-- A number at the beginning. -/
def numberR (l : List UInt8) : Rd :=
  if spanN digitB l = 0 then .none
  else if 10 < spanN digitB l ∨ spanN digitB l < spanN innerB l then .err 6
  else .tok 2 (l.take (spanN digitB l)) (undec (l.take (spanN digitB l))) (spanN digitB l)

theorem span_take (p : UInt8 → Bool) : ∀ (l : List UInt8), ∀ c ∈ l.take (spanN p l), p c = true
  | [], c, hc => by simp at hc
  | a :: l, c, hc => by
    unfold spanN at hc
    rw [List.takeWhile_cons] at hc
    cases ha : p a with
    | false => rw [ha] at hc; simp at hc
    | true =>
      rw [ha] at hc
      simp only [if_true, List.length_cons, List.take_succ_cons, List.mem_cons] at hc
      rcases hc with rfl | hc
      · exact ha
      · exact span_take p l c hc

theorem digitB_iff {c : UInt8} (h : digitB c = true) : 48 ≤ c.toNat ∧ c.toNat ≤ 57 := of_decide_eq_true h

set_option maxRecDepth 100000 in
theorem number_spec (b : Nat) (t : List UInt8) (i : Nat) (h : Heap) (hi : i < t.length) (hl : t.length ≤ 1000000)
    (h0 : cellAt h ⟨b, 0, none⟩ = some (.string ⟨⟨t⟩⟩)) (h1 : cellAt h ⟨b, 1, none⟩ = some (.int .i64 i)) :
    Spec Tryz.prog 12 [.pointer (some ⟨b, 0, none⟩)] h (RdE h i (numberR (t.drop i))) := by
  have hsl := spanN_le digitB (t.drop i)
  have hsi := spanN_le innerB (t.drop i)
  have hdl : (t.drop i).length = t.length - i := by simp
  have hst := span_take digitB (t.drop i)
  unfold numberR
  refine Spec.enter Tryz.func12 rfl Tryz.ntmps12 (by kernel_rfl) ?_
  have o0 := Own.refl h
  (refine RunVC.alloc o0 ty35 ?_; intro b10 m10 o10)
  refine CallVC.ret (run_spec digitB 25 [] b t i _ (by omega) hl (Own.old (by assumption) h0) (Own.old (by assumption) h1) (fun d h' e => digit_spec d h')) ?_
  rintro _ h2 ⟨rfl, oa⟩
  have o2 := oa.thenE (by assumption)
  by_cases hz : spanN digitB (t.drop i) = 0
  · rw [if_pos hz]
    refine Br.dec (fun c20 => ?_) (fun hc => absurd (by omega) hc)
    refine StillVC.run (StillVC.buildK st35 ?_)
    (refine RunVC.storeL o2 0 rfl ty35 rfl (by decide) (And.intro ⟨rfl, rfl⟩ ?_); intro m22 o22)
    first | refine RetVC.cell2 rfl o22 0 rfl ty35 rfl rfl ?_ | refine RetVC.cell1 rfl o22 0 rfl ty35 rfl rfl ?_ | refine RetVC.cellTT rfl o22 0 rfl ty35 rfl rfl ?_
    exact ⟨⟨0, [], 0, 0, rfl⟩, Own.sel (by assumption) [] rfl⟩
  · rw [if_neg hz]
    by_cases hbig : 10 < spanN digitB (t.drop i)
    · rw [if_pos (.inl hbig)]
      refine Br.dec (fun hc => absurd hc (by omega)) (fun c30 => ?_)
      refine Br.dec (fun c31 => ?_) (fun hc => absurd (by omega) hc)
      refine Br.tt ?_
      exact CallVC.ends (fail_spec 6 b t i _ (o2.old h1)) (fun _ _ h => h.elim) (fun c h' ⟨hc, ho⟩ => ⟨hc, (ho.thenE o2).sel [] rfl⟩)
    · refine Br.dec (fun hc => absurd hc (by omega)) (fun c40 => ?_)
      refine Br.dec (fun hc => absurd hc (by omega)) (fun c41 => ?_)
      refine CallVC.ret (run_spec innerB 24 [] b t i _ (by omega) hl (o2.old h0) (o2.old h1) (fun d h' e => inner_spec d h')) ?_
      rintro _ h3 ⟨rfl, ob⟩
      have o3 := ob.thenE (by assumption)
      by_cases hin : spanN digitB (t.drop i) < spanN innerB (t.drop i)
      · rw [if_pos (.inr hin)]
        refine Br.dec (fun c50 => ?_) (fun hc => absurd (by omega) hc)
        exact CallVC.ends (fail_spec 6 b t i _ (o3.old h1)) (fun _ _ h => h.elim) (fun c h' ⟨hc, ho⟩ => ⟨hc, (ho.thenE o3).sel [] rfl⟩)
      · rw [if_neg (by omega)]
        have e : List.drop (i : Int).toNat (List.take ((i : Int) + (spanN digitB (t.drop i) : Nat)).toNat t) = (t.drop i).take (spanN digitB (t.drop i)) := by
          rw [show ((i : Int) + (spanN digitB (t.drop i) : Nat)).toNat = i + spanN digitB (t.drop i) by omega, Int.toNat_natCast, List.drop_take]
          congr 1
          omega
        refine Br.dec (fun hc => absurd hc (by omega)) (fun c60 => ?_)
        refine DrawVC.intro [0, 1, 2, 4, 5, 6, 8, 9, 10, 12, 13, 14, 15] [3, 7, 11] [] [0, 1, 2, 3, 4, 5, 6, 7, 8, 9, 10, 11, 12, 13, 14, 15] mixed (by kernel_rfl) rfl (fun _ _ _ _ h => h) ?_
        refine StillVC.nilCheck rfl ?_
        refine StillVC.fieldAddr st42 rfl rfl rfl ?_
        refine StillVC.load1 ty9 rfl (o3.old h0) ?_
        refine StillVC.nilCheck rfl ?_
        refine StillVC.fieldAddr st42 rfl rfl rfl ?_
        refine StillVC.load1 ty3 rfl (o3.old h1) ?_
        refine StillVC.nilCheck rfl ?_
        refine StillVC.fieldAddr st42 rfl rfl rfl ?_
        refine StillVC.load1 ty3 rfl (o3.old h1) ?_
        refine Ar.i64 (by omega) (by omega) ?_
        refine StillVC.sliceS str9 rfl ⟨_, rfl⟩ ⟨_, rfl⟩ (by omega) (by omega) (by omega) ?_
        rw [e]
        refine CallVC.ret (atoi_spec ((t.drop i).take (spanN digitB (t.drop i))) _ (by simp; omega) (fun hh => by have := congrArg List.length hh; simp at this; omega) (fun c hc => digitB_iff (hst c hc))) ?_
        rintro _ h4 ⟨rfl, oc⟩
        have o4 := oc.thenE (by assumption)
        refine StillVC.run (StillVC.buildK st35 ?_)
        refine And.intro rfl ?_
        refine And.intro rfl ?_
        refine And.intro rfl ?_
        (refine RunVC.storeL o4 0 rfl ty35 rfl (by decide) (And.intro ⟨rfl, rfl⟩ ?_); intro m81 o81)
        first | refine RetVC.cell2 rfl o81 0 rfl ty35 rfl rfl ?_ | refine RetVC.cell1 rfl o81 0 rfl ty35 rfl rfl ?_ | refine RetVC.cellTT rfl o81 0 rfl ty35 rfl rfl ?_
        refine ⟨?_, Own.sel (by assumption) [] rfl⟩
        rfl

/- SYMBOLS -/
def symB : List UInt8 := [59, 58, 44, 46, 40, 41, 123, 125, 61, 60, 43, 45, 47, 64]

/-- The length of the symbol at the beginning. -/
def symN (l : List UInt8) : Nat := if Lib.hasPrefix l [33, 61] = true ∨ Lib.hasPrefix l [60, 61] = true then 2 else match l with
  | [] => 0
  | c :: _ => if c ∈ symB then 1 else 0

def symbolR (l : List UInt8) : Rd := if symN l = 0 then .none else .tok 4 (l.take (symN l)) 0 (symN l)

theorem indexByte_nonneg : ∀ (l : List UInt8) (c : UInt8), -1 ≤ Lib.indexByte l c ∧ (0 ≤ Lib.indexByte l c ↔ c ∈ l)
  | [], c => by simp [Lib.indexByte]
  | b :: l, c => by
    obtain ⟨h1, h2⟩ := indexByte_nonneg l c
    rw [Lib.indexByte]
    by_cases hb : b = c
    · subst hb
      simp
    · have hbe : (b == c) = false := beq_eq_false_iff_ne.2 hb
      rw [hbe]
      simp only [Bool.false_eq_true, if_false]
      by_cases hm : Lib.indexByte l c = -1
      · have hbm : (Lib.indexByte l c == -1) = true := by rw [hm]; rfl
        rw [hbm]
        have : c ∉ l := fun hc => by have := h2.2 hc; omega
        simp [this, Ne.symm hb]
      · have hbm : (Lib.indexByte l c == -1) = false := beq_eq_false_iff_ne.2 hm
        rw [hbm]
        simp only [Bool.false_eq_true, if_false]
        refine ⟨by omega, ?_⟩
        have : 0 ≤ Lib.indexByte l c := by omega
        simp [h2.1 this, Ne.symm hb]
        omega

theorem symN_at {t : List UInt8} {i : Nat} {c : UInt8} (hc : t[i]? = some c) : symN (t.drop i) = if Lib.hasPrefix (t.drop i) [33, 61] = true ∨ Lib.hasPrefix (t.drop i) [60, 61] = true then 2 else if c ∈ symB then 1 else 0 := by
  obtain ⟨hi, rfl⟩ := List.getElem?_eq_some_iff.1 hc
  rw [List.drop_eq_getElem_cons hi]
  rfl

theorem hasPrefix_len {l p : List UInt8} (h : Lib.hasPrefix l p = true) : p.length ≤ l.length := by
  unfold Lib.hasPrefix at h
  exact (List.isPrefixOf_iff_prefix.1 h).length_le

set_option maxRecDepth 100000 in
theorem symbol_spec (b : Nat) (t : List UInt8) (i : Nat) (h : Heap) (hi : i < t.length) (hl : t.length ≤ 1000000)
    (h0 : cellAt h ⟨b, 0, none⟩ = some (.string ⟨⟨t⟩⟩)) (h1 : cellAt h ⟨b, 1, none⟩ = some (.int .i64 i)) :
    Spec Tryz.prog 14 [.pointer (some ⟨b, 0, none⟩)] h (RdE h i (symbolR (t.drop i))) := by
  obtain ⟨c, hc⟩ := getx hi
  have hs := symN_at hc
  have hdl : (t.drop i).length = t.length - i := by simp
  have hc0 : (t.drop i)[0]? = some c := by rw [List.getElem?_drop]; exact hc
  unfold symbolR
  refine Spec.enter Tryz.func14 rfl Tryz.ntmps14 (by kernel_rfl) ?_
  have o0 := Own.refl h
  have er : List.drop (i : Int).toNat (List.take (Int.toNat (t.length : Nat)) t) = t.drop i := by simp
  (refine RunVC.alloc o0 ty35 ?_; intro b10 m10 o10)
  refine DrawVC.intro [0, 1, 2, 4, 5, 6, 8, 9] [3, 7] [] [0, 1, 2, 3, 4, 5, 6, 7, 8, 9] mixed (by kernel_rfl) rfl (fun _ _ _ _ h => h) ?_
  refine StillVC.nilCheck rfl ?_
  refine StillVC.fieldAddr st42 rfl rfl rfl ?_
  refine StillVC.load1 ty9 rfl (o10.old h0) ?_
  refine StillVC.nilCheck rfl ?_
  refine StillVC.fieldAddr st42 rfl rfl rfl ?_
  refine StillVC.load1 ty3 rfl (o10.old h1) ?_
  refine StillVC.sliceS str9 rfl ⟨_, rfl⟩ rfl (by omega) (by omega) (by omega) ?_
  rw [er]
  refine CallVC.ret (hasPrefix_spec (t.drop i) [33, 61] _) ?_
  rintro _ h2 ⟨rfl, oa⟩
  have o2 := oa.thenE (by assumption)
  cases hp1 : Lib.hasPrefix (t.drop i) [33, 61] with
  | true =>
    have : 2 ≤ (t.drop i).length := hasPrefix_len hp1
    have hn : symN (t.drop i) = 2 := by rw [hs, if_pos (.inl hp1)]
    rw [hn]
    refine Br.tt ?_
    refine Br.tt ?_
    refine StillVC.run (StillVC.sliceS str9 rfl rfl ⟨_, rfl⟩ (by omega) (by omega) (by omega) ?_)
    refine StillVC.run (StillVC.buildK st35 ?_)
    refine And.intro rfl ?_
    refine And.intro rfl ?_
    (refine RunVC.storeL o2 0 rfl ty35 rfl (by decide) (And.intro ⟨rfl, rfl⟩ ?_); intro m22 o22)
    first | refine RetVC.cell2 rfl o22 0 rfl ty35 rfl rfl ?_ | refine RetVC.cell1 rfl o22 0 rfl ty35 rfl rfl ?_ | refine RetVC.cellTT rfl o22 0 rfl ty35 rfl rfl ?_
    exact ⟨rfl, Own.sel (by assumption) [] rfl⟩
  | false =>
    refine Br.ff ?_
    refine CallVC.ret (hasPrefix_spec (t.drop i) [60, 61] _) ?_
    rintro _ h3 ⟨rfl, ob⟩
    have o3 := ob.thenE (by assumption)
    cases hp2 : Lib.hasPrefix (t.drop i) [60, 61] with
    | true =>
      have : 2 ≤ (t.drop i).length := hasPrefix_len hp2
      have hn : symN (t.drop i) = 2 := by rw [hs, if_pos (.inr hp2)]
      rw [hn]
      refine Br.tt ?_
      refine StillVC.run (StillVC.sliceS str9 rfl rfl ⟨_, rfl⟩ (by omega) (by omega) (by omega) ?_)
      refine StillVC.run (StillVC.buildK st35 ?_)
      refine And.intro rfl ?_
      refine And.intro rfl ?_
      (refine RunVC.storeL o3 0 rfl ty35 rfl (by decide) (And.intro ⟨rfl, rfl⟩ ?_); intro m62 o62)
      first | refine RetVC.cell2 rfl o62 0 rfl ty35 rfl rfl ?_ | refine RetVC.cell1 rfl o62 0 rfl ty35 rfl rfl ?_ | refine RetVC.cellTT rfl o62 0 rfl ty35 rfl rfl ?_
      exact ⟨rfl, Own.sel (by assumption) [] rfl⟩
    | false =>
      rw [if_neg (by rw [hp1, hp2]; simp)] at hs
      have hib := indexByte_nonneg symB c
      refine Br.ff ?_
      refine StillVC.run (StillVC.strIdx rfl rfl str9 (by omega) (by assumption) ?_)
      refine CallVC.ret (indexByte_spec symB c _) ?_
      rintro _ h4 ⟨rfl, od⟩
      have o4 := od.thenE (by assumption)
      generalize Lib.indexByte symB c = q at *
      by_cases hm : c ∈ symB
      · have hn : symN (t.drop i) = 1 := by rw [hs, if_pos hm]
        rw [hn]
        have hq := hib.2.2 hm
        refine Br.dec (fun c90 => ?_) (fun hc => absurd (by omega) hc)
        refine StillVC.run (StillVC.sliceS str9 rfl rfl ⟨_, rfl⟩ (by omega) (by omega) (by omega) ?_)
        refine StillVC.run (StillVC.buildK st35 ?_)
        refine And.intro rfl ?_
        refine And.intro rfl ?_
        (refine RunVC.storeL o4 0 rfl ty35 rfl (by decide) (And.intro ⟨rfl, rfl⟩ ?_); intro m93 o93)
        first | refine RetVC.cell2 rfl o93 0 rfl ty35 rfl rfl ?_ | refine RetVC.cell1 rfl o93 0 rfl ty35 rfl rfl ?_ | refine RetVC.cellTT rfl o93 0 rfl ty35 rfl rfl ?_
        exact ⟨rfl, Own.sel (by assumption) [] rfl⟩
      · have hn : symN (t.drop i) = 0 := by rw [hs, if_neg hm]
        rw [hn]
        have hq : ¬ 0 ≤ q := fun e => hm (hib.2.1 e)
        refine Br.dec (fun hc => absurd hc (by omega)) (fun c110 => ?_)
        refine StillVC.run (StillVC.sliceS str9 rfl rfl ⟨_, rfl⟩ (by omega) (by omega) (by omega) ?_)
        refine StillVC.run (StillVC.buildK st35 ?_)
        refine And.intro rfl ?_
        refine And.intro rfl ?_
        (refine RunVC.storeL o4 0 rfl ty35 rfl (by decide) (And.intro ⟨rfl, rfl⟩ ?_); intro m113 o113)
        first | refine RetVC.cell2 rfl o113 0 rfl ty35 rfl rfl ?_ | refine RetVC.cell1 rfl o113 0 rfl ty35 rfl rfl ?_ | refine RetVC.cellTT rfl o113 0 rfl ty35 rfl rfl ?_
        exact ⟨⟨4, [], 0, 0, rfl⟩, Own.sel (by assumption) [] rfl⟩

end Go.Proofs.YtofbiladpmcjgaaGreatDoor
