/-
  Values: Valid and Text.
-/
import Derived.Test.YtffpaippmfafjaaGreatDoorStructs
import Derived.Test.YtffpaippmfafjaaGreatDoorShelf
import Derived.Test.YtffpaippmfafjaaGreatDoorDec
import Derived.Test.YtffpaippmfafjaaGreatDoorFnRepR
namespace Go.Proofs.YtffpaippmfafjaaGreatDoor
open Go


/-- The library's table of powers of ten lies in this heap. -/
def TabH (h : Heap) : Prop := ∀ w : World, w.heap = h → Lib.TabIs Tryz.prog w "internal/strconv.uint64pow10" .u64 Lib.pow10Tab

theorem TabH.ext {h h' : Heap} (t : TabH h) (e : Ext h h') : TabH h' := by
  intro w hw
  have := t { w with heap := h } rfl
  unfold Lib.TabIs World.var? at this ⊢
  cases hg : Tryz.prog.globalNamed "internal/strconv.uint64pow10" with
  | none => rw [hg] at this; simp at this
  | some g =>
    rw [hg] at this
    simp only [Option.bind_some] at this ⊢
    rw [hw]
    by_cases hb : g < h.size
    · rw [e.old g hb]; exact this
    · have hn : h[g]? = none := Array.getElem?_eq_none (by omega)
      rw [hn] at this; simp at this

theorem itoa_spec (n : Int) (h : Heap) (h0 : -9223372036854775808 ≤ n) (h1 : n ≤ 9223372036854775807) (ht : TabH h) :
    SpecR Tryz.prog 40 [.int .i64 n] h fun r h' => r = .string ⟨⟨Lib.itoa n⟩⟩ ∧ Own h [] h' := by
  refine ⟨⟨_, Tryz.func40, rfl, by kernel_rfl⟩, fun w hw => ?_⟩
  refine (Tryz.strconv_Itoa n h0 h1 w (ht w hw)).mono ?_
  rintro e w' ⟨rfl, k, os, rfl⟩
  refine ⟨⟨rfl, rfl, rfl, by simp [Sort.grow, World.drewN]⟩, rfl, Own.of_ext ⟨?_, fun b hb => ?_⟩⟩
  · subst hw
    simp [Sort.grow, World.drewN]
  · subst hw
    simp [Sort.grow, World.drewN, Array.getElem?_append, hb]

theorem nDigits_le : ∀ (k u : Nat), u < 10 ^ (k + 1) → Lib.nDigits u ≤ k + 1
  | 0, u, h => by
    rw [Lib.nDigits_small (by simpa using h)]
    omega
  | k + 1, u, h => by
    by_cases hu : u < 10
    · rw [Lib.nDigits_small hu]
      omega
    · rw [Lib.nDigits_big hu]
      have := nDigits_le k (u / 10) (by rw [Nat.pow_succ] at h; omega)
      omega

theorem decDigits_short (u : Nat) (h : u < 18446744073709551616) : (Lib.decDigits u).length ≤ 20 := by
  rw [Lib.decDigits_length]
  exact nDigits_le 19 u (by omega)

theorem itoa_short (n : Int) (h0 : -9223372036854775808 ≤ n) (h1 : n ≤ 9223372036854775807) : (Lib.itoa n).length ≤ 21 := by
  unfold Lib.itoa
  split
  · have := decDigits_short n.natAbs (by omega)
    simp
    omega
  · have := decDigits_short n.toNat (by omega)
    omega

def vcells (k n : Int) (t : List UInt8) : List Value := [.int .i64 k, .int .i64 n, .string ⟨⟨t⟩⟩]
def valV (k n : Int) (t : List UInt8) : Value := .agg ⟨[.int .i64 k, .int .i64 n, .string ⟨⟨t⟩⟩]⟩

/-- A value is valid. -/
def validP (k n : Int) (t : List UInt8) : Prop :=
  (k = 0 ∧ n = 0 ∧ t = []) ∨ (k = 1 ∧ n = 0 ∧ t.length ≤ 200) ∨ (k = 2 ∧ -1000000000 ≤ n ∧ n ≤ 1000000000 ∧ t = []) ∨ (k = 3 ∧ 0 ≤ n ∧ n ≤ 73048 ∧ t = []) ∨ (k = 4 ∧ 0 ≤ n ∧ n ≤ 1 ∧ t = [])

instance (k n : Int) (t : List UInt8) : Decidable (validP k n t) := by unfold validP; infer_instance

def boolT (b : Bool) : List UInt8 := if b then [116, 114, 117, 101] else [102, 97, 108, 115, 101]

/-- The text of a value. -/
def valT (k n : Int) (t : List UInt8) : List UInt8 :=
  if ¬ validP k n t then [] else if k = 1 then [34] ++ escS t ++ [34] else if k = 2 then Lib.itoa n else if k = 3 then [64] ++ Lib.itoa n else if k = 4 then boolT (decide (n = 1)) else [110, 117, 108, 108]

set_option maxHeartbeats 4000000 in
set_option maxRecDepth 100000 in
theorem valid_spec (k n : Int) (t : List UInt8) (h : Heap) (hl : t.length ≤ 9223372036854775807) :
    SpecR Tryz.prog 17 [valV k n t] h fun r h' => r = .bool (decide (validP k n t)) ∧ Own h [] h' := by
  have o0 := Own.refl h
  show SpecR Tryz.prog 17 [.agg ⟨[.int .i64 k, .int .i64 n, .string ⟨⟨t⟩⟩]⟩] h _
  refine Spec.enter Tryz.func17 rfl Tryz.ntmps17 (by kernel_rfl) ?_
  have no : ∀ (hh : ¬ validP k n t), Value.bool false = .bool (decide (validP k n t)) := fun hh => by rw [decide_eq_false hh]
  by_cases hk1 : k = 1
  · subst hk1
    by_cases hl2 : 200 < t.length
    · (refine RunVC.boxO o0 rfl ?_; intro b10 m10 o10)
      refine StillVC.run (StillVC.fieldAddr st23 rfl rfl rfl ?_)
      refine StillVC.run (StillVC.loadO o10 0 rfl ty3 rfl rfl ?_)
      refine Br.ff ?_
      refine Br.ff ?_
      refine StillVC.run (StillVC.fieldAddr st23 rfl rfl rfl ?_)
      refine StillVC.run (StillVC.loadO o10 0 rfl ty3 rfl rfl ?_)
      refine Br.ff ?_
      refine Br.tt ?_
      refine StillVC.run (StillVC.fieldAddr st23 rfl rfl rfl ?_)
      refine StillVC.run (StillVC.loadO o10 0 rfl ty9 rfl rfl ?_)
      refine StillVC.run (StillVC.lenS rfl str9 ?_)
      refine Br.dec (fun c18 => ?_) (fun hc => absurd (by omega) hc)
      refine RetVC.one rfl ?_
      exact ⟨no (by unfold validP; omega), Own.sel (by assumption) [] rfl⟩
    · (refine RunVC.boxO o0 rfl ?_; intro b40 m40 o40)
      refine StillVC.run (StillVC.fieldAddr st23 rfl rfl rfl ?_)
      refine StillVC.run (StillVC.loadO o40 0 rfl ty3 rfl rfl ?_)
      refine Br.ff ?_
      refine Br.ff ?_
      refine StillVC.run (StillVC.fieldAddr st23 rfl rfl rfl ?_)
      refine StillVC.run (StillVC.loadO o40 0 rfl ty3 rfl rfl ?_)
      refine Br.ff ?_
      refine Br.tt ?_
      refine StillVC.run (StillVC.fieldAddr st23 rfl rfl rfl ?_)
      refine StillVC.run (StillVC.loadO o40 0 rfl ty9 rfl rfl ?_)
      refine StillVC.run (StillVC.lenS rfl str9 ?_)
      refine Br.dec (fun hc => absurd hc (by omega)) (fun c48 => ?_)
      refine StillVC.run (StillVC.fieldAddr st23 rfl rfl rfl ?_)
      refine StillVC.run (StillVC.loadO o40 0 rfl ty3 rfl rfl ?_)
      refine Br.dec (fun c51 => ?_) (fun c51 => ?_)
      refine StillVC.run (StillVC.fieldAddr st23 rfl rfl rfl ?_)
      refine StillVC.run (StillVC.loadO o40 0 rfl ty3 rfl rfl ?_)
      refine RetVC.one rfl ?_
      rotate_left
      refine RetVC.one rfl ?_
      all_goals refine ⟨?_, Own.sel (by assumption) [] rfl⟩
      all_goals unfold validP; first | exact congrArg Value.bool (decide_eq_decide.2 (by omega)) | exact congrArg Value.bool (decide_eq_true (by omega)).symm | exact congrArg Value.bool (decide_eq_false (by omega)).symm
  · by_cases ht : t = []
    · subst ht
      by_cases hk0 : k = 0
      · subst hk0
        (refine RunVC.boxO o0 rfl ?_; intro b80 m80 o80)
        refine StillVC.run (StillVC.fieldAddr st23 rfl rfl rfl ?_)
        refine StillVC.run (StillVC.loadO o80 0 rfl ty3 rfl rfl ?_)
        refine Br.tt ?_
        refine StillVC.run (StillVC.fieldAddr st23 rfl rfl rfl ?_)
        refine StillVC.run (StillVC.loadO o80 0 rfl ty9 rfl rfl ?_)
        refine Br.ff ?_
        refine StillVC.run (StillVC.fieldAddr st23 rfl rfl rfl ?_)
        refine StillVC.run (StillVC.loadO o80 0 rfl ty3 rfl rfl ?_)
        refine Br.tt ?_
        refine StillVC.run (StillVC.fieldAddr st23 rfl rfl rfl ?_)
        refine StillVC.run (StillVC.loadO o80 0 rfl ty3 rfl rfl ?_)
        refine Br.dec (fun c89 => ?_) (fun c89 => ?_)
        refine StillVC.run (StillVC.fieldAddr st23 rfl rfl rfl ?_)
        refine StillVC.run (StillVC.loadO o80 0 rfl ty3 rfl rfl ?_)
        refine RetVC.one rfl ?_
        rotate_left
        refine RetVC.one rfl ?_
        all_goals refine ⟨?_, Own.sel (by assumption) [] rfl⟩
        all_goals unfold validP; first | exact congrArg Value.bool (decide_eq_decide.2 (by simp; omega)) | exact congrArg Value.bool (decide_eq_true (by simp; omega)).symm | exact congrArg Value.bool (decide_eq_false (by simp; omega)).symm
      · by_cases hk2 : k = 2
        · subst hk2
          (refine RunVC.boxO o0 rfl ?_; intro b120 m120 o120)
          refine StillVC.run (StillVC.fieldAddr st23 rfl rfl rfl ?_)
          refine StillVC.run (StillVC.loadO o120 0 rfl ty3 rfl rfl ?_)
          refine Br.tt ?_
          refine StillVC.run (StillVC.fieldAddr st23 rfl rfl rfl ?_)
          refine StillVC.run (StillVC.loadO o120 0 rfl ty9 rfl rfl ?_)
          refine Br.ff ?_
          refine StillVC.run (StillVC.fieldAddr st23 rfl rfl rfl ?_)
          refine StillVC.run (StillVC.loadO o120 0 rfl ty3 rfl rfl ?_)
          refine Br.ff ?_
          refine Br.ff ?_
          refine Br.tt ?_
          refine StillVC.run (StillVC.fieldAddr st23 rfl rfl rfl ?_)
          refine StillVC.run (StillVC.loadO o120 0 rfl ty3 rfl rfl ?_)
          refine Br.dec (fun c129 => ?_) (fun c129 => ?_)
          refine StillVC.run (StillVC.fieldAddr st23 rfl rfl rfl ?_)
          refine StillVC.run (StillVC.loadO o120 0 rfl ty3 rfl rfl ?_)
          refine RetVC.one rfl ?_
          rotate_left
          refine RetVC.one rfl ?_
          all_goals refine ⟨?_, Own.sel (by assumption) [] rfl⟩
          all_goals unfold validP; first | exact congrArg Value.bool (decide_eq_decide.2 (by simp; omega)) | exact congrArg Value.bool (decide_eq_true (by simp; omega)).symm | exact congrArg Value.bool (decide_eq_false (by simp; omega)).symm
        · by_cases hk3 : k = 3
          · subst hk3
            (refine RunVC.boxO o0 rfl ?_; intro b160 m160 o160)
            refine StillVC.run (StillVC.fieldAddr st23 rfl rfl rfl ?_)
            refine StillVC.run (StillVC.loadO o160 0 rfl ty3 rfl rfl ?_)
            refine Br.tt ?_
            refine StillVC.run (StillVC.fieldAddr st23 rfl rfl rfl ?_)
            refine StillVC.run (StillVC.loadO o160 0 rfl ty9 rfl rfl ?_)
            refine Br.ff ?_
            refine StillVC.run (StillVC.fieldAddr st23 rfl rfl rfl ?_)
            refine StillVC.run (StillVC.loadO o160 0 rfl ty3 rfl rfl ?_)
            refine Br.ff ?_
            refine Br.ff ?_
            refine Br.ff ?_
            refine Br.tt ?_
            refine StillVC.run (StillVC.fieldAddr st23 rfl rfl rfl ?_)
            refine StillVC.run (StillVC.loadO o160 0 rfl ty3 rfl rfl ?_)
            refine Br.dec (fun c169 => ?_) (fun c169 => ?_)
            refine StillVC.run (StillVC.fieldAddr st23 rfl rfl rfl ?_)
            refine StillVC.run (StillVC.loadO o160 0 rfl ty3 rfl rfl ?_)
            refine RetVC.one rfl ?_
            rotate_left
            refine RetVC.one rfl ?_
            all_goals refine ⟨?_, Own.sel (by assumption) [] rfl⟩
            all_goals unfold validP; first | exact congrArg Value.bool (decide_eq_decide.2 (by simp; omega)) | exact congrArg Value.bool (decide_eq_true (by simp; omega)).symm | exact congrArg Value.bool (decide_eq_false (by simp; omega)).symm
          · by_cases hk4 : k = 4
            · subst hk4
              (refine RunVC.boxO o0 rfl ?_; intro b200 m200 o200)
              refine StillVC.run (StillVC.fieldAddr st23 rfl rfl rfl ?_)
              refine StillVC.run (StillVC.loadO o200 0 rfl ty3 rfl rfl ?_)
              refine Br.tt ?_
              refine StillVC.run (StillVC.fieldAddr st23 rfl rfl rfl ?_)
              refine StillVC.run (StillVC.loadO o200 0 rfl ty9 rfl rfl ?_)
              refine Br.ff ?_
              refine StillVC.run (StillVC.fieldAddr st23 rfl rfl rfl ?_)
              refine StillVC.run (StillVC.loadO o200 0 rfl ty3 rfl rfl ?_)
              refine Br.ff ?_
              refine Br.ff ?_
              refine Br.ff ?_
              refine Br.ff ?_
              refine Br.tt ?_
              refine StillVC.run (StillVC.fieldAddr st23 rfl rfl rfl ?_)
              refine StillVC.run (StillVC.loadO o200 0 rfl ty3 rfl rfl ?_)
              refine Br.dec (fun c209 => ?_) (fun c209 => ?_)
              refine StillVC.run (StillVC.fieldAddr st23 rfl rfl rfl ?_)
              refine StillVC.run (StillVC.loadO o200 0 rfl ty3 rfl rfl ?_)
              refine RetVC.one rfl ?_
              rotate_left
              refine RetVC.one rfl ?_
              all_goals refine ⟨?_, Own.sel (by assumption) [] rfl⟩
              all_goals unfold validP; first | exact congrArg Value.bool (decide_eq_decide.2 (by simp; omega)) | exact congrArg Value.bool (decide_eq_true (by simp; omega)).symm | exact congrArg Value.bool (decide_eq_false (by simp; omega)).symm
            · (refine RunVC.boxO o0 rfl ?_; intro b240 m240 o240)
              refine StillVC.run (StillVC.fieldAddr st23 rfl rfl rfl ?_)
              refine StillVC.run (StillVC.loadO o240 0 rfl ty3 rfl rfl ?_)
              refine Br.ndec (fun c243 => ?_) (fun hc => absurd hc (by first | omega | assumption | decide | exact rfl))
              refine StillVC.run (StillVC.fieldAddr st23 rfl rfl rfl ?_)
              refine StillVC.run (StillVC.loadO o240 0 rfl ty9 rfl rfl ?_)
              refine Br.ff ?_
              refine StillVC.run (StillVC.fieldAddr st23 rfl rfl rfl ?_)
              refine StillVC.run (StillVC.loadO o240 0 rfl ty3 rfl rfl ?_)
              refine Br.dec (fun hc => absurd hc (by omega)) (fun c248 => ?_)
              refine Br.dec (fun hc => absurd hc (by omega)) (fun c249 => ?_)
              refine Br.dec (fun hc => absurd hc (by omega)) (fun c250 => ?_)
              refine Br.dec (fun hc => absurd hc (by omega)) (fun c251 => ?_)
              refine Br.dec (fun hc => absurd hc (by omega)) (fun c252 => ?_)
              refine RetVC.one rfl ?_
              exact ⟨no (by unfold validP; omega), Own.sel (by assumption) [] rfl⟩
    · (refine RunVC.boxO o0 rfl ?_; intro b280 m280 o280)
      refine StillVC.run (StillVC.fieldAddr st23 rfl rfl rfl ?_)
      refine StillVC.run (StillVC.loadO o280 0 rfl ty3 rfl rfl ?_)
      refine Br.ndec (fun c283 => ?_) (fun hc => absurd hc (by first | omega | assumption | decide | exact rfl))
      refine StillVC.run (StillVC.fieldAddr st23 rfl rfl rfl ?_)
      refine StillVC.run (StillVC.loadO o280 0 rfl ty9 rfl rfl ?_)
      refine Br.ndec (fun c286 => ?_) (fun hc => absurd hc (by first | omega | assumption | decide | exact rfl))
      refine RetVC.one rfl ?_
      exact ⟨no (by unfold validP; simp [ht, hk1]), Own.sel (by assumption) [] rfl⟩

theorem escS_le (s : List UInt8) : (escS s).length ≤ 2 * s.length := by
  have h1 := escS_len s
  have h2 : nS s ≤ s.length := List.countP_le_length
  omega

set_option maxRecDepth 100000 in
theorem formatBool_spec (b : Bool) (h : Heap) : SpecR Tryz.prog 41 [.bool b] h fun r h' => r = .string ⟨⟨boolT b⟩⟩ ∧ Own h [] h' := by
  have o0 := Own.refl h
  have inner : SpecR Tryz.prog 52 [.bool b] h fun r h' => r = .string ⟨⟨boolT b⟩⟩ ∧ Own h [] h' := by
    refine Spec.enter Tryz.func52 rfl Tryz.ntmps52 (by kernel_rfl) ?_
    cases b
    · refine Br.ff ?_
      refine RetVC.one rfl ?_
      exact ⟨rfl, o0⟩
    · refine Br.tt ?_
      refine RetVC.one rfl ?_
      exact ⟨rfl, o0⟩
  refine Spec.enter Tryz.func41 rfl Tryz.ntmps41 (by kernel_rfl) ?_
  refine CallVC.ret inner ?_
  rintro _ h1 ⟨rfl, o1⟩
  refine RetVC.one rfl ?_
  exact ⟨rfl, o1⟩

set_option maxHeartbeats 4000000 in
set_option maxRecDepth 100000 in
theorem text_spec (k n : Int) (t : List UInt8) (h : Heap) (hl : t.length ≤ 1000000) (hT : TabH h) :
    SpecR Tryz.prog 21 [valV k n t] h fun r h' => r = .string ⟨⟨valT k n t⟩⟩ ∧ Own h [] h' := by
  have o0 := Own.refl h
  show SpecR Tryz.prog 21 [.agg ⟨[.int .i64 k, .int .i64 n, .string ⟨⟨t⟩⟩]⟩] h _
  unfold valT
  refine Spec.enter Tryz.func21 rfl Tryz.ntmps21 (by kernel_rfl) ?_
  (refine RunVC.boxO o0 rfl ?_; intro b10 m10 o10)
  refine StillVC.run (StillVC.loadON o10 0 rfl ty23 rfl rfl rfl ?_)
  refine CallVC.ret (valid_spec k n t _ (by omega)) ?_
  rintro _ h1 ⟨rfl, oa⟩
  have o1 : Own h [box b10 [.int .i64 k, .int .i64 n, .string ⟨⟨t⟩⟩] 23] h1 := oa.thenE (by assumption)
  clear oa
  by_cases hv : validP k n t
  · rw [decide_eq_true hv, if_neg (fun h => h hv)]
    by_cases hk1 : k = 1
    · subst hk1
      rw [if_pos rfl]
      have htl : t.length ≤ 200 := by unfold validP at hv; omega
      refine Br.ff ?_
      refine StillVC.run (StillVC.fieldAddr st23 rfl rfl rfl ?_)
      refine StillVC.run (StillVC.loadO o1 0 rfl ty3 rfl rfl ?_)
      refine Br.tt ?_
      refine DrawVC.introB b10 [2, 5, 6, 7] [3] [4] [2, 3, 0, 1, 4, 5, 6, 7] mixed (by kernel_rfl) rfl (fun _ _ _ _ h => h) ?_
      refine StillVC.fieldAddr st23 rfl rfl rfl ?_
      refine StillVCA.load1 ty9 rfl rfl ((o1.cellB 0 rfl _).trans rfl) ?_
      (refine RunVC.lit o1 sl75 ty9 rfl rfl (by decide) (And.intro rfl ?_); intro b42 m42 o42)
      refine And.intro ((o42.boxBlk 0 rfl).trans (o1.boxBlk 0 rfl).symm) ?_
      refine CallVC.ret (newReplacer_spec _ _ (o42.boxArr 1 rfl (n := 6) (c := 6) rfl (by decide))) ?_
      rintro _ h2 ⟨rb, ra, rc, rfl, ob⟩
      have o2 : Own h [box b10 [.int .i64 1, .int .i64 n, .string ⟨⟨t⟩⟩] 23, box b42 oldNew 9, box rb (repCells ra rc) 91, row (.slice ra 6 rc) 9 1 6 oldNew] h2 := o42.call ob
      refine And.intro ((o2.boxBlk 0 rfl).trans (o42.boxBlk 0 rfl).symm) ?_
      refine CallVC.ret (replace_spec rb ra rc _ t _ (by omega) (o2.lend [2, 3] [0, 1] rfl)) ?_
      rintro _ h3 ⟨rfl, oc⟩
      have o3 : Own h [box b10 [.int .i64 1, .int .i64 n, .string ⟨⟨t⟩⟩] 23, box b42 oldNew 9] h3 := oc.back
      have hel := escS_le t
      refine StillVC.strAdd rfl rfl (by first | omega | (simp; omega)) ?_
      refine StillVC.strAdd rfl rfl (by first | omega | (simp; omega)) ?_
      refine RetVC.one rfl ?_
      exact ⟨rfl, o3.sel [] rfl⟩
    · rw [if_neg hk1]
      by_cases hk2 : k = 2
      · subst hk2
        have hnn : -1000000000 ≤ n ∧ n ≤ 1000000000 := by unfold validP at hv; omega
        rw [if_pos rfl]
        refine Br.ff ?_
        refine StillVC.run (StillVC.fieldAddr st23 rfl rfl rfl ?_)
        refine StillVC.run (StillVC.loadO o1 0 rfl ty3 rfl rfl ?_)
        refine Br.ff ?_
        refine Br.tt ?_
        refine StillVC.run (StillVC.fieldAddr st23 rfl rfl rfl ?_)
        refine StillVC.run (StillVC.loadO o1 0 rfl ty3 rfl rfl ?_)
        refine CallVC.ret (itoa_spec n _ (by omega) (by omega) (hT.ext (Own.ext (by assumption)))) ?_
        rintro _ h2 ⟨rfl, ob⟩
        have o2 := ob.thenE (by assumption)
        refine RetVC.one rfl ?_
        exact ⟨rfl, Own.sel (by assumption) [] rfl⟩
      · rw [if_neg hk2]
        by_cases hk3 : k = 3
        · subst hk3
          have hnn : 0 ≤ n ∧ n ≤ 73048 := by unfold validP at hv; omega
          have hsh := itoa_short n (by omega) (by omega)
          rw [if_pos rfl]
          refine Br.ff ?_
          refine StillVC.run (StillVC.fieldAddr st23 rfl rfl rfl ?_)
          refine StillVC.run (StillVC.loadO o1 0 rfl ty3 rfl rfl ?_)
          refine Br.ff ?_
          refine Br.ff ?_
          refine Br.tt ?_
          refine StillVC.run (StillVC.fieldAddr st23 rfl rfl rfl ?_)
          refine StillVC.run (StillVC.loadO o1 0 rfl ty3 rfl rfl ?_)
          refine CallVC.ret (itoa_spec n _ (by omega) (by omega) (hT.ext (Own.ext (by assumption)))) ?_
          rintro _ h2 ⟨rfl, ob⟩
          have o2 := ob.thenE (by assumption)
          refine StillVC.run (StillVC.strAdd rfl rfl (by first | omega | (simp; omega)) ?_)
          refine RetVC.one rfl ?_
          exact ⟨rfl, Own.sel (by assumption) [] rfl⟩
        · rw [if_neg hk3]
          by_cases hk4 : k = 4
          · subst hk4
            rw [if_pos rfl]
            refine Br.ff ?_
            refine StillVC.run (StillVC.fieldAddr st23 rfl rfl rfl ?_)
            refine StillVC.run (StillVC.loadO o1 0 rfl ty3 rfl rfl ?_)
            refine Br.ff ?_
            refine Br.ff ?_
            refine Br.ff ?_
            refine Br.tt ?_
            refine StillVC.run (StillVC.fieldAddr st23 rfl rfl rfl ?_)
            refine StillVC.run (StillVC.loadO o1 0 rfl ty3 rfl rfl ?_)
            refine CallVC.ret (formatBool_spec _ _) ?_
            rintro _ h2 ⟨rfl, ob⟩
            have o2 := ob.thenE (by assumption)
            refine RetVC.one rfl ?_
            exact ⟨rfl, Own.sel (by assumption) [] rfl⟩
          · rw [if_neg hk4]
            refine Br.ff ?_
            refine StillVC.run (StillVC.fieldAddr st23 rfl rfl rfl ?_)
            refine StillVC.run (StillVC.loadO o1 0 rfl ty3 rfl rfl ?_)
            refine Br.dec (fun hc => absurd hc (by omega)) (fun c192 => ?_)
            refine Br.dec (fun hc => absurd hc (by omega)) (fun c193 => ?_)
            refine Br.dec (fun hc => absurd hc (by omega)) (fun c194 => ?_)
            refine Br.dec (fun hc => absurd hc (by omega)) (fun c195 => ?_)
            refine RetVC.one rfl ?_
            exact ⟨rfl, Own.sel (by assumption) [] rfl⟩
  · rw [decide_eq_false hv, if_pos hv]
    refine Br.tt ?_
    refine RetVC.one rfl ?_
    exact ⟨rfl, Own.sel (by assumption) [] rfl⟩

end Go.Proofs.YtffpaippmfafjaaGreatDoor
