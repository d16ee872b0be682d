/-
  The reference's texts and comparisons of values.
-/
import Derived.Test.YtffpaippmfafjaaGreatDoorStructs
import Derived.Test.YtffpaippmfafjaaGreatDoorFnRefT
import Derived.Test.YtffpaippmfafjaaGreatDoorFnTst
namespace Go.Proofs.YtffpaippmfafjaaGreatDoor
open Go

set_option maxHeartbeats 4000000 in
set_option maxRecDepth 100000 in
theorem rtext_spec (k n : Int) (t : List UInt8) (h : Heap) (hl : t.length ≤ 1000000) :
    SpecR Tryz.prog 22 [valV k n t] h fun r h' => r = .string ⟨⟨valT k n t⟩⟩ ∧ Own h [] h' := by
  have o0 := Own.refl h
  show SpecR Tryz.prog 22 [.agg ⟨[.int .i64 k, .int .i64 n, .string ⟨⟨t⟩⟩]⟩] h _
  unfold valT
  refine Spec.enter Tryz.func22 rfl Tryz.ntmps22 (by kernel_rfl) ?_
  (refine RunVC.boxO o0 rfl ?_; intro b10 m10 o10)
  refine StillVC.run (StillVC.loadON o10 0 rfl ty23 rfl rfl rfl ?_)
  refine CallVC.ret (rvalid_spec k n t _ (by omega)) ?_
  rintro _ h1 ⟨rfl, oa⟩
  have o1 : Own h [box b10 [.int .i64 k, .int .i64 n, .string ⟨⟨t⟩⟩] 23] h1 := oa.thenE (by assumption)
  clear oa
  by_cases hv : validP k n t
  · rw [decide_eq_true hv, if_neg (fun h => h hv)]
    by_cases hk1 : k = 1
    · subst hk1
      rw [if_pos rfl]
      have htl : t.length ≤ 200 := by unfold validP at hv; omega
      refine Br.ff ?_
      refine StillVC.run (StillVC.fieldAddr st23 rfl rfl rfl ?_)
      refine StillVC.run (StillVC.loadO o1 0 rfl ty3 rfl rfl ?_)
      refine Br.tt ?_
      refine StillVC.run (StillVC.fieldAddr st23 rfl rfl rfl ?_)
      refine StillVC.run (StillVC.loadO o1 0 rfl ty9 rfl rfl ?_)
      refine CallVC.ret (quoted2_spec t _ (by omega)) ?_
      rintro _ h2 ⟨rfl, ob⟩
      have o2 := ob.thenE (by assumption)
      refine RetVC.one rfl ?_
      exact ⟨rfl, Own.sel (by assumption) [] rfl⟩
    · rw [if_neg hk1]
      by_cases hk2 : k = 2
      · subst hk2
        have hnn : -1000000000 ≤ n ∧ n ≤ 1000000000 := by unfold validP at hv; omega
        rw [if_pos rfl]
        refine Br.ff ?_
        refine StillVC.run (StillVC.fieldAddr st23 rfl rfl rfl ?_)
        refine StillVC.run (StillVC.loadO o1 0 rfl ty3 rfl rfl ?_)
        refine Br.ff ?_
        refine Br.tt ?_
        refine StillVC.run (StillVC.fieldAddr st23 rfl rfl rfl ?_)
        refine StillVC.run (StillVC.loadO o1 0 rfl ty3 rfl rfl ?_)
        refine CallVC.ret (rdecimal_spec n _ (by omega) (by omega)) ?_
        rintro _ h2 ⟨rfl, ob⟩
        have o2 := ob.thenE (by assumption)
        refine RetVC.one rfl ?_
        exact ⟨rfl, Own.sel (by assumption) [] rfl⟩
      · rw [if_neg hk2]
        by_cases hk3 : k = 3
        · subst hk3
          have hnn : 0 ≤ n ∧ n ≤ 73048 := by unfold validP at hv; omega
          have hsh := itoa_short n (by omega) (by omega)
          rw [if_pos rfl]
          refine Br.ff ?_
          refine StillVC.run (StillVC.fieldAddr st23 rfl rfl rfl ?_)
          refine StillVC.run (StillVC.loadO o1 0 rfl ty3 rfl rfl ?_)
          refine Br.ff ?_
          refine Br.ff ?_
          refine Br.tt ?_
          refine StillVC.run (StillVC.fieldAddr st23 rfl rfl rfl ?_)
          refine StillVC.run (StillVC.loadO o1 0 rfl ty3 rfl rfl ?_)
          refine CallVC.ret (rdecimal_spec n _ (by omega) (by omega)) ?_
          rintro _ h2 ⟨rfl, ob⟩
          have o2 := ob.thenE (by assumption)
          refine StillVC.run (StillVC.strAdd rfl rfl (by first | omega | (simp; omega)) ?_)
          refine RetVC.one rfl ?_
          exact ⟨rfl, Own.sel (by assumption) [] rfl⟩
        · rw [if_neg hk3]
          by_cases hk4 : k = 4
          · subst hk4
            rw [if_pos rfl]
            by_cases hn1 : n = 1
            · subst hn1
              refine Br.ff ?_
              refine StillVC.run (StillVC.fieldAddr st23 rfl rfl rfl ?_)
              refine StillVC.run (StillVC.loadO o1 0 rfl ty3 rfl rfl ?_)
              refine Br.ff ?_
              refine Br.ff ?_
              refine Br.ff ?_
              refine Br.tt ?_
              refine StillVC.run (StillVC.fieldAddr st23 rfl rfl rfl ?_)
              refine StillVC.run (StillVC.loadO o1 0 rfl ty3 rfl rfl ?_)
              refine Br.tt ?_
              refine RetVC.one rfl ?_
              exact ⟨rfl, Own.sel (by assumption) [] rfl⟩
            · rw [decide_eq_false hn1]
              refine Br.ff ?_
              refine StillVC.run (StillVC.fieldAddr st23 rfl rfl rfl ?_)
              refine StillVC.run (StillVC.loadO o1 0 rfl ty3 rfl rfl ?_)
              refine Br.ff ?_
              refine Br.ff ?_
              refine Br.ff ?_
              refine Br.tt ?_
              refine StillVC.run (StillVC.fieldAddr st23 rfl rfl rfl ?_)
              refine StillVC.run (StillVC.loadO o1 0 rfl ty3 rfl rfl ?_)
              refine Br.dec (fun hc => absurd hc (by omega)) (fun c174 => ?_)
              refine RetVC.one rfl ?_
              exact ⟨rfl, Own.sel (by assumption) [] rfl⟩
          · rw [if_neg hk4]
            refine Br.ff ?_
            refine StillVC.run (StillVC.fieldAddr st23 rfl rfl rfl ?_)
            refine StillVC.run (StillVC.loadO o1 0 rfl ty3 rfl rfl ?_)
            refine Br.dec (fun hc => absurd hc (by omega)) (fun c192 => ?_)
            refine Br.dec (fun hc => absurd hc (by omega)) (fun c193 => ?_)
            refine Br.dec (fun hc => absurd hc (by omega)) (fun c194 => ?_)
            refine Br.dec (fun hc => absurd hc (by omega)) (fun c195 => ?_)
            refine RetVC.one rfl ?_
            exact ⟨rfl, Own.sel (by assumption) [] rfl⟩
  · rw [decide_eq_false hv, if_pos hv]
    refine Br.tt ?_
    refine RetVC.one rfl ?_
    exact ⟨rfl, Own.sel (by assumption) [] rfl⟩

theorem cmp_flag {n n' : Int} {t t' : List UInt8} (h : validP 4 n t) (h' : validP 4 n' t') : cmpV 4 n t 4 n' t' = cmpI (n - n') 0 := by
  have e : t = [] := by unfold validP at h; simp at h; exact h.2.2
  have e' : t' = [] := by unfold validP at h'; simp at h'; exact h'.2.2
  subst e e'
  unfold cmpV
  rw [if_neg (fun h => h (cmpI_self 4))]
  have h1 := cmpI_cases n n'
  have h2 := cmpI_cases (n - n') 0
  have h3 : cmpS [] [] = 0 := rfl
  rw [h3]
  split <;> omega

theorem opB_other {op c : Int} (h1 : ¬ op = 1) (h2 : ¬ op = 2) (h3 : ¬ op = 3) (h4 : ¬ op = 4) : false = opB op c := by
  unfold opB
  exact (decide_eq_false (by omega)).symm

theorem opB_one {op c : Int} (h1 : op = 1) : decide (c = 0) = opB op c := by
  unfold opB
  exact decide_eq_decide.2 (by omega)

theorem opB_two {op c : Int} (h1 : op = 2) : (!decide (c = 0)) = opB op c := by
  unfold opB
  rw [← decide_not]
  exact decide_eq_decide.2 (by omega)

theorem opB_three {op c : Int} (h1 : op = 3) : decide (c < 0) = opB op c := by
  unfold opB
  exact decide_eq_decide.2 (by omega)

theorem opB_four {op c : Int} (h1 : op = 4) : decide (c ≤ 0) = opB op c := by
  unfold opB
  exact decide_eq_decide.2 (by omega)

set_option maxHeartbeats 8000000 in
set_option maxRecDepth 100000 in
theorem rtest_spec (k n : Int) (t : List UInt8) (op : Int) (k' n' : Int) (t' : List UInt8) (add : Int) (h : Heap) (hl : t.length ≤ 1000000) (hl' : t'.length ≤ 1000000) :
    SpecR Tryz.prog 24 [valV k n t, .int .i64 op, valV k' n' t', .int .i64 add] h fun r h' => r = .bool (testB k n t op k' n' t' add) ∧ Own h [] h' := by
  have o0 := Own.refl h
  show SpecR Tryz.prog 24 [.agg ⟨[.int .i64 k, .int .i64 n, .string ⟨⟨t⟩⟩]⟩, .int .i64 op, .agg ⟨[.int .i64 k', .int .i64 n', .string ⟨⟨t'⟩⟩]⟩, .int .i64 add] h _
  unfold testB
  refine Spec.enter Tryz.func24 rfl Tryz.ntmps24 (by kernel_rfl) ?_
  (refine RunVC.boxO o0 rfl ?_; intro b10 m10 o10)
  (refine RunVC.boxO o10 rfl ?_; intro b11 m11 o11)
  refine StillVC.run (StillVC.loadON o11 0 rfl ty23 rfl rfl rfl ?_)
  refine CallVC.ret (rvalid_spec k n t _ (by omega)) ?_
  rintro _ h1 ⟨rfl, oa⟩
  have o1 : Own h [box b10 [.int .i64 k, .int .i64 n, .string ⟨⟨t⟩⟩] 23, box b11 [.int .i64 k', .int .i64 n', .string ⟨⟨t'⟩⟩] 23] h1 := oa.thenE (by assumption)
  clear oa
  by_cases hv : validP k n t
  case neg =>
    rw [decide_eq_false hv, if_pos (fun h => hv h.1)]
    refine Br.tt ?_
    refine Br.tt ?_
    refine RetVC.one rfl ?_
    exact ⟨rfl, Own.sel (by assumption) [] rfl⟩
  rw [decide_eq_true hv]
  refine Br.ff ?_
  refine StillVC.run (StillVC.loadON o1 1 rfl ty23 rfl rfl rfl ?_)
  refine CallVC.ret (rvalid_spec k' n' t' _ (by omega)) ?_
  rintro _ h2 ⟨rfl, ob⟩
  have o2 : Own h [box b10 [.int .i64 k, .int .i64 n, .string ⟨⟨t⟩⟩] 23, box b11 [.int .i64 k', .int .i64 n', .string ⟨⟨t'⟩⟩] 23] h2 := ob.thenE (by assumption)
  clear ob
  by_cases hv' : validP k' n' t'
  case neg =>
    rw [decide_eq_false hv', if_pos (fun h => hv' h.2.1)]
    refine Br.tt ?_
    refine Br.tt ?_
    refine RetVC.one rfl ?_
    exact ⟨rfl, Own.sel (by assumption) [] rfl⟩
  rw [decide_eq_true hv']
  by_cases hk : k = k'
  case neg =>
    rw [if_pos (fun h => hk h.2.2)]
    refine Br.ff ?_
    refine StillVC.run (StillVC.fieldAddr st23 rfl rfl rfl ?_)
    refine StillVC.run (StillVC.loadO o2 0 rfl ty3 rfl rfl ?_)
    refine StillVC.run (StillVC.fieldAddr st23 rfl rfl rfl ?_)
    refine StillVC.run (StillVC.loadO o2 1 rfl ty3 rfl rfl ?_)
    refine Br.ndec (fun c54 => ?_) (fun hc => absurd hc (by first | omega | assumption | decide | exact rfl))
    refine Br.tt ?_
    refine RetVC.one rfl ?_
    exact ⟨rfl, Own.sel (by assumption) [] rfl⟩
  subst hk
  rw [if_neg (fun h => h ⟨hv, hv', rfl⟩)]
  have hn : -1000000000 ≤ n ∧ n ≤ 1000000000 := by unfold validP at hv; omega
  have hn' : -1000000000 ≤ n' ∧ n' ≤ 1000000000 := by unfold validP at hv'; omega
  have hkk : k = 0 ∨ k = 1 ∨ k = 2 ∨ k = 3 ∨ k = 4 := by unfold validP at hv; omega
  by_cases hk23 : k = 2 ∨ k = 3
  · rw [if_pos hk23]
    rcases hk23 with rfl | rfl
    · by_cases ha : add = 0
      · subst ha
        refine Br.ff ?_
        refine StillVC.run (StillVC.fieldAddr st23 rfl rfl rfl ?_)
        refine StillVC.run (StillVC.loadO o2 0 rfl ty3 rfl rfl ?_)
        refine StillVC.run (StillVC.fieldAddr st23 rfl rfl rfl ?_)
        refine StillVC.run (StillVC.loadO o2 1 rfl ty3 rfl rfl ?_)
        refine Br.ff ?_
        refine StillVC.run (StillVC.fieldAddr st23 rfl rfl rfl ?_)
        refine StillVC.run (StillVC.loadO o2 0 rfl ty3 rfl rfl ?_)
        refine Br.ff ?_
        refine Br.ff ?_
        refine Br.ff ?_
        refine StillVC.run (StillVC.fieldAddr st23 rfl rfl rfl ?_)
        refine StillVC.run (StillVC.loadO o2 0 rfl ty3 rfl rfl ?_)
        refine StillVC.run (StillVC.fieldAddr st23 rfl rfl rfl ?_)
        refine StillVC.run (StillVC.loadO o2 1 rfl ty3 rfl rfl ?_)
        refine Ar.i64 (by omega) (by omega) ?_
        refine CallVC.ret (sign_spec (n - n') 0 _) ?_
        rintro _ h3 ⟨rfl, oc⟩
        have o3 := oc.thenE (by assumption)
        clear oc
        generalize cmpI (n - n') 0 = c at *
        refine StillVC.run (StillVC.fieldAddr st23 rfl rfl rfl ?_)
        refine StillVC.run (StillVC.loadO o3 0 rfl ty3 rfl rfl ?_)
        refine Br.ff ?_
        refine Br.dec (fun c64 => ?_) (fun c64 => ?_)
        refine RetVC.one rfl ?_
        rotate_left
        refine Br.dec (fun c65 => ?_) (fun c65 => ?_)
        refine RetVC.one rfl ?_
        rotate_left
        refine Br.dec (fun c66 => ?_) (fun c66 => ?_)
        refine RetVC.one rfl ?_
        rotate_left
        refine Br.dec (fun c67 => ?_) (fun c67 => ?_)
        refine RetVC.one rfl ?_
        rotate_left
        refine RetVC.one rfl ?_
        all_goals first
          | exact ⟨congrArg Value.bool (opB_one (by assumption)), Own.sel (by assumption) [] rfl⟩
          | exact ⟨congrArg Value.bool (opB_two (by assumption)), Own.sel (by assumption) [] rfl⟩
          | exact ⟨congrArg Value.bool (opB_three (by assumption)), Own.sel (by assumption) [] rfl⟩
          | exact ⟨congrArg Value.bool (opB_four (by assumption)), Own.sel (by assumption) [] rfl⟩
          | exact ⟨congrArg Value.bool (opB_other (by assumption) (by assumption) (by assumption) (by assumption)), Own.sel (by assumption) [] rfl⟩
      · refine Br.ff ?_
        refine StillVC.run (StillVC.fieldAddr st23 rfl rfl rfl ?_)
        refine StillVC.run (StillVC.loadO o2 0 rfl ty3 rfl rfl ?_)
        refine StillVC.run (StillVC.fieldAddr st23 rfl rfl rfl ?_)
        refine StillVC.run (StillVC.loadO o2 1 rfl ty3 rfl rfl ?_)
        refine Br.ff ?_
        refine StillVC.run (StillVC.fieldAddr st23 rfl rfl rfl ?_)
        refine StillVC.run (StillVC.loadO o2 0 rfl ty3 rfl rfl ?_)
        refine Br.ff ?_
        refine Br.ndec (fun c70 => ?_) (fun hc => absurd hc (by first | omega | assumption | decide | exact rfl))
        refine StillVC.run (StillVC.fieldAddr st23 rfl rfl rfl ?_)
        refine StillVC.run (StillVC.loadO o2 0 rfl ty3 rfl rfl ?_)
        refine Br.ff ?_
        refine Br.ff ?_
        refine StillVC.run (StillVC.fieldAddr st23 rfl rfl rfl ?_)
        refine StillVC.run (StillVC.loadO o2 0 rfl ty3 rfl rfl ?_)
        refine StillVC.run (StillVC.fieldAddr st23 rfl rfl rfl ?_)
        refine StillVC.run (StillVC.loadO o2 1 rfl ty3 rfl rfl ?_)
        refine Ar.i64 (by omega) (by omega) ?_
        refine CallVC.ret (sign_spec (n - n') add _) ?_
        rintro _ h3 ⟨rfl, oc⟩
        have o3 := oc.thenE (by assumption)
        clear oc
        generalize cmpI (n - n') add = c at *
        refine StillVC.run (StillVC.fieldAddr st23 rfl rfl rfl ?_)
        refine StillVC.run (StillVC.loadO o3 0 rfl ty3 rfl rfl ?_)
        refine Br.ff ?_
        refine Br.dec (fun c68 => ?_) (fun c68 => ?_)
        refine RetVC.one rfl ?_
        rotate_left
        refine Br.dec (fun c69 => ?_) (fun c69 => ?_)
        refine RetVC.one rfl ?_
        rotate_left
        refine Br.dec (fun c70 => ?_) (fun c70 => ?_)
        refine RetVC.one rfl ?_
        rotate_left
        refine Br.dec (fun c71 => ?_) (fun c71 => ?_)
        refine RetVC.one rfl ?_
        rotate_left
        refine RetVC.one rfl ?_
        all_goals first
          | exact ⟨congrArg Value.bool (opB_one (by assumption)), Own.sel (by assumption) [] rfl⟩
          | exact ⟨congrArg Value.bool (opB_two (by assumption)), Own.sel (by assumption) [] rfl⟩
          | exact ⟨congrArg Value.bool (opB_three (by assumption)), Own.sel (by assumption) [] rfl⟩
          | exact ⟨congrArg Value.bool (opB_four (by assumption)), Own.sel (by assumption) [] rfl⟩
          | exact ⟨congrArg Value.bool (opB_other (by assumption) (by assumption) (by assumption) (by assumption)), Own.sel (by assumption) [] rfl⟩
    · by_cases ha : add = 0
      · subst ha
        refine Br.ff ?_
        refine StillVC.run (StillVC.fieldAddr st23 rfl rfl rfl ?_)
        refine StillVC.run (StillVC.loadO o2 0 rfl ty3 rfl rfl ?_)
        refine StillVC.run (StillVC.fieldAddr st23 rfl rfl rfl ?_)
        refine StillVC.run (StillVC.loadO o2 1 rfl ty3 rfl rfl ?_)
        refine Br.ff ?_
        refine StillVC.run (StillVC.fieldAddr st23 rfl rfl rfl ?_)
        refine StillVC.run (StillVC.loadO o2 0 rfl ty3 rfl rfl ?_)
        refine Br.ff ?_
        refine Br.ff ?_
        refine Br.ff ?_
        refine StillVC.run (StillVC.fieldAddr st23 rfl rfl rfl ?_)
        refine StillVC.run (StillVC.loadO o2 0 rfl ty3 rfl rfl ?_)
        refine StillVC.run (StillVC.fieldAddr st23 rfl rfl rfl ?_)
        refine StillVC.run (StillVC.loadO o2 1 rfl ty3 rfl rfl ?_)
        refine Ar.i64 (by omega) (by omega) ?_
        refine CallVC.ret (sign_spec (n - n') 0 _) ?_
        rintro _ h3 ⟨rfl, oc⟩
        have o3 := oc.thenE (by assumption)
        clear oc
        generalize cmpI (n - n') 0 = c at *
        refine StillVC.run (StillVC.fieldAddr st23 rfl rfl rfl ?_)
        refine StillVC.run (StillVC.loadO o3 0 rfl ty3 rfl rfl ?_)
        refine Br.ff ?_
        refine Br.dec (fun c74 => ?_) (fun c74 => ?_)
        refine RetVC.one rfl ?_
        rotate_left
        refine Br.dec (fun c75 => ?_) (fun c75 => ?_)
        refine RetVC.one rfl ?_
        rotate_left
        refine Br.dec (fun c76 => ?_) (fun c76 => ?_)
        refine RetVC.one rfl ?_
        rotate_left
        refine Br.dec (fun c77 => ?_) (fun c77 => ?_)
        refine RetVC.one rfl ?_
        rotate_left
        refine RetVC.one rfl ?_
        all_goals first
          | exact ⟨congrArg Value.bool (opB_one (by assumption)), Own.sel (by assumption) [] rfl⟩
          | exact ⟨congrArg Value.bool (opB_two (by assumption)), Own.sel (by assumption) [] rfl⟩
          | exact ⟨congrArg Value.bool (opB_three (by assumption)), Own.sel (by assumption) [] rfl⟩
          | exact ⟨congrArg Value.bool (opB_four (by assumption)), Own.sel (by assumption) [] rfl⟩
          | exact ⟨congrArg Value.bool (opB_other (by assumption) (by assumption) (by assumption) (by assumption)), Own.sel (by assumption) [] rfl⟩
      · refine Br.ff ?_
        refine StillVC.run (StillVC.fieldAddr st23 rfl rfl rfl ?_)
        refine StillVC.run (StillVC.loadO o2 0 rfl ty3 rfl rfl ?_)
        refine StillVC.run (StillVC.fieldAddr st23 rfl rfl rfl ?_)
        refine StillVC.run (StillVC.loadO o2 1 rfl ty3 rfl rfl ?_)
        refine Br.ff ?_
        refine StillVC.run (StillVC.fieldAddr st23 rfl rfl rfl ?_)
        refine StillVC.run (StillVC.loadO o2 0 rfl ty3 rfl rfl ?_)
        refine Br.ff ?_
        refine Br.ndec (fun c80 => ?_) (fun hc => absurd hc (by first | omega | assumption | decide | exact rfl))
        refine StillVC.run (StillVC.fieldAddr st23 rfl rfl rfl ?_)
        refine StillVC.run (StillVC.loadO o2 0 rfl ty3 rfl rfl ?_)
        refine Br.tt ?_
        refine StillVC.run (StillVC.fieldAddr st23 rfl rfl rfl ?_)
        refine StillVC.run (StillVC.loadO o2 0 rfl ty3 rfl rfl ?_)
        refine Br.ff ?_
        refine StillVC.run (StillVC.fieldAddr st23 rfl rfl rfl ?_)
        refine StillVC.run (StillVC.loadO o2 0 rfl ty3 rfl rfl ?_)
        refine StillVC.run (StillVC.fieldAddr st23 rfl rfl rfl ?_)
        refine StillVC.run (StillVC.loadO o2 1 rfl ty3 rfl rfl ?_)
        refine Ar.i64 (by omega) (by omega) ?_
        refine CallVC.ret (sign_spec (n - n') add _) ?_
        rintro _ h3 ⟨rfl, oc⟩
        have o3 := oc.thenE (by assumption)
        clear oc
        generalize cmpI (n - n') add = c at *
        refine StillVC.run (StillVC.fieldAddr st23 rfl rfl rfl ?_)
        refine StillVC.run (StillVC.loadO o3 0 rfl ty3 rfl rfl ?_)
        refine Br.ff ?_
        refine Br.dec (fun c78 => ?_) (fun c78 => ?_)
        refine RetVC.one rfl ?_
        rotate_left
        refine Br.dec (fun c79 => ?_) (fun c79 => ?_)
        refine RetVC.one rfl ?_
        rotate_left
        refine Br.dec (fun c80 => ?_) (fun c80 => ?_)
        refine RetVC.one rfl ?_
        rotate_left
        refine Br.dec (fun c81 => ?_) (fun c81 => ?_)
        refine RetVC.one rfl ?_
        rotate_left
        refine RetVC.one rfl ?_
        all_goals first
          | exact ⟨congrArg Value.bool (opB_one (by assumption)), Own.sel (by assumption) [] rfl⟩
          | exact ⟨congrArg Value.bool (opB_two (by assumption)), Own.sel (by assumption) [] rfl⟩
          | exact ⟨congrArg Value.bool (opB_three (by assumption)), Own.sel (by assumption) [] rfl⟩
          | exact ⟨congrArg Value.bool (opB_four (by assumption)), Own.sel (by assumption) [] rfl⟩
          | exact ⟨congrArg Value.bool (opB_other (by assumption) (by assumption) (by assumption) (by assumption)), Own.sel (by assumption) [] rfl⟩
  rw [if_neg hk23]
  by_cases ha : add = 0
  case neg =>
    rw [if_neg (fun h => ha h.2)]
    refine Br.ff ?_
    refine StillVC.run (StillVC.fieldAddr st23 rfl rfl rfl ?_)
    refine StillVC.run (StillVC.loadO o2 0 rfl ty3 rfl rfl ?_)
    refine StillVC.run (StillVC.fieldAddr st23 rfl rfl rfl ?_)
    refine StillVC.run (StillVC.loadO o2 1 rfl ty3 rfl rfl ?_)
    refine Br.ndec (fun hc => absurd (by first | omega | assumption | decide | exact rfl) hc) (fun c84 => ?_)
    refine StillVC.run (StillVC.fieldAddr st23 rfl rfl rfl ?_)
    refine StillVC.run (StillVC.loadO o2 0 rfl ty3 rfl rfl ?_)
    refine Br.dec (fun c87 => ?_) (fun c87 => ?_)
    refine RetVC.one rfl ?_
    rotate_left
    refine Br.ndec (fun c88 => ?_) (fun hc => absurd hc (by first | omega | assumption | decide | exact rfl))
    refine StillVC.run (StillVC.fieldAddr st23 rfl rfl rfl ?_)
    refine StillVC.run (StillVC.loadO o2 0 rfl ty3 rfl rfl ?_)
    refine Br.ndec (fun c91 => ?_) (fun hc => absurd hc (by first | omega | assumption | decide | exact rfl))
    refine StillVC.run (StillVC.fieldAddr st23 rfl rfl rfl ?_)
    refine StillVC.run (StillVC.loadO o2 0 rfl ty3 rfl rfl ?_)
    refine Br.ndec (fun c94 => ?_) (fun hc => absurd hc (by first | omega | assumption | decide | exact rfl))
    refine RetVC.one rfl ?_
    all_goals exact ⟨rfl, Own.sel (by assumption) [] rfl⟩
  subst ha
  by_cases h0 : k = 0
  · subst h0
    refine Br.ff ?_
    refine StillVC.run (StillVC.fieldAddr st23 rfl rfl rfl ?_)
    refine StillVC.run (StillVC.loadO o2 0 rfl ty3 rfl rfl ?_)
    refine StillVC.run (StillVC.fieldAddr st23 rfl rfl rfl ?_)
    refine StillVC.run (StillVC.loadO o2 1 rfl ty3 rfl rfl ?_)
    refine Br.ff ?_
    refine StillVC.run (StillVC.fieldAddr st23 rfl rfl rfl ?_)
    refine StillVC.run (StillVC.loadO o2 0 rfl ty3 rfl rfl ?_)
    refine Br.tt ?_
    refine RetVC.one rfl ?_
    exact ⟨rfl, Own.sel (by assumption) [] rfl⟩
  by_cases h1 : k = 1
  · subst h1
    rw [if_pos ⟨.inl rfl, rfl⟩]
    refine Br.ff ?_
    refine StillVC.run (StillVC.fieldAddr st23 rfl rfl rfl ?_)
    refine StillVC.run (StillVC.loadO o2 0 rfl ty3 rfl rfl ?_)
    refine StillVC.run (StillVC.fieldAddr st23 rfl rfl rfl ?_)
    refine StillVC.run (StillVC.loadO o2 1 rfl ty3 rfl rfl ?_)
    refine Br.ff ?_
    refine StillVC.run (StillVC.fieldAddr st23 rfl rfl rfl ?_)
    refine StillVC.run (StillVC.loadO o2 0 rfl ty3 rfl rfl ?_)
    refine Br.ff ?_
    refine Br.ff ?_
    refine Br.ff ?_
    refine StillVC.run (StillVC.fieldAddr st23 rfl rfl rfl ?_)
    refine StillVC.run (StillVC.loadO o2 0 rfl ty3 rfl rfl ?_)
    refine StillVC.run (StillVC.fieldAddr st23 rfl rfl rfl ?_)
    refine StillVC.run (StillVC.loadO o2 1 rfl ty3 rfl rfl ?_)
    refine Ar.i64 (by omega) (by omega) ?_
    refine CallVC.ret (sign_spec (n - n') 0 _) ?_
    rintro _ h3 ⟨rfl, oc⟩
    have o3 := oc.thenE (by assumption)
    clear oc
    generalize cmpI (n - n') 0 = c at *
    refine StillVC.run (StillVC.fieldAddr st23 rfl rfl rfl ?_)
    refine StillVC.run (StillVC.loadO o3 0 rfl ty3 rfl rfl ?_)
    refine Br.tt ?_
    refine StillVC.run (StillVC.loadON o3 0 rfl ty23 rfl rfl rfl ?_)
    refine StillVC.run (StillVC.loadON o3 1 rfl ty23 rfl rfl rfl ?_)
    refine CallVC.ret (rcompare_spec 1 n t 1 n' t' _) ?_
    rintro _ h4 ⟨rfl, od⟩
    have o4 := od.thenE (by assumption)
    clear od
    generalize cmpV 1 n t 1 n' t' = c' at *
    refine Br.dec (fun c106 => ?_) (fun c106 => ?_)
    refine RetVC.one rfl ?_
    rotate_left
    refine Br.dec (fun c107 => ?_) (fun c107 => ?_)
    refine RetVC.one rfl ?_
    rotate_left
    refine Br.dec (fun c108 => ?_) (fun c108 => ?_)
    refine RetVC.one rfl ?_
    rotate_left
    refine Br.dec (fun c109 => ?_) (fun c109 => ?_)
    refine RetVC.one rfl ?_
    rotate_left
    refine RetVC.one rfl ?_
    all_goals first
      | exact ⟨congrArg Value.bool (opB_one (by assumption)), Own.sel (by assumption) [] rfl⟩
      | exact ⟨congrArg Value.bool (opB_two (by assumption)), Own.sel (by assumption) [] rfl⟩
      | exact ⟨congrArg Value.bool (opB_three (by assumption)), Own.sel (by assumption) [] rfl⟩
      | exact ⟨congrArg Value.bool (opB_four (by assumption)), Own.sel (by assumption) [] rfl⟩
      | exact ⟨congrArg Value.bool (opB_other (by assumption) (by assumption) (by assumption) (by assumption)), Own.sel (by assumption) [] rfl⟩
  obtain rfl : k = 4 := by omega
  rw [if_pos ⟨.inr rfl, rfl⟩, cmp_flag hv hv']
  refine Br.ff ?_
  refine StillVC.run (StillVC.fieldAddr st23 rfl rfl rfl ?_)
  refine StillVC.run (StillVC.loadO o2 0 rfl ty3 rfl rfl ?_)
  refine StillVC.run (StillVC.fieldAddr st23 rfl rfl rfl ?_)
  refine StillVC.run (StillVC.loadO o2 1 rfl ty3 rfl rfl ?_)
  refine Br.ff ?_
  refine StillVC.run (StillVC.fieldAddr st23 rfl rfl rfl ?_)
  refine StillVC.run (StillVC.loadO o2 0 rfl ty3 rfl rfl ?_)
  refine Br.ff ?_
  refine Br.ff ?_
  refine Br.ff ?_
  refine StillVC.run (StillVC.fieldAddr st23 rfl rfl rfl ?_)
  refine StillVC.run (StillVC.loadO o2 0 rfl ty3 rfl rfl ?_)
  refine StillVC.run (StillVC.fieldAddr st23 rfl rfl rfl ?_)
  refine StillVC.run (StillVC.loadO o2 1 rfl ty3 rfl rfl ?_)
  refine Ar.i64 (by omega) (by omega) ?_
  refine CallVC.ret (sign_spec (n - n') 0 _) ?_
  rintro _ h3 ⟨rfl, oc⟩
  have o3 := oc.thenE (by assumption)
  clear oc
  generalize cmpI (n - n') 0 = c at *
  refine StillVC.run (StillVC.fieldAddr st23 rfl rfl rfl ?_)
  refine StillVC.run (StillVC.loadO o3 0 rfl ty3 rfl rfl ?_)
  refine Br.ff ?_
  refine Br.dec (fun c116 => ?_) (fun c116 => ?_)
  refine RetVC.one rfl ?_
  rotate_left
  refine Br.dec (fun c117 => ?_) (fun c117 => ?_)
  refine RetVC.one rfl ?_
  rotate_left
  refine Br.dec (fun c118 => ?_) (fun c118 => ?_)
  refine RetVC.one rfl ?_
  rotate_left
  refine Br.dec (fun c119 => ?_) (fun c119 => ?_)
  refine RetVC.one rfl ?_
  rotate_left
  refine RetVC.one rfl ?_
  all_goals first
    | exact ⟨congrArg Value.bool (opB_one (by assumption)), Own.sel (by assumption) [] rfl⟩
    | exact ⟨congrArg Value.bool (opB_two (by assumption)), Own.sel (by assumption) [] rfl⟩
    | exact ⟨congrArg Value.bool (opB_three (by assumption)), Own.sel (by assumption) [] rfl⟩
    | exact ⟨congrArg Value.bool (opB_four (by assumption)), Own.sel (by assumption) [] rfl⟩
    | exact ⟨congrArg Value.bool (opB_other (by assumption) (by assumption) (by assumption) (by assumption)), Own.sel (by assumption) [] rfl⟩

end Go.Proofs.YtffpaippmfafjaaGreatDoor
