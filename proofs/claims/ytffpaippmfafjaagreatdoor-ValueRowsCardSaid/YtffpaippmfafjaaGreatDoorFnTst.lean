/-
  The comparisons of values.
-/
import Derived.Test.YtffpaippmfafjaaGreatDoorStructs
import Derived.Test.YtffpaippmfafjaaGreatDoorFnCmp
namespace Go.Proofs.YtffpaippmfafjaaGreatDoor
open Go

/-- Does a comparison hold? -/
def opB (op c : Int) : Bool := decide (op = 1 ∧ c = 0 ∨ op = 2 ∧ c ≠ 0 ∨ op = 3 ∧ c < 0 ∨ op = 4 ∧ c ≤ 0)

def cmpC (x : Int × FuncId) : List Value := [.int .i64 x.1, .func (.func x.2) ⟨[]⟩ ⟨[]⟩]
def cmpL : List (Int × FuncId) := [(1, 54), (2, 55), (3, 56), (4, 57)]
def cmpCells : List Value := cmpL.flatMap cmpC

set_option maxRecDepth 100000 in
theorem cmp1_spec (c : Int) (h : Heap) : SpecR Tryz.prog 54 [.int .i64 c] h fun r h' => r = .bool (decide (c = 0)) ∧ Own h [] h' := by
  refine Spec.enter Tryz.func54 rfl Tryz.ntmps54 (by kernel_rfl) ?_
  have o0 := Own.refl h
  refine RetVC.one rfl ?_
  exact ⟨rfl, o0⟩

set_option maxRecDepth 100000 in
theorem cmp2_spec (c : Int) (h : Heap) : SpecR Tryz.prog 55 [.int .i64 c] h fun r h' => r = .bool (decide (c ≠ 0)) ∧ Own h [] h' := by
  refine Spec.enter Tryz.func55 rfl Tryz.ntmps55 (by kernel_rfl) ?_
  have o0 := Own.refl h
  refine RetVC.one rfl ?_
  exact ⟨by simp, o0⟩

set_option maxRecDepth 100000 in
theorem cmp3_spec (c : Int) (h : Heap) : SpecR Tryz.prog 56 [.int .i64 c] h fun r h' => r = .bool (decide (c < 0)) ∧ Own h [] h' := by
  refine Spec.enter Tryz.func56 rfl Tryz.ntmps56 (by kernel_rfl) ?_
  have o0 := Own.refl h
  refine RetVC.one rfl ?_
  exact ⟨rfl, o0⟩

set_option maxRecDepth 100000 in
theorem cmp4_spec (c : Int) (h : Heap) : SpecR Tryz.prog 57 [.int .i64 c] h fun r h' => r = .bool (decide (c ≤ 0)) ∧ Own h [] h' := by
  refine Spec.enter Tryz.func57 rfl Tryz.ntmps57 (by kernel_rfl) ?_
  have o0 := Own.refl h
  refine RetVC.one rfl ?_
  exact ⟨rfl, o0⟩

set_option maxRecDepth 100000 in
theorem comparisons_spec (h : Heap) : SpecR Tryz.prog 44 [] h fun r h' => ∃ b, r = .slice (some ⟨b, 0, none⟩) 4 4 ∧ Own h [box b cmpCells 63] h' := by
  refine Spec.enter Tryz.func44 rfl Tryz.ntmps44 (by kernel_rfl) ?_
  have o0 := Own.refl h
  refine StillVC.run (StillVC.buildK st63 ?_)
  refine And.intro rfl ?_
  refine And.intro rfl ?_
  refine StillVC.run (StillVC.buildK st63 ?_)
  refine And.intro rfl ?_
  refine And.intro rfl ?_
  refine StillVC.run (StillVC.buildK st63 ?_)
  refine And.intro rfl ?_
  refine And.intro rfl ?_
  refine StillVC.run (StillVC.buildK st63 ?_)
  refine And.intro rfl ?_
  refine And.intro rfl ?_
  (refine RunVC.litN o0 sl59 ty63 rfl rfl (by decide) ?_)
  refine And.intro rfl ?_
  refine And.intro rfl ?_
  refine And.intro rfl ?_
  refine And.intro rfl ?_
  intro b15 m15 o15
  refine RetVC.one rfl ?_
  exact ⟨b15, rfl, o15⟩

def testB (k n : Int) (t : List UInt8) (op : Int) (k' n' : Int) (t' : List UInt8) (add : Int) : Bool :=
  if ¬ (validP k n t ∧ validP k' n' t' ∧ k = k') then false
  else if k = 2 ∨ k = 3 then opB op (cmpI (n - n') add)
  else if (k = 1 ∨ k = 4) ∧ add = 0 then opB op (cmpV k n t k' n' t')
  else false

set_option maxHeartbeats 8000000 in
set_option maxRecDepth 100000 in
theorem test_spec (k n : Int) (t : List UInt8) (op : Int) (k' n' : Int) (t' : List UInt8) (add : Int) (h : Heap) (hl : t.length ≤ 1000000) (hl' : t'.length ≤ 1000000) :
    SpecR Tryz.prog 23 [valV k n t, .int .i64 op, valV k' n' t', .int .i64 add] h fun r h' => r = .bool (testB k n t op k' n' t' add) ∧ Own h [] h' := by
  have o0 := Own.refl h
  show SpecR Tryz.prog 23 [.agg ⟨[.int .i64 k, .int .i64 n, .string ⟨⟨t⟩⟩]⟩, .int .i64 op, .agg ⟨[.int .i64 k', .int .i64 n', .string ⟨⟨t'⟩⟩]⟩, .int .i64 add] h _
  unfold testB
  refine Spec.enter Tryz.func23 rfl Tryz.ntmps23 (by kernel_rfl) ?_
  (refine RunVC.boxO o0 rfl ?_; intro b10 m10 o10)
  (refine RunVC.boxO o10 rfl ?_; intro b11 m11 o11)
  refine StillVC.run (StillVC.loadON o11 0 rfl ty23 rfl rfl rfl ?_)
  refine CallVC.ret (valid_spec k n t _ (by omega)) ?_
  rintro _ h1 ⟨rfl, oa⟩
  have o1 : Own h [box b10 [.int .i64 k, .int .i64 n, .string ⟨⟨t⟩⟩] 23, box b11 [.int .i64 k', .int .i64 n', .string ⟨⟨t'⟩⟩] 23] h1 := oa.thenE (by assumption)
  clear oa
  by_cases hv : validP k n t
  case neg =>
    rw [decide_eq_false hv, if_pos (fun h => hv h.1)]
    refine Br.tt ?_
    refine Br.tt ?_
    refine RetVC.one rfl ?_
    exact ⟨rfl, Own.sel (by assumption) [] rfl⟩
  rw [decide_eq_true hv]
  refine Br.ff ?_
  refine StillVC.run (StillVC.loadON o1 1 rfl ty23 rfl rfl rfl ?_)
  refine CallVC.ret (valid_spec k' n' t' _ (by omega)) ?_
  rintro _ h2 ⟨rfl, ob⟩
  have o2 : Own h [box b10 [.int .i64 k, .int .i64 n, .string ⟨⟨t⟩⟩] 23, box b11 [.int .i64 k', .int .i64 n', .string ⟨⟨t'⟩⟩] 23] h2 := ob.thenE (by assumption)
  clear ob
  by_cases hv' : validP k' n' t'
  case neg =>
    rw [decide_eq_false hv', if_pos (fun h => hv' h.2.1)]
    refine Br.tt ?_
    refine Br.tt ?_
    refine RetVC.one rfl ?_
    exact ⟨rfl, Own.sel (by assumption) [] rfl⟩
  rw [decide_eq_true hv']
  by_cases hk : k = k'
  case neg =>
    rw [if_pos (fun h => hk h.2.2)]
    refine Br.ff ?_
    refine StillVC.run (StillVC.fieldAddr st23 rfl rfl rfl ?_)
    refine StillVC.run (StillVC.loadO o2 0 rfl ty3 rfl rfl ?_)
    refine StillVC.run (StillVC.fieldAddr st23 rfl rfl rfl ?_)
    refine StillVC.run (StillVC.loadO o2 1 rfl ty3 rfl rfl ?_)
    refine Br.ndec (fun c54 => ?_) (fun hc => absurd hc (by first | omega | assumption | decide | exact rfl))
    refine RetVC.one rfl ?_
    exact ⟨rfl, Own.sel (by assumption) [] rfl⟩
  subst hk
  rw [if_neg (fun h => h ⟨hv, hv', rfl⟩)]
  have hn : -1000000000 ≤ n ∧ n ≤ 1000000000 := by unfold validP at hv; omega
  have hn' : -1000000000 ≤ n' ∧ n' ≤ 1000000000 := by unfold validP at hv'; omega
  by_cases hk2 : k = 2
  · subst hk2
    rw [if_pos (.inl rfl)]
    refine Br.ff ?_
    refine StillVC.run (StillVC.fieldAddr st23 rfl rfl rfl ?_)
    refine StillVC.run (StillVC.loadO o2 0 rfl ty3 rfl rfl ?_)
    refine StillVC.run (StillVC.fieldAddr st23 rfl rfl rfl ?_)
    refine StillVC.run (StillVC.loadO o2 1 rfl ty3 rfl rfl ?_)
    refine Br.ff ?_
    refine StillVC.run (StillVC.fieldAddr st23 rfl rfl rfl ?_)
    refine StillVC.run (StillVC.loadO o2 0 rfl ty3 rfl rfl ?_)
    refine Br.tt ?_
    refine Br.tt ?_
    refine StillVC.run (StillVC.fieldAddr st23 rfl rfl rfl ?_)
    refine StillVC.run (StillVC.loadO o2 0 rfl ty3 rfl rfl ?_)
    refine StillVC.run (StillVC.fieldAddr st23 rfl rfl rfl ?_)
    refine StillVC.run (StillVC.loadO o2 1 rfl ty3 rfl rfl ?_)
    refine Ar.i64 (by omega) (by omega) ?_
    refine CallVC.ret (orderI_spec (n - n') add _) ?_
    rintro _ h3 ⟨rfl, oc3⟩
    have o3 : Own h [box b10 [.int .i64 2, .int .i64 n, .string ⟨⟨t⟩⟩] 23, box b11 [.int .i64 2, .int .i64 n', .string ⟨⟨t'⟩⟩] 23] h3 := oc3.thenE (by assumption)
    clear oc3
    refine CallVC.ret (comparisons_spec _) ?_
    rintro _ hc ⟨bc, rfl, occ⟩
    have oc : Own h [box b10 [.int .i64 2, .int .i64 n, .string ⟨⟨t⟩⟩] 23, box b11 [.int .i64 2, .int .i64 n', .string ⟨⟨t'⟩⟩] 23, box bc cmpCells 63] hc := Own.call (by assumption) occ
    refine StillVC.run (StillVC.lenV rfl sl59 ?_)
    refine LoopVC.intro [8, 11, 49, 50, 51, 52, 53, 54, 55, 56, 57, 58, 59, 60, 61] [49] (fun vs hh => ∃ q : Nat, vs = [.int .i64 q] ∧ (q = 0 ∨ q = 1 ∧ op ≠ 1 ∨ q = 2 ∧ op ≠ 1 ∧ op ≠ 2 ∨ q = 3 ∧ op ≠ 1 ∧ op ≠ 2 ∧ op ≠ 3 ∨ q = 4 ∧ op ≠ 1 ∧ op ≠ 2 ∧ op ≠ 3 ∧ op ≠ 4) ∧ Own h [box b10 [.int .i64 2, .int .i64 n, .string ⟨⟨t⟩⟩] 23, box b11 [.int .i64 2, .int .i64 n', .string ⟨⟨t'⟩⟩] 23, box bc cmpCells 63] hh) (fun vs _ => match vs with | [.int _ q] => 4 - q.toNat | _ => 0) ?_ ?_
    · exact ⟨0, rfl, .inl rfl, oc⟩
    · rintro vs junk hh ⟨q, rfl, hq, oh⟩
      have hN : ArrN 2 hh (.slice (some ⟨bc, 0, none⟩) 4 4) 4 (cmpL.flatMap cmpC) := oh.boxArrN 2 rfl rfl (by decide)
      rcases hq with rfl | ⟨rfl, q1⟩ | ⟨rfl, q1, q2⟩ | ⟨rfl, q1, q2, q3⟩ | ⟨rfl, q1, q2, q3, q4⟩
      · have hp : cmpL[((0 : Nat) : Int).toNat]? = some (1, 54) := rfl
        by_cases hop : op = 1
        · refine Br.tt ?_
          refine StillVC.run (StillVC.idxN sl59 ty63 hN rfl (by omega) (by omega) ?_)
          refine StillVC.run (StillVC.loadON oh 2 rfl ty63 rfl rfl rfl ?_)
          (refine RunVC.alloc oh ty63 ?_; intro b102 m102 o102)
          (refine RunVC.storeL o102 3 rfl ty63 rfl (by decide) (And.intro ⟨rfl, rfl⟩ ?_); intro m103 o103)
          refine StillVC.run (StillVC.fieldAddr st63 rfl rfl rfl ?_)
          refine StillVC.run (StillVC.loadO o103 3 rfl ty3 rfl rfl ?_)
          refine Br.dec (fun c106 => ?_) (fun hc => absurd (by omega) hc)
          refine RegVC.plain ?_
          refine StillVC.run (StillVC.fieldAddr st63 rfl rfl rfl ?_)
          refine StillVC.run (StillVC.loadO o103 3 rfl ty61 rfl rfl ?_)
          refine CallVC.ret (cmp1_spec (cmpI (n - n') add) _) ?_
          rintro _ h9 ⟨rfl, o9⟩
          have o10 := o9.thenE (by assumption)
          refine RetVC.one rfl ?_
          refine ⟨congrArg Value.bool ?_, Own.sel (by assumption) [] rfl⟩
          unfold opB
          exact decide_eq_decide.2 (by omega)
        · refine Br.tt ?_
          refine StillVC.run (StillVC.idxN sl59 ty63 hN rfl (by omega) (by omega) ?_)
          refine StillVC.run (StillVC.loadON oh 2 rfl ty63 rfl rfl rfl ?_)
          (refine RunVC.alloc oh ty63 ?_; intro b117 m117 o117)
          (refine RunVC.storeL o117 3 rfl ty63 rfl (by decide) (And.intro ⟨rfl, rfl⟩ ?_); intro m118 o118)
          refine StillVC.run (StillVC.fieldAddr st63 rfl rfl rfl ?_)
          refine StillVC.run (StillVC.loadO o118 3 rfl ty3 rfl rfl ?_)
          refine Br.dec (fun hc => absurd hc (by omega)) (fun c121 => ?_)
          refine Ar.i64 (by omega) (by omega) ?_
          refine ⟨rfl, ?_⟩
          exact ⟨⟨1, rfl, by omega, Own.sel (by assumption) [0, 1, 2] rfl⟩, by simp⟩
      · have hp : cmpL[((1 : Nat) : Int).toNat]? = some (2, 55) := rfl
        by_cases hop : op = 2
        · refine Br.tt ?_
          refine StillVC.run (StillVC.idxN sl59 ty63 hN rfl (by omega) (by omega) ?_)
          refine StillVC.run (StillVC.loadON oh 2 rfl ty63 rfl rfl rfl ?_)
          (refine RunVC.alloc oh ty63 ?_; intro b132 m132 o132)
          (refine RunVC.storeL o132 3 rfl ty63 rfl (by decide) (And.intro ⟨rfl, rfl⟩ ?_); intro m133 o133)
          refine StillVC.run (StillVC.fieldAddr st63 rfl rfl rfl ?_)
          refine StillVC.run (StillVC.loadO o133 3 rfl ty3 rfl rfl ?_)
          refine Br.dec (fun c136 => ?_) (fun hc => absurd (by omega) hc)
          refine RegVC.plain ?_
          refine StillVC.run (StillVC.fieldAddr st63 rfl rfl rfl ?_)
          refine StillVC.run (StillVC.loadO o133 3 rfl ty61 rfl rfl ?_)
          refine CallVC.ret (cmp2_spec (cmpI (n - n') add) _) ?_
          rintro _ h9 ⟨rfl, o9⟩
          have o10 := o9.thenE (by assumption)
          refine RetVC.one rfl ?_
          refine ⟨congrArg Value.bool ?_, Own.sel (by assumption) [] rfl⟩
          unfold opB
          exact decide_eq_decide.2 (by omega)
        · refine Br.tt ?_
          refine StillVC.run (StillVC.idxN sl59 ty63 hN rfl (by omega) (by omega) ?_)
          refine StillVC.run (StillVC.loadON oh 2 rfl ty63 rfl rfl rfl ?_)
          (refine RunVC.alloc oh ty63 ?_; intro b147 m147 o147)
          (refine RunVC.storeL o147 3 rfl ty63 rfl (by decide) (And.intro ⟨rfl, rfl⟩ ?_); intro m148 o148)
          refine StillVC.run (StillVC.fieldAddr st63 rfl rfl rfl ?_)
          refine StillVC.run (StillVC.loadO o148 3 rfl ty3 rfl rfl ?_)
          refine Br.dec (fun hc => absurd hc (by omega)) (fun c151 => ?_)
          refine Ar.i64 (by omega) (by omega) ?_
          refine ⟨rfl, ?_⟩
          exact ⟨⟨2, rfl, by omega, Own.sel (by assumption) [0, 1, 2] rfl⟩, by simp⟩
      · have hp : cmpL[((2 : Nat) : Int).toNat]? = some (3, 56) := rfl
        by_cases hop : op = 3
        · refine Br.tt ?_
          refine StillVC.run (StillVC.idxN sl59 ty63 hN rfl (by omega) (by omega) ?_)
          refine StillVC.run (StillVC.loadON oh 2 rfl ty63 rfl rfl rfl ?_)
          (refine RunVC.alloc oh ty63 ?_; intro b162 m162 o162)
          (refine RunVC.storeL o162 3 rfl ty63 rfl (by decide) (And.intro ⟨rfl, rfl⟩ ?_); intro m163 o163)
          refine StillVC.run (StillVC.fieldAddr st63 rfl rfl rfl ?_)
          refine StillVC.run (StillVC.loadO o163 3 rfl ty3 rfl rfl ?_)
          refine Br.dec (fun c166 => ?_) (fun hc => absurd (by omega) hc)
          refine RegVC.plain ?_
          refine StillVC.run (StillVC.fieldAddr st63 rfl rfl rfl ?_)
          refine StillVC.run (StillVC.loadO o163 3 rfl ty61 rfl rfl ?_)
          refine CallVC.ret (cmp3_spec (cmpI (n - n') add) _) ?_
          rintro _ h9 ⟨rfl, o9⟩
          have o10 := o9.thenE (by assumption)
          refine RetVC.one rfl ?_
          refine ⟨congrArg Value.bool ?_, Own.sel (by assumption) [] rfl⟩
          unfold opB
          exact decide_eq_decide.2 (by omega)
        · refine Br.tt ?_
          refine StillVC.run (StillVC.idxN sl59 ty63 hN rfl (by omega) (by omega) ?_)
          refine StillVC.run (StillVC.loadON oh 2 rfl ty63 rfl rfl rfl ?_)
          (refine RunVC.alloc oh ty63 ?_; intro b177 m177 o177)
          (refine RunVC.storeL o177 3 rfl ty63 rfl (by decide) (And.intro ⟨rfl, rfl⟩ ?_); intro m178 o178)
          refine StillVC.run (StillVC.fieldAddr st63 rfl rfl rfl ?_)
          refine StillVC.run (StillVC.loadO o178 3 rfl ty3 rfl rfl ?_)
          refine Br.dec (fun hc => absurd hc (by omega)) (fun c181 => ?_)
          refine Ar.i64 (by omega) (by omega) ?_
          refine ⟨rfl, ?_⟩
          exact ⟨⟨3, rfl, by omega, Own.sel (by assumption) [0, 1, 2] rfl⟩, by simp⟩
      · have hp : cmpL[((3 : Nat) : Int).toNat]? = some (4, 57) := rfl
        by_cases hop : op = 4
        · refine Br.tt ?_
          refine StillVC.run (StillVC.idxN sl59 ty63 hN rfl (by omega) (by omega) ?_)
          refine StillVC.run (StillVC.loadON oh 2 rfl ty63 rfl rfl rfl ?_)
          (refine RunVC.alloc oh ty63 ?_; intro b192 m192 o192)
          (refine RunVC.storeL o192 3 rfl ty63 rfl (by decide) (And.intro ⟨rfl, rfl⟩ ?_); intro m193 o193)
          refine StillVC.run (StillVC.fieldAddr st63 rfl rfl rfl ?_)
          refine StillVC.run (StillVC.loadO o193 3 rfl ty3 rfl rfl ?_)
          refine Br.dec (fun c196 => ?_) (fun hc => absurd (by omega) hc)
          refine RegVC.plain ?_
          refine StillVC.run (StillVC.fieldAddr st63 rfl rfl rfl ?_)
          refine StillVC.run (StillVC.loadO o193 3 rfl ty61 rfl rfl ?_)
          refine CallVC.ret (cmp4_spec (cmpI (n - n') add) _) ?_
          rintro _ h9 ⟨rfl, o9⟩
          have o10 := o9.thenE (by assumption)
          refine RetVC.one rfl ?_
          refine ⟨congrArg Value.bool ?_, Own.sel (by assumption) [] rfl⟩
          unfold opB
          exact decide_eq_decide.2 (by omega)
        · refine Br.tt ?_
          refine StillVC.run (StillVC.idxN sl59 ty63 hN rfl (by omega) (by omega) ?_)
          refine StillVC.run (StillVC.loadON oh 2 rfl ty63 rfl rfl rfl ?_)
          (refine RunVC.alloc oh ty63 ?_; intro b207 m207 o207)
          (refine RunVC.storeL o207 3 rfl ty63 rfl (by decide) (And.intro ⟨rfl, rfl⟩ ?_); intro m208 o208)
          refine StillVC.run (StillVC.fieldAddr st63 rfl rfl rfl ?_)
          refine StillVC.run (StillVC.loadO o208 3 rfl ty3 rfl rfl ?_)
          refine Br.dec (fun hc => absurd hc (by omega)) (fun c211 => ?_)
          refine Ar.i64 (by omega) (by omega) ?_
          refine ⟨rfl, ?_⟩
          exact ⟨⟨4, rfl, by omega, Own.sel (by assumption) [0, 1, 2] rfl⟩, by simp⟩
      · refine Br.ff ?_
        refine RetVC.one rfl ?_
        refine ⟨congrArg Value.bool ?_, Own.sel (by assumption) [] rfl⟩
        unfold opB
        exact (decide_eq_false (by omega)).symm
  by_cases hk3 : k = 3
  · subst hk3
    rw [if_pos (.inr rfl)]
    refine Br.ff ?_
    refine StillVC.run (StillVC.fieldAddr st23 rfl rfl rfl ?_)
    refine StillVC.run (StillVC.loadO o2 0 rfl ty3 rfl rfl ?_)
    refine StillVC.run (StillVC.fieldAddr st23 rfl rfl rfl ?_)
    refine StillVC.run (StillVC.loadO o2 1 rfl ty3 rfl rfl ?_)
    refine Br.ff ?_
    refine StillVC.run (StillVC.fieldAddr st23 rfl rfl rfl ?_)
    refine StillVC.run (StillVC.loadO o2 0 rfl ty3 rfl rfl ?_)
    refine Br.ff ?_
    refine Br.tt ?_
    refine StillVC.run (StillVC.fieldAddr st23 rfl rfl rfl ?_)
    refine StillVC.run (StillVC.loadO o2 0 rfl ty3 rfl rfl ?_)
    refine StillVC.run (StillVC.fieldAddr st23 rfl rfl rfl ?_)
    refine StillVC.run (StillVC.loadO o2 1 rfl ty3 rfl rfl ?_)
    refine Ar.i64 (by omega) (by omega) ?_
    refine CallVC.ret (orderI_spec (n - n') add _) ?_
    rintro _ h3 ⟨rfl, oc3⟩
    have o3 : Own h [box b10 [.int .i64 3, .int .i64 n, .string ⟨⟨t⟩⟩] 23, box b11 [.int .i64 3, .int .i64 n', .string ⟨⟨t'⟩⟩] 23] h3 := oc3.thenE (by assumption)
    clear oc3
    refine CallVC.ret (comparisons_spec _) ?_
    rintro _ hc ⟨bc, rfl, occ⟩
    have oc : Own h [box b10 [.int .i64 3, .int .i64 n, .string ⟨⟨t⟩⟩] 23, box b11 [.int .i64 3, .int .i64 n', .string ⟨⟨t'⟩⟩] 23, box bc cmpCells 63] hc := Own.call (by assumption) occ
    refine StillVC.run (StillVC.lenV rfl sl59 ?_)
    refine LoopVC.intro [8, 11, 49, 50, 51, 52, 53, 54, 55, 56, 57, 58, 59, 60, 61] [49] (fun vs hh => ∃ q : Nat, vs = [.int .i64 q] ∧ (q = 0 ∨ q = 1 ∧ op ≠ 1 ∨ q = 2 ∧ op ≠ 1 ∧ op ≠ 2 ∨ q = 3 ∧ op ≠ 1 ∧ op ≠ 2 ∧ op ≠ 3 ∨ q = 4 ∧ op ≠ 1 ∧ op ≠ 2 ∧ op ≠ 3 ∧ op ≠ 4) ∧ Own h [box b10 [.int .i64 3, .int .i64 n, .string ⟨⟨t⟩⟩] 23, box b11 [.int .i64 3, .int .i64 n', .string ⟨⟨t'⟩⟩] 23, box bc cmpCells 63] hh) (fun vs _ => match vs with | [.int _ q] => 4 - q.toNat | _ => 0) ?_ ?_
    · exact ⟨0, rfl, .inl rfl, oc⟩
    · rintro vs junk hh ⟨q, rfl, hq, oh⟩
      have hN : ArrN 2 hh (.slice (some ⟨bc, 0, none⟩) 4 4) 4 (cmpL.flatMap cmpC) := oh.boxArrN 2 rfl rfl (by decide)
      rcases hq with rfl | ⟨rfl, q1⟩ | ⟨rfl, q1, q2⟩ | ⟨rfl, q1, q2, q3⟩ | ⟨rfl, q1, q2, q3, q4⟩
      · have hp : cmpL[((0 : Nat) : Int).toNat]? = some (1, 54) := rfl
        by_cases hop : op = 1
        · refine Br.tt ?_
          refine StillVC.run (StillVC.idxN sl59 ty63 hN rfl (by omega) (by omega) ?_)
          refine StillVC.run (StillVC.loadON oh 2 rfl ty63 rfl rfl rfl ?_)
          (refine RunVC.alloc oh ty63 ?_; intro b342 m342 o342)
          (refine RunVC.storeL o342 3 rfl ty63 rfl (by decide) (And.intro ⟨rfl, rfl⟩ ?_); intro m343 o343)
          refine StillVC.run (StillVC.fieldAddr st63 rfl rfl rfl ?_)
          refine StillVC.run (StillVC.loadO o343 3 rfl ty3 rfl rfl ?_)
          refine Br.dec (fun c346 => ?_) (fun hc => absurd (by omega) hc)
          refine RegVC.plain ?_
          refine StillVC.run (StillVC.fieldAddr st63 rfl rfl rfl ?_)
          refine StillVC.run (StillVC.loadO o343 3 rfl ty61 rfl rfl ?_)
          refine CallVC.ret (cmp1_spec (cmpI (n - n') add) _) ?_
          rintro _ h9 ⟨rfl, o9⟩
          have o10 := o9.thenE (by assumption)
          refine RetVC.one rfl ?_
          refine ⟨congrArg Value.bool ?_, Own.sel (by assumption) [] rfl⟩
          unfold opB
          exact decide_eq_decide.2 (by omega)
        · refine Br.tt ?_
          refine StillVC.run (StillVC.idxN sl59 ty63 hN rfl (by omega) (by omega) ?_)
          refine StillVC.run (StillVC.loadON oh 2 rfl ty63 rfl rfl rfl ?_)
          (refine RunVC.alloc oh ty63 ?_; intro b357 m357 o357)
          (refine RunVC.storeL o357 3 rfl ty63 rfl (by decide) (And.intro ⟨rfl, rfl⟩ ?_); intro m358 o358)
          refine StillVC.run (StillVC.fieldAddr st63 rfl rfl rfl ?_)
          refine StillVC.run (StillVC.loadO o358 3 rfl ty3 rfl rfl ?_)
          refine Br.dec (fun hc => absurd hc (by omega)) (fun c361 => ?_)
          refine Ar.i64 (by omega) (by omega) ?_
          refine ⟨rfl, ?_⟩
          exact ⟨⟨1, rfl, by omega, Own.sel (by assumption) [0, 1, 2] rfl⟩, by simp⟩
      · have hp : cmpL[((1 : Nat) : Int).toNat]? = some (2, 55) := rfl
        by_cases hop : op = 2
        · refine Br.tt ?_
          refine StillVC.run (StillVC.idxN sl59 ty63 hN rfl (by omega) (by omega) ?_)
          refine StillVC.run (StillVC.loadON oh 2 rfl ty63 rfl rfl rfl ?_)
          (refine RunVC.alloc oh ty63 ?_; intro b372 m372 o372)
          (refine RunVC.storeL o372 3 rfl ty63 rfl (by decide) (And.intro ⟨rfl, rfl⟩ ?_); intro m373 o373)
          refine StillVC.run (StillVC.fieldAddr st63 rfl rfl rfl ?_)
          refine StillVC.run (StillVC.loadO o373 3 rfl ty3 rfl rfl ?_)
          refine Br.dec (fun c376 => ?_) (fun hc => absurd (by omega) hc)
          refine RegVC.plain ?_
          refine StillVC.run (StillVC.fieldAddr st63 rfl rfl rfl ?_)
          refine StillVC.run (StillVC.loadO o373 3 rfl ty61 rfl rfl ?_)
          refine CallVC.ret (cmp2_spec (cmpI (n - n') add) _) ?_
          rintro _ h9 ⟨rfl, o9⟩
          have o10 := o9.thenE (by assumption)
          refine RetVC.one rfl ?_
          refine ⟨congrArg Value.bool ?_, Own.sel (by assumption) [] rfl⟩
          unfold opB
          exact decide_eq_decide.2 (by omega)
        · refine Br.tt ?_
          refine StillVC.run (StillVC.idxN sl59 ty63 hN rfl (by omega) (by omega) ?_)
          refine StillVC.run (StillVC.loadON oh 2 rfl ty63 rfl rfl rfl ?_)
          (refine RunVC.alloc oh ty63 ?_; intro b387 m387 o387)
          (refine RunVC.storeL o387 3 rfl ty63 rfl (by decide) (And.intro ⟨rfl, rfl⟩ ?_); intro m388 o388)
          refine StillVC.run (StillVC.fieldAddr st63 rfl rfl rfl ?_)
          refine StillVC.run (StillVC.loadO o388 3 rfl ty3 rfl rfl ?_)
          refine Br.dec (fun hc => absurd hc (by omega)) (fun c391 => ?_)
          refine Ar.i64 (by omega) (by omega) ?_
          refine ⟨rfl, ?_⟩
          exact ⟨⟨2, rfl, by omega, Own.sel (by assumption) [0, 1, 2] rfl⟩, by simp⟩
      · have hp : cmpL[((2 : Nat) : Int).toNat]? = some (3, 56) := rfl
        by_cases hop : op = 3
        · refine Br.tt ?_
          refine StillVC.run (StillVC.idxN sl59 ty63 hN rfl (by omega) (by omega) ?_)
          refine StillVC.run (StillVC.loadON oh 2 rfl ty63 rfl rfl rfl ?_)
          (refine RunVC.alloc oh ty63 ?_; intro b402 m402 o402)
          (refine RunVC.storeL o402 3 rfl ty63 rfl (by decide) (And.intro ⟨rfl, rfl⟩ ?_); intro m403 o403)
          refine StillVC.run (StillVC.fieldAddr st63 rfl rfl rfl ?_)
          refine StillVC.run (StillVC.loadO o403 3 rfl ty3 rfl rfl ?_)
          refine Br.dec (fun c406 => ?_) (fun hc => absurd (by omega) hc)
          refine RegVC.plain ?_
          refine StillVC.run (StillVC.fieldAddr st63 rfl rfl rfl ?_)
          refine StillVC.run (StillVC.loadO o403 3 rfl ty61 rfl rfl ?_)
          refine CallVC.ret (cmp3_spec (cmpI (n - n') add) _) ?_
          rintro _ h9 ⟨rfl, o9⟩
          have o10 := o9.thenE (by assumption)
          refine RetVC.one rfl ?_
          refine ⟨congrArg Value.bool ?_, Own.sel (by assumption) [] rfl⟩
          unfold opB
          exact decide_eq_decide.2 (by omega)
        · refine Br.tt ?_
          refine StillVC.run (StillVC.idxN sl59 ty63 hN rfl (by omega) (by omega) ?_)
          refine StillVC.run (StillVC.loadON oh 2 rfl ty63 rfl rfl rfl ?_)
          (refine RunVC.alloc oh ty63 ?_; intro b417 m417 o417)
          (refine RunVC.storeL o417 3 rfl ty63 rfl (by decide) (And.intro ⟨rfl, rfl⟩ ?_); intro m418 o418)
          refine StillVC.run (StillVC.fieldAddr st63 rfl rfl rfl ?_)
          refine StillVC.run (StillVC.loadO o418 3 rfl ty3 rfl rfl ?_)
          refine Br.dec (fun hc => absurd hc (by omega)) (fun c421 => ?_)
          refine Ar.i64 (by omega) (by omega) ?_
          refine ⟨rfl, ?_⟩
          exact ⟨⟨3, rfl, by omega, Own.sel (by assumption) [0, 1, 2] rfl⟩, by simp⟩
      · have hp : cmpL[((3 : Nat) : Int).toNat]? = some (4, 57) := rfl
        by_cases hop : op = 4
        · refine Br.tt ?_
          refine StillVC.run (StillVC.idxN sl59 ty63 hN rfl (by omega) (by omega) ?_)
          refine StillVC.run (StillVC.loadON oh 2 rfl ty63 rfl rfl rfl ?_)
          (refine RunVC.alloc oh ty63 ?_; intro b432 m432 o432)
          (refine RunVC.storeL o432 3 rfl ty63 rfl (by decide) (And.intro ⟨rfl, rfl⟩ ?_); intro m433 o433)
          refine StillVC.run (StillVC.fieldAddr st63 rfl rfl rfl ?_)
          refine StillVC.run (StillVC.loadO o433 3 rfl ty3 rfl rfl ?_)
          refine Br.dec (fun c436 => ?_) (fun hc => absurd (by omega) hc)
          refine RegVC.plain ?_
          refine StillVC.run (StillVC.fieldAddr st63 rfl rfl rfl ?_)
          refine StillVC.run (StillVC.loadO o433 3 rfl ty61 rfl rfl ?_)
          refine CallVC.ret (cmp4_spec (cmpI (n - n') add) _) ?_
          rintro _ h9 ⟨rfl, o9⟩
          have o10 := o9.thenE (by assumption)
          refine RetVC.one rfl ?_
          refine ⟨congrArg Value.bool ?_, Own.sel (by assumption) [] rfl⟩
          unfold opB
          exact decide_eq_decide.2 (by omega)
        · refine Br.tt ?_
          refine StillVC.run (StillVC.idxN sl59 ty63 hN rfl (by omega) (by omega) ?_)
          refine StillVC.run (StillVC.loadON oh 2 rfl ty63 rfl rfl rfl ?_)
          (refine RunVC.alloc oh ty63 ?_; intro b447 m447 o447)
          (refine RunVC.storeL o447 3 rfl ty63 rfl (by decide) (And.intro ⟨rfl, rfl⟩ ?_); intro m448 o448)
          refine StillVC.run (StillVC.fieldAddr st63 rfl rfl rfl ?_)
          refine StillVC.run (StillVC.loadO o448 3 rfl ty3 rfl rfl ?_)
          refine Br.dec (fun hc => absurd hc (by omega)) (fun c451 => ?_)
          refine Ar.i64 (by omega) (by omega) ?_
          refine ⟨rfl, ?_⟩
          exact ⟨⟨4, rfl, by omega, Own.sel (by assumption) [0, 1, 2] rfl⟩, by simp⟩
      · refine Br.ff ?_
        refine RetVC.one rfl ?_
        refine ⟨congrArg Value.bool ?_, Own.sel (by assumption) [] rfl⟩
        unfold opB
        exact (decide_eq_false (by omega)).symm
  rw [if_neg (by rintro (e | e); exact hk2 e; exact hk3 e)]
  by_cases hk14 : k = 1 ∨ k = 4
  case neg =>
    rw [if_neg (fun h => hk14 h.1)]
    have hk0 : k = 0 := by unfold validP at hv; omega
    subst hk0
    refine Br.ff ?_
    refine StillVC.run (StillVC.fieldAddr st23 rfl rfl rfl ?_)
    refine StillVC.run (StillVC.loadO o2 0 rfl ty3 rfl rfl ?_)
    refine StillVC.run (StillVC.fieldAddr st23 rfl rfl rfl ?_)
    refine StillVC.run (StillVC.loadO o2 1 rfl ty3 rfl rfl ?_)
    refine Br.ff ?_
    refine StillVC.run (StillVC.fieldAddr st23 rfl rfl rfl ?_)
    refine StillVC.run (StillVC.loadO o2 0 rfl ty3 rfl rfl ?_)
    refine Br.ff ?_
    refine Br.ff ?_
    refine Br.ff ?_
    refine Br.ff ?_
    refine RetVC.one rfl ?_
    exact ⟨rfl, Own.sel (by assumption) [] rfl⟩
  by_cases hadd : add = 0
  case neg =>
    rw [if_neg (fun h => hadd h.2)]
    rcases hk14 with rfl | rfl
    · refine Br.ff ?_
      refine StillVC.run (StillVC.fieldAddr st23 rfl rfl rfl ?_)
      refine StillVC.run (StillVC.loadO o2 0 rfl ty3 rfl rfl ?_)
      refine StillVC.run (StillVC.fieldAddr st23 rfl rfl rfl ?_)
      refine StillVC.run (StillVC.loadO o2 1 rfl ty3 rfl rfl ?_)
      refine Br.ff ?_
      refine StillVC.run (StillVC.fieldAddr st23 rfl rfl rfl ?_)
      refine StillVC.run (StillVC.loadO o2 0 rfl ty3 rfl rfl ?_)
      refine Br.ff ?_
      refine Br.ff ?_
      refine Br.tt ?_
      refine Br.tt ?_
      refine Br.ndec (fun c916 => ?_) (fun hc => absurd hc (by first | omega | assumption | decide | exact rfl))
      refine RetVC.one rfl ?_
      exact ⟨rfl, Own.sel (by assumption) [] rfl⟩
    · refine Br.ff ?_
      refine StillVC.run (StillVC.fieldAddr st23 rfl rfl rfl ?_)
      refine StillVC.run (StillVC.loadO o2 0 rfl ty3 rfl rfl ?_)
      refine StillVC.run (StillVC.fieldAddr st23 rfl rfl rfl ?_)
      refine StillVC.run (StillVC.loadO o2 1 rfl ty3 rfl rfl ?_)
      refine Br.ff ?_
      refine StillVC.run (StillVC.fieldAddr st23 rfl rfl rfl ?_)
      refine StillVC.run (StillVC.loadO o2 0 rfl ty3 rfl rfl ?_)
      refine Br.ff ?_
      refine Br.ff ?_
      refine Br.ff ?_
      refine Br.tt ?_
      refine Br.ndec (fun c936 => ?_) (fun hc => absurd hc (by first | omega | assumption | decide | exact rfl))
      refine RetVC.one rfl ?_
      exact ⟨rfl, Own.sel (by assumption) [] rfl⟩
  rw [if_pos ⟨hk14, hadd⟩]
  rcases hk14 with rfl | rfl
  · refine Br.ff ?_
    refine StillVC.run (StillVC.fieldAddr st23 rfl rfl rfl ?_)
    refine StillVC.run (StillVC.loadO o2 0 rfl ty3 rfl rfl ?_)
    refine StillVC.run (StillVC.fieldAddr st23 rfl rfl rfl ?_)
    refine StillVC.run (StillVC.loadO o2 1 rfl ty3 rfl rfl ?_)
    refine Br.ff ?_
    refine StillVC.run (StillVC.fieldAddr st23 rfl rfl rfl ?_)
    refine StillVC.run (StillVC.loadO o2 0 rfl ty3 rfl rfl ?_)
    refine Br.ff ?_
    refine Br.ff ?_
    refine Br.tt ?_
    refine Br.tt ?_
    refine Br.ndec (fun hc => absurd (by first | omega | assumption | decide | exact rfl) hc) (fun c506 => ?_)
    refine StillVC.run (StillVC.loadON o2 0 rfl ty23 rfl rfl rfl ?_)
    refine StillVC.run (StillVC.loadON o2 1 rfl ty23 rfl rfl rfl ?_)
    refine CallVC.ret (compare_spec 1 n t 1 n' t' _) ?_
    rintro _ h3 ⟨rfl, oc3⟩
    have o3 : Own h [box b10 [.int .i64 1, .int .i64 n, .string ⟨⟨t⟩⟩] 23, box b11 [.int .i64 1, .int .i64 n', .string ⟨⟨t'⟩⟩] 23] h3 := oc3.thenE (by assumption)
    clear oc3
    refine CallVC.ret (comparisons_spec _) ?_
    rintro _ hc ⟨bc, rfl, occ⟩
    have oc : Own h [box b10 [.int .i64 1, .int .i64 n, .string ⟨⟨t⟩⟩] 23, box b11 [.int .i64 1, .int .i64 n', .string ⟨⟨t'⟩⟩] 23, box bc cmpCells 63] hc := Own.call (by assumption) occ
    refine StillVC.run (StillVC.lenV rfl sl59 ?_)
    refine LoopVC.intro [8, 11, 49, 50, 51, 52, 53, 54, 55, 56, 57, 58, 59, 60, 61] [49] (fun vs hh => ∃ q : Nat, vs = [.int .i64 q] ∧ (q = 0 ∨ q = 1 ∧ op ≠ 1 ∨ q = 2 ∧ op ≠ 1 ∧ op ≠ 2 ∨ q = 3 ∧ op ≠ 1 ∧ op ≠ 2 ∧ op ≠ 3 ∨ q = 4 ∧ op ≠ 1 ∧ op ≠ 2 ∧ op ≠ 3 ∧ op ≠ 4) ∧ Own h [box b10 [.int .i64 1, .int .i64 n, .string ⟨⟨t⟩⟩] 23, box b11 [.int .i64 1, .int .i64 n', .string ⟨⟨t'⟩⟩] 23, box bc cmpCells 63] hh) (fun vs _ => match vs with | [.int _ q] => 4 - q.toNat | _ => 0) ?_ ?_
    · exact ⟨0, rfl, .inl rfl, oc⟩
    · rintro vs junk hh ⟨q, rfl, hq, oh⟩
      have hN : ArrN 2 hh (.slice (some ⟨bc, 0, none⟩) 4 4) 4 (cmpL.flatMap cmpC) := oh.boxArrN 2 rfl rfl (by decide)
      rcases hq with rfl | ⟨rfl, q1⟩ | ⟨rfl, q1, q2⟩ | ⟨rfl, q1, q2, q3⟩ | ⟨rfl, q1, q2, q3, q4⟩
      · have hp : cmpL[((0 : Nat) : Int).toNat]? = some (1, 54) := rfl
        by_cases hop : op = 1
        · refine Br.tt ?_
          refine StillVC.run (StillVC.idxN sl59 ty63 hN rfl (by omega) (by omega) ?_)
          refine StillVC.run (StillVC.loadON oh 2 rfl ty63 rfl rfl rfl ?_)
          (refine RunVC.alloc oh ty63 ?_; intro b542 m542 o542)
          (refine RunVC.storeL o542 3 rfl ty63 rfl (by decide) (And.intro ⟨rfl, rfl⟩ ?_); intro m543 o543)
          refine StillVC.run (StillVC.fieldAddr st63 rfl rfl rfl ?_)
          refine StillVC.run (StillVC.loadO o543 3 rfl ty3 rfl rfl ?_)
          refine Br.dec (fun c546 => ?_) (fun hc => absurd (by omega) hc)
          refine RegVC.plain ?_
          refine StillVC.run (StillVC.fieldAddr st63 rfl rfl rfl ?_)
          refine StillVC.run (StillVC.loadO o543 3 rfl ty61 rfl rfl ?_)
          refine CallVC.ret (cmp1_spec (cmpV 1 n t 1 n' t') _) ?_
          rintro _ h9 ⟨rfl, o9⟩
          have o10 := o9.thenE (by assumption)
          refine RetVC.one rfl ?_
          refine ⟨congrArg Value.bool ?_, Own.sel (by assumption) [] rfl⟩
          unfold opB
          exact decide_eq_decide.2 (by omega)
        · refine Br.tt ?_
          refine StillVC.run (StillVC.idxN sl59 ty63 hN rfl (by omega) (by omega) ?_)
          refine StillVC.run (StillVC.loadON oh 2 rfl ty63 rfl rfl rfl ?_)
          (refine RunVC.alloc oh ty63 ?_; intro b557 m557 o557)
          (refine RunVC.storeL o557 3 rfl ty63 rfl (by decide) (And.intro ⟨rfl, rfl⟩ ?_); intro m558 o558)
          refine StillVC.run (StillVC.fieldAddr st63 rfl rfl rfl ?_)
          refine StillVC.run (StillVC.loadO o558 3 rfl ty3 rfl rfl ?_)
          refine Br.dec (fun hc => absurd hc (by omega)) (fun c561 => ?_)
          refine Ar.i64 (by omega) (by omega) ?_
          refine ⟨rfl, ?_⟩
          exact ⟨⟨1, rfl, by omega, Own.sel (by assumption) [0, 1, 2] rfl⟩, by simp⟩
      · have hp : cmpL[((1 : Nat) : Int).toNat]? = some (2, 55) := rfl
        by_cases hop : op = 2
        · refine Br.tt ?_
          refine StillVC.run (StillVC.idxN sl59 ty63 hN rfl (by omega) (by omega) ?_)
          refine StillVC.run (StillVC.loadON oh 2 rfl ty63 rfl rfl rfl ?_)
          (refine RunVC.alloc oh ty63 ?_; intro b572 m572 o572)
          (refine RunVC.storeL o572 3 rfl ty63 rfl (by decide) (And.intro ⟨rfl, rfl⟩ ?_); intro m573 o573)
          refine StillVC.run (StillVC.fieldAddr st63 rfl rfl rfl ?_)
          refine StillVC.run (StillVC.loadO o573 3 rfl ty3 rfl rfl ?_)
          refine Br.dec (fun c576 => ?_) (fun hc => absurd (by omega) hc)
          refine RegVC.plain ?_
          refine StillVC.run (StillVC.fieldAddr st63 rfl rfl rfl ?_)
          refine StillVC.run (StillVC.loadO o573 3 rfl ty61 rfl rfl ?_)
          refine CallVC.ret (cmp2_spec (cmpV 1 n t 1 n' t') _) ?_
          rintro _ h9 ⟨rfl, o9⟩
          have o10 := o9.thenE (by assumption)
          refine RetVC.one rfl ?_
          refine ⟨congrArg Value.bool ?_, Own.sel (by assumption) [] rfl⟩
          unfold opB
          exact decide_eq_decide.2 (by omega)
        · refine Br.tt ?_
          refine StillVC.run (StillVC.idxN sl59 ty63 hN rfl (by omega) (by omega) ?_)
          refine StillVC.run (StillVC.loadON oh 2 rfl ty63 rfl rfl rfl ?_)
          (refine RunVC.alloc oh ty63 ?_; intro b587 m587 o587)
          (refine RunVC.storeL o587 3 rfl ty63 rfl (by decide) (And.intro ⟨rfl, rfl⟩ ?_); intro m588 o588)
          refine StillVC.run (StillVC.fieldAddr st63 rfl rfl rfl ?_)
          refine StillVC.run (StillVC.loadO o588 3 rfl ty3 rfl rfl ?_)
          refine Br.dec (fun hc => absurd hc (by omega)) (fun c591 => ?_)
          refine Ar.i64 (by omega) (by omega) ?_
          refine ⟨rfl, ?_⟩
          exact ⟨⟨2, rfl, by omega, Own.sel (by assumption) [0, 1, 2] rfl⟩, by simp⟩
      · have hp : cmpL[((2 : Nat) : Int).toNat]? = some (3, 56) := rfl
        by_cases hop : op = 3
        · refine Br.tt ?_
          refine StillVC.run (StillVC.idxN sl59 ty63 hN rfl (by omega) (by omega) ?_)
          refine StillVC.run (StillVC.loadON oh 2 rfl ty63 rfl rfl rfl ?_)
          (refine RunVC.alloc oh ty63 ?_; intro b602 m602 o602)
          (refine RunVC.storeL o602 3 rfl ty63 rfl (by decide) (And.intro ⟨rfl, rfl⟩ ?_); intro m603 o603)
          refine StillVC.run (StillVC.fieldAddr st63 rfl rfl rfl ?_)
          refine StillVC.run (StillVC.loadO o603 3 rfl ty3 rfl rfl ?_)
          refine Br.dec (fun c606 => ?_) (fun hc => absurd (by omega) hc)
          refine RegVC.plain ?_
          refine StillVC.run (StillVC.fieldAddr st63 rfl rfl rfl ?_)
          refine StillVC.run (StillVC.loadO o603 3 rfl ty61 rfl rfl ?_)
          refine CallVC.ret (cmp3_spec (cmpV 1 n t 1 n' t') _) ?_
          rintro _ h9 ⟨rfl, o9⟩
          have o10 := o9.thenE (by assumption)
          refine RetVC.one rfl ?_
          refine ⟨congrArg Value.bool ?_, Own.sel (by assumption) [] rfl⟩
          unfold opB
          exact decide_eq_decide.2 (by omega)
        · refine Br.tt ?_
          refine StillVC.run (StillVC.idxN sl59 ty63 hN rfl (by omega) (by omega) ?_)
          refine StillVC.run (StillVC.loadON oh 2 rfl ty63 rfl rfl rfl ?_)
          (refine RunVC.alloc oh ty63 ?_; intro b617 m617 o617)
          (refine RunVC.storeL o617 3 rfl ty63 rfl (by decide) (And.intro ⟨rfl, rfl⟩ ?_); intro m618 o618)
          refine StillVC.run (StillVC.fieldAddr st63 rfl rfl rfl ?_)
          refine StillVC.run (StillVC.loadO o618 3 rfl ty3 rfl rfl ?_)
          refine Br.dec (fun hc => absurd hc (by omega)) (fun c621 => ?_)
          refine Ar.i64 (by omega) (by omega) ?_
          refine ⟨rfl, ?_⟩
          exact ⟨⟨3, rfl, by omega, Own.sel (by assumption) [0, 1, 2] rfl⟩, by simp⟩
      · have hp : cmpL[((3 : Nat) : Int).toNat]? = some (4, 57) := rfl
        by_cases hop : op = 4
        · refine Br.tt ?_
          refine StillVC.run (StillVC.idxN sl59 ty63 hN rfl (by omega) (by omega) ?_)
          refine StillVC.run (StillVC.loadON oh 2 rfl ty63 rfl rfl rfl ?_)
          (refine RunVC.alloc oh ty63 ?_; intro b632 m632 o632)
          (refine RunVC.storeL o632 3 rfl ty63 rfl (by decide) (And.intro ⟨rfl, rfl⟩ ?_); intro m633 o633)
          refine StillVC.run (StillVC.fieldAddr st63 rfl rfl rfl ?_)
          refine StillVC.run (StillVC.loadO o633 3 rfl ty3 rfl rfl ?_)
          refine Br.dec (fun c636 => ?_) (fun hc => absurd (by omega) hc)
          refine RegVC.plain ?_
          refine StillVC.run (StillVC.fieldAddr st63 rfl rfl rfl ?_)
          refine StillVC.run (StillVC.loadO o633 3 rfl ty61 rfl rfl ?_)
          refine CallVC.ret (cmp4_spec (cmpV 1 n t 1 n' t') _) ?_
          rintro _ h9 ⟨rfl, o9⟩
          have o10 := o9.thenE (by assumption)
          refine RetVC.one rfl ?_
          refine ⟨congrArg Value.bool ?_, Own.sel (by assumption) [] rfl⟩
          unfold opB
          exact decide_eq_decide.2 (by omega)
        · refine Br.tt ?_
          refine StillVC.run (StillVC.idxN sl59 ty63 hN rfl (by omega) (by omega) ?_)
          refine StillVC.run (StillVC.loadON oh 2 rfl ty63 rfl rfl rfl ?_)
          (refine RunVC.alloc oh ty63 ?_; intro b647 m647 o647)
          (refine RunVC.storeL o647 3 rfl ty63 rfl (by decide) (And.intro ⟨rfl, rfl⟩ ?_); intro m648 o648)
          refine StillVC.run (StillVC.fieldAddr st63 rfl rfl rfl ?_)
          refine StillVC.run (StillVC.loadO o648 3 rfl ty3 rfl rfl ?_)
          refine Br.dec (fun hc => absurd hc (by omega)) (fun c651 => ?_)
          refine Ar.i64 (by omega) (by omega) ?_
          refine ⟨rfl, ?_⟩
          exact ⟨⟨4, rfl, by omega, Own.sel (by assumption) [0, 1, 2] rfl⟩, by simp⟩
      · refine Br.ff ?_
        refine RetVC.one rfl ?_
        refine ⟨congrArg Value.bool ?_, Own.sel (by assumption) [] rfl⟩
        unfold opB
        exact (decide_eq_false (by omega)).symm
  · refine Br.ff ?_
    refine StillVC.run (StillVC.fieldAddr st23 rfl rfl rfl ?_)
    refine StillVC.run (StillVC.loadO o2 0 rfl ty3 rfl rfl ?_)
    refine StillVC.run (StillVC.fieldAddr st23 rfl rfl rfl ?_)
    refine StillVC.run (StillVC.loadO o2 1 rfl ty3 rfl rfl ?_)
    refine Br.ff ?_
    refine StillVC.run (StillVC.fieldAddr st23 rfl rfl rfl ?_)
    refine StillVC.run (StillVC.loadO o2 0 rfl ty3 rfl rfl ?_)
    refine Br.ff ?_
    refine Br.ff ?_
    refine Br.ff ?_
    refine Br.tt ?_
    refine Br.ndec (fun hc => absurd (by first | omega | assumption | decide | exact rfl) hc) (fun c706 => ?_)
    refine StillVC.run (StillVC.loadON o2 0 rfl ty23 rfl rfl rfl ?_)
    refine StillVC.run (StillVC.loadON o2 1 rfl ty23 rfl rfl rfl ?_)
    refine CallVC.ret (compare_spec 4 n t 4 n' t' _) ?_
    rintro _ h3 ⟨rfl, oc3⟩
    have o3 : Own h [box b10 [.int .i64 4, .int .i64 n, .string ⟨⟨t⟩⟩] 23, box b11 [.int .i64 4, .int .i64 n', .string ⟨⟨t'⟩⟩] 23] h3 := oc3.thenE (by assumption)
    clear oc3
    refine CallVC.ret (comparisons_spec _) ?_
    rintro _ hc ⟨bc, rfl, occ⟩
    have oc : Own h [box b10 [.int .i64 4, .int .i64 n, .string ⟨⟨t⟩⟩] 23, box b11 [.int .i64 4, .int .i64 n', .string ⟨⟨t'⟩⟩] 23, box bc cmpCells 63] hc := Own.call (by assumption) occ
    refine StillVC.run (StillVC.lenV rfl sl59 ?_)
    refine LoopVC.intro [8, 11, 49, 50, 51, 52, 53, 54, 55, 56, 57, 58, 59, 60, 61] [49] (fun vs hh => ∃ q : Nat, vs = [.int .i64 q] ∧ (q = 0 ∨ q = 1 ∧ op ≠ 1 ∨ q = 2 ∧ op ≠ 1 ∧ op ≠ 2 ∨ q = 3 ∧ op ≠ 1 ∧ op ≠ 2 ∧ op ≠ 3 ∨ q = 4 ∧ op ≠ 1 ∧ op ≠ 2 ∧ op ≠ 3 ∧ op ≠ 4) ∧ Own h [box b10 [.int .i64 4, .int .i64 n, .string ⟨⟨t⟩⟩] 23, box b11 [.int .i64 4, .int .i64 n', .string ⟨⟨t'⟩⟩] 23, box bc cmpCells 63] hh) (fun vs _ => match vs with | [.int _ q] => 4 - q.toNat | _ => 0) ?_ ?_
    · exact ⟨0, rfl, .inl rfl, oc⟩
    · rintro vs junk hh ⟨q, rfl, hq, oh⟩
      have hN : ArrN 2 hh (.slice (some ⟨bc, 0, none⟩) 4 4) 4 (cmpL.flatMap cmpC) := oh.boxArrN 2 rfl rfl (by decide)
      rcases hq with rfl | ⟨rfl, q1⟩ | ⟨rfl, q1, q2⟩ | ⟨rfl, q1, q2, q3⟩ | ⟨rfl, q1, q2, q3, q4⟩
      · have hp : cmpL[((0 : Nat) : Int).toNat]? = some (1, 54) := rfl
        by_cases hop : op = 1
        · refine Br.tt ?_
          refine StillVC.run (StillVC.idxN sl59 ty63 hN rfl (by omega) (by omega) ?_)
          refine StillVC.run (StillVC.loadON oh 2 rfl ty63 rfl rfl rfl ?_)
          (refine RunVC.alloc oh ty63 ?_; intro b742 m742 o742)
          (refine RunVC.storeL o742 3 rfl ty63 rfl (by decide) (And.intro ⟨rfl, rfl⟩ ?_); intro m743 o743)
          refine StillVC.run (StillVC.fieldAddr st63 rfl rfl rfl ?_)
          refine StillVC.run (StillVC.loadO o743 3 rfl ty3 rfl rfl ?_)
          refine Br.dec (fun c746 => ?_) (fun hc => absurd (by omega) hc)
          refine RegVC.plain ?_
          refine StillVC.run (StillVC.fieldAddr st63 rfl rfl rfl ?_)
          refine StillVC.run (StillVC.loadO o743 3 rfl ty61 rfl rfl ?_)
          refine CallVC.ret (cmp1_spec (cmpV 4 n t 4 n' t') _) ?_
          rintro _ h9 ⟨rfl, o9⟩
          have o10 := o9.thenE (by assumption)
          refine RetVC.one rfl ?_
          refine ⟨congrArg Value.bool ?_, Own.sel (by assumption) [] rfl⟩
          unfold opB
          exact decide_eq_decide.2 (by omega)
        · refine Br.tt ?_
          refine StillVC.run (StillVC.idxN sl59 ty63 hN rfl (by omega) (by omega) ?_)
          refine StillVC.run (StillVC.loadON oh 2 rfl ty63 rfl rfl rfl ?_)
          (refine RunVC.alloc oh ty63 ?_; intro b757 m757 o757)
          (refine RunVC.storeL o757 3 rfl ty63 rfl (by decide) (And.intro ⟨rfl, rfl⟩ ?_); intro m758 o758)
          refine StillVC.run (StillVC.fieldAddr st63 rfl rfl rfl ?_)
          refine StillVC.run (StillVC.loadO o758 3 rfl ty3 rfl rfl ?_)
          refine Br.dec (fun hc => absurd hc (by omega)) (fun c761 => ?_)
          refine Ar.i64 (by omega) (by omega) ?_
          refine ⟨rfl, ?_⟩
          exact ⟨⟨1, rfl, by omega, Own.sel (by assumption) [0, 1, 2] rfl⟩, by simp⟩
      · have hp : cmpL[((1 : Nat) : Int).toNat]? = some (2, 55) := rfl
        by_cases hop : op = 2
        · refine Br.tt ?_
          refine StillVC.run (StillVC.idxN sl59 ty63 hN rfl (by omega) (by omega) ?_)
          refine StillVC.run (StillVC.loadON oh 2 rfl ty63 rfl rfl rfl ?_)
          (refine RunVC.alloc oh ty63 ?_; intro b772 m772 o772)
          (refine RunVC.storeL o772 3 rfl ty63 rfl (by decide) (And.intro ⟨rfl, rfl⟩ ?_); intro m773 o773)
          refine StillVC.run (StillVC.fieldAddr st63 rfl rfl rfl ?_)
          refine StillVC.run (StillVC.loadO o773 3 rfl ty3 rfl rfl ?_)
          refine Br.dec (fun c776 => ?_) (fun hc => absurd (by omega) hc)
          refine RegVC.plain ?_
          refine StillVC.run (StillVC.fieldAddr st63 rfl rfl rfl ?_)
          refine StillVC.run (StillVC.loadO o773 3 rfl ty61 rfl rfl ?_)
          refine CallVC.ret (cmp2_spec (cmpV 4 n t 4 n' t') _) ?_
          rintro _ h9 ⟨rfl, o9⟩
          have o10 := o9.thenE (by assumption)
          refine RetVC.one rfl ?_
          refine ⟨congrArg Value.bool ?_, Own.sel (by assumption) [] rfl⟩
          unfold opB
          exact decide_eq_decide.2 (by omega)
        · refine Br.tt ?_
          refine StillVC.run (StillVC.idxN sl59 ty63 hN rfl (by omega) (by omega) ?_)
          refine StillVC.run (StillVC.loadON oh 2 rfl ty63 rfl rfl rfl ?_)
          (refine RunVC.alloc oh ty63 ?_; intro b787 m787 o787)
          (refine RunVC.storeL o787 3 rfl ty63 rfl (by decide) (And.intro ⟨rfl, rfl⟩ ?_); intro m788 o788)
          refine StillVC.run (StillVC.fieldAddr st63 rfl rfl rfl ?_)
          refine StillVC.run (StillVC.loadO o788 3 rfl ty3 rfl rfl ?_)
          refine Br.dec (fun hc => absurd hc (by omega)) (fun c791 => ?_)
          refine Ar.i64 (by omega) (by omega) ?_
          refine ⟨rfl, ?_⟩
          exact ⟨⟨2, rfl, by omega, Own.sel (by assumption) [0, 1, 2] rfl⟩, by simp⟩
      · have hp : cmpL[((2 : Nat) : Int).toNat]? = some (3, 56) := rfl
        by_cases hop : op = 3
        · refine Br.tt ?_
          refine StillVC.run (StillVC.idxN sl59 ty63 hN rfl (by omega) (by omega) ?_)
          refine StillVC.run (StillVC.loadON oh 2 rfl ty63 rfl rfl rfl ?_)
          (refine RunVC.alloc oh ty63 ?_; intro b802 m802 o802)
          (refine RunVC.storeL o802 3 rfl ty63 rfl (by decide) (And.intro ⟨rfl, rfl⟩ ?_); intro m803 o803)
          refine StillVC.run (StillVC.fieldAddr st63 rfl rfl rfl ?_)
          refine StillVC.run (StillVC.loadO o803 3 rfl ty3 rfl rfl ?_)
          refine Br.dec (fun c806 => ?_) (fun hc => absurd (by omega) hc)
          refine RegVC.plain ?_
          refine StillVC.run (StillVC.fieldAddr st63 rfl rfl rfl ?_)
          refine StillVC.run (StillVC.loadO o803 3 rfl ty61 rfl rfl ?_)
          refine CallVC.ret (cmp3_spec (cmpV 4 n t 4 n' t') _) ?_
          rintro _ h9 ⟨rfl, o9⟩
          have o10 := o9.thenE (by assumption)
          refine RetVC.one rfl ?_
          refine ⟨congrArg Value.bool ?_, Own.sel (by assumption) [] rfl⟩
          unfold opB
          exact decide_eq_decide.2 (by omega)
        · refine Br.tt ?_
          refine StillVC.run (StillVC.idxN sl59 ty63 hN rfl (by omega) (by omega) ?_)
          refine StillVC.run (StillVC.loadON oh 2 rfl ty63 rfl rfl rfl ?_)
          (refine RunVC.alloc oh ty63 ?_; intro b817 m817 o817)
          (refine RunVC.storeL o817 3 rfl ty63 rfl (by decide) (And.intro ⟨rfl, rfl⟩ ?_); intro m818 o818)
          refine StillVC.run (StillVC.fieldAddr st63 rfl rfl rfl ?_)
          refine StillVC.run (StillVC.loadO o818 3 rfl ty3 rfl rfl ?_)
          refine Br.dec (fun hc => absurd hc (by omega)) (fun c821 => ?_)
          refine Ar.i64 (by omega) (by omega) ?_
          refine ⟨rfl, ?_⟩
          exact ⟨⟨3, rfl, by omega, Own.sel (by assumption) [0, 1, 2] rfl⟩, by simp⟩
      · have hp : cmpL[((3 : Nat) : Int).toNat]? = some (4, 57) := rfl
        by_cases hop : op = 4
        · refine Br.tt ?_
          refine StillVC.run (StillVC.idxN sl59 ty63 hN rfl (by omega) (by omega) ?_)
          refine StillVC.run (StillVC.loadON oh 2 rfl ty63 rfl rfl rfl ?_)
          (refine RunVC.alloc oh ty63 ?_; intro b832 m832 o832)
          (refine RunVC.storeL o832 3 rfl ty63 rfl (by decide) (And.intro ⟨rfl, rfl⟩ ?_); intro m833 o833)
          refine StillVC.run (StillVC.fieldAddr st63 rfl rfl rfl ?_)
          refine StillVC.run (StillVC.loadO o833 3 rfl ty3 rfl rfl ?_)
          refine Br.dec (fun c836 => ?_) (fun hc => absurd (by omega) hc)
          refine RegVC.plain ?_
          refine StillVC.run (StillVC.fieldAddr st63 rfl rfl rfl ?_)
          refine StillVC.run (StillVC.loadO o833 3 rfl ty61 rfl rfl ?_)
          refine CallVC.ret (cmp4_spec (cmpV 4 n t 4 n' t') _) ?_
          rintro _ h9 ⟨rfl, o9⟩
          have o10 := o9.thenE (by assumption)
          refine RetVC.one rfl ?_
          refine ⟨congrArg Value.bool ?_, Own.sel (by assumption) [] rfl⟩
          unfold opB
          exact decide_eq_decide.2 (by omega)
        · refine Br.tt ?_
          refine StillVC.run (StillVC.idxN sl59 ty63 hN rfl (by omega) (by omega) ?_)
          refine StillVC.run (StillVC.loadON oh 2 rfl ty63 rfl rfl rfl ?_)
          (refine RunVC.alloc oh ty63 ?_; intro b847 m847 o847)
          (refine RunVC.storeL o847 3 rfl ty63 rfl (by decide) (And.intro ⟨rfl, rfl⟩ ?_); intro m848 o848)
          refine StillVC.run (StillVC.fieldAddr st63 rfl rfl rfl ?_)
          refine StillVC.run (StillVC.loadO o848 3 rfl ty3 rfl rfl ?_)
          refine Br.dec (fun hc => absurd hc (by omega)) (fun c851 => ?_)
          refine Ar.i64 (by omega) (by omega) ?_
          refine ⟨rfl, ?_⟩
          exact ⟨⟨4, rfl, by omega, Own.sel (by assumption) [0, 1, 2] rfl⟩, by simp⟩
      · refine Br.ff ?_
        refine RetVC.one rfl ?_
        refine ⟨congrArg Value.bool ?_, Own.sel (by assumption) [] rfl⟩
        unfold opB
        exact (decide_eq_false (by omega)).symm

end Go.Proofs.YtffpaippmfafjaaGreatDoor
