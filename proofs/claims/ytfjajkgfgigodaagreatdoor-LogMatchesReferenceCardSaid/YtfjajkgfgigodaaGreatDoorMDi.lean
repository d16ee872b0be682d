/-
  The disk: its functions' walks, the small ones. The disk: its functions' walks, those that store. The disk: rot and stale sectors. The disk: writes that settle. The disk: a failure of the power. The disk: its alarm. The disk: Sync. The disk: Rot where nothing happens. The disk: sectors behind one another, and as a list. The disk as one item of memory, and its functions on it: those that are walked already. The disk: Rot, and Write. The disk: Read, and New. The disk: New.
-/
import Derived.Test.YtfjajkgfgigodaaGreatDoorStructs
import Derived.Test.YtfjajkgfgigodaaGreatDoorMPl
import Derived.Test.YtfjajkgfgigodaaGreatDoorVcSep
import Derived.Test.YtfjajkgfgigodaaGreatDoorVcFork
/- The disk: its functions' walks, the small ones. -/
namespace Go.Proofs.YtfjajkgfgigodaaGreatDoor
open Go

/-- A sector's place. -/
def spotC (i : Int) : List Value := [.int .i64 (i * 64), .int .i64 ((i + 1) * 64)]

def inD (N : Nat) (i : Int) : Prop := 0 ≤ i ∧ i < N

instance (N : Nat) (i : Int) : Decidable (inD N i) := inferInstanceAs (Decidable (_ ∧ _))

set_option maxHeartbeats 4000000 in
set_option maxRecDepth 100000 in
theorem place_spec (dp N : Nat) (sv : Value) (S : List UInt8) (h : Heap) (i : Int) (h0 : cellAt h ⟨dp, 0, none⟩ = some sv) (hA : Arr h sv (bytes S)) (hl : S.length = 64 * N) (hN : N ≤ 4000) :
    SpecR Tryz.prog 60 [.pointer (some ⟨dp, 0, none⟩), .int .i64 i] h fun v h' => v = (if inD N i then .tuple #[.agg ⟨[.int .i64 (i * 64), .int .i64 ((i + 1) * 64)]⟩, .bool true] else .tuple #[.agg ⟨[.int .i64 0, .int .i64 0]⟩, .bool false]) ∧ Own h [] h' := by
  refine Spec.enter Tryz.func60 rfl Tryz.ntmps60 (by kernel_rfl) ?_
  have o0 := Own.refl h
  have hsl : (bytes S).length = 64 * N := by simp [hl]
  (refine RunVC.alloc o0 ty65 ?_; intro b80 m80 o80)
  refine RunVC.eqP (by kernel_rfl) rfl rfl ?_
  refine Br.ff ?_
  refine Br.dec (fun c82 => ?_) (fun c82 => ?_)
  refine Br.tt ?_
  refine StillVC.run (StillVC.buildK st65 ?_)
  (refine RunVC.storeL o80 0 rfl ty65 rfl (by decide) (And.intro ⟨rfl, rfl⟩ ?_); intro m84 o84)
  first | refine RetVC.cell2 rfl o84 0 rfl ty65 rfl rfl ?_ | refine RetVC.cell1 rfl o84 0 rfl ty65 rfl rfl ?_ | refine RetVC.cellTT rfl o84 0 rfl ty65 rfl rfl ?_
  rotate_left
  refine StillVC.run (StillVC.nilCheck rfl ?_)
  refine StillVC.run (StillVC.fieldAddr st63 rfl rfl rfl ?_)
  refine StillVC.run (StillVC.load1 ty59 rfl (o80.old h0) ?_)
  refine StillVC.run (StillVC.lenAn (hA.ext o80.ext) (by assumption) sl59 ?_)
  refine StillVC.run (StillVC.quoE rfl rfl (by omega) (by omega) (by simp [IntKind.max, IntKind.signed, IntKind.bits] <;> omega) ?_)
  refine Br.dec (fun c90 => ?_) (fun c90 => ?_)
  refine StillVC.run (StillVC.buildK st65 ?_)
  (refine RunVC.storeL o80 0 rfl ty65 rfl (by decide) (And.intro ⟨rfl, rfl⟩ ?_); intro m92 o92)
  first | refine RetVC.cell2 rfl o92 0 rfl ty65 rfl rfl ?_ | refine RetVC.cell1 rfl o92 0 rfl ty65 rfl rfl ?_ | refine RetVC.cellTT rfl o92 0 rfl ty65 rfl rfl ?_
  rotate_left
  refine Ar.i64 (by omega) (by omega) ?_
  refine Ar.i64 (by omega) (by omega) ?_
  refine Ar.i64 (by omega) (by omega) ?_
  refine StillVC.run (StillVC.buildK st65 ?_)
  refine And.intro rfl ?_
  refine And.intro rfl ?_
  (refine RunVC.storeL o80 0 rfl ty65 rfl (by decide) (And.intro ⟨rfl, rfl⟩ ?_); intro m94 o94)
  first | refine RetVC.cell2 rfl o94 0 rfl ty65 rfl rfl ?_ | refine RetVC.cell1 rfl o94 0 rfl ty65 rfl rfl ?_ | refine RetVC.cellTT rfl o94 0 rfl ty65 rfl rfl ?_
  · exact ⟨by rw [if_pos ⟨by omega, by omega⟩], Own.sel (by assumption) [] rfl⟩
  · exact ⟨by rw [if_neg fun hx => by have := hx.1; have := hx.2; omega], Own.sel (by assumption) [] rfl⟩
  · exact ⟨by rw [if_neg fun hx => by have := hx.1; have := hx.2; omega], Own.sel (by assumption) [] rfl⟩

set_option maxHeartbeats 4000000 in
set_option maxRecDepth 100000 in
theorem at_spec (dp N : Nat) (sv : Value) (off : Bool) (S : List UInt8) (h : Heap) (i : Int) (h0 : cellAt h ⟨dp, 0, none⟩ = some sv) (h3 : cellAt h ⟨dp, 3, none⟩ = some (.bool off)) (hA : Arr h sv (bytes S)) (hl : S.length = 64 * N) (hN : N ≤ 4000) :
    SpecR Tryz.prog 43 [.pointer (some ⟨dp, 0, none⟩), .int .i64 i] h fun v h' => v = (if off = true then .tuple #[.agg ⟨[.int .i64 0, .int .i64 0]⟩, .int .i64 19] else if inD N i then .tuple #[.agg ⟨[.int .i64 (i * 64), .int .i64 ((i + 1) * 64)]⟩, .int .i64 0] else .tuple #[.agg ⟨[.int .i64 0, .int .i64 0]⟩, .int .i64 1]) ∧ Own h [] h' := by
  refine Spec.enter Tryz.func43 rfl Tryz.ntmps43 (by kernel_rfl) ?_
  have o0 := Own.refl h
  cases off with
  | true =>
    (refine RunVC.alloc o0 ty65 ?_; intro b80 m80 o80)
    refine RunVC.neP (by kernel_rfl) rfl rfl ?_
    refine Br.ttE (by first | omega | (simp; done)) ?_
    refine StillVC.run (StillVC.nilCheck rfl ?_)
    refine StillVC.run (StillVC.fieldAddr st63 rfl rfl rfl ?_)
    refine StillVC.run (StillVC.load1 ty4 rfl (o80.old h3) ?_)
    refine Br.tt ?_
    refine StillVC.run (StillVC.buildK st65 ?_)
    (refine RunVC.storeL o80 0 rfl ty65 rfl (by decide) (And.intro ⟨rfl, rfl⟩ ?_); intro m87 o87)
    first | refine RetVC.cell2 rfl o87 0 rfl ty65 rfl rfl ?_ | refine RetVC.cell1 rfl o87 0 rfl ty65 rfl rfl ?_ | refine RetVC.cellTT rfl o87 0 rfl ty65 rfl rfl ?_
    exact ⟨by rw [if_pos rfl], Own.sel (by assumption) [] rfl⟩
  | false =>
    by_cases hi : inD N i
    · (refine RunVC.alloc o0 ty65 ?_; intro b80 m80 o80)
      refine RunVC.neP (by kernel_rfl) rfl rfl ?_
      refine Br.ttE (by first | omega | (simp; done)) ?_
      refine StillVC.run (StillVC.nilCheck rfl ?_)
      refine StillVC.run (StillVC.fieldAddr st63 rfl rfl rfl ?_)
      refine StillVC.run (StillVC.load1 ty4 rfl (o80.old h3) ?_)
      refine Br.ff ?_
      refine CallVC.ret (place_spec dp N sv S _ i (o80.ext.cell h0) (hA.ext o80.ext) hl hN) ?_
      rw [if_pos hi]
      rintro _ h2 ⟨rfl, oc⟩
      have o2 := o80.ext' oc
      (refine RunVC.alloc o2 ty65 ?_; intro b90 m90 o90)
      (refine RunVC.storeL o90 1 rfl ty65 rfl (by decide) (And.intro ⟨rfl, rfl⟩ ?_); intro m91 o91)
      refine Br.ff ?_
      refine StillVC.run (StillVC.loadON o91 1 rfl ty65 rfl rfl rfl ?_)
      (refine RunVC.storeL o91 0 rfl ty65 rfl (by decide) (And.intro ⟨rfl, rfl⟩ ?_); intro m93 o93)
      first | refine RetVC.cell2 rfl o93 0 rfl ty65 rfl rfl ?_ | refine RetVC.cell1 rfl o93 0 rfl ty65 rfl rfl ?_ | refine RetVC.cellTT rfl o93 0 rfl ty65 rfl rfl ?_
      exact ⟨by rw [if_neg (by decide), if_pos hi], Own.sel (by assumption) [] rfl⟩
    · (refine RunVC.alloc o0 ty65 ?_; intro b80 m80 o80)
      refine RunVC.neP (by kernel_rfl) rfl rfl ?_
      refine Br.ttE (by first | omega | (simp; done)) ?_
      refine StillVC.run (StillVC.nilCheck rfl ?_)
      refine StillVC.run (StillVC.fieldAddr st63 rfl rfl rfl ?_)
      refine StillVC.run (StillVC.load1 ty4 rfl (o80.old h3) ?_)
      refine Br.ff ?_
      refine CallVC.ret (place_spec dp N sv S _ i (o80.ext.cell h0) (hA.ext o80.ext) hl hN) ?_
      rw [if_neg hi]
      rintro _ h2 ⟨rfl, oc⟩
      have o2 := o80.ext' oc
      (refine RunVC.alloc o2 ty65 ?_; intro b90 m90 o90)
      (refine RunVC.storeL o90 1 rfl ty65 rfl (by decide) (And.intro ⟨rfl, rfl⟩ ?_); intro m91 o91)
      refine Br.tt ?_
      refine StillVC.run (StillVC.buildK st65 ?_)
      (refine RunVC.storeL o91 0 rfl ty65 rfl (by decide) (And.intro ⟨rfl, rfl⟩ ?_); intro m93 o93)
      first | refine RetVC.cell2 rfl o93 0 rfl ty65 rfl rfl ?_ | refine RetVC.cell1 rfl o93 0 rfl ty65 rfl rfl ?_ | refine RetVC.cellTT rfl o93 0 rfl ty65 rfl rfl ?_
      exact ⟨by rw [if_neg (by decide), if_neg hi], Own.sel (by assumption) [] rfl⟩

end Go.Proofs.YtfjajkgfgigodaaGreatDoor

/- The disk: its functions' walks, those that store. -/
namespace Go.Proofs.YtfjajkgfgigodaaGreatDoor
open Go

/-- A list with some places replaced. -/
def putAt (l : List UInt8) (k : Nat) (t : List UInt8) : List UInt8 := l.take k ++ t ++ l.drop (k + t.length)

/-- The disk's memory: its sectors, and what they held before. -/
abbrev DB (dp sb eb N : Nat) (qv av : Value) (off : Bool) (S E : List UInt8) : List Item := [box dp [.slice (some ⟨sb, 0, none⟩) (64 * N) (64 * N), .slice (some ⟨eb, 0, none⟩) (64 * N) (64 * N), qv, .bool off, av] 63, box sb (bytes S) 5, box eb (bytes E) 5]

set_option maxHeartbeats 4000000 in
set_option maxRecDepth 100000 in
theorem set_spec (B : Base) (dp sb eb N k : Nat) (qv av : Value) (off : Bool) (S E t : List UInt8) (h : Heap)
    (o : Own B (DB dp sb eb N qv av off S E) h) (hS : S.length = 64 * N) (hE : E.length = 64 * N) (_hN : N ≤ 4000) (hk : k < N) (ht : t.length ≤ 64) :
    SpecR Tryz.prog 62 [.pointer (some ⟨dp, 0, none⟩), .agg ⟨[.int .i64 ((k : Int) * 64), .int .i64 (((k : Int) + 1) * 64)]⟩, .string ⟨⟨t⟩⟩] h fun v h' => v = .tuple #[] ∧
      Own B (DB dp sb eb N qv av off (putAt S (k * 64) t) (putAt E (k * 64) ((S.drop (k * 64)).take 64))) h' := by
  unfold DB at o ⊢
  refine Spec.enter Tryz.func62 rfl Tryz.ntmps62 (by kernel_rfl) ?_
  have hsl : (bytes S).length = 64 * N := by simp [hS]
  have hel : (bytes E).length = 64 * N := by simp [hE]
  (refine RunVC.boxO o rfl ?_; intro b80 m80 o80)
  refine DrawVC.intro [0, 1, 2, 4, 6, 8, 9, 10, 11, 13, 15, 17] [3, 5, 7, 12, 14, 16] [18] [0, 1, 2, 3, 4, 5, 6, 7, 8, 9, 10, 11, 12, 13, 14, 15, 16, 17, 18] mixed (by kernel_rfl) rfl (fun _ _ _ _ h => h) ?_
  refine StillVC.nilCheck rfl ?_
  refine StillVC.fieldAddr st63 rfl rfl rfl ?_
  refine StillVC.loadO o80 0 rfl ty59 rfl rfl ?_
  refine StillVC.fieldAddr st65 rfl rfl rfl ?_
  refine StillVC.loadO o80 3 rfl ty3 rfl rfl ?_
  refine StillVC.fieldAddr st65 rfl rfl rfl ?_
  refine StillVC.loadO o80 3 rfl ty3 rfl rfl ?_
  refine StillVC.sliceLHC (k * 64) (k * 64 + 64) 64 (64 * N - k * 64) sl59 ty5 rfl rfl rfl (by omega) (by omega) (by omega) (by omega) (by omega) (by omega) (by omega) ?_
  refine StillVC.nilCheck rfl ?_
  refine StillVC.fieldAddr st63 rfl rfl rfl ?_
  refine StillVC.loadO o80 0 rfl ty59 rfl rfl ?_
  refine StillVC.fieldAddr st65 rfl rfl rfl ?_
  refine StillVC.loadO o80 3 rfl ty3 rfl rfl ?_
  refine StillVC.fieldAddr st65 rfl rfl rfl ?_
  refine StillVC.loadO o80 3 rfl ty3 rfl rfl ?_
  refine StillVC.sliceLHC (k * 64) (k * 64 + 64) 64 (64 * N - k * 64) sl59 ty5 rfl rfl rfl (by omega) (by omega) (by omega) (by omega) (by omega) (by omega) (by omega) ?_
  have hA := o80.boxArrAt 1 rfl (off := k * 64) (n := 64) (c := 64 * N - k * 64) (by omega) (by omega)
  have hAl : (((bytes S).drop (k * 64)).take 64).length = 64 := by simp [hS]; omega
  refine RunVC.copyB o80 2 rfl sl59 ty5 rfl hA (by omega) (by omega) (by omega) ?_ ?_
  · intro u hu
    have hu := List.mem_of_mem_drop (List.mem_of_mem_take hu)
    obtain ⟨c, _, rfl⟩ := List.mem_map.1 hu
    rfl
  intro h1 o1
  refine DrawVC.intro [0, 1, 2, 4, 6, 8, 9] [3, 5, 7] [10] [0, 1, 2, 3, 4, 5, 6, 7, 8, 9, 10] mixed (by kernel_rfl) rfl (fun _ _ _ _ h => h) ?_
  refine StillVC.nilCheck rfl ?_
  refine StillVC.fieldAddr st63 rfl rfl rfl ?_
  refine StillVC.loadO o1 0 rfl ty59 rfl rfl ?_
  refine StillVC.fieldAddr st65 rfl rfl rfl ?_
  refine StillVC.loadO o1 3 rfl ty3 rfl rfl ?_
  refine StillVC.fieldAddr st65 rfl rfl rfl ?_
  refine StillVC.loadO o1 3 rfl ty3 rfl rfl ?_
  refine StillVC.sliceLHC (k * 64) (k * 64 + 64) 64 (64 * N - k * 64) sl59 ty5 rfl rfl rfl (by omega) (by omega) (by omega) (by omega) (by omega) (by omega) (by omega) ?_
  refine RunVC.copyBS o1 1 rfl sl59 ty5 rfl rfl (by omega) (by omega) ?_
  intro h2 o2
  refine RetVC.zero rfl ?_
  have p1 : bytes (putAt S (k * 64) t) = List.take (k * 64) (bytes S) ++ bytes t ++ List.drop (k * 64 + t.length) (bytes S) := by simp [putAt]
  have p2 : bytes (putAt E (k * 64) ((S.drop (k * 64)).take 64)) = List.take (k * 64) (bytes E) ++ List.take 64 (List.drop (k * 64) (bytes S)) ++ List.drop (k * 64 + (List.take 64 (List.drop (k * 64) (bytes S))).length) (bytes E) := by simp [putAt]
  rw [p1, p2]
  exact ⟨rfl, Own.sel (by assumption) [0, 1, 2] rfl⟩

set_option maxHeartbeats 4000000 in
set_option maxRecDepth 100000 in
theorem start_spec (B : Base) (dp : Nat) (sv ev qv av : Value) (off : Bool) (h : Heap)
    (o : Own B [box dp [sv, ev, qv, .bool off, av] 63] h) :
    SpecR Tryz.prog 25 [.pointer (some ⟨dp, 0, none⟩)] h fun v h' => v = .tuple #[] ∧ Own B [box dp [sv, ev, qv, .bool false, .pointer none] 63] h' := by
  refine Spec.enter Tryz.func25 rfl Tryz.ntmps25 (by kernel_rfl) ?_
  refine RunVC.neP (by kernel_rfl) rfl rfl ?_
  refine Br.ttE (by first | omega | (simp; done)) ?_
  refine StillVC.run (StillVC.nilCheck rfl ?_)
  refine StillVC.run (StillVC.fieldAddr st63 rfl rfl rfl ?_)
  (refine RunVC.store o 0 rfl ty4 rfl (by simp) (And.intro ⟨rfl, rfl⟩ ?_); intro m84 o84)
  refine StillVC.run (StillVC.nilCheck rfl ?_)
  refine StillVC.run (StillVC.fieldAddr st63 rfl rfl rfl ?_)
  (refine RunVC.store o84 0 rfl ty61 rfl (by simp) (And.intro ⟨rfl, rfl⟩ ?_); intro m87 o87)
  refine RetVC.zero rfl ?_
  exact ⟨rfl, o87⟩

set_option maxHeartbeats 4000000 in
set_option maxRecDepth 100000 in
theorem arm_spec (B : Base) (dp : Nat) (sv ev qv av : Value) (off : Bool) (h : Heap) (a w b : Int)
    (o : Own B [box dp [sv, ev, qv, .bool off, av] 63] h) :
    SpecR Tryz.prog 29 [.pointer (some ⟨dp, 0, none⟩), .int .i64 a, .int .i64 w, .int .i64 b] h fun v h' => v = .tuple #[] ∧
      if off = true then Own B [box dp [sv, ev, qv, .bool off, av] 63] h' else if 0 ≤ a then ∃ ap, Own B [box dp [sv, ev, qv, .bool off, .pointer (some ⟨ap, 0, none⟩)] 63, box ap [.int .i64 a, .int .i64 w, .int .i64 b] 91] h' else Own B [box dp [sv, ev, qv, .bool off, .pointer none] 63] h' := by
  refine Spec.enter Tryz.func29 rfl Tryz.ntmps29 (by kernel_rfl) ?_
  cases off with
  | true =>
    refine RunVC.eqP (by kernel_rfl) rfl rfl ?_
    refine Br.ff ?_
    refine StillVC.run (StillVC.nilCheck rfl ?_)
    refine StillVC.run (StillVC.fieldAddr st63 rfl rfl rfl ?_)
    refine StillVC.run (StillVC.loadO o 0 rfl ty4 rfl rfl ?_)
    refine Br.tt ?_
    refine RetVC.zero rfl ?_
    exact ⟨rfl, by rw [if_pos rfl]; exact o⟩
  | false =>
    by_cases ha : 0 ≤ a
    · refine RunVC.eqP (by kernel_rfl) rfl rfl ?_
      refine Br.ff ?_
      refine StillVC.run (StillVC.nilCheck rfl ?_)
      refine StillVC.run (StillVC.fieldAddr st63 rfl rfl rfl ?_)
      refine StillVC.run (StillVC.loadO o 0 rfl ty4 rfl rfl ?_)
      refine Br.ff ?_
      refine StillVC.run (StillVC.nilCheck rfl ?_)
      refine StillVC.run (StillVC.fieldAddr st63 rfl rfl rfl ?_)
      (refine RunVC.store o 0 rfl ty61 rfl (by simp) (And.intro ⟨rfl, rfl⟩ ?_); intro m86 o86)
      refine Br.dec (fun c87 => ?_) (fun hc => absurd (by omega) hc)
      refine StillVC.run (StillVC.buildK st91 ?_)
      refine And.intro rfl ?_
      refine And.intro rfl ?_
      refine And.intro rfl ?_
      (refine RunVC.boxO o86 rfl ?_; intro b89 m89 o89)
      refine StillVC.run (StillVC.nilCheck rfl ?_)
      refine StillVC.run (StillVC.fieldAddr st63 rfl rfl rfl ?_)
      (refine RunVC.store o89 0 rfl ty61 rfl (by simp) (And.intro ⟨rfl, rfl⟩ ?_); intro m92 o92)
      refine RetVC.zero rfl ?_
      exact ⟨rfl, by rw [if_neg (by decide), if_pos ha]; exact ⟨_, o92⟩⟩
    · refine RunVC.eqP (by kernel_rfl) rfl rfl ?_
      refine Br.ff ?_
      refine StillVC.run (StillVC.nilCheck rfl ?_)
      refine StillVC.run (StillVC.fieldAddr st63 rfl rfl rfl ?_)
      refine StillVC.run (StillVC.loadO o 0 rfl ty4 rfl rfl ?_)
      refine Br.ff ?_
      refine StillVC.run (StillVC.nilCheck rfl ?_)
      refine StillVC.run (StillVC.fieldAddr st63 rfl rfl rfl ?_)
      (refine RunVC.store o 0 rfl ty61 rfl (by simp) (And.intro ⟨rfl, rfl⟩ ?_); intro m86 o86)
      refine Br.dec (fun hc => absurd hc (by omega)) (fun c87 => ?_)
      refine RetVC.zero rfl ?_
      exact ⟨rfl, by rw [if_neg (by decide), if_neg ha]; exact o86⟩

end Go.Proofs.YtfjajkgfgigodaaGreatDoor

/- The disk: rot and stale sectors. -/
namespace Go.Proofs.YtfjajkgfgigodaaGreatDoor
open Go

set_option maxHeartbeats 4000000 in
set_option maxRecDepth 100000 in
theorem stale_out (B : Base) (dp sb eb N : Nat) (i : Int) (qv av : Value) (off : Bool) (S E : List UInt8) (h : Heap)
    (o : Own B (DB dp sb eb N qv av off S E) h) (hS : S.length = 64 * N) (hE : E.length = 64 * N) (hN : N ≤ 4000) (hi : ¬ inD N i) :
    SpecR Tryz.prog 20 [.pointer (some ⟨dp, 0, none⟩), .int .i64 i] h fun v h' => v = .tuple #[] ∧ Own B (DB dp sb eb N qv av off S E) h' := by
  unfold DB at o ⊢
  refine Spec.enter Tryz.func20 rfl Tryz.ntmps20 (by kernel_rfl) ?_
  have hsl : (bytes S).length = 64 * N := by simp [hS]
  have hel : (bytes E).length = 64 * N := by simp [hE]
  refine CallVC.ret (place_spec dp N _ S _ i (o.cellB 0 rfl 0) (o.boxArr 1 rfl hsl (Nat.le_refl _)) hS hN) ?_
  rw [if_neg hi]
  rintro _ h2 ⟨rfl, oc⟩
  have o2 := o.ext' oc
  (refine RunVC.alloc o2 ty65 ?_; intro b90 m90 o90)
  (refine RunVC.storeL o90 3 rfl ty65 rfl (by decide) (And.intro ⟨rfl, rfl⟩ ?_); intro m91 o91)
  refine Br.ff ?_
  refine RetVC.zero rfl ?_
  exact ⟨rfl, Own.sel (by assumption) [0, 1, 2] rfl⟩

set_option maxHeartbeats 4000000 in
set_option maxRecDepth 100000 in
theorem stale_in (B : Base) (dp sb eb N k : Nat) (qv av : Value) (off : Bool) (S E : List UInt8) (h : Heap)
    (o : Own B (DB dp sb eb N qv av off S E) h) (hS : S.length = 64 * N) (hE : E.length = 64 * N) (hN : N ≤ 4000) (hk : k < N) :
    SpecR Tryz.prog 20 [.pointer (some ⟨dp, 0, none⟩), .int .i64 k] h fun v h' => v = .tuple #[] ∧ Own B (DB dp sb eb N qv av off (putAt S (k * 64) ((E.drop (k * 64)).take 64)) E) h' := by
  unfold DB at o ⊢
  refine Spec.enter Tryz.func20 rfl Tryz.ntmps20 (by kernel_rfl) ?_
  have hsl : (bytes S).length = 64 * N := by simp [hS]
  have hel : (bytes E).length = 64 * N := by simp [hE]
  refine CallVC.ret (place_spec dp N _ S _ k (o.cellB 0 rfl 0) (o.boxArr 1 rfl hsl (Nat.le_refl _)) hS hN) ?_
  rw [if_pos ⟨by omega, by omega⟩]
  rintro _ h2 ⟨rfl, oc⟩
  have o2 := o.ext' oc
  (refine RunVC.alloc o2 ty65 ?_; intro b90 m90 o90)
  (refine RunVC.storeL o90 3 rfl ty65 rfl (by decide) (And.intro ⟨rfl, rfl⟩ ?_); intro m91 o91)
  refine Br.tt ?_
  refine DrawVC.intro [0, 1, 2, 4, 6, 8, 9, 10, 11, 13, 15, 17] [3, 5, 7, 12, 14, 16] [18] [0, 1, 2, 3, 4, 5, 6, 7, 8, 9, 10, 11, 12, 13, 14, 15, 16, 17, 18] mixed (by kernel_rfl) rfl (fun _ _ _ _ h => h) ?_
  refine StillVC.nilCheck rfl ?_
  refine StillVC.fieldAddr st63 rfl rfl rfl ?_
  refine StillVC.loadO o91 0 rfl ty59 rfl rfl ?_
  refine StillVC.fieldAddr st65 rfl rfl rfl ?_
  refine StillVC.loadO o91 3 rfl ty3 rfl rfl ?_
  refine StillVC.fieldAddr st65 rfl rfl rfl ?_
  refine StillVC.loadO o91 3 rfl ty3 rfl rfl ?_
  refine StillVC.sliceLHC (k * 64) (k * 64 + 64) 64 (64 * N - k * 64) sl59 ty5 rfl rfl rfl (by omega) (by omega) (by omega) (by omega) (by omega) (by omega) (by omega) ?_
  refine StillVC.nilCheck rfl ?_
  refine StillVC.fieldAddr st63 rfl rfl rfl ?_
  refine StillVC.loadO o91 0 rfl ty59 rfl rfl ?_
  refine StillVC.fieldAddr st65 rfl rfl rfl ?_
  refine StillVC.loadO o91 3 rfl ty3 rfl rfl ?_
  refine StillVC.fieldAddr st65 rfl rfl rfl ?_
  refine StillVC.loadO o91 3 rfl ty3 rfl rfl ?_
  refine StillVC.sliceLHC (k * 64) (k * 64 + 64) 64 (64 * N - k * 64) sl59 ty5 rfl rfl rfl (by omega) (by omega) (by omega) (by omega) (by omega) (by omega) (by omega) ?_
  have hA := o91.boxArrAt 2 rfl (off := k * 64) (n := 64) (c := 64 * N - k * 64) (by omega) (by omega)
  have hAl : (((bytes E).drop (k * 64)).take 64).length = 64 := by simp [hE]; omega
  refine RunVC.copyB o91 1 rfl sl59 ty5 rfl hA (by omega) (by omega) (by omega) ?_ ?_
  · intro u hu
    have hu := List.mem_of_mem_drop (List.mem_of_mem_take hu)
    obtain ⟨c, _, rfl⟩ := List.mem_map.1 hu
    rfl
  intro h1 o1
  refine RetVC.zero rfl ?_
  have p2 : bytes (putAt S (k * 64) ((E.drop (k * 64)).take 64)) = List.take (k * 64) (bytes S) ++ List.take 64 (List.drop (k * 64) (bytes E)) ++ List.drop (k * 64 + (List.take 64 (List.drop (k * 64) (bytes E))).length) (bytes S) := by simp [putAt]
  rw [p2]
  exact ⟨rfl, Own.sel (by assumption) [0, 1, 2] rfl⟩

theorem xor_byte (x : UInt8) {m : Int} (h0 : 0 ≤ m) (h1 : m < 256) : bits .xor .u8 (x.toNat : Int) m = ((x ^^^ UInt8.ofNat m.toNat).toNat : Int) := by
  have hx := x.toNat_lt
  have e1 : (BitVec.ofInt 8 (x.toNat : Int)).toNat = x.toNat := by
    rw [BitVec.toNat_ofInt]; omega
  have e2 : (BitVec.ofInt 8 m).toNat = m.toNat := by
    rw [BitVec.toNat_ofInt]; omega
  have e4 : (BitVec.ofInt 8 (x.toNat : Int) ^^^ BitVec.ofInt 8 m).toNat = x.toNat ^^^ m.toNat := by rw [BitVec.toNat_xor, e1, e2]
  have e3 : (x ^^^ UInt8.ofNat m.toNat).toNat = x.toNat ^^^ m.toNat := by
    rw [UInt8.toNat_xor, UInt8.toNat_ofNat', Nat.mod_eq_of_lt (by omega)]
  have hl : x.toNat ^^^ m.toNat < 256 := by
    rw [← e3]; exact (x ^^^ UInt8.ofNat m.toNat).toNat_lt
  show IntKind.u8.wrap ((BitVec.ofInt 8 (x.toNat : Int) ^^^ BitVec.ofInt 8 m).toNat : Int) = _
  rw [e4, e3]
  simp only [IntKind.wrap, IntKind.bits, IntKind.signed]
  simp
  omega

set_option maxHeartbeats 4000000 in
set_option maxRecDepth 100000 in
theorem rot_in (B : Base) (dp sb eb N k a : Nat) (m : Int) (x : UInt8) (qv av : Value) (off : Bool) (S E : List UInt8) (h : Heap)
    (o : Own B (DB dp sb eb N qv av off S E) h) (hS : S.length = 64 * N) (hE : E.length = 64 * N) (hN : N ≤ 4000) (hk : k < N) (ha : a < 64) (hm : 0 < m) (hm2 : m < 256) (hx : S[k * 64 + a]? = some x) :
    SpecR Tryz.prog 21 [.pointer (some ⟨dp, 0, none⟩), .int .i64 k, .int .i64 a, .int .i64 m] h fun v h' => v = .tuple #[] ∧ Own B (DB dp sb eb N qv av off (S.set (k * 64 + a) (x ^^^ UInt8.ofNat m.toNat)) E) h' := by
  unfold DB at o ⊢
  refine Spec.enter Tryz.func21 rfl Tryz.ntmps21 (by kernel_rfl) ?_
  have hsl : (bytes S).length = 64 * N := by simp [hS]
  have hel : (bytes E).length = 64 * N := by simp [hE]
  refine CallVC.ret (place_spec dp N _ S _ k (o.cellB 0 rfl 0) (o.boxArr 1 rfl hsl (Nat.le_refl _)) hS hN) ?_
  rw [if_pos ⟨by omega, by omega⟩]
  rintro _ h2 ⟨rfl, oc⟩
  have o2 := o.ext' oc
  (refine RunVC.alloc o2 ty65 ?_; intro b90 m90 o90)
  (refine RunVC.storeL o90 3 rfl ty65 rfl (by decide) (And.intro ⟨rfl, rfl⟩ ?_); intro m91 o91)
  refine Br.tt ?_
  refine Br.dec (fun c92 => ?_) (fun hc => absurd (by omega) hc)
  refine Br.dec (fun c93 => ?_) (fun hc => absurd (by omega) hc)
  refine Br.dec (fun c94 => ?_) (fun hc => absurd (by omega) hc)
  refine Br.dec (fun c95 => ?_) (fun hc => absurd (by omega) hc)
  refine DrawVC.intro [0, 1, 2, 4, 6, 7, 8, 10, 11, 12, 13] [3, 5, 9] [14] [0, 1, 2, 3, 4, 5, 6, 7, 8, 9, 10, 11, 12, 13, 14] mixed (by kernel_rfl) rfl (fun _ _ _ _ h => h) ?_
  refine StillVC.nilCheck rfl ?_
  refine StillVC.fieldAddr st63 rfl rfl rfl ?_
  refine StillVC.loadO o91 0 rfl ty59 rfl rfl ?_
  refine StillVC.fieldAddr st65 rfl rfl rfl ?_
  refine StillVC.loadO o91 3 rfl ty3 rfl rfl ?_
  refine Ar.i64 (by omega) (by omega) ?_
  refine StillVC.idxB o91 1 rfl sl59 ty5 rfl rfl (by omega) (by first | omega | (simp; omega)) ?_
  have e : ((k : Int) * 64 + a).toNat = k * 64 + a := by omega
  simp only [e]
  have hx' : (bytes S)[k * 64 + a]? = some (.int .u8 x.toNat) := by simp [hx]
  refine StillVC.loadO o91 1 rfl ty5 rfl (by assumption) ?_
  refine StillVC.convI rfl int3 int5 ?_
  refine Ar.u8 (by omega) (by omega) ?_
  refine StillVC.bit rfl rfl rfl ?_
  refine StillVC.idxB o91 1 rfl sl59 ty5 rfl rfl (by omega) (by first | omega | (simp; omega)) ?_
  (refine RunVC.store o91 1 rfl ty5 rfl (by simp only [List.length_cons, List.length_nil, Nat.zero_add]; omega) (And.intro ⟨rfl, rfl⟩ ?_); intro m104 o104)
  refine RetVC.zero rfl ?_
  have ex : bytes (S.set (k * 64 + a) (x ^^^ UInt8.ofNat m.toNat)) = (bytes S).set ((k : Int) * 64 + a).toNat (.int .u8 (bits .xor .u8 x.toNat m)) := by
    rw [e, xor_byte x (by omega) (by omega)]
    simp [bytes, List.map_set]
  rw [ex]
  exact ⟨rfl, Own.sel (by assumption) [0, 1, 2] rfl⟩

end Go.Proofs.YtfjajkgfgigodaaGreatDoor

/- The disk: writes that settle. -/
namespace Go.Proofs.YtfjajkgfgigodaaGreatDoor
open Go

/-- A write that is pending, in memory. -/
def pendC (p : Nat × List UInt8) : List Value := [.int .i64 ((p.1 : Int) * 64), .int .i64 (((p.1 : Int) + 1) * 64), .string ⟨⟨p.2⟩⟩]

/-- Sectors behind one another, after a write. -/
def setB (x : List UInt8 × List UInt8) (p : Nat × List UInt8) : List UInt8 × List UInt8 := (putAt x.1 (p.1 * 64) p.2, putAt x.2 (p.1 * 64) ((x.1.drop (p.1 * 64)).take 64))

theorem putAt_len {l t : List UInt8} {k : Nat} (h : k + t.length ≤ l.length) : (putAt l k t).length = l.length := by
  simp [putAt]
  omega

set_option maxHeartbeats 4000000 in
set_option maxRecDepth 100000 in
theorem settle_spec (B : Base) (dp sb eb N : Nat) (qv av lv : Value) (off : Bool) (S E : List UInt8) (tk : Item) (l : List (Nat × List UInt8)) (h : Heap)
    (o : Own B (DB dp sb eb N qv av off S E ++ [tk]) h) (hR : Reads tk 3 lv l.length (l.flatMap pendC)) (hS : S.length = 64 * N) (hE : E.length = 64 * N) (hN : N ≤ 4000) (hl : ∀ p ∈ l, p.1 < N ∧ p.2.length ≤ 64) (hll : l.length ≤ 1000000) :
    SpecR Tryz.prog 61 [.pointer (some ⟨dp, 0, none⟩), lv] h fun v h' => v = .tuple #[] ∧ ∃ S' E', (S', E') = l.foldl setB (S, E) ∧ S'.length = 64 * N ∧ E'.length = 64 * N ∧ Own B (DB dp sb eb N qv av off S' E' ++ [tk]) h' := by
  unfold DB at o ⊢
  simp only [List.cons_append, List.nil_append] at o ⊢
  refine Spec.enter Tryz.func61 rfl Tryz.ntmps61 (by kernel_rfl) ?_
  refine StillVC.run (StillVC.lenN (o.reads 3 hR rfl) sl60 ?_)
  refine LoopVC.intro [5, 8, 9, 10, 11, 12, 13, 14, 15, 16, 17, 18] [8] (fun vs hh => ∃ (i : Nat) (S1 E1 : List UInt8), i ≤ l.length ∧ vs = [.int .i64 i] ∧ (S1, E1) = (l.take i).foldl setB (S, E) ∧ S1.length = 64 * N ∧ E1.length = 64 * N ∧ Own B [box dp [.slice (some ⟨sb, 0, none⟩) (64 * N) (64 * N), .slice (some ⟨eb, 0, none⟩) (64 * N) (64 * N), qv, .bool off, av] 63, box sb (bytes S1) 5, box eb (bytes E1) 5, tk] hh) (fun vs _ => match vs with | [.int _ i] => l.length - i.toNat | _ => 0) ?_ ?_
  · exact ⟨0, S, E, by omega, rfl, rfl, hS, hE, o⟩
  · clear o
    rintro vs junk hh ⟨i, S1, E1, hi, rfl, hf, hS1, hE1, o⟩
    by_cases hlt : i < l.length
    · obtain ⟨p, hp⟩ := getx hlt
      have hpl := hl p (List.mem_of_getElem? hp)
      have ht : l.take (i + 1) = l.take i ++ [p] := by rw [List.take_add_one, hp]; rfl
      refine Br.dec (fun c40 => ?_) (fun hc => absurd (by omega) hc)
      refine StillVC.run (StillVC.idxN sl60 ty69 (o.reads 3 hR rfl) rfl (by omega) (by omega) ?_)
      refine StillVC.run (StillVC.loadFT ty69 (o.reads 3 hR rfl) (fun _ => rfl) (by decide) rfl (by assumption) ?_)
      (refine RunVC.alloc o ty69 ?_; intro b43 m43 o43)
      (refine RunVC.storeL o43 4 rfl ty69 rfl (by decide) (And.intro ⟨rfl, rfl⟩ ?_); intro m44 o44)
      refine StillVC.run (StillVC.fieldAddr st69 rfl rfl rfl ?_)
      refine StillVC.run (StillVC.loadON o44 4 rfl ty65 rfl rfl rfl ?_)
      refine StillVC.run (StillVC.fieldAddr st69 rfl rfl rfl ?_)
      refine StillVC.run (StillVC.loadO o44 4 rfl ty9 rfl rfl ?_)
      refine CallVC.ret (set_spec _ dp sb eb N p.1 qv av off S1 E1 p.2 _ (o44.lend [0, 1, 2] [3, 4] rfl) hS1 hE1 hN hpl.1 hpl.2) ?_
      rintro _ h2 ⟨rfl, oc⟩
      have o2 := oc.back
      clear oc o44
      simp only [DB, pick, List.cons_append, List.nil_append, List.getElem?_cons_succ, List.getElem?_cons_zero] at o2
      refine Ar.i64 (by omega) (by omega) ?_
      refine ⟨rfl, ?_⟩
      refine ⟨⟨i + 1, putAt S1 (p.1 * 64) p.2, putAt E1 (p.1 * 64) ((S1.drop (p.1 * 64)).take 64), by omega, by simp, ?_, ?_, ?_, Own.sel (by assumption) [0, 1, 2, 3] rfl⟩, by simp only; omega⟩
      · rw [ht, List.foldl_append, ← hf]
        rfl
      · rw [putAt_len (by omega)]; exact hS1
      · have : ((S1.drop (p.1 * 64)).take 64).length ≤ 64 := by simp; omega
        rw [putAt_len (by omega)]; exact hE1
    · rw [List.take_of_length_le (by omega)] at hf
      refine Br.dec (fun hc => absurd hc (by omega)) (fun c40 => ?_)
      refine RetVC.zero rfl ?_
      exact ⟨rfl, S1, E1, hf, hS1, hE1, o⟩

end Go.Proofs.YtfjajkgfgigodaaGreatDoor

/- The disk: a failure of the power. -/
namespace Go.Proofs.YtfjajkgfgigodaaGreatDoor
open Go

/-- The whole disk in memory. -/
abbrev DM (dp sb eb N : Nat) (qv av : Value) (off : Bool) (S E : List UInt8) (q : List (Nat × List UInt8)) : List Item := DB dp sb eb N qv av off S E ++ [row qv 69 3 q.length (q.flatMap pendC)]

set_option maxHeartbeats 4000000 in
set_option maxRecDepth 100000 in
theorem fail_off (B : Base) (dp sb eb N : Nat) (qv av : Value) (S E : List UInt8) (q : List (Nat × List UInt8)) (w b : Int) (h : Heap) (o : Own B (DM dp sb eb N qv av true S E q) h) :
    SpecR Tryz.prog 24 [.pointer (some ⟨dp, 0, none⟩), .int .i64 w, .int .i64 b] h fun v h' => v = .tuple #[] ∧ Own B (DM dp sb eb N qv av true S E q) h' := by
  unfold DM DB at o ⊢
  simp only [List.cons_append, List.nil_append] at o ⊢
  refine Spec.enter Tryz.func24 rfl Tryz.ntmps24 (by kernel_rfl) ?_
  refine RunVC.eqP (by kernel_rfl) rfl rfl ?_
  refine Br.ff ?_
  refine StillVC.run (StillVC.nilCheck rfl ?_)
  refine StillVC.run (StillVC.fieldAddr st63 rfl rfl rfl ?_)
  refine StillVC.run (StillVC.loadO o 0 rfl ty4 rfl rfl ?_)
  refine Br.tt ?_
  refine RetVC.zero rfl ?_
  exact ⟨rfl, o⟩

set_option maxHeartbeats 4000000 in
set_option maxRecDepth 100000 in
theorem fail_on (B : Base) (dp sb eb N n : Nat) (qv av : Value) (S E : List UInt8) (q : List (Nat × List UInt8)) (w b : Int) (h : Heap) (o : Own B (DM dp sb eb N qv av false S E q) h)
    (hS : S.length = 64 * N) (hE : E.length = 64 * N) (hN : N ≤ 4000) (hl : ∀ p ∈ q, p.1 < N ∧ p.2.length = 64) (hll : q.length ≤ 1000000) (hn : (n : Int) = min (max w 0) q.length) :
    SpecR Tryz.prog 24 [.pointer (some ⟨dp, 0, none⟩), .int .i64 w, .int .i64 b] h fun v h' => v = .tuple #[] ∧ ∃ S' E', (S', E') = (match q[n]? with | some p => if 0 < b then setB ((q.take n).foldl setB (S, E)) (p.1, p.2.take (min b 64).toNat) else (q.take n).foldl setB (S, E) | none => (q.take n).foldl setB (S, E)) ∧ S'.length = 64 * N ∧ E'.length = 64 * N ∧ Own B (DM dp sb eb N (.slice none 0 0) (.pointer none) true S' E' []) h' := by
  unfold DM DB at o ⊢
  simp only [List.cons_append, List.nil_append] at o ⊢
  refine Spec.enter Tryz.func24 rfl Tryz.ntmps24 (by kernel_rfl) ?_
  have hql : (q.flatMap pendC).length = q.length * 3 := by
    clear hl hll hn o
    induction q with
    | nil => rfl
    | cons p q ih => simp [pendC, ih]; omega
  have hR : Reads (row qv 69 3 q.length (q.flatMap pendC)) 3 qv q.length (q.flatMap pendC) := row_reads
  generalize row qv 69 3 q.length (q.flatMap pendC) = tk at o hR
  have hnq : n ≤ q.length := by omega
  have htk : (q.flatMap pendC).take (n * 3) = (q.take n).flatMap pendC := by
    clear hR hl hll hn o hql hS hE
    induction q generalizing n with
    | nil => simp
    | cons p q ih =>
      cases n with
      | zero => simp
      | succ n =>
        have e : (n + 1) * 3 = n * 3 + 1 + 1 + 1 := by omega
        have := ih n (by simpa using hnq)
        rw [e]
        simp only [List.flatMap_cons, pendC, List.cons_append, List.nil_append, List.take_succ_cons, this]
  obtain ⟨qa, qc, rfl⟩ := hR.isS (o.satK 3 rfl)
  have hR2 := And.intro trivial hR
  clear hR
  have hbt : ∀ p ∈ q.take n, p.1 < N ∧ p.2.length ≤ 64 := fun p hp => ⟨(hl p (List.mem_of_mem_take hp)).1, by rw [(hl p (List.mem_of_mem_take hp)).2]; decide⟩
  refine RunVC.eqP (by kernel_rfl) rfl rfl ?_
  refine Br.ff ?_
  refine StillVC.run (StillVC.nilCheck rfl ?_)
  refine StillVC.run (StillVC.fieldAddr st63 rfl rfl rfl ?_)
  refine StillVC.run (StillVC.loadO o 0 rfl ty4 rfl rfl ?_)
  refine Br.ff ?_
  refine StillVC.run (StillVC.max2 rfl rfl ?_)
  refine StillVC.run (StillVC.nilCheck rfl ?_)
  refine StillVC.run (StillVC.fieldAddr st63 rfl rfl rfl ?_)
  refine StillVC.run (StillVC.loadO o 0 rfl ty60 rfl rfl ?_)
  refine StillVC.run (StillVC.lenV rfl sl60 ?_)
  refine StillVC.run (StillVC.min2 rfl rfl ?_)
  refine StillVC.run (StillVC.nilCheck rfl ?_)
  refine StillVC.run (StillVC.fieldAddr st63 rfl rfl rfl ?_)
  refine StillVC.run (StillVC.loadO o 0 rfl ty60 rfl rfl ?_)
  refine (StillVC.sliceTokH n sl60 ty69 hR2.2 (o.satK 3 rfl) rfl (by omega) hnq ?_).run
  rintro v33 a33
  have htl : (q.take n).length = n := by rw [List.length_take]; omega
  rw [show n * [Value.int IntKind.i64 0, Value.int IntKind.i64 0, Value.string ⟨⟨[]⟩⟩].length = n * 3 from rfl, htk] at a33
  have a34 : Reads tk 3 v33 (q.take n).length ((q.take n).flatMap pendC) := by rw [htl]; exact a33
  clear a33
  have hnn : (min (max w 0) (q.length : Int)).toNat = n := by omega
  refine CallVC.ret (settle_spec B dp sb eb N _ av v33 false S E tk (q.take n) _ o a34 hS hE hN hbt (by omega)) ?_
  rintro _ h2 ⟨rfl, S1, E1, hf, hS1, hE1, o1⟩
  simp only [DB, List.cons_append, List.nil_append] at o1
  clear o
  have hR := hR2.2
  by_cases hlt : n < q.length
  · obtain ⟨p, hp⟩ := getx hlt
    have hp' : q[(min (max w 0) (q.length : Int)).toNat]? = some p := by rw [hnn]; exact hp
    have hpl := hl p (List.mem_of_getElem? hp)
    by_cases hb : 0 < b
    · have hbn : (min (max b 0) 64).toNat = (min b 64).toNat := by omega
      have hln : (p.2.length : Int) = 64 := by omega
      refine StillVC.run (StillVC.nilCheck rfl ?_)
      refine StillVC.run (StillVC.fieldAddr st63 rfl rfl rfl ?_)
      refine StillVC.run (StillVC.loadO o1 0 rfl ty60 rfl rfl ?_)
      refine StillVC.run (StillVC.lenV rfl sl60 ?_)
      refine Br.dec (fun c64 => ?_) (fun hc => absurd (by omega) hc)
      refine StillVC.run (StillVC.nilCheck rfl ?_)
      refine StillVC.run (StillVC.fieldAddr st63 rfl rfl rfl ?_)
      refine StillVC.run (StillVC.loadO o1 0 rfl ty60 rfl rfl ?_)
      refine StillVC.run (StillVC.idxN sl60 ty69 (o1.reads 3 hR rfl) rfl (by omega) (by omega) ?_)
      refine StillVC.run (StillVC.loadFT ty69 (o1.reads 3 hR rfl) (fun _ => rfl) (by decide) rfl (by assumption) ?_)
      (refine RunVC.alloc o1 ty69 ?_; intro b70 m70 o70)
      (refine RunVC.storeL o70 4 rfl ty69 rfl (by decide) (And.intro ⟨rfl, rfl⟩ ?_); intro m71 o71)
      refine StillVC.run (StillVC.max2 rfl rfl ?_)
      refine StillVC.run (StillVC.min2 rfl rfl ?_)
      refine Br.dec (fun c74 => ?_) (fun hc => absurd (by omega) hc)
      refine DrawVC.intro [0, 1, 3, 5, 6] [2, 4] [7] [0, 1, 2, 3, 4, 5, 6, 7] mixed (by kernel_rfl) rfl (fun _ _ _ _ h => h) ?_
      refine StillVC.fieldAddr st69 rfl rfl rfl ?_
      refine StillVC.loadON o71 4 rfl ty65 rfl rfl rfl ?_
      refine StillVC.fieldAddr st69 rfl rfl rfl ?_
      refine StillVC.loadO o71 4 rfl ty9 rfl rfl ?_
      refine StillVC.sliceS str9 rfl rfl ⟨_, rfl⟩ (by omega) (by omega) (by omega) ?_
      have ed : (p.2.take (min (max b 0) 64).toNat).drop (0 : Int).toNat = p.2.take (min b 64).toNat := by rw [hbn]; rfl
      rw [ed]
      have hl1 : (p.2.take (min b 64).toNat).length ≤ 64 := by rw [List.length_take]; omega
      refine CallVC.ret (set_spec _ dp sb eb N p.1 _ av false S1 E1 (p.2.take (min b 64).toNat) _ (o71.lend [0, 1, 2] [3, 4] rfl) hS1 hE1 hN hpl.1 hl1) ?_
      rintro _ h4 ⟨rfl, oc⟩
      have o4 := oc.back
      clear oc o71
      simp only [DB, pick, List.cons_append, List.nil_append, List.getElem?_cons_succ, List.getElem?_cons_zero] at o4
      refine StillVC.run (StillVC.nilCheck rfl ?_)
      refine StillVC.run (StillVC.fieldAddr st63 rfl rfl rfl ?_)
      (refine RunVC.store o4 0 rfl ty60 rfl (by simp) (And.intro ⟨rfl, rfl⟩ ?_); intro m102 o102)
      refine StillVC.run (StillVC.nilCheck rfl ?_)
      refine StillVC.run (StillVC.fieldAddr st63 rfl rfl rfl ?_)
      (refine RunVC.store o102 0 rfl ty4 rfl (by simp) (And.intro ⟨rfl, rfl⟩ ?_); intro m105 o105)
      refine StillVC.run (StillVC.nilCheck rfl ?_)
      refine StillVC.run (StillVC.fieldAddr st63 rfl rfl rfl ?_)
      (refine RunVC.store o105 0 rfl ty61 rfl (by simp) (And.intro ⟨rfl, rfl⟩ ?_); intro m108 o108)
      refine RetVC.zero rfl ?_
      refine ⟨rfl, putAt S1 (p.1 * 64) (p.2.take (min b 64).toNat), putAt E1 (p.1 * 64) ((S1.drop (p.1 * 64)).take 64), ?_, ?_, ?_, ((Own.sel (by assumption) [0, 1, 2] rfl).nilRow 69 3)⟩
      · rw [hp, ← hf]
        simp only
        rw [if_pos hb]
        rfl
      · rw [putAt_len (by omega)]; exact hS1
      · have : ((S1.drop (p.1 * 64)).take 64).length ≤ 64 := by simp; omega
        rw [putAt_len (by omega)]; exact hE1
    · refine StillVC.run (StillVC.nilCheck rfl ?_)
      refine StillVC.run (StillVC.fieldAddr st63 rfl rfl rfl ?_)
      refine StillVC.run (StillVC.loadO o1 0 rfl ty60 rfl rfl ?_)
      refine StillVC.run (StillVC.lenV rfl sl60 ?_)
      refine Br.dec (fun c64 => ?_) (fun hc => absurd (by omega) hc)
      refine StillVC.run (StillVC.nilCheck rfl ?_)
      refine StillVC.run (StillVC.fieldAddr st63 rfl rfl rfl ?_)
      refine StillVC.run (StillVC.loadO o1 0 rfl ty60 rfl rfl ?_)
      refine StillVC.run (StillVC.idxN sl60 ty69 (o1.reads 3 hR rfl) rfl (by omega) (by omega) ?_)
      refine StillVC.run (StillVC.loadFT ty69 (o1.reads 3 hR rfl) (fun _ => rfl) (by decide) rfl (by assumption) ?_)
      (refine RunVC.alloc o1 ty69 ?_; intro b70 m70 o70)
      (refine RunVC.storeL o70 4 rfl ty69 rfl (by decide) (And.intro ⟨rfl, rfl⟩ ?_); intro m71 o71)
      refine StillVC.run (StillVC.max2 rfl rfl ?_)
      refine StillVC.run (StillVC.min2 rfl rfl ?_)
      refine Br.dec (fun hc => absurd hc (by omega)) (fun c74 => ?_)
      refine StillVC.run (StillVC.nilCheck rfl ?_)
      refine StillVC.run (StillVC.fieldAddr st63 rfl rfl rfl ?_)
      (refine RunVC.store o71 0 rfl ty60 rfl (by simp) (And.intro ⟨rfl, rfl⟩ ?_); intro m77 o77)
      refine StillVC.run (StillVC.nilCheck rfl ?_)
      refine StillVC.run (StillVC.fieldAddr st63 rfl rfl rfl ?_)
      (refine RunVC.store o77 0 rfl ty4 rfl (by simp) (And.intro ⟨rfl, rfl⟩ ?_); intro m80 o80)
      refine StillVC.run (StillVC.nilCheck rfl ?_)
      refine StillVC.run (StillVC.fieldAddr st63 rfl rfl rfl ?_)
      (refine RunVC.store o80 0 rfl ty61 rfl (by simp) (And.intro ⟨rfl, rfl⟩ ?_); intro m83 o83)
      refine RetVC.zero rfl ?_
      exact ⟨rfl, S1, E1, by rw [hp, ← hf]; simp only; rw [if_neg hb], hS1, hE1, ((Own.sel (by assumption) [0, 1, 2] rfl).nilRow 69 3)⟩
  · have hp : q[n]? = none := by simp; omega
    refine StillVC.run (StillVC.nilCheck rfl ?_)
    refine StillVC.run (StillVC.fieldAddr st63 rfl rfl rfl ?_)
    refine StillVC.run (StillVC.loadO o1 0 rfl ty60 rfl rfl ?_)
    refine StillVC.run (StillVC.lenV rfl sl60 ?_)
    refine Br.dec (fun hc => absurd hc (by omega)) (fun c64 => ?_)
    refine StillVC.run (StillVC.nilCheck rfl ?_)
    refine StillVC.run (StillVC.fieldAddr st63 rfl rfl rfl ?_)
    (refine RunVC.store o1 0 rfl ty60 rfl (by simp) (And.intro ⟨rfl, rfl⟩ ?_); intro m67 o67)
    refine StillVC.run (StillVC.nilCheck rfl ?_)
    refine StillVC.run (StillVC.fieldAddr st63 rfl rfl rfl ?_)
    (refine RunVC.store o67 0 rfl ty4 rfl (by simp) (And.intro ⟨rfl, rfl⟩ ?_); intro m70 o70)
    refine StillVC.run (StillVC.nilCheck rfl ?_)
    refine StillVC.run (StillVC.fieldAddr st63 rfl rfl rfl ?_)
    (refine RunVC.store o70 0 rfl ty61 rfl (by simp) (And.intro ⟨rfl, rfl⟩ ?_); intro m73 o73)
    refine RetVC.zero rfl ?_
    exact ⟨rfl, S1, E1, by rw [hp, ← hf], hS1, hE1, ((Own.sel (by assumption) [0, 1, 2] rfl).nilRow 69 3)⟩

end Go.Proofs.YtfjajkgfgigodaaGreatDoor

/- The disk: its alarm. -/
namespace Go.Proofs.YtfjajkgfgigodaaGreatDoor
open Go

set_option maxHeartbeats 4000000 in
set_option maxRecDepth 100000 in
theorem count_none (dp : Nat) (h : Heap) (h4 : cellAt h ⟨dp, 4, none⟩ = some (.pointer none)) :
    SpecR Tryz.prog 44 [.pointer (some ⟨dp, 0, none⟩)] h fun v h' => v = .int .i64 0 ∧ Own h [] h' := by
  refine Spec.enter Tryz.func44 rfl Tryz.ntmps44 (by kernel_rfl) ?_
  have o0 := Own.refl h
  refine StillVC.run (StillVC.nilCheck rfl ?_)
  refine StillVC.run (StillVC.fieldAddr st63 rfl rfl rfl ?_)
  refine StillVC.run (StillVC.load1 ty61 rfl (by assumption) ?_)
  refine RunVC.eqP (by kernel_rfl) rfl rfl ?_
  refine Br.tt ?_
  refine RetVC.one rfl ?_
  exact ⟨rfl, o0⟩

/-- An alarm in memory. -/
abbrev alarmI (ap : Nat) (a w b : Int) : Item := box ap [.int .i64 a, .int .i64 w, .int .i64 b] 91

set_option maxHeartbeats 4000000 in
set_option maxRecDepth 100000 in
theorem count_on (B : Base) (dp sb eb N ap : Nat) (qv : Value) (S E : List UInt8) (q : List (Nat × List UInt8)) (a w b : Int) (h : Heap) (ha : 0 < a) (ha2 : a < 9223372036854775808)
    (o : Own B (DM dp sb eb N qv (.pointer (some ⟨ap, 0, none⟩)) false S E q ++ [alarmI ap a w b]) h) :
    SpecR Tryz.prog 44 [.pointer (some ⟨dp, 0, none⟩)] h fun v h' => v = .int .i64 0 ∧ Own B (DM dp sb eb N qv (.pointer (some ⟨ap, 0, none⟩)) false S E q ++ [alarmI ap (a - 1) w b]) h' := by
  unfold DM DB alarmI at o ⊢
  simp only [List.cons_append, List.nil_append] at o ⊢
  refine Spec.enter Tryz.func44 rfl Tryz.ntmps44 (by kernel_rfl) ?_
  refine StillVC.run (StillVC.nilCheck rfl ?_)
  refine StillVC.run (StillVC.fieldAddr st63 rfl rfl rfl ?_)
  refine StillVC.run (StillVC.loadO o 0 rfl ty61 rfl rfl ?_)
  refine RunVC.eqP (by kernel_rfl) rfl rfl ?_
  refine Br.ff ?_
  refine StillVC.run (StillVC.nilCheck rfl ?_)
  refine StillVC.run (StillVC.fieldAddr st63 rfl rfl rfl ?_)
  refine StillVC.run (StillVC.loadO o 0 rfl ty61 rfl rfl ?_)
  refine StillVC.run (StillVC.nilCheck rfl ?_)
  refine StillVC.run (StillVC.fieldAddr st91 rfl rfl rfl ?_)
  refine StillVC.run (StillVC.loadO o 4 rfl ty3 rfl rfl ?_)
  refine Br.dec (fun c30 => ?_) (fun hc => absurd (by omega) hc)
  refine StillVC.run (StillVC.nilCheck rfl ?_)
  refine StillVC.run (StillVC.fieldAddr st63 rfl rfl rfl ?_)
  refine StillVC.run (StillVC.loadO o 0 rfl ty61 rfl rfl ?_)
  refine StillVC.run (StillVC.nilCheck rfl ?_)
  refine StillVC.run (StillVC.fieldAddr st91 rfl rfl rfl ?_)
  refine StillVC.run (StillVC.loadO o 4 rfl ty3 rfl rfl ?_)
  refine Ar.i64 (by omega) (by omega) ?_
  refine StillVC.run (StillVC.nilCheck rfl ?_)
  refine StillVC.run (StillVC.fieldAddr st91 rfl rfl rfl ?_)
  (refine RunVC.store o 4 rfl ty3 rfl (by simp) (And.intro ⟨rfl, rfl⟩ ?_); intro m39 o39)
  refine RetVC.one rfl ?_
  exact ⟨rfl, by assumption⟩

set_option maxHeartbeats 4000000 in
set_option maxRecDepth 100000 in
theorem count_fail (B : Base) (dp sb eb N n ap : Nat) (qv : Value) (S E : List UInt8) (q : List (Nat × List UInt8)) (w b : Int) (h : Heap)
    (o : Own B (DM dp sb eb N qv (.pointer (some ⟨ap, 0, none⟩)) false S E q ++ [alarmI ap 0 w b]) h)
    (hS : S.length = 64 * N) (hE : E.length = 64 * N) (hN : N ≤ 4000) (hl : ∀ p ∈ q, p.1 < N ∧ p.2.length = 64) (hll : q.length ≤ 1000000) (hn : (n : Int) = min (max w 0) q.length) :
    SpecR Tryz.prog 44 [.pointer (some ⟨dp, 0, none⟩)] h fun v h' => v = .int .i64 19 ∧ ∃ S' E', (S', E') = (match q[n]? with | some p => if 0 < b then setB ((q.take n).foldl setB (S, E)) (p.1, p.2.take (min b 64).toNat) else (q.take n).foldl setB (S, E) | none => (q.take n).foldl setB (S, E)) ∧ S'.length = 64 * N ∧ E'.length = 64 * N ∧ Own B (DM dp sb eb N (.slice none 0 0) (.pointer none) true S' E' []) h' := by
  have oo := o.lend [0, 1, 2, 3] [4] rfl
  have hq := fail_on _ dp sb eb N n qv (.pointer (some ⟨ap, 0, none⟩)) S E q w b h oo hS hE hN hl hll hn
  clear oo
  unfold alarmI at o
  unfold DM DB at o ⊢
  simp only [List.cons_append, List.nil_append] at o ⊢
  refine Spec.enter Tryz.func44 rfl Tryz.ntmps44 (by kernel_rfl) ?_
  refine StillVC.run (StillVC.nilCheck rfl ?_)
  refine StillVC.run (StillVC.fieldAddr st63 rfl rfl rfl ?_)
  refine StillVC.run (StillVC.loadO o 0 rfl ty61 rfl rfl ?_)
  refine RunVC.eqP (by kernel_rfl) rfl rfl ?_
  refine Br.ff ?_
  refine StillVC.run (StillVC.nilCheck rfl ?_)
  refine StillVC.run (StillVC.fieldAddr st63 rfl rfl rfl ?_)
  refine StillVC.run (StillVC.loadO o 0 rfl ty61 rfl rfl ?_)
  refine StillVC.run (StillVC.nilCheck rfl ?_)
  refine StillVC.run (StillVC.fieldAddr st91 rfl rfl rfl ?_)
  refine StillVC.run (StillVC.loadO o 4 rfl ty3 rfl rfl ?_)
  refine Br.ff ?_
  refine DrawVC.intro [0, 1, 2, 3, 5, 6, 8, 9, 10, 12, 13] [4, 7, 11, 14] [15] [0, 1, 2, 3, 4, 5, 6, 7, 8, 9, 10, 11, 12, 13, 14, 15] mixed (by kernel_rfl) rfl (fun _ _ _ _ h => h) ?_
  refine StillVC.nilCheck rfl ?_
  refine StillVC.fieldAddr st63 rfl rfl rfl ?_
  refine StillVC.loadO o 0 rfl ty61 rfl rfl ?_
  refine StillVC.nilCheck rfl ?_
  refine StillVC.fieldAddr st91 rfl rfl rfl ?_
  refine StillVC.loadO o 4 rfl ty3 rfl rfl ?_
  refine StillVC.nilCheck rfl ?_
  refine StillVC.fieldAddr st63 rfl rfl rfl ?_
  refine StillVC.loadO o 0 rfl ty61 rfl rfl ?_
  refine StillVC.nilCheck rfl ?_
  refine StillVC.fieldAddr st91 rfl rfl rfl ?_
  refine StillVC.loadO o 4 rfl ty3 rfl rfl ?_
  refine CallVC.ret hq ?_
  rintro _ h2 ⟨rfl, S', E', e1, e2, e3, oc⟩
  have o2 := oc.back.sel [0, 1, 2, 3] rfl
  refine RetVC.one rfl ?_
  exact ⟨rfl, S', E', e1, e2, e3, o2⟩

end Go.Proofs.YtfjajkgfgigodaaGreatDoor

/- The disk: Sync. -/
namespace Go.Proofs.YtfjajkgfgigodaaGreatDoor
open Go

set_option maxHeartbeats 4000000 in
set_option maxRecDepth 100000 in
theorem sync_off (dp : Nat) (h : Heap) (h3 : cellAt h ⟨dp, 3, none⟩ = some (.bool true)) :
    SpecR Tryz.prog 91 [.pointer (some ⟨dp, 0, none⟩)] h fun v h' => v = .int .i64 19 ∧ Own h [] h' := by
  refine Spec.enter Tryz.func91 rfl Tryz.ntmps91 (by kernel_rfl) ?_
  have o0 := Own.refl h
  refine RunVC.eqP (by kernel_rfl) rfl rfl ?_
  refine Br.ff ?_
  refine StillVC.run (StillVC.nilCheck rfl ?_)
  refine StillVC.run (StillVC.fieldAddr st63 rfl rfl rfl ?_)
  refine StillVC.run (StillVC.load1 ty4 rfl (by assumption) ?_)
  refine Br.tt ?_
  refine RetVC.one rfl ?_
  exact ⟨rfl, o0⟩

set_option maxHeartbeats 4000000 in
set_option maxRecDepth 100000 in
theorem sync_none (B : Base) (dp sb eb N : Nat) (qv : Value) (S E : List UInt8) (q : List (Nat × List UInt8)) (h : Heap)
    (o : Own B (DM dp sb eb N qv (.pointer none) false S E q) h)
    (hS : S.length = 64 * N) (hE : E.length = 64 * N) (hN : N ≤ 4000) (hl : ∀ p ∈ q, p.1 < N ∧ p.2.length ≤ 64) (hll : q.length ≤ 1000000) :
    SpecR Tryz.prog 91 [.pointer (some ⟨dp, 0, none⟩)] h fun v h' => v = .int .i64 0 ∧ ∃ S' E', (S', E') = q.foldl setB (S, E) ∧ S'.length = 64 * N ∧ E'.length = 64 * N ∧ Own B (DM dp sb eb N (.slice none 0 0) (.pointer none) false S' E' []) h' := by
  unfold DM DB at o ⊢
  simp only [List.cons_append, List.nil_append] at o ⊢
  refine Spec.enter Tryz.func91 rfl Tryz.ntmps91 (by kernel_rfl) ?_
  refine RunVC.eqP (by kernel_rfl) rfl rfl ?_
  refine Br.ff ?_
  refine StillVC.run (StillVC.nilCheck rfl ?_)
  refine StillVC.run (StillVC.fieldAddr st63 rfl rfl rfl ?_)
  refine StillVC.run (StillVC.loadO o 0 rfl ty4 rfl rfl ?_)
  refine Br.ff ?_
  refine CallVC.ret (count_none dp _ (o.cellB 0 rfl 4)) ?_
  rintro _ h2 ⟨rfl, oc⟩
  have o2 := o.ext' oc
  clear oc o
  refine Br.ff ?_
  refine StillVC.run (StillVC.nilCheck rfl ?_)
  refine StillVC.run (StillVC.fieldAddr st63 rfl rfl rfl ?_)
  refine StillVC.run (StillVC.loadO o2 0 rfl ty60 rfl rfl ?_)
  refine CallVC.ret (settle_spec B dp sb eb N qv _ qv false S E _ q _ o2 row_reads hS hE hN hl hll) ?_
  rintro _ h4 ⟨rfl, S', E', e1, e2, e3, o4⟩
  simp only [DB, List.cons_append, List.nil_append] at o4
  clear o2
  refine StillVC.run (StillVC.nilCheck rfl ?_)
  refine StillVC.run (StillVC.fieldAddr st63 rfl rfl rfl ?_)
  (refine RunVC.store o4 0 rfl ty60 rfl (by simp) (And.intro ⟨rfl, rfl⟩ ?_); intro m62 o62)
  refine RetVC.one rfl ?_
  exact ⟨rfl, S', E', e1, e2, e3, ((Own.sel (by assumption) [0, 1, 2] rfl).nilRow 69 3)⟩

set_option maxHeartbeats 4000000 in
set_option maxRecDepth 100000 in
theorem sync_on (B : Base) (dp sb eb N ap : Nat) (qv : Value) (S E : List UInt8) (q : List (Nat × List UInt8)) (a w b : Int) (h : Heap) (ha : 0 < a) (ha2 : a < 9223372036854775808)
    (o : Own B (DM dp sb eb N qv (.pointer (some ⟨ap, 0, none⟩)) false S E q ++ [alarmI ap a w b]) h)
    (hS : S.length = 64 * N) (hE : E.length = 64 * N) (hN : N ≤ 4000) (hl : ∀ p ∈ q, p.1 < N ∧ p.2.length ≤ 64) (hll : q.length ≤ 1000000) :
    SpecR Tryz.prog 91 [.pointer (some ⟨dp, 0, none⟩)] h fun v h' => v = .int .i64 0 ∧ ∃ S' E', (S', E') = q.foldl setB (S, E) ∧ S'.length = 64 * N ∧ E'.length = 64 * N ∧ Own B (DM dp sb eb N (.slice none 0 0) (.pointer (some ⟨ap, 0, none⟩)) false S' E' [] ++ [alarmI ap (a - 1) w b]) h' := by
  have hq := count_on B dp sb eb N ap qv S E q a w b h ha ha2 o
  unfold DM DB alarmI at o ⊢
  simp only [List.cons_append, List.nil_append] at o ⊢
  refine Spec.enter Tryz.func91 rfl Tryz.ntmps91 (by kernel_rfl) ?_
  refine RunVC.eqP (by kernel_rfl) rfl rfl ?_
  refine Br.ff ?_
  refine StillVC.run (StillVC.nilCheck rfl ?_)
  refine StillVC.run (StillVC.fieldAddr st63 rfl rfl rfl ?_)
  refine StillVC.run (StillVC.loadO o 0 rfl ty4 rfl rfl ?_)
  refine Br.ff ?_
  refine CallVC.ret hq ?_
  rintro _ h2 ⟨rfl, o2⟩
  unfold DM DB alarmI at o2
  simp only [List.cons_append, List.nil_append] at o2
  clear o
  refine Br.ff ?_
  refine StillVC.run (StillVC.nilCheck rfl ?_)
  refine StillVC.run (StillVC.fieldAddr st63 rfl rfl rfl ?_)
  refine StillVC.run (StillVC.loadO o2 0 rfl ty60 rfl rfl ?_)
  refine CallVC.ret (settle_spec _ dp sb eb N qv _ qv false S E _ q _ (o2.lend [0, 1, 2, 3] [4] rfl) row_reads hS hE hN hl hll) ?_
  rintro _ h4 ⟨rfl, S', E', e1, e2, e3, oc⟩
  have o4 := oc.back
  simp only [DB, pick, List.cons_append, List.nil_append, List.getElem?_cons_succ, List.getElem?_cons_zero] at o4
  clear o2 oc
  refine StillVC.run (StillVC.nilCheck rfl ?_)
  refine StillVC.run (StillVC.fieldAddr st63 rfl rfl rfl ?_)
  (refine RunVC.store o4 0 rfl ty60 rfl (by simp) (And.intro ⟨rfl, rfl⟩ ?_); intro m62 o62)
  refine RetVC.one rfl ?_
  exact ⟨rfl, S', E', e1, e2, e3, (((Own.sel (by assumption) [4, 0, 1, 2] rfl).nilRow 69 3).sel [1, 2, 3, 4, 0] rfl)⟩

set_option maxHeartbeats 4000000 in
set_option maxRecDepth 100000 in
theorem sync_fail (B : Base) (dp sb eb N n ap : Nat) (qv : Value) (S E : List UInt8) (q : List (Nat × List UInt8)) (w b : Int) (h : Heap)
    (o : Own B (DM dp sb eb N qv (.pointer (some ⟨ap, 0, none⟩)) false S E q ++ [alarmI ap 0 w b]) h)
    (hS : S.length = 64 * N) (hE : E.length = 64 * N) (hN : N ≤ 4000) (hl : ∀ p ∈ q, p.1 < N ∧ p.2.length = 64) (hll : q.length ≤ 1000000) (hn : (n : Int) = min (max w 0) q.length) :
    SpecR Tryz.prog 91 [.pointer (some ⟨dp, 0, none⟩)] h fun v h' => v = .int .i64 19 ∧ ∃ S' E', (S', E') = (match q[n]? with | some p => if 0 < b then setB ((q.take n).foldl setB (S, E)) (p.1, p.2.take (min b 64).toNat) else (q.take n).foldl setB (S, E) | none => (q.take n).foldl setB (S, E)) ∧ S'.length = 64 * N ∧ E'.length = 64 * N ∧ Own B (DM dp sb eb N (.slice none 0 0) (.pointer none) true S' E' []) h' := by
  have hq := count_fail B dp sb eb N n ap qv S E q w b h o hS hE hN hl hll hn
  unfold alarmI at o
  unfold DM DB at o
  simp only [List.cons_append, List.nil_append] at o
  refine Spec.enter Tryz.func91 rfl Tryz.ntmps91 (by kernel_rfl) ?_
  refine RunVC.eqP (by kernel_rfl) rfl rfl ?_
  refine Br.ff ?_
  refine StillVC.run (StillVC.nilCheck rfl ?_)
  refine StillVC.run (StillVC.fieldAddr st63 rfl rfl rfl ?_)
  refine StillVC.run (StillVC.loadO o 0 rfl ty4 rfl rfl ?_)
  refine Br.ff ?_
  refine CallVC.ret hq ?_
  rintro _ h2 ⟨rfl, S', E', e1, e2, e3, o2⟩
  clear o
  refine Br.tt ?_
  refine RetVC.one rfl ?_
  exact ⟨rfl, S', E', e1, e2, e3, o2⟩

end Go.Proofs.YtfjajkgfgigodaaGreatDoor

/- The disk: Rot where nothing happens. -/
namespace Go.Proofs.YtfjajkgfgigodaaGreatDoor
open Go

set_option maxHeartbeats 4000000 in
set_option maxRecDepth 100000 in
theorem rot_out (B : Base) (dp sb eb N : Nat) (i a m : Int) (qv av : Value) (off : Bool) (S E : List UInt8) (h : Heap)
    (o : Own B (DB dp sb eb N qv av off S E) h) (hS : S.length = 64 * N) (hE : E.length = 64 * N) (hN : N ≤ 4000) (hi : ¬ (inD N i ∧ 0 ≤ a ∧ a < 64 ∧ 0 < m ∧ m < 256)) :
    SpecR Tryz.prog 21 [.pointer (some ⟨dp, 0, none⟩), .int .i64 i, .int .i64 a, .int .i64 m] h fun v h' => v = .tuple #[] ∧ Own B (DB dp sb eb N qv av off S E) h' := by
  unfold DB at o ⊢
  refine Spec.enter Tryz.func21 rfl Tryz.ntmps21 (by kernel_rfl) ?_
  have hsl : (bytes S).length = 64 * N := by simp [hS]
  have hel : (bytes E).length = 64 * N := by simp [hE]
  refine CallVC.ret (place_spec dp N _ S _ i (o.cellB 0 rfl 0) (o.boxArr 1 rfl hsl (Nat.le_refl _)) hS hN) ?_
  by_cases hin : inD N i
  · rw [if_pos hin]
    rintro _ h2 ⟨rfl, oc⟩
    have o2 := o.ext' oc
    have hi : ¬ (0 ≤ a ∧ a < 64 ∧ 0 < m ∧ m < 256) := fun hx => hi ⟨hin, hx⟩
    by_cases h1 : 0 ≤ a
    · by_cases h3 : a < 64
      · by_cases h4 : 0 < m
        · have h5 : ¬ m < 256 := fun hx => hi ⟨h1, h3, h4, hx⟩
          clear hi
          (refine RunVC.alloc o2 ty65 ?_; intro b90 m90 o90)
          (refine RunVC.storeL o90 3 rfl ty65 rfl (by decide) (And.intro ⟨rfl, rfl⟩ ?_); intro m91 o91)
          refine Br.tt ?_
          refine Br.dec (fun c92 => ?_) (fun hc => absurd (by omega) hc)
          refine Br.dec (fun c93 => ?_) (fun hc => absurd (by omega) hc)
          refine Br.dec (fun c94 => ?_) (fun hc => absurd (by omega) hc)
          refine Br.dec (fun hc => absurd hc (by omega)) (fun c95 => ?_)
          refine RetVC.zero rfl ?_
          exact ⟨rfl, Own.sel (by assumption) [0, 1, 2] rfl⟩
        · clear hi
          (refine RunVC.alloc o2 ty65 ?_; intro b90 m90 o90)
          (refine RunVC.storeL o90 3 rfl ty65 rfl (by decide) (And.intro ⟨rfl, rfl⟩ ?_); intro m91 o91)
          refine Br.tt ?_
          refine Br.dec (fun c92 => ?_) (fun hc => absurd (by omega) hc)
          refine Br.dec (fun c93 => ?_) (fun hc => absurd (by omega) hc)
          refine Br.dec (fun hc => absurd hc (by omega)) (fun c94 => ?_)
          refine Br.ff ?_
          refine RetVC.zero rfl ?_
          exact ⟨rfl, Own.sel (by assumption) [0, 1, 2] rfl⟩
      · clear hi
        (refine RunVC.alloc o2 ty65 ?_; intro b90 m90 o90)
        (refine RunVC.storeL o90 3 rfl ty65 rfl (by decide) (And.intro ⟨rfl, rfl⟩ ?_); intro m91 o91)
        refine Br.tt ?_
        refine Br.dec (fun c92 => ?_) (fun hc => absurd (by omega) hc)
        refine Br.dec (fun hc => absurd hc (by omega)) (fun c93 => ?_)
        refine Br.ff ?_
        refine RetVC.zero rfl ?_
        exact ⟨rfl, Own.sel (by assumption) [0, 1, 2] rfl⟩
    · clear hi
      (refine RunVC.alloc o2 ty65 ?_; intro b90 m90 o90)
      (refine RunVC.storeL o90 3 rfl ty65 rfl (by decide) (And.intro ⟨rfl, rfl⟩ ?_); intro m91 o91)
      refine Br.tt ?_
      refine Br.dec (fun hc => absurd hc (by omega)) (fun c92 => ?_)
      refine Br.ff ?_
      refine RetVC.zero rfl ?_
      exact ⟨rfl, Own.sel (by assumption) [0, 1, 2] rfl⟩
  · rw [if_neg hin]
    rintro _ h2 ⟨rfl, oc⟩
    have o2 := o.ext' oc
    clear hi
    (refine RunVC.alloc o2 ty65 ?_; intro b90 m90 o90)
    (refine RunVC.storeL o90 3 rfl ty65 rfl (by decide) (And.intro ⟨rfl, rfl⟩ ?_); intro m91 o91)
    refine Br.ff ?_
    refine Br.ff ?_
    refine RetVC.zero rfl ?_
    exact ⟨rfl, Own.sel (by assumption) [0, 1, 2] rfl⟩

end Go.Proofs.YtfjajkgfgigodaaGreatDoor

/- The disk: sectors behind one another, and as a list. -/
namespace Go.Proofs.YtfjajkgfgigodaaGreatDoor
open Go

theorem sect_take : ∀ (l : List (List UInt8)) (s : Nat), (∀ x ∈ l, x.length = 64) → (l.take s).flatten = l.flatten.take (s * 64)
  | [], s, _ => by simp
  | _ :: _, 0, _ => by simp
  | x :: l, s + 1, h => by
    have h1 := h x (by simp)
    have e : (s + 1) * 64 = x.length + s * 64 := by rw [h1]; omega
    rw [List.take_succ_cons, List.flatten_cons, List.flatten_cons, sect_take l s fun y hy => h y (List.mem_cons_of_mem _ hy), e, List.take_length_add_append]

theorem sect_drop : ∀ (l : List (List UInt8)) (s : Nat), (∀ x ∈ l, x.length = 64) → (l.drop s).flatten = l.flatten.drop (s * 64)
  | [], s, _ => by simp
  | _ :: _, 0, _ => by simp
  | x :: l, s + 1, h => by
    have h1 := h x (by simp)
    have e : (s + 1) * 64 = x.length + s * 64 := by rw [h1]; omega
    rw [List.drop_succ_cons, List.flatten_cons, sect_drop l s fun y hy => h y (List.mem_cons_of_mem _ hy), e, List.drop_length_add_append]

theorem sect_len : ∀ (l : List (List UInt8)), (∀ x ∈ l, x.length = 64) → l.flatten.length = 64 * l.length
  | [], _ => rfl
  | x :: l, h => by
    rw [List.flatten_cons, List.length_append, h x (by simp), sect_len l fun y hy => h y (List.mem_cons_of_mem _ hy), List.length_cons]
    omega

theorem sect_get {l : List (List UInt8)} {s : Nat} (h : ∀ x ∈ l, x.length = 64) (hs : s < l.length) : (l.flatten.drop (s * 64)).take 64 = l.getD s [] := by
  rw [← sect_drop l s h, List.drop_eq_getElem_cons hs, List.flatten_cons, List.take_append_of_le_length (by rw [h _ (List.getElem_mem hs)]; exact Nat.le_refl _), List.take_of_length_le (by rw [h _ (List.getElem_mem hs)]; exact Nat.le_refl _)]
  simp [List.getD, hs]

theorem sect_set {l : List (List UInt8)} {s : Nat} {t : List UInt8} (h : ∀ x ∈ l, x.length = 64) (hs : s < l.length) (ht : t.length ≤ 64) : (l.set s (t ++ (l.getD s []).drop t.length)).flatten = putAt l.flatten (s * 64) t := by
  have h1 : (l.getD s []).length = 64 := by
    have : l.getD s [] = l[s] := by simp [List.getD, hs]
    rw [this]; exact h _ (List.getElem_mem hs)
  have h2 : l.flatten.drop (s * 64) = l.getD s [] ++ l.flatten.drop ((s + 1) * 64) := by
    rw [← sect_drop l s h, ← sect_drop l (s + 1) h, List.drop_eq_getElem_cons hs, List.flatten_cons]
    simp [List.getD, hs]
  rw [List.set_eq_take_append_cons_drop, if_pos hs, List.flatten_append, List.flatten_cons, sect_take l s h, sect_drop l (s + 1) h]
  unfold putAt
  rw [← List.drop_drop, h2, List.drop_append_of_le_length (by omega)]
  simp

theorem sect_set' {l : List (List UInt8)} {s : Nat} {t : List UInt8} (h : ∀ x ∈ l, x.length = 64) (hs : s < l.length) (ht : t.length = 64) : (l.set s t).flatten = putAt l.flatten (s * 64) t := by
  rw [← sect_set h hs (by omega)]
  have h1 : (l.getD s []).length = 64 := by
    have : l.getD s [] = l[s] := by simp [List.getD, hs]
    rw [this]; exact h _ (List.getElem_mem hs)
  rw [List.drop_of_length_le (by omega), List.append_nil]

theorem Dk.Wf.sm {d : Dk} {n : Nat} (h : d.Wf n) : ∀ x ∈ d.st, x.length = 64 := by
  intro x hx
  obtain ⟨i, hi, rfl⟩ := List.mem_iff_getElem.1 hx
  have := h.s64 i (by rw [← h.st]; exact hi)
  simpa [List.getD, hi] using this

theorem Dk.Wf.em {d : Dk} {n : Nat} (h : d.Wf n) : ∀ x ∈ d.el, x.length = 64 := by
  intro x hx
  obtain ⟨i, hi, rfl⟩ := List.mem_iff_getElem.1 hx
  have := h.e64 i (by rw [← h.el]; exact hi)
  simpa [List.getD, hi] using this

/-- The disk's bytes. -/
def flatD (d : Dk) : List UInt8 × List UInt8 := (d.st.flatten, d.el.flatten)

theorem flatD_len {d : Dk} {n : Nat} (h : d.Wf n) : d.st.flatten.length = 64 * n ∧ d.el.flatten.length = 64 * n := by
  rw [sect_len _ h.sm, sect_len _ h.em, h.st, h.el]
  exact ⟨rfl, rfl⟩

theorem set_flat {d : Dk} {n s : Nat} {t : List UInt8} (h : d.Wf n) (hs : s < n) (ht : t.length ≤ 64) : flatD (d.set s t) = setB (flatD d) (s, t) := by
  unfold flatD setB Dk.set
  simp only
  rw [sect_set h.sm (by rw [h.st]; exact hs) ht, sect_set' h.em (by rw [h.el]; exact hs) (h.s64 s hs), sect_get h.sm (by rw [h.st]; exact hs)]

theorem settle_flat : ∀ (ws : List (Nat × List UInt8)) {d : Dk} {n : Nat}, d.Wf n → InR n ws → flatD (d.settle ws) = ws.foldl setB (flatD d)
  | [], _, _, _, _ => rfl
  | p :: r, d, n, h, hr => by
    have hp := hr p (by simp)
    show flatD ((d.set p.1 p.2).settle r) = r.foldl setB (setB (flatD d) p)
    rw [settle_flat r (set_wf h hp.1 (by rw [hp.2]; exact Nat.le_refl _)) fun x hx => hr x (List.mem_cons_of_mem _ hx), set_flat h hp.1 (by rw [hp.2]; exact Nat.le_refl _)]

end Go.Proofs.YtfjajkgfgigodaaGreatDoor

/- The disk as one item of memory, and its functions on it: those that are walked already. -/
namespace Go.Proofs.YtfjajkgfgigodaaGreatDoor
open Go

/-- The alarm in memory. -/
def almI (ap : Nat) : Option (Int × Int × Int) → Item
  | none => emptyI
  | some (a, w, b) => alarmI ap a w b

def almV (ap : Nat) : Option (Int × Int × Int) → Value
  | none => .pointer none
  | some _ => .pointer (some ⟨ap, 0, none⟩)

structure DOK (d : Dk) : Prop where
  wf : d.Wf d.st.length
  le : d.st.length ≤ 4000
  q : InR d.st.length d.q
  arm : ∀ x, d.arm = some x → 0 ≤ x.1 ∧ x.1 < 9223372036854775808

/-- The disk in memory: one item. -/
def IsDisk (dp : Nat) (d : Dk) (I : Item) : Prop := DOK d ∧ ∃ sb eb ap qv, I = sepI (DM dp sb eb d.st.length qv (almV ap d.arm) d.off d.st.flatten d.el.flatten d.q ++ [almI ap d.arm])

theorem IsDisk.pack {B : Base} {dp sb eb ap N : Nat} {qv av : Value} {off : Bool} {S E : List UInt8} {q : List (Nat × List UInt8)} {A : Item} {h : Heap} (d : Dk)
    (o : Own B (DM dp sb eb N qv av off S E q ++ [A]) h) (hd : DOK d) (hN : N = d.st.length) (hav : av = almV ap d.arm) (ho : off = d.off) (hf : (S, E) = flatD d) (hq : q = d.q) (hA : A = almI ap d.arm) : ∃ I, IsDisk dp d I ∧ Own B [I] h := by
  have h1 : S = d.st.flatten := congrArg Prod.fst hf
  have h2 : E = d.el.flatten := congrArg Prod.snd hf
  subst hN hav ho h1 h2 hq hA
  exact ⟨_, ⟨hd, sb, eb, ap, qv, rfl⟩, o.sep1⟩

theorem Own.emptyZ {B : Base} {L : List Item} {h : Heap} (o : Own B L h) : Own B (L ++ [emptyI]) h := by
  have := o.emptyI'
  unfold Own at this ⊢
  refine this.perm ?_
  rw [List.append_assoc]
  exact List.perm_middle.symm

theorem set_dok {d : Dk} {s : Nat} {t : List UInt8} (h : DOK d) (hs : s < d.st.length) (ht : t.length ≤ 64) : DOK (d.set s t) := by
  have e : (d.set s t).st.length = d.st.length := by simp [Dk.set]
  refine ⟨by rw [e]; exact set_wf h.wf hs ht, by rw [e]; exact h.le, ?_, h.arm⟩
  rw [e]; exact h.q

theorem settle_dok : ∀ (ws : List (Nat × List UInt8)) {d : Dk}, DOK d → InR d.st.length ws → DOK (d.settle ws)
  | [], _, h, _ => h
  | p :: r, d, h, hr => by
    have hp := hr p (by simp)
    refine settle_dok r (d := d.set p.1 p.2) (set_dok h hp.1 (by rw [hp.2]; exact Nat.le_refl _)) fun x hx => ?_
    have e : (d.set p.1 p.2).st.length = d.st.length := by simp [Dk.set]
    rw [e]
    exact hr x (List.mem_cons_of_mem _ hx)

theorem DOK.bare {d d' : Dk} (h : DOK d) (h1 : d'.st = d.st) (h2 : d'.el = d.el) (h3 : d'.q = []) (h4 : ∀ x, d'.arm = some x → 0 ≤ x.1 ∧ x.1 < 9223372036854775808) : DOK d' where
  wf := by
    have := h.wf
    exact ⟨rfl, by rw [h1, h2]; exact this.el, by rw [h1]; exact this.s64, by rw [h1, h2]; exact this.e64⟩
  le := by rw [h1]; exact h.le
  q := by rw [h3]; exact fun _ hx => absurd hx (by simp)
  arm := h4

theorem Dk.Wf.keep {d d' : Dk} {n : Nat} (h : d.Wf n) (h1 : d'.st = d.st) (h2 : d'.el = d.el) : d'.Wf n := ⟨by rw [h1]; exact h.st, by rw [h2]; exact h.el, by rw [h1]; exact h.s64, by rw [h2]; exact h.e64⟩

theorem settle_arm : ∀ (ws : List (Nat × List UInt8)) (d : Dk) (a : Option (Int × Int × Int)), ({ d with arm := a } : Dk).settle ws = { d.settle ws with arm := a }
  | [], _, _ => rfl
  | p :: r, d, a => settle_arm r (d.set p.1 p.2) a

/-- What the failure of the power leaves. -/
def failD (d : Dk) (n : Nat) (b : Int) : Dk := (d.settle (d.q.take n)).tear d.q[n]? b

theorem failD_dok {d : Dk} (h : DOK d) (n : Nat) (b : Int) : DOK (failD d n b) ∧ (failD d n b).st.length = d.st.length := by
  have hI : InR d.st.length (d.q.take n) := fun p hp => h.q p (List.mem_of_mem_take hp)
  have h1 := settle_dok (d.q.take n) h hI
  have e := settle_len (d.q.take n) d
  unfold failD Dk.tear
  split
  · rename_i p hp
    split
    · have hq := h.q p (List.mem_of_getElem? hp)
      have e2 : ((d.settle (d.q.take n)).set p.1 (p.2.take (min b 64).toNat)).st.length = (d.settle (d.q.take n)).st.length := by simp [Dk.set]
      exact ⟨set_dok h1 (by rw [e]; exact hq.1) (by rw [List.length_take]; omega), e2.trans e⟩
    · exact ⟨h1, e⟩
  · exact ⟨h1, e⟩

theorem failD_flat {d : Dk} (h : DOK d) (n : Nat) (b : Int) : (match d.q[n]? with | some p => if 0 < b then setB ((d.q.take n).foldl setB (d.st.flatten, d.el.flatten)) (p.1, p.2.take (min b 64).toNat) else (d.q.take n).foldl setB (d.st.flatten, d.el.flatten) | none => (d.q.take n).foldl setB (d.st.flatten, d.el.flatten)) = flatD (failD d n b) := by
  have hI : InR d.st.length (d.q.take n) := fun p hp => h.q p (List.mem_of_mem_take hp)
  have h1 := settle_flat (d.q.take n) h.wf hI
  have hw := settle_wf (d.q.take n) h.wf hI
  show _ = flatD (failD d n b)
  unfold failD Dk.tear
  have e0 : (d.st.flatten, d.el.flatten) = flatD d := rfl
  rw [e0, ← h1]
  cases hp : d.q[n]? with
  | none => rfl
  | some p =>
    simp only
    by_cases hb : 0 < b
    · rw [if_pos hb, if_pos hb, set_flat hw (h.q p (List.mem_of_getElem? hp)).1 (by rw [List.length_take]; omega)]
    · rw [if_neg hb, if_neg hb]

theorem fail_eq {d : Dk} (h : d.off = false) (w b : Int) : d.fail w b = { failD d (min (max w 0) d.q.length).toNat b with q := [], off := true, arm := none } := by
  unfold Dk.fail failD
  rw [if_neg (by rw [h]; decide)]

theorem fail_disk (B : Base) (dp : Nat) (d : Dk) (I : Item) (w b : Int) (h : Heap) (hI : IsDisk dp d I) (o : Own B [I] h) (hq : d.q.length ≤ 100000) :
    SpecR Tryz.prog 24 [.pointer (some ⟨dp, 0, none⟩), .int .i64 w, .int .i64 b] h fun v h' => v = .tuple #[] ∧ ∃ I', IsDisk dp (d.fail w b) I' ∧ Own B [I'] h' := by
  obtain ⟨hd, sb, eb, ap, qv, rfl⟩ := hI
  have o := o.unsep1
  have oo := o.lend [0, 1, 2, 3] [4] rfl
  cases hoff : d.off with
  | true =>
    rw [hoff] at oo
    refine (fail_off _ dp sb eb _ qv _ _ _ d.q w b h oo).mono ?_
    rintro v h' ⟨rfl, oc⟩
    have e : d.fail w b = d := by unfold Dk.fail; rw [if_pos hoff]
    rw [e]
    exact ⟨rfl, IsDisk.pack d oc.back hd rfl rfl hoff.symm rfl rfl rfl⟩
  | false =>
    rw [hoff] at oo
    obtain ⟨f1, f2⟩ := flatD_len hd.wf
    refine (fail_on _ dp sb eb _ (min (max w 0) d.q.length).toNat qv _ _ _ d.q w b h oo f1 f2 hd.le (fun p hp => hd.q p hp) (by omega) (by omega)).mono ?_
    rintro v h' ⟨rfl, S', E', hf, h1, h2, oc⟩
    obtain ⟨k1, k2⟩ := failD_dok hd (min (max w 0) d.q.length).toNat b
    have hf := hf.trans (failD_flat hd _ _)
    rw [fail_eq hoff]
    refine ⟨rfl, IsDisk.pack (ap := ap) _ ((oc.back.sel [0, 1, 2, 3] rfl).emptyZ) (DOK.bare k1 rfl rfl rfl (by simp)) k2.symm rfl rfl hf rfl rfl⟩

theorem count_disk (B : Base) (dp : Nat) (d : Dk) (I : Item) (h : Heap) (hI : IsDisk dp d I) (o : Own B [I] h) (hq : d.q.length ≤ 100001) (hoff : d.off = false) :
    SpecR Tryz.prog 44 [.pointer (some ⟨dp, 0, none⟩)] h fun v h' => v = .int .i64 d.count.1 ∧ ∃ I', IsDisk dp d.count.2 I' ∧ Own B [I'] h' := by
  obtain ⟨hd, sb, eb, ap, qv, rfl⟩ := hI
  have o := o.unsep1
  unfold Dk.count
  cases ha : d.arm with
  | none =>
    rw [ha, hoff] at o
    refine (count_none dp h (o.cellB 0 rfl 4)).mono ?_
    rintro v h' ⟨rfl, oc⟩
    exact ⟨rfl, IsDisk.pack (ap := ap) d (o.ext' oc) hd rfl (by rw [ha]) hoff.symm rfl rfl (by rw [ha])⟩
  | some x =>
    obtain ⟨a, w, b⟩ := x
    rw [ha, hoff] at o
    have hx := hd.arm _ ha
    simp only at hx
    obtain ⟨f1, f2⟩ := flatD_len hd.wf
    by_cases hp : 0 < a
    · simp only [if_pos hp]
      refine (count_on B dp sb eb _ ap qv _ _ d.q a w b h hp hx.2 o).mono ?_
      rintro v h' ⟨rfl, oc⟩
      refine ⟨rfl, IsDisk.pack (ap := ap) { d with arm := some (a - 1, w, b) } oc ⟨hd.wf.keep rfl rfl, hd.le, hd.q, ?_⟩ rfl rfl hoff.symm rfl rfl rfl⟩
      intro x hx'
      cases hx'
      exact ⟨by show 0 ≤ a - 1; omega, by show a - 1 < _; omega⟩
    · have : a = 0 := by omega
      subst this
      simp only [if_neg hp]
      refine (count_fail B dp sb eb _ (min (max w 0) d.q.length).toNat ap qv _ _ d.q w b h o f1 f2 hd.le (fun p hp => hd.q p hp) (by omega) (by omega)).mono ?_
      rintro v h' ⟨rfl, S', E', hf, h1, h2, oc⟩
      obtain ⟨k1, k2⟩ := failD_dok hd (min (max w 0) d.q.length).toNat b
      have hf := hf.trans (failD_flat hd _ _)
      rw [fail_eq hoff]
      refine ⟨rfl, IsDisk.pack (ap := ap) _ ((oc.sel [0, 1, 2, 3] rfl).emptyZ) (DOK.bare k1 rfl rfl rfl (by simp)) k2.symm rfl rfl hf rfl rfl⟩

theorem sync_disk (B : Base) (dp : Nat) (d : Dk) (I : Item) (h : Heap) (hI : IsDisk dp d I) (o : Own B [I] h) (hq : d.q.length ≤ 100000) :
    SpecR Tryz.prog 91 [.pointer (some ⟨dp, 0, none⟩)] h fun v h' => v = .int .i64 d.sync.1 ∧ ∃ I', IsDisk dp d.sync.2 I' ∧ Own B [I'] h' := by
  obtain ⟨hd, sb, eb, ap, qv, rfl⟩ := hI
  have o := o.unsep1
  unfold Dk.sync
  cases hoff : d.off with
  | true =>
    rw [hoff] at o
    refine (sync_off dp h (o.cellB 0 rfl 3)).mono ?_
    rintro v h' ⟨rfl, oc⟩
    exact ⟨rfl, IsDisk.pack (ap := ap) d (o.ext' oc) hd rfl rfl hoff.symm rfl rfl rfl⟩
  | false =>
    rw [if_neg (by decide)]
    obtain ⟨f1, f2⟩ := flatD_len hd.wf
    have hq1 : ∀ p ∈ d.q, p.1 < d.st.length ∧ p.2.length ≤ 64 := fun p hp => ⟨(hd.q p hp).1, by rw [(hd.q p hp).2]; exact Nat.le_refl _⟩
    have hs := settle_dok d.q hd hd.q
    have hl := settle_len d.q d
    have hfl : flatD (d.settle d.q) = d.q.foldl setB (d.st.flatten, d.el.flatten) := settle_flat d.q hd.wf hd.q
    obtain ⟨g1, g2, g3⟩ := settle_fields d.q d
    unfold Dk.count
    cases ha : d.arm with
    | none =>
      rw [ha, hoff] at o
      refine (sync_none _ dp sb eb _ qv _ _ d.q h (o.sel [0, 1, 2, 3] rfl) f1 f2 hd.le hq1 (by omega)).mono ?_
      rintro v h' ⟨rfl, S', E', hf, h1, h2, oc⟩
      refine ⟨rfl, IsDisk.pack (ap := ap) { d.settle d.q with q := [] } oc.emptyZ (DOK.bare hs rfl rfl rfl (by rw [show ({ d.settle d.q with q := [] } : Dk).arm = (d.settle d.q).arm from rfl, g3, ha]; simp)) hl.symm (by show _ = almV ap (d.settle d.q).arm; rw [g3, ha]; rfl) (by show _ = (d.settle d.q).off; rw [g2, hoff]) (by rw [hf, ← hfl]; rfl) rfl (by show _ = almI ap (d.settle d.q).arm; rw [g3, ha]; rfl)⟩
    | some x =>
      obtain ⟨a, w, b⟩ := x
      rw [ha, hoff] at o
      have hx := hd.arm _ ha
      simp only at hx
      by_cases hp : 0 < a
      · simp only [if_pos hp]
        refine (sync_on B dp sb eb _ ap qv _ _ d.q a w b h hp hx.2 o f1 f2 hd.le hq1 (by omega)).mono ?_
        rintro v h' ⟨rfl, S', E', hf, h1, h2, oc⟩
        have e1 : ({ d with arm := some (a - 1, w, b) } : Dk).settle d.q = { d.settle d.q with arm := some (a - 1, w, b) } := settle_arm d.q d _
        simp only [ne_eq, not_true_eq_false, if_false]
        rw [e1]
        refine ⟨trivial, IsDisk.pack (ap := ap) _ oc (DOK.bare hs rfl rfl rfl ?_) hl.symm rfl (by show _ = (d.settle d.q).off; rw [g2, hoff]) (by rw [hf, ← hfl]; rfl) rfl rfl⟩
        intro x hx'
        cases hx'
        exact ⟨by show 0 ≤ a - 1; omega, by show a - 1 < _; omega⟩
      · have : a = 0 := by omega
        subst this
        simp only [if_neg hp]
        refine (sync_fail B dp sb eb _ (min (max w 0) d.q.length).toNat ap qv _ _ d.q w b h o f1 f2 hd.le (fun p hp => hd.q p hp) (by omega) (by omega)).mono ?_
        rintro v h' ⟨rfl, S', E', hf, h1, h2, oc⟩
        obtain ⟨k1, k2⟩ := failD_dok hd (min (max w 0) d.q.length).toNat b
        have hf := hf.trans (failD_flat hd _ _)
        rw [fail_eq hoff]
        refine ⟨rfl, IsDisk.pack (ap := ap) _ ((oc.sel [0, 1, 2, 3] rfl).emptyZ) (DOK.bare k1 rfl rfl rfl (by simp)) k2.symm rfl rfl hf rfl rfl⟩

theorem start_disk (B : Base) (dp : Nat) (d : Dk) (I : Item) (h : Heap) (hI : IsDisk dp d I) (o : Own B [I] h) :
    SpecR Tryz.prog 25 [.pointer (some ⟨dp, 0, none⟩)] h fun v h' => v = .tuple #[] ∧ ∃ I', IsDisk dp d.start I' ∧ Own B [I'] h' := by
  obtain ⟨hd, sb, eb, ap, qv, rfl⟩ := hI
  have o := o.unsep1
  refine (start_spec _ dp _ _ _ _ _ h (o.lend [0] [1, 2, 3, 4] rfl)).mono ?_
  rintro v h' ⟨rfl, oc⟩
  exact ⟨rfl, IsDisk.pack (ap := ap) d.start ((oc.back.sel [0, 1, 2, 3] rfl).emptyZ) ⟨hd.wf.keep rfl rfl, hd.le, hd.q, by simp [Dk.start]⟩ rfl rfl rfl rfl rfl rfl⟩

theorem arm_disk (B : Base) (dp : Nat) (d : Dk) (I : Item) (a w b : Int) (h : Heap) (hI : IsDisk dp d I) (o : Own B [I] h) (ha : a < 9223372036854775808) :
    SpecR Tryz.prog 29 [.pointer (some ⟨dp, 0, none⟩), .int .i64 a, .int .i64 w, .int .i64 b] h fun v h' => v = .tuple #[] ∧ ∃ I', IsDisk dp (d.armed a w b) I' ∧ Own B [I'] h' := by
  obtain ⟨hd, sb, eb, ap, qv, rfl⟩ := hI
  have o := o.unsep1
  refine (arm_spec _ dp _ _ _ _ _ h a w b (o.lend [0] [1, 2, 3, 4] rfl)).mono ?_
  rintro v h' ⟨rfl, oc⟩
  refine ⟨rfl, ?_⟩
  unfold Dk.armed
  cases hoff : d.off with
  | true =>
    rw [hoff, if_pos rfl] at oc
    rw [if_pos rfl]
    exact IsDisk.pack (ap := ap) d oc.back hd rfl rfl hoff.symm rfl rfl rfl
  | false =>
    rw [hoff, if_neg (by decide)] at oc
    rw [if_neg (by decide)]
    by_cases h0 : 0 ≤ a
    · rw [if_pos h0] at oc
      obtain ⟨ap', oc⟩ := oc
      rw [if_pos h0]
      refine IsDisk.pack (ap := ap') { d with off := false, arm := some (a, w, b) } (oc.back.sel [0, 2, 3, 4, 1] rfl) ⟨hd.wf.keep rfl rfl, hd.le, hd.q, ?_⟩ rfl rfl rfl rfl rfl rfl
      intro x hx
      cases hx
      exact ⟨h0, ha⟩
    · rw [if_neg h0] at oc
      rw [if_neg h0]
      exact IsDisk.pack (ap := ap) { d with off := false, arm := none } ((oc.back.sel [0, 1, 2, 3] rfl).emptyZ) ⟨hd.wf.keep rfl rfl, hd.le, hd.q, by simp⟩ rfl rfl rfl rfl rfl rfl

theorem stale_disk (B : Base) (dp : Nat) (d : Dk) (I : Item) (i : Int) (h : Heap) (hI : IsDisk dp d I) (o : Own B [I] h) :
    SpecR Tryz.prog 20 [.pointer (some ⟨dp, 0, none⟩), .int .i64 i] h fun v h' => v = .tuple #[] ∧ ∃ I', IsDisk dp (d.stale i) I' ∧ Own B [I'] h' := by
  obtain ⟨hd, sb, eb, ap, qv, rfl⟩ := hI
  have o := o.unsep1
  obtain ⟨f1, f2⟩ := flatD_len hd.wf
  have oo := o.lend [0, 1, 2] [3, 4] rfl
  unfold Dk.stale
  by_cases hi : 0 ≤ i ∧ i < d.st.length
  · obtain ⟨k, rfl⟩ : ∃ k : Nat, i = k := ⟨i.toNat, by omega⟩
    have hk : k < d.st.length := by omega
    rw [if_pos hi]
    refine (stale_in _ dp sb eb _ k _ _ _ _ _ h oo f1 f2 hd.le hk).mono ?_
    rintro v h' ⟨rfl, oc⟩
    have hel := hd.wf.el
    have e1 : (k : Int).toNat = k := rfl
    rw [e1]
    have w : ({ d with st := d.st.set k (d.el.getD k []) } : Dk).Wf d.st.length := ⟨by simp, hd.wf.el, fun j hj => by
      rw [List.getD_eq_getElem?_getD, List.getElem?_set]
      by_cases hjk : k = j
      · subst hjk
        rw [if_pos rfl, if_pos hk]
        exact hd.wf.e64 _ hj
      · rw [if_neg hjk, ← List.getD_eq_getElem?_getD]
        exact hd.wf.s64 j hj, hd.wf.e64⟩
    have el : ({ d with st := d.st.set k (d.el.getD k []) } : Dk).st.length = d.st.length := by simp
    refine ⟨rfl, IsDisk.pack (ap := ap) { d with st := d.st.set k (d.el.getD k []) } oc.back ⟨by rw [el]; exact w, by rw [el]; exact hd.le, by rw [el]; exact hd.q, hd.arm⟩ el.symm rfl rfl ?_ rfl rfl⟩
    unfold flatD
    simp only
    rw [sect_set' hd.wf.sm hk (hd.wf.e64 k hk), sect_get hd.wf.em (by omega)]
  · rw [if_neg hi]
    refine (stale_out _ dp sb eb _ i _ _ _ _ _ h oo f1 f2 hd.le hi).mono ?_
    rintro v h' ⟨rfl, oc⟩
    exact ⟨rfl, IsDisk.pack (ap := ap) d oc.back hd rfl rfl rfl rfl rfl rfl⟩

end Go.Proofs.YtfjajkgfgigodaaGreatDoor

/- The disk: Rot, and Write. -/
namespace Go.Proofs.YtfjajkgfgigodaaGreatDoor
open Go

theorem sect_byte {l : List (List UInt8)} {s i : Nat} {_x : UInt8} (h : ∀ x ∈ l, x.length = 64) (hs : s < l.length) (hi : i < 64) : l.flatten[s * 64 + i]? = (l.getD s [])[i]? := by
  have h1 := sect_get h hs
  rw [← h1, List.getElem?_take, if_pos hi, List.getElem?_drop]

theorem sect_setb {l : List (List UInt8)} {s i : Nat} {x : UInt8} (h : ∀ x ∈ l, x.length = 64) (hs : s < l.length) (hi : i < 64) : (l.set s ((l.getD s []).set i x)).flatten = l.flatten.set (s * 64 + i) x := by
  have h1 : (l.getD s []).length = 64 := by
    have : l.getD s [] = l[s] := by simp [List.getD, hs]
    rw [this]; exact h _ (List.getElem_mem hs)
  rw [sect_set' h hs (by rw [List.length_set]; exact h1)]
  have h2 : l.flatten.drop (s * 64) = l.getD s [] ++ l.flatten.drop ((s + 1) * 64) := by
    rw [← sect_drop l s h, ← sect_drop l (s + 1) h, List.drop_eq_getElem_cons hs, List.flatten_cons]
    simp [List.getD, hs]
  have h3 := sect_len l h
  have e : l.flatten = l.flatten.take (s * 64) ++ (l.getD s [] ++ l.flatten.drop ((s + 1) * 64)) := by rw [← h2, List.take_append_drop]
  have hl : (l.flatten.take (s * 64)).length = s * 64 := by rw [List.length_take]; omega
  have e2 : putAt l.flatten (s * 64) ((l.getD s []).set i x) = l.flatten.take (s * 64) ++ ((l.getD s []).set i x ++ l.flatten.drop ((s + 1) * 64)) := by
    unfold putAt
    rw [List.length_set, h1, show s * 64 + 64 = (s + 1) * 64 from by omega, List.append_assoc]
  rw [e2]
  conv => rhs; rw [e]
  rw [List.set_append_right _ _ (by omega), hl, Nat.add_sub_cancel_left, List.set_append_left _ _ (by omega)]

theorem rot_disk (B : Base) (dp : Nat) (d : Dk) (I : Item) (i a m : Int) (h : Heap) (hI : IsDisk dp d I) (o : Own B [I] h) :
    SpecR Tryz.prog 21 [.pointer (some ⟨dp, 0, none⟩), .int .i64 i, .int .i64 a, .int .i64 m] h fun v h' => v = .tuple #[] ∧ ∃ I', IsDisk dp (d.rot i a m) I' ∧ Own B [I'] h' := by
  obtain ⟨hd, sb, eb, ap, qv, rfl⟩ := hI
  have o := o.unsep1
  obtain ⟨f1, f2⟩ := flatD_len hd.wf
  have oo := o.lend [0, 1, 2] [3, 4] rfl
  unfold Dk.rot
  by_cases hi : 0 ≤ i ∧ i < d.st.length ∧ 0 ≤ a ∧ a < 64 ∧ 0 < m ∧ m < 256
  · obtain ⟨k, rfl⟩ : ∃ k : Nat, i = k := ⟨i.toNat, by omega⟩
    obtain ⟨b, rfl⟩ : ∃ b : Nat, a = b := ⟨a.toNat, by omega⟩
    have hk : k < d.st.length := by omega
    have hb : b < 64 := by omega
    rw [if_pos hi]
    have hs64 := hd.wf.s64 k hk
    obtain ⟨x, hx⟩ := getx (show b < (d.st.getD k []).length by omega)
    have hx2 := (sect_byte (_x := x) hd.wf.sm hk hb).trans hx
    refine (rot_in _ dp sb eb _ k b m x _ _ _ _ _ h oo f1 f2 hd.le hk hb (by omega) (by omega) hx2).mono ?_
    rintro v h' ⟨rfl, oc⟩
    have e1 : (k : Int).toNat = k := rfl
    have e2 : (b : Int).toNat = b := rfl
    rw [e1, e2]
    have e3 : (d.st.getD k []).getD b 0 = x := by rw [List.getD_eq_getElem?_getD, hx]; rfl
    rw [e3]
    have w : ({ d with st := d.st.set k ((d.st.getD k []).set b (x ^^^ UInt8.ofNat m.toNat)) } : Dk).Wf d.st.length := ⟨by simp, hd.wf.el, fun j hj => by
      rw [List.getD_eq_getElem?_getD, List.getElem?_set]
      by_cases hjk : k = j
      · subst hjk
        rw [if_pos rfl, if_pos hk]
        simpa using hs64
      · rw [if_neg hjk, ← List.getD_eq_getElem?_getD]
        exact hd.wf.s64 j hj, hd.wf.e64⟩
    have el : ({ d with st := d.st.set k ((d.st.getD k []).set b (x ^^^ UInt8.ofNat m.toNat)) } : Dk).st.length = d.st.length := by simp
    refine ⟨rfl, IsDisk.pack (ap := ap) { d with st := d.st.set k ((d.st.getD k []).set b (x ^^^ UInt8.ofNat m.toNat)) } oc.back ⟨by rw [el]; exact w, by rw [el]; exact hd.le, by rw [el]; exact hd.q, hd.arm⟩ el.symm rfl rfl ?_ rfl rfl⟩
    unfold flatD
    simp only
    rw [sect_setb hd.wf.sm hk hb]
  · rw [if_neg hi]
    refine (rot_out _ dp sb eb _ i a m _ _ _ _ _ h oo f1 f2 hd.le (fun hx => hi ⟨hx.1.1, hx.1.2, hx.2⟩)).mono ?_
    rintro v h' ⟨rfl, oc⟩
    exact ⟨rfl, IsDisk.pack (ap := ap) d oc.back hd rfl rfl rfl rfl rfl rfl⟩

set_option maxHeartbeats 4000000 in
set_option maxRecDepth 100000 in
theorem write_disk (B : Base) (dp : Nat) (d : Dk) (I : Item) (s : Int) (t : List UInt8) (h : Heap) (hI : IsDisk dp d I) (o : Own B [I] h) (hq : d.q.length ≤ 100000) (_hts : t.length ≤ 1000000000) :
    SpecR Tryz.prog 14 [.pointer (some ⟨dp, 0, none⟩), .int .i64 s, .string ⟨⟨t⟩⟩] h fun v h' => v = .int .i64 (d.write s t).1 ∧ ∃ I', IsDisk dp (d.write s t).2 I' ∧ Own B [I'] h' := by
  obtain ⟨hd, sb, eb, ap, qv, rfl⟩ := hI
  have o := o.unsep1
  obtain ⟨f1, f2⟩ := flatD_len hd.wf
  simp only [DM, DB, List.cons_append, List.nil_append] at o
  have hst : d.st.flatten = (flatD d).1 := rfl
  have hel : d.el.flatten = (flatD d).2 := rfl
  generalize hA : almI ap d.arm = A at o
  generalize hSE : flatD d = SE at hst hel
  obtain ⟨S, E⟩ := SE
  simp only at hst hel
  rw [hst] at o f1
  rw [hel] at o f2
  refine Spec.enter Tryz.func14 rfl Tryz.ntmps14 (by kernel_rfl) ?_
  have hsl : (bytes S).length = 64 * d.st.length := by simpa using f1
  have hsz : (⟨⟨t⟩⟩ : ByteArray).size = t.length := rfl
  have hN := hd.le
  refine CallVC.ret (at_spec dp _ _ d.off _ _ s (o.cellB 0 rfl 0) (o.cellB 0 rfl 3) (o.boxArr 1 rfl hsl (Nat.le_refl _)) f1 hd.le) ?_
  unfold Dk.write
  cases hoff : d.off with
  | true =>
    rw [if_pos rfl, if_pos rfl]
    rintro _ h2 ⟨rfl, oc⟩
    have o2 := o.ext' oc
    clear oc o
    (refine RunVC.alloc o2 ty65 ?_; intro b40 m40 o40)
    (refine RunVC.storeL o40 5 rfl ty65 rfl (by decide) (And.intro ⟨rfl, rfl⟩ ?_); intro m41 o41)
    refine Br.tt ?_
    refine RetVC.one rfl ?_
    exact ⟨rfl, IsDisk.pack (ap := ap) d (Own.sel o41 [0, 1, 2, 3, 4] rfl) hd rfl rfl rfl hSE.symm rfl hA.symm⟩
  | false =>
    rw [if_neg (show ¬ (false = true) by decide), if_neg (show ¬ (false = true) by decide)]
    by_cases hin : inD d.st.length s
    · rw [if_pos hin]
      rintro _ h2 ⟨rfl, oc⟩
      have o2 := o.ext' oc
      clear oc o
      by_cases h64 : t.length = 64
      · rw [if_neg (by have := hin.1; have := hin.2; omega)]
        obtain ⟨k, rfl⟩ : ∃ k : Nat, s = k := ⟨s.toNat, by have := hin.1; omega⟩
        have hk : k < d.st.length := by have := hin.2; omega
        (refine RunVC.alloc o2 ty65 ?_; intro b60 m60 o60)
        (refine RunVC.storeL o60 5 rfl ty65 rfl (by decide) (And.intro ⟨rfl, rfl⟩ ?_); intro m61 o61)
        refine Br.ff ?_
        refine StillVC.run (StillVC.lenS rfl str9 ?_)
        refine Br.ndec (fun hc => absurd (by first | omega | assumption | decide | exact rfl) hc) (fun c63 => ?_)
        refine DrawVC.intro [0, 1, 2, 3, 6, 7, 10, 11] [4, 5] [9, 12] [0, 1, 2, 3, 4, 5, 6, 7, 8, 9, 10, 11, 12] mixed (by kernel_rfl) rfl (fun _ _ _ _ h => h) ?_
        refine StillVC.nilCheck rfl ?_
        refine StillVC.fieldAddr st63 rfl rfl rfl ?_
        refine StillVC.loadO o61 0 rfl ty60 rfl rfl ?_
        refine StillVC.loadON o61 5 rfl ty65 rfl rfl rfl ?_
        refine StillVC.buildK st69 ?_
        refine And.intro rfl ?_
        refine And.intro rfl ?_
        (refine RunVC.litN (Own.refl _) sl60 ty69 rfl rfl (by decide) ?_)
        refine And.intro rfl ?_
        intro b70 m70 o70
        (refine And.intro o70.ext ?_; have o71 := Own.call o61 o70; simp only [List.cons_append, List.nil_append] at o71; clear o70)
        refine RunVC.append o71 3 rfl sl60 ty69 (by decide) (Own.boxArrN o71 6 rfl (n := 1) rfl (by omega)) (by simp [Value.oneCell']) (by simp only [maxLen]; omega) (by omega) ?_
        intro v72 m72 o72
        obtain ⟨xa, xc, rfl⟩ := o72.rowIs 3 rfl
        refine StillVC.nilCheck rfl ?_
        refine StillVC.fieldAddr st63 rfl rfl rfl ?_
        (refine RunVC.store o72 0 rfl ty60 rfl (by simp) (And.intro ⟨rfl, rfl⟩ ?_); intro m82 o82)
        have hd1 : DOK ({ d with off := false, q := d.q ++ [((k : Int).toNat, t)] } : Dk) := ⟨hd.wf.keep rfl rfl, hd.le, fun p hp => by
          rcases List.mem_append.1 hp with hp | hp
          · exact hd.q p hp
          · rw [List.mem_singleton.1 hp]; exact ⟨hk, h64⟩, hd.arm⟩
        have e1 : (d.q ++ [((k : Int).toNat, t)]).flatMap pendC = d.q.flatMap pendC ++ [Value.int IntKind.i64 ((k : Int) * 64), Value.int IntKind.i64 (((k : Int) + 1) * 64), Value.string ⟨⟨t⟩⟩] := by simp [pendC]
        have e2 : (d.q ++ [((k : Int).toNat, t)]).length = d.q.length + 1 := by simp
        have o9 := Own.sel (by assumption) [0, 1, 2, 3, 4] rfl
        obtain ⟨I1, hI1, o1⟩ := IsDisk.pack (dp := dp) (ap := ap) (sb := sb) (eb := eb) (N := d.st.length) (qv := _) (av := almV ap d.arm) (off := d.off) (S := S) (E := E) (q := d.q ++ [((k : Int).toNat, t)]) (A := A) { d with off := false, q := d.q ++ [((k : Int).toNat, t)] } (by simp only [DM, DB, List.cons_append, List.nil_append]; rw [e1, e2]; exact o9) hd1 rfl rfl hoff (by rw [← hSE]; rfl) rfl hA.symm
        refine CallVC.ret (count_disk _ dp _ I1 _ hI1 o1 (by simp only [e2]; omega) rfl) ?_
        rintro v h3 ⟨rfl, hres⟩
        clear o71 o72 o9
        refine RetVC.one rfl ?_
        exact ⟨rfl, hres⟩
      · rw [if_pos (by omega)]
        (refine RunVC.alloc o2 ty65 ?_; intro b60 m60 o60)
        (refine RunVC.storeL o60 5 rfl ty65 rfl (by decide) (And.intro ⟨rfl, rfl⟩ ?_); intro m61 o61)
        refine Br.ff ?_
        refine StillVC.run (StillVC.lenS rfl str9 ?_)
        refine Br.ndec (fun c63 => ?_) (fun hc => absurd hc (by first | omega | assumption | decide | exact rfl))
        refine RetVC.one rfl ?_
        exact ⟨rfl, IsDisk.pack (ap := ap) d (Own.sel (by assumption) [0, 1, 2, 3, 4] rfl) hd rfl rfl rfl hSE.symm rfl hA.symm⟩
    · rw [if_neg hin, if_pos (by have : ¬ (0 ≤ s ∧ s < (d.st.length : Int)) := hin; omega)]
      rintro _ h2 ⟨rfl, oc⟩
      have o2 := o.ext' oc
      clear oc o
      (refine RunVC.alloc o2 ty65 ?_; intro b60 m60 o60)
      (refine RunVC.storeL o60 5 rfl ty65 rfl (by decide) (And.intro ⟨rfl, rfl⟩ ?_); intro m61 o61)
      refine Br.tt ?_
      refine RetVC.one rfl ?_
      exact ⟨rfl, IsDisk.pack (ap := ap) d (Own.sel (by assumption) [0, 1, 2, 3, 4] rfl) hd rfl rfl rfl hSE.symm rfl hA.symm⟩

end Go.Proofs.YtfjajkgfgigodaaGreatDoor

/- The disk: Read, and New. -/
namespace Go.Proofs.YtfjajkgfgigodaaGreatDoor
open Go

theorem lastQ_at {q : List (Nat × List UInt8)} {s i : Nat} {p : Nat × List UInt8} (hp : q[i]? = some p) (hs : p.1 = s) (h : ∀ j y, i < j → q[j]? = some y → y.1 ≠ s) : lastQ q s = some p.2 := by
  have e : q = q.take i ++ p :: q.drop (i + 1) := by
    obtain ⟨hi, rfl⟩ := List.getElem?_eq_some_iff.1 hp
    rw [← List.drop_eq_getElem_cons hi, List.take_append_drop]
  have hn : lastQ (q.drop (i + 1)) s = none := lastQ_none fun y hy => by
    obtain ⟨k, hk⟩ := List.mem_iff_getElem?.1 hy
    rw [List.getElem?_drop] at hk
    exact h _ y (by omega) hk
  rw [e, show q.take i ++ p :: q.drop (i + 1) = (q.take i ++ [p]) ++ q.drop (i + 1) from by simp]
  unfold lastQ at hn ⊢
  rw [List.reverse_append, List.find?_append]
  cases hf : List.find? (fun p => p.1 == s) (q.drop (i + 1)).reverse with
  | some x => rw [hf] at hn; cases hn
  | none => simp [hs]

set_option maxHeartbeats 4000000 in
set_option maxRecDepth 100000 in
theorem read_disk (B : Base) (dp : Nat) (d : Dk) (I : Item) (s : Int) (h : Heap) (hI : IsDisk dp d I) (o : Own B [I] h) (hq : d.q.length ≤ 1000000) :
    SpecR Tryz.prog 22 [.pointer (some ⟨dp, 0, none⟩), .int .i64 s] h fun v h' => v = .tuple ⟨[.string ⟨⟨(d.read s).1⟩⟩, .int .i64 (d.read s).2]⟩ ∧ Own h [] h' := by
  obtain ⟨hd, sb, eb, ap, qv, rfl⟩ := hI
  have o := o.unsep1
  obtain ⟨f1, f2⟩ := flatD_len hd.wf
  simp only [DM, DB, List.cons_append, List.nil_append] at o
  generalize hA : almI ap d.arm = A at o
  have hget : ∀ k, k < d.st.length → (d.st.flatten.drop (k * 64)).take 64 = d.st.getD k [] := fun k hk => sect_get hd.wf.sm hk
  have hR : Reads (row qv 69 3 d.q.length (d.q.flatMap pendC)) 3 qv d.q.length (d.q.flatMap pendC) := row_reads
  generalize d.st.flatten = S at o f1 hget
  have hsl : (bytes S).length = 64 * d.st.length := by simpa using f1
  have hbx := o.boxArr 1 rfl (n := 64 * d.st.length) hsl (Nat.le_refl _)
  obtain ⟨qa, qc, rfl⟩ := hR.isS (o.satK 3 rfl)
  have h3 : cellAt h ⟨dp, 3, none⟩ = some (.bool d.off) := o.cellB 0 rfl 3
  have h0 : cellAt h ⟨dp, 0, none⟩ = some (.slice (some ⟨sb, 0, none⟩) (64 * d.st.length) (64 * d.st.length)) := o.cellB 0 rfl 0
  have h2 : cellAt h ⟨dp, 2, none⟩ = some (.slice qa d.q.length qc) := o.cellB 0 rfl 2
  have hQ := o.reads 3 hR rfl
  have hql : (d.q.flatMap pendC).length = d.q.length * 3 := hQ.1
  have hN := hd.le
  have o0 := Own.refl h
  refine Spec.enter Tryz.func22 rfl Tryz.ntmps22 (by kernel_rfl) ?_
  refine CallVC.ret (at_spec dp _ _ d.off _ _ s h0 h3 hbx f1 hd.le) ?_
  unfold Dk.read
  cases hoff : d.off with
  | true =>
    rw [if_pos rfl, if_pos rfl]
    rintro _ hz ⟨rfl, oc⟩
    have o2 := o0.ext' oc
    clear oc
    (refine RunVC.alloc o2 ty65 ?_; intro b40 m40 o40)
    (refine RunVC.storeL o40 0 rfl ty65 rfl (by decide) (And.intro ⟨rfl, rfl⟩ ?_); intro m41 o41)
    refine Br.tt ?_
    refine RetVC.two rfl ?_
    exact ⟨rfl, o41.sel [] rfl⟩
  | false =>
    rw [if_neg (show ¬ (false = true) by decide), if_neg (show ¬ (false = true) by decide)]
    by_cases hin : inD d.st.length s
    · rw [if_pos hin, if_neg (by have := hin.1; have := hin.2; omega)]
      obtain ⟨k, rfl⟩ : ∃ k : Nat, s = k := ⟨s.toNat, by have := hin.1; omega⟩
      have hk : k < d.st.length := by have := hin.2; omega
      rintro _ hz ⟨rfl, oc⟩
      have o2 := o0.ext' oc
      clear oc
      (refine RunVC.alloc o2 ty65 ?_; intro b60 m60 o60)
      (refine RunVC.storeL o60 0 rfl ty65 rfl (by decide) (And.intro ⟨rfl, rfl⟩ ?_); intro m61 o61)
      refine Br.ff ?_
      refine StillVC.run (StillVC.nilCheck rfl ?_)
      refine StillVC.run (StillVC.fieldAddr st63 rfl rfl rfl ?_)
      refine StillVC.run (StillVC.load1 ty60 rfl (o61.old h2) ?_)
      refine StillVC.run (StillVC.lenV rfl sl60 ?_)
      refine Ar.i64 (by omega) (by omega) ?_
      refine LoopVC.intro [4, 5, 8, 24, 25, 26, 27, 28, 29, 30, 31, 32, 33, 34, 35, 36, 37, 38, 39, 40, 41, 42, 43, 44, 45, 46, 47] [8] (fun vs hh => ∃ (i : Nat), i ≤ d.q.length ∧ vs = [.int .i64 ((i : Int) - 1)] ∧ (∀ j y, i ≤ j → d.q[j]? = some y → y.1 ≠ k) ∧ Own ⟨h, []⟩ [box b60 [.int .i64 ((k : Int) * 64), .int .i64 (((k : Int) + 1) * 64)] 65] hh) (fun vs _ => match vs with | [.int _ i] => (i + 1).toNat | _ => 0) ?_ ?_
      · refine ⟨d.q.length, Nat.le_refl _, rfl, ?_, o61⟩
        intro j y hj hy
        rw [List.getElem?_eq_none hj] at hy
        cases hy
      · rintro vs junk hh ⟨i, hi, rfl, hnone, o⟩
        cases i with
        | zero =>
          refine Br.ff ?_
          refine DrawVC.intro [0, 1, 2, 4, 6, 8, 10, 11] [3, 5, 7, 9] [] [0, 1, 2, 3, 4, 5, 6, 7, 8, 9, 10, 11] mixed (by kernel_rfl) rfl (fun _ _ _ _ h => h) ?_
          refine StillVC.nilCheck rfl ?_
          refine StillVC.fieldAddr st63 rfl rfl rfl ?_
          refine StillVC.load1 ty59 rfl (o.old h0) ?_
          refine StillVC.fieldAddr st65 rfl rfl rfl ?_
          refine StillVC.loadO o 0 rfl ty3 rfl rfl ?_
          refine StillVC.fieldAddr st65 rfl rfl rfl ?_
          refine StillVC.loadO o 0 rfl ty3 rfl rfl ?_
          (refine StillVC.sliceLH sl59 ty5 (hbx.ext o.ext) rfl rfl (by omega) (by omega) (by first | omega | (simp; omega)) ?_; intro v107 a107)
          have e1 : (((k : Int) + 1) * 64).toNat - ((k : Int) * 64).toNat = 64 := by omega
          have e2 : ((k : Int) * 64).toNat = k * 64 := by omega
          rw [e1, e2, show List.take 64 (List.drop (k * 64) (bytes S)) = bytes ((S.drop (k * 64)).take 64) from by simp [bytes], hget k hk] at a107
          refine StillVC.bytesStr a107 sl59 int5 str9 ?_
          refine RetVC.two rfl ?_
          refine ⟨?_, o.sel [] rfl⟩
          have hl : lastQ d.q k = none := lastQ_none fun y hy => by
            obtain ⟨j, hj⟩ := List.mem_iff_getElem?.1 hy
            exact hnone j y (by omega) hj
          show _ = Value.tuple ⟨[Value.string ⟨⟨d.look k⟩⟩, _]⟩
          unfold Dk.look
          rw [hl]
          rfl
        | succ m =>
          obtain ⟨p, hp⟩ := getx (show m < d.q.length by omega)
          have e1 : ((m + 1 : Nat) : Int) - 1 = m := by omega
          rw [e1]
          by_cases hpk : p.1 = k
          · refine Br.dec (fun c100 => ?_) (fun hc => absurd (by omega) hc)
            refine DrawVC.intro [0, 1, 2, 4, 5, 6, 7, 9, 11] [3, 8, 10] [] [0, 1, 2, 3, 4, 5, 6, 7, 8, 9, 10, 11] mixed (by kernel_rfl) rfl (fun _ _ _ _ h => h) ?_
            refine StillVC.nilCheck rfl ?_
            refine StillVC.fieldAddr st63 rfl rfl rfl ?_
            refine StillVC.load1 ty60 rfl (o.old h2) ?_
            refine StillVC.idxN sl60 ty69 (hQ.ext o.ext) rfl (by omega) (by omega) ?_
            refine StillVC.fieldAdr (hQ.ext o.ext) (by omega) st69 rfl rfl rfl ?_
            refine StillVC.fieldAdr (hQ.ext o.ext) (by omega) st65 rfl rfl rfl ?_
            refine StillVC.loadFF (hQ.ext o.ext) ty3 (fun _ => rfl) rfl (by assumption) rfl ?_
            refine StillVC.fieldAddr st65 rfl rfl rfl ?_
            refine StillVC.loadO o 0 rfl ty3 rfl rfl ?_
            refine Br.dec (fun c110 => ?_) (fun hc => absurd (by omega) hc)
            refine StillVC.run (StillVC.nilCheck rfl ?_)
            refine StillVC.run (StillVC.fieldAddr st63 rfl rfl rfl ?_)
            refine StillVC.run (StillVC.load1 ty60 rfl (o.old h2) ?_)
            refine StillVC.run (StillVC.idxN sl60 ty69 (hQ.ext o.ext) rfl (by omega) (by omega) ?_)
            refine StillVC.run (StillVC.fieldAdr (hQ.ext o.ext) (by omega) st69 rfl rfl rfl ?_)
            refine StillVC.run (StillVC.loadFF (hQ.ext o.ext) ty9 (fun _ => rfl) rfl (by assumption) rfl ?_)
            refine RetVC.two rfl ?_
            refine ⟨?_, o.sel [] rfl⟩
            have hl : lastQ d.q k = some p.2 := lastQ_at hp hpk fun j y hj hy => hnone j y (by omega) hy
            show _ = Value.tuple ⟨[Value.string ⟨⟨d.look k⟩⟩, _]⟩
            unfold Dk.look
            rw [hl]
            rfl
          · refine Br.dec (fun c100 => ?_) (fun hc => absurd (by omega) hc)
            refine DrawVC.intro [0, 1, 2, 4, 5, 6, 7, 9, 11] [3, 8, 10] [] [0, 1, 2, 3, 4, 5, 6, 7, 8, 9, 10, 11] mixed (by kernel_rfl) rfl (fun _ _ _ _ h => h) ?_
            refine StillVC.nilCheck rfl ?_
            refine StillVC.fieldAddr st63 rfl rfl rfl ?_
            refine StillVC.load1 ty60 rfl (o.old h2) ?_
            refine StillVC.idxN sl60 ty69 (hQ.ext o.ext) rfl (by omega) (by omega) ?_
            refine StillVC.fieldAdr (hQ.ext o.ext) (by omega) st69 rfl rfl rfl ?_
            refine StillVC.fieldAdr (hQ.ext o.ext) (by omega) st65 rfl rfl rfl ?_
            refine StillVC.loadFF (hQ.ext o.ext) ty3 (fun _ => rfl) rfl (by assumption) rfl ?_
            refine StillVC.fieldAddr st65 rfl rfl rfl ?_
            refine StillVC.loadO o 0 rfl ty3 rfl rfl ?_
            refine Br.dec (fun hc => absurd hc (by omega)) (fun c110 => ?_)
            refine Ar.i64 (by omega) (by omega) ?_
            refine ⟨rfl, ?_⟩
            refine ⟨⟨m, by omega, rfl, ?_, o⟩, by simp only; omega⟩
            intro j y hj hy
            by_cases hjm : j = m
            · subst hjm
              rw [hp] at hy
              cases hy
              exact hpk
            · exact hnone j y (by omega) hy
    · rw [if_neg hin, if_pos (by have : ¬ (0 ≤ s ∧ s < (d.st.length : Int)) := hin; omega)]
      rintro _ hz ⟨rfl, oc⟩
      have o2 := o0.ext' oc
      clear oc
      (refine RunVC.alloc o2 ty65 ?_; intro b60 m60 o60)
      (refine RunVC.storeL o60 0 rfl ty65 rfl (by decide) (And.intro ⟨rfl, rfl⟩ ?_); intro m61 o61)
      refine Br.tt ?_
      refine RetVC.two rfl ?_
      exact ⟨rfl, o61.sel [] rfl⟩

end Go.Proofs.YtfjajkgfgigodaaGreatDoor

/- The disk: New. -/
namespace Go.Proofs.YtfjajkgfgigodaaGreatDoor
open Go

set_option maxHeartbeats 4000000 in
set_option maxRecDepth 100000 in
theorem new_none (n : Int) (h : Heap) (hn : n < 1 ∨ 4000 < n) :
    SpecR Tryz.prog 12 [.int .i64 n] h fun v h' => v = .pointer none ∧ Own h [] h' := by
  refine Spec.enter Tryz.func12 rfl Tryz.ntmps12 (by kernel_rfl) ?_
  have o0 := Own.refl h
  by_cases h1 : n < 1
  · refine Br.dec (fun c20 => ?_) (fun hc => absurd (by omega) hc)
    refine Br.tt ?_
    refine RetVC.one rfl ?_
    exact ⟨rfl, o0⟩
  · have h2 : 4000 < n := by omega
    clear hn
    refine Br.dec (fun hc => absurd hc (by omega)) (fun c20 => ?_)
    refine Br.dec (fun c21 => ?_) (fun hc => absurd (by omega) hc)
    refine RetVC.one rfl ?_
    exact ⟨rfl, o0⟩

theorem rep_flat : ∀ (n : Nat), (List.replicate n zS).flatten = List.replicate (64 * n) 0
  | 0 => rfl
  | n + 1 => by
    rw [List.replicate_succ, List.flatten_cons, rep_flat n, List.replicate_append_replicate]
    congr 1
    omega

theorem new_dok {n : Nat} (h4 : n ≤ 4000) : DOK (newD n) := by
  have e : (newD n).st.length = n := by simp [newD]
  refine ⟨⟨rfl, by simp [newD], fun i hi => ?_, fun i hi => ?_⟩, by rw [e]; exact h4, fun _ hx => absurd hx (by simp [newD]), by simp [newD]⟩
  · rw [e] at hi; simp [newD, List.getD, hi]
  · rw [e] at hi; simp [newD, List.getD, hi]

theorem new_pack {B : Base} {sb eb dp n k : Nat} {h : Heap} (h4 : n ≤ 4000) (hk : k = 64 * n)
    (o : Own B [box dp [.slice (some ⟨sb, 0, none⟩) k k, .slice (some ⟨eb, 0, none⟩) k k, .slice none 0 0, .bool false, .pointer none] 63, box sb (List.replicate k (.int .u8 0)) 5, box eb (List.replicate k (.int .u8 0)) 5] h) : ∃ I, IsDisk dp (newD n) I ∧ Own B [I] h := by
  subst hk
  have e1 : bytes (List.replicate (64 * n) 0) = List.replicate (64 * n) (.int .u8 0) := by simp [bytes]
  rw [← e1] at o
  have o2 := (o.nilRow 69 3).emptyZ
  refine IsDisk.pack (ap := 0) (sb := sb) (eb := eb) (qv := _) (newD n) o2 (new_dok h4) (by simp [newD]) rfl rfl ?_ rfl rfl
  unfold flatD newD
  simp only
  rw [rep_flat]

set_option maxHeartbeats 4000000 in
set_option maxRecDepth 100000 in
theorem new_disk (n : Nat) (h : Heap) (h1 : 1 ≤ n) (h4 : n ≤ 4000) :
    SpecR Tryz.prog 12 [.int .i64 n] h fun v h' => ∃ dp I, v = .pointer (some ⟨dp, 0, none⟩) ∧ IsDisk dp (newD n) I ∧ Own h [I] h' := by
  refine Spec.enter Tryz.func12 rfl Tryz.ntmps12 (by kernel_rfl) ?_
  have o0 := Own.refl h
  refine Br.dec (fun hc => absurd hc (by omega)) (fun c20 => ?_)
  refine Br.dec (fun hc => absurd hc (by omega)) (fun c21 => ?_)
  refine DrawVC.introBT 0 [0, 1, 3, 4, 6, 8] [] [2, 5, 7] (.one 0 (.one 1 (.one 3 (.one 4 (.fork 2 5 (.one 5 (.one 6 (.one 7 (.one 8 .done)))) (.one 2 (.one 6 (.one 7 (.one 8 .done))))))))) mixed (by kernel_rfl) rfl (fun _ _ _ _ h => h) ?_
  refine Ar.i64 (by omega) (by omega) ?_
  refine Ar.i64 (by omega) (by omega) ?_
  refine And.intro ?_ ?_
  · (refine RunVC.make o0 sl59 ty5 rfl rfl (by omega) (by omega) (by omega) ?_; intro b40 m40 o40)
    (refine RunVC.make o40 sl59 ty5 rfl rfl (by omega) (by omega) (by omega) ?_; intro b41 m41 o41)
    refine StillVC.buildK st63 ?_
    refine And.intro rfl ?_
    refine And.intro rfl ?_
    (refine RunVC.boxO o41 rfl ?_; intro b43 m43 o43)
    refine RetVC.one rfl ?_
    obtain ⟨I, hI, o9⟩ := new_pack (n := n) h4 (by omega) (o43.sel [2, 0, 1] rfl)
    exact ⟨_, I, rfl, hI, o9⟩
  · (refine RunVC.make o0 sl59 ty5 rfl rfl (by omega) (by omega) (by omega) ?_; intro b40 m40 o40)
    (refine RunVC.make o40 sl59 ty5 rfl rfl (by omega) (by omega) (by omega) ?_; intro b41 m41 o41)
    refine StillVC.buildK st63 ?_
    refine And.intro rfl ?_
    refine And.intro rfl ?_
    (refine RunVC.boxO o41 rfl ?_; intro b43 m43 o43)
    refine RetVC.one rfl ?_
    obtain ⟨I, hI, o9⟩ := new_pack (n := n) h4 (by omega) (o43.sel [2, 1, 0] rfl)
    exact ⟨_, I, rfl, hI, o9⟩

end Go.Proofs.YtfjajkgfgigodaaGreatDoor
