/-
  The reference's equality of trees, of trees that are equal. The reference's equality of items and programs, of those that are equal. The reference's equality of programs, of those that are equal.
-/
import Derived.Test.YtnmfanjhepepbaaGreatDoorStructs
import Derived.Test.YtnmfanjhepepbaaGreatDoorMPd
import Derived.Test.YtnmfanjhepepbaaGreatDoorMPe
import Derived.Test.YtnmfanjhepepbaaGreatDoorVcSame
set_option linter.all false
/- The reference's equality of trees, of trees that are equal. -/
namespace Go.Proofs.YtnmfanjhepepbaaGreatDoor
open Go

theorem dp_cond : deepP Tryz.prog 5 58 = some (true, [3, 3, 1, 2, 2, 3, 2, 3, 3, 1, 2, 2, 3, 2]) := by kernel_rfl
theorem eg_cond : Tryz.prog.eqGuardType Tryz.prog.depth 58 = false := by kernel_rfl
theorem dp_col : deepP Tryz.prog 5 122 = some (true, [3, 2, 2, 2, 3]) := by kernel_rfl
theorem eg_col : Tryz.prog.eqGuardType Tryz.prog.depth 122 = false := by kernel_rfl
theorem dp_term : deepP Tryz.prog 5 62 = some (true, [3, 2, 2, 2, 2, 2, 2]) := by kernel_rfl
theorem eg_term : Tryz.prog.eqGuardType Tryz.prog.depth 62 = false := by kernel_rfl
theorem dp_var : deepP Tryz.prog 5 108 = some (true, [3, 3]) := by kernel_rfl
theorem eg_var : Tryz.prog.eqGuardType Tryz.prog.depth 108 = false := by kernel_rfl

theorem strs_flat : ∀ (l : List (List UInt8)), l.flatMap strC = strs l
  | [] => rfl
  | x :: l => by
    rw [List.flatMap_cons, strs_flat l]
    rfl

set_option maxHeartbeats 4000000 in
set_option maxRecDepth 100000 in
theorem sstrings_spec (a : List (List UInt8)) (va vb : Value) (h : Heap) (hA : Arr h va (strs a)) (hB : Arr h vb (strs a)) (hl : a.length ≤ 1000000) :
    SpecR Tryz.prog 67 [va, vb] h fun r h' => r = .bool true ∧ Own h [] h' := by
  have hsl : (strs a).length = a.length := by simp [strs]
  refine Spec.enter Tryz.func67 rfl Tryz.ntmps67 (by kernel_rfl) ?_
  have o0 := Own.refl h
  refine StillVC.run (StillVC.lenAn hA (by assumption) sl42 ?_)
  refine StillVC.run (StillVC.lenAn hB (by assumption) sl42 ?_)
  refine Br.ndec (fun hc => absurd (by first | omega | assumption | decide | exact rfl) hc) (fun c12 => ?_)
  refine LoopVC.intro [4, 5, 11, 12, 13, 14, 15, 16, 17, 18, 19, 20, 21, 22, 23, 24, 25] [5] (fun vs hh => ∃ (i : Nat), i ≤ a.length ∧ vs = [.int .i64 i] ∧ Own h [] hh) (fun vs _ => match vs with | [.int _ i] => a.length - i.toNat | _ => 0) ?_ ?_
  · exact ⟨0, by omega, rfl, o0⟩
  · rintro vs junk hh ⟨i, hi, rfl, oh⟩
    by_cases hlt : i < a.length
    · obtain ⟨s, hs⟩ := getx hlt
      have hss : (strs a)[i]? = some (.string ⟨⟨s⟩⟩) := by simp [strs, hs]
      refine StillVC.run (StillVC.lenAn (hA.ext oh.ext) (by assumption) sl42 ?_)
      refine Br.dec (fun c21 => ?_) (fun hc => absurd (by omega) hc)
      refine DrawVC.intro [0, 1, 2, 4, 5, 6, 8] [3, 7] [] [0, 1, 2, 3, 4, 5, 6, 7, 8] mixed (by kernel_rfl) rfl (fun _ _ _ _ h => h) ?_
      refine StillVC.idx sl42 ty9 (hA.ext oh.ext) rfl (by omega) (by omega) ?_
      refine StillVC.loadM (hA.ext oh.ext) ty9 rfl (by first | assumption | rfl) ?_
      refine StillVC.idx sl42 ty9 (hB.ext oh.ext) rfl (by omega) (by omega) ?_
      refine StillVC.loadM (hB.ext oh.ext) ty9 rfl (by first | assumption | rfl) ?_
      refine Br.ndec (fun hc => absurd (by first | omega | assumption | decide | exact rfl) hc) (fun c26 => ?_)
      refine Ar.i64 (by omega) (by omega) ?_
      refine ⟨rfl, ?_⟩
      exact ⟨⟨i + 1, by omega, rfl, Own.sel (by assumption) [] rfl⟩, by simp; omega⟩
    · refine StillVC.run (StillVC.lenAn (hA.ext oh.ext) (by assumption) sl42 ?_)
      refine Br.dec (fun hc => absurd hc (by omega)) (fun c41 => ?_)
      refine RetVC.one rfl ?_
      exact ⟨rfl, oh⟩

set_option maxHeartbeats 4000000 in
set_option maxRecDepth 100000 in
theorem sconds_spec (a : List Cnd) (va vb : Value) (h : Heap) (hA : ArrN 14 h va a.length (a.flatMap cndC)) (hB : ArrN 14 h vb a.length (a.flatMap cndC)) (hl : a.length ≤ 1000000) :
    SpecR Tryz.prog 68 [va, vb] h fun r h' => r = .bool true ∧ Own h [] h' := by
  refine Spec.enter Tryz.func68 rfl Tryz.ntmps68 (by kernel_rfl) ?_
  have o0 := Own.refl h
  refine StillVC.run (StillVC.lenN hA sl46 ?_)
  refine StillVC.run (StillVC.lenN hB sl46 ?_)
  refine Br.ndec (fun hc => absurd (by first | omega | assumption | decide | exact rfl) hc) (fun c12 => ?_)
  refine LoopVC.intro [4, 5, 11, 12, 13, 14, 15, 16, 17, 18, 19, 20, 21, 22, 23, 24, 25] [5] (fun vs hh => ∃ (i : Nat), i ≤ a.length ∧ vs = [.int .i64 i] ∧ Own h [] hh) (fun vs _ => match vs with | [.int _ i] => a.length - i.toNat | _ => 0) ?_ ?_
  · exact ⟨0, by omega, rfl, o0⟩
  · rintro vs junk hh ⟨i, hi, rfl, oh⟩
    by_cases hlt : i < a.length
    · obtain ⟨s, hs⟩ := getx hlt
      refine StillVC.run (StillVC.lenN (hA.ext oh.ext) sl46 ?_)
      refine Br.dec (fun c21 => ?_) (fun hc => absurd (by omega) hc)
      refine DrawVC.intro [0, 1, 2, 4, 5, 6, 8] [3, 7] [] [0, 1, 2, 3, 4, 5, 6, 7, 8] mixed (by kernel_rfl) rfl (fun _ _ _ _ h => h) ?_
      refine StillVC.idxN sl46 ty58 (hA.ext oh.ext) rfl (by omega) (by omega) ?_
      refine StillVC.loadFT ty58 (hA.ext oh.ext) (fun _ => rfl) (by decide) rfl (by assumption) ?_
      refine StillVC.idxN sl46 ty58 (hB.ext oh.ext) rfl (by omega) (by omega) ?_
      refine StillVC.loadFT ty58 (hB.ext oh.ext) (fun _ => rfl) (by decide) rfl (by assumption) ?_
      refine StillVC.neSelf dp_cond eg_cond rfl rfl rfl ?_
      refine Br.ff ?_
      refine Ar.i64 (by omega) (by omega) ?_
      refine ⟨rfl, ?_⟩
      exact ⟨⟨i + 1, by omega, rfl, Own.sel (by assumption) [] rfl⟩, by simp; omega⟩
    · refine StillVC.run (StillVC.lenN (hA.ext oh.ext) sl46 ?_)
      refine Br.dec (fun hc => absurd hc (by omega)) (fun c41 => ?_)
      refine RetVC.one rfl ?_
      exact ⟨rfl, oh⟩

mutual
def exDep : Ex → Nat
  | .mk _ _ ks _ _ _ _ _ _ => exsDep ks + 1
def exsDep : List Ex → Nat
  | [] => 0
  | x :: xs => max (exDep x) (exsDep xs)
end

theorem exsDep_get : ∀ {l : List Ex} {i : Nat} {x : Ex}, l[i]? = some x → exDep x ≤ exsDep l
  | [], _, _, h => by simp at h
  | y :: l, 0, x, h => by simp at h; subst h; rw [exsDep]; exact Nat.le_max_left _ _
  | y :: l, i + 1, x, h => by
    have := exsDep_get (l := l) (i := i) (x := x) (by simpa using h)
    rw [exsDep]
    exact Nat.le_trans this (Nat.le_max_right _ _)

theorem exsQ_get {Q : Nat → Nat → Prop} : ∀ {l m : List Ex} {i : Nat} {x : Ex}, ExsQ Q l m → l[i]? = some x → ∃ y, m[i]? = some y ∧ ExQ Q x y
  | [], _, _, _, _, h => by simp at h
  | a :: l, b :: m, 0, x, hq, h => by simp at h; subst h; exact ⟨b, rfl, hq.1⟩
  | a :: l, b :: m, i + 1, x, hq, h => exsQ_get (l := l) (m := m) (i := i) hq.2 (by simpa using h)
  | a :: l, [], _, _, hq, _ => hq.elim

theorem exsQ_len {Q : Nat → Nat → Prop} : ∀ {l m : List Ex}, ExsQ Q l m → l.length = m.length
  | [], [], _ => rfl
  | a :: l, b :: m, hq => by simp [exsQ_len hq.2]
  | a :: l, [], hq => hq.elim
  | [], b :: m, hq => hq.elim

theorem exsB_get {N : Nat} : ∀ {l : List Ex} {i : Nat} {x : Ex}, ExsB N l → l[i]? = some x → ExB N x
  | [], _, _, _, h => by simp at h
  | a :: l, 0, x, hq, h => by simp at h; subst h; exact hq.1
  | a :: l, i + 1, x, hq, h => exsB_get (l := l) (i := i) hq.2 (by simpa using h)

theorem exsR_get {I : Item} : ∀ {cs : List Cells9} {l : List Ex} {i : Nat} {x : Ex}, exsR I cs l → l[i]? = some x → ∃ c, cs[i]? = some c ∧ exR I c.1 x
  | _, [], _, _, _, h => by simp at h
  | c :: cs, a :: l, 0, x, hq, h => by simp at h; subst h; exact ⟨c, rfl, hq.1⟩
  | c :: cs, a :: l, i + 1, x, hq, h => exsR_get (cs := cs) (l := l) (i := i) hq.2 (by simpa using h)
  | [], a :: l, _, _, hq, _ => hq.elim

theorem exsR_len {I : Item} : ∀ {cs : List Cells9} {l : List Ex}, exsR I cs l → cs.length = l.length
  | [], [], _ => rfl
  | c :: cs, a :: l, hq => by simp [exsR_len hq.2]
  | c :: cs, [], hq => hq.elim
  | [], b :: m, hq => hq.elim

/-- An item holds, and will hold. -/
def SatE (I : Item) (h : Heap) : Prop := ∀ h', Ext h h' → I.sat h'

theorem SatE.ext {I : Item} {h h' : Heap} (s : SatE I h) (e : Ext h h') : SatE I h' := fun h2 e2 => s h2 (e.trans e2)
theorem SatE.sat {I : Item} {h : Heap} (s : SatE I h) : I.sat h := s h (Ext.refl h)
theorem Own.satE {B : Base} {L : List Item} {h : Heap} (o : Own B L h) (k : Nat) {x : Item} (hk : L[k]? = some x) : SatE x h := fun h' e =>
  x.loc h h' (fun b hb => e.old b (o.hi x (List.mem_of_getElem? hk) b hb)) (o.satK k hk)

set_option maxHeartbeats 8000000 in
set_option maxRecDepth 100000 in
theorem sameExpr_spec (Q : Nat → Nat → Prop) (at_ : Bool) (hat : at_ = true → ∀ o o', Q o o' → o = o') (I J : Item) : ∀ (n : Nat) (x y : Ex) (c d : List Value) (h : Heap) (_ : exDep x ≤ n) (_ : ExB 10000 x) (_ : ExQ Q x y) (_ : exR I c x) (_ : exR J d y) (_ : SatE I h) (_ : SatE J h),
    SpecR Tryz.prog 70 [.agg ⟨c⟩, .agg ⟨d⟩, .bool at_] h fun r h' => r = .bool true ∧ Own h [] h'
  | 0, .mk _ _ _ _ _ _ _ _ _, _, _, _, _, hd, _, _, _, _, _, _ => absurd hd (by rw [exDep]; omega)
  | n + 1, .mk k t ks cs ns a s g o, .mk k' t' ks' cs' ns' a' s' g' o', c, d, h, hd, hB, hQ, hc, hD, hIe, hJe => by
    have hI := hIe.sat
    have hJ := hJe.sat
    rw [exDep] at hd
    rw [ExB] at hB
    rw [ExQ] at hQ
    rw [exR] at hc hD
    obtain ⟨rfl, rfl, rfl, rfl, rfl, rfl, rfl, hoo, hks⟩ := hQ
    obtain ⟨vk, vc, vn, rfl, r1, r2, xs, r3, rk⟩ := hc
    obtain ⟨uk, uc, un, rfl, p1, p2, ys, p3, pk⟩ := hD
    obtain ⟨b1, b2, b3, b4⟩ := hB
    have hkl := exsQ_len hks
    have q1 := r1 h hI
    have q2 := r2 h hI
    have q3 := r3 h hI
    have w1 := p1 h hJ
    have w2 := p2 h hJ
    have w3 := p3 h hJ
    obtain ⟨e1, f1, rfl⟩ := r1.isS hI
    obtain ⟨e2, f2, rfl⟩ := r2.isS hI
    obtain ⟨e3, f3, rfl⟩ := r3.isS hI
    obtain ⟨e4, f4, rfl⟩ := p1.isS hJ
    obtain ⟨e5, f5, rfl⟩ := p2.isS hJ
    obtain ⟨e6, f6, rfl⟩ := p3.isS hJ
    rw [strs_flat] at q2 w2
    unfold exC
    refine Spec.enter Tryz.func70 rfl Tryz.ntmps70 (by kernel_rfl) ?_
    have o0 := Own.refl h
    have hkk : at_ = true → o = o' := fun e => hat e _ _ hoo
    have hxs : xs.length = ks.length := exsR_len rk
    have hys : ys.length = ks'.length := exsR_len pk
    cases at_ with
    | true =>
      obtain rfl := hkk rfl
      (refine RunVC.boxO o0 rfl ?_; intro b10 m10 o10)
      (refine RunVC.boxO o10 rfl ?_; intro b11 m11 o11)
      refine Br.tt ?_
      refine StillVC.run (StillVC.fieldAddr st49 rfl rfl rfl ?_)
      refine StillVC.run (StillVC.loadO o11 0 rfl ty3 rfl rfl ?_)
      refine StillVC.run (StillVC.fieldAddr st49 rfl rfl rfl ?_)
      refine StillVC.run (StillVC.loadO o11 1 rfl ty3 rfl rfl ?_)
      refine Br.ndec (fun hc => absurd (by first | omega | assumption | decide | exact rfl) hc) (fun c16 => ?_)
      refine StillVC.run (StillVC.fieldAddr st49 rfl rfl rfl ?_)
      refine StillVC.run (StillVC.loadO o11 0 rfl ty3 rfl rfl ?_)
      refine StillVC.run (StillVC.fieldAddr st49 rfl rfl rfl ?_)
      refine StillVC.run (StillVC.loadO o11 1 rfl ty3 rfl rfl ?_)
      refine Br.ndec (fun hc => absurd (by first | omega | assumption | decide | exact rfl) hc) (fun c21 => ?_)
      refine StillVC.run (StillVC.fieldAddr st49 rfl rfl rfl ?_)
      refine StillVC.run (StillVC.loadO o11 0 rfl ty9 rfl rfl ?_)
      refine StillVC.run (StillVC.fieldAddr st49 rfl rfl rfl ?_)
      refine StillVC.run (StillVC.loadO o11 1 rfl ty9 rfl rfl ?_)
      refine Br.ndec (fun hc => absurd (by first | omega | assumption | decide | exact rfl) hc) (fun c26 => ?_)
      refine StillVC.run (StillVC.fieldAddr st49 rfl rfl rfl ?_)
      refine StillVC.run (StillVC.loadO o11 0 rfl ty9 rfl rfl ?_)
      refine StillVC.run (StillVC.fieldAddr st49 rfl rfl rfl ?_)
      refine StillVC.run (StillVC.loadO o11 1 rfl ty9 rfl rfl ?_)
      refine Br.ndec (fun hc => absurd (by first | omega | assumption | decide | exact rfl) hc) (fun c31 => ?_)
      refine StillVC.run (StillVC.fieldAddr st49 rfl rfl rfl ?_)
      refine StillVC.run (StillVC.loadO o11 0 rfl ty9 rfl rfl ?_)
      refine StillVC.run (StillVC.fieldAddr st49 rfl rfl rfl ?_)
      refine StillVC.run (StillVC.loadO o11 1 rfl ty9 rfl rfl ?_)
      refine Br.ndec (fun hc => absurd (by first | omega | assumption | decide | exact rfl) hc) (fun c36 => ?_)
      refine StillVC.run (StillVC.fieldAddr st49 rfl rfl rfl ?_)
      refine StillVC.run (StillVC.loadO o11 0 rfl ty3 rfl rfl ?_)
      refine StillVC.run (StillVC.fieldAddr st49 rfl rfl rfl ?_)
      refine StillVC.run (StillVC.loadO o11 1 rfl ty3 rfl rfl ?_)
      refine Br.ndec (fun hc => absurd (by first | omega | assumption | decide | exact rfl) hc) (fun c41 => ?_)
      refine StillVC.run (StillVC.fieldAddr st49 rfl rfl rfl ?_)
      refine StillVC.run (StillVC.loadO o11 0 rfl ty47 rfl rfl ?_)
      refine StillVC.run (StillVC.lenV rfl sl47 ?_)
      refine StillVC.run (StillVC.fieldAddr st49 rfl rfl rfl ?_)
      refine StillVC.run (StillVC.loadO o11 1 rfl ty47 rfl rfl ?_)
      refine StillVC.run (StillVC.lenV rfl sl47 ?_)
      refine Br.ndec (fun hc => absurd (by first | omega | assumption | decide | exact rfl) hc) (fun c48 => ?_)
      refine StillVC.run (StillVC.fieldAddr st49 rfl rfl rfl ?_)
      refine StillVC.run (StillVC.loadO o11 0 rfl ty42 rfl rfl ?_)
      refine StillVC.run (StillVC.fieldAddr st49 rfl rfl rfl ?_)
      refine StillVC.run (StillVC.loadO o11 1 rfl ty42 rfl rfl ?_)
      refine CallVC.ret (sstrings_spec ns _ _ _ (q2.ext (Own.ext (h := m11) (by assumption))).to1 (w2.ext (Own.ext (h := m11) (by assumption))).to1 (by omega)) ?_
      rintro _ hs1 ⟨rfl, oc1⟩
      have os1 := oc1.thenE (by assumption)
      refine Br.ff ?_
      refine StillVC.run (StillVC.fieldAddr st49 rfl rfl rfl ?_)
      refine StillVC.run (StillVC.loadO os1 0 rfl ty46 rfl rfl ?_)
      refine StillVC.run (StillVC.fieldAddr st49 rfl rfl rfl ?_)
      refine StillVC.run (StillVC.loadO os1 1 rfl ty46 rfl rfl ?_)
      refine CallVC.ret (sconds_spec cs _ _ _ (q1.ext os1.ext) (w1.ext os1.ext) (by omega)) ?_
      rintro _ hs2 ⟨rfl, oc2⟩
      have os2 := oc2.thenE os1
      refine Br.ff ?_
      refine LoopVC.intro [6, 7, 76, 77, 78, 79, 80, 81, 82, 83, 84, 85, 86, 87, 88, 89, 90, 91, 92, 93, 94, 95] [7] (fun vs hh => ∃ (i : Nat), i ≤ ks.length ∧ vs = [.int .i64 i] ∧ Own h [box b10 [.int .i64 k, .string ⟨⟨t⟩⟩, .slice e3 ks.length f3, .slice e1 cs.length f1, .slice e2 ns.length f2, .string ⟨⟨a⟩⟩, .string ⟨⟨s⟩⟩, .int .i64 g, .int .i64 o] 49, box b11 [.int .i64 k, .string ⟨⟨t⟩⟩, .slice e6 ks'.length f6, .slice e4 cs.length f4, .slice e5 ns.length f5, .string ⟨⟨a⟩⟩, .string ⟨⟨s⟩⟩, .int .i64 g, .int .i64 o] 49] hh) (fun vs _ => match vs with | [.int _ i] => ks.length - i.toNat | _ => 0) ?_ ?_
      · exact ⟨0, by omega, rfl, os2⟩
      · rintro vs junk hh ⟨i, hi, rfl, oh⟩
        clear oc1 os1 oc2 os2
        by_cases hlt : i < ks.length
        · obtain ⟨kx, hkx⟩ := getx hlt
          obtain ⟨ky, hky, hq⟩ := exsQ_get hks hkx
          obtain ⟨cx, hcx, hrx⟩ := exsR_get rk hkx
          obtain ⟨cy, hcy, hry⟩ := exsR_get pk hky
          refine StillVC.run (StillVC.fieldAddr st49 rfl rfl rfl ?_)
          refine StillVC.run (StillVC.loadO oh 0 rfl ty47 rfl rfl ?_)
          refine StillVC.run (StillVC.lenV rfl sl47 ?_)
          refine Br.dec (fun c313 => ?_) (fun hc => absurd (by omega) hc)
          refine DrawVC.intro [0, 2, 3, 5, 7, 8, 10, 12] [1, 4, 6, 9] [11] [0, 1, 2, 3, 4, 5, 6, 7, 8, 9, 10, 11, 12] mixed (by kernel_rfl) rfl (fun _ _ _ _ h => h) ?_
          refine StillVC.fieldAddr st49 rfl rfl rfl ?_
          refine StillVC.loadO oh 0 rfl ty47 rfl rfl ?_
          refine StillVC.idxN sl47 ty49 (q3.ext oh.ext) rfl (by omega) (by omega) ?_
          refine StillVC.loadFT ty49 (q3.ext oh.ext) (fun y : Cells9 => y.2) (by decide) rfl (by assumption) ?_
          refine StillVC.fieldAddr st49 rfl rfl rfl ?_
          refine StillVC.loadO oh 1 rfl ty47 rfl rfl ?_
          refine StillVC.idxN sl47 ty49 (w3.ext oh.ext) rfl (by omega) (by omega) ?_
          refine StillVC.loadFT ty49 (w3.ext oh.ext) (fun y : Cells9 => y.2) (by decide) rfl (by assumption) ?_
          refine CallVC.ret (sameExpr_spec Q true hat I J n kx ky cx.1 cy.1 _ (Nat.le_trans (exsDep_get hkx) (by omega)) (exsB_get b4 hkx) hq hrx hry (hIe.ext oh.ext) (hJe.ext oh.ext)) ?_
          rintro _ hs3 ⟨rfl, oc3⟩
          have os3 := oc3.thenE oh
          refine Br.ff ?_
          refine Ar.i64 (by omega) (by omega) ?_
          refine ⟨rfl, ?_⟩
          exact ⟨⟨i + 1, by omega, rfl, Own.sel (by assumption) [0, 1] rfl⟩, by simp; omega⟩
        · refine StillVC.run (StillVC.fieldAddr st49 rfl rfl rfl ?_)
          refine StillVC.run (StillVC.loadO oh 0 rfl ty47 rfl rfl ?_)
          refine StillVC.run (StillVC.lenV rfl sl47 ?_)
          refine Br.dec (fun hc => absurd hc (by omega)) (fun c413 => ?_)
          refine RetVC.one rfl ?_
          exact ⟨rfl, Own.sel (by assumption) [] rfl⟩
    | false =>
      (refine RunVC.boxO o0 rfl ?_; intro b1010 m1010 o1010)
      (refine RunVC.boxO o1010 rfl ?_; intro b1011 m1011 o1011)
      refine Br.ff ?_
      refine StillVC.run (StillVC.fieldAddr st49 rfl rfl rfl ?_)
      refine StillVC.run (StillVC.loadO o1011 0 rfl ty3 rfl rfl ?_)
      refine StillVC.run (StillVC.fieldAddr st49 rfl rfl rfl ?_)
      refine StillVC.run (StillVC.loadO o1011 1 rfl ty3 rfl rfl ?_)
      refine Br.ndec (fun hc => absurd (by first | omega | assumption | decide | exact rfl) hc) (fun c1016 => ?_)
      refine StillVC.run (StillVC.fieldAddr st49 rfl rfl rfl ?_)
      refine StillVC.run (StillVC.loadO o1011 0 rfl ty9 rfl rfl ?_)
      refine StillVC.run (StillVC.fieldAddr st49 rfl rfl rfl ?_)
      refine StillVC.run (StillVC.loadO o1011 1 rfl ty9 rfl rfl ?_)
      refine Br.ndec (fun hc => absurd (by first | omega | assumption | decide | exact rfl) hc) (fun c1021 => ?_)
      refine StillVC.run (StillVC.fieldAddr st49 rfl rfl rfl ?_)
      refine StillVC.run (StillVC.loadO o1011 0 rfl ty9 rfl rfl ?_)
      refine StillVC.run (StillVC.fieldAddr st49 rfl rfl rfl ?_)
      refine StillVC.run (StillVC.loadO o1011 1 rfl ty9 rfl rfl ?_)
      refine Br.ndec (fun hc => absurd (by first | omega | assumption | decide | exact rfl) hc) (fun c1026 => ?_)
      refine StillVC.run (StillVC.fieldAddr st49 rfl rfl rfl ?_)
      refine StillVC.run (StillVC.loadO o1011 0 rfl ty9 rfl rfl ?_)
      refine StillVC.run (StillVC.fieldAddr st49 rfl rfl rfl ?_)
      refine StillVC.run (StillVC.loadO o1011 1 rfl ty9 rfl rfl ?_)
      refine Br.ndec (fun hc => absurd (by first | omega | assumption | decide | exact rfl) hc) (fun c1031 => ?_)
      refine StillVC.run (StillVC.fieldAddr st49 rfl rfl rfl ?_)
      refine StillVC.run (StillVC.loadO o1011 0 rfl ty3 rfl rfl ?_)
      refine StillVC.run (StillVC.fieldAddr st49 rfl rfl rfl ?_)
      refine StillVC.run (StillVC.loadO o1011 1 rfl ty3 rfl rfl ?_)
      refine Br.ndec (fun hc => absurd (by first | omega | assumption | decide | exact rfl) hc) (fun c1036 => ?_)
      refine StillVC.run (StillVC.fieldAddr st49 rfl rfl rfl ?_)
      refine StillVC.run (StillVC.loadO o1011 0 rfl ty47 rfl rfl ?_)
      refine StillVC.run (StillVC.lenV rfl sl47 ?_)
      refine StillVC.run (StillVC.fieldAddr st49 rfl rfl rfl ?_)
      refine StillVC.run (StillVC.loadO o1011 1 rfl ty47 rfl rfl ?_)
      refine StillVC.run (StillVC.lenV rfl sl47 ?_)
      refine Br.ndec (fun hc => absurd (by first | omega | assumption | decide | exact rfl) hc) (fun c1043 => ?_)
      refine StillVC.run (StillVC.fieldAddr st49 rfl rfl rfl ?_)
      refine StillVC.run (StillVC.loadO o1011 0 rfl ty42 rfl rfl ?_)
      refine StillVC.run (StillVC.fieldAddr st49 rfl rfl rfl ?_)
      refine StillVC.run (StillVC.loadO o1011 1 rfl ty42 rfl rfl ?_)
      refine CallVC.ret (sstrings_spec ns _ _ _ (q2.ext (Own.ext (h := m1011) (by assumption))).to1 (w2.ext (Own.ext (h := m1011) (by assumption))).to1 (by omega)) ?_
      rintro _ hs1 ⟨rfl, oc1⟩
      have os1 := oc1.thenE (by assumption)
      refine Br.ff ?_
      refine StillVC.run (StillVC.fieldAddr st49 rfl rfl rfl ?_)
      refine StillVC.run (StillVC.loadO os1 0 rfl ty46 rfl rfl ?_)
      refine StillVC.run (StillVC.fieldAddr st49 rfl rfl rfl ?_)
      refine StillVC.run (StillVC.loadO os1 1 rfl ty46 rfl rfl ?_)
      refine CallVC.ret (sconds_spec cs _ _ _ (q1.ext os1.ext) (w1.ext os1.ext) (by omega)) ?_
      rintro _ hs2 ⟨rfl, oc2⟩
      have os2 := oc2.thenE os1
      refine Br.ff ?_
      refine LoopVC.intro [6, 7, 76, 77, 78, 79, 80, 81, 82, 83, 84, 85, 86, 87, 88, 89, 90, 91, 92, 93, 94, 95] [7] (fun vs hh => ∃ (i : Nat), i ≤ ks.length ∧ vs = [.int .i64 i] ∧ Own h [box b1010 [.int .i64 k, .string ⟨⟨t⟩⟩, .slice e3 ks.length f3, .slice e1 cs.length f1, .slice e2 ns.length f2, .string ⟨⟨a⟩⟩, .string ⟨⟨s⟩⟩, .int .i64 g, .int .i64 o] 49, box b1011 [.int .i64 k, .string ⟨⟨t⟩⟩, .slice e6 ks'.length f6, .slice e4 cs.length f4, .slice e5 ns.length f5, .string ⟨⟨a⟩⟩, .string ⟨⟨s⟩⟩, .int .i64 g, .int .i64 o'] 49] hh) (fun vs _ => match vs with | [.int _ i] => ks.length - i.toNat | _ => 0) ?_ ?_
      · exact ⟨0, by omega, rfl, os2⟩
      · rintro vs junk hh ⟨i, hi, rfl, oh⟩
        clear oc1 os1 oc2 os2
        by_cases hlt : i < ks.length
        · obtain ⟨kx, hkx⟩ := getx hlt
          obtain ⟨ky, hky, hq⟩ := exsQ_get hks hkx
          obtain ⟨cx, hcx, hrx⟩ := exsR_get rk hkx
          obtain ⟨cy, hcy, hry⟩ := exsR_get pk hky
          refine StillVC.run (StillVC.fieldAddr st49 rfl rfl rfl ?_)
          refine StillVC.run (StillVC.loadO oh 0 rfl ty47 rfl rfl ?_)
          refine StillVC.run (StillVC.lenV rfl sl47 ?_)
          refine Br.dec (fun c1313 => ?_) (fun hc => absurd (by omega) hc)
          refine DrawVC.intro [0, 2, 3, 5, 7, 8, 10, 12] [1, 4, 6, 9] [11] [0, 1, 2, 3, 4, 5, 6, 7, 8, 9, 10, 11, 12] mixed (by kernel_rfl) rfl (fun _ _ _ _ h => h) ?_
          refine StillVC.fieldAddr st49 rfl rfl rfl ?_
          refine StillVC.loadO oh 0 rfl ty47 rfl rfl ?_
          refine StillVC.idxN sl47 ty49 (q3.ext oh.ext) rfl (by omega) (by omega) ?_
          refine StillVC.loadFT ty49 (q3.ext oh.ext) (fun y : Cells9 => y.2) (by decide) rfl (by assumption) ?_
          refine StillVC.fieldAddr st49 rfl rfl rfl ?_
          refine StillVC.loadO oh 1 rfl ty47 rfl rfl ?_
          refine StillVC.idxN sl47 ty49 (w3.ext oh.ext) rfl (by omega) (by omega) ?_
          refine StillVC.loadFT ty49 (w3.ext oh.ext) (fun y : Cells9 => y.2) (by decide) rfl (by assumption) ?_
          refine CallVC.ret (sameExpr_spec Q false hat I J n kx ky cx.1 cy.1 _ (Nat.le_trans (exsDep_get hkx) (by omega)) (exsB_get b4 hkx) hq hrx hry (hIe.ext oh.ext) (hJe.ext oh.ext)) ?_
          rintro _ hs3 ⟨rfl, oc3⟩
          have os3 := oc3.thenE oh
          refine Br.ff ?_
          refine Ar.i64 (by omega) (by omega) ?_
          refine ⟨rfl, ?_⟩
          exact ⟨⟨i + 1, by omega, rfl, Own.sel (by assumption) [0, 1] rfl⟩, by simp; omega⟩
        · refine StillVC.run (StillVC.fieldAddr st49 rfl rfl rfl ?_)
          refine StillVC.run (StillVC.loadO oh 0 rfl ty47 rfl rfl ?_)
          refine StillVC.run (StillVC.lenV rfl sl47 ?_)
          refine Br.dec (fun hc => absurd hc (by omega)) (fun c1413 => ?_)
          refine RetVC.one rfl ?_
          exact ⟨rfl, Own.sel (by assumption) [] rfl⟩

end Go.Proofs.YtnmfanjhepepbaaGreatDoor

/- The reference's equality of items and programs, of those that are equal. -/
namespace Go.Proofs.YtnmfanjhepepbaaGreatDoor
open Go

theorem flat_getS {α : Type} {f : α → List Value} {sz i off m : Nat} {ys : List α} {y : α} (hf : ∀ y, (f y).length = sz) (hy : ys[i]? = some y) (hm : off + m ≤ sz) : ((ys.flatMap f).drop (i * sz + off)).take m = ((f y).drop off).take m := by
  obtain ⟨hi, he⟩ := List.getElem?_eq_some_iff.1 hy
  rw [← List.drop_drop, flat_drop hf, List.drop_eq_getElem_cons hi, he, List.flatMap_cons, List.drop_append_of_le_length (by rw [hf]; omega), List.take_append_of_le_length (by rw [List.length_drop, hf]; omega)]

/-- A struct in an element of a slice. -/
theorem StillVC.loadFS {P : Program} {ty : TypeId} {s : List Value} {h : Heap} {K : KK} {α : Type} {t : TypeId} {x : Operand} {zero vs : List Value} {by_ n i off sz : Nat} {v : Value} {f : α → List Value} {ys : List α} {y : α} (hT : TyI P t true zero by_) (hA : ArrN sz h v n (ys.flatMap f)) (hf : ∀ y, (f y).length = sz)
    (hz : 0 < zero.length) (hm : off + zero.length ≤ sz) (hx : ev s x = adr v (i * sz + off)) (hy : ys[i]? = some y) (hv : ((f y).drop off).take zero.length = vs) (hk : K (.agg ⟨vs⟩) false h) : StillVC false P (.load t x) ty s h K :=
  .loadAN hA hT hx ((flat_getS hf hy hm).trans hv) (by rw [← hv, List.length_take, List.length_drop, hf]; omega) hz hk

set_option maxHeartbeats 4000000 in
set_option maxRecDepth 100000 in
theorem rcompare_self (k n : Int) (t : List UInt8) (h : Heap) : SpecR Tryz.prog 69 [.agg ⟨[.int .i64 k, .int .i64 n, .string ⟨⟨t⟩⟩]⟩, .agg ⟨[.int .i64 k, .int .i64 n, .string ⟨⟨t⟩⟩]⟩] h fun r h' => r = .int .i64 0 ∧ Own h [] h' := by
  have o0 := Own.refl h
  have hl : Op.bytesLess t t = false := by
    have : ∀ l : List UInt8, Op.bytesLess l l = false := by
      intro l
      induction l with
      | nil => rfl
      | cons c l ih => simp [Op.bytesLess, ih]
    exact this t
  have hg : (!(Op.bytesLess t t || t == t)) = false := by rw [hl]; simp
  refine Spec.enter Tryz.func69 rfl Tryz.ntmps69 (by kernel_rfl) ?_
  (refine RunVC.boxO o0 rfl ?_; intro b10 m10 o10)
  (refine RunVC.boxO o10 rfl ?_; intro b11 m11 o11)
  refine StillVC.run (StillVC.fieldAddr st54 rfl rfl rfl ?_)
  refine StillVC.run (StillVC.loadO o11 0 rfl ty3 rfl rfl ?_)
  refine StillVC.run (StillVC.fieldAddr st54 rfl rfl rfl ?_)
  refine StillVC.run (StillVC.loadO o11 1 rfl ty3 rfl rfl ?_)
  refine Br.ndec (fun hc => absurd (by first | omega | assumption | decide | exact rfl) hc) (fun c16 => ?_)
  refine StillVC.run (StillVC.fieldAddr st54 rfl rfl rfl ?_)
  refine StillVC.run (StillVC.loadO o11 0 rfl ty3 rfl rfl ?_)
  refine StillVC.run (StillVC.fieldAddr st54 rfl rfl rfl ?_)
  refine StillVC.run (StillVC.loadO o11 1 rfl ty3 rfl rfl ?_)
  refine Br.ndec (fun hc => absurd (by first | omega | assumption | decide | exact rfl) hc) (fun c21 => ?_)
  refine StillVC.run (StillVC.fieldAddr st54 rfl rfl rfl ?_)
  refine StillVC.run (StillVC.loadO o11 0 rfl ty9 rfl rfl ?_)
  refine StillVC.run (StillVC.fieldAddr st54 rfl rfl rfl ?_)
  refine StillVC.run (StillVC.loadO o11 1 rfl ty9 rfl rfl ?_)
  refine StillVC.run (StillVC.strLss rfl rfl ?_)
  refine Br.ffE (by assumption) ?_
  refine StillVC.run (StillVC.fieldAddr st54 rfl rfl rfl ?_)
  refine StillVC.run (StillVC.loadO o11 0 rfl ty9 rfl rfl ?_)
  refine StillVC.run (StillVC.fieldAddr st54 rfl rfl rfl ?_)
  refine StillVC.run (StillVC.loadO o11 1 rfl ty9 rfl rfl ?_)
  refine StillVC.run (StillVC.strGtr rfl rfl ?_)
  refine Br.ffE (by assumption) ?_
  refine RetVC.one rfl ?_
  exact ⟨rfl, Own.sel (by assumption) [] rfl⟩

set_option maxHeartbeats 8000000 in
set_option maxRecDepth 100000 in
theorem sameItem_spec (Q : Nat → Nat → Prop) (at_ : Bool) (hat : at_ = true → ∀ o o', Q o o' → o = o') (I J : Item) (x y : It) (c d : List Value) (h : Heap) (hB : ItB 10000 x) (hQ : ItQ Q x y) (hc : itR I c x) (hD : itR J d y) (hIe : SatE I h) (hJe : SatE J h) :
    SpecR Tryz.prog 28 [.agg ⟨c⟩, .agg ⟨d⟩, .bool at_] h fun r h' => r = .bool true ∧ Own h [] h' := by
  have hI := hIe.sat
  have hJ := hJe.sat
  obtain ⟨o', ey, rfl, hoo, hex⟩ := hQ
  obtain ⟨vc, vn, vt, vf, vv, vd, e0, e1, e2, e3, e4, e5, e6, e7, e8, rfl, r1, r2, r3, r4, r5, r6, rx⟩ := hc
  obtain ⟨uc, un, ut, uf, uv, ud, f0, f1, f2, f3, f4, f5, f6, f7, f8, rfl, p1, p2, p3, p4, p5, p6, px⟩ := hD
  obtain ⟨b1, b2, b3, b4, b5, b6, b7⟩ := hB
  have hkk : at_ = true → x.off = o' := fun e => hat e _ _ hoo
  have q1 := r1 h hI
  have q2 := r2 h hI
  have q3 := r3 h hI
  have q4 := r4 h hI
  have q5 := r5 h hI
  have q6 := r6 h hI
  have w1 := p1 h hJ
  have w2 := p2 h hJ
  have w3 := p3 h hJ
  have w4 := p4 h hJ
  have w5 := p5 h hJ
  have w6 := p6 h hJ
  obtain ⟨y1, z1, rfl⟩ := r1.isS hI
  obtain ⟨y2, z2, rfl⟩ := r2.isS hI
  obtain ⟨y3, z3, rfl⟩ := r3.isS hI
  obtain ⟨y4, z4, rfl⟩ := r4.isS hI
  obtain ⟨y5, z5, rfl⟩ := r5.isS hI
  obtain ⟨y6, z6, rfl⟩ := r6.isS hI
  obtain ⟨yy1, zz1, rfl⟩ := p1.isS hJ
  obtain ⟨yy2, zz2, rfl⟩ := p2.isS hJ
  obtain ⟨yy3, zz3, rfl⟩ := p3.isS hJ
  obtain ⟨yy4, zz4, rfl⟩ := p4.isS hJ
  obtain ⟨yy5, zz5, rfl⟩ := p5.isS hJ
  obtain ⟨yy6, zz6, rfl⟩ := p6.isS hJ
  rw [strs_flat] at q2 w2
  clear r1 r2 r3 r4 r5 r6 p1 p2 p3 p4 p5 p6
  dsimp only at w1 w2 w3 w4 w5 w6 px
  obtain ⟨kind, name, off, table, attr, cols, names, by_, n, m, terms, other, oattr, fixed, vars, conds, expr⟩ := x
  dsimp only at *
  unfold itC
  dsimp only
  refine Spec.enter Tryz.func28 rfl Tryz.ntmps28 (by kernel_rfl) ?_
  have o0 := Own.refl h
  cases at_ with
  | true =>
    obtain rfl := hkk rfl
    (refine RunVC.boxO o0 rfl ?_; intro b10 m10 o10)
    (refine RunVC.boxO o10 rfl ?_; intro b11 m11 o11)
    refine Br.tt ?_
    refine StillVC.run (StillVC.fieldAddr st51 rfl rfl rfl ?_)
    refine StillVC.run (StillVC.loadO o11 0 rfl ty3 rfl rfl ?_)
    refine StillVC.run (StillVC.fieldAddr st51 rfl rfl rfl ?_)
    refine StillVC.run (StillVC.loadO o11 1 rfl ty3 rfl rfl ?_)
    refine Br.ndec (fun hc => absurd (by first | omega | assumption | decide | exact rfl) hc) (fun c16 => ?_)
    refine StillVC.run (StillVC.fieldAddr st51 rfl rfl rfl ?_)
    refine StillVC.run (StillVC.loadO o11 0 rfl ty3 rfl rfl ?_)
    refine StillVC.run (StillVC.fieldAddr st51 rfl rfl rfl ?_)
    refine StillVC.run (StillVC.loadO o11 1 rfl ty3 rfl rfl ?_)
    refine Br.ndec (fun hc => absurd (by first | omega | assumption | decide | exact rfl) hc) (fun c21 => ?_)
    refine StillVC.run (StillVC.fieldAddr st51 rfl rfl rfl ?_)
    refine StillVC.run (StillVC.loadO o11 0 rfl ty9 rfl rfl ?_)
    refine StillVC.run (StillVC.fieldAddr st51 rfl rfl rfl ?_)
    refine StillVC.run (StillVC.loadO o11 1 rfl ty9 rfl rfl ?_)
    refine Br.ndec (fun hc => absurd (by first | omega | assumption | decide | exact rfl) hc) (fun c26 => ?_)
    refine StillVC.run (StillVC.fieldAddr st51 rfl rfl rfl ?_)
    refine StillVC.run (StillVC.loadO o11 0 rfl ty9 rfl rfl ?_)
    refine StillVC.run (StillVC.fieldAddr st51 rfl rfl rfl ?_)
    refine StillVC.run (StillVC.loadO o11 1 rfl ty9 rfl rfl ?_)
    refine Br.ndec (fun hc => absurd (by first | omega | assumption | decide | exact rfl) hc) (fun c31 => ?_)
    refine StillVC.run (StillVC.fieldAddr st51 rfl rfl rfl ?_)
    refine StillVC.run (StillVC.loadO o11 0 rfl ty9 rfl rfl ?_)
    refine StillVC.run (StillVC.fieldAddr st51 rfl rfl rfl ?_)
    refine StillVC.run (StillVC.loadO o11 1 rfl ty9 rfl rfl ?_)
    refine Br.ndec (fun hc => absurd (by first | omega | assumption | decide | exact rfl) hc) (fun c36 => ?_)
    refine StillVC.run (StillVC.fieldAddr st51 rfl rfl rfl ?_)
    refine StillVC.run (StillVC.loadO o11 0 rfl ty3 rfl rfl ?_)
    refine StillVC.run (StillVC.fieldAddr st51 rfl rfl rfl ?_)
    refine StillVC.run (StillVC.loadO o11 1 rfl ty3 rfl rfl ?_)
    refine Br.ndec (fun hc => absurd (by first | omega | assumption | decide | exact rfl) hc) (fun c41 => ?_)
    refine StillVC.run (StillVC.fieldAddr st51 rfl rfl rfl ?_)
    refine StillVC.run (StillVC.loadO o11 0 rfl ty3 rfl rfl ?_)
    refine StillVC.run (StillVC.fieldAddr st51 rfl rfl rfl ?_)
    refine StillVC.run (StillVC.loadO o11 1 rfl ty3 rfl rfl ?_)
    refine Br.ndec (fun hc => absurd (by first | omega | assumption | decide | exact rfl) hc) (fun c46 => ?_)
    refine StillVC.run (StillVC.fieldAddr st51 rfl rfl rfl ?_)
    refine StillVC.run (StillVC.loadO o11 0 rfl ty3 rfl rfl ?_)
    refine StillVC.run (StillVC.fieldAddr st51 rfl rfl rfl ?_)
    refine StillVC.run (StillVC.loadO o11 1 rfl ty3 rfl rfl ?_)
    refine Br.ndec (fun hc => absurd (by first | omega | assumption | decide | exact rfl) hc) (fun c51 => ?_)
    refine StillVC.run (StillVC.fieldAddr st51 rfl rfl rfl ?_)
    refine StillVC.run (StillVC.loadO o11 0 rfl ty9 rfl rfl ?_)
    refine StillVC.run (StillVC.fieldAddr st51 rfl rfl rfl ?_)
    refine StillVC.run (StillVC.loadO o11 1 rfl ty9 rfl rfl ?_)
    refine Br.ndec (fun hc => absurd (by first | omega | assumption | decide | exact rfl) hc) (fun c56 => ?_)
    refine StillVC.run (StillVC.fieldAddr st51 rfl rfl rfl ?_)
    refine StillVC.run (StillVC.loadO o11 0 rfl ty9 rfl rfl ?_)
    refine StillVC.run (StillVC.fieldAddr st51 rfl rfl rfl ?_)
    refine StillVC.run (StillVC.loadO o11 1 rfl ty9 rfl rfl ?_)
    refine Br.ndec (fun hc => absurd (by first | omega | assumption | decide | exact rfl) hc) (fun c61 => ?_)
    refine StillVC.run (StillVC.fieldAddr st51 rfl rfl rfl ?_)
    refine StillVC.run (StillVC.loadO o11 0 rfl ty41 rfl rfl ?_)
    refine StillVC.run (StillVC.lenV rfl sl41 ?_)
    refine StillVC.run (StillVC.fieldAddr st51 rfl rfl rfl ?_)
    refine StillVC.run (StillVC.loadO o11 1 rfl ty41 rfl rfl ?_)
    refine StillVC.run (StillVC.lenV rfl sl41 ?_)
    refine Br.ndec (fun hc => absurd (by first | omega | assumption | decide | exact rfl) hc) (fun c68 => ?_)
    refine StillVC.run (StillVC.fieldAddr st51 rfl rfl rfl ?_)
    refine StillVC.run (StillVC.loadO o11 0 rfl ty43 rfl rfl ?_)
    refine StillVC.run (StillVC.lenV rfl sl43 ?_)
    refine StillVC.run (StillVC.fieldAddr st51 rfl rfl rfl ?_)
    refine StillVC.run (StillVC.loadO o11 1 rfl ty43 rfl rfl ?_)
    refine StillVC.run (StillVC.lenV rfl sl43 ?_)
    refine Br.ndec (fun hc => absurd (by first | omega | assumption | decide | exact rfl) hc) (fun c75 => ?_)
    refine StillVC.run (StillVC.fieldAddr st51 rfl rfl rfl ?_)
    refine StillVC.run (StillVC.loadO o11 0 rfl ty44 rfl rfl ?_)
    refine StillVC.run (StillVC.lenV rfl sl44 ?_)
    refine StillVC.run (StillVC.fieldAddr st51 rfl rfl rfl ?_)
    refine StillVC.run (StillVC.loadO o11 1 rfl ty44 rfl rfl ?_)
    refine StillVC.run (StillVC.lenV rfl sl44 ?_)
    refine Br.ndec (fun hc => absurd (by first | omega | assumption | decide | exact rfl) hc) (fun c82 => ?_)
    refine StillVC.run (StillVC.fieldAddr st51 rfl rfl rfl ?_)
    refine StillVC.run (StillVC.loadO o11 0 rfl ty45 rfl rfl ?_)
    refine StillVC.run (StillVC.lenV rfl sl45 ?_)
    refine StillVC.run (StillVC.fieldAddr st51 rfl rfl rfl ?_)
    refine StillVC.run (StillVC.loadO o11 1 rfl ty45 rfl rfl ?_)
    refine StillVC.run (StillVC.lenV rfl sl45 ?_)
    refine Br.ndec (fun hc => absurd (by first | omega | assumption | decide | exact rfl) hc) (fun c89 => ?_)
    refine StillVC.run (StillVC.fieldAddr st51 rfl rfl rfl ?_)
    refine StillVC.run (StillVC.loadO o11 0 rfl ty42 rfl rfl ?_)
    refine StillVC.run (StillVC.fieldAddr st51 rfl rfl rfl ?_)
    refine StillVC.run (StillVC.loadO o11 1 rfl ty42 rfl rfl ?_)
    refine CallVC.ret (sstrings_spec names _ _ _ (q2.ext (Own.ext (h := m11) (by assumption))).to1 (w2.ext (Own.ext (h := m11) (by assumption))).to1 (by omega)) ?_
    rintro _ hs1 ⟨rfl, oc1⟩
    have os1 := oc1.thenE (by assumption)
    refine Br.ff ?_
    refine StillVC.run (StillVC.fieldAddr st51 rfl rfl rfl ?_)
    refine StillVC.run (StillVC.loadO os1 0 rfl ty46 rfl rfl ?_)
    refine StillVC.run (StillVC.fieldAddr st51 rfl rfl rfl ?_)
    refine StillVC.run (StillVC.loadO os1 1 rfl ty46 rfl rfl ?_)
    refine CallVC.ret (sconds_spec conds _ _ _ (q6.ext os1.ext) (w6.ext os1.ext) (by omega)) ?_
    rintro _ hs2 ⟨rfl, oc2⟩
    have os2 := oc2.thenE os1
    have oz : Own h [box b10 [.int .i64 kind, .string ⟨⟨name⟩⟩, .int .i64 off, .string ⟨⟨table⟩⟩, .string ⟨⟨attr⟩⟩, .slice y1 cols.length z1, .slice y2 names.length z2, .int .i64 by_, .int .i64 n, .int .i64 m, .slice y3 terms.length z3, .string ⟨⟨other⟩⟩, .string ⟨⟨oattr⟩⟩, .slice y4 fixed.length z4, .slice y5 vars.length z5, .slice y6 conds.length z6, e0, e1, e2, e3, e4, e5, e6, e7, e8] 51, box b11 [.int .i64 kind, .string ⟨⟨name⟩⟩, .int .i64 off, .string ⟨⟨table⟩⟩, .string ⟨⟨attr⟩⟩, .slice yy1 cols.length zz1, .slice yy2 names.length zz2, .int .i64 by_, .int .i64 n, .int .i64 m, .slice yy3 terms.length zz3, .string ⟨⟨other⟩⟩, .string ⟨⟨oattr⟩⟩, .slice yy4 fixed.length zz4, .slice yy5 vars.length zz5, .slice yy6 conds.length zz6, f0, f1, f2, f3, f4, f5, f6, f7, f8] 51] hs2 := os2
    clear oc1 oc2 os1 os2
    refine Br.ff ?_
    refine LoopVC.intro [6, 7, 132, 133, 134, 135, 136, 137, 138, 139, 140, 141, 142, 143, 144, 145, 146, 147, 148, 149] [7] (fun vs hh => ∃ (i : Nat), i ≤ cols.length ∧ vs = [.int .i64 i] ∧ Own h [box b10 [.int .i64 kind, .string ⟨⟨name⟩⟩, .int .i64 off, .string ⟨⟨table⟩⟩, .string ⟨⟨attr⟩⟩, .slice y1 cols.length z1, .slice y2 names.length z2, .int .i64 by_, .int .i64 n, .int .i64 m, .slice y3 terms.length z3, .string ⟨⟨other⟩⟩, .string ⟨⟨oattr⟩⟩, .slice y4 fixed.length z4, .slice y5 vars.length z5, .slice y6 conds.length z6, e0, e1, e2, e3, e4, e5, e6, e7, e8] 51, box b11 [.int .i64 kind, .string ⟨⟨name⟩⟩, .int .i64 off, .string ⟨⟨table⟩⟩, .string ⟨⟨attr⟩⟩, .slice yy1 cols.length zz1, .slice yy2 names.length zz2, .int .i64 by_, .int .i64 n, .int .i64 m, .slice yy3 terms.length zz3, .string ⟨⟨other⟩⟩, .string ⟨⟨oattr⟩⟩, .slice yy4 fixed.length zz4, .slice yy5 vars.length zz5, .slice yy6 conds.length zz6, f0, f1, f2, f3, f4, f5, f6, f7, f8] 51] hh) (fun vs _ => match vs with | [.int _ i] => cols.length - i.toNat | _ => 0) ?_ ?_
    · exact ⟨0, by omega, rfl, oz⟩
    rintro vs junk hh0 ⟨i, hi, rfl, oh0⟩
    by_cases hlt : i < cols.length
    · obtain ⟨el, hel⟩ := getx hlt
      refine StillVC.run (StillVC.fieldAddr st51 rfl rfl rfl ?_)
      refine StillVC.run (StillVC.loadO oh0 0 rfl ty41 rfl rfl ?_)
      refine StillVC.run (StillVC.lenV rfl sl41 ?_)
      refine Br.dec (fun c313 => ?_) (fun hc => absurd (by omega) hc)
      refine DrawVC.intro [0, 2, 3, 5, 7, 8, 10] [1, 4, 6, 9] [] [0, 1, 2, 3, 4, 5, 6, 7, 8, 9, 10] mixed (by kernel_rfl) rfl (fun _ _ _ _ h => h) ?_
      refine StillVC.fieldAddr st51 rfl rfl rfl ?_
      refine StillVC.loadO oh0 0 rfl ty41 rfl rfl ?_
      refine StillVC.idxN sl41 ty122 (q1.ext oh0.ext) rfl (by omega) (by omega) ?_
      refine StillVC.loadFT ty122 (q1.ext oh0.ext) (fun _ => rfl) (by decide) rfl (by assumption) ?_
      refine StillVC.fieldAddr st51 rfl rfl rfl ?_
      refine StillVC.loadO oh0 1 rfl ty41 rfl rfl ?_
      refine StillVC.idxN sl41 ty122 (w1.ext oh0.ext) rfl (by omega) (by omega) ?_
      refine StillVC.loadFT ty122 (w1.ext oh0.ext) (fun _ => rfl) (by decide) rfl (by assumption) ?_
      refine StillVC.neSelf dp_col eg_col rfl rfl rfl ?_
      refine Br.ff ?_
      refine Ar.i64 (by omega) (by omega) ?_
      refine ⟨rfl, ?_⟩
      exact ⟨⟨i + 1, by omega, rfl, Own.sel (by assumption) [0, 1] rfl⟩, by simp; omega⟩
    clear oz
    refine StillVC.run (StillVC.fieldAddr st51 rfl rfl rfl ?_)
    refine StillVC.run (StillVC.loadO oh0 0 rfl ty41 rfl rfl ?_)
    refine StillVC.run (StillVC.lenV rfl sl41 ?_)
    refine Br.dec (fun hc => absurd hc (by omega)) (fun c363 => ?_)
    refine LoopVC.intro [6, 8, 150, 151, 152, 153, 154, 155, 156, 157, 158, 159, 160, 161, 162, 163, 164, 165, 166, 167] [8] (fun vs hh => ∃ (i : Nat), i ≤ terms.length ∧ vs = [.int .i64 i] ∧ Own h [box b10 [.int .i64 kind, .string ⟨⟨name⟩⟩, .int .i64 off, .string ⟨⟨table⟩⟩, .string ⟨⟨attr⟩⟩, .slice y1 cols.length z1, .slice y2 names.length z2, .int .i64 by_, .int .i64 n, .int .i64 m, .slice y3 terms.length z3, .string ⟨⟨other⟩⟩, .string ⟨⟨oattr⟩⟩, .slice y4 fixed.length z4, .slice y5 vars.length z5, .slice y6 conds.length z6, e0, e1, e2, e3, e4, e5, e6, e7, e8] 51, box b11 [.int .i64 kind, .string ⟨⟨name⟩⟩, .int .i64 off, .string ⟨⟨table⟩⟩, .string ⟨⟨attr⟩⟩, .slice yy1 cols.length zz1, .slice yy2 names.length zz2, .int .i64 by_, .int .i64 n, .int .i64 m, .slice yy3 terms.length zz3, .string ⟨⟨other⟩⟩, .string ⟨⟨oattr⟩⟩, .slice yy4 fixed.length zz4, .slice yy5 vars.length zz5, .slice yy6 conds.length zz6, f0, f1, f2, f3, f4, f5, f6, f7, f8] 51] hh) (fun vs _ => match vs with | [.int _ i] => terms.length - i.toNat | _ => 0) ?_ ?_
    · exact ⟨0, by omega, rfl, oh0⟩
    rintro vs junk hh1 ⟨i, hi, rfl, oh1⟩
    by_cases hlt : i < terms.length
    · obtain ⟨el, hel⟩ := getx hlt
      refine StillVC.run (StillVC.fieldAddr st51 rfl rfl rfl ?_)
      refine StillVC.run (StillVC.loadO oh1 0 rfl ty43 rfl rfl ?_)
      refine StillVC.run (StillVC.lenV rfl sl43 ?_)
      refine Br.dec (fun c413 => ?_) (fun hc => absurd (by omega) hc)
      refine DrawVC.intro [0, 2, 3, 5, 7, 8, 10] [1, 4, 6, 9] [] [0, 1, 2, 3, 4, 5, 6, 7, 8, 9, 10] mixed (by kernel_rfl) rfl (fun _ _ _ _ h => h) ?_
      refine StillVC.fieldAddr st51 rfl rfl rfl ?_
      refine StillVC.loadO oh1 0 rfl ty43 rfl rfl ?_
      refine StillVC.idxN sl43 ty62 (q3.ext oh1.ext) rfl (by omega) (by omega) ?_
      refine StillVC.loadFT ty62 (q3.ext oh1.ext) (fun _ => rfl) (by decide) rfl (by assumption) ?_
      refine StillVC.fieldAddr st51 rfl rfl rfl ?_
      refine StillVC.loadO oh1 1 rfl ty43 rfl rfl ?_
      refine StillVC.idxN sl43 ty62 (w3.ext oh1.ext) rfl (by omega) (by omega) ?_
      refine StillVC.loadFT ty62 (w3.ext oh1.ext) (fun _ => rfl) (by decide) rfl (by assumption) ?_
      refine StillVC.neSelf dp_term eg_term rfl rfl rfl ?_
      refine Br.ff ?_
      refine Ar.i64 (by omega) (by omega) ?_
      refine ⟨rfl, ?_⟩
      exact ⟨⟨i + 1, by omega, rfl, Own.sel (by assumption) [0, 1] rfl⟩, by simp; omega⟩
    clear oh0
    refine StillVC.run (StillVC.fieldAddr st51 rfl rfl rfl ?_)
    refine StillVC.run (StillVC.loadO oh1 0 rfl ty43 rfl rfl ?_)
    refine StillVC.run (StillVC.lenV rfl sl43 ?_)
    refine Br.dec (fun hc => absurd hc (by omega)) (fun c463 => ?_)
    refine LoopVC.intro [6, 9, 168, 169, 170, 171, 172, 173, 174, 175, 176, 177, 178, 179, 180, 181, 182, 183, 184, 185, 186, 187, 188, 189, 190, 191, 192, 193, 194, 195, 196, 197, 198, 199, 200, 201, 202, 203] [9] (fun vs hh => ∃ (i : Nat), i ≤ fixed.length ∧ vs = [.int .i64 i] ∧ Own h [box b10 [.int .i64 kind, .string ⟨⟨name⟩⟩, .int .i64 off, .string ⟨⟨table⟩⟩, .string ⟨⟨attr⟩⟩, .slice y1 cols.length z1, .slice y2 names.length z2, .int .i64 by_, .int .i64 n, .int .i64 m, .slice y3 terms.length z3, .string ⟨⟨other⟩⟩, .string ⟨⟨oattr⟩⟩, .slice y4 fixed.length z4, .slice y5 vars.length z5, .slice y6 conds.length z6, e0, e1, e2, e3, e4, e5, e6, e7, e8] 51, box b11 [.int .i64 kind, .string ⟨⟨name⟩⟩, .int .i64 off, .string ⟨⟨table⟩⟩, .string ⟨⟨attr⟩⟩, .slice yy1 cols.length zz1, .slice yy2 names.length zz2, .int .i64 by_, .int .i64 n, .int .i64 m, .slice yy3 terms.length zz3, .string ⟨⟨other⟩⟩, .string ⟨⟨oattr⟩⟩, .slice yy4 fixed.length zz4, .slice yy5 vars.length zz5, .slice yy6 conds.length zz6, f0, f1, f2, f3, f4, f5, f6, f7, f8] 51] hh) (fun vs _ => match vs with | [.int _ i] => fixed.length - i.toNat | _ => 0) ?_ ?_
    · exact ⟨0, by omega, rfl, oh1⟩
    rintro vs junk hh2 ⟨i, hi, rfl, oh2⟩
    by_cases hlt : i < fixed.length
    · obtain ⟨el, hel⟩ := getx hlt
      refine StillVC.run (StillVC.fieldAddr st51 rfl rfl rfl ?_)
      refine StillVC.run (StillVC.loadO oh2 0 rfl ty44 rfl rfl ?_)
      refine StillVC.run (StillVC.lenV rfl sl44 ?_)
      refine Br.dec (fun c513 => ?_) (fun hc => absurd (by omega) hc)
      refine DrawVC.intro [0, 2, 3, 4, 6, 8, 9, 10, 12, 13, 14, 16, 17, 18, 20, 22, 23, 24, 27, 28] [1, 5, 7, 11, 15, 19, 21, 25] [26] [0, 1, 2, 3, 4, 5, 6, 7, 8, 9, 10, 11, 12, 13, 14, 15, 16, 17, 18, 19, 20, 21, 22, 23, 24, 25, 26, 27, 28] mixed (by kernel_rfl) rfl (fun _ _ _ _ h => h) ?_
      refine StillVC.fieldAddr st51 rfl rfl rfl ?_
      refine StillVC.loadO oh2 0 rfl ty44 rfl rfl ?_
      refine StillVC.idxN sl44 ty105 (q4.ext oh2.ext) rfl (by omega) (by omega) ?_
      refine StillVC.fieldAdr (q4.ext oh2.ext) (by omega) st105 rfl rfl rfl ?_
      refine StillVC.loadFF (q4.ext oh2.ext) ty9 (fun _ => rfl) rfl (by assumption) rfl ?_
      refine StillVC.fieldAddr st51 rfl rfl rfl ?_
      refine StillVC.loadO oh2 1 rfl ty44 rfl rfl ?_
      refine StillVC.idxN sl44 ty105 (w4.ext oh2.ext) rfl (by omega) (by omega) ?_
      refine StillVC.fieldAdr (w4.ext oh2.ext) (by omega) st105 rfl rfl rfl ?_
      refine StillVC.loadFF (w4.ext oh2.ext) ty9 (fun _ => rfl) rfl (by assumption) rfl ?_
      refine Br.ndec (fun hc => absurd (by first | omega | assumption | decide | exact rfl) hc) (fun c524 => ?_)
      refine StillVC.fieldAddr st51 rfl rfl rfl ?_
      refine StillVC.loadO oh2 0 rfl ty44 rfl rfl ?_
      refine StillVC.idxN sl44 ty105 (q4.ext oh2.ext) rfl (by omega) (by omega) ?_
      refine StillVC.fieldAdr (q4.ext oh2.ext) (by omega) st105 rfl rfl rfl ?_
      refine StillVC.loadFS ty54 (q4.ext oh2.ext) (fun _ => rfl) (by decide) (by decide) rfl (by assumption) rfl ?_
      refine StillVC.fieldAddr st51 rfl rfl rfl ?_
      refine StillVC.loadO oh2 1 rfl ty44 rfl rfl ?_
      refine StillVC.idxN sl44 ty105 (w4.ext oh2.ext) rfl (by omega) (by omega) ?_
      refine StillVC.fieldAdr (w4.ext oh2.ext) (by omega) st105 rfl rfl rfl ?_
      refine StillVC.loadFS ty54 (w4.ext oh2.ext) (fun _ => rfl) (by decide) (by decide) rfl (by assumption) rfl ?_
      refine CallVC.ret (rcompare_self _ _ _ _) ?_
      rintro _ hc2 ⟨rfl, oc4⟩
      have os4 := oc4.thenE oh2
      refine Br.ff ?_
      refine Ar.i64 (by omega) (by omega) ?_
      refine ⟨rfl, ?_⟩
      exact ⟨⟨i + 1, by omega, rfl, Own.sel (by assumption) [0, 1] rfl⟩, by simp; omega⟩
    clear oh1
    refine StillVC.run (StillVC.fieldAddr st51 rfl rfl rfl ?_)
    refine StillVC.run (StillVC.loadO oh2 0 rfl ty44 rfl rfl ?_)
    refine StillVC.run (StillVC.lenV rfl sl44 ?_)
    refine Br.dec (fun hc => absurd hc (by omega)) (fun c563 => ?_)
    refine LoopVC.intro [6, 10, 204, 205, 206, 207, 208, 209, 210, 211, 212, 213, 214, 215, 216, 217, 218, 219, 220, 221] [10] (fun vs hh => ∃ (i : Nat), i ≤ vars.length ∧ vs = [.int .i64 i] ∧ Own h [box b10 [.int .i64 kind, .string ⟨⟨name⟩⟩, .int .i64 off, .string ⟨⟨table⟩⟩, .string ⟨⟨attr⟩⟩, .slice y1 cols.length z1, .slice y2 names.length z2, .int .i64 by_, .int .i64 n, .int .i64 m, .slice y3 terms.length z3, .string ⟨⟨other⟩⟩, .string ⟨⟨oattr⟩⟩, .slice y4 fixed.length z4, .slice y5 vars.length z5, .slice y6 conds.length z6, e0, e1, e2, e3, e4, e5, e6, e7, e8] 51, box b11 [.int .i64 kind, .string ⟨⟨name⟩⟩, .int .i64 off, .string ⟨⟨table⟩⟩, .string ⟨⟨attr⟩⟩, .slice yy1 cols.length zz1, .slice yy2 names.length zz2, .int .i64 by_, .int .i64 n, .int .i64 m, .slice yy3 terms.length zz3, .string ⟨⟨other⟩⟩, .string ⟨⟨oattr⟩⟩, .slice yy4 fixed.length zz4, .slice yy5 vars.length zz5, .slice yy6 conds.length zz6, f0, f1, f2, f3, f4, f5, f6, f7, f8] 51] hh) (fun vs _ => match vs with | [.int _ i] => vars.length - i.toNat | _ => 0) ?_ ?_
    · exact ⟨0, by omega, rfl, oh2⟩
    rintro vs junk hh3 ⟨i, hi, rfl, oh3⟩
    by_cases hlt : i < vars.length
    · obtain ⟨el, hel⟩ := getx hlt
      refine StillVC.run (StillVC.fieldAddr st51 rfl rfl rfl ?_)
      refine StillVC.run (StillVC.loadO oh3 0 rfl ty45 rfl rfl ?_)
      refine StillVC.run (StillVC.lenV rfl sl45 ?_)
      refine Br.dec (fun c613 => ?_) (fun hc => absurd (by omega) hc)
      refine DrawVC.intro [0, 2, 3, 5, 7, 8, 10] [1, 4, 6, 9] [] [0, 1, 2, 3, 4, 5, 6, 7, 8, 9, 10] mixed (by kernel_rfl) rfl (fun _ _ _ _ h => h) ?_
      refine StillVC.fieldAddr st51 rfl rfl rfl ?_
      refine StillVC.loadO oh3 0 rfl ty45 rfl rfl ?_
      refine StillVC.idxN sl45 ty108 (q5.ext oh3.ext) rfl (by omega) (by omega) ?_
      refine StillVC.loadFT ty108 (q5.ext oh3.ext) (fun _ => rfl) (by decide) rfl (by assumption) ?_
      refine StillVC.fieldAddr st51 rfl rfl rfl ?_
      refine StillVC.loadO oh3 1 rfl ty45 rfl rfl ?_
      refine StillVC.idxN sl45 ty108 (w5.ext oh3.ext) rfl (by omega) (by omega) ?_
      refine StillVC.loadFT ty108 (w5.ext oh3.ext) (fun _ => rfl) (by decide) rfl (by assumption) ?_
      refine StillVC.neS pl108 rfl rfl rfl rfl ?_
      refine Br.ffE (by first | omega | (simp; done)) ?_
      refine Ar.i64 (by omega) (by omega) ?_
      refine ⟨rfl, ?_⟩
      exact ⟨⟨i + 1, by omega, rfl, Own.sel (by assumption) [0, 1] rfl⟩, by simp; omega⟩
    clear oh2
    refine StillVC.run (StillVC.fieldAddr st51 rfl rfl rfl ?_)
    refine StillVC.run (StillVC.loadO oh3 0 rfl ty45 rfl rfl ?_)
    refine StillVC.run (StillVC.lenV rfl sl45 ?_)
    refine Br.dec (fun hc => absurd hc (by omega)) (fun c663 => ?_)
    refine StillVC.run (StillVC.fieldAddr st51 rfl rfl rfl ?_)
    refine StillVC.run (StillVC.loadON oh3 0 rfl ty49 rfl rfl rfl ?_)
    refine StillVC.run (StillVC.fieldAddr st51 rfl rfl rfl ?_)
    refine StillVC.run (StillVC.loadON oh3 1 rfl ty49 rfl rfl rfl ?_)
    refine CallVC.ret (sameExpr_spec Q true hat I J _ expr ey _ _ _ (Nat.le_refl _) b7 hex rx px (hIe.ext oh3.ext) (hJe.ext oh3.ext)) ?_
    rintro _ hs3 ⟨rfl, oc3⟩
    have os3 := oc3.thenE (by assumption)
    refine RetVC.one rfl ?_
    exact ⟨rfl, Own.sel (by assumption) [] rfl⟩
  | false =>
    (refine RunVC.boxO o0 rfl ?_; intro b1010 m1010 o1010)
    (refine RunVC.boxO o1010 rfl ?_; intro b1011 m1011 o1011)
    refine Br.ff ?_
    refine StillVC.run (StillVC.fieldAddr st51 rfl rfl rfl ?_)
    refine StillVC.run (StillVC.loadO o1011 0 rfl ty3 rfl rfl ?_)
    refine StillVC.run (StillVC.fieldAddr st51 rfl rfl rfl ?_)
    refine StillVC.run (StillVC.loadO o1011 1 rfl ty3 rfl rfl ?_)
    refine Br.ndec (fun hc => absurd (by first | omega | assumption | decide | exact rfl) hc) (fun c1016 => ?_)
    refine StillVC.run (StillVC.fieldAddr st51 rfl rfl rfl ?_)
    refine StillVC.run (StillVC.loadO o1011 0 rfl ty9 rfl rfl ?_)
    refine StillVC.run (StillVC.fieldAddr st51 rfl rfl rfl ?_)
    refine StillVC.run (StillVC.loadO o1011 1 rfl ty9 rfl rfl ?_)
    refine Br.ndec (fun hc => absurd (by first | omega | assumption | decide | exact rfl) hc) (fun c1021 => ?_)
    refine StillVC.run (StillVC.fieldAddr st51 rfl rfl rfl ?_)
    refine StillVC.run (StillVC.loadO o1011 0 rfl ty9 rfl rfl ?_)
    refine StillVC.run (StillVC.fieldAddr st51 rfl rfl rfl ?_)
    refine StillVC.run (StillVC.loadO o1011 1 rfl ty9 rfl rfl ?_)
    refine Br.ndec (fun hc => absurd (by first | omega | assumption | decide | exact rfl) hc) (fun c1026 => ?_)
    refine StillVC.run (StillVC.fieldAddr st51 rfl rfl rfl ?_)
    refine StillVC.run (StillVC.loadO o1011 0 rfl ty9 rfl rfl ?_)
    refine StillVC.run (StillVC.fieldAddr st51 rfl rfl rfl ?_)
    refine StillVC.run (StillVC.loadO o1011 1 rfl ty9 rfl rfl ?_)
    refine Br.ndec (fun hc => absurd (by first | omega | assumption | decide | exact rfl) hc) (fun c1031 => ?_)
    refine StillVC.run (StillVC.fieldAddr st51 rfl rfl rfl ?_)
    refine StillVC.run (StillVC.loadO o1011 0 rfl ty3 rfl rfl ?_)
    refine StillVC.run (StillVC.fieldAddr st51 rfl rfl rfl ?_)
    refine StillVC.run (StillVC.loadO o1011 1 rfl ty3 rfl rfl ?_)
    refine Br.ndec (fun hc => absurd (by first | omega | assumption | decide | exact rfl) hc) (fun c1036 => ?_)
    refine StillVC.run (StillVC.fieldAddr st51 rfl rfl rfl ?_)
    refine StillVC.run (StillVC.loadO o1011 0 rfl ty3 rfl rfl ?_)
    refine StillVC.run (StillVC.fieldAddr st51 rfl rfl rfl ?_)
    refine StillVC.run (StillVC.loadO o1011 1 rfl ty3 rfl rfl ?_)
    refine Br.ndec (fun hc => absurd (by first | omega | assumption | decide | exact rfl) hc) (fun c1041 => ?_)
    refine StillVC.run (StillVC.fieldAddr st51 rfl rfl rfl ?_)
    refine StillVC.run (StillVC.loadO o1011 0 rfl ty3 rfl rfl ?_)
    refine StillVC.run (StillVC.fieldAddr st51 rfl rfl rfl ?_)
    refine StillVC.run (StillVC.loadO o1011 1 rfl ty3 rfl rfl ?_)
    refine Br.ndec (fun hc => absurd (by first | omega | assumption | decide | exact rfl) hc) (fun c1046 => ?_)
    refine StillVC.run (StillVC.fieldAddr st51 rfl rfl rfl ?_)
    refine StillVC.run (StillVC.loadO o1011 0 rfl ty9 rfl rfl ?_)
    refine StillVC.run (StillVC.fieldAddr st51 rfl rfl rfl ?_)
    refine StillVC.run (StillVC.loadO o1011 1 rfl ty9 rfl rfl ?_)
    refine Br.ndec (fun hc => absurd (by first | omega | assumption | decide | exact rfl) hc) (fun c1051 => ?_)
    refine StillVC.run (StillVC.fieldAddr st51 rfl rfl rfl ?_)
    refine StillVC.run (StillVC.loadO o1011 0 rfl ty9 rfl rfl ?_)
    refine StillVC.run (StillVC.fieldAddr st51 rfl rfl rfl ?_)
    refine StillVC.run (StillVC.loadO o1011 1 rfl ty9 rfl rfl ?_)
    refine Br.ndec (fun hc => absurd (by first | omega | assumption | decide | exact rfl) hc) (fun c1056 => ?_)
    refine StillVC.run (StillVC.fieldAddr st51 rfl rfl rfl ?_)
    refine StillVC.run (StillVC.loadO o1011 0 rfl ty41 rfl rfl ?_)
    refine StillVC.run (StillVC.lenV rfl sl41 ?_)
    refine StillVC.run (StillVC.fieldAddr st51 rfl rfl rfl ?_)
    refine StillVC.run (StillVC.loadO o1011 1 rfl ty41 rfl rfl ?_)
    refine StillVC.run (StillVC.lenV rfl sl41 ?_)
    refine Br.ndec (fun hc => absurd (by first | omega | assumption | decide | exact rfl) hc) (fun c1063 => ?_)
    refine StillVC.run (StillVC.fieldAddr st51 rfl rfl rfl ?_)
    refine StillVC.run (StillVC.loadO o1011 0 rfl ty43 rfl rfl ?_)
    refine StillVC.run (StillVC.lenV rfl sl43 ?_)
    refine StillVC.run (StillVC.fieldAddr st51 rfl rfl rfl ?_)
    refine StillVC.run (StillVC.loadO o1011 1 rfl ty43 rfl rfl ?_)
    refine StillVC.run (StillVC.lenV rfl sl43 ?_)
    refine Br.ndec (fun hc => absurd (by first | omega | assumption | decide | exact rfl) hc) (fun c1070 => ?_)
    refine StillVC.run (StillVC.fieldAddr st51 rfl rfl rfl ?_)
    refine StillVC.run (StillVC.loadO o1011 0 rfl ty44 rfl rfl ?_)
    refine StillVC.run (StillVC.lenV rfl sl44 ?_)
    refine StillVC.run (StillVC.fieldAddr st51 rfl rfl rfl ?_)
    refine StillVC.run (StillVC.loadO o1011 1 rfl ty44 rfl rfl ?_)
    refine StillVC.run (StillVC.lenV rfl sl44 ?_)
    refine Br.ndec (fun hc => absurd (by first | omega | assumption | decide | exact rfl) hc) (fun c1077 => ?_)
    refine StillVC.run (StillVC.fieldAddr st51 rfl rfl rfl ?_)
    refine StillVC.run (StillVC.loadO o1011 0 rfl ty45 rfl rfl ?_)
    refine StillVC.run (StillVC.lenV rfl sl45 ?_)
    refine StillVC.run (StillVC.fieldAddr st51 rfl rfl rfl ?_)
    refine StillVC.run (StillVC.loadO o1011 1 rfl ty45 rfl rfl ?_)
    refine StillVC.run (StillVC.lenV rfl sl45 ?_)
    refine Br.ndec (fun hc => absurd (by first | omega | assumption | decide | exact rfl) hc) (fun c1084 => ?_)
    refine StillVC.run (StillVC.fieldAddr st51 rfl rfl rfl ?_)
    refine StillVC.run (StillVC.loadO o1011 0 rfl ty42 rfl rfl ?_)
    refine StillVC.run (StillVC.fieldAddr st51 rfl rfl rfl ?_)
    refine StillVC.run (StillVC.loadO o1011 1 rfl ty42 rfl rfl ?_)
    refine CallVC.ret (sstrings_spec names _ _ _ (q2.ext (Own.ext (h := m1011) (by assumption))).to1 (w2.ext (Own.ext (h := m1011) (by assumption))).to1 (by omega)) ?_
    rintro _ hs1 ⟨rfl, oc1⟩
    have os1 := oc1.thenE (by assumption)
    refine Br.ff ?_
    refine StillVC.run (StillVC.fieldAddr st51 rfl rfl rfl ?_)
    refine StillVC.run (StillVC.loadO os1 0 rfl ty46 rfl rfl ?_)
    refine StillVC.run (StillVC.fieldAddr st51 rfl rfl rfl ?_)
    refine StillVC.run (StillVC.loadO os1 1 rfl ty46 rfl rfl ?_)
    refine CallVC.ret (sconds_spec conds _ _ _ (q6.ext os1.ext) (w6.ext os1.ext) (by omega)) ?_
    rintro _ hs2 ⟨rfl, oc2⟩
    have os2 := oc2.thenE os1
    have oz : Own h [box b1010 [.int .i64 kind, .string ⟨⟨name⟩⟩, .int .i64 off, .string ⟨⟨table⟩⟩, .string ⟨⟨attr⟩⟩, .slice y1 cols.length z1, .slice y2 names.length z2, .int .i64 by_, .int .i64 n, .int .i64 m, .slice y3 terms.length z3, .string ⟨⟨other⟩⟩, .string ⟨⟨oattr⟩⟩, .slice y4 fixed.length z4, .slice y5 vars.length z5, .slice y6 conds.length z6, e0, e1, e2, e3, e4, e5, e6, e7, e8] 51, box b1011 [.int .i64 kind, .string ⟨⟨name⟩⟩, .int .i64 o', .string ⟨⟨table⟩⟩, .string ⟨⟨attr⟩⟩, .slice yy1 cols.length zz1, .slice yy2 names.length zz2, .int .i64 by_, .int .i64 n, .int .i64 m, .slice yy3 terms.length zz3, .string ⟨⟨other⟩⟩, .string ⟨⟨oattr⟩⟩, .slice yy4 fixed.length zz4, .slice yy5 vars.length zz5, .slice yy6 conds.length zz6, f0, f1, f2, f3, f4, f5, f6, f7, f8] 51] hs2 := os2
    clear oc1 oc2 os1 os2
    refine Br.ff ?_
    refine LoopVC.intro [6, 7, 132, 133, 134, 135, 136, 137, 138, 139, 140, 141, 142, 143, 144, 145, 146, 147, 148, 149] [7] (fun vs hh => ∃ (i : Nat), i ≤ cols.length ∧ vs = [.int .i64 i] ∧ Own h [box b1010 [.int .i64 kind, .string ⟨⟨name⟩⟩, .int .i64 off, .string ⟨⟨table⟩⟩, .string ⟨⟨attr⟩⟩, .slice y1 cols.length z1, .slice y2 names.length z2, .int .i64 by_, .int .i64 n, .int .i64 m, .slice y3 terms.length z3, .string ⟨⟨other⟩⟩, .string ⟨⟨oattr⟩⟩, .slice y4 fixed.length z4, .slice y5 vars.length z5, .slice y6 conds.length z6, e0, e1, e2, e3, e4, e5, e6, e7, e8] 51, box b1011 [.int .i64 kind, .string ⟨⟨name⟩⟩, .int .i64 o', .string ⟨⟨table⟩⟩, .string ⟨⟨attr⟩⟩, .slice yy1 cols.length zz1, .slice yy2 names.length zz2, .int .i64 by_, .int .i64 n, .int .i64 m, .slice yy3 terms.length zz3, .string ⟨⟨other⟩⟩, .string ⟨⟨oattr⟩⟩, .slice yy4 fixed.length zz4, .slice yy5 vars.length zz5, .slice yy6 conds.length zz6, f0, f1, f2, f3, f4, f5, f6, f7, f8] 51] hh) (fun vs _ => match vs with | [.int _ i] => cols.length - i.toNat | _ => 0) ?_ ?_
    · exact ⟨0, by omega, rfl, oz⟩
    rintro vs junk hh0 ⟨i, hi, rfl, oh0⟩
    by_cases hlt : i < cols.length
    · obtain ⟨el, hel⟩ := getx hlt
      refine StillVC.run (StillVC.fieldAddr st51 rfl rfl rfl ?_)
      refine StillVC.run (StillVC.loadO oh0 0 rfl ty41 rfl rfl ?_)
      refine StillVC.run (StillVC.lenV rfl sl41 ?_)
      refine Br.dec (fun c1313 => ?_) (fun hc => absurd (by omega) hc)
      refine DrawVC.intro [0, 2, 3, 5, 7, 8, 10] [1, 4, 6, 9] [] [0, 1, 2, 3, 4, 5, 6, 7, 8, 9, 10] mixed (by kernel_rfl) rfl (fun _ _ _ _ h => h) ?_
      refine StillVC.fieldAddr st51 rfl rfl rfl ?_
      refine StillVC.loadO oh0 0 rfl ty41 rfl rfl ?_
      refine StillVC.idxN sl41 ty122 (q1.ext oh0.ext) rfl (by omega) (by omega) ?_
      refine StillVC.loadFT ty122 (q1.ext oh0.ext) (fun _ => rfl) (by decide) rfl (by assumption) ?_
      refine StillVC.fieldAddr st51 rfl rfl rfl ?_
      refine StillVC.loadO oh0 1 rfl ty41 rfl rfl ?_
      refine StillVC.idxN sl41 ty122 (w1.ext oh0.ext) rfl (by omega) (by omega) ?_
      refine StillVC.loadFT ty122 (w1.ext oh0.ext) (fun _ => rfl) (by decide) rfl (by assumption) ?_
      refine StillVC.neSelf dp_col eg_col rfl rfl rfl ?_
      refine Br.ff ?_
      refine Ar.i64 (by omega) (by omega) ?_
      refine ⟨rfl, ?_⟩
      exact ⟨⟨i + 1, by omega, rfl, Own.sel (by assumption) [0, 1] rfl⟩, by simp; omega⟩
    clear oz
    refine StillVC.run (StillVC.fieldAddr st51 rfl rfl rfl ?_)
    refine StillVC.run (StillVC.loadO oh0 0 rfl ty41 rfl rfl ?_)
    refine StillVC.run (StillVC.lenV rfl sl41 ?_)
    refine Br.dec (fun hc => absurd hc (by omega)) (fun c1363 => ?_)
    refine LoopVC.intro [6, 8, 150, 151, 152, 153, 154, 155, 156, 157, 158, 159, 160, 161, 162, 163, 164, 165, 166, 167] [8] (fun vs hh => ∃ (i : Nat), i ≤ terms.length ∧ vs = [.int .i64 i] ∧ Own h [box b1010 [.int .i64 kind, .string ⟨⟨name⟩⟩, .int .i64 off, .string ⟨⟨table⟩⟩, .string ⟨⟨attr⟩⟩, .slice y1 cols.length z1, .slice y2 names.length z2, .int .i64 by_, .int .i64 n, .int .i64 m, .slice y3 terms.length z3, .string ⟨⟨other⟩⟩, .string ⟨⟨oattr⟩⟩, .slice y4 fixed.length z4, .slice y5 vars.length z5, .slice y6 conds.length z6, e0, e1, e2, e3, e4, e5, e6, e7, e8] 51, box b1011 [.int .i64 kind, .string ⟨⟨name⟩⟩, .int .i64 o', .string ⟨⟨table⟩⟩, .string ⟨⟨attr⟩⟩, .slice yy1 cols.length zz1, .slice yy2 names.length zz2, .int .i64 by_, .int .i64 n, .int .i64 m, .slice yy3 terms.length zz3, .string ⟨⟨other⟩⟩, .string ⟨⟨oattr⟩⟩, .slice yy4 fixed.length zz4, .slice yy5 vars.length zz5, .slice yy6 conds.length zz6, f0, f1, f2, f3, f4, f5, f6, f7, f8] 51] hh) (fun vs _ => match vs with | [.int _ i] => terms.length - i.toNat | _ => 0) ?_ ?_
    · exact ⟨0, by omega, rfl, oh0⟩
    rintro vs junk hh1 ⟨i, hi, rfl, oh1⟩
    by_cases hlt : i < terms.length
    · obtain ⟨el, hel⟩ := getx hlt
      refine StillVC.run (StillVC.fieldAddr st51 rfl rfl rfl ?_)
      refine StillVC.run (StillVC.loadO oh1 0 rfl ty43 rfl rfl ?_)
      refine StillVC.run (StillVC.lenV rfl sl43 ?_)
      refine Br.dec (fun c1413 => ?_) (fun hc => absurd (by omega) hc)
      refine DrawVC.intro [0, 2, 3, 5, 7, 8, 10] [1, 4, 6, 9] [] [0, 1, 2, 3, 4, 5, 6, 7, 8, 9, 10] mixed (by kernel_rfl) rfl (fun _ _ _ _ h => h) ?_
      refine StillVC.fieldAddr st51 rfl rfl rfl ?_
      refine StillVC.loadO oh1 0 rfl ty43 rfl rfl ?_
      refine StillVC.idxN sl43 ty62 (q3.ext oh1.ext) rfl (by omega) (by omega) ?_
      refine StillVC.loadFT ty62 (q3.ext oh1.ext) (fun _ => rfl) (by decide) rfl (by assumption) ?_
      refine StillVC.fieldAddr st51 rfl rfl rfl ?_
      refine StillVC.loadO oh1 1 rfl ty43 rfl rfl ?_
      refine StillVC.idxN sl43 ty62 (w3.ext oh1.ext) rfl (by omega) (by omega) ?_
      refine StillVC.loadFT ty62 (w3.ext oh1.ext) (fun _ => rfl) (by decide) rfl (by assumption) ?_
      refine StillVC.neSelf dp_term eg_term rfl rfl rfl ?_
      refine Br.ff ?_
      refine Ar.i64 (by omega) (by omega) ?_
      refine ⟨rfl, ?_⟩
      exact ⟨⟨i + 1, by omega, rfl, Own.sel (by assumption) [0, 1] rfl⟩, by simp; omega⟩
    clear oh0
    refine StillVC.run (StillVC.fieldAddr st51 rfl rfl rfl ?_)
    refine StillVC.run (StillVC.loadO oh1 0 rfl ty43 rfl rfl ?_)
    refine StillVC.run (StillVC.lenV rfl sl43 ?_)
    refine Br.dec (fun hc => absurd hc (by omega)) (fun c1463 => ?_)
    refine LoopVC.intro [6, 9, 168, 169, 170, 171, 172, 173, 174, 175, 176, 177, 178, 179, 180, 181, 182, 183, 184, 185, 186, 187, 188, 189, 190, 191, 192, 193, 194, 195, 196, 197, 198, 199, 200, 201, 202, 203] [9] (fun vs hh => ∃ (i : Nat), i ≤ fixed.length ∧ vs = [.int .i64 i] ∧ Own h [box b1010 [.int .i64 kind, .string ⟨⟨name⟩⟩, .int .i64 off, .string ⟨⟨table⟩⟩, .string ⟨⟨attr⟩⟩, .slice y1 cols.length z1, .slice y2 names.length z2, .int .i64 by_, .int .i64 n, .int .i64 m, .slice y3 terms.length z3, .string ⟨⟨other⟩⟩, .string ⟨⟨oattr⟩⟩, .slice y4 fixed.length z4, .slice y5 vars.length z5, .slice y6 conds.length z6, e0, e1, e2, e3, e4, e5, e6, e7, e8] 51, box b1011 [.int .i64 kind, .string ⟨⟨name⟩⟩, .int .i64 o', .string ⟨⟨table⟩⟩, .string ⟨⟨attr⟩⟩, .slice yy1 cols.length zz1, .slice yy2 names.length zz2, .int .i64 by_, .int .i64 n, .int .i64 m, .slice yy3 terms.length zz3, .string ⟨⟨other⟩⟩, .string ⟨⟨oattr⟩⟩, .slice yy4 fixed.length zz4, .slice yy5 vars.length zz5, .slice yy6 conds.length zz6, f0, f1, f2, f3, f4, f5, f6, f7, f8] 51] hh) (fun vs _ => match vs with | [.int _ i] => fixed.length - i.toNat | _ => 0) ?_ ?_
    · exact ⟨0, by omega, rfl, oh1⟩
    rintro vs junk hh2 ⟨i, hi, rfl, oh2⟩
    by_cases hlt : i < fixed.length
    · obtain ⟨el, hel⟩ := getx hlt
      refine StillVC.run (StillVC.fieldAddr st51 rfl rfl rfl ?_)
      refine StillVC.run (StillVC.loadO oh2 0 rfl ty44 rfl rfl ?_)
      refine StillVC.run (StillVC.lenV rfl sl44 ?_)
      refine Br.dec (fun c1513 => ?_) (fun hc => absurd (by omega) hc)
      refine DrawVC.intro [0, 2, 3, 4, 6, 8, 9, 10, 12, 13, 14, 16, 17, 18, 20, 22, 23, 24, 27, 28] [1, 5, 7, 11, 15, 19, 21, 25] [26] [0, 1, 2, 3, 4, 5, 6, 7, 8, 9, 10, 11, 12, 13, 14, 15, 16, 17, 18, 19, 20, 21, 22, 23, 24, 25, 26, 27, 28] mixed (by kernel_rfl) rfl (fun _ _ _ _ h => h) ?_
      refine StillVC.fieldAddr st51 rfl rfl rfl ?_
      refine StillVC.loadO oh2 0 rfl ty44 rfl rfl ?_
      refine StillVC.idxN sl44 ty105 (q4.ext oh2.ext) rfl (by omega) (by omega) ?_
      refine StillVC.fieldAdr (q4.ext oh2.ext) (by omega) st105 rfl rfl rfl ?_
      refine StillVC.loadFF (q4.ext oh2.ext) ty9 (fun _ => rfl) rfl (by assumption) rfl ?_
      refine StillVC.fieldAddr st51 rfl rfl rfl ?_
      refine StillVC.loadO oh2 1 rfl ty44 rfl rfl ?_
      refine StillVC.idxN sl44 ty105 (w4.ext oh2.ext) rfl (by omega) (by omega) ?_
      refine StillVC.fieldAdr (w4.ext oh2.ext) (by omega) st105 rfl rfl rfl ?_
      refine StillVC.loadFF (w4.ext oh2.ext) ty9 (fun _ => rfl) rfl (by assumption) rfl ?_
      refine Br.ndec (fun hc => absurd (by first | omega | assumption | decide | exact rfl) hc) (fun c1524 => ?_)
      refine StillVC.fieldAddr st51 rfl rfl rfl ?_
      refine StillVC.loadO oh2 0 rfl ty44 rfl rfl ?_
      refine StillVC.idxN sl44 ty105 (q4.ext oh2.ext) rfl (by omega) (by omega) ?_
      refine StillVC.fieldAdr (q4.ext oh2.ext) (by omega) st105 rfl rfl rfl ?_
      refine StillVC.loadFS ty54 (q4.ext oh2.ext) (fun _ => rfl) (by decide) (by decide) rfl (by assumption) rfl ?_
      refine StillVC.fieldAddr st51 rfl rfl rfl ?_
      refine StillVC.loadO oh2 1 rfl ty44 rfl rfl ?_
      refine StillVC.idxN sl44 ty105 (w4.ext oh2.ext) rfl (by omega) (by omega) ?_
      refine StillVC.fieldAdr (w4.ext oh2.ext) (by omega) st105 rfl rfl rfl ?_
      refine StillVC.loadFS ty54 (w4.ext oh2.ext) (fun _ => rfl) (by decide) (by decide) rfl (by assumption) rfl ?_
      refine CallVC.ret (rcompare_self _ _ _ _) ?_
      rintro _ hc2 ⟨rfl, oc4⟩
      have os4 := oc4.thenE oh2
      refine Br.ff ?_
      refine Ar.i64 (by omega) (by omega) ?_
      refine ⟨rfl, ?_⟩
      exact ⟨⟨i + 1, by omega, rfl, Own.sel (by assumption) [0, 1] rfl⟩, by simp; omega⟩
    clear oh1
    refine StillVC.run (StillVC.fieldAddr st51 rfl rfl rfl ?_)
    refine StillVC.run (StillVC.loadO oh2 0 rfl ty44 rfl rfl ?_)
    refine StillVC.run (StillVC.lenV rfl sl44 ?_)
    refine Br.dec (fun hc => absurd hc (by omega)) (fun c1563 => ?_)
    refine LoopVC.intro [6, 10, 204, 205, 206, 207, 208, 209, 210, 211, 212, 213, 214, 215, 216, 217, 218, 219, 220, 221] [10] (fun vs hh => ∃ (i : Nat), i ≤ vars.length ∧ vs = [.int .i64 i] ∧ Own h [box b1010 [.int .i64 kind, .string ⟨⟨name⟩⟩, .int .i64 off, .string ⟨⟨table⟩⟩, .string ⟨⟨attr⟩⟩, .slice y1 cols.length z1, .slice y2 names.length z2, .int .i64 by_, .int .i64 n, .int .i64 m, .slice y3 terms.length z3, .string ⟨⟨other⟩⟩, .string ⟨⟨oattr⟩⟩, .slice y4 fixed.length z4, .slice y5 vars.length z5, .slice y6 conds.length z6, e0, e1, e2, e3, e4, e5, e6, e7, e8] 51, box b1011 [.int .i64 kind, .string ⟨⟨name⟩⟩, .int .i64 o', .string ⟨⟨table⟩⟩, .string ⟨⟨attr⟩⟩, .slice yy1 cols.length zz1, .slice yy2 names.length zz2, .int .i64 by_, .int .i64 n, .int .i64 m, .slice yy3 terms.length zz3, .string ⟨⟨other⟩⟩, .string ⟨⟨oattr⟩⟩, .slice yy4 fixed.length zz4, .slice yy5 vars.length zz5, .slice yy6 conds.length zz6, f0, f1, f2, f3, f4, f5, f6, f7, f8] 51] hh) (fun vs _ => match vs with | [.int _ i] => vars.length - i.toNat | _ => 0) ?_ ?_
    · exact ⟨0, by omega, rfl, oh2⟩
    rintro vs junk hh3 ⟨i, hi, rfl, oh3⟩
    by_cases hlt : i < vars.length
    · obtain ⟨el, hel⟩ := getx hlt
      refine StillVC.run (StillVC.fieldAddr st51 rfl rfl rfl ?_)
      refine StillVC.run (StillVC.loadO oh3 0 rfl ty45 rfl rfl ?_)
      refine StillVC.run (StillVC.lenV rfl sl45 ?_)
      refine Br.dec (fun c1613 => ?_) (fun hc => absurd (by omega) hc)
      refine DrawVC.intro [0, 2, 3, 5, 7, 8, 10] [1, 4, 6, 9] [] [0, 1, 2, 3, 4, 5, 6, 7, 8, 9, 10] mixed (by kernel_rfl) rfl (fun _ _ _ _ h => h) ?_
      refine StillVC.fieldAddr st51 rfl rfl rfl ?_
      refine StillVC.loadO oh3 0 rfl ty45 rfl rfl ?_
      refine StillVC.idxN sl45 ty108 (q5.ext oh3.ext) rfl (by omega) (by omega) ?_
      refine StillVC.loadFT ty108 (q5.ext oh3.ext) (fun _ => rfl) (by decide) rfl (by assumption) ?_
      refine StillVC.fieldAddr st51 rfl rfl rfl ?_
      refine StillVC.loadO oh3 1 rfl ty45 rfl rfl ?_
      refine StillVC.idxN sl45 ty108 (w5.ext oh3.ext) rfl (by omega) (by omega) ?_
      refine StillVC.loadFT ty108 (w5.ext oh3.ext) (fun _ => rfl) (by decide) rfl (by assumption) ?_
      refine StillVC.neS pl108 rfl rfl rfl rfl ?_
      refine Br.ffE (by first | omega | (simp; done)) ?_
      refine Ar.i64 (by omega) (by omega) ?_
      refine ⟨rfl, ?_⟩
      exact ⟨⟨i + 1, by omega, rfl, Own.sel (by assumption) [0, 1] rfl⟩, by simp; omega⟩
    clear oh2
    refine StillVC.run (StillVC.fieldAddr st51 rfl rfl rfl ?_)
    refine StillVC.run (StillVC.loadO oh3 0 rfl ty45 rfl rfl ?_)
    refine StillVC.run (StillVC.lenV rfl sl45 ?_)
    refine Br.dec (fun hc => absurd hc (by omega)) (fun c1663 => ?_)
    refine StillVC.run (StillVC.fieldAddr st51 rfl rfl rfl ?_)
    refine StillVC.run (StillVC.loadON oh3 0 rfl ty49 rfl rfl rfl ?_)
    refine StillVC.run (StillVC.fieldAddr st51 rfl rfl rfl ?_)
    refine StillVC.run (StillVC.loadON oh3 1 rfl ty49 rfl rfl rfl ?_)
    refine CallVC.ret (sameExpr_spec Q false hat I J _ expr ey _ _ _ (Nat.le_refl _) b7 hex rx px (hIe.ext oh3.ext) (hJe.ext oh3.ext)) ?_
    rintro _ hs3 ⟨rfl, oc3⟩
    have os3 := oc3.thenE (by assumption)
    refine RetVC.one rfl ?_
    exact ⟨rfl, Own.sel (by assumption) [] rfl⟩

end Go.Proofs.YtnmfanjhepepbaaGreatDoor

/- The reference's equality of programs, of those that are equal. -/
namespace Go.Proofs.YtnmfanjhepepbaaGreatDoor
open Go

abbrev Cells25 := {c : List Value // c.length = 25}

theorem itsR_cells {I : Item} : ∀ {cs : List (List Value)} {xs : List It}, itsR I cs xs → ∃ ds : List Cells25, cs.flatten = ds.flatMap Subtype.val ∧ ∀ (i : Nat) (x : It), xs[i]? = some x → ∃ d : Cells25, ds[i]? = some d ∧ itR I d.1 x
  | [], [], _ => ⟨[], rfl, fun i x h => by simp at h⟩
  | c :: cs, x :: xs, h => by
    obtain ⟨ds, h1, h2⟩ := itsR_cells h.2
    refine ⟨⟨c, h.1.len⟩ :: ds, by rw [List.flatten_cons, List.flatMap_cons, h1], fun i y hy => ?_⟩
    cases i with
    | zero => simp at hy; subst hy; exact ⟨_, rfl, h.1⟩
    | succ i => exact h2 i y (by simpa using hy)
  | [], _ :: _, h => h.elim
  | _ :: _, [], h => h.elim

def ItsQ (Q : Nat → Nat → Prop) : List It → List It → Prop
  | [], [] => True
  | x :: xs, y :: ys => ItQ Q x y ∧ ItsQ Q xs ys
  | _, _ => False

theorem itsQ_get {Q : Nat → Nat → Prop} : ∀ {l m : List It} {i : Nat} {x : It}, ItsQ Q l m → l[i]? = some x → ∃ y, m[i]? = some y ∧ ItQ Q x y
  | [], _, _, _, _, h => by simp at h
  | a :: l, b :: m, 0, x, hq, h => by simp at h; subst h; exact ⟨b, rfl, hq.1⟩
  | a :: l, b :: m, i + 1, x, hq, h => itsQ_get (l := l) (m := m) (i := i) hq.2 (by simpa using h)
  | a :: l, [], _, _, hq, _ => hq.elim

theorem itsQ_len {Q : Nat → Nat → Prop} : ∀ {l m : List It}, ItsQ Q l m → l.length = m.length
  | [], [], _ => rfl
  | a :: l, b :: m, hq => by simp [itsQ_len hq.2]
  | a :: l, [], hq => hq.elim
  | [], b :: m, hq => hq.elim

set_option maxHeartbeats 4000000 in
set_option maxRecDepth 100000 in
/-- Items in slices: what each of the first ones of the heap reads as. -/
theorem sameItems_specA (Q : Nat → Nat → Prop) (at_ : Bool) (hat : at_ = true → ∀ o o', Q o o' → o = o') (xs ys : List It) (va vb : Value) (ca cb : List Cells25) (h : Heap) (hB : ∀ x ∈ xs, ItB 10000 x) (hQ : ItsQ Q xs ys) (hl : xs.length ≤ 1000000)
    (hA : ArrN 25 h va xs.length (ca.flatMap Subtype.val)) (hD : ArrN 25 h vb ys.length (cb.flatMap Subtype.val))
    (ha : ∀ (i : Nat) (x : It), xs[i]? = some x → ∃ (d : Cells25) (I : Item), ca[i]? = some d ∧ itR I d.1 x ∧ SatE I h) (hb : ∀ (i : Nat) (y : It), ys[i]? = some y → ∃ (d : Cells25) (I : Item), cb[i]? = some d ∧ itR I d.1 y ∧ SatE I h) :
    SpecR Tryz.prog 13 [va, vb, .bool at_] h fun r h' => r = .bool true ∧ Own h [] h' := by
  have hll := itsQ_len hQ
  refine Spec.enter Tryz.func13 rfl Tryz.ntmps13 (by kernel_rfl) ?_
  have o0 := Own.refl h
  refine StillVC.run (StillVC.lenN hA sl23 ?_)
  refine StillVC.run (StillVC.lenN hD sl23 ?_)
  refine Br.ndec (fun hc => absurd (by first | omega | assumption | decide | exact rfl) hc) (fun c12 => ?_)
  refine LoopVC.intro [6, 7, 13, 14, 15, 16, 17, 18, 19, 20, 21, 22, 23, 24, 25, 26, 27, 28, 29] [7] (fun vs hh => ∃ (i : Nat), i ≤ xs.length ∧ vs = [.int .i64 i] ∧ Own h [] hh) (fun vs _ => match vs with | [.int _ i] => xs.length - i.toNat | _ => 0) ?_ ?_
  · exact ⟨0, by omega, rfl, o0⟩
  · rintro vs junk hh ⟨i, hi, rfl, oh⟩
    by_cases hlt : i < xs.length
    · obtain ⟨x, hx⟩ := getx hlt
      obtain ⟨y, hy, hq⟩ := itsQ_get hQ hx
      obtain ⟨cx, I, hcx, hrx, hsx⟩ := ha i x hx
      obtain ⟨cy, J, hcy, hry, hsy⟩ := hb i y hy
      refine StillVC.run (StillVC.lenN (hA.ext oh.ext) sl23 ?_)
      refine Br.dec (fun c21 => ?_) (fun hc => absurd (by omega) hc)
      refine DrawVC.intro [0, 1, 2, 4, 5, 6, 8, 10] [3, 7] [9] [0, 1, 2, 3, 4, 5, 6, 7, 8, 9, 10] mixed (by kernel_rfl) rfl (fun _ _ _ _ h => h) ?_
      refine StillVC.idxN sl23 ty51 (hA.ext oh.ext) rfl (by omega) (by omega) ?_
      refine StillVC.loadFT ty51 (hA.ext oh.ext) (fun y : Cells25 => y.2) (by decide) rfl (by assumption) ?_
      refine StillVC.idxN sl23 ty51 (hD.ext oh.ext) rfl (by omega) (by omega) ?_
      refine StillVC.loadFT ty51 (hD.ext oh.ext) (fun y : Cells25 => y.2) (by decide) rfl (by assumption) ?_
      refine CallVC.ret (sameItem_spec Q at_ hat I J x y cx.1 cy.1 _ (hB x (List.mem_of_getElem? hx)) hq hrx hry (hsx.ext oh.ext) (hsy.ext oh.ext)) ?_
      rintro _ h2 ⟨rfl, oc⟩
      have o2 := oc.thenE oh
      refine Br.ff ?_
      refine Ar.i64 (by omega) (by omega) ?_
      refine ⟨rfl, ?_⟩
      exact ⟨⟨i + 1, by omega, rfl, Own.sel (by assumption) [] rfl⟩, by simp; omega⟩
    · refine StillVC.run (StillVC.lenN (hA.ext oh.ext) sl23 ?_)
      refine Br.dec (fun hc => absurd hc (by omega)) (fun c81 => ?_)
      refine RetVC.one rfl ?_
      exact ⟨rfl, oh⟩

/-- Two programs. -/
theorem sameItems_spec (Q : Nat → Nat → Prop) (at_ : Bool) (hat : at_ = true → ∀ o o', Q o o' → o = o') (I J : Item) (xs ys : List It) (va vb : Value) (h : Heap) (hB : ∀ x ∈ xs, ItB 10000 x) (hQ : ItsQ Q xs ys) (hl : xs.length ≤ 1000000) (ha : progR I va xs) (hb : progR J vb ys) (hI : SatE I h) (hJ : SatE J h) :
    SpecR Tryz.prog 13 [va, vb, .bool at_] h fun r h' => r = .bool true ∧ Own h [] h' := by
  obtain ⟨cs, r1, r2⟩ := ha
  obtain ⟨ds, p1, p2⟩ := hb
  obtain ⟨ca, e1, k1⟩ := itsR_cells r2
  obtain ⟨cb, e2, k2⟩ := itsR_cells p2
  rw [e1] at r1
  rw [e2] at p1
  exact sameItems_specA Q at_ hat xs ys va vb ca cb h hB hQ hl (r1 h hI.sat) (p1 h hJ.sat) (fun i x hx => by obtain ⟨d, h1, h2⟩ := k1 i x hx; exact ⟨d, I, h1, h2, hI⟩) (fun i x hx => by obtain ⟨d, h1, h2⟩ := k2 i x hx; exact ⟨d, J, h1, h2, hJ⟩)

set_option maxHeartbeats 4000000 in
set_option maxRecDepth 100000 in
theorem same_spec (Q : Nat → Nat → Prop) (at_ : Bool) (hat : at_ = true → ∀ o o', Q o o' → o = o') (I J : Item) (xs ys : List It) (va vb : Value) (h : Heap) (hB : ∀ x ∈ xs, ItB 10000 x) (hQ : ItsQ Q xs ys) (hl : xs.length ≤ 1000000) (ha : progR I va xs) (hb : progR J vb ys) (hI : SatE I h) (hJ : SatE J h) :
    SpecR Tryz.prog 10 [.agg ⟨[va]⟩, .agg ⟨[vb]⟩, .bool at_] h fun r h' => r = .bool true ∧ Own h [] h' := by
  refine Spec.enter Tryz.func10 rfl Tryz.ntmps10 (by kernel_rfl) ?_
  have o0 := Own.refl h
  (refine RunVC.boxO o0 rfl ?_; intro b10 m10 o10)
  (refine RunVC.boxO o10 rfl ?_; intro b11 m11 o11)
  refine StillVC.run (StillVC.fieldAddr st25 rfl rfl rfl ?_)
  refine StillVC.run (StillVC.loadO o11 0 rfl ty23 rfl rfl ?_)
  refine StillVC.run (StillVC.fieldAddr st25 rfl rfl rfl ?_)
  refine StillVC.run (StillVC.loadO o11 1 rfl ty23 rfl rfl ?_)
  refine CallVC.ret (sameItems_spec Q at_ hat I J xs ys va vb _ hB hQ hl ha hb (hI.ext o11.ext) (hJ.ext o11.ext)) ?_
  rintro _ h2 ⟨rfl, oc⟩
  have o2 := oc.thenE (by assumption)
  refine RetVC.one rfl ?_
  exact ⟨rfl, Own.sel (by assumption) [] rfl⟩

end Go.Proofs.YtnmfanjhepepbaaGreatDoor
