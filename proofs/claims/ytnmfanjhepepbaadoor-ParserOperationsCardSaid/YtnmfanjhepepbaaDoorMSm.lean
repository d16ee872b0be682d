/-
  The reference's equality of trees, of trees that are equal. Items in slices, and lists of items that are alike.
-/
import Derived.Test.YtnmfanjhepepbaaDoorStructs
import Derived.Test.YtnmfanjhepepbaaDoorMPd
import Derived.Test.YtnmfanjhepepbaaDoorMPe
import Derived.Test.YtnmfanjhepepbaaDoorVcSame
set_option linter.all false
/- The reference's equality of trees, of trees that are equal. -/
namespace Go.Proofs.YtnmfanjhepepbaaDoor
open Go

theorem dp_cond : deepP Tryd.prog 5 56 = some (true, [3, 3, 1, 2, 2, 3, 2, 3, 3, 1, 2, 2, 3, 2]) := by kernel_rfl
theorem eg_cond : Tryd.prog.eqGuardType Tryd.prog.depth 56 = false := by kernel_rfl
theorem dp_col : deepP Tryd.prog 5 102 = some (true, [3, 2, 2, 2, 3]) := by kernel_rfl
theorem eg_col : Tryd.prog.eqGuardType Tryd.prog.depth 102 = false := by kernel_rfl
theorem dp_term : deepP Tryd.prog 5 61 = some (true, [3, 2, 2, 2, 2, 2, 2]) := by kernel_rfl
theorem eg_term : Tryd.prog.eqGuardType Tryd.prog.depth 61 = false := by kernel_rfl
theorem dp_var : deepP Tryd.prog 5 115 = some (true, [3, 3]) := by kernel_rfl
theorem eg_var : Tryd.prog.eqGuardType Tryd.prog.depth 115 = false := by kernel_rfl

theorem strs_flat : ∀ (l : List (List UInt8)), l.flatMap strC = strs l
  | [] => rfl
  | x :: l => by
    rw [List.flatMap_cons, strs_flat l]
    rfl

set_option maxHeartbeats 4000000 in
set_option maxRecDepth 100000 in
theorem sstrings_spec (a : List (List UInt8)) (va vb : Value) (h : Heap) (hA : Arr h va (strs a)) (hB : Arr h vb (strs a)) (hl : a.length ≤ 1000000) :
    SpecR Tryd.prog 23 [va, vb] h fun r h' => r = .bool true ∧ Own h [] h' := by
  have hsl : (strs a).length = a.length := by simp [strs]
  refine Spec.enter Tryd.func23 rfl Tryd.ntmps23 (by kernel_rfl) ?_
  have o0 := Own.refl h
  refine StillVC.run (StillVC.lenAn hA (by assumption) sl36 ?_)
  refine StillVC.run (StillVC.lenAn hB (by assumption) sl36 ?_)
  refine Br.ndec (fun hc => absurd (by first | omega | assumption | decide | exact rfl) hc) (fun c12 => ?_)
  refine LoopVC.intro [4, 5, 11, 12, 13, 14, 15, 16, 17, 18, 19, 20, 21, 22, 23, 24, 25] [5] (fun vs hh => ∃ (i : Nat), i ≤ a.length ∧ vs = [.int .i64 i] ∧ Own h [] hh) (fun vs _ => match vs with | [.int _ i] => a.length - i.toNat | _ => 0) ?_ ?_
  · exact ⟨0, by omega, rfl, o0⟩
  · rintro vs junk hh ⟨i, hi, rfl, oh⟩
    by_cases hlt : i < a.length
    · obtain ⟨s, hs⟩ := getx hlt
      have hss : (strs a)[i]? = some (.string ⟨⟨s⟩⟩) := by simp [strs, hs]
      refine StillVC.run (StillVC.lenAn (hA.ext oh.ext) (by assumption) sl36 ?_)
      refine Br.dec (fun c21 => ?_) (fun hc => absurd (by omega) hc)
      refine DrawVC.intro [0, 1, 2, 4, 5, 6, 8] [3, 7] [] [0, 1, 2, 3, 4, 5, 6, 7, 8] mixed (by kernel_rfl) rfl (fun _ _ _ _ h => h) ?_
      refine StillVC.idx sl36 ty9 (hA.ext oh.ext) rfl (by omega) (by omega) ?_
      refine StillVC.loadM (hA.ext oh.ext) ty9 rfl (by first | assumption | rfl) ?_
      refine StillVC.idx sl36 ty9 (hB.ext oh.ext) rfl (by omega) (by omega) ?_
      refine StillVC.loadM (hB.ext oh.ext) ty9 rfl (by first | assumption | rfl) ?_
      refine Br.ndec (fun hc => absurd (by first | omega | assumption | decide | exact rfl) hc) (fun c26 => ?_)
      refine Ar.i64 (by omega) (by omega) ?_
      refine ⟨rfl, ?_⟩
      exact ⟨⟨i + 1, by omega, rfl, Own.sel (by assumption) [] rfl⟩, by simp; omega⟩
    · refine StillVC.run (StillVC.lenAn (hA.ext oh.ext) (by assumption) sl36 ?_)
      refine Br.dec (fun hc => absurd hc (by omega)) (fun c41 => ?_)
      refine RetVC.one rfl ?_
      exact ⟨rfl, oh⟩

set_option maxHeartbeats 4000000 in
set_option maxRecDepth 100000 in
theorem sconds_spec (a : List Cnd) (va vb : Value) (h : Heap) (hA : ArrN 14 h va a.length (a.flatMap cndC)) (hB : ArrN 14 h vb a.length (a.flatMap cndC)) (hl : a.length ≤ 1000000) :
    SpecR Tryd.prog 24 [va, vb] h fun r h' => r = .bool true ∧ Own h [] h' := by
  refine Spec.enter Tryd.func24 rfl Tryd.ntmps24 (by kernel_rfl) ?_
  have o0 := Own.refl h
  refine StillVC.run (StillVC.lenN hA sl40 ?_)
  refine StillVC.run (StillVC.lenN hB sl40 ?_)
  refine Br.ndec (fun hc => absurd (by first | omega | assumption | decide | exact rfl) hc) (fun c12 => ?_)
  refine LoopVC.intro [4, 5, 11, 12, 13, 14, 15, 16, 17, 18, 19, 20, 21, 22, 23, 24, 25] [5] (fun vs hh => ∃ (i : Nat), i ≤ a.length ∧ vs = [.int .i64 i] ∧ Own h [] hh) (fun vs _ => match vs with | [.int _ i] => a.length - i.toNat | _ => 0) ?_ ?_
  · exact ⟨0, by omega, rfl, o0⟩
  · rintro vs junk hh ⟨i, hi, rfl, oh⟩
    by_cases hlt : i < a.length
    · obtain ⟨s, hs⟩ := getx hlt
      refine StillVC.run (StillVC.lenN (hA.ext oh.ext) sl40 ?_)
      refine Br.dec (fun c21 => ?_) (fun hc => absurd (by omega) hc)
      refine DrawVC.intro [0, 1, 2, 4, 5, 6, 8] [3, 7] [] [0, 1, 2, 3, 4, 5, 6, 7, 8] mixed (by kernel_rfl) rfl (fun _ _ _ _ h => h) ?_
      refine StillVC.idxN sl40 ty56 (hA.ext oh.ext) rfl (by omega) (by omega) ?_
      refine StillVC.loadFT ty56 (hA.ext oh.ext) (fun _ => rfl) (by decide) rfl (by assumption) ?_
      refine StillVC.idxN sl40 ty56 (hB.ext oh.ext) rfl (by omega) (by omega) ?_
      refine StillVC.loadFT ty56 (hB.ext oh.ext) (fun _ => rfl) (by decide) rfl (by assumption) ?_
      refine StillVC.neSelf dp_cond eg_cond rfl rfl rfl ?_
      refine Br.ff ?_
      refine Ar.i64 (by omega) (by omega) ?_
      refine ⟨rfl, ?_⟩
      exact ⟨⟨i + 1, by omega, rfl, Own.sel (by assumption) [] rfl⟩, by simp; omega⟩
    · refine StillVC.run (StillVC.lenN (hA.ext oh.ext) sl40 ?_)
      refine Br.dec (fun hc => absurd hc (by omega)) (fun c41 => ?_)
      refine RetVC.one rfl ?_
      exact ⟨rfl, oh⟩

mutual
def exDep : Ex → Nat
  | .mk _ _ ks _ _ _ _ _ _ => exsDep ks + 1
def exsDep : List Ex → Nat
  | [] => 0
  | x :: xs => max (exDep x) (exsDep xs)
end

theorem exsDep_get : ∀ {l : List Ex} {i : Nat} {x : Ex}, l[i]? = some x → exDep x ≤ exsDep l
  | [], _, _, h => by simp at h
  | y :: l, 0, x, h => by simp at h; subst h; rw [exsDep]; exact Nat.le_max_left _ _
  | y :: l, i + 1, x, h => by
    have := exsDep_get (l := l) (i := i) (x := x) (by simpa using h)
    rw [exsDep]
    exact Nat.le_trans this (Nat.le_max_right _ _)

theorem exsQ_get {Q : Nat → Nat → Prop} : ∀ {l m : List Ex} {i : Nat} {x : Ex}, ExsQ Q l m → l[i]? = some x → ∃ y, m[i]? = some y ∧ ExQ Q x y
  | [], _, _, _, _, h => by simp at h
  | a :: l, b :: m, 0, x, hq, h => by simp at h; subst h; exact ⟨b, rfl, hq.1⟩
  | a :: l, b :: m, i + 1, x, hq, h => exsQ_get (l := l) (m := m) (i := i) hq.2 (by simpa using h)
  | a :: l, [], _, _, hq, _ => hq.elim

theorem exsQ_len {Q : Nat → Nat → Prop} : ∀ {l m : List Ex}, ExsQ Q l m → l.length = m.length
  | [], [], _ => rfl
  | a :: l, b :: m, hq => by simp [exsQ_len hq.2]
  | a :: l, [], hq => hq.elim
  | [], b :: m, hq => hq.elim

theorem exsB_get {N : Nat} : ∀ {l : List Ex} {i : Nat} {x : Ex}, ExsB N l → l[i]? = some x → ExB N x
  | [], _, _, _, h => by simp at h
  | a :: l, 0, x, hq, h => by simp at h; subst h; exact hq.1
  | a :: l, i + 1, x, hq, h => exsB_get (l := l) (i := i) hq.2 (by simpa using h)

theorem exsR_get {I : Item} : ∀ {cs : List Cells9} {l : List Ex} {i : Nat} {x : Ex}, exsR I cs l → l[i]? = some x → ∃ c, cs[i]? = some c ∧ exR I c.1 x
  | _, [], _, _, _, h => by simp at h
  | c :: cs, a :: l, 0, x, hq, h => by simp at h; subst h; exact ⟨c, rfl, hq.1⟩
  | c :: cs, a :: l, i + 1, x, hq, h => exsR_get (cs := cs) (l := l) (i := i) hq.2 (by simpa using h)
  | [], a :: l, _, _, hq, _ => hq.elim

theorem exsR_len {I : Item} : ∀ {cs : List Cells9} {l : List Ex}, exsR I cs l → cs.length = l.length
  | [], [], _ => rfl
  | c :: cs, a :: l, hq => by simp [exsR_len hq.2]
  | c :: cs, [], hq => hq.elim
  | [], b :: m, hq => hq.elim

/-- An item holds, and will hold. -/
def SatE (I : Item) (h : Heap) : Prop := ∀ h', Ext h h' → I.sat h'

theorem SatE.ext {I : Item} {h h' : Heap} (s : SatE I h) (e : Ext h h') : SatE I h' := fun h2 e2 => s h2 (e.trans e2)
theorem SatE.sat {I : Item} {h : Heap} (s : SatE I h) : I.sat h := s h (Ext.refl h)
theorem Own.satE {B : Base} {L : List Item} {h : Heap} (o : Own B L h) (k : Nat) {x : Item} (hk : L[k]? = some x) : SatE x h := fun h' e =>
  x.loc h h' (fun b hb => e.old b (o.hi x (List.mem_of_getElem? hk) b hb)) (o.satK k hk)

set_option maxHeartbeats 8000000 in
set_option maxRecDepth 100000 in
theorem sameExpr_spec (Q : Nat → Nat → Prop) (at_ : Bool) (hat : at_ = true → ∀ o o', Q o o' → o = o') (I J : Item) : ∀ (n : Nat) (x y : Ex) (c d : List Value) (h : Heap) (_ : exDep x ≤ n) (_ : ExB 10000 x) (_ : ExQ Q x y) (_ : exR I c x) (_ : exR J d y) (_ : SatE I h) (_ : SatE J h),
    SpecR Tryd.prog 12 [.agg ⟨c⟩, .agg ⟨d⟩, .bool at_] h fun r h' => r = .bool true ∧ Own h [] h'
  | 0, .mk _ _ _ _ _ _ _ _ _, _, _, _, _, hd, _, _, _, _, _, _ => absurd hd (by rw [exDep]; omega)
  | n + 1, .mk k t ks cs ns a s g o, .mk k' t' ks' cs' ns' a' s' g' o', c, d, h, hd, hB, hQ, hc, hD, hIe, hJe => by
    have hI := hIe.sat
    have hJ := hJe.sat
    rw [exDep] at hd
    rw [ExB] at hB
    rw [ExQ] at hQ
    rw [exR] at hc hD
    obtain ⟨rfl, rfl, rfl, rfl, rfl, rfl, rfl, hoo, hks⟩ := hQ
    obtain ⟨vk, vc, vn, rfl, r1, r2, xs, r3, rk⟩ := hc
    obtain ⟨uk, uc, un, rfl, p1, p2, ys, p3, pk⟩ := hD
    obtain ⟨b1, b2, b3, b4⟩ := hB
    have hkl := exsQ_len hks
    have q1 := r1 h hI
    have q2 := r2 h hI
    have q3 := r3 h hI
    have w1 := p1 h hJ
    have w2 := p2 h hJ
    have w3 := p3 h hJ
    obtain ⟨e1, f1, rfl⟩ := r1.isS hI
    obtain ⟨e2, f2, rfl⟩ := r2.isS hI
    obtain ⟨e3, f3, rfl⟩ := r3.isS hI
    obtain ⟨e4, f4, rfl⟩ := p1.isS hJ
    obtain ⟨e5, f5, rfl⟩ := p2.isS hJ
    obtain ⟨e6, f6, rfl⟩ := p3.isS hJ
    rw [strs_flat] at q2 w2
    unfold exC
    refine Spec.enter Tryd.func12 rfl Tryd.ntmps12 (by kernel_rfl) ?_
    have o0 := Own.refl h
    have hkk : at_ = true → o = o' := fun e => hat e _ _ hoo
    have hxs : xs.length = ks.length := exsR_len rk
    have hys : ys.length = ks'.length := exsR_len pk
    cases at_ with
    | true =>
      obtain rfl := hkk rfl
      (refine RunVC.boxO o0 rfl ?_; intro b10 m10 o10)
      (refine RunVC.boxO o10 rfl ?_; intro b11 m11 o11)
      refine Br.tt ?_
      refine StillVC.run (StillVC.fieldAddr st43 rfl rfl rfl ?_)
      refine StillVC.run (StillVC.loadO o11 0 rfl ty3 rfl rfl ?_)
      refine StillVC.run (StillVC.fieldAddr st43 rfl rfl rfl ?_)
      refine StillVC.run (StillVC.loadO o11 1 rfl ty3 rfl rfl ?_)
      refine Br.ndec (fun hc => absurd (by first | omega | assumption | decide | exact rfl) hc) (fun c16 => ?_)
      refine StillVC.run (StillVC.fieldAddr st43 rfl rfl rfl ?_)
      refine StillVC.run (StillVC.loadO o11 0 rfl ty3 rfl rfl ?_)
      refine StillVC.run (StillVC.fieldAddr st43 rfl rfl rfl ?_)
      refine StillVC.run (StillVC.loadO o11 1 rfl ty3 rfl rfl ?_)
      refine Br.ndec (fun hc => absurd (by first | omega | assumption | decide | exact rfl) hc) (fun c21 => ?_)
      refine StillVC.run (StillVC.fieldAddr st43 rfl rfl rfl ?_)
      refine StillVC.run (StillVC.loadO o11 0 rfl ty9 rfl rfl ?_)
      refine StillVC.run (StillVC.fieldAddr st43 rfl rfl rfl ?_)
      refine StillVC.run (StillVC.loadO o11 1 rfl ty9 rfl rfl ?_)
      refine Br.ndec (fun hc => absurd (by first | omega | assumption | decide | exact rfl) hc) (fun c26 => ?_)
      refine StillVC.run (StillVC.fieldAddr st43 rfl rfl rfl ?_)
      refine StillVC.run (StillVC.loadO o11 0 rfl ty9 rfl rfl ?_)
      refine StillVC.run (StillVC.fieldAddr st43 rfl rfl rfl ?_)
      refine StillVC.run (StillVC.loadO o11 1 rfl ty9 rfl rfl ?_)
      refine Br.ndec (fun hc => absurd (by first | omega | assumption | decide | exact rfl) hc) (fun c31 => ?_)
      refine StillVC.run (StillVC.fieldAddr st43 rfl rfl rfl ?_)
      refine StillVC.run (StillVC.loadO o11 0 rfl ty9 rfl rfl ?_)
      refine StillVC.run (StillVC.fieldAddr st43 rfl rfl rfl ?_)
      refine StillVC.run (StillVC.loadO o11 1 rfl ty9 rfl rfl ?_)
      refine Br.ndec (fun hc => absurd (by first | omega | assumption | decide | exact rfl) hc) (fun c36 => ?_)
      refine StillVC.run (StillVC.fieldAddr st43 rfl rfl rfl ?_)
      refine StillVC.run (StillVC.loadO o11 0 rfl ty3 rfl rfl ?_)
      refine StillVC.run (StillVC.fieldAddr st43 rfl rfl rfl ?_)
      refine StillVC.run (StillVC.loadO o11 1 rfl ty3 rfl rfl ?_)
      refine Br.ndec (fun hc => absurd (by first | omega | assumption | decide | exact rfl) hc) (fun c41 => ?_)
      refine StillVC.run (StillVC.fieldAddr st43 rfl rfl rfl ?_)
      refine StillVC.run (StillVC.loadO o11 0 rfl ty41 rfl rfl ?_)
      refine StillVC.run (StillVC.lenV rfl sl41 ?_)
      refine StillVC.run (StillVC.fieldAddr st43 rfl rfl rfl ?_)
      refine StillVC.run (StillVC.loadO o11 1 rfl ty41 rfl rfl ?_)
      refine StillVC.run (StillVC.lenV rfl sl41 ?_)
      refine Br.ndec (fun hc => absurd (by first | omega | assumption | decide | exact rfl) hc) (fun c48 => ?_)
      refine StillVC.run (StillVC.fieldAddr st43 rfl rfl rfl ?_)
      refine StillVC.run (StillVC.loadO o11 0 rfl ty36 rfl rfl ?_)
      refine StillVC.run (StillVC.fieldAddr st43 rfl rfl rfl ?_)
      refine StillVC.run (StillVC.loadO o11 1 rfl ty36 rfl rfl ?_)
      refine CallVC.ret (sstrings_spec ns _ _ _ (q2.ext (Own.ext (h := m11) (by assumption))).to1 (w2.ext (Own.ext (h := m11) (by assumption))).to1 (by omega)) ?_
      rintro _ hs1 ⟨rfl, oc1⟩
      have os1 := oc1.thenE (by assumption)
      refine Br.ff ?_
      refine StillVC.run (StillVC.fieldAddr st43 rfl rfl rfl ?_)
      refine StillVC.run (StillVC.loadO os1 0 rfl ty40 rfl rfl ?_)
      refine StillVC.run (StillVC.fieldAddr st43 rfl rfl rfl ?_)
      refine StillVC.run (StillVC.loadO os1 1 rfl ty40 rfl rfl ?_)
      refine CallVC.ret (sconds_spec cs _ _ _ (q1.ext os1.ext) (w1.ext os1.ext) (by omega)) ?_
      rintro _ hs2 ⟨rfl, oc2⟩
      have os2 := oc2.thenE os1
      refine Br.ff ?_
      refine LoopVC.intro [6, 7, 76, 77, 78, 79, 80, 81, 82, 83, 84, 85, 86, 87, 88, 89, 90, 91, 92, 93, 94, 95] [7] (fun vs hh => ∃ (i : Nat), i ≤ ks.length ∧ vs = [.int .i64 i] ∧ Own h [box b10 [.int .i64 k, .string ⟨⟨t⟩⟩, .slice e3 ks.length f3, .slice e1 cs.length f1, .slice e2 ns.length f2, .string ⟨⟨a⟩⟩, .string ⟨⟨s⟩⟩, .int .i64 g, .int .i64 o] 43, box b11 [.int .i64 k, .string ⟨⟨t⟩⟩, .slice e6 ks'.length f6, .slice e4 cs.length f4, .slice e5 ns.length f5, .string ⟨⟨a⟩⟩, .string ⟨⟨s⟩⟩, .int .i64 g, .int .i64 o] 43] hh) (fun vs _ => match vs with | [.int _ i] => ks.length - i.toNat | _ => 0) ?_ ?_
      · exact ⟨0, by omega, rfl, os2⟩
      · rintro vs junk hh ⟨i, hi, rfl, oh⟩
        clear oc1 os1 oc2 os2
        by_cases hlt : i < ks.length
        · obtain ⟨kx, hkx⟩ := getx hlt
          obtain ⟨ky, hky, hq⟩ := exsQ_get hks hkx
          obtain ⟨cx, hcx, hrx⟩ := exsR_get rk hkx
          obtain ⟨cy, hcy, hry⟩ := exsR_get pk hky
          refine StillVC.run (StillVC.fieldAddr st43 rfl rfl rfl ?_)
          refine StillVC.run (StillVC.loadO oh 0 rfl ty41 rfl rfl ?_)
          refine StillVC.run (StillVC.lenV rfl sl41 ?_)
          refine Br.dec (fun c313 => ?_) (fun hc => absurd (by omega) hc)
          refine DrawVC.intro [0, 2, 3, 5, 7, 8, 10, 12] [1, 4, 6, 9] [11] [0, 1, 2, 3, 4, 5, 6, 7, 8, 9, 10, 11, 12] mixed (by kernel_rfl) rfl (fun _ _ _ _ h => h) ?_
          refine StillVC.fieldAddr st43 rfl rfl rfl ?_
          refine StillVC.loadO oh 0 rfl ty41 rfl rfl ?_
          refine StillVC.idxN sl41 ty43 (q3.ext oh.ext) rfl (by omega) (by omega) ?_
          refine StillVC.loadFT ty43 (q3.ext oh.ext) (fun y : Cells9 => y.2) (by decide) rfl (by assumption) ?_
          refine StillVC.fieldAddr st43 rfl rfl rfl ?_
          refine StillVC.loadO oh 1 rfl ty41 rfl rfl ?_
          refine StillVC.idxN sl41 ty43 (w3.ext oh.ext) rfl (by omega) (by omega) ?_
          refine StillVC.loadFT ty43 (w3.ext oh.ext) (fun y : Cells9 => y.2) (by decide) rfl (by assumption) ?_
          refine CallVC.ret (sameExpr_spec Q true hat I J n kx ky cx.1 cy.1 _ (Nat.le_trans (exsDep_get hkx) (by omega)) (exsB_get b4 hkx) hq hrx hry (hIe.ext oh.ext) (hJe.ext oh.ext)) ?_
          rintro _ hs3 ⟨rfl, oc3⟩
          have os3 := oc3.thenE oh
          refine Br.ff ?_
          refine Ar.i64 (by omega) (by omega) ?_
          refine ⟨rfl, ?_⟩
          exact ⟨⟨i + 1, by omega, rfl, Own.sel (by assumption) [0, 1] rfl⟩, by simp; omega⟩
        · refine StillVC.run (StillVC.fieldAddr st43 rfl rfl rfl ?_)
          refine StillVC.run (StillVC.loadO oh 0 rfl ty41 rfl rfl ?_)
          refine StillVC.run (StillVC.lenV rfl sl41 ?_)
          refine Br.dec (fun hc => absurd hc (by omega)) (fun c413 => ?_)
          refine RetVC.one rfl ?_
          exact ⟨rfl, Own.sel (by assumption) [] rfl⟩
    | false =>
      (refine RunVC.boxO o0 rfl ?_; intro b1010 m1010 o1010)
      (refine RunVC.boxO o1010 rfl ?_; intro b1011 m1011 o1011)
      refine Br.ff ?_
      refine StillVC.run (StillVC.fieldAddr st43 rfl rfl rfl ?_)
      refine StillVC.run (StillVC.loadO o1011 0 rfl ty3 rfl rfl ?_)
      refine StillVC.run (StillVC.fieldAddr st43 rfl rfl rfl ?_)
      refine StillVC.run (StillVC.loadO o1011 1 rfl ty3 rfl rfl ?_)
      refine Br.ndec (fun hc => absurd (by first | omega | assumption | decide | exact rfl) hc) (fun c1016 => ?_)
      refine StillVC.run (StillVC.fieldAddr st43 rfl rfl rfl ?_)
      refine StillVC.run (StillVC.loadO o1011 0 rfl ty9 rfl rfl ?_)
      refine StillVC.run (StillVC.fieldAddr st43 rfl rfl rfl ?_)
      refine StillVC.run (StillVC.loadO o1011 1 rfl ty9 rfl rfl ?_)
      refine Br.ndec (fun hc => absurd (by first | omega | assumption | decide | exact rfl) hc) (fun c1021 => ?_)
      refine StillVC.run (StillVC.fieldAddr st43 rfl rfl rfl ?_)
      refine StillVC.run (StillVC.loadO o1011 0 rfl ty9 rfl rfl ?_)
      refine StillVC.run (StillVC.fieldAddr st43 rfl rfl rfl ?_)
      refine StillVC.run (StillVC.loadO o1011 1 rfl ty9 rfl rfl ?_)
      refine Br.ndec (fun hc => absurd (by first | omega | assumption | decide | exact rfl) hc) (fun c1026 => ?_)
      refine StillVC.run (StillVC.fieldAddr st43 rfl rfl rfl ?_)
      refine StillVC.run (StillVC.loadO o1011 0 rfl ty9 rfl rfl ?_)
      refine StillVC.run (StillVC.fieldAddr st43 rfl rfl rfl ?_)
      refine StillVC.run (StillVC.loadO o1011 1 rfl ty9 rfl rfl ?_)
      refine Br.ndec (fun hc => absurd (by first | omega | assumption | decide | exact rfl) hc) (fun c1031 => ?_)
      refine StillVC.run (StillVC.fieldAddr st43 rfl rfl rfl ?_)
      refine StillVC.run (StillVC.loadO o1011 0 rfl ty3 rfl rfl ?_)
      refine StillVC.run (StillVC.fieldAddr st43 rfl rfl rfl ?_)
      refine StillVC.run (StillVC.loadO o1011 1 rfl ty3 rfl rfl ?_)
      refine Br.ndec (fun hc => absurd (by first | omega | assumption | decide | exact rfl) hc) (fun c1036 => ?_)
      refine StillVC.run (StillVC.fieldAddr st43 rfl rfl rfl ?_)
      refine StillVC.run (StillVC.loadO o1011 0 rfl ty41 rfl rfl ?_)
      refine StillVC.run (StillVC.lenV rfl sl41 ?_)
      refine StillVC.run (StillVC.fieldAddr st43 rfl rfl rfl ?_)
      refine StillVC.run (StillVC.loadO o1011 1 rfl ty41 rfl rfl ?_)
      refine StillVC.run (StillVC.lenV rfl sl41 ?_)
      refine Br.ndec (fun hc => absurd (by first | omega | assumption | decide | exact rfl) hc) (fun c1043 => ?_)
      refine StillVC.run (StillVC.fieldAddr st43 rfl rfl rfl ?_)
      refine StillVC.run (StillVC.loadO o1011 0 rfl ty36 rfl rfl ?_)
      refine StillVC.run (StillVC.fieldAddr st43 rfl rfl rfl ?_)
      refine StillVC.run (StillVC.loadO o1011 1 rfl ty36 rfl rfl ?_)
      refine CallVC.ret (sstrings_spec ns _ _ _ (q2.ext (Own.ext (h := m1011) (by assumption))).to1 (w2.ext (Own.ext (h := m1011) (by assumption))).to1 (by omega)) ?_
      rintro _ hs1 ⟨rfl, oc1⟩
      have os1 := oc1.thenE (by assumption)
      refine Br.ff ?_
      refine StillVC.run (StillVC.fieldAddr st43 rfl rfl rfl ?_)
      refine StillVC.run (StillVC.loadO os1 0 rfl ty40 rfl rfl ?_)
      refine StillVC.run (StillVC.fieldAddr st43 rfl rfl rfl ?_)
      refine StillVC.run (StillVC.loadO os1 1 rfl ty40 rfl rfl ?_)
      refine CallVC.ret (sconds_spec cs _ _ _ (q1.ext os1.ext) (w1.ext os1.ext) (by omega)) ?_
      rintro _ hs2 ⟨rfl, oc2⟩
      have os2 := oc2.thenE os1
      refine Br.ff ?_
      refine LoopVC.intro [6, 7, 76, 77, 78, 79, 80, 81, 82, 83, 84, 85, 86, 87, 88, 89, 90, 91, 92, 93, 94, 95] [7] (fun vs hh => ∃ (i : Nat), i ≤ ks.length ∧ vs = [.int .i64 i] ∧ Own h [box b1010 [.int .i64 k, .string ⟨⟨t⟩⟩, .slice e3 ks.length f3, .slice e1 cs.length f1, .slice e2 ns.length f2, .string ⟨⟨a⟩⟩, .string ⟨⟨s⟩⟩, .int .i64 g, .int .i64 o] 43, box b1011 [.int .i64 k, .string ⟨⟨t⟩⟩, .slice e6 ks'.length f6, .slice e4 cs.length f4, .slice e5 ns.length f5, .string ⟨⟨a⟩⟩, .string ⟨⟨s⟩⟩, .int .i64 g, .int .i64 o'] 43] hh) (fun vs _ => match vs with | [.int _ i] => ks.length - i.toNat | _ => 0) ?_ ?_
      · exact ⟨0, by omega, rfl, os2⟩
      · rintro vs junk hh ⟨i, hi, rfl, oh⟩
        clear oc1 os1 oc2 os2
        by_cases hlt : i < ks.length
        · obtain ⟨kx, hkx⟩ := getx hlt
          obtain ⟨ky, hky, hq⟩ := exsQ_get hks hkx
          obtain ⟨cx, hcx, hrx⟩ := exsR_get rk hkx
          obtain ⟨cy, hcy, hry⟩ := exsR_get pk hky
          refine StillVC.run (StillVC.fieldAddr st43 rfl rfl rfl ?_)
          refine StillVC.run (StillVC.loadO oh 0 rfl ty41 rfl rfl ?_)
          refine StillVC.run (StillVC.lenV rfl sl41 ?_)
          refine Br.dec (fun c1313 => ?_) (fun hc => absurd (by omega) hc)
          refine DrawVC.intro [0, 2, 3, 5, 7, 8, 10, 12] [1, 4, 6, 9] [11] [0, 1, 2, 3, 4, 5, 6, 7, 8, 9, 10, 11, 12] mixed (by kernel_rfl) rfl (fun _ _ _ _ h => h) ?_
          refine StillVC.fieldAddr st43 rfl rfl rfl ?_
          refine StillVC.loadO oh 0 rfl ty41 rfl rfl ?_
          refine StillVC.idxN sl41 ty43 (q3.ext oh.ext) rfl (by omega) (by omega) ?_
          refine StillVC.loadFT ty43 (q3.ext oh.ext) (fun y : Cells9 => y.2) (by decide) rfl (by assumption) ?_
          refine StillVC.fieldAddr st43 rfl rfl rfl ?_
          refine StillVC.loadO oh 1 rfl ty41 rfl rfl ?_
          refine StillVC.idxN sl41 ty43 (w3.ext oh.ext) rfl (by omega) (by omega) ?_
          refine StillVC.loadFT ty43 (w3.ext oh.ext) (fun y : Cells9 => y.2) (by decide) rfl (by assumption) ?_
          refine CallVC.ret (sameExpr_spec Q false hat I J n kx ky cx.1 cy.1 _ (Nat.le_trans (exsDep_get hkx) (by omega)) (exsB_get b4 hkx) hq hrx hry (hIe.ext oh.ext) (hJe.ext oh.ext)) ?_
          rintro _ hs3 ⟨rfl, oc3⟩
          have os3 := oc3.thenE oh
          refine Br.ff ?_
          refine Ar.i64 (by omega) (by omega) ?_
          refine ⟨rfl, ?_⟩
          exact ⟨⟨i + 1, by omega, rfl, Own.sel (by assumption) [0, 1] rfl⟩, by simp; omega⟩
        · refine StillVC.run (StillVC.fieldAddr st43 rfl rfl rfl ?_)
          refine StillVC.run (StillVC.loadO oh 0 rfl ty41 rfl rfl ?_)
          refine StillVC.run (StillVC.lenV rfl sl41 ?_)
          refine Br.dec (fun hc => absurd hc (by omega)) (fun c1413 => ?_)
          refine RetVC.one rfl ?_
          exact ⟨rfl, Own.sel (by assumption) [] rfl⟩

end Go.Proofs.YtnmfanjhepepbaaDoor

/- Items in slices, and lists of items that are alike. -/
namespace Go.Proofs.YtnmfanjhepepbaaDoor
open Go

abbrev Cells25 := {c : List Value // c.length = 25}

theorem itsR_cells {I : Item} : ∀ {cs : List (List Value)} {xs : List It}, itsR I cs xs → ∃ ds : List Cells25, cs.flatten = ds.flatMap Subtype.val ∧ ∀ (i : Nat) (x : It), xs[i]? = some x → ∃ d : Cells25, ds[i]? = some d ∧ itR I d.1 x
  | [], [], _ => ⟨[], rfl, fun i x h => by simp at h⟩
  | c :: cs, x :: xs, h => by
    obtain ⟨ds, h1, h2⟩ := itsR_cells h.2
    refine ⟨⟨c, h.1.len⟩ :: ds, by rw [List.flatten_cons, List.flatMap_cons, h1], fun i y hy => ?_⟩
    cases i with
    | zero => simp at hy; subst hy; exact ⟨_, rfl, h.1⟩
    | succ i => exact h2 i y (by simpa using hy)
  | [], _ :: _, h => h.elim
  | _ :: _, [], h => h.elim

def ItsQ (Q : Nat → Nat → Prop) : List It → List It → Prop
  | [], [] => True
  | x :: xs, y :: ys => ItQ Q x y ∧ ItsQ Q xs ys
  | _, _ => False

theorem itsQ_get {Q : Nat → Nat → Prop} : ∀ {l m : List It} {i : Nat} {x : It}, ItsQ Q l m → l[i]? = some x → ∃ y, m[i]? = some y ∧ ItQ Q x y
  | [], _, _, _, _, h => by simp at h
  | a :: l, b :: m, 0, x, hq, h => by simp at h; subst h; exact ⟨b, rfl, hq.1⟩
  | a :: l, b :: m, i + 1, x, hq, h => itsQ_get (l := l) (m := m) (i := i) hq.2 (by simpa using h)
  | a :: l, [], _, _, hq, _ => hq.elim

theorem itsQ_len {Q : Nat → Nat → Prop} : ∀ {l m : List It}, ItsQ Q l m → l.length = m.length
  | [], [], _ => rfl
  | a :: l, b :: m, hq => by simp [itsQ_len hq.2]
  | a :: l, [], hq => hq.elim
  | [], b :: m, hq => hq.elim

end Go.Proofs.YtnmfanjhepepbaaDoor
