/-
  The walk of ParserBeginnings.
-/
import Derived.Test.YtnmfanjhepepbaaGreatDoorStructs
import Derived.Test.YtnmfanjhepepbaaGreatDoorMJo
set_option linter.all false
/- The walk of ParserBeginnings. -/
namespace Go.Proofs.YtnmfanjhepepbaaGreatDoor
open Go

theorem itemP_off {z : Nat} {t : Tok} {q : List Tok} {x : It} {r : List Tok} (h : itemP z (t :: q) = .ok (x, r)) : x.off = t.off := by
  rw [itemP_G] at h
  have : Post (itemG t.off z) (fun x => x.off = t.off) := post_bind fun k => post_bind fun nm => post_from (kept_part z k _) fun x hx => post_bind fun _ => post_pure (hx.2.2.trans rfl)
  exact this _ _ _ h

mutual
theorem exQ_refl : ∀ (x : Ex), ExQ Eq x x
  | .mk k t ks c n a s g o => by
    rw [ExQ]
    exact ⟨rfl, rfl, rfl, rfl, rfl, rfl, rfl, rfl, exsQ_refl ks⟩
theorem exsQ_refl : ∀ (xs : List Ex), ExsQ Eq xs xs
  | [] => trivial
  | x :: xs => ⟨exQ_refl x, exsQ_refl xs⟩
end

theorem itsQ_refl : ∀ (xs : List It), ItsQ Eq xs xs
  | [] => trivial
  | x :: xs => ⟨⟨x.off, x.expr, rfl, rfl, exQ_refl _⟩, itsQ_refl xs⟩

theorem flat_take25 : ∀ (l : List Cells25) (i : Nat), (l.flatMap Subtype.val).take (i * 25) = (l.take i).flatMap Subtype.val
  | [], _ => by simp
  | c :: l, 0 => by simp
  | c :: l, i + 1 => by
    have ih := flat_take25 l i
    rw [List.flatMap_cons, List.take_succ_cons, List.flatMap_cons, ← ih, List.take_append, c.2, Nat.add_mul, Nat.one_mul, Nat.add_sub_cancel, List.take_of_length_le (by rw [c.2]; omega)]

/-- The text before an item. -/
theorem begin_plain {s : List UInt8} {ts : List Tok} {xs : List It} (hL : lexM s = .ok ts) (hI : Its s.length ts xs) (hl : xs.length ≤ 200) {i : Nat} {x : It} (hx : xs[i]? = some x) :
    x.off ≤ s.length ∧ parseM (s.take x.off) = .ok (xs.take i) := by
  have g := lexM_okG hL
  obtain ⟨w, b, _⟩ := LexG.wf _ _ _ _ (Nat.le_refl _) g
  have h5 := (lexM_props.2 ts hL).1
  have hlt : i < xs.length := (List.getElem?_eq_some_iff.1 hx).1
  obtain ⟨p, r, rfl, i1, i2⟩ := hI.take (z' := (s.take x.off).length) w i (by omega)
  have hd : xs.drop i = x :: xs.drop (i + 1) := by
    obtain ⟨h1, rfl⟩ := List.getElem?_eq_some_iff.1 hx
    exact List.drop_eq_getElem_cons h1
  rw [hd] at i2
  cases i2 with
  | @cons _ q _ _ hp _ =>
    cases r with
    | nil => rw [itemP_nil] at hp; cases hp
    | cons t r =>
      have ho := itemP_off hp
      have hb := b t (by simp)
      have hc := LexG.cut _ _ _ _ _ _ (Nat.le_refl _) g
      rw [Nat.sub_zero, ← ho] at hc
      have hM := lexM_of (by simp at h5; omega) hc
      exact ⟨by omega, (parseM_ok hM).2 ⟨i1, by rw [List.length_take]; omega⟩⟩

set_option maxHeartbeats 8000000 in
set_option maxRecDepth 100000 in
theorem beginnings_spec (s : List UInt8) (raw : Int) (h : Heap) (hs : s.length ≤ 9223372036854775807) (h0 : 0 ≤ raw) (h1 : raw ≤ 255) (hW : WordsH h) : SpecR Tryz.prog 6 [.string ⟨⟨s⟩⟩, .int .u8 raw] h fun v h' => v = .bool true ∧ Own h [] h' := by
  refine Spec.enter Tryz.func6 rfl Tryz.ntmps6 (by kernel_rfl) ?_
  have o0 := Own.refl h
  refine CallVC.ret (head_spec _ hW) ?_
  rintro _ h1' ⟨rfl, oc⟩
  have o1 := oc.thenE (by assumption)
  clear oc
  by_cases hbig : 8000 < s.length
  · refine StillVC.run (StillVC.lenS rfl str9 ?_)
    refine Br.dec (fun c21 => ?_) (fun hc => absurd (by omega) hc)
    refine RetVC.one rfl ?_
    exact ⟨rfl, Own.sel (by assumption) [] rfl⟩
  refine StillVC.run (StillVC.lenS rfl str9 ?_)
  refine Br.dec (fun hc => absurd hc (by omega)) (fun c41 => ?_)
  refine CallVC.ret (parse_cases (by omega) _ (hW.ext o1.ext)) ?_
  rintro _ h2 (⟨e, i, hM, hne, rfl, oc⟩ | ⟨xs, ts, ua, uc, I, hM, hL, hI, hlen, rfl, hp, oc⟩)
  · have o2 := oc.thenE (by assumption)
    clear oc
    (refine RunVC.alloc o2 ty25 ?_; intro b60 m60 o60)
    (refine RunVC.storeL o60 0 rfl ty25 rfl (by decide) (And.intro ⟨rfl, rfl⟩ ?_); intro m61 o61)
    refine Br.ndec (fun c62 => ?_) (fun hc => absurd hc (by first | omega | assumption | decide | exact rfl))
    refine Br.tt ?_
    refine RetVC.one rfl ?_
    exact ⟨rfl, Own.sel (by assumption) [] rfl⟩
  · have o2 := Own.call (by assumption) oc
    simp only [List.nil_append] at o2
    clear oc
    by_cases hz : xs.length = 0
    · (refine RunVC.alloc o2 ty25 ?_; intro b80 m80 o80)
      (refine RunVC.storeL o80 1 rfl ty25 rfl (by decide) (And.intro ⟨rfl, rfl⟩ ?_); intro m81 o81)
      refine Br.ff ?_
      refine StillVC.run (StillVC.fieldAddr st25 rfl rfl rfl ?_)
      refine StillVC.run (StillVC.loadO o81 1 rfl ty23 rfl rfl ?_)
      refine StillVC.run (StillVC.lenV rfl sl23 ?_)
      refine Br.dec (fun c85 => ?_) (fun hc => absurd (by omega) hc)
      refine RetVC.one rfl ?_
      exact ⟨rfl, Own.sel (by assumption) [] rfl⟩
    · have hpos : (0 : Int) < xs.length := by omega
      have hm0 := Int.emod_nonneg raw (b := (xs.length : Int)) (by omega)
      have hm1 := Int.emod_lt_of_pos raw hpos
      have hil : (raw % (xs.length : Int)).toNat < xs.length := by omega
      obtain ⟨x, hx⟩ := getx hil
      obtain ⟨hxo, hpl⟩ := begin_plain hL hI hlen hx
      obtain ⟨ca, r1, k1, n1, l1⟩ := progR_cells hp (Own.satK o2 0 rfl)
      obtain ⟨cx, hcx, hrx⟩ := k1 _ x hx
      have hu : cx.1[2]? = some (.int .i64 x.off) := by
        obtain ⟨vc, vn, vt, vf, vv, vd, e0, e1, e2, e3, e4, e5, e6, e7, e8, hcc, _⟩ := hrx
        rw [hcc]
        rfl
      (refine RunVC.alloc o2 ty25 ?_; intro b100 m100 o100)
      (refine RunVC.storeL o100 1 rfl ty25 rfl (by decide) (And.intro ⟨rfl, rfl⟩ ?_); intro m101 o101)
      refine Br.ff ?_
      refine StillVC.run (StillVC.fieldAddr st25 rfl rfl rfl ?_)
      refine StillVC.run (StillVC.loadO o101 1 rfl ty23 rfl rfl ?_)
      refine StillVC.run (StillVC.lenV rfl sl23 ?_)
      refine Br.dec (fun hc => absurd hc (by omega)) (fun c105 => ?_)
      refine StillVC.run (StillVC.convI rfl int5 int3 ?_)
      refine Ar.i64 (by omega) (by omega) ?_
      refine StillVC.run (StillVC.fieldAddr st25 rfl rfl rfl ?_)
      refine StillVC.run (StillVC.loadO o101 1 rfl ty23 rfl rfl ?_)
      refine StillVC.run (StillVC.lenV rfl sl23 ?_)
      refine StillVC.run (StillVC.remE rfl rfl (by omega) (by omega) ?_)
      refine StillVC.run (StillVC.fieldAddr st25 rfl rfl rfl ?_)
      refine StillVC.run (StillVC.loadO o101 1 rfl ty23 rfl rfl ?_)
      refine StillVC.run (StillVC.idxN sl23 ty51 (o101.reads 0 r1 rfl) rfl (by omega) (by omega) ?_)
      refine StillVC.run (StillVC.fieldAdr (o101.reads 0 r1 rfl) (by omega) st51 rfl rfl rfl ?_)
      refine StillVC.run (StillVC.loadFF (r1 _ (Own.satK o101 0 rfl)) ty3 (fun y : Cells25 => y.2) rfl hcx hu ?_)
      refine Br.dec (fun hc => absurd hc (by omega)) (fun c120 => ?_)
      refine StillVC.run (StillVC.lenS rfl str9 ?_)
      refine Br.dec (fun hc => absurd hc (by omega)) (fun c122 => ?_)
      refine StillVC.run (StillVC.sliceS str9 rfl rfl ⟨_, rfl⟩ (by omega) (by omega) (by omega) ?_)
      have et : List.drop (Int.toNat 0) (List.take (x.off : Int).toNat s) = s.take x.off := by simp
      rw [et]
      refine CallVC.ret (parse_cases (by rw [List.length_take]; omega) _ (hW.ext o101.ext)) ?_
      rintro _ h4 (⟨e3, i3, hM3, _⟩ | ⟨ys, ts3, wa, wc, J, hM3, hL3, hI3, hlen3, rfl, hp3, oc⟩)
      · rw [hpl] at hM3
        cases hM3
      rw [hpl] at hM3
      cases hM3
      have o4 := Own.call o101 oc
      simp only [List.cons_append, List.nil_append] at o4
      clear oc
      obtain ⟨cb, r2, k2, n2, l2⟩ := progR_cells hp3 (Own.satK o4 2 rfl)
      (refine RunVC.alloc o4 ty25 ?_; intro b200 m200 o200)
      (refine RunVC.storeL o200 3 rfl ty25 rfl (by decide) (And.intro ⟨rfl, rfl⟩ ?_); intro m201 o201)
      refine DrawVC.intro [0, 1, 2, 3, 4, 5, 6, 8, 10, 11, 13, 14] [7, 9] [12] [0, 1, 2, 3, 4, 5, 6, 7, 8, 9, 10, 11, 12, 13, 14] mixed (by kernel_rfl) rfl (fun _ _ _ _ h => h) ?_
      refine Br.tt ?_
      refine Br.tt ?_
      refine StillVC.fieldAddr st25 rfl rfl rfl ?_
      refine StillVC.loadO o201 3 rfl ty23 rfl rfl ?_
      refine StillVC.fieldAddr st25 rfl rfl rfl ?_
      refine StillVC.loadO o201 1 rfl ty23 rfl rfl ?_
      (refine StillVC.sliceHN sl23 ty51 (o201.reads 0 r1 rfl) rfl (by omega) (by omega) ?_; intro v206 a206)
      have a2 : ArrN 25 m201 v206 (raw % (xs.length : Int)).toNat (((ca.flatMap Subtype.val)).take ((raw % (xs.length : Int)).toNat * 25)) := a206
      generalize (raw % (xs.length : Int)).toNat = i at *
      rw [flat_take25] at a2
      have ei : i = (xs.take i).length := by rw [List.length_take]; omega
      have a3 : ArrN 25 m201 v206 (xs.take i).length ((ca.take i).flatMap Subtype.val) := ei ▸ a2
      refine CallVC.ret (sameItems_specA Eq true (fun _ o o' e => e) (xs.take i) (xs.take i) _ _ cb (ca.take i) _ (hI3.bound (N := 9999) (by decide) (by have := (lexM_props.2 ts3 hL3).1; omega)) (itsQ_refl _) (by omega) (r2 _ (Own.satK o201 2 rfl)) a3 (fun k y hy => ?_) (fun k y hy => ?_)) ?_
      · obtain ⟨d, e1, e2⟩ := k2 k y hy
        exact ⟨d, J, e1, e2, o201.satE 2 rfl⟩
      · have hk : k < i := by
          have := (List.getElem?_eq_some_iff.1 hy).1
          rw [List.length_take] at this; omega
        rw [List.getElem?_take, if_pos hk] at hy
        obtain ⟨d, e1, e2⟩ := k1 k y hy
        exact ⟨d, I, by rw [List.getElem?_take, if_pos hk]; exact e1, e2, o201.satE 0 rfl⟩
      rintro _ h5 ⟨rfl, oc⟩
      have o5 := oc.thenE o201
      refine RetVC.one rfl ?_
      exact ⟨rfl, Own.sel (by assumption) [] rfl⟩

end Go.Proofs.YtnmfanjhepepbaaGreatDoor
