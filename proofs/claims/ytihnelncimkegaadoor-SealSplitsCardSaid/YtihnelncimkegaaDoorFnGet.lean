/-
  Put of the reference, and Get, of chapter 45.
-/
import Derived.Test.YtihnelncimkegaaDoorStructs
import Derived.Test.YtihnelncimkegaaDoorFnPut
namespace Go.Proofs.YtihnelncimkegaaDoor
open Go

theorem be_zero1 : be 1 0 = [0] := by decide

theorem be_nat (k : Nat) {n : Int} (hn : 0 ≤ n) : be k n.toNat = be k n.toNat := rfl

set_option maxHeartbeats 1600000 in
theorem refPut_spec (e p : Int) (body : List UInt8) (h : Heap) (hb : body.length ≤ 140737488351232) :
    SpecR Tryd.prog 12 [.int .i64 e, .int .i64 p, .string ⟨⟨body⟩⟩] h fun r h' => r = .tuple ⟨[.string ⟨⟨(putR e p body).1⟩⟩, .int .i64 (putR e p body).2]⟩ ∧ Own h [] h' := by
  refine Spec.enter Tryd.func12 rfl Tryd.ntmps12 (by kernel_rfl) ?_
  have o0 := Own.refl h
  refine CallVC.ret (refPlaced_spec e p h) ?_
  rintro _ h1 ⟨rfl, oc⟩
  have o1 := o0.ext' oc
  clear o0 oc
  cases hp : placedB e p with
  | false =>
    refine Br.tt ?_
    refine RetVC.two rfl ?_
    exact ⟨by simp [putR, hp], o1⟩
  | true =>
    by_cases hl : body.length ≤ 40
    · have hR : putR e p body = (putL e.toNat p.toNat body, 0) := by simp [putR, hp, hl]
      rw [hR]
      have hpl := placedB_spec hp
      obtain ⟨en, rfl⟩ : ∃ en : Nat, e = en := ⟨e.toNat, by omega⟩
      obtain ⟨pn, rfl⟩ : ∃ pn : Nat, p = pn := ⟨p.toNat, by omega⟩
      simp only [Int.toNat_natCast]
      have l8 := be_length 8 en
      have l4 := be_length 4 pn
      have l5 := be_length 4 body.length
      refine Br.ff ?_
      refine StillVC.run (StillVC.lenS rfl str9 ?_)
      refine Br.dec (fun hc => absurd hc (by omega)) (fun c31 => ?_)
      refine CallVC.ret (number_spec en 8 _ (by omega) (by decide)) ?_
      rintro _ h2 ⟨rfl, oc⟩
      have o2 := o1.ext' oc
      refine CallVC.ret (number_spec pn 4 _ (by omega) (by decide)) ?_
      rintro _ h3 ⟨rfl, od⟩
      have o3 := o2.ext' od
      refine StillVC.run (StillVC.strAdd rfl rfl (by first | omega | (simp; omega)) ?_)
      refine StillVC.run (StillVC.lenS rfl str9 ?_)
      refine CallVC.ret (number_spec body.length 4 _ (by omega) (by decide)) ?_
      rintro _ h4 ⟨rfl, oe⟩
      have o4 := o3.ext' oe
      clear o1 o2 o3
      refine StillVC.run (StillVC.strAdd rfl rfl (by first | omega | (simp; omega)) ?_)
      refine StillVC.run (StillVC.strAdd rfl rfl (by first | omega | (simp; omega)) ?_)
      refine LoopVC.intro [8, 27, 28, 29, 30, 31, 32] [8] (fun vs h1 => ∃ (i : Nat), i ≤ 40 - body.length ∧ vs = [.string ⟨⟨be 8 en ++ be 4 pn ++ be 4 body.length ++ body ++ List.replicate i 0⟩⟩] ∧ Own h [] h1) (fun vs _ => match vs with | [.string s] => 56 - s.size | _ => 0) ?_ ?_
      · exact ⟨0, by omega, by simp, o4⟩
      · clear o4
        rintro vs junk h5 ⟨i, hi, rfl, o5⟩
        have ll : (be 8 en ++ be 4 pn ++ be 4 body.length ++ body ++ List.replicate i 0).length = 16 + body.length + i := by simp [be_length]; omega
        by_cases hlt : i < 40 - body.length
        · refine StillVC.run (StillVC.lenS rfl str9 ?_)
          refine Br.dec (fun c71 => ?_) (fun hc => absurd (by omega) hc)
          refine CallVC.ret (number_spec 0 1 _ (by decide) (by decide)) ?_
          rintro _ h6 ⟨rfl, oc⟩
          have o6 := o5.ext' oc
          rw [be_zero1]
          refine StillVC.run (StillVC.strAdd rfl rfl (by first | omega | (simp; omega)) ?_)
          refine ⟨rfl, ?_⟩
          have e : be 8 en ++ be 4 pn ++ be 4 body.length ++ body ++ List.replicate i 0 ++ [0] = be 8 en ++ be 4 pn ++ be 4 body.length ++ body ++ List.replicate (i + 1) 0 := by
            rw [List.append_assoc _ (List.replicate i 0), ← List.replicate_succ']
          refine ⟨⟨i + 1, by omega, by rw [e], o6⟩, ?_⟩
          show 56 - (be 8 en ++ be 4 pn ++ be 4 body.length ++ body ++ List.replicate i 0 ++ [0]).length < 56 - (be 8 en ++ be 4 pn ++ be 4 body.length ++ body ++ List.replicate i 0).length
          rw [List.length_append, ll]; simp; omega
        · obtain rfl : i = 40 - body.length := by omega
          have hsr := sumL_range (preL en pn body)
          have hpl2 := preL_length (e := en) (p := pn) hl
          refine StillVC.run (StillVC.lenS rfl str9 ?_)
          refine Br.dec (fun hc => absurd hc (by omega)) (fun c81 => ?_)
          change CallVC Tryd.prog _ ([] ++ ([.string ⟨⟨preL en pn body⟩⟩] ++ [])) _ _ _ _
          refine CallVC.ret (refSum_spec (preL en pn body) _ (by omega)) ?_
          rintro _ h6 ⟨rfl, oc⟩
          have o6 := o5.ext' oc
          obtain ⟨sn, hsn⟩ : ∃ sn : Nat, sumL (preL en pn body) = sn := ⟨(sumL (preL en pn body)).toNat, by omega⟩
          rw [hsn] at hsr ⊢
          refine CallVC.ret (number_spec sn 8 _ (by omega) (by decide)) ?_
          rintro _ h7 ⟨rfl, od⟩
          have o7 := o6.ext' od
          have l9 := be_length 8 sn
          refine StillVC.run (StillVC.strAdd rfl rfl (by first | omega | (simp; omega)) ?_)
          refine RetVC.two rfl ?_
          refine ⟨?_, o7⟩
          have : putL en pn body = preL en pn body ++ be 8 sn := by unfold putL; rw [hsn]; simp
          rw [this]; rfl
    · refine Br.ff ?_
      refine StillVC.run (StillVC.lenS rfl str9 ?_)
      refine Br.dec (fun c91 => ?_) (fun hc => absurd (by omega) hc)
      refine RetVC.two rfl ?_
      exact ⟨by simp [putR, hp, hl], o1⟩

def e8 (l : List UInt8) : List UInt8 := (l.take 8).drop 0
def p4 (l : List UInt8) : List UInt8 := (l.take 12).drop 8
def n4 (l : List UInt8) : List UInt8 := (l.take 16).drop 12
def bodyOf (l : List UInt8) : List UInt8 := (l.take (16 + unbe (n4 l))).drop 16

/-- What a sector contains, if it is one: its epoch, its place, its body. -/
def okS (l : List UInt8) : Bool := decide (l.length = 64) && decide (unbe (n4 l) ≤ 40) && decide (putR (unbe (e8 l)) (unbe (p4 l)) (bodyOf l) = (l, 0))

def getR (e p : Int) (l : List UInt8) : List UInt8 × Int :=
  if placedB e p then (if okS l then (if (unbe (e8 l) : Int) = e ∧ (unbe (p4 l) : Int) = p then (bodyOf l, 0) else ([], 21)) else ([], 20)) else ([], 1)

theorem bytes_slice (l : List UInt8) (i j : Nat) : ((bytes l).drop i).take (j - i) = bytes ((l.take j).drop i) := by
  rw [List.drop_take, ← List.map_drop, ← List.map_take]

theorem unbe_lt (l : List UInt8) : unbe l < 256 ^ l.length := by
  have key : ∀ (l : List UInt8) (n m : Nat), n < 256 ^ m → l.foldl (fun (n : Nat) (c : UInt8) => n * 256 + c.toNat) n < 256 ^ (m + l.length) := by
    intro l
    induction l with
    | nil => intro n m h; exact h
    | cons c l ih =>
      intro n m h
      have hc := c.toNat_lt
      have := ih (n * 256 + c.toNat) (m + 1) (by rw [Nat.pow_succ]; omega)
      rwa [Nat.add_assoc, Nat.add_comm 1] at this
  have := key l 0 0 (by decide)
  rwa [Nat.zero_add] at this

theorem okS_spec {l : List UInt8} (h : okS l = true) : l.length = 64 ∧ unbe (n4 l) ≤ 40 ∧ putR (unbe (e8 l)) (unbe (p4 l)) (bodyOf l) = (l, 0) := by
  simpa [okS, and_assoc] using h

theorem putR_ok {e p : Int} {b l : List UInt8} (h : putR e p b = (l, 0)) : placedB e p = true ∧ b.length ≤ 40 ∧ l = putL e.toNat p.toNat b := by
  unfold putR at h
  split at h
  · rename_i h1
    split at h
    · rename_i h2
      simp only [Prod.mk.injEq, and_true] at h
      exact ⟨h1, h2, h.symm⟩
    · simp at h
  · simp at h

set_option maxHeartbeats 1600000 in
set_option maxRecDepth 100000 in
theorem get_spec (e p : Int) (l : List UInt8) (h : Heap) (hl : l.length ≤ 140737488351232) :
    SpecR Tryd.prog 13 [.int .i64 e, .int .i64 p, .string ⟨⟨l⟩⟩] h fun r h' => r = .tuple ⟨[.string ⟨⟨(getR e p l).1⟩⟩, .int .i64 (getR e p l).2]⟩ ∧ Own h [] h' := by
  refine Spec.enter Tryd.func13 rfl Tryd.ntmps13 (by kernel_rfl) ?_
  have o0 := Own.refl h
  refine CallVC.ret (placed_spec e p h) ?_
  rintro _ h1 ⟨rfl, oc⟩
  have o1 := o0.ext' oc
  clear o0 oc
  cases hp : placedB e p with
  | false =>
    refine Br.tt ?_
    refine RetVC.two rfl ?_
    exact ⟨by simp [getR, hp], o1⟩
  | true =>
  by_cases h64 : l.length = 64
  · have lb : (bytes l).length = 64 := by simp [h64]
    have k1 : (e8 l).length ≤ 1000 := by simp [e8]; omega
    have k2 : (p4 l).length = 4 := by simp [p4]; omega
    have k3 : (n4 l).length = 4 := by simp [n4]; omega
    have b2 := unbe_lt (p4 l)
    have b3 := unbe_lt (n4 l)
    rw [k2] at b2
    rw [k3] at b3
    simp only [Nat.reducePow] at b2 b3
    refine Br.ff ?_
    refine StillVC.run (StillVC.lenS rfl str9 ?_)
    refine Br.ndec (fun hc => absurd (by first | omega | assumption | decide | exact rfl) hc) (fun c31 => ?_)
    (refine RunVC.strBytes o1 str9 sl35 int5 rfl ?_; intro v32 m32 o32)
    (refine StillVC.run (StillVC.slice3 sl35 ty5 (o32.roArr 0 rfl) rfl rfl rfl (by omega) (by omega) (by omega) (by first | omega | (simp; omega)) ?_); intro v33 a33)
    have a1 : Arr m32 v33 (bytes (e8 l)) := by unfold e8; rw [← bytes_slice l 0 8]; exact a33
    refine CallVC.ret (read_spec (e8 l) v33 _ a1 k1) ?_
    rintro _ h2 ⟨rfl, oc⟩
    have o2 := o32.ext' oc
    clear o32 a33 a1 oc
    (refine StillVC.run (StillVC.slice3 sl35 ty5 (o2.roArr 0 rfl) rfl rfl rfl (by omega) (by omega) (by omega) (by first | omega | (simp; omega)) ?_); intro v40 a40)
    have a2 : Arr h2 v40 (bytes (p4 l)) := by unfold p4; rw [← bytes_slice l 8 12]; exact a40
    refine CallVC.ret (read_spec (p4 l) v40 _ a2 (by omega)) ?_
    rintro _ h3 ⟨rfl, oc⟩
    have o3 := o2.ext' oc
    rw [if_pos b2, decide_eq_true b2]
    clear o2 a40 a2 oc
    (refine StillVC.run (StillVC.slice3 sl35 ty5 (o3.roArr 0 rfl) rfl rfl rfl (by omega) (by omega) (by omega) (by first | omega | (simp; omega)) ?_); intro v50 a50)
    have a3 : Arr h3 v50 (bytes (n4 l)) := by unfold n4; rw [← bytes_slice l 12 16]; exact a50
    refine CallVC.ret (read_spec (n4 l) v50 _ a3 (by omega)) ?_
    rintro _ h4 ⟨rfl, oc⟩
    have o4 : Own h [] h4 := (o3.ext' oc).sel [] rfl
    rw [if_pos b3, decide_eq_true b3]
    clear o3 a50 a3 oc o1
    by_cases b1 : unbe (e8 l) < 4294967296
    · rw [if_pos b1, decide_eq_true b1]
      by_cases hn : unbe (n4 l) ≤ 40
      · have hbl : (bodyOf l).length ≤ 140737488351232 := by unfold bodyOf; simp; omega
        refine Br.ff ?_
        refine Br.ff ?_
        refine Br.ff ?_
        refine Br.dec (fun hc => absurd hc (by omega)) (fun c60 => ?_)
        refine Ar.i64 (by omega) (by omega) ?_
        refine StillVC.run (StillVC.sliceS str9 rfl ⟨_, rfl⟩ ⟨_, rfl⟩ (by omega) (by omega) (by omega) ?_)
        refine CallVC.ret (put_spec (unbe (e8 l)) (unbe (p4 l)) (bodyOf l) _ hbl) ?_
        rintro _ h5 ⟨rfl, oc⟩
        have o5 := o4.ext' oc
        clear o4 oc
        by_cases hput : putR (unbe (e8 l)) (unbe (p4 l)) (bodyOf l) = (l, 0)
        · have hk : okS l = true := by simp [okS, h64, hn, hput]
          rw [hput]
          by_cases he : (unbe (e8 l) : Int) = e
          · by_cases hpp : (unbe (p4 l) : Int) = p
            · refine Br.ndec (fun hc => absurd (by first | omega | assumption | decide | exact rfl) hc) (fun c90 => ?_)
              refine Br.ndec (fun hc => absurd (by first | omega | assumption | decide | exact rfl) hc) (fun c91 => ?_)
              refine Br.ndec (fun hc => absurd (by first | omega | assumption | decide | exact rfl) hc) (fun c92 => ?_)
              refine Br.ndec (fun hc => absurd (by first | omega | assumption | decide | exact rfl) hc) (fun c93 => ?_)
              refine RetVC.two rfl ?_
              refine ⟨?_, o5⟩
              simp only [getR, hp, hk, he, hpp, if_true, and_self]; rfl
            · refine Br.ndec (fun hc => absurd (by first | omega | assumption | decide | exact rfl) hc) (fun c100 => ?_)
              refine Br.ndec (fun hc => absurd (by first | omega | assumption | decide | exact rfl) hc) (fun c101 => ?_)
              refine Br.ndec (fun hc => absurd (by first | omega | assumption | decide | exact rfl) hc) (fun c102 => ?_)
              refine Br.ndec (fun c103 => ?_) (fun hc => absurd hc (by first | omega | assumption | decide | exact rfl))
              refine RetVC.two rfl ?_
              exact ⟨by simp [getR, hp, hk, hpp], o5⟩
          · refine Br.ndec (fun hc => absurd (by first | omega | assumption | decide | exact rfl) hc) (fun c110 => ?_)
            refine Br.ndec (fun hc => absurd (by first | omega | assumption | decide | exact rfl) hc) (fun c111 => ?_)
            refine Br.ndec (fun c112 => ?_) (fun hc => absurd hc (by first | omega | assumption | decide | exact rfl))
            refine Br.tt ?_
            refine RetVC.two rfl ?_
            exact ⟨by simp [getR, hp, hk, he], o5⟩
        · have hk : okS l = false := by simp [okS, hput]
          generalize putR (unbe (e8 l)) (unbe (p4 l)) (bodyOf l) = R at *
          obtain ⟨w, er⟩ := R
          by_cases her : er = 0
          · subst her
            have hw : ¬ w = l := fun e => hput (by rw [e])
            refine Br.ndec (fun hc => absurd (by first | omega | assumption | decide | exact rfl) hc) (fun c120 => ?_)
            refine Br.ndec (fun c121 => ?_) (fun hc => absurd hc (by first | omega | assumption | decide | exact rfl))
            refine RetVC.two rfl ?_
            exact ⟨by simp [getR, hp, hk], o5⟩
          · refine Br.ndec (fun c130 => ?_) (fun hc => absurd hc (by first | omega | assumption | decide | exact rfl))
            refine Br.tt ?_
            refine RetVC.two rfl ?_
            exact ⟨by simp [getR, hp, hk], o5⟩
      · refine Br.ff ?_
        refine Br.ff ?_
        refine Br.ff ?_
        refine Br.dec (fun c70 => ?_) (fun hc => absurd (by omega) hc)
        refine RetVC.two rfl ?_
        exact ⟨by simp [getR, hp, okS, hn], o4⟩
    · rw [if_neg b1, decide_eq_false b1]
      have hbad : okS l = false := by
        cases hk : okS l with
        | false => rfl
        | true =>
          have := placedB_spec (putR_ok (okS_spec hk).2.2).1
          omega
      refine Br.tt ?_
      refine Br.tt ?_
      refine RetVC.two rfl ?_
      exact ⟨by simp [getR, hp, hbad], o4⟩
  · refine Br.ff ?_
    refine StillVC.run (StillVC.lenS rfl str9 ?_)
    refine Br.ndec (fun c41 => ?_) (fun hc => absurd hc (by first | omega | assumption | decide | exact rfl))
    refine RetVC.two rfl ?_
    exact ⟨by simp [getR, hp, okS, h64], o1⟩

end Go.Proofs.YtihnelncimkegaaDoor
