/-
  Put of chapter 45, the program's and the reference's.
-/
import Derived.Test.YtihnelncimkegaaDoorStructs
import Derived.Test.YtihnelncimkegaaDoorFnSum
import Derived.Test.YtihnelncimkegaaDoorFnWrite
import Derived.Test.YtihnelncimkegaaDoorFnRead
namespace Go.Proofs.YtihnelncimkegaaDoor
open Go

/-- The bytes ahead of the sum. -/
def preL (e p : Nat) (body : List UInt8) : List UInt8 := be 8 e ++ be 4 p ++ be 4 body.length ++ body ++ List.replicate (40 - body.length) 0
def putL (e p : Nat) (body : List UInt8) : List UInt8 := preL e p body ++ be 8 (sumL (preL e p body)).toNat
def putR (e p : Int) (body : List UInt8) : List UInt8 × Int := if placedB e p then (if body.length ≤ 40 then (putL e.toNat p.toNat body, 0) else ([], 3)) else ([], 1)

theorem preL_length {e p : Nat} {body : List UInt8} (h : body.length ≤ 40) : (preL e p body).length = 56 := by
  simp [preL, be_length]; omega

theorem placedB_spec {e p : Int} (h : placedB e p = true) : 0 ≤ e ∧ e ≤ 1000000000 ∧ 0 ≤ p ∧ p < 4000 := by
  simp [placedB] at h; omega

theorem bytes_zero (n : Nat) : List.replicate n (Value.int .u8 0) = bytes (List.replicate n 0) := by simp

set_option maxHeartbeats 1600000 in
theorem put_spec (e p : Int) (body : List UInt8) (h : Heap) (hb : body.length ≤ 140737488351232) :
    SpecR Tryd.prog 11 [.int .i64 e, .int .i64 p, .string ⟨⟨body⟩⟩] h fun r h' => r = .tuple ⟨[.string ⟨⟨(putR e p body).1⟩⟩, .int .i64 (putR e p body).2]⟩ ∧ Own h [] h' := by
  refine Spec.enter Tryd.func11 rfl Tryd.ntmps11 (by kernel_rfl) ?_
  have o0 := Own.refl h
  refine CallVC.ret (placed_spec e p h) ?_
  rintro _ h1 ⟨rfl, oc⟩
  have o1 := o0.ext' oc
  clear o0 oc
  cases hp : placedB e p with
  | false =>
    refine Br.tt ?_
    refine RetVC.two rfl ?_
    exact ⟨by simp [putR, hp], o1⟩
  | true =>
    by_cases hl : body.length ≤ 40
    · have hR : putR e p body = (putL e.toNat p.toNat body, 0) := by simp [putR, hp, hl]
      rw [hR]
      have hpl := placedB_spec hp
      obtain ⟨en, rfl⟩ : ∃ en : Nat, e = en := ⟨e.toNat, by omega⟩
      obtain ⟨pn, rfl⟩ : ∃ pn : Nat, p = pn := ⟨p.toNat, by omega⟩
      simp only [Int.toNat_natCast]
      refine Br.ff ?_
      refine StillVC.run (StillVC.lenS rfl str9 ?_)
      refine Br.dec (fun hc => absurd hc (by omega)) (fun c31 => ?_)
      (refine RunVC.make0 o1 sl35 ty5 rfl rfl (by omega) (by omega) (by omega) ?_; intro v32 m32 o32)
      refine StillVC.run (StillVC.buildK st42 ?_)
      refine And.intro rfl ?_
      refine And.intro rfl ?_
      refine StillVC.run (StillVC.buildK st42 ?_)
      refine And.intro rfl ?_
      refine And.intro rfl ?_
      refine StillVC.run (StillVC.lenS rfl str9 ?_)
      refine StillVC.run (StillVC.buildK st42 ?_)
      refine And.intro rfl ?_
      refine And.intro rfl ?_
      (refine RunVC.litN o32 sl52 ty42 rfl rfl (by decide) ?_)
      refine And.intro rfl ?_
      refine And.intro rfl ?_
      refine And.intro rfl ?_
      intro b38 m38 o38
      refine CallVC.ret (write_spec h _ _ _ _ [(en, 8), (pn, 4), (body.length, 4)] _ o38 ?_ (by simp) (by omega)) ?_
      · simp; omega
      intro w2 h2 oc
      have e1 : [] ++ bytes (fieldsB [(en, 8), (pn, 4), (body.length, 4)]) = bytes (be 8 en ++ be 4 pn ++ be 4 body.length) := by
        simp [fieldsB]
      have n1 : 0 + (fieldsB [(en, 8), (pn, 4), (body.length, 4)]).length = 16 := by simp [fieldsB, be_length]
      rw [e1, n1] at oc
      have o2 : Own h [row w2 5 1 16 (bytes (be 8 en ++ be 4 pn ++ be 4 body.length))] h2 := oc.sel [0] rfl
      clear o1 oc
      (refine RunVC.appendS o2 0 rfl sl35 str9 u8_5 rfl (by simp only [maxLen]; first | omega | (simp; omega)) (by first | omega | (simp; omega)) ?_; intro v50 m50 o50)
      refine StillVC.run (StillVC.lenN (o50.rowArrN 0 rfl) sl35 ?_)
      refine Ar.i64 (by omega) (by omega) ?_
      (refine RunVC.appendZ o50 0 rfl sl35 int3 ty5 rfl rfl (by omega) (by simp only [maxLen]; first | omega | (simp; omega)) (by first | omega | (simp; omega)) ?_; intro v52 m52 o52)
      have e2 : bytes (be 8 en ++ be 4 pn ++ be 4 body.length) ++ bytes body ++ List.replicate ((56 : Int) - ((16 + body.length : Nat) : Int)).toNat (Value.int .u8 0) = bytes (preL en pn body) := by
        rw [show ((56 : Int) - ((16 + body.length : Nat) : Int)).toNat = 40 - body.length by omega, bytes_zero, ← bytes_append, ← bytes_append]; rfl
      have e3 : 16 + body.length + ((56 : Int) - ((16 + body.length : Nat) : Int)).toNat = 56 := by omega
      rw [e2, e3] at o52
      clear o2 o50
      have hpl2 := preL_length (e := en) (p := pn) hl
      have hsr := sumL_range (preL en pn body)
      refine StillVC.run (StillVC.bytesStr (o52.rowArr 0 rfl) sl35 int5 str9 ?_)
      refine CallVC.ret (sum_spec _ _ (by omega)) ?_
      rintro _ h3 ⟨rfl, oc⟩
      have o3 := o52.ext' oc
      clear o52
      obtain ⟨sn, hsn⟩ : ∃ sn : Nat, sumL (preL en pn body) = sn := ⟨(sumL (preL en pn body)).toNat, by omega⟩
      rw [hsn] at hsr ⊢
      refine StillVC.run (StillVC.buildK st42 ?_)
      refine And.intro rfl ?_
      refine And.intro rfl ?_
      (refine RunVC.litN o3 sl52 ty42 rfl rfl (by decide) ?_)
      refine And.intro rfl ?_
      intro b72 m72 o72
      refine CallVC.ret (write_spec h _ _ _ _ [(sn, 8)] _ o72 (by simp; omega) (by simp) (by omega)) ?_
      intro w4 h4 oc
      have e4 : bytes (preL en pn body) ++ bytes (fieldsB [(sn, 8)]) = bytes (putL en pn body) := by
        rw [← bytes_append]; simp [fieldsB, putL, hsn]
      rw [e4] at oc
      refine StillVC.run (StillVC.bytesStr (oc.rowArr 0 rfl) sl35 int5 str9 ?_)
      refine RetVC.two rfl ?_
      exact ⟨rfl, oc.sel [] rfl⟩
    · refine Br.ff ?_
      refine StillVC.run (StillVC.lenS rfl str9 ?_)
      refine Br.dec (fun c41 => ?_) (fun hc => absurd (by omega) hc)
      refine RetVC.two rfl ?_
      exact ⟨by simp [putR, hp, hl], o1⟩

/- THE REFERENCE -/
theorem number_spec (n k : Nat) (h : Heap) (hn : n < 9223372036854775808) (hk : k ≤ 8) :
    SpecR Tryd.prog 25 [.int .i64 n, .int .i64 k] h fun r h' => r = .string ⟨⟨be k n⟩⟩ ∧ Own h [] h' := by
  refine Spec.enter Tryd.func25 rfl Tryd.ntmps25 (by kernel_rfl) ?_
  have o0 := Own.refl h
  refine LoopVC.intro [0, 5, 6, 7, 8, 9, 10, 11, 12, 13, 14, 15, 16, 17, 18, 19, 20] [0, 5, 6] (fun vs h1 => ∃ (i : Nat), i ≤ k ∧ vs = [.int .i64 ((n / 256 ^ i : Nat) : Int), .string ⟨⟨be i n⟩⟩, .int .i64 i] ∧ Own h [] h1) (fun vs _ => match vs with | [_, _, .int _ i] => k - i.toNat | _ => 0) ?_ ?_
  · exact ⟨0, by omega, by simp [be], o0⟩
  · clear o0
    rintro vs junk h1 ⟨i, hi, rfl, o1⟩
    have hle : n / 256 ^ i ≤ n := Nat.div_le_self _ _
    have hbl := be_length i n
    by_cases hlt : i < k
    · have e1 : n / 256 ^ (i + 1) = n / 256 ^ i / 256 := by rw [Nat.pow_succ, Nat.div_div_eq_div_mul]
      have e2 : be (i + 1) n = byteOf (n / 256 ^ i) :: be i n := by
        unfold be
        rw [List.range_succ_eq_map]
        simp only [List.map_cons, List.map_map]
        congr 1
        refine List.map_congr_left fun j hj => ?_
        simp only [Function.comp_apply]
        congr 3; omega
      generalize n / 256 ^ i = x at *
      have hb : ((x : Int) % 256) % 256 = ((byteOf x).toNat : Int) := by rw [byteOf_toNat]; omega
      refine Br.dec (fun c20 => ?_) (fun hc => absurd (by omega) hc)
      refine StillVC.run (StillVC.remE rfl rfl (by omega) (by omega) ?_)
      refine StillVC.run (StillVC.convI rfl int3 int5 ?_)
      refine Ar.u8 (by omega) (by omega) ?_
      (refine RunVC.lit o1 sl35 ty5 rfl rfl (by decide) (And.intro rfl ?_); intro b23 m23 o23)
      have ar : Arr m23 (.slice (some ⟨b23, 0, none⟩) 1 1) (bytes [byteOf x]) := by
        have hb' : bytes [byteOf x] = [Value.int .u8 ((x : Int) % 256)] := by simp only [bytes, List.map_cons, List.map_nil, ← hb]; congr 2; omega
        rw [hb']; exact o23.boxArr 0 rfl rfl (Nat.le_refl _)
      refine StillVC.run (StillVC.bytesStr ar sl35 int5 str9 ?_)
      refine StillVC.run (StillVC.strAdd rfl rfl (by first | omega | (simp; omega)) ?_)
      refine StillVC.run (StillVC.quoE rfl rfl (by omega) (by omega) (by simp [IntKind.max, IntKind.signed, IntKind.bits]; omega) ?_)
      refine Ar.i64 (by omega) (by omega) ?_
      refine ⟨rfl, ?_⟩
      exact ⟨⟨i + 1, by omega, by rw [e1, e2]; rfl, o23.sel [] rfl⟩, by simp; omega⟩
    · obtain rfl : i = k := by omega
      refine Br.dec (fun hc => absurd hc (by omega)) (fun c40 => ?_)
      refine RetVC.one rfl ?_
      exact ⟨rfl, o1⟩

end Go.Proofs.YtihnelncimkegaaDoor
