/-
  The statements of the log: the reference's parts. The statement LogRoom.
-/
import Derived.Test.YtfjajkgfgigodaaGreatDoorStructs
import Derived.Test.YtfjajkgfgigodaaGreatDoorVcSep
import Derived.Test.YtfjajkgfgigodaaGreatDoorOps
import Derived.Test.YtfjajkgfgigodaaGreatDoorMOp
import Derived.Test.YtfjajkgfgigodaaGreatDoorMDu
import Derived.Test.YtfjajkgfgigodaaGreatDoorMFo
/- The statements of the log: the reference's parts. -/
namespace Go.Proofs.YtfjajkgfgigodaaGreatDoor
open Go

set_option maxHeartbeats 4000000 in
theorem parts46_spec (rs : List (List UInt8)) (v : Value) (h : Heap) (hA : Arr h v (strs rs)) (hrs : rs.length ≤ 10000) (hps : (partsL rs).length ≤ 1000000) (hrl : ∀ r ∈ rs, r.length ≤ 1000000000) :
    SpecR Tryz.prog 27 [v] h fun r h' => ∃ pa pc, r = .slice pa (partsL rs).length pc ∧ Own h [] h' := by
  have hsl : (strs rs).length = rs.length := by simp
  have hA' := hA
  obtain ⟨a, c, hv, hc, hr⟩ := hA
  rw [hsl] at hv
  subst hv
  clear hc hr
  refine Spec.enter Tryz.func27 rfl Tryz.ntmps27 (by kernel_rfl) ?_
  have o0 := (Own.refl h).nilRow 9 1
  refine LoopVC.intro [3, 4, 5, 6, 7, 8, 9, 10, 11, 12, 13, 14, 15, 16, 17] [3, 4] (fun vs hh => ∃ (i : Nat) (pv : Value), i ≤ rs.length ∧ vs = [pv, .int .i64 i] ∧ Own ⟨h, []⟩ [row pv 9 1 (partsL (rs.take i)).length (strs (partsL (rs.take i)))] hh) (fun vs _ => match vs with | [_, .int _ i] => rs.length - i.toNat | _ => 0) ?_ ?_
  · exact ⟨0, _, by omega, rfl, o0⟩
  · clear o0
    rintro vs junk hh ⟨i, pv, hi, rfl, o⟩
    obtain ⟨pa, pc, rfl⟩ := o.rowIs 0 rfl
    have hpt := parts_take rs i
    have hA := hA'.ext o.ext
    by_cases hlt : i < rs.length
    · obtain ⟨x, hx⟩ := getx hlt
      have htk : rs.take (i + 1) = rs.take i ++ [x] := by rw [List.take_add_one, hx]; rfl
      have hpt1 := parts_take rs (i + 1)
      have hpe : partsL (rs.take (i + 1)) = partsL (rs.take i) ++ splitL x := by rw [htk, parts_append, parts_one]
      rw [hpe, List.length_append] at hpt1
      refine StillVC.run (StillVC.lenV rfl sl22 ?_)
      refine Br.dec (fun c61 => ?_) (fun hc => absurd (by omega) hc)
      refine StillVC.run (StillVC.idx sl22 ty9 hA rfl (by omega) (by omega) ?_)
      refine StillVC.run (StillVC.loadM hA ty9 rfl (by first | assumption | rfl) ?_)
      refine CallVC.ret (refSplit_spec x _ (by have := hrl x (List.mem_of_getElem? hx); omega)) ?_
      intro qv h3 oc
      obtain ⟨qa, qc, hqv, _⟩ := oc.roArr 0 rfl
      have hql : (strs (splitL x)).length = (splitL x).length := by simp
      rw [hql] at hqv
      subst hqv
      have o5 : Own ⟨h, []⟩ [row (.slice pa (partsL (rs.take i)).length pc) 9 1 (partsL (rs.take i)).length (strs (partsL (rs.take i))), ro (.slice qa (splitL x).length qc) (strs (splitL x))] h3 := o.call oc
      clear o oc
      (refine RunVC.append o5 0 rfl sl22 ty9 (by decide) (o5.roArr 1 rfl).toN (by simp [Value.oneCell']) (by simp only [maxLen]; first | omega | (simp; omega)) (by first | omega | (simp; omega)) ?_; intro v80 m80 o80)
      refine Ar.i64 (by omega) (by omega) ?_
      refine ⟨rfl, ?_⟩
      refine ⟨⟨i + 1, _, by omega, rfl, ?_⟩, by simp only; omega⟩
      rw [hpe, strs_append, List.length_append, ← hql]
      exact o80.sel [0] rfl
    · obtain rfl : i = rs.length := by omega
      refine StillVC.run (StillVC.lenV rfl sl22 ?_)
      refine Br.dec (fun hc => absurd hc (by omega)) (fun c101 => ?_)
      refine RetVC.one rfl ?_
      rw [List.take_length]
      exact ⟨_, _, rfl, o.sel [] rfl⟩

end Go.Proofs.YtfjajkgfgigodaaGreatDoor

/- The statement LogRoom. -/
namespace Go.Proofs.YtfjajkgfgigodaaGreatDoor
open Go

theorem app_code {L : Lg} {d : Dk} {o : OpP} (hk : o.kind % 2 = 0) : stepL L d o = appL L d o.body := if_pos hk
theorem rew_code {L : Lg} {d : Dk} {o : OpP} (hk : o.kind % 2 = 1) : stepL L d o = rewL L d o.list := if_neg (by omega)

theorem same_eq (a b : List (List UInt8)) (va vb : Value) (h : Heap) (a0 : Arr h va (strs a)) (b0 : Arr h vb (strs b)) (ha : a.length ≤ 1000000000) (e : a = b) :
    SpecR Tryz.prog 17 [va, vb] h fun r h' => r = .bool true ∧ Own h [] h' := by
  refine (same_spec a b va vb h a0 b0 ha).mono ?_
  rintro r h' ⟨rfl, o⟩
  exact ⟨congrArg Value.bool (decide_eq_true e), o⟩

theorem any_take {l : List (List UInt8)} {k : Nat} {x : List UInt8} (hx : l[k]? = some x) : ((l.take (k + 1)).any fun r => decide (2000 < r.length)) = (((l.take k).any fun r => decide (2000 < r.length)) || decide (2000 < x.length)) := by
  rw [List.take_add_one, hx]; simp

theorem after_small {L : Lg} (hlk : LOK L) {x : OpW} (okw : okW x) : (partsL (afterL L.list (opP x))).length ≤ 1000000 ∧ (∀ r ∈ afterL L.list (opP x), r.length ≤ 1000000000) ∧ (afterL L.list (opP x)).length ≤ 10000 := by
  obtain ⟨h1, h2⟩ := hlk.shorts
  have h3 := hlk.list
  have h4 := hlk.len
  have h5 := hlk.half
  have h6 := hlk.n4
  have h7 : halfN L.n ≤ 2000 := by unfold halfN; omega
  unfold afterL
  split
  · have h8 := partsL_mul [x.body] (fun s hs => by rw [List.mem_singleton.1 hs]; exact okw.1)
    refine ⟨?_, fun r hr => ?_, ?_⟩
    · rw [parts_append, List.length_append]
      have e : partsL [(opP x).body] = partsL [x.body] := rfl
      rw [e]
      have e2 : [x.body].length = 1 := rfl
      rw [e2] at h8
      omega
    · rcases List.mem_append.1 hr with hr | hr
      · have := h2 r hr; omega
      · rw [List.mem_singleton.1 hr]; have := okw.1; show x.body.length ≤ _; omega
    · rw [List.length_append, List.length_singleton]; omega
  · have h8 := partsL_short x.list okw.2.1 okw.2.2
    exact ⟨h8, fun r hr => by have := okw.2.2 r hr; omega, by have := okw.2.1; show x.list.length ≤ _; omega⟩

set_option maxHeartbeats 8000000 in
set_option maxRecDepth 100000 in
theorem room_law (n : Int) (xs : List OpW) (ov : Value) (h : Heap) (ht : TabH h) (hO : Ops h ov xs) :
    SpecR Tryz.prog 7 [.int .i64 n, ov] h fun r h' => r = .bool true ∧ Own h [] h' := by
  refine Spec.enter Tryz.func7 rfl Tryz.ntmps7 (by kernel_rfl) ?_
  refine CallVC.ret (head_spec46 h ht) ?_
  rintro _ m1 ⟨rfl, oc1⟩
  refine CallVC.ret (light_spec n xs ov _ (hO.ext oc1.ext)) ?_
  rintro _ m2 ⟨⟨bl, rfl, hl⟩, oc2⟩
  have o1 : Own ⟨h, []⟩ [] m2 := oc1.ext' oc2
  clear oc1 oc2
  cases bl with
  | false =>
    refine Br.tt ?_
    refine RetVC.one rfl ?_
    exact ⟨rfl, o1⟩
  | true =>
    have hL := hl rfl
    have hn40 := hL.n
    refine Br.ff ?_
    by_cases hn : n < 1
    · refine CallVC.ret (new_none n _ (.inl hn)) ?_
      rintro _ m3 ⟨rfl, oc⟩
      have o2 := o1.ext' oc
      clear oc o1
      refine CallVC.ret (open_nil _) ?_
      rintro _ m4 ⟨rfl, oc⟩
      have o3 := o2.ext' oc
      clear oc o2
      refine Br.tt ?_
      refine RetVC.one rfl ?_
      exact ⟨rfl, o3⟩
    obtain ⟨N, rfl⟩ : ∃ N : Nat, n = N := ⟨n.toNat, by omega⟩
    refine CallVC.ret (new_disk N _ (by omega) (by omega)) ?_
    rintro _ m3 ⟨dp, I0, rfl, hI0, oc⟩
    have o2 : Own ⟨h, []⟩ [I0] m3 := o1.call oc
    clear oc o1
    refine CallVC.ret (open_spec ⟨h, []⟩ dp (newD N) I0 _ ht hI0 (by simp [newD]) o2) ?_
    by_cases h6 : N < 6
    · rw [open_small h6]
      rintro _ m4 ⟨rfl, o3⟩
      clear o2
      refine Br.tt ?_
      refine RetVC.one rfl ?_
      exact ⟨rfl, o3.sel [] rfl⟩
    have hop := (new_dinv (n := N) (by omega) (by omega)).inv.open'
    rw [hop]
    rintro _ m4 ⟨lp, lv, rv, rfl, o3⟩
    replace o3 : Own ⟨h, []⟩ [I0, box lp (logC dp ⟨⟨0, 0, 0⟩, N, 0, [], false⟩ lv) 74, row lv 9 1 0 [], row rv 9 1 0 []] m4 := o3
    replace o3 : Own ⟨h, []⟩ [I0, box lp (logC dp ⟨⟨0, 0, 0⟩, N, 0, [], false⟩ lv) 74, row lv 9 1 0 []] m4 := o3.sel [0, 1, 2] rfl
    clear o2
    refine Br.ff ?_
    refine Ar.i64 (by omega) (by omega) ?_
    refine StillVC.run (StillVC.quoE rfl rfl (by omega) (by omega) (by simp [IntKind.max, IntKind.signed, IntKind.bits] <;> omega) ?_)
    refine LoopVC.intro [4, 10, 11, 12, 13, 14, 15, 16, 36, 37, 38, 39, 40, 41, 42, 43, 44, 45, 46, 47, 48, 49, 50, 51, 52, 53, 54, 55, 56, 57, 58, 59, 60, 61, 62, 63, 64, 65, 66, 67, 68, 69, 70, 71, 72, 73, 74, 75, 76, 77, 78, 79, 80, 81, 82, 83, 84, 85, 86, 87, 88, 89, 90, 91, 92, 93, 94, 95, 96, 97, 98, 99, 100, 101, 102, 103, 104, 105, 106, 107, 108, 109, 110, 111, 112, 113, 114, 115, 116, 117, 118, 119, 120, 121, 122, 123, 124, 125, 126, 127, 128, 129, 130, 131, 132] [10] (fun vs hh => ∃ (i : Nat) (L : Lg) (d : Dk) (lv' : Value) (I' : Item), i ≤ xs.length ∧ vs = [.int .i64 i] ∧ DInv d L ∧ L.n = N ∧ L.s.num ≤ i ∧ L.s.gen ≤ i ∧ IsDisk dp d I' ∧ Own ⟨h, []⟩ [I', box lp (logC dp L lv') 74, row lv' 9 1 L.list.length (strs L.list)] hh) (fun vs _ => match vs with | [.int _ i] => xs.length - i.toNat | _ => 0) ?_ ?_
    · exact ⟨0, _, _, lv, I0, by omega, rfl, new_dinv (by omega) (by omega), rfl, Nat.le_refl _, Nat.le_refl _, hI0, o3⟩
    · clear o3
      rintro vs junk hh ⟨i, L, d, lv', I', hi, rfl, hD, hLn, hnum, hgen, hI', o2⟩
      have hA1 := hO.arr.ext o2.ext
      have hx16 := hL.len
      have hlk := hD.inv.lok
      have hll := hlk.list
      have hq0 : d.q = [] := hD.inv.calm.q
      by_cases hlt : i < xs.length
      · obtain ⟨x, hxi⟩ : ∃ x, xs[i]? = some x := ⟨xs[i], by simp [hlt]⟩
        have hmem : x ∈ xs := List.mem_of_getElem? hxi
        have ok := hO.ok x hmem
        have okw := hL.ok x hmem
        have hf0 : (opC x)[0]? = some (.int .u8 x.kind) := rfl
        have hf1 : (opC x)[1]? = some (.string ⟨⟨x.body⟩⟩) := rfl
        have hf2 : (opC x)[2]? = some x.lv := rfl
        have htm := tmod_kind ok.kind.1
        have hk2 := kind_two ok
        have h20 := okw.2.1
        have hb1 := okw.1
        refine StillVC.run (StillVC.lenN hA1 sl35 ?_)
        refine Br.dec (fun c101 => ?_) (fun hc => absurd (by omega) hc)
        refine CallVC.ret (records_spec lp 0 L.list _ _ (o2.cellB 1 rfl 6) (o2.rowArr 2 rfl) (by omega)) ?_
        intro wv m3 oc
        have o3 : Own ⟨h, []⟩ [I', box lp (logC dp L lv') 74, row lv' 9 1 L.list.length (strs L.list), row wv 9 1 L.list.length (strs L.list)] m3 := o2.call oc
        clear oc o2 hA1
        have hA1 := hO.arr.ext o3.ext
        obtain ⟨wa, wc, rfl⟩ := o3.rowIs 3 rfl
        have hsl : (strs L.list).length = L.list.length := by simp
        refine DrawVC.join [12, 44, 45, 46, 47, 48, 49, 50, 51, 52, 53] [12] (fun vs h' => ∃ av, vs = [av] ∧ Own ⟨h, []⟩ [I', box lp (logC dp L lv') 74, row lv' 9 1 L.list.length (strs L.list), row (.slice wa L.list.length wc) 9 1 L.list.length (strs L.list), row av 9 1 (L.list ++ [x.body]).length (strs (L.list ++ [x.body]))] h') ?_ ?_
        · skip
          refine DrawVC.introMT [1, 3, 4, 5, 6] [7] [10] (.one 1 (.one 3 (.one 4 (.one 5 (.one 6 (.one 7 (.fork 0 8 (.fork 2 8 (.one 8 (.one 9 (.one 10 .done))) (.one 2 (.one 9 (.one 10 .done)))) (.one 0 (.one 2 (.one 9 (.one 10 .done))))))))))) mixed (by kernel_rfl) rfl (fun _ _ _ _ h => h) ?_
          refine StillVC.idxN sl35 ty43 hA1 rfl (by omega) (by omega) ?_
          refine StillVC.fieldAdr hA1 (by omega) st43 rfl rfl rfl ?_
          refine StillVC.toM ?_
          refine StillVC.loadFF hA1 ty9 (fun _ => rfl) rfl (by assumption) rfl ?_
          refine And.intro ?_ ?_
          · (refine RunVC.lit (Own.refl _) sl22 ty9 rfl rfl (by decide) (And.intro rfl ?_); intro b140 m140 o140)
            refine And.intro (.inr ⟨Ext.refl _, o140.ext⟩) ?_
            have o141 : Own ⟨m3, []⟩ [row (.slice (some ⟨b140, 0, none⟩) 0 0) 9 1 0 []] m140 := Own.boxRow o140 0 rfl 1 0 0 rfl (Nat.le_refl _) (by decide)
            clear o140
            have hAw := (o3.rowArr 3 rfl).ext o141.ext
            refine And.intro ?_ ?_
            · (refine RunVC.append o141 0 rfl sl22 ty9 (by decide) hAw.toN (by simp [Value.oneCell']) (by simp only [maxLen]; first | omega | (simp; omega)) (by first | omega | (simp; omega)) ?_; intro v150 m150 o150)
              refine And.intro (.inr ⟨o141.ext, o150.ext⟩) ?_
              (refine RunVC.lit o150 sl22 ty9 rfl rfl (by decide) (And.intro rfl ?_); intro b151 m151 o151)
              refine And.intro (.inr ⟨o150.ext, o151.ext⟩) ?_
              (refine RunVC.append o151 0 rfl sl22 ty9 (by decide) (o151.boxArr 1 rfl (by simp) (by simp)).toN (by simp [Value.oneCell']) (by simp only [maxLen]; first | omega | (simp; omega)) (by first | omega | (simp; omega)) ?_; intro v152 m152 o152)
              refine And.intro (.inr ⟨o151.ext, o152.ext⟩) ?_
              refine ⟨rfl, ?_⟩
              simp only [List.nil_append, List.cons_append, Nat.zero_add, hsl, List.length_singleton] at o152
              have o9 := Own.call o3 o152
              simp only [List.cons_append, List.nil_append] at o9
              refine ⟨_, rfl, ?_⟩
              rw [app_strs, app_len]
              exact o9.sel [0, 1, 2, 3, 4] rfl
            · (refine RunVC.lit o141 sl22 ty9 rfl rfl (by decide) (And.intro rfl ?_); intro b160 m160 o160)
              refine And.intro (.inr ⟨o141.ext, o160.ext⟩) ?_
              clear hAw
              have hAw := (o3.rowArr 3 rfl).ext o160.ext
              (refine RunVC.append o160 0 rfl sl22 ty9 (by decide) hAw.toN (by simp [Value.oneCell']) (by simp only [maxLen]; first | omega | (simp; omega)) (by first | omega | (simp; omega)) ?_; intro v170 m170 o170)
              refine And.intro (.inr ⟨o160.ext, o170.ext⟩) ?_
              (refine RunVC.append o170 0 rfl sl22 ty9 (by decide) (o170.boxArr 1 rfl (by simp) (by simp)).toN (by simp [Value.oneCell']) (by simp only [maxLen]; first | omega | (simp; omega)) (by first | omega | (simp; omega)) ?_; intro v171 m171 o171)
              refine And.intro (.inr ⟨o170.ext, o171.ext⟩) ?_
              refine ⟨rfl, ?_⟩
              simp only [List.nil_append, List.cons_append, Nat.zero_add, hsl, List.length_singleton] at o171
              have o9 := Own.call o3 o171
              simp only [List.cons_append, List.nil_append] at o9
              refine ⟨_, rfl, ?_⟩
              rw [app_strs, app_len]
              exact o9.sel [0, 1, 2, 3, 4] rfl
          · (refine RunVC.lit (Own.refl _) sl22 ty9 rfl rfl (by decide) (And.intro rfl ?_); intro b180 m180 o180)
            refine And.intro (.inr ⟨Ext.refl _, o180.ext⟩) ?_
            (refine RunVC.lit o180 sl22 ty9 rfl rfl (by decide) (And.intro rfl ?_); intro b181 m181 o181)
            refine And.intro (.inr ⟨o180.ext, o181.ext⟩) ?_
            have o182 : Own ⟨m3, []⟩ [box b180 [Value.string ⟨⟨x.body⟩⟩] 9, row (.slice (some ⟨b181, 0, none⟩) 0 0) 9 1 0 []] m181 := Own.boxRow o181 1 rfl 1 0 0 rfl (Nat.le_refl _) (by decide)
            clear o181
            have hAw := (o3.rowArr 3 rfl).ext o182.ext
            (refine RunVC.append o182 1 rfl sl22 ty9 (by decide) hAw.toN (by simp [Value.oneCell']) (by simp only [maxLen]; first | omega | (simp; omega)) (by first | omega | (simp; omega)) ?_; intro v190 m190 o190)
            refine And.intro (.inr ⟨o182.ext, o190.ext⟩) ?_
            (refine RunVC.append o190 1 rfl sl22 ty9 (by decide) (o190.boxArr 0 rfl (by simp) (by simp)).toN (by simp [Value.oneCell']) (by simp only [maxLen]; first | omega | (simp; omega)) (by first | omega | (simp; omega)) ?_; intro v191 m191 o191)
            refine And.intro (.inr ⟨o190.ext, o191.ext⟩) ?_
            refine ⟨rfl, ?_⟩
            simp only [List.nil_append, List.cons_append, Nat.zero_add, hsl, List.length_singleton] at o191
            have o9 := Own.call o3 o191
            simp only [List.cons_append, List.nil_append] at o9
            refine ⟨_, rfl, ?_⟩
            rw [app_strs, app_len]
            exact o9.sel [0, 1, 2, 3, 5] rfl
        · rintro vs2 junk2 m4 ⟨av, rfl, o4⟩
          clear o3 hA1
          have hA1 := hO.arr.ext o4.ext
          refine StillVC.run (StillVC.idxN sl35 ty43 hA1 rfl (by omega) (by omega) ?_)
          refine StillVC.run (StillVC.fieldAdr hA1 (by omega) st43 rfl rfl rfl ?_)
          refine StillVC.run (StillVC.loadFF hA1 ty9 (fun _ => rfl) rfl (by assumption) rfl ?_)
          refine StillVC.run (StillVC.lenS rfl str9 ?_)
          refine StillVC.run (StillVC.idxN sl35 ty43 hA1 rfl (by omega) (by omega) ?_)
          refine StillVC.run (StillVC.fieldAdr hA1 (by omega) st43 rfl rfl rfl ?_)
          refine StillVC.run (StillVC.loadFF hA1 ty5 (fun _ => rfl) rfl (by assumption) rfl ?_)
          refine StillVC.run (StillVC.rem rfl rfl (by decide) ?_)
          obtain ⟨L', d', hst, hD', hn', hl', hnum', hgen'⟩ := step_law hD (by omega) (by omega) (opP x)
          refine Br.join [12, 13, 14, 15, 68, 69, 70, 71, 72, 73, 74, 75, 76, 77, 78, 79, 80, 81, 82, 83, 84, 85, 86, 87, 88, 89, 90, 91, 92, 93, 94, 95, 96, 97, 98, 99, 100, 101, 102, 103] [12, 13, 14] (fun vs hh => ∃ (lv2 av2 : Value) (I2 : Item), vs = [av2, .bool (longL (opP x)), .int .i64 (codeL L.n L.list (opP x))] ∧ IsDisk dp d' I2 ∧ Own ⟨h, []⟩ [I2, box lp (logC dp L' lv2) 74, row lv2 9 1 L'.list.length (strs L'.list), row (.slice wa L.list.length wc) 9 1 L.list.length (strs L.list), row av2 9 1 (afterL L.list (opP x)).length (strs (afterL L.list (opP x)))] hh) rfl rfl ?_ ?_
          · rcases hk2 with ⟨hk, hk'⟩ | ⟨hk, hk'⟩
            · rw [hk'] at htm
              rw [app_code hk] at hst
              have e1 : (opP x).body = x.body := rfl
              have e2 : afterL L.list (opP x) = L.list ++ [x.body] := by simp [afterL, hk, e1]
              have e3 : longL (opP x) = decide (2000 < x.body.length) := by simp [longL, hk, e1]
              have e4 : decide ((2000 : Int) < x.body.length) = decide (2000 < x.body.length) := decide_eq_decide.2 (by omega)
              rw [e1] at hst
              refine Br.dec (fun c220 => ?_) (fun hc => absurd (by omega) hc)
              refine StillVC.run (StillVC.idxN sl35 ty43 hA1 rfl (by omega) (by omega) ?_)
              refine StillVC.run (StillVC.fieldAdr hA1 (by omega) st43 rfl rfl rfl ?_)
              refine StillVC.run (StillVC.loadFF hA1 ty9 (fun _ => rfl) rfl (by assumption) rfl ?_)
              refine CallVC.ret (append_spec _ lp dp d I' L lv' x.body _ (by exact ht) hI' (by rw [hq0]; simp) hlk (by omega) (by omega) (o4.lend [0, 1, 2] [3, 4] rfl)) ?_
              rw [hst]
              rintro _ m5 ⟨rfl, I2, lv2, hI2, oc⟩
              have o5 : Own ⟨h, []⟩ [I2, box lp (logC dp L' lv2) 74, row lv2 9 1 L'.list.length (strs L'.list), row (.slice wa L.list.length wc) 9 1 L.list.length (strs L.list), row av 9 1 (L.list ++ [x.body]).length (strs (L.list ++ [x.body]))] m5 := oc.back
              clear oc o4 hA1
              refine ⟨rfl, ?_⟩
              exact ⟨lv2, av, I2, by rw [e3, ← e4], hI2, by rw [e2]; exact o5⟩
            · rw [hk'] at htm
              rw [rew_code hk] at hst
              have e1 : (opP x).list = x.list := rfl
              have e2 : afterL L.list (opP x) = x.list := by simp [afterL, hk, e1]
              have e3 : longL (opP x) = x.list.any fun r => decide (2000 < r.length) := by simp [longL, hk, e1]
              rw [e1] at hst
              refine Br.dec (fun hc => absurd hc (by omega)) (fun c240 => ?_)
              (refine RunVC.lit o4 sl22 ty9 rfl rfl (by decide) (And.intro rfl ?_); intro b241 m241 o241)
              have o242 : Own ⟨h, []⟩ [I', box lp (logC dp L lv') 74, row lv' 9 1 L.list.length (strs L.list), row (.slice wa L.list.length wc) 9 1 L.list.length (strs L.list), row av 9 1 (L.list ++ [x.body]).length (strs (L.list ++ [x.body])), row (.slice (some ⟨b241, 0, none⟩) 0 0) 9 1 0 []] m241 := Own.boxRow o241 5 rfl 1 0 0 rfl (Nat.le_refl _) (by decide)
              clear hA1 o241 o4
              have hA1 := hO.arr.ext o242.ext
              have hB := ok.arr.ext o242.ext
              have hxl : (strs x.list).length = x.list.length := by simp
              refine StillVC.run (StillVC.idxN sl35 ty43 hA1 rfl (by omega) (by omega) ?_)
              refine StillVC.run (StillVC.fieldAdr hA1 (by omega) st43 rfl rfl rfl ?_)
              refine StillVC.run (StillVC.loadFF hA1 ty22 (fun _ => rfl) rfl (by assumption) rfl ?_)
              (refine RunVC.append o242 5 rfl sl22 ty9 (by decide) hB.toN (by simp [Value.oneCell']) (by simp only [maxLen]; first | omega | (simp; omega)) (by first | omega | (simp; omega)) ?_; intro v253 m253 o253)
              simp only [List.nil_append, Nat.zero_add, hxl] at o253
              obtain ⟨xa, xc, rfl⟩ := o253.rowIs 5 rfl
              have o254 : Own ⟨h, []⟩ [I', box lp (logC dp L lv') 74, row lv' 9 1 L.list.length (strs L.list), row (.slice wa L.list.length wc) 9 1 L.list.length (strs L.list), row (.slice xa x.list.length xc) 9 1 x.list.length (strs x.list)] m253 := o253.sel [0, 1, 2, 3, 5] rfl
              clear hA1 hB o242 o253
              refine LoopVC.intro [13, 15, 82, 83, 84, 85, 86, 87, 88, 89, 90, 91, 92, 93, 94, 95, 96] [13, 15] (fun vs hh => ∃ (k : Nat), k ≤ x.list.length ∧ vs = [.bool ((x.list.take k).any fun r => decide (2000 < r.length)), .int .i64 k] ∧ hh = m253) (fun vs _ => match vs with | [_, .int _ k] => x.list.length - k.toNat | _ => 0) ?_ ?_
              · exact ⟨0, by omega, rfl, rfl⟩
              · rintro vs junk2 hh2 ⟨k, hk3, rfl, rfl⟩
                have hA1 := hO.arr.ext o254.ext
                have hA2 := o254.rowArr 4 rfl
                by_cases hlt2 : k < x.list.length
                · obtain ⟨y, hy⟩ := getx hlt2
                  have hat := any_take hy
                  have e5 : decide ((2000 : Int) < y.length) = decide (2000 < y.length) := decide_eq_decide.2 (by omega)
                  cases hb : (x.list.take k).any (fun r => decide (2000 < r.length)) with
                  | true =>
                    refine StillVC.run (StillVC.lenV rfl sl22 ?_)
                    refine Br.dec (fun c261 => ?_) (fun hc => absurd (by omega) hc)
                    refine Br.tt ?_
                    refine Ar.i64 (by omega) (by omega) ?_
                    refine ⟨rfl, ?_⟩
                    rw [hb, Bool.true_or] at hat
                    exact ⟨⟨k + 1, by omega, by rw [hat]; rfl, rfl⟩, by simp only; omega⟩
                  | false =>
                    refine StillVC.run (StillVC.lenV rfl sl22 ?_)
                    refine Br.dec (fun c281 => ?_) (fun hc => absurd (by omega) hc)
                    refine Br.ff ?_
                    refine StillVC.run (StillVC.idx sl22 ty9 hA2 rfl (by omega) (by omega) ?_)
                    refine StillVC.run (StillVC.loadM hA2 ty9 rfl (by first | assumption | rfl) ?_)
                    refine StillVC.run (StillVC.lenS rfl str9 ?_)
                    refine Ar.i64 (by omega) (by omega) ?_
                    refine ⟨rfl, ?_⟩
                    rw [hb, Bool.false_or] at hat
                    exact ⟨⟨k + 1, by omega, by rw [hat, ← e5]; rfl, rfl⟩, by simp only; omega⟩
                · obtain rfl : k = x.list.length := by omega
                  refine StillVC.run (StillVC.lenV rfl sl22 ?_)
                  refine Br.dec (fun hc => absurd hc (by omega)) (fun c301 => ?_)
                  refine StillVC.run (StillVC.idxN sl35 ty43 hA1 rfl (by omega) (by omega) ?_)
                  refine StillVC.run (StillVC.fieldAdr hA1 (by omega) st43 rfl rfl rfl ?_)
                  refine StillVC.run (StillVC.loadFF hA1 ty22 (fun _ => rfl) rfl (by assumption) rfl ?_)
                  have o2e : Own ⟨h, []⟩ [emptyI, I', box lp (logC dp L lv') 74, row lv' 9 1 L.list.length (strs L.list), row (.slice wa L.list.length wc) 9 1 L.list.length (strs L.list), row (.slice xa x.list.length xc) 9 1 x.list.length (strs x.list)] hh2 := o254.emptyI'
                  have hpb := partsL_short x.list okw.2.1 okw.2.2
                  refine CallVC.ret (rewrite_spec ⟨h, [row (.slice wa L.list.length wc) 9 1 L.list.length (strs L.list), row (.slice xa x.list.length xc) 9 1 x.list.length (strs x.list)] ++ []⟩ lp dp d I' emptyI L lv' x.lv x.list _ (by exact ht) hI' (by rw [hq0]; simp) hlk (by omega) (by omega) (fun r hr => by have := okw.2.2 r hr; omega) (RD.base ok.arr) (o2e.lend [1, 2, 3, 0] [4, 5] rfl)) ?_
                  rw [hst]
                  rintro _ m5 ⟨rfl, I2, lv2, hI2, oc⟩
                  have o5e : Own ⟨h, []⟩ [I2, box lp (logC dp L' lv2) 74, row lv2 9 1 L'.list.length (strs L'.list), emptyI, row (.slice wa L.list.length wc) 9 1 L.list.length (strs L.list), row (.slice xa x.list.length xc) 9 1 x.list.length (strs x.list)] m5 := Own.back (B := ⟨h, []⟩) oc
                  have o5 := o5e.sel [0, 1, 2, 4, 5] rfl
                  clear oc o254 o2e o5e hA1 hA2
                  refine ⟨rfl, ?_⟩
                  exact ⟨lv2, _, I2, by rw [e3, List.take_length], hI2, by rw [e2]; exact o5⟩
          · rintro vs3 junk3 m5 ⟨lv2, av2, I2, rfl, hI2, o5⟩
            clear o4 hA1
            obtain ⟨aa, ac, rfl⟩ := o5.rowIs 4 rfl
            have hlk' := hD'.inv.lok
            have hlen' := hD'.inv.len
            have hhf : halfN L.n = (N - 2) / 2 := by rw [hLn]; rfl
            have hhf' : halfN L'.n = (N - 2) / 2 := by rw [hn', hLn]; rfl
            have hsh : L'.list.length ≤ 2000 ∧ (partsL L'.list).length ≤ 2000 := ⟨hlk'.list, by have := hlk'.half; omega⟩
            obtain ⟨hl3, hl4⟩ := hsh
            obtain ⟨_, hszw'⟩ := hlk.shorts
            have hszw : ∀ r ∈ L.list, r.length ≤ 1000000000 := fun r hr => by have := hszw' r hr; omega
            obtain ⟨hpa, hsza, haa⟩ := after_small hlk okw
            have hn1 : L'.s.num ≤ L.s.num + 1 := by rw [hnum']; split <;> omega
            have hg1 : L'.s.gen ≤ L.s.gen + 1 := by rw [hgen']; split <;> omega
            have hn6 := hlk'.n6
            have hn4 := hlk'.n4
            have hcode : codeL L.n L.list (opP x) = if longL (opP x) = true then 3 else if halfN L.n < (partsL (afterL L.list (opP x))).length then 18 else 0 := rfl
            cases hlong : longL (opP x) with
            | true =>
              rw [hlong, if_pos rfl] at hcode
              rw [hcode] at hl' hnum' hgen' ⊢

              rw [if_neg (by decide)] at hl'
              refine Br.tt ?_
              refine Br.tt ?_
              refine Br.ff ?_
              refine CallVC.ret (records_spec lp 0 L'.list _ _ (o5.cellB 1 rfl 6) (o5.rowArr 2 rfl) (by omega)) ?_
              intro rv3 m6 oc
              have o6 : Own ⟨h, []⟩ [row rv3 9 1 L'.list.length (strs L'.list), I2, box lp (logC dp L' lv2) 74, row lv2 9 1 L'.list.length (strs L'.list), row (.slice wa L.list.length wc) 9 1 L.list.length (strs L.list), row (.slice aa (afterL L.list (opP x)).length ac) 9 1 (afterL L.list (opP x)).length (strs (afterL L.list (opP x)))] m6 := (o5.call oc).sel [5, 0, 1, 2, 3, 4] rfl
              clear oc o5
              refine CallVC.ret (same_eq L'.list L.list _ _ _ (o6.rowArr 0 rfl) (o6.rowArr 4 rfl) (by omega) hl') ?_
              rintro _ m7 ⟨rfl, oc⟩
              have o7 := o6.ext' oc
              clear oc o6
              refine Br.ff ?_
              refine CallVC.ret (room_spec lp L'.n L'.s.len _ (o7.cellB 2 rfl 2) (o7.cellB 2 rfl 4) (by omega) (by omega) (by omega)) ?_
              rintro _ m8 ⟨rfl, oc⟩
              have o8 := o7.ext' oc
              clear oc o7
              refine CallVC.ret (parts46_spec L.list _ _ (o8.rowArr 4 rfl) (by rw [← hl']; omega) (by rw [← hl']; omega) hszw) ?_
              rintro _ m9 ⟨pa, pc, rfl, oc⟩
              have o9 := o8.ext' oc
              clear oc o8
              rw [← hl']
              refine StillVC.run (StillVC.lenV rfl sl22 ?_)
              refine Ar.i64 (by omega) (by omega) ?_
              refine Br.ndec (fun hc => absurd (by first | omega | assumption | decide | exact rfl) hc) (fun c421 => ?_)
              refine Ar.i64 (by omega) (by omega) ?_
              refine ⟨rfl, ?_⟩
              exact ⟨⟨i + 1, L', d', lv2, I2, by omega, rfl, hD', by omega, by omega, by omega, hI2, o9.sel [1, 2, 3] rfl⟩, by simp only; omega⟩

            | false =>
              rw [hlong, if_neg (by decide)] at hcode
              refine Br.ff ?_
              refine CallVC.ret (parts46_spec (afterL L.list (opP x)) _ _ (o5.rowArr 4 rfl) haa hpa hsza) ?_
              rintro _ m9 ⟨pa2, pc2, rfl, oc⟩
              have o51 := o5.ext' oc
              clear oc o5
              by_cases hbig : halfN L.n < (partsL (afterL L.list (opP x))).length
              · rw [if_pos hbig] at hcode
                rw [hcode] at hl' hnum' hgen' ⊢

                rw [if_neg (by decide)] at hl'
                refine StillVC.run (StillVC.lenV rfl sl22 ?_)
                refine Br.dec (fun c521 => ?_) (fun hc => absurd (by omega) hc)
                refine Br.tt ?_
                refine Br.ff ?_
                refine CallVC.ret (records_spec lp 0 L'.list _ _ (o51.cellB 1 rfl 6) (o51.rowArr 2 rfl) (by omega)) ?_
                intro rv3 m6 oc
                have o6 : Own ⟨h, []⟩ [row rv3 9 1 L'.list.length (strs L'.list), I2, box lp (logC dp L' lv2) 74, row lv2 9 1 L'.list.length (strs L'.list), row (.slice wa L.list.length wc) 9 1 L.list.length (strs L.list), row (.slice aa (afterL L.list (opP x)).length ac) 9 1 (afterL L.list (opP x)).length (strs (afterL L.list (opP x)))] m6 := (o51.call oc).sel [5, 0, 1, 2, 3, 4] rfl
                clear oc o51
                refine CallVC.ret (same_eq L'.list L.list _ _ _ (o6.rowArr 0 rfl) (o6.rowArr 4 rfl) (by omega) hl') ?_
                rintro _ m7 ⟨rfl, oc⟩
                have o7 := o6.ext' oc
                clear oc o6
                refine Br.ff ?_
                refine CallVC.ret (room_spec lp L'.n L'.s.len _ (o7.cellB 2 rfl 2) (o7.cellB 2 rfl 4) (by omega) (by omega) (by omega)) ?_
                rintro _ m8 ⟨rfl, oc⟩
                have o8 := o7.ext' oc
                clear oc o7
                refine CallVC.ret (parts46_spec L.list _ _ (o8.rowArr 4 rfl) (by rw [← hl']; omega) (by rw [← hl']; omega) hszw) ?_
                rintro _ m9 ⟨pa, pc, rfl, oc⟩
                have o9 := o8.ext' oc
                clear oc o8
                rw [← hl']
                refine StillVC.run (StillVC.lenV rfl sl22 ?_)
                refine Ar.i64 (by omega) (by omega) ?_
                refine Br.ndec (fun hc => absurd (by first | omega | assumption | decide | exact rfl) hc) (fun c601 => ?_)
                refine Ar.i64 (by omega) (by omega) ?_
                refine ⟨rfl, ?_⟩
                exact ⟨⟨i + 1, L', d', lv2, I2, by omega, rfl, hD', by omega, by omega, by omega, hI2, o9.sel [1, 2, 3] rfl⟩, by simp only; omega⟩
              · rw [if_neg hbig] at hcode
                rw [hcode] at hl' hnum' hgen' ⊢

                rw [if_pos rfl] at hl'
                refine StillVC.run (StillVC.lenV rfl sl22 ?_)
                refine Br.dec (fun hc => absurd hc (by omega)) (fun c641 => ?_)
                refine Br.ff ?_
                refine Br.ff ?_
                refine CallVC.ret (records_spec lp 0 L'.list _ _ (o51.cellB 1 rfl 6) (o51.rowArr 2 rfl) (by omega)) ?_
                intro rv3 m6 oc
                have o6 : Own ⟨h, []⟩ [row rv3 9 1 L'.list.length (strs L'.list), I2, box lp (logC dp L' lv2) 74, row lv2 9 1 L'.list.length (strs L'.list), row (.slice wa L.list.length wc) 9 1 L.list.length (strs L.list), row (.slice aa (afterL L.list (opP x)).length ac) 9 1 (afterL L.list (opP x)).length (strs (afterL L.list (opP x)))] m6 := (o51.call oc).sel [5, 0, 1, 2, 3, 4] rfl
                clear oc o51
                refine CallVC.ret (same_eq L'.list (afterL L.list (opP x)) _ _ _ (o6.rowArr 0 rfl) (o6.rowArr 5 rfl) (by omega) hl') ?_
                rintro _ m7 ⟨rfl, oc⟩
                have o7 := o6.ext' oc
                clear oc o6
                refine Br.ff ?_
                refine CallVC.ret (room_spec lp L'.n L'.s.len _ (o7.cellB 2 rfl 2) (o7.cellB 2 rfl 4) (by omega) (by omega) (by omega)) ?_
                rintro _ m8 ⟨rfl, oc⟩
                have o8 := o7.ext' oc
                clear oc o7
                refine CallVC.ret (parts46_spec (afterL L.list (opP x)) _ _ (o8.rowArr 5 rfl) (by rw [← hl']; omega) (by rw [← hl']; omega) hsza) ?_
                rintro _ m9 ⟨pa, pc, rfl, oc⟩
                have o9 := o8.ext' oc
                clear oc o8
                rw [← hl']
                refine StillVC.run (StillVC.lenV rfl sl22 ?_)
                refine Ar.i64 (by omega) (by omega) ?_
                refine Br.ndec (fun hc => absurd (by first | omega | assumption | decide | exact rfl) hc) (fun c721 => ?_)
                refine Ar.i64 (by omega) (by omega) ?_
                refine ⟨rfl, ?_⟩
                exact ⟨⟨i + 1, L', d', lv2, I2, by omega, rfl, hD', by omega, by omega, by omega, hI2, o9.sel [1, 2, 3] rfl⟩, by simp only; omega⟩
      · obtain rfl : i = xs.length := by omega
        refine StillVC.run (StillVC.lenN hA1 sl35 ?_)
        refine Br.dec (fun hc => absurd hc (by omega)) (fun c801 => ?_)
        refine RetVC.one rfl ?_
        exact ⟨rfl, o2.sel [] rfl⟩

end Go.Proofs.YtfjajkgfgigodaaGreatDoor
