/-
  The statement LogTraces.
-/
import Derived.Test.YtfjajkgfgigodaaGreatDoorStructs
import Derived.Test.YtfjajkgfgigodaaGreatDoorVcSep
import Derived.Test.YtfjajkgfgigodaaGreatDoorOps
import Derived.Test.YtfjajkgfgigodaaGreatDoorMDu
/- The statement LogTraces. -/
namespace Go.Proofs.YtfjajkgfgigodaaGreatDoor
open Go

theorem zok : (-9223372036854775808 : Int) ≤ 0 ∧ (0 : Int) ≤ 9223372036854775807 := by decide

/-- The list of one operation that has only a list. -/
def oneOp (rv : Value) (rs : List (List UInt8)) : OpW := ⟨0, [], rv, rs, 0, 0, 0⟩

set_option maxHeartbeats 8000000 in
set_option maxRecDepth 100000 in
theorem traces_law (n : Int) (xs ys : List OpW) (ov pv rv : Value) (rs : List (List UInt8)) (h : Heap) (ht : TabH h) (hO : Ops h ov xs) (hP : Ops h pv ys) (hR : Arr h rv (strs rs)) (hrs : ∀ s ∈ rs, s.length ≤ 140737488351232) :
    SpecR Tryz.prog 5 [.int .i64 n, ov, pv, rv] h fun r h' => r = .bool true ∧ Own h [] h' := by
  have hR' := hR
  obtain ⟨ra, rc, hrv, hrc, hrr⟩ := hR
  have hsl : (strs rs).length = rs.length := by simp
  rw [hsl] at hrv
  subst hrv
  clear hrc hrr
  refine Spec.enter Tryz.func5 rfl Tryz.ntmps5 (by kernel_rfl) ?_
  refine CallVC.ret (head_spec46 h ht) ?_
  rintro _ m1 ⟨rfl, oc1⟩
  refine CallVC.ret (light_spec n xs ov _ (hO.ext oc1.ext)) ?_
  rintro _ m2 ⟨⟨bl, rfl, hl⟩, oc2⟩
  have o1 : Own ⟨h, []⟩ [] m2 := oc1.ext' oc2
  clear oc1 oc2
  cases bl with
  | false =>
    refine Br.tt ?_
    refine Br.tt ?_
    refine RetVC.one rfl ?_
    exact ⟨rfl, o1⟩
  | true =>
    have hL := hl rfl
    have hn40 := hL.n
    refine Br.ff ?_
    refine CallVC.ret (light_spec n ys pv _ (hP.ext o1.ext)) ?_
    rintro _ m3 ⟨⟨bl2, rfl, hl2⟩, oc2⟩
    have o2 : Own ⟨h, []⟩ [] m3 := o1.ext' oc2
    clear oc2 o1
    cases bl2 with
    | false =>
      refine Br.tt ?_
      refine Br.tt ?_
      refine RetVC.one rfl ?_
      exact ⟨rfl, o2⟩
    | true =>
      have hM := hl2 rfl
      refine Br.ff ?_
      refine StillVC.run (StillVC.buildK st43 ?_)
      refine And.intro rfl ?_
      (refine RunVC.litN o2 sl35 ty43 rfl rfl (by decide) ?_)
      refine And.intro rfl ?_
      intro b62 m62 o62
      have hQ : Ops m62 (.slice (some ⟨b62, 0, none⟩) 1 1) [oneOp (.slice ra rs.length rc) rs] :=
        ⟨(Own.boxRow o62 0 rfl 6 1 1 rfl (Nat.le_refl _) (by decide)).rowArrN 0 rfl, fun x hx => by
          rw [List.mem_singleton.1 hx]
          exact ⟨hR'.ext o62.ext, ⟨Int.le_refl 0, by show (0 : Int) ≤ 255; decide⟩, Nat.zero_le _, hrs, zok, zok, zok⟩⟩
      refine CallVC.ret (light_spec n _ _ _ hQ) ?_
      rintro _ m4 ⟨⟨bl3, rfl, hl3⟩, oc2⟩
      have o3 : Own ⟨h, []⟩ [] m4 := (o62.ext' oc2).sel [] rfl
      clear oc2 o62 o2 hQ
      cases bl3 with
      | false =>
        refine Br.tt ?_
        refine RetVC.one rfl ?_
        exact ⟨rfl, o3⟩
      | true =>
        have hS : okW (oneOp (.slice ra rs.length rc) rs) := (hl3 rfl).ok _ (by simp)
        have hS1 : rs.length ≤ 20 := hS.2.1
        have hS2 : ∀ s ∈ rs, s.length ≤ 10000 := hS.2.2
        refine Br.ff ?_
        by_cases hn : n < 1
        · refine CallVC.ret (new_none n _ (.inl hn)) ?_
          rintro _ m5 ⟨rfl, oc⟩
          have o4 := o3.ext' oc
          clear oc o3
          refine CallVC.ret (new_none n _ (.inl hn)) ?_
          rintro _ m6 ⟨rfl, oc⟩
          have o5 := o4.ext' oc
          clear oc o4
          refine CallVC.ret (open_nil _) ?_
          rintro _ m7 ⟨rfl, oc⟩
          have o6 := o5.ext' oc
          clear oc o5
          refine CallVC.ret (open_nil _) ?_
          rintro _ m8 ⟨rfl, oc⟩
          have o7 := o6.ext' oc
          clear oc o6
          refine Br.tt ?_
          refine Br.tt ?_
          refine Br.tt ?_
          refine RetVC.one rfl ?_
          exact ⟨rfl, o7⟩
        obtain ⟨N, rfl⟩ : ∃ N : Nat, n = N := ⟨n.toNat, by omega⟩
        refine CallVC.ret (new_disk N _ (by omega) (by omega)) ?_
        rintro _ m5 ⟨dp, I0, rfl, hI0, oc⟩
        have o4 : Own ⟨h, []⟩ [I0] m5 := o3.call oc
        clear oc o3
        refine CallVC.ret (new_disk N _ (by omega) (by omega)) ?_
        rintro _ m6 ⟨bp, J0, rfl, hJ0, oc⟩
        have o5 : Own ⟨h, []⟩ [I0, J0] m6 := o4.call oc
        clear oc o4
        refine CallVC.ret (open_spec _ dp (newD N) I0 _ (by exact ht) hI0 (by simp [newD]) (o5.lend [0] [1] rfl)) ?_
        by_cases h6 : N < 6
        · rw [open_small h6]
          rintro _ m7 ⟨rfl, oc⟩
          have o6 : Own ⟨h, []⟩ [I0, J0] m7 := oc.back
          clear o5 oc
          refine CallVC.ret (open_spec _ bp (newD N) J0 _ (by exact ht) hJ0 (by simp [newD]) (o6.lend [1] [0] rfl)) ?_
          rw [open_small h6]
          rintro _ m8 ⟨rfl, oc⟩
          have o7 : Own ⟨h, []⟩ [J0, I0] m8 := oc.back
          clear o6 oc
          refine Br.tt ?_
          refine Br.tt ?_
          refine Br.tt ?_
          refine RetVC.one rfl ?_
          exact ⟨rfl, o7.sel [] rfl⟩
        have hop := (new_dinv (n := N) (by omega) (by omega)).inv.open'
        rw [hop]
        rintro _ m7 ⟨lp, lv, rv, rfl, oc⟩
        have o6 : Own ⟨h, []⟩ [I0, box lp (logC dp ⟨⟨0, 0, 0⟩, N, 0, [], false⟩ lv) 74, row lv 9 1 0 [], row rv 9 1 0 [], J0] m7 := oc.back
        clear o5 oc
        refine CallVC.ret (open_spec _ bp (newD N) J0 _ (by exact ht) hJ0 (by simp [newD]) (o6.lend [4] [0, 1, 2] rfl)) ?_
        rw [hop]
        rintro _ m8 ⟨kp, kv, rv2, rfl, oc⟩
        have o7 : Own ⟨h, []⟩ [J0, box kp (logC bp ⟨⟨0, 0, 0⟩, N, 0, [], false⟩ kv) 74, row kv 9 1 0 [], row rv2 9 1 0 [], I0, box lp (logC dp ⟨⟨0, 0, 0⟩, N, 0, [], false⟩ lv) 74, row lv 9 1 0 []] m8 := oc.back
        clear o6 oc
        obtain ⟨hP0, hPi⟩ := play_inv (n := N) (by omega) (by omega) xs hL.len
        obtain ⟨hQ0, hQi⟩ := play_inv (n := N) (by omega) (by omega) ys hM.len
        refine Br.ff ?_
        refine Br.ff ?_
        refine CallVC.ret (play_spec _ lp dp N 10 (newD N) I0 ⟨⟨0, 0, 0⟩, N, 0, [], false⟩ lv xs ov _ (by exact ht) hI0 (by exact hO) hL.ok hL.len hP0 (o7.lend [4, 5, 6] [0, 1, 2] rfl)) ?_
        show ∀ v h', PlayPost _ _ _ (playL (newP N) (xs.map opP)) v h' → _
        generalize playL (newP N) (xs.map opP) = p at *
        rintro _ m9 ⟨outv, I5, lv5, rfl, hI5, oc⟩
        have o8 : Own ⟨h, []⟩ [I5, box lp (logC dp p.L lv5) 74, row lv5 9 1 p.L.list.length (strs p.L.list), row outv 9 1 p.out.length (strs p.out), J0, box kp (logC bp ⟨⟨0, 0, 0⟩, N, 0, [], false⟩ kv) 74, row kv 9 1 0 []] m9 := Own.back (B := ⟨h, []⟩) oc
        clear o7 oc
        refine CallVC.ret (play_spec _ kp bp N 10 (newD N) J0 ⟨⟨0, 0, 0⟩, N, 0, [], false⟩ kv ys pv _ (by exact ht) hJ0 (by exact hP) hM.ok hM.len hQ0 (o8.lend [4, 5, 6] [0, 1, 2] rfl)) ?_
        show ∀ v h', PlayPost _ _ _ (playL (newP N) (ys.map opP)) v h' → _
        generalize playL (newP N) (ys.map opP) = q at *
        rintro _ m10 ⟨outv2, J5, kv5, rfl, hJ5, oc⟩
        have o9 : Own ⟨h, []⟩ [J5, box kp (logC bp q.L kv5) 74, row kv5 9 1 q.L.list.length (strs q.L.list), row outv2 9 1 q.out.length (strs q.out), I5, box lp (logC dp p.L lv5) 74, row lv5 9 1 p.L.list.length (strs p.L.list)] m10 := Own.back (B := ⟨h, []⟩) oc
        clear o8 oc
        by_cases hab : p.a = q.a
        · by_cases hrr : p.r = q.r
          · have hpb := partsL_short rs hS1 hS2
            have g1 := hPi.num
            have g2 := hPi.gen
            have g3 := hPi.k
            have g4 := hQi.num
            have g5 := hQi.gen
            have g6 := hPi.n
            have g7 := hQi.n
            have hq1 : p.d.q = [] := hPi.inv.inv.calm.q
            have hq2 : q.d.q = [] := hQi.inv.inv.calm.q
            have hlk1 := hPi.inv.inv.lok
            have hlk2 := hQi.inv.inv.lok
            have htr := traces (rs := rs) hPi.inv.inv hQi.inv.inv (by omega) (by omega) (by omega) (by omega) (by omega)
            refine Br.ndec (fun hc => absurd (by first | omega | assumption | decide | exact rfl) hc) (fun c220 => ?_)
            refine Br.ndec (fun hc => absurd (by first | omega | assumption | decide | exact rfl) hc) (fun c221 => ?_)
            have o9e : Own ⟨h, []⟩ [emptyI, J5, box kp (logC bp q.L kv5) 74, row kv5 9 1 q.L.list.length (strs q.L.list), row outv2 9 1 q.out.length (strs q.out), I5, box lp (logC dp p.L lv5) 74, row lv5 9 1 p.L.list.length (strs p.L.list)] m10 := o9.emptyI'
            refine CallVC.ret (rewrite_spec ⟨h, [J5, box kp (logC bp q.L kv5) 74, row kv5 9 1 q.L.list.length (strs q.L.list)] ++ []⟩ lp dp p.d I5 emptyI p.L lv5 (.slice ra rs.length rc) rs _ (by exact ht) hI5 (by rw [hq1]; simp) hlk1 (by omega) (by omega) (fun r hr => by have := hS2 r hr; omega) (RD.base hR') (o9e.lend [5, 6, 7, 0] [1, 2, 3] rfl)) ?_
            rcases htr with ⟨e, he0, ha1, ha2⟩ | ⟨L', d', hb1, hb2, hcalm, hwf⟩
            · skip
              rw [ha1]
              rintro _ m11 ⟨rfl, I6, lv6, hI6, oc⟩
              have o10e : Own ⟨h, []⟩ [I6, box lp (logC dp p.L lv6) 74, row lv6 9 1 p.L.list.length (strs p.L.list), emptyI, J5, box kp (logC bp q.L kv5) 74, row kv5 9 1 q.L.list.length (strs q.L.list)] m11 := Own.back (B := ⟨h, []⟩) oc
              clear o9 o9e oc
              have o10f : Own ⟨h, []⟩ [emptyI, I6, box lp (logC dp p.L lv6) 74, row lv6 9 1 p.L.list.length (strs p.L.list), J5, box kp (logC bp q.L kv5) 74, row kv5 9 1 q.L.list.length (strs q.L.list)] m11 := o10e.sel [3, 0, 1, 2, 4, 5, 6] rfl
              clear o10e
              refine CallVC.ret (rewrite_spec ⟨h, [I6, box lp (logC dp p.L lv6) 74, row lv6 9 1 p.L.list.length (strs p.L.list)] ++ []⟩ kp bp q.d J5 emptyI q.L kv5 (.slice ra rs.length rc) rs _ (by exact ht) hJ5 (by rw [hq2]; simp) hlk2 (by omega) (by omega) (fun r hr => by have := hS2 r hr; omega) (RD.base hR') (o10f.lend [4, 5, 6, 0] [1, 2, 3] rfl)) ?_
              rw [ha2]
              rintro _ m12 ⟨rfl, J6, kv6, hJ6, oc⟩
              have o11e : Own ⟨h, []⟩ [J6, box kp (logC bp q.L kv6) 74, row kv6 9 1 q.L.list.length (strs q.L.list), emptyI, I6, box lp (logC dp p.L lv6) 74, row lv6 9 1 p.L.list.length (strs p.L.list)] m12 := Own.back (B := ⟨h, []⟩) oc
              have o11 : Own ⟨h, []⟩ [I6, J6] m12 := o11e.sel [4, 0] rfl
              clear o10f o11e oc
              refine Br.ndec (fun c270 => ?_) (fun hc => absurd hc (by first | omega | assumption | decide | exact rfl))
              refine Br.tt ?_
              refine RetVC.one rfl ?_
              exact ⟨congrArg Value.bool (decide_eq_true rfl), o11.sel [] rfl⟩
            · skip
              rw [hb1]
              rintro _ m11 ⟨rfl, I6, lv6, hI6, oc⟩
              have o10e : Own ⟨h, []⟩ [I6, box lp (logC dp L' lv6) 74, row lv6 9 1 L'.list.length (strs L'.list), emptyI, J5, box kp (logC bp q.L kv5) 74, row kv5 9 1 q.L.list.length (strs q.L.list)] m11 := Own.back (B := ⟨h, []⟩) oc
              clear o9 o9e oc
              have o10f : Own ⟨h, []⟩ [emptyI, I6, box lp (logC dp L' lv6) 74, row lv6 9 1 L'.list.length (strs L'.list), J5, box kp (logC bp q.L kv5) 74, row kv5 9 1 q.L.list.length (strs q.L.list)] m11 := o10e.sel [3, 0, 1, 2, 4, 5, 6] rfl
              clear o10e
              refine CallVC.ret (rewrite_spec ⟨h, [I6, box lp (logC dp L' lv6) 74, row lv6 9 1 L'.list.length (strs L'.list)] ++ []⟩ kp bp q.d J5 emptyI q.L kv5 (.slice ra rs.length rc) rs _ (by exact ht) hJ5 (by rw [hq2]; simp) hlk2 (by omega) (by omega) (fun r hr => by have := hS2 r hr; omega) (RD.base hR') (o10f.lend [4, 5, 6, 0] [1, 2, 3] rfl)) ?_
              rw [hb2]
              rintro _ m12 ⟨rfl, J6, kv6, hJ6, oc⟩
              have o11e : Own ⟨h, []⟩ [J6, box kp (logC bp L' kv6) 74, row kv6 9 1 L'.list.length (strs L'.list), emptyI, I6, box lp (logC dp L' lv6) 74, row lv6 9 1 L'.list.length (strs L'.list)] m12 := Own.back (B := ⟨h, []⟩) oc
              have o11 : Own ⟨h, []⟩ [I6, J6] m12 := o11e.sel [4, 0] rfl
              clear o10f o11e oc
              refine Br.ndec (fun hc => absurd (by first | omega | assumption | decide | exact rfl) hc) (fun c320 => ?_)
              rw [g6] at hwf
              refine LoopVC.intro [8, 24, 25, 26, 27, 28, 29, 115, 116, 117, 118, 119, 120, 121, 122, 123, 124, 125, 126, 127, 128, 129, 130, 131, 132, 133, 134, 135, 136, 137, 138, 139, 140, 141, 142, 143, 144, 145, 146, 147, 148, 149, 150, 151, 152] [24] (fun vs hh => ∃ (r : Nat) (D : Dk) (I1 J1 : Item), r ≤ 2 ∧ vs = [.int .i64 r] ∧ D.Calm ∧ D.Wf N ∧ IsDisk dp D I1 ∧ IsDisk bp D J1 ∧ Own ⟨h, []⟩ [I1, J1] hh) (fun vs _ => match vs with | [.int _ r] => 2 - r.toNat | _ => 0) ?_ ?_
              · exact ⟨0, d', I6, J6, by omega, rfl, hcalm, hwf, hI6, hJ6, o11⟩
              · clear o11 hcalm hwf
                rintro vs junk hh ⟨r, D, I1, J1, hr, rfl, hcalm, hwf, hI1, hJ1, o12⟩
                by_cases hr2 : r < 2
                · refine Br.dec (fun c340 => ?_) (fun hc => absurd (by omega) hc)
                  refine LoopVC.intro [8, 25, 26, 27, 28, 29, 119, 120, 121, 122, 123, 124, 125, 126, 127, 128, 129, 130, 131, 132, 133, 134, 135, 136, 137, 138, 139, 140, 141, 142, 143, 144, 145, 146, 147, 148, 149, 150, 151, 152] [25] (fun vs hh => ∃ (i : Nat) (D : Dk) (I1 J1 : Item), i ≤ N ∧ vs = [.int .i64 i] ∧ D.Calm ∧ D.Wf N ∧ IsDisk dp D I1 ∧ IsDisk bp D J1 ∧ Own ⟨h, []⟩ [I1, J1] hh) (fun vs _ => match vs with | [.int _ i] => N - i.toNat | _ => 0) ?_ ?_
                  · exact ⟨0, D, I1, J1, by omega, rfl, hcalm, hwf, hI1, hJ1, o12⟩
                  · clear o12 hcalm hwf hI1 hJ1 I1 J1 D
                    rintro vs junk2 hh ⟨i, D, I1, J1, hi, rfl, hcalm, hwf, hI1, hJ1, o12⟩
                    have hqD : D.q = [] := hcalm.q
                    by_cases hi2 : i < N
                    · have hrd : D.read (i : Int) = (D.look i, 0) := by
                        unfold Dk.read
                        rw [if_neg (by rw [hcalm.on]; decide), if_neg (by rw [hwf.st]; omega)]
                        rfl
                      obtain ⟨hc2, hw2⟩ := stale_calm hcalm hwf i
                      refine Br.dec (fun c360 => ?_) (fun hc => absurd (by omega) hc)
                      refine CallVC.ret (read_disk _ dp D I1 i _ hI1 (o12.lend [0] [1] rfl) (by rw [hqD]; simp)) ?_
                      rw [hrd]
                      rintro _ m13 ⟨rfl, oc⟩
                      have o13 := o12.ext' oc
                      clear oc o12
                      refine CallVC.ret (read_disk _ bp D J1 i _ hJ1 (o13.lend [1] [0] rfl) (by rw [hqD]; simp)) ?_
                      rw [hrd]
                      rintro _ m14 ⟨rfl, oc⟩
                      have o14 := o13.ext' oc
                      clear oc o13
                      refine Br.ndec (fun hc => absurd (by first | omega | assumption | decide | exact rfl) hc) (fun c400 => ?_)
                      refine Br.ndec (fun hc => absurd (by first | omega | assumption | decide | exact rfl) hc) (fun c401 => ?_)
                      refine Br.ndec (fun hc => absurd (by first | omega | assumption | decide | exact rfl) hc) (fun c402 => ?_)
                      refine CallVC.ret (stale_disk _ dp D I1 i _ hI1 (o14.lend [0] [1] rfl)) ?_
                      rintro _ m15 ⟨rfl, I2, hI2, oc⟩
                      have o15 : Own ⟨h, []⟩ [I2, J1] m15 := oc.back
                      clear oc o14
                      refine CallVC.ret (stale_disk _ bp D J1 i _ hJ1 (o15.lend [1] [0] rfl)) ?_
                      rintro _ m16 ⟨rfl, J2, hJ2, oc⟩
                      have o16 : Own ⟨h, []⟩ [J2, I2] m16 := oc.back
                      clear oc o15
                      refine Ar.i64 (by omega) (by omega) ?_
                      refine ⟨rfl, ?_⟩
                      exact ⟨⟨i + 1, _, I2, J2, by omega, rfl, hc2, hw2, hI2, hJ2, o16.sel [1, 0] rfl⟩, by simp only; omega⟩
                    · refine Br.dec (fun hc => absurd hc (by omega)) (fun c460 => ?_)
                      refine Ar.i64 (by omega) (by omega) ?_
                      refine ⟨rfl, ?_⟩
                      exact ⟨⟨r + 1, D, I1, J1, by omega, rfl, hcalm, hwf, hI1, hJ1, o12⟩, by simp only; omega⟩
                · refine Br.dec (fun hc => absurd hc (by omega)) (fun c480 => ?_)
                  refine Br.tt ?_
                  refine RetVC.one rfl ?_
                  exact ⟨rfl, o12.sel [] rfl⟩
          · refine Br.ndec (fun hc => absurd (by first | omega | assumption | decide | exact rfl) hc) (fun c230 => ?_)
            refine Br.ndec (fun c231 => ?_) (fun hc => absurd hc (by first | omega | assumption | decide | exact rfl))
            refine RetVC.one rfl ?_
            exact ⟨rfl, o9.sel [] rfl⟩
        · refine Br.ndec (fun c240 => ?_) (fun hc => absurd hc (by first | omega | assumption | decide | exact rfl))
          refine Br.tt ?_
          refine RetVC.one rfl ?_
          exact ⟨rfl, o9.sel [] rfl⟩

end Go.Proofs.YtfjajkgfgigodaaGreatDoor
