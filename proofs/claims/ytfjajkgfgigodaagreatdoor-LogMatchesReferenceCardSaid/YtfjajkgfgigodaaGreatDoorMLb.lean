/-
  The log: Append. The log: Append, Records, Room. The log: Rewrite. The log: Rewrite.
-/
import Derived.Test.YtfjajkgfgigodaaGreatDoorStructs
import Derived.Test.YtfjajkgfgigodaaGreatDoorVcSep
import Derived.Test.YtfjajkgfgigodaaGreatDoorVcFork
import Derived.Test.YtfjajkgfgigodaaGreatDoorMLa
import Derived.Test.YtfjajkgfgigodaaGreatDoorMSe
/- The log: Append. -/
namespace Go.Proofs.YtfjajkgfgigodaaGreatDoor
open Go

theorem ro_reads {v : Value} {xs : List Value} : Reads (ro v xs) 1 v xs.length xs := fun _ r => Arr.toN r

theorem runD_cons (b : List (Nat × List UInt8)) (x : List (List (Nat × List UInt8))) (d : Dk) : runD (b :: x) d = if (eachD b d).1 ≠ 0 then eachD b d else runD x (eachD b d).2 := rfl

theorem runD_append : ∀ (x y : List (List (Nat × List UInt8))) (d : Dk), runD (x ++ y) d = if (runD x d).1 ≠ 0 then runD x d else runD y (runD x d).2
  | [], y, d => rfl
  | b :: x, y, d => by
    rw [List.cons_append, runD_cons, runD_cons, runD_append x y]
    by_cases he : (eachD b d).1 = 0
    · simp only [he, ne_eq, not_true_eq_false, if_false]
    · simp only [he, ne_eq, not_false_eq_true, if_true]

theorem runD_q : ∀ (x : List (List (Nat × List UInt8))) (d : Dk), d.q = [] → (runD x d).1 = 0 → (runD x d).2.q = []
  | [], d, h, _ => h
  | b :: x, d, h, hr => by
    rw [runD_cons] at hr ⊢
    by_cases he : (eachD b d).1 = 0
    · rw [if_neg (by simpa using he)] at hr ⊢
      exact runD_q x _ (eachD_q b d he) hr
    · rw [if_pos he] at hr
      exact absurd hr he

theorem runD_q' {b : List (Nat × List UInt8)} {x : List (List (Nat × List UInt8))} {d : Dk} (hr : (runD (b :: x) d).1 = 0) : (runD (b :: x) d).2.q = [] := by
  rw [runD_cons] at hr ⊢
  by_cases he : (eachD b d).1 = 0
  · rw [if_neg (by simpa using he)] at hr ⊢
    exact runD_q x _ (eachD_q b d he) hr
  · rw [if_pos he] at hr
    exact absurd hr he

theorem app_strs (l : List (List UInt8)) (t : List UInt8) : strs (l ++ [t]) = strs l ++ [Value.string ⟨⟨t⟩⟩] := by simp [strs]
theorem app_len (l : List (List UInt8)) (t : List UInt8) : (l ++ [t]).length = l.length + 1 := by simp

set_option maxHeartbeats 4000000 in
set_option maxRecDepth 100000 in
theorem app1_spec (B : Base) (lp dp bl bp br : Nat) (d : Dk) (I KP : Item) (L : Lg) (lv pv : Value) (t : List UInt8) (h : Heap) (ht : TabH B.h) (hI : IsDisk dp d I) (hq : d.q.length ≤ 1000)
    (h6 : 6 ≤ L.n) (h4 : L.n ≤ 4000) (ha : L.at_ < 2) (hs : L.s.Fits) (hnum : L.s.num < 999999999) (hlen : L.s.len + (splitL t).length ≤ halfN L.n) (hll : L.list.length ≤ 10000) (hbk : L.broken = false)
    (hK : Reads KP 1 pv (splitL t).length (strs (splitL t)))
    (o : Own B [I, box lp (logC dp L lv) 74, row lv 9 1 L.list.length (strs L.list), box bl [.pointer (some ⟨lp, 0, none⟩)] 29, box bp [pv] 22, box br [.string ⟨⟨t⟩⟩] 9, KP] h) :
    Spec Tryz.prog 63 [.pointer (some ⟨bl, 0, none⟩), .pointer (some ⟨bp, 0, none⟩), .pointer (some ⟨br, 0, none⟩)] h
      (Ends (fun v h' => (runD (appB L t) d).1 = 0 ∧ v = .tuple #[] ∧ ∃ I' lv', IsDisk dp (runD (appB L t) d).2 I' ∧ Own B [I', box lp (logC dp ⟨appS L t, L.n, 0, L.list ++ [t], false⟩ lv') 74, row lv' 9 1 (L.list ++ [t]).length (strs (L.list ++ [t])), box bl [.pointer (some ⟨lp, 0, none⟩)] 29, box bp [pv] 22, box br [.string ⟨⟨t⟩⟩] 9, KP] h')
        (fun c h' => (runD (appB L t) d).1 ≠ 0 ∧ c = mustC (runD (appB L t) d).1 ∧ ∃ I' cs', cs'.length = 8 ∧ IsDisk dp (runD (appB L t) d).2 I' ∧ Own B [I', box lp cs' 74, row lv 9 1 L.list.length (strs L.list), box bl [.pointer (some ⟨lp, 0, none⟩)] 29, box bp [pv] 22, box br [.string ⟨⟨t⟩⟩] 9, KP] h')) := by
  obtain ⟨la, lc, rfl⟩ := o.rowIs 2 rfl
  obtain ⟨pa, pc, rfl⟩ := hK.isS (o.satK 6 rfl)
  have hst := start_le L.n L.s.gen h6
  have hgen := hs.gen
  have hb4 : ∀ (i : Nat) (b : List UInt8), (splitL t)[i]? = some b → b.length ≤ 40 := fun i b hb => ((split_shape t).2 i b hb).1
  have hap : appB L t = [blanks (List.range' (startN L.n L.s.gen + L.s.len) (splitL t).length), datas L.s.gen (startN L.n L.s.gen + L.s.len) (splitL t)] ++ [headW (1 - L.at_) (L.with L.s.gen (L.s.len + (splitL t).length)).s, headW L.at_ (L.with L.s.gen (L.s.len + (splitL t).length)).s] := rfl
  rw [hap, runD_append]
  refine Spec.enter Tryz.func63 rfl Tryz.ntmps63 (by kernel_rfl) ?_
  refine DrawVC.intro [3, 4, 5, 9, 10, 11, 13, 15, 16, 17] [0, 1, 2, 6, 8, 12, 14, 18, 19] [20] [0, 1, 2, 3, 4, 5, 6, 8, 9, 10, 11, 12, 14, 15, 16, 17, 18, 19, 7, 13, 20] mixed (by kernel_rfl) rfl (fun _ _ _ _ h => h) ?_
  refine StillVC.loadO o 3 rfl ty29 rfl rfl ?_
  refine StillVC.loadO o 3 rfl ty29 rfl rfl ?_
  refine StillVC.loadO o 3 rfl ty29 rfl rfl ?_
  refine StillVC.nilCheck rfl ?_
  refine StillVC.fieldAddr st74 rfl rfl rfl ?_
  refine StillVC.fieldAddr st72 rfl rfl rfl ?_
  refine StillVC.loadO o 1 rfl ty3 rfl rfl ?_
  refine StillVC.loadO o 3 rfl ty29 rfl rfl ?_
  refine StillVC.nilCheck rfl ?_
  refine StillVC.fieldAddr st74 rfl rfl rfl ?_
  refine StillVC.fieldAddr st72 rfl rfl rfl ?_
  refine StillVC.loadO o 1 rfl ty3 rfl rfl ?_
  refine StillVC.loadO o 3 rfl ty29 rfl rfl ?_
  refine StillVC.nilCheck rfl ?_
  refine StillVC.fieldAddr st74 rfl rfl rfl ?_
  refine StillVC.fieldAddr st72 rfl rfl rfl ?_
  refine StillVC.loadO o 1 rfl ty3 rfl rfl ?_
  refine StillVC.loadO o 4 rfl ty22 rfl rfl ?_
  refine CallVC.ret (start_spec' lp L.n L.s.gen _ (o.cellB 1 rfl 4) (by omega) h4 (by omega)) ?_
  rintro _ h1 ⟨rfl, oc⟩
  (refine And.intro oc.ext ?_; have o40 := Own.call o oc; simp only [List.cons_append, List.nil_append] at o40; clear oc)
  refine Ar.i64 (by omega) (by omega) ?_
  have e1 : (startN L.n L.s.gen : Int) + (L.s.len : Int) = ((startN L.n L.s.gen + L.s.len : Nat) : Int) := by omega
  rw [e1]
  refine CallVC.ends (write_spec' ⟨B.h, pick [I, box lp (logC dp L (.slice la L.list.length lc)) 74, row (.slice la L.list.length lc) 9 1 L.list.length (strs L.list), box bl [.pointer (some ⟨lp, 0, none⟩)] 29, box bp [.slice pa (splitL t).length pc] 22, box br [.string ⟨⟨t⟩⟩] 9, KP] [2, 3, 4, 5] ++ B.T⟩ lp dp L.s.gen (startN L.n L.s.gen + L.s.len) d I KP L _ _ (splitL t) _ (by omega) (by omega) hb4 hK hI hq (o40.lend [0, 1, 6] [2, 3, 4, 5] rfl)) ?_ ?_
  · rintro v h2 ⟨he, rfl, I2, hI2, oc⟩
    have o2 : Own B [I2, box lp (logC dp L (.slice la L.list.length lc)) 74, KP, row (.slice la L.list.length lc) 9 1 L.list.length (strs L.list), box bl [.pointer (some ⟨lp, 0, none⟩)] 29, box bp [.slice pa (splitL t).length pc] 22, box br [.string ⟨⟨t⟩⟩] 9] h2 := oc.back
    clear oc o40 o
    rw [if_neg (by simpa using he)]
    have hq2 := runD_q' he
    generalize (runD [blanks (List.range' (startN L.n L.s.gen + L.s.len) (splitL t).length), datas L.s.gen (startN L.n L.s.gen + L.s.len) (splitL t)] d).2 = d2 at hI2 hq2 ⊢
    refine DrawVC.intro [2, 3, 4, 7, 8, 9, 12, 13] [0, 1, 5, 6, 10, 11] [14] [0, 1, 2, 3, 4, 5, 6, 7, 8, 9, 10, 11, 12, 13, 14] mixed (by kernel_rfl) rfl (fun _ _ _ _ h => h) ?_
    refine StillVC.loadO o2 4 rfl ty29 rfl rfl ?_
    refine StillVC.loadO o2 4 rfl ty29 rfl rfl ?_
    refine StillVC.nilCheck rfl ?_
    refine StillVC.fieldAddr st74 rfl rfl rfl ?_
    refine StillVC.fieldAddr st72 rfl rfl rfl ?_
    refine StillVC.loadO o2 1 rfl ty3 rfl rfl ?_
    refine StillVC.loadO o2 4 rfl ty29 rfl rfl ?_
    refine StillVC.nilCheck rfl ?_
    refine StillVC.fieldAddr st74 rfl rfl rfl ?_
    refine StillVC.fieldAddr st72 rfl rfl rfl ?_
    refine StillVC.loadO o2 1 rfl ty3 rfl rfl ?_
    refine StillVC.loadO o2 5 rfl ty22 rfl rfl ?_
    refine StillVC.lenV rfl sl22 ?_
    refine Ar.i64 (by omega) (by omega) ?_
    have e2 : (L.s.len : Int) + ((splitL t).length : Int) = ((L.s.len + (splitL t).length : Nat) : Int) := by omega
    rw [e2]
    have hhl : halfN L.n ≤ 2000 := by unfold halfN; omega
    have hF : (L.with L.s.gen (L.s.len + (splitL t).length)).s.Fits := ⟨by show L.s.num + 1 < _; omega, hgen, by show L.s.len + (splitL t).length < _; omega⟩
    refine CallVC.ends (commit_spec _ lp dp L.s.gen (L.s.len + (splitL t).length) d2 I2 L _ _ (by exact ht) hF ha hI2 (by rw [hq2]; simp) (o2.lend [0, 1] [2, 3, 4, 5, 6] rfl)) ?_ ?_
    · rintro v h3 ⟨he3, rfl, I3, hI3, oc⟩
      have o3 : Own B [I3, box lp (logC dp { L.with L.s.gen (L.s.len + (splitL t).length) with at_ := 0 } (.slice la L.list.length lc)) 74, KP, row (.slice la L.list.length lc) 9 1 L.list.length (strs L.list), box bl [.pointer (some ⟨lp, 0, none⟩)] 29, box bp [.slice pa (splitL t).length pc] 22, box br [.string ⟨⟨t⟩⟩] 9] h3 := oc.back
      clear oc o2
      refine DrawVC.introMT [2, 3, 9, 10] [0, 1, 4, 6] [11] (.one 0 (.one 1 (.one 2 (.one 3 (.one 4 (.one 6 (.fork 5 7 (.one 7 (.one 8 (.one 9 (.one 10 (.one 11 .done))))) (.one 5 (.one 8 (.one 9 (.one 10 (.one 11 .done)))))))))))) mixed (by kernel_rfl) rfl (fun _ _ _ _ h => h) ?_
      refine StillVCA.loadC ty29 rfl ((o3.cellB 4 rfl _).trans rfl) ?_
      refine StillVCA.loadC ty29 rfl ((o3.cellB 4 rfl _).trans rfl) ?_
      refine StillVC.nilCheck rfl ?_
      refine StillVC.fieldAddr st74 rfl rfl rfl ?_
      refine StillVCA.loadC ty22 rfl ((o3.cellB 1 rfl _).trans rfl) ?_
      refine StillVCA.loadC ty9 rfl ((o3.cellB 6 rfl _).trans rfl) ?_
      refine And.intro ?_ ?_
      · refine CallVC.ret (clone_spec L.list _ _ (o3.rowArr 3 rfl) (by omega)) ?_
        intro v4 h4 oc
        obtain ⟨va, vc, rfl⟩ := oc.rowIs 0 rfl
        refine And.intro (.inr ⟨Ext.refl _, oc.ext⟩) ?_
        (refine RunVC.lit oc sl22 ty9 rfl rfl (by decide) (And.intro rfl ?_); intro b90 m90 o90)
        refine And.intro (.inr ⟨oc.ext, o90.ext⟩) ?_
        (refine RunVC.append o90 0 rfl sl22 ty9 (by decide) (o90.boxArr 1 rfl (by simp) (by simp)).toN (by simp [Value.oneCell']) (by simp only [maxLen]; first | omega | (simp; omega)) (by first | omega | (simp; omega)) ?_; intro v91 m91 o91)
        refine And.intro (.inr ⟨o90.ext, o91.ext⟩) ?_
        refine StillVC.nilCheck rfl ?_
        refine StillVC.fieldAddr st74 rfl rfl rfl ?_
        obtain ⟨wa, wc, rfl⟩ := o91.rowIs 0 rfl
        have o9 := Own.call o3 o91
        simp only [List.cons_append, List.nil_append] at o9
        clear o91 o3
        (refine RunVC.store o9 1 rfl ty22 rfl (by simp) (And.intro ⟨rfl, rfl⟩ ?_); intro m120 o120)
        refine RetVC.zero rfl ?_
        refine ⟨he3, rfl, I3, .slice wa (L.list.length + 1) wc, hI3, ?_⟩
        rw [app_strs, app_len, ← hbk]
        exact Own.sel (by assumption) [0, 1, 7, 4, 5, 6, 2] rfl
      · (refine RunVC.lit (Own.refl _) sl22 ty9 rfl rfl (by decide) (And.intro rfl ?_); intro b90 m90 o90)
        refine And.intro (.inr ⟨Ext.refl _, o90.ext⟩) ?_
        refine CallVC.ret (clone_spec L.list _ _ ((o3.rowArr 3 rfl).ext o90.ext) (by omega)) ?_
        intro v4 h4 oc
        obtain ⟨va, vc, rfl⟩ := oc.rowIs 0 rfl
        have o4 : Own ⟨h3, []⟩ [box b90 [.string ⟨⟨t⟩⟩] 9, row (.slice va L.list.length vc) 9 1 L.list.length (strs L.list)] h4 := Own.call o90 oc
        clear oc
        refine And.intro (.inr ⟨o90.ext, o4.ext⟩) ?_
        (refine RunVC.append o4 1 rfl sl22 ty9 (by decide) (o4.boxArr 0 rfl (by simp) (by simp)).toN (by simp [Value.oneCell']) (by simp only [maxLen]; first | omega | (simp; omega)) (by first | omega | (simp; omega)) ?_; intro v100 m100 o100)
        refine And.intro (.inr ⟨o4.ext, o100.ext⟩) ?_
        refine StillVC.nilCheck rfl ?_
        refine StillVC.fieldAddr st74 rfl rfl rfl ?_
        obtain ⟨wa, wc, rfl⟩ := o100.rowIs 1 rfl
        have o9 := Own.call o3 o100
        simp only [List.cons_append, List.nil_append] at o9
        clear o100 o3
        (refine RunVC.store o9 1 rfl ty22 rfl (by simp) (And.intro ⟨rfl, rfl⟩ ?_); intro m120 o120)
        refine RetVC.zero rfl ?_
        refine ⟨he3, rfl, I3, .slice wa (L.list.length + 1) wc, hI3, ?_⟩
        rw [app_strs, app_len, ← hbk]
        exact Own.sel (by assumption) [0, 1, 8, 4, 5, 6, 2] rfl
    · rintro c h3 ⟨he3, rfl, I3, cs, hcs, hI3, oc⟩
      have o3 : Own B [I3, box lp cs 74, KP, row (.slice la L.list.length lc) 9 1 L.list.length (strs L.list), box bl [.pointer (some ⟨lp, 0, none⟩)] 29, box bp [.slice pa (splitL t).length pc] 22, box br [.string ⟨⟨t⟩⟩] 9] h3 := oc.back
      exact ⟨he3, rfl, I3, cs, hcs, hI3, o3.sel [0, 1, 3, 4, 5, 6, 2] rfl⟩
  · rintro c h2 ⟨he, rfl, I2, cs, hcs, hI2, oc⟩
    have o2 : Own B [I2, box lp cs 74, KP, row (.slice la L.list.length lc) 9 1 L.list.length (strs L.list), box bl [.pointer (some ⟨lp, 0, none⟩)] 29, box bp [.slice pa (splitL t).length pc] 22, box br [.string ⟨⟨t⟩⟩] 9] h2 := oc.back
    rw [if_pos he]
    exact ⟨he, rfl, I2, cs, hcs, hI2, o2.sel [0, 1, 3, 4, 5, 6, 2] rfl⟩

end Go.Proofs.YtfjajkgfgigodaaGreatDoor

/- The log: Append, Records, Room. -/
namespace Go.Proofs.YtfjajkgfgigodaaGreatDoor
open Go

/-- What holds of every log. -/
structure LOK (L : Lg) : Prop where
  n6 : 6 ≤ L.n
  n4 : L.n ≤ 4000
  at2 : L.at_ < 2
  fits : L.s.Fits
  len : L.s.len = (partsL L.list).length
  half : L.s.len ≤ halfN L.n

theorem parts_ge : ∀ (l : List (List UInt8)), l.length ≤ (partsL l).length
  | [] => Nat.zero_le _
  | t :: l => by
    have h1 := parts_ge l
    have h2 := split_pos t
    have e : partsL (t :: l) = splitL t ++ partsL l := rfl
    rw [e, List.length_append, List.length_cons]
    omega

theorem LOK.list {L : Lg} (h : LOK L) : L.list.length ≤ 2000 := by
  have h1 := parts_ge L.list
  have h2 := h.len
  have h3 := h.half
  have h4 := h.n4
  unfold halfN at h3
  omega

/-- The log in memory. -/
abbrev LogI (lp dp : Nat) (L : Lg) (lv : Value) : List Item := [box lp (logC dp L lv) 74, row lv 9 1 L.list.length (strs L.list)]

/-- What an operation of the log leaves. -/
def OpPost (B : Base) (dp lp : Nat) (r : Int × Lg × Dk) : Value → Heap → Prop := fun v h' => v = .int .i64 r.1 ∧ ∃ I' lv', IsDisk dp r.2.2 I' ∧ Own B (I' :: LogI lp dp r.2.1 lv') h'

theorem appL_eq (L : Lg) (d : Dk) (t : List UInt8) : appL L d t = if L.broken = true then (12, L, d) else if 2000 < t.length then (3, L, d) else attR (splitL t).length L.s.len L ⟨appS L t, L.n, 0, L.list ++ [t], false⟩ d (runD (appB L t) d) := rfl

set_option maxHeartbeats 4000000 in
set_option maxRecDepth 100000 in
theorem append_spec (B : Base) (lp dp : Nat) (d : Dk) (I : Item) (L : Lg) (lv : Value) (t : List UInt8) (h : Heap) (ht : TabH B.h) (hI : IsDisk dp d I) (hq : d.q.length ≤ 1000) (hL : LOK L) (hnum : L.s.num < 1000000000) (htl : t.length ≤ 1000000000)
    (o : Own B (I :: LogI lp dp L lv) h) :
    SpecR Tryz.prog 26 [.pointer (some ⟨lp, 0, none⟩), .string ⟨⟨t⟩⟩] h (OpPost B dp lp (appL L d t)) := by
  obtain ⟨la, lc, rfl⟩ := o.rowIs 2 rfl
  unfold LogI at o
  rw [appL_eq]
  refine Spec.enter Tryz.func26 rfl Tryz.ntmps26 (by kernel_rfl) ?_
  (refine RunVC.boxO o rfl ?_; intro b20 m20 o20)
  (refine RunVC.boxO o20 rfl ?_; intro b21 m21 o21)
  refine StillVC.run (StillVC.loadO o21 3 rfl ty29 rfl rfl ?_)
  refine StillVC.run (StillVC.loadO o21 4 rfl ty9 rfl rfl ?_)
  (refine RunVC.lit o21 sl22 ty9 rfl rfl (by decide) (And.intro rfl ?_); intro b24 m24 o24)
  have o1 : Own B [I, box lp (logC dp L (.slice la L.list.length lc)) 74, row (.slice la L.list.length lc) 9 1 L.list.length (strs L.list), box b20 [.pointer (some ⟨lp, 0, none⟩)] 29, box b21 [.string ⟨⟨t⟩⟩] 9, box b24 [.string ⟨⟨t⟩⟩] 9] m24 := o24
  clear o24 o
  refine CallVC.ret (check_spec lp L.broken [t] _ _ (o1.cellB 1 rfl 7) (o1.boxArr 5 rfl (n := 1) rfl (Nat.le_refl _)) (by simp)) ?_
  have hany : ([t].any fun r => decide (2000 < r.length)) = decide (2000 < t.length) := by simp
  rw [hany]
  rintro _ h2 ⟨rfl, oc⟩
  have o2 := o1.ext' oc
  clear oc o1
  by_cases hbk : L.broken = true
  · rw [if_pos hbk, if_pos hbk]
    refine Br.tt ?_
    refine RetVC.one rfl ?_
    exact ⟨rfl, I, _, hI, o2.sel [0, 1, 2] rfl⟩
  rw [if_neg hbk, if_neg hbk]
  by_cases hlong : 2000 < t.length
  · rw [if_pos (by simpa using hlong), if_pos hlong]
    refine Br.tt ?_
    refine RetVC.one rfl ?_
    exact ⟨rfl, I, _, hI, o2.sel [0, 1, 2] rfl⟩
  rw [if_neg (by simpa using hlong), if_neg hlong]
  have hbk : L.broken = false := by simpa using hbk
  refine Br.ff ?_
  refine StillVC.run (StillVC.loadO o2 4 rfl ty9 rfl rfl ?_)
  refine CallVC.ret (split_spec t _ (ht.ext (Own.ext (by assumption))) (by omega)) ?_
  intro pv h3 oc
  have o3 : Own B [I, box lp (logC dp L (.slice la L.list.length lc)) 74, row (.slice la L.list.length lc) 9 1 L.list.length (strs L.list), box b20 [.pointer (some ⟨lp, 0, none⟩)] 29, box b21 [.string ⟨⟨t⟩⟩] 9, box b24 [.string ⟨⟨t⟩⟩] 9, ro pv (strs (splitL t))] h3 := Own.call (by assumption) oc
  obtain ⟨pa, pc, hpv, _⟩ := o3.roArr 6 rfl
  have hpl : (strs (splitL t)).length = (splitL t).length := by simp
  rw [hpl] at hpv
  subst hpv
  clear oc o2
  have hpk := splitL_len2 (t := t) (by omega)
  have hfl := hL.fits.len
  (refine RunVC.alloc o3 ty22 ?_; intro b60 m60 o60)
  (refine RunVC.storeL o60 7 rfl ty22 rfl (by decide) (And.intro ⟨rfl, rfl⟩ ?_); intro m61 o61)
  refine DrawVC.intro [2, 4, 5, 6, 8, 10] [0, 1, 3, 7] [9] [0, 1, 2, 3, 4, 5, 6, 7, 8, 9, 10] mixed (by kernel_rfl) rfl (fun _ _ _ _ h => h) ?_
  refine StillVC.loadO o61 3 rfl ty29 rfl rfl ?_
  refine StillVC.loadO o61 7 rfl ty22 rfl rfl ?_
  refine StillVC.lenV rfl sl22 ?_
  refine StillVC.loadO o61 3 rfl ty29 rfl rfl ?_
  refine StillVC.nilCheck rfl ?_
  refine StillVC.fieldAddr st74 rfl rfl rfl ?_
  refine StillVC.fieldAddr st72 rfl rfl rfl ?_
  refine StillVC.loadO o61 1 rfl ty3 rfl rfl ?_
  refine StillVC.makeFn ?_
  generalize hXe : sepI [box b20 [.pointer (some ⟨lp, 0, none⟩)] 29, box b60 [.slice pa (splitL t).length pc] 22, box b21 [.string ⟨⟨t⟩⟩] 9, ro (.slice pa (splitL t).length pc) (strs (splitL t))] = X
  have oX : Own B [I, box lp (logC dp L (.slice la L.list.length lc)) 74, row (.slice la L.list.length lc) 9 1 L.list.length (strs L.list), X] m61 := by
    rw [← hXe]
    exact (Own.sep (L := [box b20 [.pointer (some ⟨lp, 0, none⟩)] 29, box b60 [.slice pa (splitL t).length pc] 22, box b21 [.string ⟨⟨t⟩⟩] 9, ro (.slice pa (splitL t).length pc) (strs (splitL t))]) (M := [I, box lp (logC dp L (.slice la L.list.length lc)) 74, row (.slice la L.list.length lc) 9 1 L.list.length (strs L.list)]) (o61.sel [3, 7, 4, 6, 0, 1, 2] rfl)).sel [1, 2, 3, 0] rfl
  clear o61 o3
  have hKP : Reads (ro (.slice pa (splitL t).length pc) (strs (splitL t))) 1 (.slice pa (splitL t).length pc) (splitL t).length (strs (splitL t)) := by
    have := ro_reads (v := .slice pa (splitL t).length pc) (xs := strs (splitL t))
    rwa [hpl] at this
  refine CallVC.ret (attempt_spec B dp lp (splitL t).length L.s.len d I L ⟨appS L t, L.n, 0, L.list ++ [t], false⟩ _ 63 [.pointer (some ⟨b20, 0, none⟩), .pointer (some ⟨b60, 0, none⟩), .pointer (some ⟨b21, 0, none⟩)] X (runD (appB L t) d) _ hI oX (by omega) (by omega) (by have := hL.n6; omega) hL.n4 ?_) ?_
  · intro hlen hn9 B' h' hB' o'
    rw [← hXe] at o'
    have o7 := (Own.unsep (M := [I, box lp (logC dp L (.slice la L.list.length lc)) 74, row (.slice la L.list.length lc) 9 1 L.list.length (strs L.list)]) (o'.sel [3, 0, 1, 2] rfl)).sel [4, 5, 6, 0, 1, 2, 3] rfl
    refine (app1_spec B' lp dp b20 b60 b21 d I _ L _ _ t h' (by rw [hB']; exact ht) hI hq hL.n6 hL.n4 hL.at2 hL.fits (by omega) hlen (by have := hL.list; omega) hbk hKP o7).mono ?_
    refine Ends.mono ?_ ?_
    · rintro v h5 ⟨he, rfl, I', lv', hI', oo⟩
      refine ⟨he, rfl, I', lv', hI', ?_⟩
      rw [← hXe]
      exact (Own.sep (L := [box b20 [.pointer (some ⟨lp, 0, none⟩)] 29, box b60 [.slice pa (splitL t).length pc] 22, box b21 [.string ⟨⟨t⟩⟩] 9, ro (.slice pa (splitL t).length pc) (strs (splitL t))]) (oo.sel [3, 4, 5, 6, 0, 1, 2] rfl)).sel [1, 2, 3, 0] rfl
    · rintro c h5 ⟨he, rfl, I', cs', hcs, hI', oo⟩
      refine ⟨he, rfl, I', cs', hcs, hI', ?_⟩
      rw [← hXe]
      exact (Own.sep (L := [box b20 [.pointer (some ⟨lp, 0, none⟩)] 29, box b60 [.slice pa (splitL t).length pc] 22, box b21 [.string ⟨⟨t⟩⟩] 9, ro (.slice pa (splitL t).length pc) (strs (splitL t))]) (oo.sel [3, 4, 5, 6, 0, 1, 2] rfl)).sel [1, 2, 3, 0] rfl
  · rintro v h5 ⟨rfl, I', lv', hI', oo⟩
    refine RetVC.one rfl ?_
    exact ⟨rfl, I', lv', hI', oo.sel [0, 1, 2] rfl⟩

set_option maxHeartbeats 4000000 in
set_option maxRecDepth 100000 in
theorem records_spec (lp _n : Nat) (l : List (List UInt8)) (lv : Value) (h : Heap) (h6 : cellAt h ⟨lp, 6, none⟩ = some lv) (hA : Arr h lv (strs l)) (hl : l.length ≤ 100000) :
    SpecR Tryz.prog 23 [.pointer (some ⟨lp, 0, none⟩)] h fun v h' => Own h [row v 9 1 l.length (strs l)] h' := by
  refine Spec.enter Tryz.func23 rfl Tryz.ntmps23 (by kernel_rfl) ?_
  refine RunVC.eqP (by kernel_rfl) rfl rfl ?_
  refine Br.ff ?_
  refine StillVC.run (StillVC.nilCheck rfl ?_)
  refine StillVC.run (StillVC.fieldAddr st74 rfl rfl rfl ?_)
  refine StillVC.run (StillVC.load1 ty22 rfl (by assumption) ?_)
  refine CallVC.ret (clone_spec l lv _ hA hl) ?_
  intro v h1 oc
  refine RetVC.one rfl ?_
  exact oc

set_option maxHeartbeats 4000000 in
set_option maxRecDepth 100000 in
theorem records_nil (h : Heap) : SpecR Tryz.prog 23 [.pointer none] h fun v h' => v = .slice none 0 0 ∧ Own h [] h' := by
  refine Spec.enter Tryz.func23 rfl Tryz.ntmps23 (by kernel_rfl) ?_
  have o0 := Own.refl h
  refine RunVC.eqP (by kernel_rfl) rfl rfl ?_
  refine Br.tt ?_
  refine RetVC.one rfl ?_
  exact ⟨rfl, o0⟩

set_option maxHeartbeats 4000000 in
set_option maxRecDepth 100000 in
theorem room_spec (lp n len : Nat) (h : Heap) (h2' : cellAt h ⟨lp, 2, none⟩ = some (.int .i64 len)) (hc : cellAt h ⟨lp, 4, none⟩ = some (.int .i64 n)) (h2 : 2 ≤ n) (h4 : n ≤ 4000) (hl : len ≤ 100000) :
    SpecR Tryz.prog 28 [.pointer (some ⟨lp, 0, none⟩)] h fun v h' => v = .int .i64 ((halfN n : Int) - len) ∧ Own h [] h' := by
  refine Spec.enter Tryz.func28 rfl Tryz.ntmps28 (by kernel_rfl) ?_
  have o0 := Own.refl h
  have hh : halfN n ≤ 2000 := by unfold halfN; omega
  refine RunVC.eqP (by kernel_rfl) rfl rfl ?_
  refine Br.ff ?_
  refine DrawVC.intro [0, 2, 3, 4, 5, 7, 8] [6] [] [0, 2, 3, 4, 5, 6, 1, 7, 8] mixed (by kernel_rfl) rfl (fun _ _ _ _ h => h) ?_
  refine StillVC.nilCheck rfl ?_
  refine StillVC.fieldAddr st74 rfl rfl rfl ?_
  refine StillVC.fieldAddr st72 rfl rfl rfl ?_
  refine StillVC.load1 ty3 rfl (by assumption) ?_
  refine CallVC.ret (half_spec lp n _ hc h2 h4) ?_
  rintro _ h1 ⟨rfl, oc⟩
  have hl2 : cellAt h1 ⟨lp, 2, none⟩ = some (.int .i64 len) := oc.ext.cell h2'
  (refine And.intro oc.ext ?_; have o40 := Own.call o0 oc; simp only [List.nil_append] at o40; clear oc)
  refine Ar.i64 (by omega) (by omega) ?_
  refine RetVC.one rfl ?_
  exact ⟨rfl, by assumption⟩

set_option maxHeartbeats 4000000 in
set_option maxRecDepth 100000 in
theorem room_nil (h : Heap) : SpecR Tryz.prog 28 [.pointer none] h fun v h' => v = .int .i64 0 ∧ Own h [] h' := by
  refine Spec.enter Tryz.func28 rfl Tryz.ntmps28 (by kernel_rfl) ?_
  have o0 := Own.refl h
  refine RunVC.eqP (by kernel_rfl) rfl rfl ?_
  refine Br.tt ?_
  refine RetVC.one rfl ?_
  exact ⟨rfl, o0⟩

set_option maxHeartbeats 4000000 in
set_option maxRecDepth 100000 in
theorem append_nil (h : Heap) (t : List UInt8) : SpecR Tryz.prog 26 [.pointer none, .string ⟨⟨t⟩⟩] h fun v h' => v = .int .i64 1 ∧ Own h [] h' := by
  refine Spec.enter Tryz.func26 rfl Tryz.ntmps26 (by kernel_rfl) ?_
  have o0 := Own.refl h
  (refine RunVC.boxO o0 rfl ?_; intro b20 m20 o20)
  (refine RunVC.boxO o20 rfl ?_; intro b21 m21 o21)
  refine StillVC.run (StillVC.loadO o21 0 rfl ty29 rfl rfl ?_)
  refine StillVC.run (StillVC.loadO o21 1 rfl ty9 rfl rfl ?_)
  (refine RunVC.lit o21 sl22 ty9 rfl rfl (by decide) (And.intro rfl ?_); intro b24 m24 o24)
  refine CallVC.ret (check_nil _ _) ?_
  rintro _ h1 ⟨rfl, oc⟩
  have o1 := oc.thenE (by assumption : Own ⟨h, []⟩ _ _)
  clear oc
  refine Br.tt ?_
  refine RetVC.one rfl ?_
  exact ⟨rfl, o1.sel [] rfl⟩

end Go.Proofs.YtfjajkgfgigodaaGreatDoor

/- The log: Rewrite. -/
namespace Go.Proofs.YtfjajkgfgigodaaGreatDoor
open Go

theorem zip_blanks' (ss : List Nat) : ss.zip (List.replicate ss.length zS) = blanks ss := by
  induction ss with
  | nil => rfl
  | cons a ss ih =>
    show (a, zS) :: ss.zip (List.replicate ss.length zS) = _
    rw [ih]
    rfl

/-- What an item and the base let be read. -/
def RD (hB : Heap) (K : Item) (v : Value) (l : List (List UInt8)) : Prop := ∀ (B : Base) (h : Heap), B.h = hB → Own B [K] h → Arr h v (strs l)

theorem RD.row {hB : Heap} {v : Value} {n : Nat} {e : TypeId} {l : List (List UInt8)} : RD hB (Go.Proofs.YtfjajkgfgigodaaGreatDoor.row v e 1 n (strs l)) v l := fun _ _ _ o => o.rowArr 0 rfl

theorem RD.base {hB : Heap} {v : Value} {l : List (List UInt8)} (h : Arr hB v (strs l)) : RD hB emptyI v l := fun B _ e o => h.ext (by rw [← e]; exact o.ext)

theorem rest_step (s frm k : Nat) : restS (s + 1) frm k = restS s frm k ++ (if 2 ≤ s ∧ (s < frm ∨ frm + k ≤ s) then [s] else []) := by
  unfold restS
  rw [List.range_succ, List.filter_append]
  congr 1
  by_cases h : 2 ≤ s ∧ (s < frm ∨ frm + k ≤ s)
  · rw [if_pos h]
    have : (decide (2 ≤ s) && (decide (s < frm) || decide (frm + k ≤ s))) = true := by simpa using h
    simp [this]
  · rw [if_neg h]
    have : (decide (2 ≤ s) && (decide (s < frm) || decide (frm + k ≤ s))) = false := by simpa using h
    simp [this]

theorem rest_le (s frm k : Nat) : (restS s frm k).length ≤ s := by
  unfold restS
  have := List.length_filter_le (fun i => decide (2 ≤ i) && (decide (i < frm) || decide (frm + k ≤ i))) (List.range s)
  simpa using this

theorem nats_snoc (l : List Nat) (s : Nat) : natsV (l ++ [s]) = natsV l ++ [Value.int .i64 (s : Int)] := by simp

/-- The memory of a rewrite. -/
abbrev RwI (lp bl bp br : Nat) (cs : List Value) (lv pv rv : Value) (l : List (List UInt8)) (k : Nat) (ps : List (List UInt8)) (KR : Item) : List Item :=
  [box lp cs 74, row lv 9 1 l.length (strs l), box bl [.pointer (some ⟨lp, 0, none⟩)] 29, box bp [pv] 22, box br [rv] 22, row pv 9 1 k (strs ps), KR]

set_option maxHeartbeats 4000000 in
set_option maxRecDepth 100000 in
theorem rew1_spec (B : Base) (lp dp bl bp br : Nat) (d : Dk) (I KR : Item) (L : Lg) (lv pv rv : Value) (rs : List (List UInt8)) (h : Heap) (ht : TabH B.h) (hI : IsDisk dp d I) (hq : d.q.length ≤ 1000)
    (h6 : 6 ≤ L.n) (h4 : L.n ≤ 4000) (ha : L.at_ < 2) (_hs : L.s.Fits) (hnum : L.s.num < 999999999) (hgen : L.s.gen < 999999) (hlen : (partsL rs).length ≤ halfN L.n) (hrs : rs.length ≤ 10000) (hbk : L.broken = false)
    (hR : RD B.h KR rv rs)
    (o : Own B (I :: RwI lp bl bp br (logC dp L lv) lv pv rv L.list (partsL rs).length (partsL rs) KR) h) :
    Spec Tryz.prog 54 [.pointer (some ⟨bl, 0, none⟩), .pointer (some ⟨bp, 0, none⟩), .pointer (some ⟨br, 0, none⟩)] h
      (Ends (fun v h' => (runD (rewB L rs) d).1 = 0 ∧ v = .tuple #[] ∧ ∃ I' lv', IsDisk dp (runD (rewB L rs) d).2 I' ∧ Own B (I' :: RwI lp bl bp br (logC dp ⟨rewS L rs, L.n, 0, rs, false⟩ lv') lv' pv rv rs (partsL rs).length (partsL rs) KR) h')
        (fun c h' => (runD (rewB L rs) d).1 ≠ 0 ∧ c = mustC (runD (rewB L rs) d).1 ∧ ∃ I' cs', cs'.length = 8 ∧ IsDisk dp (runD (rewB L rs) d).2 I' ∧ Own B (I' :: RwI lp bl bp br cs' lv pv rv L.list (partsL rs).length (partsL rs) KR) h')) := by
  unfold RwI at o ⊢
  obtain ⟨la, lc, rfl⟩ := o.rowIs 2 rfl
  obtain ⟨pa, pc, rfl⟩ := o.rowIs 6 rfl
  have hpl : (strs (partsL rs)).length = (partsL rs).length := by simp
  have hb4 : ∀ (i : Nat) (b : List UInt8), (partsL rs)[i]? = some b → b.length ≤ 40 := fun i b hb => parts_len rs hb
  have hst := start_le L.n (L.s.gen + 1) h6
  generalize hfrm : startN L.n (L.s.gen + 1) = frm at hst
  generalize hk : (partsL rs).length = k at o hlen hpl ⊢
  have hap : rewB L rs = [blanks (List.range' frm k), datas (L.s.gen + 1) frm (partsL rs)] ++ ([headW (1 - L.at_) (L.with (L.s.gen + 1) k).s, headW L.at_ (L.with (L.s.gen + 1) k).s] ++ [blanks (restS L.n frm k), blanks (restS L.n frm k), headW 0 (rewS L rs), headW 1 (rewS L rs)]) := by
    rw [← hfrm, ← hk]
    rfl
  rw [hap, runD_append]
  refine Spec.enter Tryz.func54 rfl Tryz.ntmps54 (by kernel_rfl) ?_
  have eg : (L.s.gen : Int) + 1 = ((L.s.gen + 1 : Nat) : Int) := by omega
  have hhl : halfN L.n ≤ 2000 := by unfold halfN; omega
  have hF : (L.with (L.s.gen + 1) k).s.Fits := ⟨by show L.s.num + 1 < _; omega, by show L.s.gen + 1 < _; omega, by show k < _; omega⟩
  refine StillVC.run (StillVC.loadO o 3 rfl ty29 rfl rfl ?_)
  refine StillVC.run (StillVC.nilCheck rfl ?_)
  refine StillVC.run (StillVC.fieldAddr st74 rfl rfl rfl ?_)
  refine StillVC.run (StillVC.fieldAddr st72 rfl rfl rfl ?_)
  refine StillVC.run (StillVC.loadO o 1 rfl ty3 rfl rfl ?_)
  refine Ar.i64 (by omega) (by omega) ?_
  refine StillVC.run (StillVC.loadO o 3 rfl ty29 rfl rfl ?_)
  rw [eg]
  refine CallVC.ret (start_spec' lp L.n (L.s.gen + 1) _ (o.cellB 1 rfl 4) (by omega) h4 (by omega)) ?_
  rw [hfrm]
  rintro _ h1 ⟨rfl, oc⟩
  have o1 := o.ext' oc
  clear oc o
  refine StillVC.run (StillVC.loadO o1 3 rfl ty29 rfl rfl ?_)
  refine StillVC.run (StillVC.loadO o1 4 rfl ty22 rfl rfl ?_)
  subst hk
  refine CallVC.ends (write_spec' _ lp dp (L.s.gen + 1) frm d I _ L _ _ (partsL rs) _ (by omega) (by omega) hb4 row_reads hI hq (o1.lend [0, 1, 6] [2, 3, 4, 5, 7] rfl)) ?_ ?_
  · rintro v h2 ⟨he, rfl, I2, hI2, oc⟩
    have o2 := oc.back.sel [0, 1, 3, 4, 5, 6, 2, 7] rfl
    simp only [pick, List.cons_append, List.nil_append, List.getElem?_cons_succ, List.getElem?_cons_zero] at o2
    clear oc o1
    rw [if_neg (by simpa using he)]
    have hq2 := runD_q' he
    generalize (runD [blanks (List.range' frm (partsL rs).length), datas (L.s.gen + 1) frm (partsL rs)] d).2 = d2 at hI2 hq2 ⊢
    rw [runD_append]
    refine StillVC.run (StillVC.loadO o2 3 rfl ty29 rfl rfl ?_)
    refine StillVC.run (StillVC.loadO o2 4 rfl ty22 rfl rfl ?_)
    refine StillVC.run (StillVC.lenV rfl sl22 ?_)
    refine CallVC.ends (commit_spec _ lp dp (L.s.gen + 1) (partsL rs).length d2 I2 L _ _ (by exact ht) hF ha hI2 (by rw [hq2]; simp) (o2.lend [0, 1] [2, 3, 4, 5, 6, 7] rfl)) ?_ ?_
    · rintro v h3 ⟨he3, rfl, I3, hI3, oc⟩
      have o3 := oc.back
      simp only [pick, List.cons_append, List.nil_append, List.getElem?_cons_succ, List.getElem?_cons_zero] at o3
      clear oc o2
      rw [if_neg (by simpa using he3)]
      have hq3 := runD_q' he3
      generalize (runD [headW (1 - L.at_) (L.with (L.s.gen + 1) (partsL rs).length).s, headW L.at_ (L.with (L.s.gen + 1) (partsL rs).length).s] d2).2 = d3 at hI3 hq3 ⊢
      generalize hL3 : ({ L.with (L.s.gen + 1) (partsL rs).length with at_ := 0 } : Lg) = L3 at o3
      have hs3 : L3.s = rewS L rs := by rw [← hL3]; rfl
      have hn3 : L3.n = L.n := by rw [← hL3]; rfl
      have o4 := o3.nilRow 3 1
      simp only [List.cons_append, List.nil_append] at o4
      clear o3
      refine LoopVC.intro [5, 6, 26, 27, 28, 29, 30, 31, 32, 33, 34, 35, 36, 37, 38, 39, 40, 41, 42, 43, 44, 45, 46, 47, 48] [5, 6] (fun vs hh => ∃ (s : Nat) (v5 : Value), 2 ≤ s ∧ s ≤ L.n ∧ vs = [v5, .int .i64 s] ∧ Own B [I3, box lp (logC dp L3 (.slice la L.list.length lc)) 74, row (.slice la L.list.length lc) 9 1 L.list.length (strs L.list), box bl [.pointer (some ⟨lp, 0, none⟩)] 29, box bp [.slice pa (partsL rs).length pc] 22, box br [rv] 22, row (.slice pa (partsL rs).length pc) 9 1 (partsL rs).length (strs (partsL rs)), KR, row v5 3 1 (restS s frm (partsL rs).length).length (natsV (restS s frm (partsL rs).length))] hh) (fun vs _ => match vs with | [_, .int _ i] => L.n - i.toNat | _ => 0) ?_ ?_
      · exact ⟨2, _, by omega, by omega, rfl, o4⟩
      · clear o4
        rintro vs junk hh ⟨s, v5, hs2, hsn, rfl, o⟩
        obtain ⟨xa, xc, rfl⟩ := o.rowIs 8 rfl
        have hrl := rest_le s frm (partsL rs).length
        have hrn : (natsV (restS s frm (partsL rs).length)).length = (restS s frm (partsL rs).length).length := by simp
        have hstep := rest_step s frm (partsL rs).length
        by_cases hlt : s < L.n
        · have hlt3 : s < L3.n := by rw [hn3]; exact hlt
          by_cases h1 : s < frm
          · rw [if_pos ⟨hs2, .inl h1⟩] at hstep
            refine StillVC.run (StillVC.loadO o 3 rfl ty29 rfl rfl ?_)
            refine StillVC.run (StillVC.nilCheck rfl ?_)
            refine StillVC.run (StillVC.fieldAddr st74 rfl rfl rfl ?_)
            refine StillVC.run (StillVC.loadO o 1 rfl ty3 rfl rfl ?_)
            refine Br.dec (fun c104 => ?_) (fun hc => absurd (by omega) hc)
            refine Br.dec (fun c105 => ?_) (fun hc => absurd (by omega) hc)
            refine Br.tt ?_
            (refine RunVC.lit o sl84 ty3 rfl rfl (by decide) (And.intro rfl ?_); intro b106 m106 o106)
            (refine RunVC.append o106 8 rfl sl84 ty3 (by decide) (o106.boxArr 9 rfl (by simp) (by simp)).toN (by simp [Value.oneCell']) (by simp only [maxLen]; first | omega | (simp; omega)) (by first | omega | (simp; omega)) ?_; intro v107 m107 o107)
            refine Ar.i64 (by omega) (by omega) ?_
            refine ⟨rfl, ?_⟩
            refine ⟨⟨s + 1, v107, by omega, by omega, by simp, ?_⟩, by simp only; omega⟩
            rw [hstep, nats_snoc, List.length_append]
            exact Own.sel o107 [0, 1, 2, 3, 4, 5, 6, 7, 8] rfl
          · by_cases h2 : frm + (partsL rs).length ≤ s
            · rw [if_pos ⟨hs2, .inr h2⟩] at hstep
              refine StillVC.run (StillVC.loadO o 3 rfl ty29 rfl rfl ?_)
              refine StillVC.run (StillVC.nilCheck rfl ?_)
              refine StillVC.run (StillVC.fieldAddr st74 rfl rfl rfl ?_)
              refine StillVC.run (StillVC.loadO o 1 rfl ty3 rfl rfl ?_)
              refine Br.dec (fun c104 => ?_) (fun hc => absurd (by omega) hc)
              refine Br.dec (fun hc => absurd hc (by omega)) (fun c105 => ?_)
              refine StillVC.run (StillVC.loadO o 4 rfl ty22 rfl rfl ?_)
              refine StillVC.run (StillVC.lenV rfl sl22 ?_)
              refine Ar.i64 (by omega) (by omega) ?_
              refine Br.dec (fun c108 => ?_) (fun hc => absurd (by omega) hc)
              (refine RunVC.lit o sl84 ty3 rfl rfl (by decide) (And.intro rfl ?_); intro b109 m109 o109)
              (refine RunVC.append o109 8 rfl sl84 ty3 (by decide) (o109.boxArr 9 rfl (by simp) (by simp)).toN (by simp [Value.oneCell']) (by simp only [maxLen]; first | omega | (simp; omega)) (by first | omega | (simp; omega)) ?_; intro v110 m110 o110)
              refine Ar.i64 (by omega) (by omega) ?_
              refine ⟨rfl, ?_⟩
              refine ⟨⟨s + 1, v110, by omega, by omega, by simp, ?_⟩, by simp only; omega⟩
              rw [hstep, nats_snoc, List.length_append]
              exact Own.sel o110 [0, 1, 2, 3, 4, 5, 6, 7, 8] rfl
            · rw [if_neg (by omega), List.append_nil] at hstep
              refine StillVC.run (StillVC.loadO o 3 rfl ty29 rfl rfl ?_)
              refine StillVC.run (StillVC.nilCheck rfl ?_)
              refine StillVC.run (StillVC.fieldAddr st74 rfl rfl rfl ?_)
              refine StillVC.run (StillVC.loadO o 1 rfl ty3 rfl rfl ?_)
              refine Br.dec (fun c104 => ?_) (fun hc => absurd (by omega) hc)
              refine Br.dec (fun hc => absurd hc (by omega)) (fun c105 => ?_)
              refine StillVC.run (StillVC.loadO o 4 rfl ty22 rfl rfl ?_)
              refine StillVC.run (StillVC.lenV rfl sl22 ?_)
              refine Ar.i64 (by omega) (by omega) ?_
              refine Br.dec (fun hc => absurd hc (by omega)) (fun c108 => ?_)
              refine Ar.i64 (by omega) (by omega) ?_
              refine ⟨rfl, ?_⟩
              refine ⟨⟨s + 1, _, by omega, by omega, rfl, ?_⟩, by simp only; omega⟩
              rw [hstep]
              exact o
        · have hlt3 : ¬ s < L3.n := by rw [hn3]; exact hlt
          obtain rfl : s = L.n := by omega
          clear hstep
          generalize hre : restS L.n frm (partsL rs).length = re at o hrl hrn ⊢
          generalize hXe : sepI [box lp (logC dp L3 (.slice la L.list.length lc)) 74, row (.slice la L.list.length lc) 9 1 L.list.length (strs L.list), box bl [.pointer (some ⟨lp, 0, none⟩)] 29, box bp [.slice pa (partsL rs).length pc] 22, box br [rv] 22, row (.slice pa (partsL rs).length pc) 9 1 (partsL rs).length (strs (partsL rs)), KR, row (.slice xa re.length xc) 3 1 re.length (natsV re)] = X
          have oX : Own B [I3, X] hh := by rw [← hXe]; exact (Own.sep (M := [I3]) (o.sel [1, 2, 3, 4, 5, 6, 7, 8, 0] rfl)).sel [1, 0] rfl
          clear o
          have back : ∀ {I' : Item} {h' : Heap}, Own B [I', X] h' → Own B [I', box lp (logC dp L3 (.slice la L.list.length lc)) 74, row (.slice la L.list.length lc) 9 1 L.list.length (strs L.list), box bl [.pointer (some ⟨lp, 0, none⟩)] 29, box bp [.slice pa (partsL rs).length pc] 22, box br [rv] 22, row (.slice pa (partsL rs).length pc) 9 1 (partsL rs).length (strs (partsL rs)), KR] h' := fun {I' h'} oo => by
            rw [← hXe] at oo
            exact (Own.unsep (M := [I']) (oo.sel [1, 0] rfl)).sel [8, 0, 1, 2, 3, 4, 5, 6] rfl
          have hcd : ∀ h, X.sat h → cellAt h ⟨lp, 3, none⟩ = some (.pointer (some ⟨dp, 0, none⟩)) := by
            intro h hx
            rw [← hXe] at hx
            have hb : h[lp]? = some (.cells (logC dp L3 (.slice la L.list.length lc)).toArray 74 (0, 0)) := hx.1 _ List.mem_cons_self
            simp [cellAt, hb]
          have hbl : ∀ h, X.sat h → cellAt h ⟨bl, 0, none⟩ = some (.pointer (some ⟨lp, 0, none⟩)) := by
            intro h hx
            rw [← hXe] at hx
            have hb : h[bl]? = some (.cells [.pointer (some ⟨lp, 0, none⟩)].toArray 29 (0, 0)) := hx.1 (box bl [.pointer (some ⟨lp, 0, none⟩)] 29) (by simp)
            simp [cellAt, hb]
          have hSr : Reads X 1 (.slice xa re.length xc) re.length (natsV re) := by
            rw [← hXe]
            exact Reads.sep (I := row (.slice xa re.length xc) 3 1 re.length (natsV re)) (by simp) row_reads
          have hTx : TextOK B X 58 [.pointer (some ⟨lp, 0, none⟩)] [] (List.replicate re.length zS) := by
            intro h oo i t ht'
            rw [(List.mem_replicate.1 (List.mem_of_getElem? ht')).2]
            exact blank_spec lp i h
          have hTl : ∀ t ∈ List.replicate re.length zS, t.length ≤ 1000000 := by
            intro t ht'
            rw [(List.mem_replicate.1 ht').2]
            decide
          have hbl0 := hbl _ (oX.satK 1 rfl)
          have hsec : cellAt hh ⟨lp, 4, none⟩ = some (.int .i64 L3.n) := (back oX).cellB 1 rfl 4
          rw [runD_cons, ← zip_blanks' re]
          refine StillVC.run (StillVC.load1 ty29 rfl (by assumption) ?_)
          refine StillVC.run (StillVC.nilCheck rfl ?_)
          refine StillVC.run (StillVC.fieldAddr st74 rfl rfl rfl ?_)
          refine StillVC.run (StillVC.load1 ty3 rfl (by assumption) ?_)
          refine Br.dec (fun hc => absurd hc (by omega)) (fun c104 => ?_)
          refine StillVC.run (StillVC.load1 ty29 rfl (by assumption) ?_)
          refine StillVC.run (StillVC.load1 ty29 rfl (by assumption) ?_)
          refine StillVC.run (StillVC.makeFn ?_)
          refine CallVC.ends (each_spec B lp dp d3 I3 X _ 58 [.pointer (some ⟨lp, 0, none⟩)] [] re (List.replicate re.length zS) _ hI3 oX hcd hSr hTx (by simp) (by omega) (by rw [hq3]; simp) hTl) ?_ ?_
          · rintro v h5 ⟨he5, rfl, I5, hI5, o5⟩
            rw [if_neg (by simpa using he5)]
            have hq5 := eachD_q _ _ he5
            generalize (eachD (re.zip (List.replicate re.length zS)) d3).2 = d5 at hI5 hq5 ⊢
            have hbl5 := hbl _ (o5.satK 1 rfl)
            rw [runD_cons]
            clear oX hbl0
            refine StillVC.run (StillVC.load1 ty29 rfl (by assumption) ?_)
            refine StillVC.run (StillVC.load1 ty29 rfl (by assumption) ?_)
            refine StillVC.run (StillVC.makeFn ?_)
            refine CallVC.ends (each_spec B lp dp d5 I5 X _ 58 [.pointer (some ⟨lp, 0, none⟩)] [] re (List.replicate re.length zS) _ hI5 o5 hcd hSr hTx (by simp) (by omega) (by rw [hq5]; simp) hTl) ?_ ?_
            · rintro v h6' ⟨he6, rfl, I6, hI6, o6⟩
              rw [if_neg (by simpa using he6)]
              have hq6 := eachD_q _ _ he6
              generalize (eachD (re.zip (List.replicate re.length zS)) d5).2 = d6 at hI6 hq6 ⊢
              have o7 := back o6
              clear o5 o6 hbl5 back hcd hbl hSr hTx hXe
              rw [runD_cons, ← hs3]
              refine StillVC.run (StillVC.loadO o7 3 rfl ty29 rfl rfl ?_)
              refine CallVC.ends (head_spec _ lp dp 0 d6 I6 L3 _ _ (by exact ht) (by rw [hs3]; exact hF) (by omega) hI6 (by rw [hq6]; simp) (o7.lend [0, 1] [2, 3, 4, 5, 6, 7] rfl)) ?_ ?_
              · rintro v h8 ⟨he8, rfl, I8, hI8, oc⟩
                have o8 := oc.back
                simp only [pick, List.cons_append, List.nil_append, List.getElem?_cons_succ, List.getElem?_cons_zero] at o8
                clear oc o7
                rw [if_neg (by simpa using he8)]
                have hq8 := eachD_q _ _ he8
                generalize (eachD (headW 0 L3.s) d6).2 = d8 at hI8 hq8 ⊢
                rw [runD_cons]
                refine StillVC.run (StillVC.loadO o8 3 rfl ty29 rfl rfl ?_)
                refine CallVC.ends (head_spec _ lp dp 1 d8 I8 L3 _ _ (by exact ht) (by rw [hs3]; exact hF) (by omega) hI8 (by rw [hq8]; simp) (o8.lend [0, 1] [2, 3, 4, 5, 6, 7] rfl)) ?_ ?_
                · rintro v h9 ⟨he9, rfl, I9, hI9, oc⟩
                  have o9 := oc.back
                  simp only [pick, List.cons_append, List.nil_append, List.getElem?_cons_succ, List.getElem?_cons_zero] at o9
                  clear oc o8
                  rw [if_neg (by simpa using he9)]
                  have hRd := hR B h9 rfl (o9.sel [7] rfl)
                  obtain ⟨ra, rc, hrv, _⟩ := hRd
                  have hrl2 : (strs rs).length = rs.length := by simp
                  rw [hrl2] at hrv
                  subst hrv
                  refine DrawVC.intro [3, 4] [0, 1] [5] [0, 1, 2, 3, 4, 5] mixed (by kernel_rfl) rfl (fun _ _ _ _ h => h) ?_
                  refine StillVC.loadO o9 3 rfl ty29 rfl rfl ?_
                  refine StillVC.loadO o9 5 rfl ty22 rfl rfl ?_
                  refine CallVC.ret (clone_spec rs _ _ (hR B _ rfl (o9.sel [7] rfl)) (by omega)) ?_
                  intro v4 h10 oc
                  obtain ⟨va, vc, rfl⟩ := oc.rowIs 0 rfl
                  (refine And.intro oc.ext ?_; have o200 := Own.call o9 oc; simp only [List.cons_append, List.nil_append] at o200; clear oc)
                  refine StillVC.nilCheck rfl ?_
                  refine StillVC.fieldAddr st74 rfl rfl rfl ?_
                  (refine RunVC.store o200 1 rfl ty22 rfl (by simp) (And.intro ⟨rfl, rfl⟩ ?_); intro m203 o203)
                  refine RetVC.zero rfl ?_
                  refine ⟨rfl, rfl, I9, .slice va rs.length vc, hI9, ?_⟩
                  subst hL3
                  rw [← hbk]
                  exact Own.sel (by assumption) [0, 1, 8, 3, 4, 5, 6, 7] rfl
                · rintro c h9 ⟨he9, rfl, I9, cs9, hcs9, hI9, oc⟩
                  rw [if_pos he9]
                  exact ⟨he9, rfl, I9, cs9, hcs9, hI9, oc.back.sel [0, 1, 2, 3, 4, 5, 6, 7] rfl⟩
              · rintro c h8 ⟨he8, rfl, I8, cs8, hcs8, hI8, oc⟩
                rw [if_pos he8]
                exact ⟨he8, rfl, I8, cs8, hcs8, hI8, oc.back.sel [0, 1, 2, 3, 4, 5, 6, 7] rfl⟩
            · rintro c h6' ⟨he6, rfl, I6, hI6, o6⟩
              rw [if_pos he6]
              exact ⟨he6, rfl, I6, _, rfl, hI6, back o6⟩
          · rintro c h5 ⟨he5, rfl, I5, hI5, o5⟩
            rw [if_pos he5]
            exact ⟨he5, rfl, I5, _, rfl, hI5, back o5⟩
    · rintro c h3 ⟨he3, rfl, I3, cs, hcs, hI3, oc⟩
      rw [if_pos he3]
      exact ⟨he3, rfl, I3, cs, hcs, hI3, oc.back.sel [0, 1, 2, 3, 4, 5, 6, 7] rfl⟩
  · rintro c h2 ⟨he, rfl, I2, cs, hcs, hI2, oc⟩
    rw [if_pos he]
    exact ⟨he, rfl, I2, cs, hcs, hI2, oc.back.sel [0, 1, 3, 4, 5, 6, 2, 7] rfl⟩

end Go.Proofs.YtfjajkgfgigodaaGreatDoor

/- The log: Rewrite. -/
namespace Go.Proofs.YtfjajkgfgigodaaGreatDoor
open Go

theorem rewL_eq (L : Lg) (d : Dk) (rs : List (List UInt8)) : rewL L d rs = if L.broken = true then (12, L, d) else if (rs.any fun r => decide (2000 < r.length)) = true then (3, L, d) else if L.s.gen = 999999 then (18, L, d) else
    attR (partsL rs).length 0 L ⟨rewS L rs, L.n, 0, rs, false⟩ d (runD (rewB L rs) d) := by
  unfold rewL attR
  rw [Nat.zero_add]

theorem strs_append (a b : List (List UInt8)) : strs (a ++ b) = strs a ++ strs b := by simp [strs]

theorem parts_take (rs : List (List UInt8)) (i : Nat) : (partsL (rs.take i)).length ≤ (partsL rs).length := by
  conv => rhs; rw [← List.take_append_drop i rs, parts_append, List.length_append]
  omega

set_option maxHeartbeats 4000000 in
set_option maxRecDepth 100000 in
theorem rewrite_spec (B : Base) (lp dp : Nat) (d : Dk) (I KR : Item) (L : Lg) (lv rv : Value) (rs : List (List UInt8)) (h : Heap) (ht : TabH B.h) (hI : IsDisk dp d I) (hq : d.q.length ≤ 1000) (hL : LOK L) (hrs : rs.length ≤ 10000) (hps : (partsL rs).length ≤ 1000000) (hrl : ∀ r ∈ rs, r.length ≤ 1000000000)
    (hR : RD B.h KR rv rs) (o : Own B ((I :: LogI lp dp L lv) ++ [KR]) h) :
    SpecR Tryz.prog 16 [.pointer (some ⟨lp, 0, none⟩), rv] h fun v h' => v = .int .i64 (rewL L d rs).1 ∧ ∃ I' lv', IsDisk dp (rewL L d rs).2.2 I' ∧ Own B ((I' :: LogI lp dp (rewL L d rs).2.1 lv') ++ [KR]) h' := by
  unfold LogI at o ⊢
  simp only [List.cons_append, List.nil_append] at o ⊢
  obtain ⟨la, lc, rfl⟩ := o.rowIs 2 rfl
  obtain ⟨ra, rc, hrv, _⟩ := hR B h rfl (o.sel [3] rfl)
  have hsl : (strs rs).length = rs.length := by simp
  rw [hsl] at hrv
  subst hrv
  rw [rewL_eq]
  refine Spec.enter Tryz.func16 rfl Tryz.ntmps16 (by kernel_rfl) ?_
  (refine RunVC.boxO o rfl ?_; intro b20 m20 o20)
  (refine RunVC.boxO o20 rfl ?_; intro b21 m21 o21)
  refine StillVC.run (StillVC.loadO o21 4 rfl ty29 rfl rfl ?_)
  refine StillVC.run (StillVC.loadO o21 5 rfl ty22 rfl rfl ?_)
  have o1 : Own B [I, box lp (logC dp L (.slice la L.list.length lc)) 74, row (.slice la L.list.length lc) 9 1 L.list.length (strs L.list), KR, box b20 [.pointer (some ⟨lp, 0, none⟩)] 29, box b21 [.slice ra rs.length rc] 22] _ := (by assumption)
  refine CallVC.ret (check_spec lp L.broken rs _ _ (o1.cellB 1 rfl 7) (hR B _ rfl (o1.sel [3] rfl)) (by omega)) ?_
  rintro _ h2 ⟨rfl, oc⟩
  have o2 := o1.ext' oc
  clear oc o1 o
  by_cases hbk : L.broken = true
  · rw [if_pos hbk, if_pos hbk]
    refine Br.tt ?_
    refine RetVC.one rfl ?_
    exact ⟨rfl, I, _, hI, o2.sel [0, 1, 2, 3] rfl⟩
  rw [if_neg hbk, if_neg hbk]
  have hbk : L.broken = false := by simpa using hbk
  cases hany : (rs.any fun r => decide (2000 < r.length)) with
  | true =>
    rw [if_pos rfl, if_pos rfl]
    refine Br.tt ?_
    refine RetVC.one rfl ?_
    exact ⟨rfl, I, _, hI, o2.sel [0, 1, 2, 3] rfl⟩
  | false =>
    rw [if_neg (show ¬ (false = true) by decide), if_neg (show ¬ (false = true) by decide)]
    refine Br.ff ?_
    (refine RunVC.alloc o2 ty22 ?_; intro b40 m40 o40)
    refine StillVC.run (StillVC.loadO o40 5 rfl ty22 rfl rfl ?_)
    refine StillVC.run (StillVC.lenV rfl sl22 ?_)
    have o3 : Own B [I, box lp (logC dp L (.slice la L.list.length lc)) 74, row (.slice la L.list.length lc) 9 1 L.list.length (strs L.list), KR, box b20 [.pointer (some ⟨lp, 0, none⟩)] 29, box b21 [.slice ra rs.length rc] 22, box b40 [.slice none 0 0] 22, row (.slice none 0 0) 9 1 0 []] m40 := o40.nilRow 9 1
    clear o40 o2
    refine LoopVC.intro [8, 17, 18, 19, 20, 21, 22, 23, 24, 25] [17] (fun vs hh => ∃ (i : Nat) (pv : Value), i ≤ rs.length ∧ vs = [.int .i64 i] ∧ Own B [I, box lp (logC dp L (.slice la L.list.length lc)) 74, row (.slice la L.list.length lc) 9 1 L.list.length (strs L.list), KR, box b20 [.pointer (some ⟨lp, 0, none⟩)] 29, box b21 [.slice ra rs.length rc] 22, box b40 [pv] 22, row pv 9 1 (partsL (rs.take i)).length (strs (partsL (rs.take i)))] hh) (fun vs _ => match vs with | [.int _ i] => rs.length - i.toNat | _ => 0) ?_ ?_
    · exact ⟨0, _, by omega, rfl, o3⟩
    · clear o3
      rintro vs junk hh ⟨i, pv, hi, rfl, o⟩
      obtain ⟨pa, pc, rfl⟩ := o.rowIs 7 rfl
      have hpt := parts_take rs i
      have hA := hR B hh rfl (o.sel [3] rfl)
      by_cases hlt : i < rs.length
      · obtain ⟨x, hx⟩ := getx hlt
        have htk : rs.take (i + 1) = rs.take i ++ [x] := by rw [List.take_add_one, hx]; rfl
        have hpt1 := parts_take rs (i + 1)
        have hpe : partsL (rs.take (i + 1)) = partsL (rs.take i) ++ splitL x := by rw [htk, parts_append, parts_one]
        rw [hpe, List.length_append] at hpt1
        refine Br.dec (fun c60 => ?_) (fun hc => absurd (by omega) hc)
        refine StillVC.run (StillVC.idx sl22 ty9 hA rfl (by omega) (by omega) ?_)
        refine StillVC.run (StillVC.loadM hA ty9 rfl (by first | assumption | rfl) ?_)
        refine DrawVC.intro [1] [0] [3, 4] [0, 1, 2, 3, 4] mixed (by kernel_rfl) rfl (fun _ _ _ _ h => h) ?_
        refine StillVC.loadO o 6 rfl ty22 rfl rfl ?_
        refine CallVC.ret (split_spec x _ (ht.ext o.ext) (by have := hrl x (List.mem_of_getElem? hx); omega)) ?_
        intro qv h3 oc
        obtain ⟨qa, qc, hqv, _⟩ := oc.roArr 0 rfl
        have hql : (strs (splitL x)).length = (splitL x).length := by simp
        rw [hql] at hqv
        subst hqv
        (refine And.intro oc.ext ?_; have o80 := Own.call o oc; simp only [List.cons_append, List.nil_append] at o80; clear oc)
        (refine RunVC.append o80 7 rfl sl22 ty9 (by decide) (o80.roArr 8 rfl).toN (by simp [Value.oneCell']) (by simp only [maxLen]; first | omega | (simp; omega)) (by first | omega | (simp; omega)) ?_; intro v81 m81 o81)
        obtain ⟨wa, wc, rfl⟩ := o81.rowIs 7 rfl
        (refine RunVC.store o81 6 rfl ty22 rfl (by simp) (And.intro ⟨rfl, rfl⟩ ?_); intro m90 o90)
        refine Ar.i64 (by omega) (by omega) ?_
        refine ⟨rfl, ?_⟩
        refine ⟨⟨i + 1, .slice wa ((partsL (rs.take i)).length + (strs (splitL x)).length) wc, by omega, by simp, ?_⟩, by simp only; omega⟩
        rw [hpe, strs_append, List.length_append, ← hql]
        exact Own.sel (by assumption) [0, 1, 2, 3, 4, 5, 6, 7] rfl
      · have hie : rs.take i = rs := List.take_of_length_le (by omega)
        rw [hie] at o
        clear hpt
        by_cases hg : L.s.gen = 999999
        · rw [if_pos hg]
          refine Br.dec (fun hc => absurd hc (by omega)) (fun c100 => ?_)
          refine StillVC.run (StillVC.loadO o 4 rfl ty29 rfl rfl ?_)
          refine StillVC.run (StillVC.nilCheck rfl ?_)
          refine StillVC.run (StillVC.fieldAddr st74 rfl rfl rfl ?_)
          refine StillVC.run (StillVC.fieldAddr st72 rfl rfl rfl ?_)
          refine StillVC.run (StillVC.loadO o 1 rfl ty3 rfl rfl ?_)
          refine Br.dec (fun c106 => ?_) (fun hc => absurd (by omega) hc)
          refine RetVC.one rfl ?_
          exact ⟨rfl, I, _, hI, o.sel [0, 1, 2, 3] rfl⟩
        rw [if_neg hg]
        have hfl := hL.fits.gen
        refine Br.dec (fun hc => absurd hc (by omega)) (fun c100 => ?_)
        refine StillVC.run (StillVC.loadO o 4 rfl ty29 rfl rfl ?_)
        refine StillVC.run (StillVC.nilCheck rfl ?_)
        refine StillVC.run (StillVC.fieldAddr st74 rfl rfl rfl ?_)
        refine StillVC.run (StillVC.fieldAddr st72 rfl rfl rfl ?_)
        refine StillVC.run (StillVC.loadO o 1 rfl ty3 rfl rfl ?_)
        refine Br.dec (fun hc => absurd hc (by omega)) (fun c106 => ?_)
        refine StillVC.run (StillVC.loadO o 4 rfl ty29 rfl rfl ?_)
        refine StillVC.run (StillVC.loadO o 6 rfl ty22 rfl rfl ?_)
        refine StillVC.run (StillVC.lenV rfl sl22 ?_)
        refine StillVC.run (StillVC.makeFn ?_)
        generalize hXe : sepI [box b20 [.pointer (some ⟨lp, 0, none⟩)] 29, box b40 [.slice pa (partsL rs).length pc] 22, box b21 [.slice ra rs.length rc] 22, row (.slice pa (partsL rs).length pc) 9 1 (partsL rs).length (strs (partsL rs)), KR] = X
        have oX : Own B [I, box lp (logC dp L (.slice la L.list.length lc)) 74, row (.slice la L.list.length lc) 9 1 L.list.length (strs L.list), X] hh := by
          rw [← hXe]
          exact (Own.sep (M := [I, box lp (logC dp L (.slice la L.list.length lc)) 74, row (.slice la L.list.length lc) 9 1 L.list.length (strs L.list)]) (o.sel [4, 6, 5, 7, 3, 0, 1, 2] rfl)).sel [1, 2, 3, 0] rfl
        clear o
        refine CallVC.ret (attempt_spec B dp lp (partsL rs).length 0 d I L ⟨rewS L rs, L.n, 0, rs, false⟩ _ 54 [.pointer (some ⟨b20, 0, none⟩), .pointer (some ⟨b40, 0, none⟩), .pointer (some ⟨b21, 0, none⟩)] X (runD (rewB L rs) d) _ hI oX (by omega) (by omega) (by have := hL.n6; omega) hL.n4 ?_) ?_
        · intro hlen hn9 B' h' hB' o'
          rw [← hXe] at o'
          have o7 := (Own.unsep (M := [I, box lp (logC dp L (.slice la L.list.length lc)) 74, row (.slice la L.list.length lc) 9 1 L.list.length (strs L.list)]) (o'.sel [3, 0, 1, 2] rfl)).sel [5, 6, 7, 0, 1, 2, 3, 4] rfl
          refine (rew1_spec B' lp dp b20 b40 b21 d I KR L _ _ _ rs h' (by rw [hB']; exact ht) hI hq hL.n6 hL.n4 hL.at2 hL.fits (by have := hL.fits.num; omega) (by omega) (by omega) hrs hbk (by rw [hB']; exact hR) o7).mono ?_
          refine Ends.mono ?_ ?_
          · rintro v h5 ⟨he, rfl, I', lv', hI', oo⟩
            refine ⟨he, rfl, I', lv', hI', ?_⟩
            rw [← hXe]
            exact (Own.sep (M := [I', box lp (logC dp ⟨rewS L rs, L.n, 0, rs, false⟩ lv') 74, row lv' 9 1 rs.length (strs rs)]) (oo.sel [3, 4, 5, 6, 7, 0, 1, 2] rfl)).sel [1, 2, 3, 0] rfl
          · rintro c h5 ⟨he, rfl, I', cs', hcs, hI', oo⟩
            refine ⟨he, rfl, I', cs', hcs, hI', ?_⟩
            rw [← hXe]
            exact (Own.sep (M := [I', box lp cs' 74, row (.slice la L.list.length lc) 9 1 L.list.length (strs L.list)]) (oo.sel [3, 4, 5, 6, 7, 0, 1, 2] rfl)).sel [1, 2, 3, 0] rfl
        · rintro v h5 ⟨rfl, I', lv', hI', oo⟩
          refine RetVC.one rfl ?_
          refine ⟨rfl, I', lv', hI', ?_⟩
          rw [← hXe] at oo
          exact (Own.unsep (M := [I', _, _]) (oo.sel [3, 0, 1, 2] rfl)).sel [5, 6, 7, 4] rfl

end Go.Proofs.YtfjajkgfgigodaaGreatDoor
