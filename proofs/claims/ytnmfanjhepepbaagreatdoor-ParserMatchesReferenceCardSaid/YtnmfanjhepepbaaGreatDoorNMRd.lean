/-
 The reference's reader: conditions. The reference's reader: columns. The reference's reader: terms. The reference's reader: operations' names, words, lists in parentheses.
-/
import Derived.Test.YtnmfanjhepepbaaGreatDoorNStructs
import Derived.Test.YtnmfanjhepepbaaGreatDoorNMRa
set_option linter.all false
/- The reference's reader: conditions. -/
namespace Go.Proofs.YtnmfanjhepepbaaGreatDoor
open Go StillVC

set_option maxHeartbeats 8000000 in
set_option maxRecDepth 100000 in
theorem rconds_spec : RSpecI 57 (fun bp => [.pointer (some ⟨bp, 0, none⟩)]) (fun L z => condsR L z) (fun l v I => l.length ≤ 5001 ∧ I = row v 58 14 l.length (l.flatMap cndC)) := by
 intro B bp z tk w L s h o hR hl hi
 unfold RSt at o
 have hE := congrFun (condsR.eq_1 L z) s
 refine Spec.enter Tryz.func57 rfl Tryz.ntmps57 (by kernel_rfl) ?_
 have on := Own.nilRow ‹_› 58 14
 have on := Own.sel on [0, 1, 2] rfl
 clear o
 refine LoopVC.intro [3, 4, 5, 6, 7, 8, 9, 10, 11, 12, 13, 14, 15, 16, 17, 18, 19, 20, 21, 22, 23, 24, 25, 26, 27, 28, 29, 30, 31] [3, 4] (fun vs hh => ∃ (again : Bool) (acc : List Cnd) (s2 : RS) (va : Option Addr) (vc : Nat), vs = [.slice va acc.length vc, .bool again] ∧ s.i ≤ s2.i ∧ s2.i ≤ L.length ∧ Own B [box bp [w, .int .i64 s2.i, .int .i64 s2.e, .int .i64 s2.a, .int .i64 z] 73, tk, row (.slice va acc.length vc) 58 14 acc.length (acc.flatMap cndC)] hh ∧ ((again = false ∧ acc.length ≤ s2.i + 1 ∧ condsR L z s = (acc, s2)) ∨ (again = true ∧ acc.length ≤ s2.i ∧ ∃ F : Cnd → RM (List Cnd), (condR L z >>= F) s2 = condsR L z s ∧ ∀ a s3, s2.i ≤ s3.i → s3.i ≤ L.length → ∃ f, F a s3 = listAR L [97, 110, 100] (condR L z) f (acc ++ [a]) s3 ∧ L.length - s3.i < f))) (fun vs _ => match vs with | [.slice _ n _, .bool true] => 6001 - n | _ => 0) ?_ ?_
 ·exact ⟨true, [], s, none, 0, rfl, Nat.le_refl _, hi, on, .inr ⟨rfl, by simp, _, hE.symm, fun a s3 _ h3 => ⟨_, rfl, by omega⟩⟩⟩
 ·rintro vs junk hh ⟨again, acc, s2, va, vc, rfl, hi0, hj0, oh, hcase⟩
  clear hE
  rcases hcase with ⟨rfl, hac, hT⟩ | ⟨rfl, hac, F, hT, hF⟩
  ·refine Br.ff ?_
   refine RetVC.one rfl ?_
   exact ⟨acc, s2, _, hT, ⟨by omega, rfl⟩, by omega, by omega, Own.sel oh [0, 1, 2] rfl⟩
  have hE := congrFun (condR.eq_1 L z) s2
  refine Br.tt ?_
  refine rside_spec.callL ‹_› rfl hR hl hj0 (fun sl s1 v h1 hm hv hi1 hj1 oq => ?_)
  subst hv
  rw [RM.bind_of hm] at hE
  have o1 := oq
  simp only [RSt, pick, lcA, lnA, lgS, lgZ, lgN] at o1
  clear oq
  (refine RunVC.lit o1 sl42 ty9 rfl rfl (by decide) (And.intro rfl ?_); intro b40 m40 o40)
  refine rone_call (ss := [[61], [33, 61], [60], [60, 61]]) ‹_› rfl ⟨3, by decide, rfl⟩ hR hl hj1 (by decide) (fun op s2 v h2 hm hv hi2 hj2 oq => ?_)
  subst hv
  rw [RM.bind_of hm] at hE
  have o2 := oq
  simp only [RSt, pick, lcA, lnA, lgS, lgZ, lgN] at o2
  clear oq
  refine rside_spec.callL ‹_› rfl hR hl hj2 (fun sr s3 v h3 hm hv hi3 hj3 oq => ?_)
  subst hv
  rw [RM.bind_of hm] at hE
  have o3 := oq
  simp only [RSt, pick, lcA, lnA, lgS, lgZ, lgN] at o3
  clear oq
  refine run (buildK st58 ?_)
  refine And.intro rfl ?_
  refine And.intro rfl ?_
  refine And.intro rfl ?_
  (refine RunVC.alloc o3 ty58 ?_; intro b61 m61 o61)
  (refine RunVC.storeL o61 4 rfl ty58 rfl (by decide) (And.intro ⟨rfl, rfl⟩ ?_); intro m62 o62)
  refine (rhas_spec [43]).callL ‹_› rfl hR hl hj3 (fun b s4 v h4 hm hv hi4 hj4 oq => ?_)
  subst hv
  rw [RM.bind_of hm] at hE
  have o4 := oq
  simp only [RSt, pick, lcA, lnA, lgS, lgZ, lgN] at o4
  clear oq
  cases b with
  | true =>
   rw [if_pos rfl] at hE
   refine Br.tt ?_
   refine rnumber_spec.callL ‹_› rfl hR hl hj4 (fun n s5 v h5 hm hv hi5 hj5 oq => ?_)
   obtain ⟨rfl, hv0_5, hv1_5⟩ := hv
   rw [RM.bind_of hm] at hE
   have o5 := oq
   simp only [RSt, pick, lcA, lnA, lgS, lgZ, lgN] at o5
   clear oq
   refine run (fieldAddr st58 rfl rfl rfl ?_)
   (refine RunVC.store o5 4 rfl ty3 rfl (by simp) (And.intro ⟨rfl, rfl⟩ ?_); intro m81 o81)
   refine run (loadON o81 4 rfl ty58 rfl rfl rfl ?_)
   (refine RunVC.litN o81 sl46 ty58 rfl rfl (by decide) ?_)
   refine And.intro rfl ?_
   intro b84 m84 o84
   rw [RM.bind_of hE] at hT
   obtain ⟨f, hf1, hf2⟩ := hF (⟨sl, op, sr, n⟩ : Cnd) s5 (by omega) (by omega)
   rw [hf1] at hT
   obtain ⟨f, rfl⟩ : ∃ f', f = f' + 1 := ⟨f - 1, by omega⟩
   refine RunVC.append ‹_› 2 rfl sl46 ty58 (by decide) (Own.boxArrN ‹_› 5 rfl (n := 1) rfl (by omega)) (by simp [Value.oneCell']) (by simp only [maxLen]; omega) (by omega) ?_
   intro v90 m90 o90
   obtain ⟨ua, uc, rfl⟩ := o90.rowIs 2 rfl
   have e1 : (acc ++ [(⟨sl, op, sr, n⟩ : Cnd)]).flatMap cndC = acc.flatMap cndC ++ cndC (⟨sl, op, sr, n⟩ : Cnd) := by rw [List.flatMap_append, List.flatMap_cons, List.flatMap_nil, List.append_nil]
   have e2 : (acc ++ [(⟨sl, op, sr, n⟩ : Cnd)]).length = acc.length + 1 := by simp
   refine (rhas_spec [97, 110, 100]).callL ‹_› rfl hR hl hj5 (fun b s6 v h6 hm hv hi6 hj6 oq => ?_)
   subst hv
   have o6 := oq
   simp only [RSt, pick, lcA, lnA, lgS, lgZ, lgN] at o6
   clear oq
   cases b with
   | true =>
    have hlt := hasR_lt hm
    rw [listAR_yes hm] at hT
    refine ⟨rfl, ?_⟩
    refine ⟨⟨true, acc ++ [(⟨sl, op, sr, n⟩ : Cnd)], s6, ua, uc, by rw [e2], by omega, by omega, ?_, .inr ⟨rfl, by omega, _, hT, fun a s3 h3 h4 => ⟨_, rfl, by omega⟩⟩⟩, by simp; omega⟩
    rw [e1, e2]
    exact Own.sel o6 [0, 1, 2] rfl
   | false =>
    obtain rfl := hasR_same hm
    rw [listAR_no hm] at hT
    refine ⟨rfl, ?_⟩
    refine ⟨⟨false, acc ++ [(⟨sl, op, sr, n⟩ : Cnd)], _, ua, uc, by rw [e2], by omega, by omega, ?_, .inl ⟨rfl, by omega, hT.symm⟩⟩, by simp; omega⟩
    rw [e1, e2]
    exact Own.sel o6 [0, 1, 2] rfl
  | false =>
   rw [if_neg (by decide)] at hE
   refine Br.ff ?_
   refine (rhas_spec [45]).callL ‹_› rfl hR hl hj4 (fun b s7 v h7 hm hv hi7 hj7 oq => ?_)
   subst hv
   rw [RM.bind_of hm] at hE
   have o7 := oq
   simp only [RSt, pick, lcA, lnA, lgS, lgZ, lgN] at o7
   clear oq
   cases b with
   | true =>
    rw [if_pos rfl] at hE
    refine Br.tt ?_
    refine rnumber_spec.callL ‹_› rfl hR hl hj7 (fun n s8 v h8 hm hv hi8 hj8 oq => ?_)
    obtain ⟨rfl, hv0_8, hv1_8⟩ := hv
    rw [RM.bind_of hm] at hE
    have o8 := oq
    simp only [RSt, pick, lcA, lnA, lgS, lgZ, lgN] at o8
    clear oq
    refine Ar.i64 (by omega) (by omega) ?_
    refine run (fieldAddr st58 rfl rfl rfl ?_)
    (refine RunVC.store o8 4 rfl ty3 rfl (by simp) (And.intro ⟨rfl, rfl⟩ ?_); intro m151 o151)
    refine run (loadON o151 4 rfl ty58 rfl rfl rfl ?_)
    (refine RunVC.litN o151 sl46 ty58 rfl rfl (by decide) ?_)
    refine And.intro rfl ?_
    intro b154 m154 o154
    rw [show (-n : Int) = 0 - n by omega] at hE
    rw [RM.bind_of hE] at hT
    obtain ⟨f, hf1, hf2⟩ := hF (⟨sl, op, sr, 0 - n⟩ : Cnd) s8 (by omega) (by omega)
    rw [hf1] at hT
    obtain ⟨f, rfl⟩ : ∃ f', f = f' + 1 := ⟨f - 1, by omega⟩
    refine RunVC.append ‹_› 2 rfl sl46 ty58 (by decide) (Own.boxArrN ‹_› 5 rfl (n := 1) rfl (by omega)) (by simp [Value.oneCell']) (by simp only [maxLen]; omega) (by omega) ?_
    intro v160 m160 o160
    obtain ⟨ua, uc, rfl⟩ := o160.rowIs 2 rfl
    have e1 : (acc ++ [(⟨sl, op, sr, 0 - n⟩ : Cnd)]).flatMap cndC = acc.flatMap cndC ++ cndC (⟨sl, op, sr, 0 - n⟩ : Cnd) := by rw [List.flatMap_append, List.flatMap_cons, List.flatMap_nil, List.append_nil]
    have e2 : (acc ++ [(⟨sl, op, sr, 0 - n⟩ : Cnd)]).length = acc.length + 1 := by simp
    refine (rhas_spec [97, 110, 100]).callL ‹_› rfl hR hl hj8 (fun b s9 v h9 hm hv hi9 hj9 oq => ?_)
    subst hv
    have o9 := oq
    simp only [RSt, pick, lcA, lnA, lgS, lgZ, lgN] at o9
    clear oq
    cases b with
    | true =>
     have hlt := hasR_lt hm
     rw [listAR_yes hm] at hT
     refine ⟨rfl, ?_⟩
     refine ⟨⟨true, acc ++ [(⟨sl, op, sr, 0 - n⟩ : Cnd)], s9, ua, uc, by rw [e2], by omega, by omega, ?_, .inr ⟨rfl, by omega, _, hT, fun a s3 h3 h4 => ⟨_, rfl, by omega⟩⟩⟩, by simp; omega⟩
     rw [e1, e2]
     exact Own.sel o9 [0, 1, 2] rfl
    | false =>
     obtain rfl := hasR_same hm
     rw [listAR_no hm] at hT
     refine ⟨rfl, ?_⟩
     refine ⟨⟨false, acc ++ [(⟨sl, op, sr, 0 - n⟩ : Cnd)], _, ua, uc, by rw [e2], by omega, by omega, ?_, .inl ⟨rfl, by omega, hT.symm⟩⟩, by simp; omega⟩
     rw [e1, e2]
     exact Own.sel o9 [0, 1, 2] rfl
   | false =>
    rw [if_neg (by decide)] at hE
    refine Br.ff ?_
    refine run (loadON o7 4 rfl ty58 rfl rfl rfl ?_)
    (refine RunVC.litN o7 sl46 ty58 rfl rfl (by decide) ?_)
    refine And.intro rfl ?_
    intro b202 m202 o202
    rw [RM.bind_of hE] at hT
    obtain ⟨f, hf1, hf2⟩ := hF (⟨sl, op, sr, 0⟩ : Cnd) s7 (by omega) (by omega)
    rw [hf1] at hT
    obtain ⟨f, rfl⟩ : ∃ f', f = f' + 1 := ⟨f - 1, by omega⟩
    refine RunVC.append ‹_› 2 rfl sl46 ty58 (by decide) (Own.boxArrN ‹_› 5 rfl (n := 1) rfl (by omega)) (by simp [Value.oneCell']) (by simp only [maxLen]; omega) (by omega) ?_
    intro v210 m210 o210
    obtain ⟨ua, uc, rfl⟩ := o210.rowIs 2 rfl
    have e1 : (acc ++ [(⟨sl, op, sr, 0⟩ : Cnd)]).flatMap cndC = acc.flatMap cndC ++ cndC (⟨sl, op, sr, 0⟩ : Cnd) := by rw [List.flatMap_append, List.flatMap_cons, List.flatMap_nil, List.append_nil]
    have e2 : (acc ++ [(⟨sl, op, sr, 0⟩ : Cnd)]).length = acc.length + 1 := by simp
    refine (rhas_spec [97, 110, 100]).callL ‹_› rfl hR hl hj7 (fun b s10 v h10 hm hv hi10 hj10 oq => ?_)
    subst hv
    have o10 := oq
    simp only [RSt, pick, lcA, lnA, lgS, lgZ, lgN] at o10
    clear oq
    cases b with
    | true =>
     have hlt := hasR_lt hm
     rw [listAR_yes hm] at hT
     refine ⟨rfl, ?_⟩
     refine ⟨⟨true, acc ++ [(⟨sl, op, sr, 0⟩ : Cnd)], s10, ua, uc, by rw [e2], by omega, by omega, ?_, .inr ⟨rfl, by omega, _, hT, fun a s3 h3 h4 => ⟨_, rfl, by omega⟩⟩⟩, by simp; omega⟩
     rw [e1, e2]
     exact Own.sel o10 [0, 1, 2] rfl
    | false =>
     obtain rfl := hasR_same hm
     rw [listAR_no hm] at hT
     refine ⟨rfl, ?_⟩
     refine ⟨⟨false, acc ++ [(⟨sl, op, sr, 0⟩ : Cnd)], _, ua, uc, by rw [e2], by omega, by omega, ?_, .inl ⟨rfl, by omega, hT.symm⟩⟩, by simp; omega⟩
     rw [e1, e2]
     exact Own.sel o10 [0, 1, 2] rfl

end Go.Proofs.YtnmfanjhepepbaaGreatDoor

/- The reference's reader: columns. -/
namespace Go.Proofs.YtnmfanjhepepbaaGreatDoor
open Go StillVC

def columnsR (L : List Tok) (z : Nat) : RM (List Col) := listR L [44] (columnR L z)

set_option maxHeartbeats 8000000 in
set_option maxRecDepth 100000 in
theorem rcolumns_spec : RSpecI 48 (fun bp => [.pointer (some ⟨bp, 0, none⟩)]) (fun L z => columnsR L z) (fun l v I => l.length ≤ 5001 ∧ I = row v 122 5 l.length (l.flatMap colC)) := by
 intro B bp z tk w L s h o hR hl hi
 unfold RSt at o
 have hE := congrFun (columnsR.eq_1 L z) s
 refine Spec.enter Tryz.func48 rfl Tryz.ntmps48 (by kernel_rfl) ?_
 have on := Own.nilRow ‹_› 122 5
 have on := Own.sel on [0, 1, 2] rfl
 clear o
 refine LoopVC.intro [3, 4, 5, 6, 7, 8, 9, 10, 11, 12, 13, 14, 15, 16, 17, 18, 19, 20, 21, 22, 23] [3, 4] (fun vs hh => ∃ (again : Bool) (acc : List Col) (s2 : RS) (va : Option Addr) (vc : Nat), vs = [.slice va acc.length vc, .bool again] ∧ s.i ≤ s2.i ∧ s2.i ≤ L.length ∧ Own B [box bp [w, .int .i64 s2.i, .int .i64 s2.e, .int .i64 s2.a, .int .i64 z] 73, tk, row (.slice va acc.length vc) 122 5 acc.length (acc.flatMap colC)] hh ∧ ((again = false ∧ acc.length ≤ s2.i + 1 ∧ columnsR L z s = (acc, s2)) ∨ (again = true ∧ acc.length ≤ s2.i ∧ ∃ F : Col → RM (List Col), (columnR L z >>= F) s2 = columnsR L z s ∧ ∀ a s3, s2.i ≤ s3.i → s3.i ≤ L.length → ∃ f, F a s3 = listAR L [44] (columnR L z) f (acc ++ [a]) s3 ∧ L.length - s3.i < f))) (fun vs _ => match vs with | [.slice _ n _, .bool true] => 6001 - n | _ => 0) ?_ ?_
 ·exact ⟨true, [], s, none, 0, rfl, Nat.le_refl _, hi, on, .inr ⟨rfl, by simp, _, hE.symm, fun a s3 _ h3 => ⟨_, rfl, by omega⟩⟩⟩
 ·rintro vs junk hh ⟨again, acc, s2, va, vc, rfl, hi0, hj0, oh, hcase⟩
  clear hE
  rcases hcase with ⟨rfl, hac, hT⟩ | ⟨rfl, hac, F, hT, hF⟩
  ·refine Br.ff ?_
   refine RetVC.one rfl ?_
   exact ⟨acc, s2, _, hT, ⟨by omega, rfl⟩, by omega, by omega, Own.sel oh [0, 1, 2] rfl⟩
  have hE := congrFun (columnR.eq_1 L z) s2
  refine Br.tt ?_
  refine rname_spec.callL ‹_› rfl hR hl hj0 (fun na s1 v h1 hm hv hi1 hj1 oq => ?_)
  subst hv
  rw [RM.bind_of hm] at hE
  have o1 := oq
  simp only [RSt, pick, lcA, lnA, lgS, lgZ, lgN] at o1
  clear oq
  (refine RunVC.lit o1 sl42 ty9 rfl rfl (by decide) (And.intro rfl ?_); intro b40 m40 o40)
  refine rone_call (ss := [[116, 101, 120, 116], [110, 117, 109, 98, 101, 114], [100, 97, 121], [102, 108, 97, 103]]) ‹_› rfl ⟨3, by decide, rfl⟩ hR hl hj1 (by decide) (fun kd s2 v h2 hm hv hi2 hj2 oq => ?_)
  subst hv
  rw [RM.bind_of hm] at hE
  have o2 := oq
  simp only [RSt, pick, lcA, lnA, lgS, lgZ, lgN] at o2
  clear oq
  refine run (buildK st122 ?_)
  refine And.intro rfl ?_
  refine And.intro rfl ?_
  (refine RunVC.alloc o2 ty122 ?_; intro b51 m51 o51)
  (refine RunVC.storeL o51 4 rfl ty122 rfl (by decide) (And.intro ⟨rfl, rfl⟩ ?_); intro m52 o52)
  refine (rhas_spec [61]).callL ‹_› rfl hR hl hj2 (fun b s3 v h3 hm hv hi3 hj3 oq => ?_)
  subst hv
  rw [RM.bind_of hm] at hE
  have o3 := oq
  simp only [RSt, pick, lcA, lnA, lgS, lgZ, lgN] at o3
  clear oq
  cases b with
  | true =>
   rw [if_pos rfl] at hE
   refine Br.tt ?_
   refine rconst_spec.callL ‹_› rfl hR hl hj3 (fun df s4 v h4 hm hv hi4 hj4 oq => ?_)
   subst hv
   rw [RM.bind_of hm] at hE
   have o4 := oq
   simp only [RSt, pick, lcA, lnA, lgS, lgZ, lgN] at o4
   clear oq
   refine run (fieldAddr st122 rfl rfl rfl ?_)
   (refine RunVC.store o4 4 rfl ty54 rfl (by simp) (And.intro ⟨rfl, rfl⟩ ?_); intro m71 o71)
   refine run (loadON o71 4 rfl ty122 rfl rfl rfl ?_)
   (refine RunVC.litN o71 sl41 ty122 rfl rfl (by decide) ?_)
   refine And.intro rfl ?_
   intro b74 m74 o74
   rw [RM.bind_of hE] at hT
   obtain ⟨f, hf1, hf2⟩ := hF (⟨na, kd, df⟩ : Col) s4 (by omega) (by omega)
   rw [hf1] at hT
   obtain ⟨f, rfl⟩ : ∃ f', f = f' + 1 := ⟨f - 1, by omega⟩
   refine RunVC.append ‹_› 2 rfl sl41 ty122 (by decide) (Own.boxArrN ‹_› 5 rfl (n := 1) rfl (by omega)) (by simp [Value.oneCell']) (by simp only [maxLen]; omega) (by omega) ?_
   intro v80 m80 o80
   obtain ⟨ua, uc, rfl⟩ := o80.rowIs 2 rfl
   have e1 : (acc ++ [(⟨na, kd, df⟩ : Col)]).flatMap colC = acc.flatMap colC ++ colC (⟨na, kd, df⟩ : Col) := by rw [List.flatMap_append, List.flatMap_cons, List.flatMap_nil, List.append_nil]
   have e2 : (acc ++ [(⟨na, kd, df⟩ : Col)]).length = acc.length + 1 := by simp
   refine (rhas_spec [44]).callL ‹_› rfl hR hl hj4 (fun b s5 v h5 hm hv hi5 hj5 oq => ?_)
   subst hv
   have o5 := oq
   simp only [RSt, pick, lcA, lnA, lgS, lgZ, lgN] at o5
   clear oq
   cases b with
   | true =>
    have hlt := hasR_lt hm
    rw [listAR_yes hm] at hT
    refine ⟨rfl, ?_⟩
    refine ⟨⟨true, acc ++ [(⟨na, kd, df⟩ : Col)], s5, ua, uc, by rw [e2], by omega, by omega, ?_, .inr ⟨rfl, by omega, _, hT, fun a s3 h3 h4 => ⟨_, rfl, by omega⟩⟩⟩, by simp; omega⟩
    rw [e1, e2]
    exact Own.sel o5 [0, 1, 2] rfl
   | false =>
    obtain rfl := hasR_same hm
    rw [listAR_no hm] at hT
    refine ⟨rfl, ?_⟩
    refine ⟨⟨false, acc ++ [(⟨na, kd, df⟩ : Col)], _, ua, uc, by rw [e2], by omega, by omega, ?_, .inl ⟨rfl, by omega, hT.symm⟩⟩, by simp; omega⟩
    rw [e1, e2]
    exact Own.sel o5 [0, 1, 2] rfl
  | false =>
   rw [if_neg (by decide)] at hE
   refine Br.ff ?_
   refine run (loadON o3 4 rfl ty122 rfl rfl rfl ?_)
   (refine RunVC.litN o3 sl41 ty122 rfl rfl (by decide) ?_)
   refine And.intro rfl ?_
   intro b122 m122 o122
   rw [RM.bind_of hE] at hT
   obtain ⟨f, hf1, hf2⟩ := hF (⟨na, kd, vl0⟩ : Col) s3 (by omega) (by omega)
   rw [hf1] at hT
   obtain ⟨f, rfl⟩ : ∃ f', f = f' + 1 := ⟨f - 1, by omega⟩
   refine RunVC.append ‹_› 2 rfl sl41 ty122 (by decide) (Own.boxArrN ‹_› 5 rfl (n := 1) rfl (by omega)) (by simp [Value.oneCell']) (by simp only [maxLen]; omega) (by omega) ?_
   intro v130 m130 o130
   obtain ⟨ua, uc, rfl⟩ := o130.rowIs 2 rfl
   have e1 : (acc ++ [(⟨na, kd, vl0⟩ : Col)]).flatMap colC = acc.flatMap colC ++ colC (⟨na, kd, vl0⟩ : Col) := by rw [List.flatMap_append, List.flatMap_cons, List.flatMap_nil, List.append_nil]
   have e2 : (acc ++ [(⟨na, kd, vl0⟩ : Col)]).length = acc.length + 1 := by simp
   refine (rhas_spec [44]).callL ‹_› rfl hR hl hj3 (fun b s6 v h6 hm hv hi6 hj6 oq => ?_)
   subst hv
   have o6 := oq
   simp only [RSt, pick, lcA, lnA, lgS, lgZ, lgN] at o6
   clear oq
   cases b with
   | true =>
    have hlt := hasR_lt hm
    rw [listAR_yes hm] at hT
    refine ⟨rfl, ?_⟩
    refine ⟨⟨true, acc ++ [(⟨na, kd, vl0⟩ : Col)], s6, ua, uc, by rw [e2], by omega, by omega, ?_, .inr ⟨rfl, by omega, _, hT, fun a s3 h3 h4 => ⟨_, rfl, by omega⟩⟩⟩, by simp; omega⟩
    rw [e1, e2]
    exact Own.sel o6 [0, 1, 2] rfl
   | false =>
    obtain rfl := hasR_same hm
    rw [listAR_no hm] at hT
    refine ⟨rfl, ?_⟩
    refine ⟨⟨false, acc ++ [(⟨na, kd, vl0⟩ : Col)], _, ua, uc, by rw [e2], by omega, by omega, ?_, .inl ⟨rfl, by omega, hT.symm⟩⟩, by simp; omega⟩
    rw [e1, e2]
    exact Own.sel o6 [0, 1, 2] rfl

end Go.Proofs.YtnmfanjhepepbaaGreatDoor

/- The reference's reader: terms. -/
namespace Go.Proofs.YtnmfanjhepepbaaGreatDoor
open Go StillVC

theorem termR_name {L : List Tok} {z : Nat} {s s3 s' : RS} {a : List UInt8} {x : Trm} (hm : rnameR L z s = (a, s3)) (h : termR L z s = (x, s')) (he : s'.e = 0) : s3.i = s.i + 1 := by
 have h2 := h
 unfold termR at h
 rw [RM.bind_of hm] at h
 by_cases h3 : s3.e = 0
 ·unfold rnameR at hm
  cases ht : tokenR L z 1 s with
  | mk t r =>
   rw [RM.bind_of ht] at hm
   injection hm with _ hm
   subst hm
   have hf : (failS L z 4 s).e ≠ 0 := by
    unfold failS
    split
    ·assumption
    ·split
     ·simp
     ·simp
   unfold tokenR at ht
   split at ht
   ·split at ht
    ·injection ht with _ ht; subst ht; rfl
    ·injection ht with _ ht; subst ht; exact absurd h3 hf
   ·injection ht with _ ht; subst ht; exact absurd h3 hf
 ·have hs : ∀ a, Stay (oneR L z [[101, 113, 117, 97, 108], [101, 100, 105, 116], [106, 97, 99, 99, 97, 114, 100], [106, 97, 114, 111], [110, 101, 97, 114]] 1 >>= fun m => ifR (m == 5) (rnumR L z) 0 >>= fun tol => mustR L z [108, 101, 97, 115, 116] >>= fun _ => rnumR L z >>= fun num => optNumR L z [47] 1 >>= fun den =>
    mustR L z [103, 105, 118, 101, 115] >>= fun _ => rnumR L z >>= fun g => optNumR L z [116, 97, 107, 101, 115] 0 >>= fun tk => mustR L z [59] >>= fun _ => (pure ⟨a, m, tol, num, den, g, tk⟩ : RM Trm)) := fun a =>
   (Sim.one _ _).1.bind fun _ => (Stay.ifR Stay.num).bind fun _ => (Stay.must _).bind fun _ => Stay.num.bind fun _ => (Sim.optNum _ _).1.bind fun _ => (Stay.must _).bind fun _ => Stay.num.bind fun _ => (Sim.optNum _ _).1.bind fun _ => (Stay.must _).bind fun _ => Stay.ret _
  obtain ⟨y, hy⟩ := hs a s3.i s3.e s3.a h3
  have h := (show _ = (y, s3) from hy).symm.trans h
  injection h with _ h
  subst h
  exact absurd he h3

theorem termsAR_stop {L : List Tok} {z f : Nat} {acc : List Trm} {s : RS} (h : ¬ (s.e = 0 ∧ seesR L [125] s = false)) : termsAR L z f acc s = (acc, s) := by
 cases f with
 | zero => rfl
 | succ f => rw [termsAR]; exact if_neg h

theorem termsAR_go {L : List Tok} {z f : Nat} {acc : List Trm} {s : RS} (h : s.e = 0 ∧ seesR L [125] s = false) : termsAR L z (f + 1) acc s = (termR L z >>= fun a => termsAR L z f (acc ++ [a])) s := by
 rw [termsAR]; exact if_pos h

def termsR (L : List Tok) (z : Nat) : RM (List Trm) := fun s => termsAR L z (L.length - s.i + 1) [] s

set_option maxHeartbeats 8000000 in
set_option maxRecDepth 100000 in
theorem rterms_spec : RSpecI 53 (fun bp => [.pointer (some ⟨bp, 0, none⟩)]) (fun L z => termsR L z) (fun l v I => l.length ≤ 5001 ∧ I = row v 62 7 l.length (l.flatMap trmC)) := by
 intro B bp z tk w L s h o hR hl hi
 unfold RSt at o
 refine Spec.enter Tryz.func53 rfl Tryz.ntmps53 (by kernel_rfl) ?_
 have on := Own.nilRow ‹_› 62 7
 have on := Own.sel on [0, 1, 2] rfl
 clear o
 refine LoopVC.intro [3, 4, 5, 6, 7, 8, 9, 10, 11, 12, 13, 14, 15, 16, 17, 18, 19, 20, 21, 22, 23, 24, 25, 26, 27, 28, 29, 30, 31, 32, 33, 34, 35, 36, 37, 38, 39, 40, 41, 42, 43, 44, 45, 46, 47, 48, 49, 50, 51, 52, 53, 54] [3] (fun vs hh => ∃ (f : Nat) (acc : List Trm) (s2 : RS) (va : Option Addr) (vc : Nat), vs = [.slice va acc.length vc] ∧ s.i ≤ s2.i ∧ s2.i ≤ L.length ∧ Own B [box bp [w, .int .i64 s2.i, .int .i64 s2.e, .int .i64 s2.a, .int .i64 z] 73, tk, row (.slice va acc.length vc) 62 7 acc.length (acc.flatMap trmC)] hh ∧ termsAR L z f acc s2 = termsR L z s ∧ (s2.e = 0 → acc.length ≤ s2.i ∧ L.length - s2.i < f) ∧ acc.length ≤ s2.i + 1) (fun vs _ => match vs with | [.slice _ n _] => 6001 - n | _ => 0) ?_ ?_
 ·exact ⟨L.length - s.i + 1, [], s, none, 0, rfl, Nat.le_refl _, hi, on, rfl, fun _ => ⟨by simp, by omega⟩, by simp⟩
 ·rintro vs junk hh ⟨f, acc, s2, va, vc, rfl, hi0, hj0, oh, hT, hF, hac⟩
  by_cases he : s2.e = 0
  ·obtain ⟨hac, hf⟩ := hF he
   obtain ⟨f, rfl⟩ : ∃ f', f = f' + 1 := ⟨f - 1, by omega⟩
   refine run (nilCheck rfl ?_)
   refine run (fieldAddr st73 rfl rfl rfl ?_)
   refine run (loadO oh 0 rfl ty26 rfl rfl ?_)
   refine Br.dec (fun c23 => ?_) (fun hc => absurd (by omega) hc)
   refine (rsees_spec [125]).callL ‹_› rfl hR hl hj0 (fun b s1 v h1 hm hv hi1 hj1 oq => ?_)
   subst hv
   injection hm with hb hs
   subst hs
   have o1 := oq
   simp only [RSt, pick, lcA, lnA, lgS, lgZ, lgN] at o1
   clear oq
   cases b with
   | true =>
    rw [termsAR_stop (fun h => by rw [hb] at h; cases h.2)] at hT
    refine Br.ff ?_
    refine RetVC.one rfl ?_
    exact ⟨acc, _, _, hT.symm, ⟨by omega, rfl⟩, by omega, by omega, Own.sel o1 [0, 1, 2] rfl⟩
   | false =>
    rw [termsAR_go ⟨he, hb⟩] at hT
    have hE := congrFun (termR.eq_1 L z) s2
    refine Br.tt ?_
    refine rname_spec.callL ‹_› rfl hR hl hj0 (fun na s2 v h2 hm hv hi2 hj2 oq => ?_)
    subst hv
    have hnm := hm
    rw [RM.bind_of hm] at hE
    have o2 := oq
    simp only [RSt, pick, lcA, lnA, lgS, lgZ, lgN] at o2
    clear oq
    (refine RunVC.lit o2 sl42 ty9 rfl rfl (by decide) (And.intro rfl ?_); intro b50 m50 o50)
    refine rone_call (ss := [[101, 113, 117, 97, 108], [101, 100, 105, 116], [106, 97, 99, 99, 97, 114, 100], [106, 97, 114, 111], [110, 101, 97, 114]]) ‹_› rfl ⟨3, by decide, rfl⟩ hR hl hj2 (by decide) (fun me s3 v h3 hm hv hi3 hj3 oq => ?_)
    subst hv
    rw [RM.bind_of hm] at hE
    have o3 := oq
    simp only [RSt, pick, lcA, lnA, lgS, lgZ, lgN] at o3
    clear oq
    by_cases h5 : me = 5
    ·rw [ifR_yes (by simp [h5])] at hE
     refine run (buildK st62 ?_)
     refine And.intro rfl ?_
     refine And.intro rfl ?_
     (refine RunVC.alloc o3 ty62 ?_; intro b61 m61 o61)
     (refine RunVC.storeL o61 4 rfl ty62 rfl (by decide) (And.intro ⟨rfl, rfl⟩ ?_); intro m62 o62)
     refine run (fieldAddr st62 rfl rfl rfl ?_)
     refine run (loadO o62 4 rfl ty3 rfl rfl ?_)
     refine Br.dec (fun c65 => ?_) (fun hc => absurd (by omega) hc)
     refine rnumber_spec.callL ‹_› rfl hR hl hj3 (fun tol s4 v h4 hm hv hi4 hj4 oq => ?_)
     obtain ⟨rfl, hv0_4, hv1_4⟩ := hv
     rw [RM.bind_of hm] at hE
     have o4 := oq
     simp only [RSt, pick, lcA, lnA, lgS, lgZ, lgN] at o4
     clear oq
     refine run (fieldAddr st62 rfl rfl rfl ?_)
     (refine RunVC.store o4 4 rfl ty3 rfl (by simp) (And.intro ⟨rfl, rfl⟩ ?_); intro m71 o71)
     refine (rmust_spec [108, 101, 97, 115, 116]).callL ‹_› rfl hR hl hj4 (fun a5 s5 v h5 hm hv hi5 hj5 oq => ?_)
     subst hv
     rw [RM.bind_of hm] at hE
     have o5 := oq
     simp only [RSt, pick, lcA, lnA, lgS, lgZ, lgN] at o5
     clear oq
     refine rnumber_spec.callL ‹_› rfl hR hl hj5 (fun nu s6 v h6 hm hv hi6 hj6 oq => ?_)
     obtain ⟨rfl, hv0_6, hv1_6⟩ := hv
     rw [RM.bind_of hm] at hE
     have o6 := oq
     simp only [RSt, pick, lcA, lnA, lgS, lgZ, lgN] at o6
     clear oq
     refine run (buildK st60 ?_)
     refine And.intro rfl ?_
     refine And.intro rfl ?_
     refine run (fieldAddr st62 rfl rfl rfl ?_)
     (refine RunVC.store o6 4 rfl ty60 rfl (by simp) (And.intro ⟨rfl, rfl⟩ ?_); intro m92 o92)
     refine (rhas_spec [47]).callL ‹_› rfl hR hl hj6 (fun b s7 v h7 hm hv hi7 hj7 oq => ?_)
     subst hv
     have o7 := oq
     simp only [RSt, pick, lcA, lnA, lgS, lgZ, lgN] at o7
     clear oq
     cases b with
     | true =>
      refine Br.tt ?_
      have hb7 := hm
      refine rnumber_spec.callL ‹_› rfl hR hl hj7 (fun de s8 v h8 hm hv hi8 hj8 oq => ?_)
      obtain ⟨rfl, hv0_8, hv1_8⟩ := hv
      have o8 := oq
      simp only [RSt, pick, lcA, lnA, lgS, lgZ, lgN] at o8
      clear oq
      refine run (fieldAddr st62 rfl rfl rfl ?_)
      refine run (fieldAddr st60 rfl rfl rfl ?_)
      (refine RunVC.store o8 4 rfl ty3 rfl (by simp) (And.intro ⟨rfl, rfl⟩ ?_); intro m112 o112)
      have hO : optNumR L z [47] 1 _ = (de, s8) := (RM.bind_of hb7).trans hm
      rw [RM.bind_of hO] at hE
      refine (rmust_spec [103, 105, 118, 101, 115]).callL ‹_› rfl hR hl hj8 (fun a9 s9 v h9 hm hv hi9 hj9 oq => ?_)
      subst hv
      rw [RM.bind_of hm] at hE
      have o9 := oq
      simp only [RSt, pick, lcA, lnA, lgS, lgZ, lgN] at o9
      clear oq
      refine rnumber_spec.callL ‹_› rfl hR hl hj9 (fun gi s10 v h10 hm hv hi10 hj10 oq => ?_)
      obtain ⟨rfl, hv0_10, hv1_10⟩ := hv
      rw [RM.bind_of hm] at hE
      have o10 := oq
      simp only [RSt, pick, lcA, lnA, lgS, lgZ, lgN] at o10
      clear oq
      refine run (fieldAddr st62 rfl rfl rfl ?_)
      (refine RunVC.store o10 4 rfl ty3 rfl (by simp) (And.intro ⟨rfl, rfl⟩ ?_); intro m131 o131)
      refine (rhas_spec [116, 97, 107, 101, 115]).callL ‹_› rfl hR hl hj10 (fun b s11 v h11 hm hv hi11 hj11 oq => ?_)
      subst hv
      have o11 := oq
      simp only [RSt, pick, lcA, lnA, lgS, lgZ, lgN] at o11
      clear oq
      cases b with
      | true =>
       refine Br.tt ?_
       have hb11 := hm
       refine rnumber_spec.callL ‹_› rfl hR hl hj11 (fun ta s12 v h12 hm hv hi12 hj12 oq => ?_)
       obtain ⟨rfl, hv0_12, hv1_12⟩ := hv
       have o12 := oq
       simp only [RSt, pick, lcA, lnA, lgS, lgZ, lgN] at o12
       clear oq
       refine run (fieldAddr st62 rfl rfl rfl ?_)
       (refine RunVC.store o12 4 rfl ty3 rfl (by simp) (And.intro ⟨rfl, rfl⟩ ?_); intro m151 o151)
       have hO : optNumR L z [116, 97, 107, 101, 115] 0 _ = (ta, s12) := (RM.bind_of hb11).trans hm
       rw [RM.bind_of hO] at hE
       refine (rmust_spec [59]).callL ‹_› rfl hR hl hj12 (fun a13 s13 v h13 hm hv hi13 hj13 oq => ?_)
       subst hv
       rw [RM.bind_of hm] at hE
       have o13 := oq
       simp only [RSt, pick, lcA, lnA, lgS, lgZ, lgN] at o13
       clear oq
       refine run (loadON o13 4 rfl ty62 rfl rfl rfl ?_)
       (refine RunVC.litN o13 sl43 ty62 rfl rfl (by decide) ?_)
       refine And.intro rfl ?_
       intro b162 m162 o162
       have hlt := fun he : s13.e = 0 => termR_name hnm hE he
       rw [RM.bind_of hE] at hT
       refine RunVC.append ‹_› 2 rfl sl43 ty62 (by decide) (Own.boxArrN ‹_› 5 rfl (n := 1) rfl (by omega)) (by simp [Value.oneCell']) (by simp only [maxLen]; omega) (by omega) ?_
       intro v170 m170 o170
       obtain ⟨ua, uc, rfl⟩ := o170.rowIs 2 rfl
       refine ⟨rfl, ?_⟩
       have e1 : (acc ++ [(⟨na, me, tol, nu, de, gi, ta⟩ : Trm)]).flatMap trmC = acc.flatMap trmC ++ trmC (⟨na, me, tol, nu, de, gi, ta⟩ : Trm) := by rw [List.flatMap_append, List.flatMap_cons, List.flatMap_nil, List.append_nil]
       have e2 : (acc ++ [(⟨na, me, tol, nu, de, gi, ta⟩ : Trm)]).length = acc.length + 1 := by simp
       refine ⟨⟨f, acc ++ [(⟨na, me, tol, nu, de, gi, ta⟩ : Trm)], s13, ua, uc, by rw [e2], by omega, by omega, ?_, hT, fun he => ⟨by have := hlt he; omega, by have := hlt he; omega⟩, by omega⟩, by simp; omega⟩
       rw [e1, e2]
       exact Own.sel o170 [0, 1, 2] rfl
      | false =>
       have hO : optNumR L z [116, 97, 107, 101, 115] 0 _ = (0, s11) := RM.bind_of hm
       rw [RM.bind_of hO] at hE
       refine Br.ff ?_
       refine (rmust_spec [59]).callL ‹_› rfl hR hl hj11 (fun a14 s14 v h14 hm hv hi14 hj14 oq => ?_)
       subst hv
       rw [RM.bind_of hm] at hE
       have o14 := oq
       simp only [RSt, pick, lcA, lnA, lgS, lgZ, lgN] at o14
       clear oq
       refine run (loadON o14 4 rfl ty62 rfl rfl rfl ?_)
       (refine RunVC.litN o14 sl43 ty62 rfl rfl (by decide) ?_)
       refine And.intro rfl ?_
       intro b192 m192 o192
       have hlt := fun he : s14.e = 0 => termR_name hnm hE he
       rw [RM.bind_of hE] at hT
       refine RunVC.append ‹_› 2 rfl sl43 ty62 (by decide) (Own.boxArrN ‹_› 5 rfl (n := 1) rfl (by omega)) (by simp [Value.oneCell']) (by simp only [maxLen]; omega) (by omega) ?_
       intro v200 m200 o200
       obtain ⟨ua, uc, rfl⟩ := o200.rowIs 2 rfl
       refine ⟨rfl, ?_⟩
       have e1 : (acc ++ [(⟨na, me, tol, nu, de, gi, 0⟩ : Trm)]).flatMap trmC = acc.flatMap trmC ++ trmC (⟨na, me, tol, nu, de, gi, 0⟩ : Trm) := by rw [List.flatMap_append, List.flatMap_cons, List.flatMap_nil, List.append_nil]
       have e2 : (acc ++ [(⟨na, me, tol, nu, de, gi, 0⟩ : Trm)]).length = acc.length + 1 := by simp
       refine ⟨⟨f, acc ++ [(⟨na, me, tol, nu, de, gi, 0⟩ : Trm)], s14, ua, uc, by rw [e2], by omega, by omega, ?_, hT, fun he => ⟨by have := hlt he; omega, by have := hlt he; omega⟩, by omega⟩, by simp; omega⟩
       rw [e1, e2]
       exact Own.sel o200 [0, 1, 2] rfl
     | false =>
      have hO : optNumR L z [47] 1 _ = (1, s7) := RM.bind_of hm
      rw [RM.bind_of hO] at hE
      refine Br.ff ?_
      refine (rmust_spec [103, 105, 118, 101, 115]).callL ‹_› rfl hR hl hj7 (fun a15 s15 v h15 hm hv hi15 hj15 oq => ?_)
      subst hv
      rw [RM.bind_of hm] at hE
      have o15 := oq
      simp only [RSt, pick, lcA, lnA, lgS, lgZ, lgN] at o15
      clear oq
      refine rnumber_spec.callL ‹_› rfl hR hl hj15 (fun gi s16 v h16 hm hv hi16 hj16 oq => ?_)
      obtain ⟨rfl, hv0_16, hv1_16⟩ := hv
      rw [RM.bind_of hm] at hE
      have o16 := oq
      simp only [RSt, pick, lcA, lnA, lgS, lgZ, lgN] at o16
      clear oq
      refine run (fieldAddr st62 rfl rfl rfl ?_)
      (refine RunVC.store o16 4 rfl ty3 rfl (by simp) (And.intro ⟨rfl, rfl⟩ ?_); intro m231 o231)
      refine (rhas_spec [116, 97, 107, 101, 115]).callL ‹_› rfl hR hl hj16 (fun b s17 v h17 hm hv hi17 hj17 oq => ?_)
      subst hv
      have o17 := oq
      simp only [RSt, pick, lcA, lnA, lgS, lgZ, lgN] at o17
      clear oq
      cases b with
      | true =>
       refine Br.tt ?_
       have hb17 := hm
       refine rnumber_spec.callL ‹_› rfl hR hl hj17 (fun ta s18 v h18 hm hv hi18 hj18 oq => ?_)
       obtain ⟨rfl, hv0_18, hv1_18⟩ := hv
       have o18 := oq
       simp only [RSt, pick, lcA, lnA, lgS, lgZ, lgN] at o18
       clear oq
       refine run (fieldAddr st62 rfl rfl rfl ?_)
       (refine RunVC.store o18 4 rfl ty3 rfl (by simp) (And.intro ⟨rfl, rfl⟩ ?_); intro m251 o251)
       have hO : optNumR L z [116, 97, 107, 101, 115] 0 _ = (ta, s18) := (RM.bind_of hb17).trans hm
       rw [RM.bind_of hO] at hE
       refine (rmust_spec [59]).callL ‹_› rfl hR hl hj18 (fun a19 s19 v h19 hm hv hi19 hj19 oq => ?_)
       subst hv
       rw [RM.bind_of hm] at hE
       have o19 := oq
       simp only [RSt, pick, lcA, lnA, lgS, lgZ, lgN] at o19
       clear oq
       refine run (loadON o19 4 rfl ty62 rfl rfl rfl ?_)
       (refine RunVC.litN o19 sl43 ty62 rfl rfl (by decide) ?_)
       refine And.intro rfl ?_
       intro b262 m262 o262
       have hlt := fun he : s19.e = 0 => termR_name hnm hE he
       rw [RM.bind_of hE] at hT
       refine RunVC.append ‹_› 2 rfl sl43 ty62 (by decide) (Own.boxArrN ‹_› 5 rfl (n := 1) rfl (by omega)) (by simp [Value.oneCell']) (by simp only [maxLen]; omega) (by omega) ?_
       intro v270 m270 o270
       obtain ⟨ua, uc, rfl⟩ := o270.rowIs 2 rfl
       refine ⟨rfl, ?_⟩
       have e1 : (acc ++ [(⟨na, me, tol, nu, 1, gi, ta⟩ : Trm)]).flatMap trmC = acc.flatMap trmC ++ trmC (⟨na, me, tol, nu, 1, gi, ta⟩ : Trm) := by rw [List.flatMap_append, List.flatMap_cons, List.flatMap_nil, List.append_nil]
       have e2 : (acc ++ [(⟨na, me, tol, nu, 1, gi, ta⟩ : Trm)]).length = acc.length + 1 := by simp
       refine ⟨⟨f, acc ++ [(⟨na, me, tol, nu, 1, gi, ta⟩ : Trm)], s19, ua, uc, by rw [e2], by omega, by omega, ?_, hT, fun he => ⟨by have := hlt he; omega, by have := hlt he; omega⟩, by omega⟩, by simp; omega⟩
       rw [e1, e2]
       exact Own.sel o270 [0, 1, 2] rfl
      | false =>
       have hO : optNumR L z [116, 97, 107, 101, 115] 0 _ = (0, s17) := RM.bind_of hm
       rw [RM.bind_of hO] at hE
       refine Br.ff ?_
       refine (rmust_spec [59]).callL ‹_› rfl hR hl hj17 (fun a20 s20 v h20 hm hv hi20 hj20 oq => ?_)
       subst hv
       rw [RM.bind_of hm] at hE
       have o20 := oq
       simp only [RSt, pick, lcA, lnA, lgS, lgZ, lgN] at o20
       clear oq
       refine run (loadON o20 4 rfl ty62 rfl rfl rfl ?_)
       (refine RunVC.litN o20 sl43 ty62 rfl rfl (by decide) ?_)
       refine And.intro rfl ?_
       intro b292 m292 o292
       have hlt := fun he : s20.e = 0 => termR_name hnm hE he
       rw [RM.bind_of hE] at hT
       refine RunVC.append ‹_› 2 rfl sl43 ty62 (by decide) (Own.boxArrN ‹_› 5 rfl (n := 1) rfl (by omega)) (by simp [Value.oneCell']) (by simp only [maxLen]; omega) (by omega) ?_
       intro v300 m300 o300
       obtain ⟨ua, uc, rfl⟩ := o300.rowIs 2 rfl
       refine ⟨rfl, ?_⟩
       have e1 : (acc ++ [(⟨na, me, tol, nu, 1, gi, 0⟩ : Trm)]).flatMap trmC = acc.flatMap trmC ++ trmC (⟨na, me, tol, nu, 1, gi, 0⟩ : Trm) := by rw [List.flatMap_append, List.flatMap_cons, List.flatMap_nil, List.append_nil]
       have e2 : (acc ++ [(⟨na, me, tol, nu, 1, gi, 0⟩ : Trm)]).length = acc.length + 1 := by simp
       refine ⟨⟨f, acc ++ [(⟨na, me, tol, nu, 1, gi, 0⟩ : Trm)], s20, ua, uc, by rw [e2], by omega, by omega, ?_, hT, fun he => ⟨by have := hlt he; omega, by have := hlt he; omega⟩, by omega⟩, by simp; omega⟩
       rw [e1, e2]
       exact Own.sel o300 [0, 1, 2] rfl
    ·rw [ifR_no (by simp [h5])] at hE
     rw [RM.bind_of (RM.pure_eq _ _)] at hE
     refine run (buildK st62 ?_)
     refine And.intro rfl ?_
     refine And.intro rfl ?_
     (refine RunVC.alloc o3 ty62 ?_; intro b311 m311 o311)
     (refine RunVC.storeL o311 4 rfl ty62 rfl (by decide) (And.intro ⟨rfl, rfl⟩ ?_); intro m312 o312)
     refine run (fieldAddr st62 rfl rfl rfl ?_)
     refine run (loadO o312 4 rfl ty3 rfl rfl ?_)
     refine Br.dec (fun hc => absurd hc (by omega)) (fun c315 => ?_)
     refine (rmust_spec [108, 101, 97, 115, 116]).callL ‹_› rfl hR hl hj3 (fun a21 s21 v h21 hm hv hi21 hj21 oq => ?_)
     subst hv
     rw [RM.bind_of hm] at hE
     have o21 := oq
     simp only [RSt, pick, lcA, lnA, lgS, lgZ, lgN] at o21
     clear oq
     refine rnumber_spec.callL ‹_› rfl hR hl hj21 (fun nu s22 v h22 hm hv hi22 hj22 oq => ?_)
     obtain ⟨rfl, hv0_22, hv1_22⟩ := hv
     rw [RM.bind_of hm] at hE
     have o22 := oq
     simp only [RSt, pick, lcA, lnA, lgS, lgZ, lgN] at o22
     clear oq
     refine run (buildK st60 ?_)
     refine And.intro rfl ?_
     refine And.intro rfl ?_
     refine run (fieldAddr st62 rfl rfl rfl ?_)
     (refine RunVC.store o22 4 rfl ty60 rfl (by simp) (And.intro ⟨rfl, rfl⟩ ?_); intro m332 o332)
     refine (rhas_spec [47]).callL ‹_› rfl hR hl hj22 (fun b s23 v h23 hm hv hi23 hj23 oq => ?_)
     subst hv
     have o23 := oq
     simp only [RSt, pick, lcA, lnA, lgS, lgZ, lgN] at o23
     clear oq
     cases b with
     | true =>
      refine Br.tt ?_
      have hb23 := hm
      refine rnumber_spec.callL ‹_› rfl hR hl hj23 (fun de s24 v h24 hm hv hi24 hj24 oq => ?_)
      obtain ⟨rfl, hv0_24, hv1_24⟩ := hv
      have o24 := oq
      simp only [RSt, pick, lcA, lnA, lgS, lgZ, lgN] at o24
      clear oq
      refine run (fieldAddr st62 rfl rfl rfl ?_)
      refine run (fieldAddr st60 rfl rfl rfl ?_)
      (refine RunVC.store o24 4 rfl ty3 rfl (by simp) (And.intro ⟨rfl, rfl⟩ ?_); intro m352 o352)
      have hO : optNumR L z [47] 1 _ = (de, s24) := (RM.bind_of hb23).trans hm
      rw [RM.bind_of hO] at hE
      refine (rmust_spec [103, 105, 118, 101, 115]).callL ‹_› rfl hR hl hj24 (fun a25 s25 v h25 hm hv hi25 hj25 oq => ?_)
      subst hv
      rw [RM.bind_of hm] at hE
      have o25 := oq
      simp only [RSt, pick, lcA, lnA, lgS, lgZ, lgN] at o25
      clear oq
      refine rnumber_spec.callL ‹_› rfl hR hl hj25 (fun gi s26 v h26 hm hv hi26 hj26 oq => ?_)
      obtain ⟨rfl, hv0_26, hv1_26⟩ := hv
      rw [RM.bind_of hm] at hE
      have o26 := oq
      simp only [RSt, pick, lcA, lnA, lgS, lgZ, lgN] at o26
      clear oq
      refine run (fieldAddr st62 rfl rfl rfl ?_)
      (refine RunVC.store o26 4 rfl ty3 rfl (by simp) (And.intro ⟨rfl, rfl⟩ ?_); intro m371 o371)
      refine (rhas_spec [116, 97, 107, 101, 115]).callL ‹_› rfl hR hl hj26 (fun b s27 v h27 hm hv hi27 hj27 oq => ?_)
      subst hv
      have o27 := oq
      simp only [RSt, pick, lcA, lnA, lgS, lgZ, lgN] at o27
      clear oq
      cases b with
      | true =>
       refine Br.tt ?_
       have hb27 := hm
       refine rnumber_spec.callL ‹_› rfl hR hl hj27 (fun ta s28 v h28 hm hv hi28 hj28 oq => ?_)
       obtain ⟨rfl, hv0_28, hv1_28⟩ := hv
       have o28 := oq
       simp only [RSt, pick, lcA, lnA, lgS, lgZ, lgN] at o28
       clear oq
       refine run (fieldAddr st62 rfl rfl rfl ?_)
       (refine RunVC.store o28 4 rfl ty3 rfl (by simp) (And.intro ⟨rfl, rfl⟩ ?_); intro m391 o391)
       have hO : optNumR L z [116, 97, 107, 101, 115] 0 _ = (ta, s28) := (RM.bind_of hb27).trans hm
       rw [RM.bind_of hO] at hE
       refine (rmust_spec [59]).callL ‹_› rfl hR hl hj28 (fun a29 s29 v h29 hm hv hi29 hj29 oq => ?_)
       subst hv
       rw [RM.bind_of hm] at hE
       have o29 := oq
       simp only [RSt, pick, lcA, lnA, lgS, lgZ, lgN] at o29
       clear oq
       refine run (loadON o29 4 rfl ty62 rfl rfl rfl ?_)
       (refine RunVC.litN o29 sl43 ty62 rfl rfl (by decide) ?_)
       refine And.intro rfl ?_
       intro b402 m402 o402
       have hlt := fun he : s29.e = 0 => termR_name hnm hE he
       rw [RM.bind_of hE] at hT
       refine RunVC.append ‹_› 2 rfl sl43 ty62 (by decide) (Own.boxArrN ‹_› 5 rfl (n := 1) rfl (by omega)) (by simp [Value.oneCell']) (by simp only [maxLen]; omega) (by omega) ?_
       intro v410 m410 o410
       obtain ⟨ua, uc, rfl⟩ := o410.rowIs 2 rfl
       refine ⟨rfl, ?_⟩
       have e1 : (acc ++ [(⟨na, me, 0, nu, de, gi, ta⟩ : Trm)]).flatMap trmC = acc.flatMap trmC ++ trmC (⟨na, me, 0, nu, de, gi, ta⟩ : Trm) := by rw [List.flatMap_append, List.flatMap_cons, List.flatMap_nil, List.append_nil]
       have e2 : (acc ++ [(⟨na, me, 0, nu, de, gi, ta⟩ : Trm)]).length = acc.length + 1 := by simp
       refine ⟨⟨f, acc ++ [(⟨na, me, 0, nu, de, gi, ta⟩ : Trm)], s29, ua, uc, by rw [e2], by omega, by omega, ?_, hT, fun he => ⟨by have := hlt he; omega, by have := hlt he; omega⟩, by omega⟩, by simp; omega⟩
       rw [e1, e2]
       exact Own.sel o410 [0, 1, 2] rfl
      | false =>
       have hO : optNumR L z [116, 97, 107, 101, 115] 0 _ = (0, s27) := RM.bind_of hm
       rw [RM.bind_of hO] at hE
       refine Br.ff ?_
       refine (rmust_spec [59]).callL ‹_› rfl hR hl hj27 (fun a30 s30 v h30 hm hv hi30 hj30 oq => ?_)
       subst hv
       rw [RM.bind_of hm] at hE
       have o30 := oq
       simp only [RSt, pick, lcA, lnA, lgS, lgZ, lgN] at o30
       clear oq
       refine run (loadON o30 4 rfl ty62 rfl rfl rfl ?_)
       (refine RunVC.litN o30 sl43 ty62 rfl rfl (by decide) ?_)
       refine And.intro rfl ?_
       intro b432 m432 o432
       have hlt := fun he : s30.e = 0 => termR_name hnm hE he
       rw [RM.bind_of hE] at hT
       refine RunVC.append ‹_› 2 rfl sl43 ty62 (by decide) (Own.boxArrN ‹_› 5 rfl (n := 1) rfl (by omega)) (by simp [Value.oneCell']) (by simp only [maxLen]; omega) (by omega) ?_
       intro v440 m440 o440
       obtain ⟨ua, uc, rfl⟩ := o440.rowIs 2 rfl
       refine ⟨rfl, ?_⟩
       have e1 : (acc ++ [(⟨na, me, 0, nu, de, gi, 0⟩ : Trm)]).flatMap trmC = acc.flatMap trmC ++ trmC (⟨na, me, 0, nu, de, gi, 0⟩ : Trm) := by rw [List.flatMap_append, List.flatMap_cons, List.flatMap_nil, List.append_nil]
       have e2 : (acc ++ [(⟨na, me, 0, nu, de, gi, 0⟩ : Trm)]).length = acc.length + 1 := by simp
       refine ⟨⟨f, acc ++ [(⟨na, me, 0, nu, de, gi, 0⟩ : Trm)], s30, ua, uc, by rw [e2], by omega, by omega, ?_, hT, fun he => ⟨by have := hlt he; omega, by have := hlt he; omega⟩, by omega⟩, by simp; omega⟩
       rw [e1, e2]
       exact Own.sel o440 [0, 1, 2] rfl
     | false =>
      have hO : optNumR L z [47] 1 _ = (1, s23) := RM.bind_of hm
      rw [RM.bind_of hO] at hE
      refine Br.ff ?_
      refine (rmust_spec [103, 105, 118, 101, 115]).callL ‹_› rfl hR hl hj23 (fun a31 s31 v h31 hm hv hi31 hj31 oq => ?_)
      subst hv
      rw [RM.bind_of hm] at hE
      have o31 := oq
      simp only [RSt, pick, lcA, lnA, lgS, lgZ, lgN] at o31
      clear oq
      refine rnumber_spec.callL ‹_› rfl hR hl hj31 (fun gi s32 v h32 hm hv hi32 hj32 oq => ?_)
      obtain ⟨rfl, hv0_32, hv1_32⟩ := hv
      rw [RM.bind_of hm] at hE
      have o32 := oq
      simp only [RSt, pick, lcA, lnA, lgS, lgZ, lgN] at o32
      clear oq
      refine run (fieldAddr st62 rfl rfl rfl ?_)
      (refine RunVC.store o32 4 rfl ty3 rfl (by simp) (And.intro ⟨rfl, rfl⟩ ?_); intro m471 o471)
      refine (rhas_spec [116, 97, 107, 101, 115]).callL ‹_› rfl hR hl hj32 (fun b s33 v h33 hm hv hi33 hj33 oq => ?_)
      subst hv
      have o33 := oq
      simp only [RSt, pick, lcA, lnA, lgS, lgZ, lgN] at o33
      clear oq
      cases b with
      | true =>
       refine Br.tt ?_
       have hb33 := hm
       refine rnumber_spec.callL ‹_› rfl hR hl hj33 (fun ta s34 v h34 hm hv hi34 hj34 oq => ?_)
       obtain ⟨rfl, hv0_34, hv1_34⟩ := hv
       have o34 := oq
       simp only [RSt, pick, lcA, lnA, lgS, lgZ, lgN] at o34
       clear oq
       refine run (fieldAddr st62 rfl rfl rfl ?_)
       (refine RunVC.store o34 4 rfl ty3 rfl (by simp) (And.intro ⟨rfl, rfl⟩ ?_); intro m491 o491)
       have hO : optNumR L z [116, 97, 107, 101, 115] 0 _ = (ta, s34) := (RM.bind_of hb33).trans hm
       rw [RM.bind_of hO] at hE
       refine (rmust_spec [59]).callL ‹_› rfl hR hl hj34 (fun a35 s35 v h35 hm hv hi35 hj35 oq => ?_)
       subst hv
       rw [RM.bind_of hm] at hE
       have o35 := oq
       simp only [RSt, pick, lcA, lnA, lgS, lgZ, lgN] at o35
       clear oq
       refine run (loadON o35 4 rfl ty62 rfl rfl rfl ?_)
       (refine RunVC.litN o35 sl43 ty62 rfl rfl (by decide) ?_)
       refine And.intro rfl ?_
       intro b502 m502 o502
       have hlt := fun he : s35.e = 0 => termR_name hnm hE he
       rw [RM.bind_of hE] at hT
       refine RunVC.append ‹_› 2 rfl sl43 ty62 (by decide) (Own.boxArrN ‹_› 5 rfl (n := 1) rfl (by omega)) (by simp [Value.oneCell']) (by simp only [maxLen]; omega) (by omega) ?_
       intro v510 m510 o510
       obtain ⟨ua, uc, rfl⟩ := o510.rowIs 2 rfl
       refine ⟨rfl, ?_⟩
       have e1 : (acc ++ [(⟨na, me, 0, nu, 1, gi, ta⟩ : Trm)]).flatMap trmC = acc.flatMap trmC ++ trmC (⟨na, me, 0, nu, 1, gi, ta⟩ : Trm) := by rw [List.flatMap_append, List.flatMap_cons, List.flatMap_nil, List.append_nil]
       have e2 : (acc ++ [(⟨na, me, 0, nu, 1, gi, ta⟩ : Trm)]).length = acc.length + 1 := by simp
       refine ⟨⟨f, acc ++ [(⟨na, me, 0, nu, 1, gi, ta⟩ : Trm)], s35, ua, uc, by rw [e2], by omega, by omega, ?_, hT, fun he => ⟨by have := hlt he; omega, by have := hlt he; omega⟩, by omega⟩, by simp; omega⟩
       rw [e1, e2]
       exact Own.sel o510 [0, 1, 2] rfl
      | false =>
       have hO : optNumR L z [116, 97, 107, 101, 115] 0 _ = (0, s33) := RM.bind_of hm
       rw [RM.bind_of hO] at hE
       refine Br.ff ?_
       refine (rmust_spec [59]).callL ‹_› rfl hR hl hj33 (fun a36 s36 v h36 hm hv hi36 hj36 oq => ?_)
       subst hv
       rw [RM.bind_of hm] at hE
       have o36 := oq
       simp only [RSt, pick, lcA, lnA, lgS, lgZ, lgN] at o36
       clear oq
       refine run (loadON o36 4 rfl ty62 rfl rfl rfl ?_)
       (refine RunVC.litN o36 sl43 ty62 rfl rfl (by decide) ?_)
       refine And.intro rfl ?_
       intro b532 m532 o532
       have hlt := fun he : s36.e = 0 => termR_name hnm hE he
       rw [RM.bind_of hE] at hT
       refine RunVC.append ‹_› 2 rfl sl43 ty62 (by decide) (Own.boxArrN ‹_› 5 rfl (n := 1) rfl (by omega)) (by simp [Value.oneCell']) (by simp only [maxLen]; omega) (by omega) ?_
       intro v540 m540 o540
       obtain ⟨ua, uc, rfl⟩ := o540.rowIs 2 rfl
       refine ⟨rfl, ?_⟩
       have e1 : (acc ++ [(⟨na, me, 0, nu, 1, gi, 0⟩ : Trm)]).flatMap trmC = acc.flatMap trmC ++ trmC (⟨na, me, 0, nu, 1, gi, 0⟩ : Trm) := by rw [List.flatMap_append, List.flatMap_cons, List.flatMap_nil, List.append_nil]
       have e2 : (acc ++ [(⟨na, me, 0, nu, 1, gi, 0⟩ : Trm)]).length = acc.length + 1 := by simp
       refine ⟨⟨f, acc ++ [(⟨na, me, 0, nu, 1, gi, 0⟩ : Trm)], s36, ua, uc, by rw [e2], by omega, by omega, ?_, hT, fun he => ⟨by have := hlt he; omega, by have := hlt he; omega⟩, by omega⟩, by simp; omega⟩
       rw [e1, e2]
       exact Own.sel o540 [0, 1, 2] rfl
  ·rw [termsAR_stop (fun h => he h.1)] at hT
   refine run (nilCheck rfl ?_)
   refine run (fieldAddr st73 rfl rfl rfl ?_)
   refine run (loadO oh 0 rfl ty26 rfl rfl ?_)
   refine Br.dec (fun hc => absurd hc (by omega)) (fun c553 => ?_)
   refine Br.ff ?_
   refine RetVC.one rfl ?_
   exact ⟨acc, s2, _, hT.symm, ⟨by omega, rfl⟩, by omega, by omega, Own.sel oh [0, 1, 2] rfl⟩

end Go.Proofs.YtnmfanjhepepbaaGreatDoor

/- The reference's reader: operations' names, words, lists in parentheses. -/
namespace Go.Proofs.YtnmfanjhepepbaaGreatDoor
open Go StillVC

set_option maxHeartbeats 8000000 in
set_option maxRecDepth 100000 in
theorem roperations_spec (h : Heap) : SpecR Tryz.prog 97 [] h fun v h' => ∃ b, v = .slice (some ⟨b, 0, none⟩) 7 7 ∧ Own h [box b (strs opNames) 9] h' := by
 refine Spec.enter Tryz.func97 rfl Tryz.ntmps97 (by kernel_rfl) ?_
 have o0 := Own.refl h
 (refine RunVC.lit o0 sl42 ty9 rfl rfl (by decide) (And.intro rfl ?_); intro b10 m10 o10)
 refine RetVC.one rfl ?_
 exact ⟨_, rfl, Own.sel ‹_› [0] rfl⟩

set_option maxHeartbeats 8000000 in
set_option maxRecDepth 100000 in
theorem rwords_spec (h : Heap) : SpecR Tryz.prog 45 [] h fun v h' => ∃ b, v = .slice (some ⟨b, 0, none⟩) 10 10 ∧ Own h [box b (strs itWords) 9] h' := by
 refine Spec.enter Tryz.func45 rfl Tryz.ntmps45 (by kernel_rfl) ?_
 have o0 := Own.refl h
 (refine RunVC.lit o0 sl42 ty9 rfl rfl (by decide) (And.intro rfl ?_); intro b10 m10 o10)
 refine RetVC.one rfl ?_
 exact ⟨_, rfl, Own.sel ‹_› [0] rfl⟩

set_option maxHeartbeats 8000000 in
set_option maxRecDepth 100000 in
theorem rlist_spec : RSpecI 54 (fun bp => [.pointer (some ⟨bp, 0, none⟩)]) (fun L z => listNR L z) (fun l v I => l.length ≤ 5001 ∧ I = row v 9 1 l.length (l.flatMap strC)) := by
 intro B bp z tk w L s h o hR hl hi
 unfold RSt at o
 have hE := congrFun (listNR.eq_1 L z) s
 refine Spec.enter Tryz.func54 rfl Tryz.ntmps54 (by kernel_rfl) ?_
 refine (rmust_spec [40]).callL ‹_› rfl hR hl hi (fun a1 s1 v h1 hm hv hi1 hj1 oq => ?_)
 subst hv
 rw [RM.bind_of hm] at hE
 have o1 := oq
 simp only [RSt, pick, lcA, lnA, lgS, lgZ, lgN] at o1
 clear oq
 refine RSpecI.callL rnames_spec ‹_› rfl hR hl hj1 (fun l s2 v2 I2 h2 hm hv hi2 hj2 oq => ?_)
 obtain ⟨hn2, rfl⟩ := hv
 rw [RM.bind_of hm] at hE
 have o2 := oq
 simp only [RSt, pick, lcA, lnA, lgS, lgZ, lgN] at o2
 clear oq
 obtain ⟨va2, vb2, rfl⟩ := o2.rowIs 2 rfl
 refine (rmust_spec [41]).callL ‹_› rfl hR hl hj2 (fun a3 s3 v h3 hm hv hi3 hj3 oq => ?_)
 subst hv
 rw [RM.bind_of hm] at hE
 have o3 := oq
 simp only [RSt, pick, lcA, lnA, lgS, lgZ, lgN] at o3
 clear oq
 refine RetVC.one rfl ?_
 exact ⟨l, _, _, hE, ⟨hn2, rfl⟩, by omega, by omega, Own.sel ‹_› [0, 1, 2] rfl⟩

end Go.Proofs.YtnmfanjhepepbaaGreatDoor
