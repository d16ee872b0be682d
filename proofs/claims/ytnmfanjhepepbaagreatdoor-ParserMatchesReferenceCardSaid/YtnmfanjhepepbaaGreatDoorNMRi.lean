/-
 The reference's reader: select. The reference's reader: project. The reference's reader: join. The reference's reader: union. The reference's reader: minus. The reference's reader: rename. The reference's reader: group. The reference's reader: expressions.
-/
import Derived.Test.YtnmfanjhepepbaaGreatDoorNStructs
import Derived.Test.YtnmfanjhepepbaaGreatDoorNMRd
import Derived.Test.YtnmfanjhepepbaaGreatDoorNMRh
set_option linter.all false
/- The reference's reader: select. -/
namespace Go.Proofs.YtnmfanjhepepbaaGreatDoor
open Go StillVC

set_option maxHeartbeats 100000000 in
set_option maxRecDepth 100000 in
theorem rexpr_op0 (n : Nat) (hn : n ≤ 11) (ih : RExSpec n) (level : Int) (hlv : level = 13 - ((n + 1 : Nat) : Int)) (B : Base) (bp z : Nat) (tk : Item) (w : Value) (L : List Tok) (s : RS) (h : Heap) (o : Own B (RSt bp z w tk s) h) (hR : TokR tk w L) (hl : L.length ≤ 5000) (hi : s.i ≤ L.length)
  (ho : opIdxR L s = some 0) : SpecR Tryz.prog 58 [.pointer (some ⟨bp, 0, none⟩), .int .i64 level] h fun v h' =>
   ∃ x s' I, exprR L z (n + 1) s = (x, s') ∧ exV x v I ∧ s.i ≤ s'.i ∧ s'.i ≤ L.length ∧ Own B [box bp [w, .int .i64 s'.i, .int .i64 s'.e, .int .i64 s'.a, .int .i64 z] 73, tk, I] h' := by
 unfold RSt at o
 have hE := congrFun (exprR.eq_2 L z n) s
 simp only [ho] at hE
 obtain ⟨he, t, t2, hx, hx2, hk2, ht2, hsk, hsn⟩ := opIdxR_is ho
 obtain ⟨hRd, hK⟩ := hR
 have hR : TokR tk w L := ⟨hRd, hK⟩
 have hlt := drop_lt hx
 have hlt2 := drop_lt hx2
 have hhd : headR L s = t.off := by unfold headR; rw [if_pos he]; simp only [hx]
 rw [hhd] at hE
 have hx3 : L[((s.i : Int) + 1).toNat]? = some t2 := by rw [show ((s.i : Int) + 1).toNat = s.i + 1 by omega]; exact hx2
 have hsl : (strs opNames).length = 7 := rfl
 refine Spec.enter Tryz.func58 rfl Tryz.ntmps58 (by kernel_rfl) ?_
 (refine RunVC.alloc o ty49 ?_; intro b10 m10 o10)
 refine DrawVC.intro [0, 1, 2, 3, 4, 5, 7, 8, 9, 10, 11, 12, 14, 15, 16, 18, 19, 20] [6, 13, 17] [] [0, 1, 2, 3, 4, 5, 6, 7, 8, 9, 10, 11, 12, 13, 14, 15, 16, 17, 18, 19, 20] mixed (by kernel_rfl) rfl (fun _ _ _ _ h => h) ?_
 refine Br.dec (fun hc => absurd hc (by omega)) (fun c11 => ?_)
 refine Br.ff ?_
 refine run (buildK st49 ?_)
 refine And.intro rfl ?_
 (refine RunVC.alloc o10 ty49 ?_; intro b13 m13 o13)
 (refine RunVC.storeL o13 3 rfl ty49 rfl (by decide) (And.intro ⟨rfl, rfl⟩ ?_); intro m14 o14)
 refine DrawVC.intro [0, 1, 2, 4, 5, 6, 7, 8, 10, 11, 12, 14, 15, 16] [3, 9, 13] [] [0, 1, 2, 3, 4, 5, 6, 7, 8, 9, 10, 11, 12, 13, 14, 15, 16] mixed (by kernel_rfl) rfl (fun _ _ _ _ h => h) ?_
 refine nilCheck rfl ?_
 refine fieldAddr st73 rfl rfl rfl ?_
 refine loadO o14 0 rfl ty26 rfl rfl ?_
 refine Br.dec (fun c18 => ?_) (fun hc => absurd (by omega) hc)
 refine nilCheck rfl ?_
 refine fieldAddr st73 rfl rfl rfl ?_
 refine loadO o14 0 rfl ty3 rfl rfl ?_
 refine nilCheck rfl ?_
 refine fieldAddr st73 rfl rfl rfl ?_
 refine loadO o14 0 rfl ty31 rfl rfl ?_
 refine lenN (o14.reads 1 hRd rfl) sl31 ?_
 refine Br.dec (fun c26 => ?_) (fun hc => absurd (by omega) hc)
 refine DrawVC.intro [0, 1, 2, 4, 5, 6, 8, 9, 11] [3, 7, 10] [12] [0, 1, 2, 3, 4, 5, 6, 7, 8, 9, 10, 11, 12] mixed (by kernel_rfl) rfl (fun _ _ _ _ h => h) ?_
 refine nilCheck rfl ?_
 refine fieldAddr st73 rfl rfl rfl ?_
 refine loadO o14 0 rfl ty31 rfl rfl ?_
 refine nilCheck rfl ?_
 refine fieldAddr st73 rfl rfl rfl ?_
 refine loadO o14 0 rfl ty3 rfl rfl ?_
 refine idxN sl31 ty38 (o14.reads 1 hRd rfl) rfl (by omega) (by omega) ?_
 refine fieldAdr (o14.reads 1 hRd rfl) (by omega) st38 rfl rfl rfl ?_
 refine loadFF (o14.reads 1 hRd rfl) ty3 (fun _ => rfl) rfl ‹_› rfl ?_
 refine fieldAddr st49 rfl rfl rfl ?_
 (refine RunVC.storeL o14 3 rfl ty3 rfl (by decide) (And.intro ⟨rfl, rfl⟩ ?_); intro m37 o37)
 refine LoopVC.intro [6, 60, 61, 62, 63, 64, 65, 66, 67, 68, 69, 70, 71, 72, 73, 74, 75, 76, 77, 78, 79, 80, 81, 82, 83, 84, 85, 86, 87, 88, 89, 90, 91, 92, 93, 94, 95, 96, 97, 98, 99, 100, 101, 102, 103, 104, 105, 106, 107, 108, 109, 110, 111, 112, 113, 114, 115, 116, 117] [6] (fun vs hh => ∃ (i : Nat) (kd : Int), i ≤ 7 ∧ kd = (if i ≤ 0 then 1 else 2) ∧ vs = [.int .i64 i] ∧ Own B [box bp [w, .int .i64 s.i, .int .i64 s.e, .int .i64 s.a, .int .i64 z] 73, tk, box b10 [.int .i64 0, .string ⟨⟨[]⟩⟩, nilV, nilV, nilV, .string ⟨⟨[]⟩⟩, .string ⟨⟨[]⟩⟩, .int .i64 0, .int .i64 0] 49, box b13 [.int .i64 kd, .string ⟨⟨[]⟩⟩, nilV, nilV, nilV, .string ⟨⟨[]⟩⟩, .string ⟨⟨[]⟩⟩, .int .i64 0, .int .i64 t.off] 49] hh) (fun vs _ => match vs with | [.int _ i] => 7 - i.toNat | _ => 0) ?_ ?_
 ·exact ⟨0, 1, by omega, rfl, rfl, Own.sel ‹_› [0, 1, 2, 3] rfl⟩
 ·rintro vs junk hh ⟨i, kd, hi7, hkd, rfl, oh⟩
  refine DrawVC.intro [0, 2, 3, 4, 5, 6, 7, 9, 10, 11, 12, 14, 15, 16] [8, 13] [] [0, 1, 2, 3, 4, 5, 6, 7, 8, 9, 10, 11, 12, 13, 14, 15, 16] mixed (by kernel_rfl) rfl (fun _ _ _ _ h => h) ?_
  refine CallVC.ret (roperations_spec _) ?_
  rintro _ h2 ⟨bo, rfl, oc⟩
  have o2 := Own.call ‹_› oc
  simp only [lcA, lnA] at o2
  refine ⟨Own.ext oc, ?_⟩
  clear oc
  by_cases h7 : i < 7
  ·obtain ⟨nm, hnm⟩ := getx (show i < opNames.length from h7)
   have hss : (strs opNames)[i]? = some (.string ⟨⟨nm⟩⟩) := by simp [strs, hnm]
   refine lenV rfl sl42 ?_
   refine Br.dec (fun c31 => ?_) (fun hc => absurd (by omega) hc)
   refine nilCheck rfl ?_
   refine fieldAddr st73 rfl rfl rfl ?_
   refine loadO o2 0 rfl ty3 rfl rfl ?_
   refine Ar.i64 (by omega) (by omega) ?_
   refine nilCheck rfl ?_
   refine fieldAddr st73 rfl rfl rfl ?_
   refine loadO o2 0 rfl ty31 rfl rfl ?_
   refine lenN (o2.reads 1 hRd rfl) sl31 ?_
   refine Br.dec (fun c39 => ?_) (fun hc => absurd (by omega) hc)
   refine DrawVC.intro [0, 2, 3, 6, 7, 8, 9, 11, 12, 13, 15, 16, 17, 19, 20, 21, 22, 23, 24, 26, 27, 28, 30, 31, 32, 34, 35] [4, 10, 14, 18, 25, 29, 33] [] [0, 2, 1, 3, 4, 5, 6, 7, 8, 9, 10, 11, 12, 13, 14, 15, 16, 17, 18, 19, 20, 21, 22, 23, 24, 25, 26, 27, 28, 29, 30, 31, 32, 33, 34, 35] mixed (by kernel_rfl) rfl (fun _ _ _ _ h => h) ?_
   refine CallVC.ret (roperations_spec _) ?_
   rintro _ h3 ⟨bo3, rfl, oc⟩
   have o3 := Own.call ‹_› oc
   simp only [lcA, lnA] at o3
   refine ⟨Own.ext oc, ?_⟩
   clear oc
   refine idxB o3 5 rfl sl42 ty9 rfl rfl (by omega) (by first | omega | (simp; omega)) ?_
   refine loadO o3 5 rfl ty9 rfl ‹_› ?_
   refine CallVC.ret (rsees_still nm bp w L s _ (Own.cellB ‹_› 0 rfl 0) (Own.cellB ‹_› 0 rfl 1) (Own.cellB ‹_› 0 rfl 2) (Own.reads ‹_› 1 hRd rfl) hl) ?_
   rintro _ h4 ⟨rfl, oc⟩
   have o4 := oc.thenE ‹_›
   refine ⟨Own.ext oc, ?_⟩
   clear oc
   by_cases hik : i = 0
   ·have hb : seesR L nm s = true := hsk nm (by rw [← hik]; exact hnm)
    rw [hb]
    refine Br.tt ?_
    refine nilCheck rfl ?_
    refine fieldAddr st73 rfl rfl rfl ?_
    refine loadO o4 0 rfl ty31 rfl rfl ?_
    refine nilCheck rfl ?_
    refine fieldAddr st73 rfl rfl rfl ?_
    refine loadO o4 0 rfl ty3 rfl rfl ?_
    refine Ar.i64 (by omega) (by omega) ?_
    refine idxN sl31 ty38 (o4.reads 1 hRd rfl) rfl (by omega) (by omega) ?_
    refine fieldAdr (o4.reads 1 hRd rfl) (by omega) st38 rfl rfl rfl ?_
    refine loadFF (o4.reads 1 hRd rfl) ty3 (fun _ => rfl) rfl ‹_› rfl ?_
    refine Br.dec (fun c59 => ?_) (fun hc => absurd (by omega) hc)
    refine nilCheck rfl ?_
    refine fieldAddr st73 rfl rfl rfl ?_
    refine loadO o4 0 rfl ty31 rfl rfl ?_
    refine nilCheck rfl ?_
    refine fieldAddr st73 rfl rfl rfl ?_
    refine loadO o4 0 rfl ty3 rfl rfl ?_
    refine Ar.i64 (by omega) (by omega) ?_
    refine idxN sl31 ty38 (o4.reads 1 hRd rfl) rfl (by omega) (by omega) ?_
    refine fieldAdr (o4.reads 1 hRd rfl) (by omega) st38 rfl rfl rfl ?_
    refine loadFF (o4.reads 1 hRd rfl) ty9 (fun _ => rfl) rfl ‹_› rfl ?_
    refine Br.dec (fun c69 => ?_) (fun hc => absurd (by omega) hc)
    refine Ar.i64 (by omega) (by omega) ?_
    refine run (fieldAddr st49 rfl rfl rfl ?_)
    (refine RunVC.store o4 3 rfl ty3 rfl (by simp) (And.intro ⟨rfl, rfl⟩ ?_); intro m71 o71)
    refine Ar.i64 (by omega) (by omega) ?_
    refine ⟨rfl, ?_⟩
    refine ⟨⟨i + 1, 2, by omega, by rw [if_neg (by omega)], rfl, ?_⟩, by simp; omega⟩
    have e2 : (2 + (i : Int)) = 2 := by rw [hik]; rfl
    rw [← e2]
    exact Own.sel ‹_› [0, 1, 2, 3] rfl
   ·have hb : seesR L nm s = false := hsn i nm h7 hik hnm
    rw [hb]
    refine Br.ff ?_
    refine Br.ff ?_
    refine Ar.i64 (by omega) (by omega) ?_
    refine ⟨rfl, ?_⟩
    refine ⟨⟨i + 1, kd, by omega, ?_, rfl, Own.sel ‹_› [0, 1, 2, 3] rfl⟩, by simp; omega⟩
    rw [hkd]
    by_cases hle : i ≤ 0
    ·rw [if_pos hle, if_pos (by omega)]
    ·rw [if_neg hle, if_neg (by omega)]
  ·have hkd : kd = 2 := by rw [hkd]; exact if_neg (by omega)
   subst hkd
   refine lenV rfl sl42 ?_
   refine Br.dec (fun hc => absurd hc (by omega)) (fun c111 => ?_)
   refine Br.ff ?_
   refine run (fieldAddr st49 rfl rfl rfl ?_)
   refine run (loadO o2 3 rfl ty3 rfl rfl ?_)
   refine Br.ff ?_
   refine rname_spec.callL ‹_› rfl hR hl hi (fun nm_ s21 v h21 hm hv hi21 hj21 oq => ?_)
   subst hv
   rw [RM.bind_of hm] at hE
   have o21 := oq
   simp only [RSt, pick, lcA, lnA, lgS, lgZ, lgN] at o21
   clear oq
   refine (rmust_spec [40]).callL ‹_› rfl hR hl hj21 (fun a22 s22 v h22 hm hv hi22 hj22 oq => ?_)
   subst hv
   rw [RM.bind_of hm] at hE
   have o22 := oq
   simp only [RSt, pick, lcA, lnA, lgS, lgZ, lgN] at o22
   clear oq
   have o22 := Own.sel o22 [0, 1, 2, 3] rfl
   simp only [RSt, pick, lcA, lnA, lgS, lgZ, lgN] at o22
   refine Ar.i64 (by omega) (by omega) ?_
   refine RSpecI.callL (ih (level + 1) (by omega)) ‹_› rfl hR hl hj22 (fun x1 s23 v I1 h23 hm hv hi23 hj23 oq => ?_)
   obtain ⟨⟨c1, hlc1⟩, rfl, hx1⟩ := hv
   rw [RM.bind_of hm] at hE
   have o23 := oq
   simp only [RSt, pick, lcA, lnA, lgS, lgZ, lgN] at o23
   clear oq
   dsimp only at hx1
   obtain ⟨c1k, c1t, c1a1, c1n1, c1b1, c1a2, c1n2, c1b2, c1a3, c1n3, c1b3, c1a, c1s, c1g, c1o, rfl⟩ := exR_nine hx1 (Own.satK o23 2 rfl)
   rw [ifR_no (show twoB 0 = false from rfl)] at hE
   simp only [RM.assoc, RM.pure_bind, opRestR] at hE
   (refine RunVC.litN o23 sl47 ty49 rfl rfl (by decide) ?_)
   refine And.intro rfl ?_
   intro b141 m141 o141
   refine run (fieldAddr st49 rfl rfl rfl ?_)
   (refine RunVC.store o141 4 rfl ty47 rfl (by simp) (And.intro ⟨rfl, rfl⟩ ?_); intro m143 o143)
   refine run (fieldAddr st49 rfl rfl rfl ?_)
   refine run (loadO o143 4 rfl ty3 rfl rfl ?_)
   refine Br.tt ?_
   refine (rmust_spec [119, 104, 101, 114, 101]).callL ‹_› rfl hR hl hj23 (fun a24 s24 v h24 hm hv hi24 hj24 oq => ?_)
   subst hv
   rw [RM.bind_of hm] at hE
   have o24 := oq
   simp only [RSt, pick, lcA, lnA, lgS, lgZ, lgN] at o24
   clear oq
   refine RSpecI.callL rconds_spec ‹_› rfl hR hl hj24 (fun l s25 v25 I25 h25 hm hv hi25 hj25 oq => ?_)
   obtain ⟨hn25, rfl⟩ := hv
   rw [RM.bind_of hm] at hE
   have o25 := oq
   simp only [RSt, pick, lcA, lnA, lgS, lgZ, lgN] at o25
   clear oq
   obtain ⟨va25, vb25, rfl⟩ := o25.rowIs 2 rfl
   refine run (fieldAddr st49 rfl rfl rfl ?_)
   (refine RunVC.store o25 5 rfl ty46 rfl (by simp) (And.intro ⟨rfl, rfl⟩ ?_); intro m161 o161)
   refine (rmust_spec [41]).callL ‹_› rfl hR hl hj25 (fun a26 s26 v h26 hm hv hi26 hj26 oq => ?_)
   subst hv
   rw [RM.bind_of hm] at hE
   have o26 := oq
   simp only [RSt, pick, lcA, lnA, lgS, lgZ, lgN] at o26
   clear oq
   refine run (loadON o26 5 rfl ty49 rfl rfl rfl ?_)
   (refine RunVC.storeL o26 4 rfl ty49 rfl (by decide) (And.intro ⟨rfl, rfl⟩ ?_); intro m171 o171)
   first | refine RetVC.cell2 rfl o171 4 rfl ty49 rfl rfl ?_ | refine RetVC.cell1 rfl o171 4 rfl ty49 rfl rfl ?_ | refine RetVC.cellTT rfl o171 4 rfl ty49 rfl rfl ?_
   obtain ⟨W, oW, hs⟩ := Own.allM (M := [_, _]) ‹_› [2, 3, 6] [0, 1] rfl rfl
   refine ⟨.mk 2 [] [x1] l [] [] [] 0 t.off, _, W, hE, ⟨⟨exC 2 [] _ _ _ [] [] 0 t.off, rfl⟩, rfl, ?_⟩, by omega, by omega, oW.sel [1, 2, 0] rfl⟩
   rw [exR]
   exact ⟨_, _, _, rfl, (row_reads.mono (hs 0 _ rfl)), nil_reads, [⟨_, rfl⟩], (box_reads rfl (by decide)).mono (hs 2 _ rfl), exR.mono (hs 1 _ rfl) _ _ hx1, trivial⟩

end Go.Proofs.YtnmfanjhepepbaaGreatDoor

/- The reference's reader: project. -/
namespace Go.Proofs.YtnmfanjhepepbaaGreatDoor
open Go StillVC

set_option maxHeartbeats 100000000 in
set_option maxRecDepth 100000 in
theorem rexpr_op1 (n : Nat) (hn : n ≤ 11) (ih : RExSpec n) (level : Int) (hlv : level = 13 - ((n + 1 : Nat) : Int)) (B : Base) (bp z : Nat) (tk : Item) (w : Value) (L : List Tok) (s : RS) (h : Heap) (o : Own B (RSt bp z w tk s) h) (hR : TokR tk w L) (hl : L.length ≤ 5000) (hi : s.i ≤ L.length)
  (ho : opIdxR L s = some 1) : SpecR Tryz.prog 58 [.pointer (some ⟨bp, 0, none⟩), .int .i64 level] h fun v h' =>
   ∃ x s' I, exprR L z (n + 1) s = (x, s') ∧ exV x v I ∧ s.i ≤ s'.i ∧ s'.i ≤ L.length ∧ Own B [box bp [w, .int .i64 s'.i, .int .i64 s'.e, .int .i64 s'.a, .int .i64 z] 73, tk, I] h' := by
 unfold RSt at o
 have hE := congrFun (exprR.eq_2 L z n) s
 simp only [ho] at hE
 obtain ⟨he, t, t2, hx, hx2, hk2, ht2, hsk, hsn⟩ := opIdxR_is ho
 obtain ⟨hRd, hK⟩ := hR
 have hR : TokR tk w L := ⟨hRd, hK⟩
 have hlt := drop_lt hx
 have hlt2 := drop_lt hx2
 have hhd : headR L s = t.off := by unfold headR; rw [if_pos he]; simp only [hx]
 rw [hhd] at hE
 have hx3 : L[((s.i : Int) + 1).toNat]? = some t2 := by rw [show ((s.i : Int) + 1).toNat = s.i + 1 by omega]; exact hx2
 have hsl : (strs opNames).length = 7 := rfl
 refine Spec.enter Tryz.func58 rfl Tryz.ntmps58 (by kernel_rfl) ?_
 (refine RunVC.alloc o ty49 ?_; intro b10 m10 o10)
 refine DrawVC.intro [0, 1, 2, 3, 4, 5, 7, 8, 9, 10, 11, 12, 14, 15, 16, 18, 19, 20] [6, 13, 17] [] [0, 1, 2, 3, 4, 5, 6, 7, 8, 9, 10, 11, 12, 13, 14, 15, 16, 17, 18, 19, 20] mixed (by kernel_rfl) rfl (fun _ _ _ _ h => h) ?_
 refine Br.dec (fun hc => absurd hc (by omega)) (fun c11 => ?_)
 refine Br.ff ?_
 refine run (buildK st49 ?_)
 refine And.intro rfl ?_
 (refine RunVC.alloc o10 ty49 ?_; intro b13 m13 o13)
 (refine RunVC.storeL o13 3 rfl ty49 rfl (by decide) (And.intro ⟨rfl, rfl⟩ ?_); intro m14 o14)
 refine DrawVC.intro [0, 1, 2, 4, 5, 6, 7, 8, 10, 11, 12, 14, 15, 16] [3, 9, 13] [] [0, 1, 2, 3, 4, 5, 6, 7, 8, 9, 10, 11, 12, 13, 14, 15, 16] mixed (by kernel_rfl) rfl (fun _ _ _ _ h => h) ?_
 refine nilCheck rfl ?_
 refine fieldAddr st73 rfl rfl rfl ?_
 refine loadO o14 0 rfl ty26 rfl rfl ?_
 refine Br.dec (fun c18 => ?_) (fun hc => absurd (by omega) hc)
 refine nilCheck rfl ?_
 refine fieldAddr st73 rfl rfl rfl ?_
 refine loadO o14 0 rfl ty3 rfl rfl ?_
 refine nilCheck rfl ?_
 refine fieldAddr st73 rfl rfl rfl ?_
 refine loadO o14 0 rfl ty31 rfl rfl ?_
 refine lenN (o14.reads 1 hRd rfl) sl31 ?_
 refine Br.dec (fun c26 => ?_) (fun hc => absurd (by omega) hc)
 refine DrawVC.intro [0, 1, 2, 4, 5, 6, 8, 9, 11] [3, 7, 10] [12] [0, 1, 2, 3, 4, 5, 6, 7, 8, 9, 10, 11, 12] mixed (by kernel_rfl) rfl (fun _ _ _ _ h => h) ?_
 refine nilCheck rfl ?_
 refine fieldAddr st73 rfl rfl rfl ?_
 refine loadO o14 0 rfl ty31 rfl rfl ?_
 refine nilCheck rfl ?_
 refine fieldAddr st73 rfl rfl rfl ?_
 refine loadO o14 0 rfl ty3 rfl rfl ?_
 refine idxN sl31 ty38 (o14.reads 1 hRd rfl) rfl (by omega) (by omega) ?_
 refine fieldAdr (o14.reads 1 hRd rfl) (by omega) st38 rfl rfl rfl ?_
 refine loadFF (o14.reads 1 hRd rfl) ty3 (fun _ => rfl) rfl ‹_› rfl ?_
 refine fieldAddr st49 rfl rfl rfl ?_
 (refine RunVC.storeL o14 3 rfl ty3 rfl (by decide) (And.intro ⟨rfl, rfl⟩ ?_); intro m37 o37)
 refine LoopVC.intro [6, 60, 61, 62, 63, 64, 65, 66, 67, 68, 69, 70, 71, 72, 73, 74, 75, 76, 77, 78, 79, 80, 81, 82, 83, 84, 85, 86, 87, 88, 89, 90, 91, 92, 93, 94, 95, 96, 97, 98, 99, 100, 101, 102, 103, 104, 105, 106, 107, 108, 109, 110, 111, 112, 113, 114, 115, 116, 117] [6] (fun vs hh => ∃ (i : Nat) (kd : Int), i ≤ 7 ∧ kd = (if i ≤ 1 then 1 else 3) ∧ vs = [.int .i64 i] ∧ Own B [box bp [w, .int .i64 s.i, .int .i64 s.e, .int .i64 s.a, .int .i64 z] 73, tk, box b10 [.int .i64 0, .string ⟨⟨[]⟩⟩, nilV, nilV, nilV, .string ⟨⟨[]⟩⟩, .string ⟨⟨[]⟩⟩, .int .i64 0, .int .i64 0] 49, box b13 [.int .i64 kd, .string ⟨⟨[]⟩⟩, nilV, nilV, nilV, .string ⟨⟨[]⟩⟩, .string ⟨⟨[]⟩⟩, .int .i64 0, .int .i64 t.off] 49] hh) (fun vs _ => match vs with | [.int _ i] => 7 - i.toNat | _ => 0) ?_ ?_
 ·exact ⟨0, 1, by omega, rfl, rfl, Own.sel ‹_› [0, 1, 2, 3] rfl⟩
 ·rintro vs junk hh ⟨i, kd, hi7, hkd, rfl, oh⟩
  refine DrawVC.intro [0, 2, 3, 4, 5, 6, 7, 9, 10, 11, 12, 14, 15, 16] [8, 13] [] [0, 1, 2, 3, 4, 5, 6, 7, 8, 9, 10, 11, 12, 13, 14, 15, 16] mixed (by kernel_rfl) rfl (fun _ _ _ _ h => h) ?_
  refine CallVC.ret (roperations_spec _) ?_
  rintro _ h2 ⟨bo, rfl, oc⟩
  have o2 := Own.call ‹_› oc
  simp only [lcA, lnA] at o2
  refine ⟨Own.ext oc, ?_⟩
  clear oc
  by_cases h7 : i < 7
  ·obtain ⟨nm, hnm⟩ := getx (show i < opNames.length from h7)
   have hss : (strs opNames)[i]? = some (.string ⟨⟨nm⟩⟩) := by simp [strs, hnm]
   refine lenV rfl sl42 ?_
   refine Br.dec (fun c31 => ?_) (fun hc => absurd (by omega) hc)
   refine nilCheck rfl ?_
   refine fieldAddr st73 rfl rfl rfl ?_
   refine loadO o2 0 rfl ty3 rfl rfl ?_
   refine Ar.i64 (by omega) (by omega) ?_
   refine nilCheck rfl ?_
   refine fieldAddr st73 rfl rfl rfl ?_
   refine loadO o2 0 rfl ty31 rfl rfl ?_
   refine lenN (o2.reads 1 hRd rfl) sl31 ?_
   refine Br.dec (fun c39 => ?_) (fun hc => absurd (by omega) hc)
   refine DrawVC.intro [0, 2, 3, 6, 7, 8, 9, 11, 12, 13, 15, 16, 17, 19, 20, 21, 22, 23, 24, 26, 27, 28, 30, 31, 32, 34, 35] [4, 10, 14, 18, 25, 29, 33] [] [0, 2, 1, 3, 4, 5, 6, 7, 8, 9, 10, 11, 12, 13, 14, 15, 16, 17, 18, 19, 20, 21, 22, 23, 24, 25, 26, 27, 28, 29, 30, 31, 32, 33, 34, 35] mixed (by kernel_rfl) rfl (fun _ _ _ _ h => h) ?_
   refine CallVC.ret (roperations_spec _) ?_
   rintro _ h3 ⟨bo3, rfl, oc⟩
   have o3 := Own.call ‹_› oc
   simp only [lcA, lnA] at o3
   refine ⟨Own.ext oc, ?_⟩
   clear oc
   refine idxB o3 5 rfl sl42 ty9 rfl rfl (by omega) (by first | omega | (simp; omega)) ?_
   refine loadO o3 5 rfl ty9 rfl ‹_› ?_
   refine CallVC.ret (rsees_still nm bp w L s _ (Own.cellB ‹_› 0 rfl 0) (Own.cellB ‹_› 0 rfl 1) (Own.cellB ‹_› 0 rfl 2) (Own.reads ‹_› 1 hRd rfl) hl) ?_
   rintro _ h4 ⟨rfl, oc⟩
   have o4 := oc.thenE ‹_›
   refine ⟨Own.ext oc, ?_⟩
   clear oc
   by_cases hik : i = 1
   ·have hb : seesR L nm s = true := hsk nm (by rw [← hik]; exact hnm)
    rw [hb]
    refine Br.tt ?_
    refine nilCheck rfl ?_
    refine fieldAddr st73 rfl rfl rfl ?_
    refine loadO o4 0 rfl ty31 rfl rfl ?_
    refine nilCheck rfl ?_
    refine fieldAddr st73 rfl rfl rfl ?_
    refine loadO o4 0 rfl ty3 rfl rfl ?_
    refine Ar.i64 (by omega) (by omega) ?_
    refine idxN sl31 ty38 (o4.reads 1 hRd rfl) rfl (by omega) (by omega) ?_
    refine fieldAdr (o4.reads 1 hRd rfl) (by omega) st38 rfl rfl rfl ?_
    refine loadFF (o4.reads 1 hRd rfl) ty3 (fun _ => rfl) rfl ‹_› rfl ?_
    refine Br.dec (fun c59 => ?_) (fun hc => absurd (by omega) hc)
    refine nilCheck rfl ?_
    refine fieldAddr st73 rfl rfl rfl ?_
    refine loadO o4 0 rfl ty31 rfl rfl ?_
    refine nilCheck rfl ?_
    refine fieldAddr st73 rfl rfl rfl ?_
    refine loadO o4 0 rfl ty3 rfl rfl ?_
    refine Ar.i64 (by omega) (by omega) ?_
    refine idxN sl31 ty38 (o4.reads 1 hRd rfl) rfl (by omega) (by omega) ?_
    refine fieldAdr (o4.reads 1 hRd rfl) (by omega) st38 rfl rfl rfl ?_
    refine loadFF (o4.reads 1 hRd rfl) ty9 (fun _ => rfl) rfl ‹_› rfl ?_
    refine Br.dec (fun c69 => ?_) (fun hc => absurd (by omega) hc)
    refine Ar.i64 (by omega) (by omega) ?_
    refine run (fieldAddr st49 rfl rfl rfl ?_)
    (refine RunVC.store o4 3 rfl ty3 rfl (by simp) (And.intro ⟨rfl, rfl⟩ ?_); intro m71 o71)
    refine Ar.i64 (by omega) (by omega) ?_
    refine ⟨rfl, ?_⟩
    refine ⟨⟨i + 1, 3, by omega, by rw [if_neg (by omega)], rfl, ?_⟩, by simp; omega⟩
    have e2 : (2 + (i : Int)) = 3 := by rw [hik]; rfl
    rw [← e2]
    exact Own.sel ‹_› [0, 1, 2, 3] rfl
   ·have hb : seesR L nm s = false := hsn i nm h7 hik hnm
    rw [hb]
    refine Br.ff ?_
    refine Br.ff ?_
    refine Ar.i64 (by omega) (by omega) ?_
    refine ⟨rfl, ?_⟩
    refine ⟨⟨i + 1, kd, by omega, ?_, rfl, Own.sel ‹_› [0, 1, 2, 3] rfl⟩, by simp; omega⟩
    rw [hkd]
    by_cases hle : i ≤ 1
    ·rw [if_pos hle, if_pos (by omega)]
    ·rw [if_neg hle, if_neg (by omega)]
  ·have hkd : kd = 3 := by rw [hkd]; exact if_neg (by omega)
   subst hkd
   refine lenV rfl sl42 ?_
   refine Br.dec (fun hc => absurd hc (by omega)) (fun c111 => ?_)
   refine Br.ff ?_
   refine run (fieldAddr st49 rfl rfl rfl ?_)
   refine run (loadO o2 3 rfl ty3 rfl rfl ?_)
   refine Br.ff ?_
   refine rname_spec.callL ‹_› rfl hR hl hi (fun nm_ s21 v h21 hm hv hi21 hj21 oq => ?_)
   subst hv
   rw [RM.bind_of hm] at hE
   have o21 := oq
   simp only [RSt, pick, lcA, lnA, lgS, lgZ, lgN] at o21
   clear oq
   refine (rmust_spec [40]).callL ‹_› rfl hR hl hj21 (fun a22 s22 v h22 hm hv hi22 hj22 oq => ?_)
   subst hv
   rw [RM.bind_of hm] at hE
   have o22 := oq
   simp only [RSt, pick, lcA, lnA, lgS, lgZ, lgN] at o22
   clear oq
   have o22 := Own.sel o22 [0, 1, 2, 3] rfl
   simp only [RSt, pick, lcA, lnA, lgS, lgZ, lgN] at o22
   refine Ar.i64 (by omega) (by omega) ?_
   refine RSpecI.callL (ih (level + 1) (by omega)) ‹_› rfl hR hl hj22 (fun x1 s23 v I1 h23 hm hv hi23 hj23 oq => ?_)
   obtain ⟨⟨c1, hlc1⟩, rfl, hx1⟩ := hv
   rw [RM.bind_of hm] at hE
   have o23 := oq
   simp only [RSt, pick, lcA, lnA, lgS, lgZ, lgN] at o23
   clear oq
   dsimp only at hx1
   obtain ⟨c1k, c1t, c1a1, c1n1, c1b1, c1a2, c1n2, c1b2, c1a3, c1n3, c1b3, c1a, c1s, c1g, c1o, rfl⟩ := exR_nine hx1 (Own.satK o23 2 rfl)
   rw [ifR_no (show twoB 1 = false from rfl)] at hE
   simp only [RM.assoc, RM.pure_bind, opRestR] at hE
   (refine RunVC.litN o23 sl47 ty49 rfl rfl (by decide) ?_)
   refine And.intro rfl ?_
   intro b141 m141 o141
   refine run (fieldAddr st49 rfl rfl rfl ?_)
   (refine RunVC.store o141 4 rfl ty47 rfl (by simp) (And.intro ⟨rfl, rfl⟩ ?_); intro m143 o143)
   refine run (fieldAddr st49 rfl rfl rfl ?_)
   refine run (loadO o143 4 rfl ty3 rfl rfl ?_)
   refine Br.ff ?_
   refine Br.tt ?_
   refine (rmust_spec [111, 110]).callL ‹_› rfl hR hl hj23 (fun a24 s24 v h24 hm hv hi24 hj24 oq => ?_)
   subst hv
   rw [RM.bind_of hm] at hE
   have o24 := oq
   simp only [RSt, pick, lcA, lnA, lgS, lgZ, lgN] at o24
   clear oq
   refine (rsees_spec [41]).callL ‹_› rfl hR hl hj24 (fun b s25 v h25 hm hv hi25 hj25 oq => ?_)
   subst hv
   injection hm with hb hs_
   subst hs_
   have o25 := oq
   simp only [RSt, pick, lcA, lnA, lgS, lgZ, lgN] at o25
   clear oq
   cases b with
   | true =>
    have hU : namesUR L z [41] _ = ([], _) := if_pos hb
    rw [RM.bind_of hU] at hE
    refine Br.ff ?_
    refine (rmust_spec [41]).callL ‹_› rfl hR hl hj25 (fun a26 s26 v h26 hm hv hi26 hj26 oq => ?_)
    subst hv
    rw [RM.bind_of hm] at hE
    have o26 := oq
    simp only [RSt, pick, lcA, lnA, lgS, lgZ, lgN] at o26
    clear oq
    refine run (loadON o26 4 rfl ty49 rfl rfl rfl ?_)
    (refine RunVC.storeL o26 3 rfl ty49 rfl (by decide) (And.intro ⟨rfl, rfl⟩ ?_); intro m171 o171)
    first | refine RetVC.cell2 rfl o171 3 rfl ty49 rfl rfl ?_ | refine RetVC.cell1 rfl o171 3 rfl ty49 rfl rfl ?_ | refine RetVC.cellTT rfl o171 3 rfl ty49 rfl rfl ?_
    obtain ⟨W, oW, hs⟩ := Own.allM (M := [_, _]) ‹_› [2, 5] [0, 1] rfl rfl
    refine ⟨.mk 3 [] [x1] [] [] [] [] 0 t.off, _, W, hE, ⟨⟨exC 3 [] _ _ _ [] [] 0 t.off, rfl⟩, rfl, ?_⟩, by omega, by omega, oW.sel [1, 2, 0] rfl⟩
    rw [exR]
    exact ⟨_, _, _, rfl, nil_reads, nil_reads, [⟨_, rfl⟩], (box_reads rfl (by decide)).mono (hs 1 _ rfl), exR.mono (hs 0 _ rfl) _ _ hx1, trivial⟩
   | false =>
    refine Br.tt ?_
    refine RSpecI.callL rnames_spec ‹_› rfl hR hl hj25 (fun l s27 v27 I27 h27 hm hv hi27 hj27 oq => ?_)
    obtain ⟨hn27, rfl⟩ := hv
    have hU : namesUR L z [41] _ = (l, _) := (if_neg (by rw [hb]; decide)).trans hm
    rw [RM.bind_of hU] at hE
    have o27 := oq
    simp only [RSt, pick, lcA, lnA, lgS, lgZ, lgN] at o27
    clear oq
    obtain ⟨va27, vb27, rfl⟩ := o27.rowIs 2 rfl
    refine run (fieldAddr st49 rfl rfl rfl ?_)
    (refine RunVC.store o27 5 rfl ty42 rfl (by simp) (And.intro ⟨rfl, rfl⟩ ?_); intro m191 o191)
    refine (rmust_spec [41]).callL ‹_› rfl hR hl hj27 (fun a28 s28 v h28 hm hv hi28 hj28 oq => ?_)
    subst hv
    rw [RM.bind_of hm] at hE
    have o28 := oq
    simp only [RSt, pick, lcA, lnA, lgS, lgZ, lgN] at o28
    clear oq
    refine run (loadON o28 5 rfl ty49 rfl rfl rfl ?_)
    (refine RunVC.storeL o28 4 rfl ty49 rfl (by decide) (And.intro ⟨rfl, rfl⟩ ?_); intro m201 o201)
    first | refine RetVC.cell2 rfl o201 4 rfl ty49 rfl rfl ?_ | refine RetVC.cell1 rfl o201 4 rfl ty49 rfl rfl ?_ | refine RetVC.cellTT rfl o201 4 rfl ty49 rfl rfl ?_
    obtain ⟨W, oW, hs⟩ := Own.allM (M := [_, _]) ‹_› [2, 3, 6] [0, 1] rfl rfl
    refine ⟨.mk 3 [] [x1] [] l [] [] 0 t.off, _, W, hE, ⟨⟨exC 3 [] _ _ _ [] [] 0 t.off, rfl⟩, rfl, ?_⟩, by omega, by omega, oW.sel [1, 2, 0] rfl⟩
    rw [exR]
    exact ⟨_, _, _, rfl, nil_reads, (row_reads.mono (hs 0 _ rfl)), [⟨_, rfl⟩], (box_reads rfl (by decide)).mono (hs 2 _ rfl), exR.mono (hs 1 _ rfl) _ _ hx1, trivial⟩

end Go.Proofs.YtnmfanjhepepbaaGreatDoor

/- The reference's reader: join. -/
namespace Go.Proofs.YtnmfanjhepepbaaGreatDoor
open Go StillVC

set_option maxHeartbeats 100000000 in
set_option maxRecDepth 100000 in
theorem rexpr_op2 (n : Nat) (hn : n ≤ 11) (ih : RExSpec n) (level : Int) (hlv : level = 13 - ((n + 1 : Nat) : Int)) (B : Base) (bp z : Nat) (tk : Item) (w : Value) (L : List Tok) (s : RS) (h : Heap) (o : Own B (RSt bp z w tk s) h) (hR : TokR tk w L) (hl : L.length ≤ 5000) (hi : s.i ≤ L.length)
  (ho : opIdxR L s = some 2) : SpecR Tryz.prog 58 [.pointer (some ⟨bp, 0, none⟩), .int .i64 level] h fun v h' =>
   ∃ x s' I, exprR L z (n + 1) s = (x, s') ∧ exV x v I ∧ s.i ≤ s'.i ∧ s'.i ≤ L.length ∧ Own B [box bp [w, .int .i64 s'.i, .int .i64 s'.e, .int .i64 s'.a, .int .i64 z] 73, tk, I] h' := by
 unfold RSt at o
 have hE := congrFun (exprR.eq_2 L z n) s
 simp only [ho] at hE
 obtain ⟨he, t, t2, hx, hx2, hk2, ht2, hsk, hsn⟩ := opIdxR_is ho
 obtain ⟨hRd, hK⟩ := hR
 have hR : TokR tk w L := ⟨hRd, hK⟩
 have hlt := drop_lt hx
 have hlt2 := drop_lt hx2
 have hhd : headR L s = t.off := by unfold headR; rw [if_pos he]; simp only [hx]
 rw [hhd] at hE
 have hx3 : L[((s.i : Int) + 1).toNat]? = some t2 := by rw [show ((s.i : Int) + 1).toNat = s.i + 1 by omega]; exact hx2
 have hsl : (strs opNames).length = 7 := rfl
 refine Spec.enter Tryz.func58 rfl Tryz.ntmps58 (by kernel_rfl) ?_
 (refine RunVC.alloc o ty49 ?_; intro b10 m10 o10)
 refine DrawVC.intro [0, 1, 2, 3, 4, 5, 7, 8, 9, 10, 11, 12, 14, 15, 16, 18, 19, 20] [6, 13, 17] [] [0, 1, 2, 3, 4, 5, 6, 7, 8, 9, 10, 11, 12, 13, 14, 15, 16, 17, 18, 19, 20] mixed (by kernel_rfl) rfl (fun _ _ _ _ h => h) ?_
 refine Br.dec (fun hc => absurd hc (by omega)) (fun c11 => ?_)
 refine Br.ff ?_
 refine run (buildK st49 ?_)
 refine And.intro rfl ?_
 (refine RunVC.alloc o10 ty49 ?_; intro b13 m13 o13)
 (refine RunVC.storeL o13 3 rfl ty49 rfl (by decide) (And.intro ⟨rfl, rfl⟩ ?_); intro m14 o14)
 refine DrawVC.intro [0, 1, 2, 4, 5, 6, 7, 8, 10, 11, 12, 14, 15, 16] [3, 9, 13] [] [0, 1, 2, 3, 4, 5, 6, 7, 8, 9, 10, 11, 12, 13, 14, 15, 16] mixed (by kernel_rfl) rfl (fun _ _ _ _ h => h) ?_
 refine nilCheck rfl ?_
 refine fieldAddr st73 rfl rfl rfl ?_
 refine loadO o14 0 rfl ty26 rfl rfl ?_
 refine Br.dec (fun c18 => ?_) (fun hc => absurd (by omega) hc)
 refine nilCheck rfl ?_
 refine fieldAddr st73 rfl rfl rfl ?_
 refine loadO o14 0 rfl ty3 rfl rfl ?_
 refine nilCheck rfl ?_
 refine fieldAddr st73 rfl rfl rfl ?_
 refine loadO o14 0 rfl ty31 rfl rfl ?_
 refine lenN (o14.reads 1 hRd rfl) sl31 ?_
 refine Br.dec (fun c26 => ?_) (fun hc => absurd (by omega) hc)
 refine DrawVC.intro [0, 1, 2, 4, 5, 6, 8, 9, 11] [3, 7, 10] [12] [0, 1, 2, 3, 4, 5, 6, 7, 8, 9, 10, 11, 12] mixed (by kernel_rfl) rfl (fun _ _ _ _ h => h) ?_
 refine nilCheck rfl ?_
 refine fieldAddr st73 rfl rfl rfl ?_
 refine loadO o14 0 rfl ty31 rfl rfl ?_
 refine nilCheck rfl ?_
 refine fieldAddr st73 rfl rfl rfl ?_
 refine loadO o14 0 rfl ty3 rfl rfl ?_
 refine idxN sl31 ty38 (o14.reads 1 hRd rfl) rfl (by omega) (by omega) ?_
 refine fieldAdr (o14.reads 1 hRd rfl) (by omega) st38 rfl rfl rfl ?_
 refine loadFF (o14.reads 1 hRd rfl) ty3 (fun _ => rfl) rfl ‹_› rfl ?_
 refine fieldAddr st49 rfl rfl rfl ?_
 (refine RunVC.storeL o14 3 rfl ty3 rfl (by decide) (And.intro ⟨rfl, rfl⟩ ?_); intro m37 o37)
 refine LoopVC.intro [6, 60, 61, 62, 63, 64, 65, 66, 67, 68, 69, 70, 71, 72, 73, 74, 75, 76, 77, 78, 79, 80, 81, 82, 83, 84, 85, 86, 87, 88, 89, 90, 91, 92, 93, 94, 95, 96, 97, 98, 99, 100, 101, 102, 103, 104, 105, 106, 107, 108, 109, 110, 111, 112, 113, 114, 115, 116, 117] [6] (fun vs hh => ∃ (i : Nat) (kd : Int), i ≤ 7 ∧ kd = (if i ≤ 2 then 1 else 4) ∧ vs = [.int .i64 i] ∧ Own B [box bp [w, .int .i64 s.i, .int .i64 s.e, .int .i64 s.a, .int .i64 z] 73, tk, box b10 [.int .i64 0, .string ⟨⟨[]⟩⟩, nilV, nilV, nilV, .string ⟨⟨[]⟩⟩, .string ⟨⟨[]⟩⟩, .int .i64 0, .int .i64 0] 49, box b13 [.int .i64 kd, .string ⟨⟨[]⟩⟩, nilV, nilV, nilV, .string ⟨⟨[]⟩⟩, .string ⟨⟨[]⟩⟩, .int .i64 0, .int .i64 t.off] 49] hh) (fun vs _ => match vs with | [.int _ i] => 7 - i.toNat | _ => 0) ?_ ?_
 ·exact ⟨0, 1, by omega, rfl, rfl, Own.sel ‹_› [0, 1, 2, 3] rfl⟩
 ·rintro vs junk hh ⟨i, kd, hi7, hkd, rfl, oh⟩
  refine DrawVC.intro [0, 2, 3, 4, 5, 6, 7, 9, 10, 11, 12, 14, 15, 16] [8, 13] [] [0, 1, 2, 3, 4, 5, 6, 7, 8, 9, 10, 11, 12, 13, 14, 15, 16] mixed (by kernel_rfl) rfl (fun _ _ _ _ h => h) ?_
  refine CallVC.ret (roperations_spec _) ?_
  rintro _ h2 ⟨bo, rfl, oc⟩
  have o2 := Own.call ‹_› oc
  simp only [lcA, lnA] at o2
  refine ⟨Own.ext oc, ?_⟩
  clear oc
  by_cases h7 : i < 7
  ·obtain ⟨nm, hnm⟩ := getx (show i < opNames.length from h7)
   have hss : (strs opNames)[i]? = some (.string ⟨⟨nm⟩⟩) := by simp [strs, hnm]
   refine lenV rfl sl42 ?_
   refine Br.dec (fun c31 => ?_) (fun hc => absurd (by omega) hc)
   refine nilCheck rfl ?_
   refine fieldAddr st73 rfl rfl rfl ?_
   refine loadO o2 0 rfl ty3 rfl rfl ?_
   refine Ar.i64 (by omega) (by omega) ?_
   refine nilCheck rfl ?_
   refine fieldAddr st73 rfl rfl rfl ?_
   refine loadO o2 0 rfl ty31 rfl rfl ?_
   refine lenN (o2.reads 1 hRd rfl) sl31 ?_
   refine Br.dec (fun c39 => ?_) (fun hc => absurd (by omega) hc)
   refine DrawVC.intro [0, 2, 3, 6, 7, 8, 9, 11, 12, 13, 15, 16, 17, 19, 20, 21, 22, 23, 24, 26, 27, 28, 30, 31, 32, 34, 35] [4, 10, 14, 18, 25, 29, 33] [] [0, 2, 1, 3, 4, 5, 6, 7, 8, 9, 10, 11, 12, 13, 14, 15, 16, 17, 18, 19, 20, 21, 22, 23, 24, 25, 26, 27, 28, 29, 30, 31, 32, 33, 34, 35] mixed (by kernel_rfl) rfl (fun _ _ _ _ h => h) ?_
   refine CallVC.ret (roperations_spec _) ?_
   rintro _ h3 ⟨bo3, rfl, oc⟩
   have o3 := Own.call ‹_› oc
   simp only [lcA, lnA] at o3
   refine ⟨Own.ext oc, ?_⟩
   clear oc
   refine idxB o3 5 rfl sl42 ty9 rfl rfl (by omega) (by first | omega | (simp; omega)) ?_
   refine loadO o3 5 rfl ty9 rfl ‹_› ?_
   refine CallVC.ret (rsees_still nm bp w L s _ (Own.cellB ‹_› 0 rfl 0) (Own.cellB ‹_› 0 rfl 1) (Own.cellB ‹_› 0 rfl 2) (Own.reads ‹_› 1 hRd rfl) hl) ?_
   rintro _ h4 ⟨rfl, oc⟩
   have o4 := oc.thenE ‹_›
   refine ⟨Own.ext oc, ?_⟩
   clear oc
   by_cases hik : i = 2
   ·have hb : seesR L nm s = true := hsk nm (by rw [← hik]; exact hnm)
    rw [hb]
    refine Br.tt ?_
    refine nilCheck rfl ?_
    refine fieldAddr st73 rfl rfl rfl ?_
    refine loadO o4 0 rfl ty31 rfl rfl ?_
    refine nilCheck rfl ?_
    refine fieldAddr st73 rfl rfl rfl ?_
    refine loadO o4 0 rfl ty3 rfl rfl ?_
    refine Ar.i64 (by omega) (by omega) ?_
    refine idxN sl31 ty38 (o4.reads 1 hRd rfl) rfl (by omega) (by omega) ?_
    refine fieldAdr (o4.reads 1 hRd rfl) (by omega) st38 rfl rfl rfl ?_
    refine loadFF (o4.reads 1 hRd rfl) ty3 (fun _ => rfl) rfl ‹_› rfl ?_
    refine Br.dec (fun c59 => ?_) (fun hc => absurd (by omega) hc)
    refine nilCheck rfl ?_
    refine fieldAddr st73 rfl rfl rfl ?_
    refine loadO o4 0 rfl ty31 rfl rfl ?_
    refine nilCheck rfl ?_
    refine fieldAddr st73 rfl rfl rfl ?_
    refine loadO o4 0 rfl ty3 rfl rfl ?_
    refine Ar.i64 (by omega) (by omega) ?_
    refine idxN sl31 ty38 (o4.reads 1 hRd rfl) rfl (by omega) (by omega) ?_
    refine fieldAdr (o4.reads 1 hRd rfl) (by omega) st38 rfl rfl rfl ?_
    refine loadFF (o4.reads 1 hRd rfl) ty9 (fun _ => rfl) rfl ‹_› rfl ?_
    refine Br.dec (fun c69 => ?_) (fun hc => absurd (by omega) hc)
    refine Ar.i64 (by omega) (by omega) ?_
    refine run (fieldAddr st49 rfl rfl rfl ?_)
    (refine RunVC.store o4 3 rfl ty3 rfl (by simp) (And.intro ⟨rfl, rfl⟩ ?_); intro m71 o71)
    refine Ar.i64 (by omega) (by omega) ?_
    refine ⟨rfl, ?_⟩
    refine ⟨⟨i + 1, 4, by omega, by rw [if_neg (by omega)], rfl, ?_⟩, by simp; omega⟩
    have e2 : (2 + (i : Int)) = 4 := by rw [hik]; rfl
    rw [← e2]
    exact Own.sel ‹_› [0, 1, 2, 3] rfl
   ·have hb : seesR L nm s = false := hsn i nm h7 hik hnm
    rw [hb]
    refine Br.ff ?_
    refine Br.ff ?_
    refine Ar.i64 (by omega) (by omega) ?_
    refine ⟨rfl, ?_⟩
    refine ⟨⟨i + 1, kd, by omega, ?_, rfl, Own.sel ‹_› [0, 1, 2, 3] rfl⟩, by simp; omega⟩
    rw [hkd]
    by_cases hle : i ≤ 2
    ·rw [if_pos hle, if_pos (by omega)]
    ·rw [if_neg hle, if_neg (by omega)]
  ·have hkd : kd = 4 := by rw [hkd]; exact if_neg (by omega)
   subst hkd
   refine lenV rfl sl42 ?_
   refine Br.dec (fun hc => absurd hc (by omega)) (fun c111 => ?_)
   refine Br.ff ?_
   refine run (fieldAddr st49 rfl rfl rfl ?_)
   refine run (loadO o2 3 rfl ty3 rfl rfl ?_)
   refine Br.ff ?_
   refine rname_spec.callL ‹_› rfl hR hl hi (fun nm_ s21 v h21 hm hv hi21 hj21 oq => ?_)
   subst hv
   rw [RM.bind_of hm] at hE
   have o21 := oq
   simp only [RSt, pick, lcA, lnA, lgS, lgZ, lgN] at o21
   clear oq
   refine (rmust_spec [40]).callL ‹_› rfl hR hl hj21 (fun a22 s22 v h22 hm hv hi22 hj22 oq => ?_)
   subst hv
   rw [RM.bind_of hm] at hE
   have o22 := oq
   simp only [RSt, pick, lcA, lnA, lgS, lgZ, lgN] at o22
   clear oq
   have o22 := Own.sel o22 [0, 1, 2, 3] rfl
   simp only [RSt, pick, lcA, lnA, lgS, lgZ, lgN] at o22
   refine Ar.i64 (by omega) (by omega) ?_
   refine RSpecI.callL (ih (level + 1) (by omega)) ‹_› rfl hR hl hj22 (fun x1 s23 v I1 h23 hm hv hi23 hj23 oq => ?_)
   obtain ⟨⟨c1, hlc1⟩, rfl, hx1⟩ := hv
   rw [RM.bind_of hm] at hE
   have o23 := oq
   simp only [RSt, pick, lcA, lnA, lgS, lgZ, lgN] at o23
   clear oq
   dsimp only at hx1
   obtain ⟨c1k, c1t, c1a1, c1n1, c1b1, c1a2, c1n2, c1b2, c1a3, c1n3, c1b3, c1a, c1s, c1g, c1o, rfl⟩ := exR_nine hx1 (Own.satK o23 2 rfl)
   rw [ifR_yes (show twoB 2 = true from rfl)] at hE
   simp only [RM.assoc, RM.pure_bind, opRestR] at hE
   (refine RunVC.litN o23 sl47 ty49 rfl rfl (by decide) ?_)
   refine And.intro rfl ?_
   intro b141 m141 o141
   refine run (fieldAddr st49 rfl rfl rfl ?_)
   (refine RunVC.store o141 4 rfl ty47 rfl (by simp) (And.intro ⟨rfl, rfl⟩ ?_); intro m143 o143)
   refine run (fieldAddr st49 rfl rfl rfl ?_)
   refine run (loadO o143 4 rfl ty3 rfl rfl ?_)
   refine Br.ff ?_
   refine Br.ff ?_
   refine Br.ff ?_
   refine Br.ff ?_
   refine (rmust_spec [44]).callL ‹_› rfl hR hl hj23 (fun a24 s24 v h24 hm hv hi24 hj24 oq => ?_)
   subst hv
   rw [RM.bind_of hm] at hE
   have o24 := oq
   simp only [RSt, pick, lcA, lnA, lgS, lgZ, lgN] at o24
   clear oq
   have oR := Own.boxRow o24 5 rfl 9 1 1 rfl (Nat.le_refl _) (by decide)
   simp only [lsS, lsZ] at oR
   clear o24
   refine DrawVC.introB b13 [0, 2, 3, 4, 8] [1] [7, 9] [0, 1, 2, 3, 4, 5, 6, 7, 8, 9] mixed (by kernel_rfl) rfl (fun _ _ _ _ h => h) ?_
   refine fieldAddr st49 rfl rfl rfl ?_
   refine StillVCA.load1 ty47 rfl rfl ((oR.cellB 4 rfl _).trans rfl) ?_
   refine Ar.i64 (by omega) (by omega) ?_
   refine RSpecI.callL (ih (level + 1) (by omega)) ‹_› rfl hR hl hj24 (fun x2 s25 v I2 h25 hm hv hi25 hj25 oq => ?_)
   obtain ⟨⟨c2, hlc2⟩, rfl, hx2⟩ := hv
   rw [RM.bind_of hm] at hE
   have o25 := oq
   simp only [RSt, pick, lcA, lnA, lgS, lgZ, lgN] at o25
   clear oq
   dsimp only at hx2
   obtain ⟨c2k, c2t, c2a1, c2n1, c2b1, c2a2, c2n2, c2b2, c2a3, c2n3, c2b3, c2a, c2s, c2g, c2o, rfl⟩ := exR_nine hx2 (Own.satK o25 2 rfl)
   refine ⟨Eq.trans (Own.satK o25 5 rfl) (Eq.symm (Own.satK (x := box b13 _ _) oR 4 rfl)), ?_⟩
   clear oR
   (refine RunVC.litN o25 sl47 ty49 rfl rfl (by decide) ?_)
   refine And.intro rfl ?_
   intro b171 m171 o171
   refine And.intro ((o171.boxBlk 5 rfl).trans (o25.boxBlk 5 rfl).symm) ?_
   (refine RunVC.append o171 6 rfl sl47 ty49 (by decide) (o171.boxArrN 7 rfl ‹_› (by omega)) (by simp [Value.oneCell']) (by simp only [maxLen]; first | omega | (simp; omega)) (by first | omega | (simp; omega)) ?_; intro v172 m172 o172)
   refine fieldAddr st49 rfl rfl rfl ?_
   obtain ⟨ua, uc, rfl⟩ := o172.rowIs 6 rfl
   (refine RunVC.store o172 5 rfl ty47 rfl (by simp) (And.intro ⟨rfl, rfl⟩ ?_); intro m180 o180)
   refine (rmust_spec [41]).callL ‹_› rfl hR hl hj25 (fun a26 s26 v h26 hm hv hi26 hj26 oq => ?_)
   subst hv
   rw [RM.bind_of hm] at hE
   have o26 := oq
   simp only [RSt, pick, lcA, lnA, lgS, lgZ, lgN] at o26
   clear oq
   refine run (loadON o26 5 rfl ty49 rfl rfl rfl ?_)
   (refine RunVC.storeL o26 4 rfl ty49 rfl (by decide) (And.intro ⟨rfl, rfl⟩ ?_); intro m191 o191)
   first | refine RetVC.cell2 rfl o191 4 rfl ty49 rfl rfl ?_ | refine RetVC.cell1 rfl o191 4 rfl ty49 rfl rfl ?_ | refine RetVC.cellTT rfl o191 4 rfl ty49 rfl rfl ?_
   obtain ⟨W, oW, hs⟩ := Own.allM (M := [_, _]) ‹_› [2, 3, 6] [0, 1] rfl rfl
   refine ⟨.mk 4 [] [x1, x2] [] [] [] [] 0 t.off, _, W, hE, ⟨⟨exC 4 [] _ _ _ [] [] 0 t.off, rfl⟩, rfl, ?_⟩, by omega, by omega, oW.sel [1, 2, 0] rfl⟩
   rw [exR]
   exact ⟨_, _, _, rfl, nil_reads, nil_reads, [⟨[.int .i64 c1k, .string ⟨⟨c1t⟩⟩, .slice c1a1 c1n1 c1b1, .slice c1a2 c1n2 c1b2, .slice c1a3 c1n3 c1b3, .string ⟨⟨c1a⟩⟩, .string ⟨⟨c1s⟩⟩, .int .i64 c1g, .int .i64 c1o], rfl⟩, ⟨[.int .i64 c2k, .string ⟨⟨c2t⟩⟩, .slice c2a1 c2n1 c2b1, .slice c2a2 c2n2 c2b2, .slice c2a3 c2n3 c2b3, .string ⟨⟨c2a⟩⟩, .string ⟨⟨c2s⟩⟩, .int .i64 c2g, .int .i64 c2o], rfl⟩], row_reads.mono (hs 2 _ rfl), exR.mono (hs 1 _ rfl) _ _ hx1, exR.mono (hs 0 _ rfl) _ _ hx2, trivial⟩

end Go.Proofs.YtnmfanjhepepbaaGreatDoor

/- The reference's reader: union. -/
namespace Go.Proofs.YtnmfanjhepepbaaGreatDoor
open Go StillVC

set_option maxHeartbeats 100000000 in
set_option maxRecDepth 100000 in
theorem rexpr_op3 (n : Nat) (hn : n ≤ 11) (ih : RExSpec n) (level : Int) (hlv : level = 13 - ((n + 1 : Nat) : Int)) (B : Base) (bp z : Nat) (tk : Item) (w : Value) (L : List Tok) (s : RS) (h : Heap) (o : Own B (RSt bp z w tk s) h) (hR : TokR tk w L) (hl : L.length ≤ 5000) (hi : s.i ≤ L.length)
  (ho : opIdxR L s = some 3) : SpecR Tryz.prog 58 [.pointer (some ⟨bp, 0, none⟩), .int .i64 level] h fun v h' =>
   ∃ x s' I, exprR L z (n + 1) s = (x, s') ∧ exV x v I ∧ s.i ≤ s'.i ∧ s'.i ≤ L.length ∧ Own B [box bp [w, .int .i64 s'.i, .int .i64 s'.e, .int .i64 s'.a, .int .i64 z] 73, tk, I] h' := by
 unfold RSt at o
 have hE := congrFun (exprR.eq_2 L z n) s
 simp only [ho] at hE
 obtain ⟨he, t, t2, hx, hx2, hk2, ht2, hsk, hsn⟩ := opIdxR_is ho
 obtain ⟨hRd, hK⟩ := hR
 have hR : TokR tk w L := ⟨hRd, hK⟩
 have hlt := drop_lt hx
 have hlt2 := drop_lt hx2
 have hhd : headR L s = t.off := by unfold headR; rw [if_pos he]; simp only [hx]
 rw [hhd] at hE
 have hx3 : L[((s.i : Int) + 1).toNat]? = some t2 := by rw [show ((s.i : Int) + 1).toNat = s.i + 1 by omega]; exact hx2
 have hsl : (strs opNames).length = 7 := rfl
 refine Spec.enter Tryz.func58 rfl Tryz.ntmps58 (by kernel_rfl) ?_
 (refine RunVC.alloc o ty49 ?_; intro b10 m10 o10)
 refine DrawVC.intro [0, 1, 2, 3, 4, 5, 7, 8, 9, 10, 11, 12, 14, 15, 16, 18, 19, 20] [6, 13, 17] [] [0, 1, 2, 3, 4, 5, 6, 7, 8, 9, 10, 11, 12, 13, 14, 15, 16, 17, 18, 19, 20] mixed (by kernel_rfl) rfl (fun _ _ _ _ h => h) ?_
 refine Br.dec (fun hc => absurd hc (by omega)) (fun c11 => ?_)
 refine Br.ff ?_
 refine run (buildK st49 ?_)
 refine And.intro rfl ?_
 (refine RunVC.alloc o10 ty49 ?_; intro b13 m13 o13)
 (refine RunVC.storeL o13 3 rfl ty49 rfl (by decide) (And.intro ⟨rfl, rfl⟩ ?_); intro m14 o14)
 refine DrawVC.intro [0, 1, 2, 4, 5, 6, 7, 8, 10, 11, 12, 14, 15, 16] [3, 9, 13] [] [0, 1, 2, 3, 4, 5, 6, 7, 8, 9, 10, 11, 12, 13, 14, 15, 16] mixed (by kernel_rfl) rfl (fun _ _ _ _ h => h) ?_
 refine nilCheck rfl ?_
 refine fieldAddr st73 rfl rfl rfl ?_
 refine loadO o14 0 rfl ty26 rfl rfl ?_
 refine Br.dec (fun c18 => ?_) (fun hc => absurd (by omega) hc)
 refine nilCheck rfl ?_
 refine fieldAddr st73 rfl rfl rfl ?_
 refine loadO o14 0 rfl ty3 rfl rfl ?_
 refine nilCheck rfl ?_
 refine fieldAddr st73 rfl rfl rfl ?_
 refine loadO o14 0 rfl ty31 rfl rfl ?_
 refine lenN (o14.reads 1 hRd rfl) sl31 ?_
 refine Br.dec (fun c26 => ?_) (fun hc => absurd (by omega) hc)
 refine DrawVC.intro [0, 1, 2, 4, 5, 6, 8, 9, 11] [3, 7, 10] [12] [0, 1, 2, 3, 4, 5, 6, 7, 8, 9, 10, 11, 12] mixed (by kernel_rfl) rfl (fun _ _ _ _ h => h) ?_
 refine nilCheck rfl ?_
 refine fieldAddr st73 rfl rfl rfl ?_
 refine loadO o14 0 rfl ty31 rfl rfl ?_
 refine nilCheck rfl ?_
 refine fieldAddr st73 rfl rfl rfl ?_
 refine loadO o14 0 rfl ty3 rfl rfl ?_
 refine idxN sl31 ty38 (o14.reads 1 hRd rfl) rfl (by omega) (by omega) ?_
 refine fieldAdr (o14.reads 1 hRd rfl) (by omega) st38 rfl rfl rfl ?_
 refine loadFF (o14.reads 1 hRd rfl) ty3 (fun _ => rfl) rfl ‹_› rfl ?_
 refine fieldAddr st49 rfl rfl rfl ?_
 (refine RunVC.storeL o14 3 rfl ty3 rfl (by decide) (And.intro ⟨rfl, rfl⟩ ?_); intro m37 o37)
 refine LoopVC.intro [6, 60, 61, 62, 63, 64, 65, 66, 67, 68, 69, 70, 71, 72, 73, 74, 75, 76, 77, 78, 79, 80, 81, 82, 83, 84, 85, 86, 87, 88, 89, 90, 91, 92, 93, 94, 95, 96, 97, 98, 99, 100, 101, 102, 103, 104, 105, 106, 107, 108, 109, 110, 111, 112, 113, 114, 115, 116, 117] [6] (fun vs hh => ∃ (i : Nat) (kd : Int), i ≤ 7 ∧ kd = (if i ≤ 3 then 1 else 5) ∧ vs = [.int .i64 i] ∧ Own B [box bp [w, .int .i64 s.i, .int .i64 s.e, .int .i64 s.a, .int .i64 z] 73, tk, box b10 [.int .i64 0, .string ⟨⟨[]⟩⟩, nilV, nilV, nilV, .string ⟨⟨[]⟩⟩, .string ⟨⟨[]⟩⟩, .int .i64 0, .int .i64 0] 49, box b13 [.int .i64 kd, .string ⟨⟨[]⟩⟩, nilV, nilV, nilV, .string ⟨⟨[]⟩⟩, .string ⟨⟨[]⟩⟩, .int .i64 0, .int .i64 t.off] 49] hh) (fun vs _ => match vs with | [.int _ i] => 7 - i.toNat | _ => 0) ?_ ?_
 ·exact ⟨0, 1, by omega, rfl, rfl, Own.sel ‹_› [0, 1, 2, 3] rfl⟩
 ·rintro vs junk hh ⟨i, kd, hi7, hkd, rfl, oh⟩
  refine DrawVC.intro [0, 2, 3, 4, 5, 6, 7, 9, 10, 11, 12, 14, 15, 16] [8, 13] [] [0, 1, 2, 3, 4, 5, 6, 7, 8, 9, 10, 11, 12, 13, 14, 15, 16] mixed (by kernel_rfl) rfl (fun _ _ _ _ h => h) ?_
  refine CallVC.ret (roperations_spec _) ?_
  rintro _ h2 ⟨bo, rfl, oc⟩
  have o2 := Own.call ‹_› oc
  simp only [lcA, lnA] at o2
  refine ⟨Own.ext oc, ?_⟩
  clear oc
  by_cases h7 : i < 7
  ·obtain ⟨nm, hnm⟩ := getx (show i < opNames.length from h7)
   have hss : (strs opNames)[i]? = some (.string ⟨⟨nm⟩⟩) := by simp [strs, hnm]
   refine lenV rfl sl42 ?_
   refine Br.dec (fun c31 => ?_) (fun hc => absurd (by omega) hc)
   refine nilCheck rfl ?_
   refine fieldAddr st73 rfl rfl rfl ?_
   refine loadO o2 0 rfl ty3 rfl rfl ?_
   refine Ar.i64 (by omega) (by omega) ?_
   refine nilCheck rfl ?_
   refine fieldAddr st73 rfl rfl rfl ?_
   refine loadO o2 0 rfl ty31 rfl rfl ?_
   refine lenN (o2.reads 1 hRd rfl) sl31 ?_
   refine Br.dec (fun c39 => ?_) (fun hc => absurd (by omega) hc)
   refine DrawVC.intro [0, 2, 3, 6, 7, 8, 9, 11, 12, 13, 15, 16, 17, 19, 20, 21, 22, 23, 24, 26, 27, 28, 30, 31, 32, 34, 35] [4, 10, 14, 18, 25, 29, 33] [] [0, 2, 1, 3, 4, 5, 6, 7, 8, 9, 10, 11, 12, 13, 14, 15, 16, 17, 18, 19, 20, 21, 22, 23, 24, 25, 26, 27, 28, 29, 30, 31, 32, 33, 34, 35] mixed (by kernel_rfl) rfl (fun _ _ _ _ h => h) ?_
   refine CallVC.ret (roperations_spec _) ?_
   rintro _ h3 ⟨bo3, rfl, oc⟩
   have o3 := Own.call ‹_› oc
   simp only [lcA, lnA] at o3
   refine ⟨Own.ext oc, ?_⟩
   clear oc
   refine idxB o3 5 rfl sl42 ty9 rfl rfl (by omega) (by first | omega | (simp; omega)) ?_
   refine loadO o3 5 rfl ty9 rfl ‹_› ?_
   refine CallVC.ret (rsees_still nm bp w L s _ (Own.cellB ‹_› 0 rfl 0) (Own.cellB ‹_› 0 rfl 1) (Own.cellB ‹_› 0 rfl 2) (Own.reads ‹_› 1 hRd rfl) hl) ?_
   rintro _ h4 ⟨rfl, oc⟩
   have o4 := oc.thenE ‹_›
   refine ⟨Own.ext oc, ?_⟩
   clear oc
   by_cases hik : i = 3
   ·have hb : seesR L nm s = true := hsk nm (by rw [← hik]; exact hnm)
    rw [hb]
    refine Br.tt ?_
    refine nilCheck rfl ?_
    refine fieldAddr st73 rfl rfl rfl ?_
    refine loadO o4 0 rfl ty31 rfl rfl ?_
    refine nilCheck rfl ?_
    refine fieldAddr st73 rfl rfl rfl ?_
    refine loadO o4 0 rfl ty3 rfl rfl ?_
    refine Ar.i64 (by omega) (by omega) ?_
    refine idxN sl31 ty38 (o4.reads 1 hRd rfl) rfl (by omega) (by omega) ?_
    refine fieldAdr (o4.reads 1 hRd rfl) (by omega) st38 rfl rfl rfl ?_
    refine loadFF (o4.reads 1 hRd rfl) ty3 (fun _ => rfl) rfl ‹_› rfl ?_
    refine Br.dec (fun c59 => ?_) (fun hc => absurd (by omega) hc)
    refine nilCheck rfl ?_
    refine fieldAddr st73 rfl rfl rfl ?_
    refine loadO o4 0 rfl ty31 rfl rfl ?_
    refine nilCheck rfl ?_
    refine fieldAddr st73 rfl rfl rfl ?_
    refine loadO o4 0 rfl ty3 rfl rfl ?_
    refine Ar.i64 (by omega) (by omega) ?_
    refine idxN sl31 ty38 (o4.reads 1 hRd rfl) rfl (by omega) (by omega) ?_
    refine fieldAdr (o4.reads 1 hRd rfl) (by omega) st38 rfl rfl rfl ?_
    refine loadFF (o4.reads 1 hRd rfl) ty9 (fun _ => rfl) rfl ‹_› rfl ?_
    refine Br.dec (fun c69 => ?_) (fun hc => absurd (by omega) hc)
    refine Ar.i64 (by omega) (by omega) ?_
    refine run (fieldAddr st49 rfl rfl rfl ?_)
    (refine RunVC.store o4 3 rfl ty3 rfl (by simp) (And.intro ⟨rfl, rfl⟩ ?_); intro m71 o71)
    refine Ar.i64 (by omega) (by omega) ?_
    refine ⟨rfl, ?_⟩
    refine ⟨⟨i + 1, 5, by omega, by rw [if_neg (by omega)], rfl, ?_⟩, by simp; omega⟩
    have e2 : (2 + (i : Int)) = 5 := by rw [hik]; rfl
    rw [← e2]
    exact Own.sel ‹_› [0, 1, 2, 3] rfl
   ·have hb : seesR L nm s = false := hsn i nm h7 hik hnm
    rw [hb]
    refine Br.ff ?_
    refine Br.ff ?_
    refine Ar.i64 (by omega) (by omega) ?_
    refine ⟨rfl, ?_⟩
    refine ⟨⟨i + 1, kd, by omega, ?_, rfl, Own.sel ‹_› [0, 1, 2, 3] rfl⟩, by simp; omega⟩
    rw [hkd]
    by_cases hle : i ≤ 3
    ·rw [if_pos hle, if_pos (by omega)]
    ·rw [if_neg hle, if_neg (by omega)]
  ·have hkd : kd = 5 := by rw [hkd]; exact if_neg (by omega)
   subst hkd
   refine lenV rfl sl42 ?_
   refine Br.dec (fun hc => absurd hc (by omega)) (fun c111 => ?_)
   refine Br.ff ?_
   refine run (fieldAddr st49 rfl rfl rfl ?_)
   refine run (loadO o2 3 rfl ty3 rfl rfl ?_)
   refine Br.ff ?_
   refine rname_spec.callL ‹_› rfl hR hl hi (fun nm_ s21 v h21 hm hv hi21 hj21 oq => ?_)
   subst hv
   rw [RM.bind_of hm] at hE
   have o21 := oq
   simp only [RSt, pick, lcA, lnA, lgS, lgZ, lgN] at o21
   clear oq
   refine (rmust_spec [40]).callL ‹_› rfl hR hl hj21 (fun a22 s22 v h22 hm hv hi22 hj22 oq => ?_)
   subst hv
   rw [RM.bind_of hm] at hE
   have o22 := oq
   simp only [RSt, pick, lcA, lnA, lgS, lgZ, lgN] at o22
   clear oq
   have o22 := Own.sel o22 [0, 1, 2, 3] rfl
   simp only [RSt, pick, lcA, lnA, lgS, lgZ, lgN] at o22
   refine Ar.i64 (by omega) (by omega) ?_
   refine RSpecI.callL (ih (level + 1) (by omega)) ‹_› rfl hR hl hj22 (fun x1 s23 v I1 h23 hm hv hi23 hj23 oq => ?_)
   obtain ⟨⟨c1, hlc1⟩, rfl, hx1⟩ := hv
   rw [RM.bind_of hm] at hE
   have o23 := oq
   simp only [RSt, pick, lcA, lnA, lgS, lgZ, lgN] at o23
   clear oq
   dsimp only at hx1
   obtain ⟨c1k, c1t, c1a1, c1n1, c1b1, c1a2, c1n2, c1b2, c1a3, c1n3, c1b3, c1a, c1s, c1g, c1o, rfl⟩ := exR_nine hx1 (Own.satK o23 2 rfl)
   rw [ifR_yes (show twoB 3 = true from rfl)] at hE
   simp only [RM.assoc, RM.pure_bind, opRestR] at hE
   (refine RunVC.litN o23 sl47 ty49 rfl rfl (by decide) ?_)
   refine And.intro rfl ?_
   intro b141 m141 o141
   refine run (fieldAddr st49 rfl rfl rfl ?_)
   (refine RunVC.store o141 4 rfl ty47 rfl (by simp) (And.intro ⟨rfl, rfl⟩ ?_); intro m143 o143)
   refine run (fieldAddr st49 rfl rfl rfl ?_)
   refine run (loadO o143 4 rfl ty3 rfl rfl ?_)
   refine Br.ff ?_
   refine Br.ff ?_
   refine Br.ff ?_
   refine Br.ff ?_
   refine (rmust_spec [44]).callL ‹_› rfl hR hl hj23 (fun a24 s24 v h24 hm hv hi24 hj24 oq => ?_)
   subst hv
   rw [RM.bind_of hm] at hE
   have o24 := oq
   simp only [RSt, pick, lcA, lnA, lgS, lgZ, lgN] at o24
   clear oq
   have oR := Own.boxRow o24 5 rfl 9 1 1 rfl (Nat.le_refl _) (by decide)
   simp only [lsS, lsZ] at oR
   clear o24
   refine DrawVC.introB b13 [0, 2, 3, 4, 8] [1] [7, 9] [0, 1, 2, 3, 4, 5, 6, 7, 8, 9] mixed (by kernel_rfl) rfl (fun _ _ _ _ h => h) ?_
   refine fieldAddr st49 rfl rfl rfl ?_
   refine StillVCA.load1 ty47 rfl rfl ((oR.cellB 4 rfl _).trans rfl) ?_
   refine Ar.i64 (by omega) (by omega) ?_
   refine RSpecI.callL (ih (level + 1) (by omega)) ‹_› rfl hR hl hj24 (fun x2 s25 v I2 h25 hm hv hi25 hj25 oq => ?_)
   obtain ⟨⟨c2, hlc2⟩, rfl, hx2⟩ := hv
   rw [RM.bind_of hm] at hE
   have o25 := oq
   simp only [RSt, pick, lcA, lnA, lgS, lgZ, lgN] at o25
   clear oq
   dsimp only at hx2
   obtain ⟨c2k, c2t, c2a1, c2n1, c2b1, c2a2, c2n2, c2b2, c2a3, c2n3, c2b3, c2a, c2s, c2g, c2o, rfl⟩ := exR_nine hx2 (Own.satK o25 2 rfl)
   refine ⟨Eq.trans (Own.satK o25 5 rfl) (Eq.symm (Own.satK (x := box b13 _ _) oR 4 rfl)), ?_⟩
   clear oR
   (refine RunVC.litN o25 sl47 ty49 rfl rfl (by decide) ?_)
   refine And.intro rfl ?_
   intro b171 m171 o171
   refine And.intro ((o171.boxBlk 5 rfl).trans (o25.boxBlk 5 rfl).symm) ?_
   (refine RunVC.append o171 6 rfl sl47 ty49 (by decide) (o171.boxArrN 7 rfl ‹_› (by omega)) (by simp [Value.oneCell']) (by simp only [maxLen]; first | omega | (simp; omega)) (by first | omega | (simp; omega)) ?_; intro v172 m172 o172)
   refine fieldAddr st49 rfl rfl rfl ?_
   obtain ⟨ua, uc, rfl⟩ := o172.rowIs 6 rfl
   (refine RunVC.store o172 5 rfl ty47 rfl (by simp) (And.intro ⟨rfl, rfl⟩ ?_); intro m180 o180)
   refine (rmust_spec [41]).callL ‹_› rfl hR hl hj25 (fun a26 s26 v h26 hm hv hi26 hj26 oq => ?_)
   subst hv
   rw [RM.bind_of hm] at hE
   have o26 := oq
   simp only [RSt, pick, lcA, lnA, lgS, lgZ, lgN] at o26
   clear oq
   refine run (loadON o26 5 rfl ty49 rfl rfl rfl ?_)
   (refine RunVC.storeL o26 4 rfl ty49 rfl (by decide) (And.intro ⟨rfl, rfl⟩ ?_); intro m191 o191)
   first | refine RetVC.cell2 rfl o191 4 rfl ty49 rfl rfl ?_ | refine RetVC.cell1 rfl o191 4 rfl ty49 rfl rfl ?_ | refine RetVC.cellTT rfl o191 4 rfl ty49 rfl rfl ?_
   obtain ⟨W, oW, hs⟩ := Own.allM (M := [_, _]) ‹_› [2, 3, 6] [0, 1] rfl rfl
   refine ⟨.mk 5 [] [x1, x2] [] [] [] [] 0 t.off, _, W, hE, ⟨⟨exC 5 [] _ _ _ [] [] 0 t.off, rfl⟩, rfl, ?_⟩, by omega, by omega, oW.sel [1, 2, 0] rfl⟩
   rw [exR]
   exact ⟨_, _, _, rfl, nil_reads, nil_reads, [⟨[.int .i64 c1k, .string ⟨⟨c1t⟩⟩, .slice c1a1 c1n1 c1b1, .slice c1a2 c1n2 c1b2, .slice c1a3 c1n3 c1b3, .string ⟨⟨c1a⟩⟩, .string ⟨⟨c1s⟩⟩, .int .i64 c1g, .int .i64 c1o], rfl⟩, ⟨[.int .i64 c2k, .string ⟨⟨c2t⟩⟩, .slice c2a1 c2n1 c2b1, .slice c2a2 c2n2 c2b2, .slice c2a3 c2n3 c2b3, .string ⟨⟨c2a⟩⟩, .string ⟨⟨c2s⟩⟩, .int .i64 c2g, .int .i64 c2o], rfl⟩], row_reads.mono (hs 2 _ rfl), exR.mono (hs 1 _ rfl) _ _ hx1, exR.mono (hs 0 _ rfl) _ _ hx2, trivial⟩

end Go.Proofs.YtnmfanjhepepbaaGreatDoor

/- The reference's reader: minus. -/
namespace Go.Proofs.YtnmfanjhepepbaaGreatDoor
open Go StillVC

set_option maxHeartbeats 100000000 in
set_option maxRecDepth 100000 in
theorem rexpr_op4 (n : Nat) (hn : n ≤ 11) (ih : RExSpec n) (level : Int) (hlv : level = 13 - ((n + 1 : Nat) : Int)) (B : Base) (bp z : Nat) (tk : Item) (w : Value) (L : List Tok) (s : RS) (h : Heap) (o : Own B (RSt bp z w tk s) h) (hR : TokR tk w L) (hl : L.length ≤ 5000) (hi : s.i ≤ L.length)
  (ho : opIdxR L s = some 4) : SpecR Tryz.prog 58 [.pointer (some ⟨bp, 0, none⟩), .int .i64 level] h fun v h' =>
   ∃ x s' I, exprR L z (n + 1) s = (x, s') ∧ exV x v I ∧ s.i ≤ s'.i ∧ s'.i ≤ L.length ∧ Own B [box bp [w, .int .i64 s'.i, .int .i64 s'.e, .int .i64 s'.a, .int .i64 z] 73, tk, I] h' := by
 unfold RSt at o
 have hE := congrFun (exprR.eq_2 L z n) s
 simp only [ho] at hE
 obtain ⟨he, t, t2, hx, hx2, hk2, ht2, hsk, hsn⟩ := opIdxR_is ho
 obtain ⟨hRd, hK⟩ := hR
 have hR : TokR tk w L := ⟨hRd, hK⟩
 have hlt := drop_lt hx
 have hlt2 := drop_lt hx2
 have hhd : headR L s = t.off := by unfold headR; rw [if_pos he]; simp only [hx]
 rw [hhd] at hE
 have hx3 : L[((s.i : Int) + 1).toNat]? = some t2 := by rw [show ((s.i : Int) + 1).toNat = s.i + 1 by omega]; exact hx2
 have hsl : (strs opNames).length = 7 := rfl
 refine Spec.enter Tryz.func58 rfl Tryz.ntmps58 (by kernel_rfl) ?_
 (refine RunVC.alloc o ty49 ?_; intro b10 m10 o10)
 refine DrawVC.intro [0, 1, 2, 3, 4, 5, 7, 8, 9, 10, 11, 12, 14, 15, 16, 18, 19, 20] [6, 13, 17] [] [0, 1, 2, 3, 4, 5, 6, 7, 8, 9, 10, 11, 12, 13, 14, 15, 16, 17, 18, 19, 20] mixed (by kernel_rfl) rfl (fun _ _ _ _ h => h) ?_
 refine Br.dec (fun hc => absurd hc (by omega)) (fun c11 => ?_)
 refine Br.ff ?_
 refine run (buildK st49 ?_)
 refine And.intro rfl ?_
 (refine RunVC.alloc o10 ty49 ?_; intro b13 m13 o13)
 (refine RunVC.storeL o13 3 rfl ty49 rfl (by decide) (And.intro ⟨rfl, rfl⟩ ?_); intro m14 o14)
 refine DrawVC.intro [0, 1, 2, 4, 5, 6, 7, 8, 10, 11, 12, 14, 15, 16] [3, 9, 13] [] [0, 1, 2, 3, 4, 5, 6, 7, 8, 9, 10, 11, 12, 13, 14, 15, 16] mixed (by kernel_rfl) rfl (fun _ _ _ _ h => h) ?_
 refine nilCheck rfl ?_
 refine fieldAddr st73 rfl rfl rfl ?_
 refine loadO o14 0 rfl ty26 rfl rfl ?_
 refine Br.dec (fun c18 => ?_) (fun hc => absurd (by omega) hc)
 refine nilCheck rfl ?_
 refine fieldAddr st73 rfl rfl rfl ?_
 refine loadO o14 0 rfl ty3 rfl rfl ?_
 refine nilCheck rfl ?_
 refine fieldAddr st73 rfl rfl rfl ?_
 refine loadO o14 0 rfl ty31 rfl rfl ?_
 refine lenN (o14.reads 1 hRd rfl) sl31 ?_
 refine Br.dec (fun c26 => ?_) (fun hc => absurd (by omega) hc)
 refine DrawVC.intro [0, 1, 2, 4, 5, 6, 8, 9, 11] [3, 7, 10] [12] [0, 1, 2, 3, 4, 5, 6, 7, 8, 9, 10, 11, 12] mixed (by kernel_rfl) rfl (fun _ _ _ _ h => h) ?_
 refine nilCheck rfl ?_
 refine fieldAddr st73 rfl rfl rfl ?_
 refine loadO o14 0 rfl ty31 rfl rfl ?_
 refine nilCheck rfl ?_
 refine fieldAddr st73 rfl rfl rfl ?_
 refine loadO o14 0 rfl ty3 rfl rfl ?_
 refine idxN sl31 ty38 (o14.reads 1 hRd rfl) rfl (by omega) (by omega) ?_
 refine fieldAdr (o14.reads 1 hRd rfl) (by omega) st38 rfl rfl rfl ?_
 refine loadFF (o14.reads 1 hRd rfl) ty3 (fun _ => rfl) rfl ‹_› rfl ?_
 refine fieldAddr st49 rfl rfl rfl ?_
 (refine RunVC.storeL o14 3 rfl ty3 rfl (by decide) (And.intro ⟨rfl, rfl⟩ ?_); intro m37 o37)
 refine LoopVC.intro [6, 60, 61, 62, 63, 64, 65, 66, 67, 68, 69, 70, 71, 72, 73, 74, 75, 76, 77, 78, 79, 80, 81, 82, 83, 84, 85, 86, 87, 88, 89, 90, 91, 92, 93, 94, 95, 96, 97, 98, 99, 100, 101, 102, 103, 104, 105, 106, 107, 108, 109, 110, 111, 112, 113, 114, 115, 116, 117] [6] (fun vs hh => ∃ (i : Nat) (kd : Int), i ≤ 7 ∧ kd = (if i ≤ 4 then 1 else 6) ∧ vs = [.int .i64 i] ∧ Own B [box bp [w, .int .i64 s.i, .int .i64 s.e, .int .i64 s.a, .int .i64 z] 73, tk, box b10 [.int .i64 0, .string ⟨⟨[]⟩⟩, nilV, nilV, nilV, .string ⟨⟨[]⟩⟩, .string ⟨⟨[]⟩⟩, .int .i64 0, .int .i64 0] 49, box b13 [.int .i64 kd, .string ⟨⟨[]⟩⟩, nilV, nilV, nilV, .string ⟨⟨[]⟩⟩, .string ⟨⟨[]⟩⟩, .int .i64 0, .int .i64 t.off] 49] hh) (fun vs _ => match vs with | [.int _ i] => 7 - i.toNat | _ => 0) ?_ ?_
 ·exact ⟨0, 1, by omega, rfl, rfl, Own.sel ‹_› [0, 1, 2, 3] rfl⟩
 ·rintro vs junk hh ⟨i, kd, hi7, hkd, rfl, oh⟩
  refine DrawVC.intro [0, 2, 3, 4, 5, 6, 7, 9, 10, 11, 12, 14, 15, 16] [8, 13] [] [0, 1, 2, 3, 4, 5, 6, 7, 8, 9, 10, 11, 12, 13, 14, 15, 16] mixed (by kernel_rfl) rfl (fun _ _ _ _ h => h) ?_
  refine CallVC.ret (roperations_spec _) ?_
  rintro _ h2 ⟨bo, rfl, oc⟩
  have o2 := Own.call ‹_› oc
  simp only [lcA, lnA] at o2
  refine ⟨Own.ext oc, ?_⟩
  clear oc
  by_cases h7 : i < 7
  ·obtain ⟨nm, hnm⟩ := getx (show i < opNames.length from h7)
   have hss : (strs opNames)[i]? = some (.string ⟨⟨nm⟩⟩) := by simp [strs, hnm]
   refine lenV rfl sl42 ?_
   refine Br.dec (fun c31 => ?_) (fun hc => absurd (by omega) hc)
   refine nilCheck rfl ?_
   refine fieldAddr st73 rfl rfl rfl ?_
   refine loadO o2 0 rfl ty3 rfl rfl ?_
   refine Ar.i64 (by omega) (by omega) ?_
   refine nilCheck rfl ?_
   refine fieldAddr st73 rfl rfl rfl ?_
   refine loadO o2 0 rfl ty31 rfl rfl ?_
   refine lenN (o2.reads 1 hRd rfl) sl31 ?_
   refine Br.dec (fun c39 => ?_) (fun hc => absurd (by omega) hc)
   refine DrawVC.intro [0, 2, 3, 6, 7, 8, 9, 11, 12, 13, 15, 16, 17, 19, 20, 21, 22, 23, 24, 26, 27, 28, 30, 31, 32, 34, 35] [4, 10, 14, 18, 25, 29, 33] [] [0, 2, 1, 3, 4, 5, 6, 7, 8, 9, 10, 11, 12, 13, 14, 15, 16, 17, 18, 19, 20, 21, 22, 23, 24, 25, 26, 27, 28, 29, 30, 31, 32, 33, 34, 35] mixed (by kernel_rfl) rfl (fun _ _ _ _ h => h) ?_
   refine CallVC.ret (roperations_spec _) ?_
   rintro _ h3 ⟨bo3, rfl, oc⟩
   have o3 := Own.call ‹_› oc
   simp only [lcA, lnA] at o3
   refine ⟨Own.ext oc, ?_⟩
   clear oc
   refine idxB o3 5 rfl sl42 ty9 rfl rfl (by omega) (by first | omega | (simp; omega)) ?_
   refine loadO o3 5 rfl ty9 rfl ‹_› ?_
   refine CallVC.ret (rsees_still nm bp w L s _ (Own.cellB ‹_› 0 rfl 0) (Own.cellB ‹_› 0 rfl 1) (Own.cellB ‹_› 0 rfl 2) (Own.reads ‹_› 1 hRd rfl) hl) ?_
   rintro _ h4 ⟨rfl, oc⟩
   have o4 := oc.thenE ‹_›
   refine ⟨Own.ext oc, ?_⟩
   clear oc
   by_cases hik : i = 4
   ·have hb : seesR L nm s = true := hsk nm (by rw [← hik]; exact hnm)
    rw [hb]
    refine Br.tt ?_
    refine nilCheck rfl ?_
    refine fieldAddr st73 rfl rfl rfl ?_
    refine loadO o4 0 rfl ty31 rfl rfl ?_
    refine nilCheck rfl ?_
    refine fieldAddr st73 rfl rfl rfl ?_
    refine loadO o4 0 rfl ty3 rfl rfl ?_
    refine Ar.i64 (by omega) (by omega) ?_
    refine idxN sl31 ty38 (o4.reads 1 hRd rfl) rfl (by omega) (by omega) ?_
    refine fieldAdr (o4.reads 1 hRd rfl) (by omega) st38 rfl rfl rfl ?_
    refine loadFF (o4.reads 1 hRd rfl) ty3 (fun _ => rfl) rfl ‹_› rfl ?_
    refine Br.dec (fun c59 => ?_) (fun hc => absurd (by omega) hc)
    refine nilCheck rfl ?_
    refine fieldAddr st73 rfl rfl rfl ?_
    refine loadO o4 0 rfl ty31 rfl rfl ?_
    refine nilCheck rfl ?_
    refine fieldAddr st73 rfl rfl rfl ?_
    refine loadO o4 0 rfl ty3 rfl rfl ?_
    refine Ar.i64 (by omega) (by omega) ?_
    refine idxN sl31 ty38 (o4.reads 1 hRd rfl) rfl (by omega) (by omega) ?_
    refine fieldAdr (o4.reads 1 hRd rfl) (by omega) st38 rfl rfl rfl ?_
    refine loadFF (o4.reads 1 hRd rfl) ty9 (fun _ => rfl) rfl ‹_› rfl ?_
    refine Br.dec (fun c69 => ?_) (fun hc => absurd (by omega) hc)
    refine Ar.i64 (by omega) (by omega) ?_
    refine run (fieldAddr st49 rfl rfl rfl ?_)
    (refine RunVC.store o4 3 rfl ty3 rfl (by simp) (And.intro ⟨rfl, rfl⟩ ?_); intro m71 o71)
    refine Ar.i64 (by omega) (by omega) ?_
    refine ⟨rfl, ?_⟩
    refine ⟨⟨i + 1, 6, by omega, by rw [if_neg (by omega)], rfl, ?_⟩, by simp; omega⟩
    have e2 : (2 + (i : Int)) = 6 := by rw [hik]; rfl
    rw [← e2]
    exact Own.sel ‹_› [0, 1, 2, 3] rfl
   ·have hb : seesR L nm s = false := hsn i nm h7 hik hnm
    rw [hb]
    refine Br.ff ?_
    refine Br.ff ?_
    refine Ar.i64 (by omega) (by omega) ?_
    refine ⟨rfl, ?_⟩
    refine ⟨⟨i + 1, kd, by omega, ?_, rfl, Own.sel ‹_› [0, 1, 2, 3] rfl⟩, by simp; omega⟩
    rw [hkd]
    by_cases hle : i ≤ 4
    ·rw [if_pos hle, if_pos (by omega)]
    ·rw [if_neg hle, if_neg (by omega)]
  ·have hkd : kd = 6 := by rw [hkd]; exact if_neg (by omega)
   subst hkd
   refine lenV rfl sl42 ?_
   refine Br.dec (fun hc => absurd hc (by omega)) (fun c111 => ?_)
   refine Br.ff ?_
   refine run (fieldAddr st49 rfl rfl rfl ?_)
   refine run (loadO o2 3 rfl ty3 rfl rfl ?_)
   refine Br.ff ?_
   refine rname_spec.callL ‹_› rfl hR hl hi (fun nm_ s21 v h21 hm hv hi21 hj21 oq => ?_)
   subst hv
   rw [RM.bind_of hm] at hE
   have o21 := oq
   simp only [RSt, pick, lcA, lnA, lgS, lgZ, lgN] at o21
   clear oq
   refine (rmust_spec [40]).callL ‹_› rfl hR hl hj21 (fun a22 s22 v h22 hm hv hi22 hj22 oq => ?_)
   subst hv
   rw [RM.bind_of hm] at hE
   have o22 := oq
   simp only [RSt, pick, lcA, lnA, lgS, lgZ, lgN] at o22
   clear oq
   have o22 := Own.sel o22 [0, 1, 2, 3] rfl
   simp only [RSt, pick, lcA, lnA, lgS, lgZ, lgN] at o22
   refine Ar.i64 (by omega) (by omega) ?_
   refine RSpecI.callL (ih (level + 1) (by omega)) ‹_› rfl hR hl hj22 (fun x1 s23 v I1 h23 hm hv hi23 hj23 oq => ?_)
   obtain ⟨⟨c1, hlc1⟩, rfl, hx1⟩ := hv
   rw [RM.bind_of hm] at hE
   have o23 := oq
   simp only [RSt, pick, lcA, lnA, lgS, lgZ, lgN] at o23
   clear oq
   dsimp only at hx1
   obtain ⟨c1k, c1t, c1a1, c1n1, c1b1, c1a2, c1n2, c1b2, c1a3, c1n3, c1b3, c1a, c1s, c1g, c1o, rfl⟩ := exR_nine hx1 (Own.satK o23 2 rfl)
   rw [ifR_yes (show twoB 4 = true from rfl)] at hE
   simp only [RM.assoc, RM.pure_bind, opRestR] at hE
   (refine RunVC.litN o23 sl47 ty49 rfl rfl (by decide) ?_)
   refine And.intro rfl ?_
   intro b141 m141 o141
   refine run (fieldAddr st49 rfl rfl rfl ?_)
   (refine RunVC.store o141 4 rfl ty47 rfl (by simp) (And.intro ⟨rfl, rfl⟩ ?_); intro m143 o143)
   refine run (fieldAddr st49 rfl rfl rfl ?_)
   refine run (loadO o143 4 rfl ty3 rfl rfl ?_)
   refine Br.ff ?_
   refine Br.ff ?_
   refine Br.ff ?_
   refine Br.ff ?_
   refine (rmust_spec [44]).callL ‹_› rfl hR hl hj23 (fun a24 s24 v h24 hm hv hi24 hj24 oq => ?_)
   subst hv
   rw [RM.bind_of hm] at hE
   have o24 := oq
   simp only [RSt, pick, lcA, lnA, lgS, lgZ, lgN] at o24
   clear oq
   have oR := Own.boxRow o24 5 rfl 9 1 1 rfl (Nat.le_refl _) (by decide)
   simp only [lsS, lsZ] at oR
   clear o24
   refine DrawVC.introB b13 [0, 2, 3, 4, 8] [1] [7, 9] [0, 1, 2, 3, 4, 5, 6, 7, 8, 9] mixed (by kernel_rfl) rfl (fun _ _ _ _ h => h) ?_
   refine fieldAddr st49 rfl rfl rfl ?_
   refine StillVCA.load1 ty47 rfl rfl ((oR.cellB 4 rfl _).trans rfl) ?_
   refine Ar.i64 (by omega) (by omega) ?_
   refine RSpecI.callL (ih (level + 1) (by omega)) ‹_› rfl hR hl hj24 (fun x2 s25 v I2 h25 hm hv hi25 hj25 oq => ?_)
   obtain ⟨⟨c2, hlc2⟩, rfl, hx2⟩ := hv
   rw [RM.bind_of hm] at hE
   have o25 := oq
   simp only [RSt, pick, lcA, lnA, lgS, lgZ, lgN] at o25
   clear oq
   dsimp only at hx2
   obtain ⟨c2k, c2t, c2a1, c2n1, c2b1, c2a2, c2n2, c2b2, c2a3, c2n3, c2b3, c2a, c2s, c2g, c2o, rfl⟩ := exR_nine hx2 (Own.satK o25 2 rfl)
   refine ⟨Eq.trans (Own.satK o25 5 rfl) (Eq.symm (Own.satK (x := box b13 _ _) oR 4 rfl)), ?_⟩
   clear oR
   (refine RunVC.litN o25 sl47 ty49 rfl rfl (by decide) ?_)
   refine And.intro rfl ?_
   intro b171 m171 o171
   refine And.intro ((o171.boxBlk 5 rfl).trans (o25.boxBlk 5 rfl).symm) ?_
   (refine RunVC.append o171 6 rfl sl47 ty49 (by decide) (o171.boxArrN 7 rfl ‹_› (by omega)) (by simp [Value.oneCell']) (by simp only [maxLen]; first | omega | (simp; omega)) (by first | omega | (simp; omega)) ?_; intro v172 m172 o172)
   refine fieldAddr st49 rfl rfl rfl ?_
   obtain ⟨ua, uc, rfl⟩ := o172.rowIs 6 rfl
   (refine RunVC.store o172 5 rfl ty47 rfl (by simp) (And.intro ⟨rfl, rfl⟩ ?_); intro m180 o180)
   refine (rmust_spec [41]).callL ‹_› rfl hR hl hj25 (fun a26 s26 v h26 hm hv hi26 hj26 oq => ?_)
   subst hv
   rw [RM.bind_of hm] at hE
   have o26 := oq
   simp only [RSt, pick, lcA, lnA, lgS, lgZ, lgN] at o26
   clear oq
   refine run (loadON o26 5 rfl ty49 rfl rfl rfl ?_)
   (refine RunVC.storeL o26 4 rfl ty49 rfl (by decide) (And.intro ⟨rfl, rfl⟩ ?_); intro m191 o191)
   first | refine RetVC.cell2 rfl o191 4 rfl ty49 rfl rfl ?_ | refine RetVC.cell1 rfl o191 4 rfl ty49 rfl rfl ?_ | refine RetVC.cellTT rfl o191 4 rfl ty49 rfl rfl ?_
   obtain ⟨W, oW, hs⟩ := Own.allM (M := [_, _]) ‹_› [2, 3, 6] [0, 1] rfl rfl
   refine ⟨.mk 6 [] [x1, x2] [] [] [] [] 0 t.off, _, W, hE, ⟨⟨exC 6 [] _ _ _ [] [] 0 t.off, rfl⟩, rfl, ?_⟩, by omega, by omega, oW.sel [1, 2, 0] rfl⟩
   rw [exR]
   exact ⟨_, _, _, rfl, nil_reads, nil_reads, [⟨[.int .i64 c1k, .string ⟨⟨c1t⟩⟩, .slice c1a1 c1n1 c1b1, .slice c1a2 c1n2 c1b2, .slice c1a3 c1n3 c1b3, .string ⟨⟨c1a⟩⟩, .string ⟨⟨c1s⟩⟩, .int .i64 c1g, .int .i64 c1o], rfl⟩, ⟨[.int .i64 c2k, .string ⟨⟨c2t⟩⟩, .slice c2a1 c2n1 c2b1, .slice c2a2 c2n2 c2b2, .slice c2a3 c2n3 c2b3, .string ⟨⟨c2a⟩⟩, .string ⟨⟨c2s⟩⟩, .int .i64 c2g, .int .i64 c2o], rfl⟩], row_reads.mono (hs 2 _ rfl), exR.mono (hs 1 _ rfl) _ _ hx1, exR.mono (hs 0 _ rfl) _ _ hx2, trivial⟩

end Go.Proofs.YtnmfanjhepepbaaGreatDoor

/- The reference's reader: rename. -/
namespace Go.Proofs.YtnmfanjhepepbaaGreatDoor
open Go StillVC

set_option maxHeartbeats 100000000 in
set_option maxRecDepth 100000 in
theorem rexpr_op5 (n : Nat) (hn : n ≤ 11) (ih : RExSpec n) (level : Int) (hlv : level = 13 - ((n + 1 : Nat) : Int)) (B : Base) (bp z : Nat) (tk : Item) (w : Value) (L : List Tok) (s : RS) (h : Heap) (o : Own B (RSt bp z w tk s) h) (hR : TokR tk w L) (hl : L.length ≤ 5000) (hi : s.i ≤ L.length)
  (ho : opIdxR L s = some 5) : SpecR Tryz.prog 58 [.pointer (some ⟨bp, 0, none⟩), .int .i64 level] h fun v h' =>
   ∃ x s' I, exprR L z (n + 1) s = (x, s') ∧ exV x v I ∧ s.i ≤ s'.i ∧ s'.i ≤ L.length ∧ Own B [box bp [w, .int .i64 s'.i, .int .i64 s'.e, .int .i64 s'.a, .int .i64 z] 73, tk, I] h' := by
 unfold RSt at o
 have hE := congrFun (exprR.eq_2 L z n) s
 simp only [ho] at hE
 obtain ⟨he, t, t2, hx, hx2, hk2, ht2, hsk, hsn⟩ := opIdxR_is ho
 obtain ⟨hRd, hK⟩ := hR
 have hR : TokR tk w L := ⟨hRd, hK⟩
 have hlt := drop_lt hx
 have hlt2 := drop_lt hx2
 have hhd : headR L s = t.off := by unfold headR; rw [if_pos he]; simp only [hx]
 rw [hhd] at hE
 have hx3 : L[((s.i : Int) + 1).toNat]? = some t2 := by rw [show ((s.i : Int) + 1).toNat = s.i + 1 by omega]; exact hx2
 have hsl : (strs opNames).length = 7 := rfl
 refine Spec.enter Tryz.func58 rfl Tryz.ntmps58 (by kernel_rfl) ?_
 (refine RunVC.alloc o ty49 ?_; intro b10 m10 o10)
 refine DrawVC.intro [0, 1, 2, 3, 4, 5, 7, 8, 9, 10, 11, 12, 14, 15, 16, 18, 19, 20] [6, 13, 17] [] [0, 1, 2, 3, 4, 5, 6, 7, 8, 9, 10, 11, 12, 13, 14, 15, 16, 17, 18, 19, 20] mixed (by kernel_rfl) rfl (fun _ _ _ _ h => h) ?_
 refine Br.dec (fun hc => absurd hc (by omega)) (fun c11 => ?_)
 refine Br.ff ?_
 refine run (buildK st49 ?_)
 refine And.intro rfl ?_
 (refine RunVC.alloc o10 ty49 ?_; intro b13 m13 o13)
 (refine RunVC.storeL o13 3 rfl ty49 rfl (by decide) (And.intro ⟨rfl, rfl⟩ ?_); intro m14 o14)
 refine DrawVC.intro [0, 1, 2, 4, 5, 6, 7, 8, 10, 11, 12, 14, 15, 16] [3, 9, 13] [] [0, 1, 2, 3, 4, 5, 6, 7, 8, 9, 10, 11, 12, 13, 14, 15, 16] mixed (by kernel_rfl) rfl (fun _ _ _ _ h => h) ?_
 refine nilCheck rfl ?_
 refine fieldAddr st73 rfl rfl rfl ?_
 refine loadO o14 0 rfl ty26 rfl rfl ?_
 refine Br.dec (fun c18 => ?_) (fun hc => absurd (by omega) hc)
 refine nilCheck rfl ?_
 refine fieldAddr st73 rfl rfl rfl ?_
 refine loadO o14 0 rfl ty3 rfl rfl ?_
 refine nilCheck rfl ?_
 refine fieldAddr st73 rfl rfl rfl ?_
 refine loadO o14 0 rfl ty31 rfl rfl ?_
 refine lenN (o14.reads 1 hRd rfl) sl31 ?_
 refine Br.dec (fun c26 => ?_) (fun hc => absurd (by omega) hc)
 refine DrawVC.intro [0, 1, 2, 4, 5, 6, 8, 9, 11] [3, 7, 10] [12] [0, 1, 2, 3, 4, 5, 6, 7, 8, 9, 10, 11, 12] mixed (by kernel_rfl) rfl (fun _ _ _ _ h => h) ?_
 refine nilCheck rfl ?_
 refine fieldAddr st73 rfl rfl rfl ?_
 refine loadO o14 0 rfl ty31 rfl rfl ?_
 refine nilCheck rfl ?_
 refine fieldAddr st73 rfl rfl rfl ?_
 refine loadO o14 0 rfl ty3 rfl rfl ?_
 refine idxN sl31 ty38 (o14.reads 1 hRd rfl) rfl (by omega) (by omega) ?_
 refine fieldAdr (o14.reads 1 hRd rfl) (by omega) st38 rfl rfl rfl ?_
 refine loadFF (o14.reads 1 hRd rfl) ty3 (fun _ => rfl) rfl ‹_› rfl ?_
 refine fieldAddr st49 rfl rfl rfl ?_
 (refine RunVC.storeL o14 3 rfl ty3 rfl (by decide) (And.intro ⟨rfl, rfl⟩ ?_); intro m37 o37)
 refine LoopVC.intro [6, 60, 61, 62, 63, 64, 65, 66, 67, 68, 69, 70, 71, 72, 73, 74, 75, 76, 77, 78, 79, 80, 81, 82, 83, 84, 85, 86, 87, 88, 89, 90, 91, 92, 93, 94, 95, 96, 97, 98, 99, 100, 101, 102, 103, 104, 105, 106, 107, 108, 109, 110, 111, 112, 113, 114, 115, 116, 117] [6] (fun vs hh => ∃ (i : Nat) (kd : Int), i ≤ 7 ∧ kd = (if i ≤ 5 then 1 else 7) ∧ vs = [.int .i64 i] ∧ Own B [box bp [w, .int .i64 s.i, .int .i64 s.e, .int .i64 s.a, .int .i64 z] 73, tk, box b10 [.int .i64 0, .string ⟨⟨[]⟩⟩, nilV, nilV, nilV, .string ⟨⟨[]⟩⟩, .string ⟨⟨[]⟩⟩, .int .i64 0, .int .i64 0] 49, box b13 [.int .i64 kd, .string ⟨⟨[]⟩⟩, nilV, nilV, nilV, .string ⟨⟨[]⟩⟩, .string ⟨⟨[]⟩⟩, .int .i64 0, .int .i64 t.off] 49] hh) (fun vs _ => match vs with | [.int _ i] => 7 - i.toNat | _ => 0) ?_ ?_
 ·exact ⟨0, 1, by omega, rfl, rfl, Own.sel ‹_› [0, 1, 2, 3] rfl⟩
 ·rintro vs junk hh ⟨i, kd, hi7, hkd, rfl, oh⟩
  refine DrawVC.intro [0, 2, 3, 4, 5, 6, 7, 9, 10, 11, 12, 14, 15, 16] [8, 13] [] [0, 1, 2, 3, 4, 5, 6, 7, 8, 9, 10, 11, 12, 13, 14, 15, 16] mixed (by kernel_rfl) rfl (fun _ _ _ _ h => h) ?_
  refine CallVC.ret (roperations_spec _) ?_
  rintro _ h2 ⟨bo, rfl, oc⟩
  have o2 := Own.call ‹_› oc
  simp only [lcA, lnA] at o2
  refine ⟨Own.ext oc, ?_⟩
  clear oc
  by_cases h7 : i < 7
  ·obtain ⟨nm, hnm⟩ := getx (show i < opNames.length from h7)
   have hss : (strs opNames)[i]? = some (.string ⟨⟨nm⟩⟩) := by simp [strs, hnm]
   refine lenV rfl sl42 ?_
   refine Br.dec (fun c31 => ?_) (fun hc => absurd (by omega) hc)
   refine nilCheck rfl ?_
   refine fieldAddr st73 rfl rfl rfl ?_
   refine loadO o2 0 rfl ty3 rfl rfl ?_
   refine Ar.i64 (by omega) (by omega) ?_
   refine nilCheck rfl ?_
   refine fieldAddr st73 rfl rfl rfl ?_
   refine loadO o2 0 rfl ty31 rfl rfl ?_
   refine lenN (o2.reads 1 hRd rfl) sl31 ?_
   refine Br.dec (fun c39 => ?_) (fun hc => absurd (by omega) hc)
   refine DrawVC.intro [0, 2, 3, 6, 7, 8, 9, 11, 12, 13, 15, 16, 17, 19, 20, 21, 22, 23, 24, 26, 27, 28, 30, 31, 32, 34, 35] [4, 10, 14, 18, 25, 29, 33] [] [0, 2, 1, 3, 4, 5, 6, 7, 8, 9, 10, 11, 12, 13, 14, 15, 16, 17, 18, 19, 20, 21, 22, 23, 24, 25, 26, 27, 28, 29, 30, 31, 32, 33, 34, 35] mixed (by kernel_rfl) rfl (fun _ _ _ _ h => h) ?_
   refine CallVC.ret (roperations_spec _) ?_
   rintro _ h3 ⟨bo3, rfl, oc⟩
   have o3 := Own.call ‹_› oc
   simp only [lcA, lnA] at o3
   refine ⟨Own.ext oc, ?_⟩
   clear oc
   refine idxB o3 5 rfl sl42 ty9 rfl rfl (by omega) (by first | omega | (simp; omega)) ?_
   refine loadO o3 5 rfl ty9 rfl ‹_› ?_
   refine CallVC.ret (rsees_still nm bp w L s _ (Own.cellB ‹_› 0 rfl 0) (Own.cellB ‹_› 0 rfl 1) (Own.cellB ‹_› 0 rfl 2) (Own.reads ‹_› 1 hRd rfl) hl) ?_
   rintro _ h4 ⟨rfl, oc⟩
   have o4 := oc.thenE ‹_›
   refine ⟨Own.ext oc, ?_⟩
   clear oc
   by_cases hik : i = 5
   ·have hb : seesR L nm s = true := hsk nm (by rw [← hik]; exact hnm)
    rw [hb]
    refine Br.tt ?_
    refine nilCheck rfl ?_
    refine fieldAddr st73 rfl rfl rfl ?_
    refine loadO o4 0 rfl ty31 rfl rfl ?_
    refine nilCheck rfl ?_
    refine fieldAddr st73 rfl rfl rfl ?_
    refine loadO o4 0 rfl ty3 rfl rfl ?_
    refine Ar.i64 (by omega) (by omega) ?_
    refine idxN sl31 ty38 (o4.reads 1 hRd rfl) rfl (by omega) (by omega) ?_
    refine fieldAdr (o4.reads 1 hRd rfl) (by omega) st38 rfl rfl rfl ?_
    refine loadFF (o4.reads 1 hRd rfl) ty3 (fun _ => rfl) rfl ‹_› rfl ?_
    refine Br.dec (fun c59 => ?_) (fun hc => absurd (by omega) hc)
    refine nilCheck rfl ?_
    refine fieldAddr st73 rfl rfl rfl ?_
    refine loadO o4 0 rfl ty31 rfl rfl ?_
    refine nilCheck rfl ?_
    refine fieldAddr st73 rfl rfl rfl ?_
    refine loadO o4 0 rfl ty3 rfl rfl ?_
    refine Ar.i64 (by omega) (by omega) ?_
    refine idxN sl31 ty38 (o4.reads 1 hRd rfl) rfl (by omega) (by omega) ?_
    refine fieldAdr (o4.reads 1 hRd rfl) (by omega) st38 rfl rfl rfl ?_
    refine loadFF (o4.reads 1 hRd rfl) ty9 (fun _ => rfl) rfl ‹_› rfl ?_
    refine Br.dec (fun c69 => ?_) (fun hc => absurd (by omega) hc)
    refine Ar.i64 (by omega) (by omega) ?_
    refine run (fieldAddr st49 rfl rfl rfl ?_)
    (refine RunVC.store o4 3 rfl ty3 rfl (by simp) (And.intro ⟨rfl, rfl⟩ ?_); intro m71 o71)
    refine Ar.i64 (by omega) (by omega) ?_
    refine ⟨rfl, ?_⟩
    refine ⟨⟨i + 1, 7, by omega, by rw [if_neg (by omega)], rfl, ?_⟩, by simp; omega⟩
    have e2 : (2 + (i : Int)) = 7 := by rw [hik]; rfl
    rw [← e2]
    exact Own.sel ‹_› [0, 1, 2, 3] rfl
   ·have hb : seesR L nm s = false := hsn i nm h7 hik hnm
    rw [hb]
    refine Br.ff ?_
    refine Br.ff ?_
    refine Ar.i64 (by omega) (by omega) ?_
    refine ⟨rfl, ?_⟩
    refine ⟨⟨i + 1, kd, by omega, ?_, rfl, Own.sel ‹_› [0, 1, 2, 3] rfl⟩, by simp; omega⟩
    rw [hkd]
    by_cases hle : i ≤ 5
    ·rw [if_pos hle, if_pos (by omega)]
    ·rw [if_neg hle, if_neg (by omega)]
  ·have hkd : kd = 7 := by rw [hkd]; exact if_neg (by omega)
   subst hkd
   refine lenV rfl sl42 ?_
   refine Br.dec (fun hc => absurd hc (by omega)) (fun c111 => ?_)
   refine Br.ff ?_
   refine run (fieldAddr st49 rfl rfl rfl ?_)
   refine run (loadO o2 3 rfl ty3 rfl rfl ?_)
   refine Br.ff ?_
   refine rname_spec.callL ‹_› rfl hR hl hi (fun nm_ s21 v h21 hm hv hi21 hj21 oq => ?_)
   subst hv
   rw [RM.bind_of hm] at hE
   have o21 := oq
   simp only [RSt, pick, lcA, lnA, lgS, lgZ, lgN] at o21
   clear oq
   refine (rmust_spec [40]).callL ‹_› rfl hR hl hj21 (fun a22 s22 v h22 hm hv hi22 hj22 oq => ?_)
   subst hv
   rw [RM.bind_of hm] at hE
   have o22 := oq
   simp only [RSt, pick, lcA, lnA, lgS, lgZ, lgN] at o22
   clear oq
   have o22 := Own.sel o22 [0, 1, 2, 3] rfl
   simp only [RSt, pick, lcA, lnA, lgS, lgZ, lgN] at o22
   refine Ar.i64 (by omega) (by omega) ?_
   refine RSpecI.callL (ih (level + 1) (by omega)) ‹_› rfl hR hl hj22 (fun x1 s23 v I1 h23 hm hv hi23 hj23 oq => ?_)
   obtain ⟨⟨c1, hlc1⟩, rfl, hx1⟩ := hv
   rw [RM.bind_of hm] at hE
   have o23 := oq
   simp only [RSt, pick, lcA, lnA, lgS, lgZ, lgN] at o23
   clear oq
   dsimp only at hx1
   obtain ⟨c1k, c1t, c1a1, c1n1, c1b1, c1a2, c1n2, c1b2, c1a3, c1n3, c1b3, c1a, c1s, c1g, c1o, rfl⟩ := exR_nine hx1 (Own.satK o23 2 rfl)
   rw [ifR_no (show twoB 5 = false from rfl)] at hE
   simp only [RM.assoc, RM.pure_bind, opRestR] at hE
   (refine RunVC.litN o23 sl47 ty49 rfl rfl (by decide) ?_)
   refine And.intro rfl ?_
   intro b141 m141 o141
   refine run (fieldAddr st49 rfl rfl rfl ?_)
   (refine RunVC.store o141 4 rfl ty47 rfl (by simp) (And.intro ⟨rfl, rfl⟩ ?_); intro m143 o143)
   refine run (fieldAddr st49 rfl rfl rfl ?_)
   refine run (loadO o143 4 rfl ty3 rfl rfl ?_)
   refine Br.ff ?_
   refine Br.ff ?_
   refine Br.tt ?_
   refine (rmust_spec [44]).callL ‹_› rfl hR hl hj23 (fun a24 s24 v h24 hm hv hi24 hj24 oq => ?_)
   subst hv
   rw [RM.bind_of hm] at hE
   have o24 := oq
   simp only [RSt, pick, lcA, lnA, lgS, lgZ, lgN] at o24
   clear oq
   refine rname_spec.callL ‹_› rfl hR hl hj24 (fun at_ s25 v h25 hm hv hi25 hj25 oq => ?_)
   subst hv
   rw [RM.bind_of hm] at hE
   have o25 := oq
   simp only [RSt, pick, lcA, lnA, lgS, lgZ, lgN] at o25
   clear oq
   refine run (fieldAddr st49 rfl rfl rfl ?_)
   (refine RunVC.store o25 4 rfl ty9 rfl (by simp) (And.intro ⟨rfl, rfl⟩ ?_); intro m161 o161)
   refine (rmust_spec [97, 115]).callL ‹_› rfl hR hl hj25 (fun a26 s26 v h26 hm hv hi26 hj26 oq => ?_)
   subst hv
   rw [RM.bind_of hm] at hE
   have o26 := oq
   simp only [RSt, pick, lcA, lnA, lgS, lgZ, lgN] at o26
   clear oq
   refine rname_spec.callL ‹_› rfl hR hl hj26 (fun as_ s27 v h27 hm hv hi27 hj27 oq => ?_)
   subst hv
   rw [RM.bind_of hm] at hE
   have o27 := oq
   simp only [RSt, pick, lcA, lnA, lgS, lgZ, lgN] at o27
   clear oq
   refine run (fieldAddr st49 rfl rfl rfl ?_)
   (refine RunVC.store o27 4 rfl ty9 rfl (by simp) (And.intro ⟨rfl, rfl⟩ ?_); intro m181 o181)
   refine (rmust_spec [41]).callL ‹_› rfl hR hl hj27 (fun a28 s28 v h28 hm hv hi28 hj28 oq => ?_)
   subst hv
   rw [RM.bind_of hm] at hE
   have o28 := oq
   simp only [RSt, pick, lcA, lnA, lgS, lgZ, lgN] at o28
   clear oq
   refine run (loadON o28 4 rfl ty49 rfl rfl rfl ?_)
   (refine RunVC.storeL o28 3 rfl ty49 rfl (by decide) (And.intro ⟨rfl, rfl⟩ ?_); intro m191 o191)
   first | refine RetVC.cell2 rfl o191 3 rfl ty49 rfl rfl ?_ | refine RetVC.cell1 rfl o191 3 rfl ty49 rfl rfl ?_ | refine RetVC.cellTT rfl o191 3 rfl ty49 rfl rfl ?_
   obtain ⟨W, oW, hs⟩ := Own.allM (M := [_, _]) ‹_› [2, 5] [0, 1] rfl rfl
   refine ⟨.mk 7 [] [x1] [] [] at_ as_ 0 t.off, _, W, hE, ⟨⟨exC 7 [] _ _ _ at_ as_ 0 t.off, rfl⟩, rfl, ?_⟩, by omega, by omega, oW.sel [1, 2, 0] rfl⟩
   rw [exR]
   exact ⟨_, _, _, rfl, nil_reads, nil_reads, [⟨_, rfl⟩], (box_reads rfl (by decide)).mono (hs 1 _ rfl), exR.mono (hs 0 _ rfl) _ _ hx1, trivial⟩

end Go.Proofs.YtnmfanjhepepbaaGreatDoor

/- The reference's reader: group. -/
namespace Go.Proofs.YtnmfanjhepepbaaGreatDoor
open Go StillVC

set_option maxHeartbeats 100000000 in
set_option maxRecDepth 100000 in
theorem rexpr_op6 (n : Nat) (hn : n ≤ 11) (ih : RExSpec n) (level : Int) (hlv : level = 13 - ((n + 1 : Nat) : Int)) (B : Base) (bp z : Nat) (tk : Item) (w : Value) (L : List Tok) (s : RS) (h : Heap) (o : Own B (RSt bp z w tk s) h) (hR : TokR tk w L) (hl : L.length ≤ 5000) (hi : s.i ≤ L.length)
  (ho : opIdxR L s = some 6) : SpecR Tryz.prog 58 [.pointer (some ⟨bp, 0, none⟩), .int .i64 level] h fun v h' =>
   ∃ x s' I, exprR L z (n + 1) s = (x, s') ∧ exV x v I ∧ s.i ≤ s'.i ∧ s'.i ≤ L.length ∧ Own B [box bp [w, .int .i64 s'.i, .int .i64 s'.e, .int .i64 s'.a, .int .i64 z] 73, tk, I] h' := by
 unfold RSt at o
 have hE := congrFun (exprR.eq_2 L z n) s
 simp only [ho] at hE
 obtain ⟨he, t, t2, hx, hx2, hk2, ht2, hsk, hsn⟩ := opIdxR_is ho
 obtain ⟨hRd, hK⟩ := hR
 have hR : TokR tk w L := ⟨hRd, hK⟩
 have hlt := drop_lt hx
 have hlt2 := drop_lt hx2
 have hhd : headR L s = t.off := by unfold headR; rw [if_pos he]; simp only [hx]
 rw [hhd] at hE
 have hx3 : L[((s.i : Int) + 1).toNat]? = some t2 := by rw [show ((s.i : Int) + 1).toNat = s.i + 1 by omega]; exact hx2
 have hsl : (strs opNames).length = 7 := rfl
 refine Spec.enter Tryz.func58 rfl Tryz.ntmps58 (by kernel_rfl) ?_
 (refine RunVC.alloc o ty49 ?_; intro b10 m10 o10)
 refine DrawVC.intro [0, 1, 2, 3, 4, 5, 7, 8, 9, 10, 11, 12, 14, 15, 16, 18, 19, 20] [6, 13, 17] [] [0, 1, 2, 3, 4, 5, 6, 7, 8, 9, 10, 11, 12, 13, 14, 15, 16, 17, 18, 19, 20] mixed (by kernel_rfl) rfl (fun _ _ _ _ h => h) ?_
 refine Br.dec (fun hc => absurd hc (by omega)) (fun c11 => ?_)
 refine Br.ff ?_
 refine run (buildK st49 ?_)
 refine And.intro rfl ?_
 (refine RunVC.alloc o10 ty49 ?_; intro b13 m13 o13)
 (refine RunVC.storeL o13 3 rfl ty49 rfl (by decide) (And.intro ⟨rfl, rfl⟩ ?_); intro m14 o14)
 refine DrawVC.intro [0, 1, 2, 4, 5, 6, 7, 8, 10, 11, 12, 14, 15, 16] [3, 9, 13] [] [0, 1, 2, 3, 4, 5, 6, 7, 8, 9, 10, 11, 12, 13, 14, 15, 16] mixed (by kernel_rfl) rfl (fun _ _ _ _ h => h) ?_
 refine nilCheck rfl ?_
 refine fieldAddr st73 rfl rfl rfl ?_
 refine loadO o14 0 rfl ty26 rfl rfl ?_
 refine Br.dec (fun c18 => ?_) (fun hc => absurd (by omega) hc)
 refine nilCheck rfl ?_
 refine fieldAddr st73 rfl rfl rfl ?_
 refine loadO o14 0 rfl ty3 rfl rfl ?_
 refine nilCheck rfl ?_
 refine fieldAddr st73 rfl rfl rfl ?_
 refine loadO o14 0 rfl ty31 rfl rfl ?_
 refine lenN (o14.reads 1 hRd rfl) sl31 ?_
 refine Br.dec (fun c26 => ?_) (fun hc => absurd (by omega) hc)
 refine DrawVC.intro [0, 1, 2, 4, 5, 6, 8, 9, 11] [3, 7, 10] [12] [0, 1, 2, 3, 4, 5, 6, 7, 8, 9, 10, 11, 12] mixed (by kernel_rfl) rfl (fun _ _ _ _ h => h) ?_
 refine nilCheck rfl ?_
 refine fieldAddr st73 rfl rfl rfl ?_
 refine loadO o14 0 rfl ty31 rfl rfl ?_
 refine nilCheck rfl ?_
 refine fieldAddr st73 rfl rfl rfl ?_
 refine loadO o14 0 rfl ty3 rfl rfl ?_
 refine idxN sl31 ty38 (o14.reads 1 hRd rfl) rfl (by omega) (by omega) ?_
 refine fieldAdr (o14.reads 1 hRd rfl) (by omega) st38 rfl rfl rfl ?_
 refine loadFF (o14.reads 1 hRd rfl) ty3 (fun _ => rfl) rfl ‹_› rfl ?_
 refine fieldAddr st49 rfl rfl rfl ?_
 (refine RunVC.storeL o14 3 rfl ty3 rfl (by decide) (And.intro ⟨rfl, rfl⟩ ?_); intro m37 o37)
 refine LoopVC.intro [6, 60, 61, 62, 63, 64, 65, 66, 67, 68, 69, 70, 71, 72, 73, 74, 75, 76, 77, 78, 79, 80, 81, 82, 83, 84, 85, 86, 87, 88, 89, 90, 91, 92, 93, 94, 95, 96, 97, 98, 99, 100, 101, 102, 103, 104, 105, 106, 107, 108, 109, 110, 111, 112, 113, 114, 115, 116, 117] [6] (fun vs hh => ∃ (i : Nat) (kd : Int), i ≤ 7 ∧ kd = (if i ≤ 6 then 1 else 8) ∧ vs = [.int .i64 i] ∧ Own B [box bp [w, .int .i64 s.i, .int .i64 s.e, .int .i64 s.a, .int .i64 z] 73, tk, box b10 [.int .i64 0, .string ⟨⟨[]⟩⟩, nilV, nilV, nilV, .string ⟨⟨[]⟩⟩, .string ⟨⟨[]⟩⟩, .int .i64 0, .int .i64 0] 49, box b13 [.int .i64 kd, .string ⟨⟨[]⟩⟩, nilV, nilV, nilV, .string ⟨⟨[]⟩⟩, .string ⟨⟨[]⟩⟩, .int .i64 0, .int .i64 t.off] 49] hh) (fun vs _ => match vs with | [.int _ i] => 7 - i.toNat | _ => 0) ?_ ?_
 ·exact ⟨0, 1, by omega, rfl, rfl, Own.sel ‹_› [0, 1, 2, 3] rfl⟩
 ·rintro vs junk hh ⟨i, kd, hi7, hkd, rfl, oh⟩
  refine DrawVC.intro [0, 2, 3, 4, 5, 6, 7, 9, 10, 11, 12, 14, 15, 16] [8, 13] [] [0, 1, 2, 3, 4, 5, 6, 7, 8, 9, 10, 11, 12, 13, 14, 15, 16] mixed (by kernel_rfl) rfl (fun _ _ _ _ h => h) ?_
  refine CallVC.ret (roperations_spec _) ?_
  rintro _ h2 ⟨bo, rfl, oc⟩
  have o2 := Own.call ‹_› oc
  simp only [lcA, lnA] at o2
  refine ⟨Own.ext oc, ?_⟩
  clear oc
  by_cases h7 : i < 7
  ·obtain ⟨nm, hnm⟩ := getx (show i < opNames.length from h7)
   have hss : (strs opNames)[i]? = some (.string ⟨⟨nm⟩⟩) := by simp [strs, hnm]
   refine lenV rfl sl42 ?_
   refine Br.dec (fun c31 => ?_) (fun hc => absurd (by omega) hc)
   refine nilCheck rfl ?_
   refine fieldAddr st73 rfl rfl rfl ?_
   refine loadO o2 0 rfl ty3 rfl rfl ?_
   refine Ar.i64 (by omega) (by omega) ?_
   refine nilCheck rfl ?_
   refine fieldAddr st73 rfl rfl rfl ?_
   refine loadO o2 0 rfl ty31 rfl rfl ?_
   refine lenN (o2.reads 1 hRd rfl) sl31 ?_
   refine Br.dec (fun c39 => ?_) (fun hc => absurd (by omega) hc)
   refine DrawVC.intro [0, 2, 3, 6, 7, 8, 9, 11, 12, 13, 15, 16, 17, 19, 20, 21, 22, 23, 24, 26, 27, 28, 30, 31, 32, 34, 35] [4, 10, 14, 18, 25, 29, 33] [] [0, 2, 1, 3, 4, 5, 6, 7, 8, 9, 10, 11, 12, 13, 14, 15, 16, 17, 18, 19, 20, 21, 22, 23, 24, 25, 26, 27, 28, 29, 30, 31, 32, 33, 34, 35] mixed (by kernel_rfl) rfl (fun _ _ _ _ h => h) ?_
   refine CallVC.ret (roperations_spec _) ?_
   rintro _ h3 ⟨bo3, rfl, oc⟩
   have o3 := Own.call ‹_› oc
   simp only [lcA, lnA] at o3
   refine ⟨Own.ext oc, ?_⟩
   clear oc
   refine idxB o3 5 rfl sl42 ty9 rfl rfl (by omega) (by first | omega | (simp; omega)) ?_
   refine loadO o3 5 rfl ty9 rfl ‹_› ?_
   refine CallVC.ret (rsees_still nm bp w L s _ (Own.cellB ‹_› 0 rfl 0) (Own.cellB ‹_› 0 rfl 1) (Own.cellB ‹_› 0 rfl 2) (Own.reads ‹_› 1 hRd rfl) hl) ?_
   rintro _ h4 ⟨rfl, oc⟩
   have o4 := oc.thenE ‹_›
   refine ⟨Own.ext oc, ?_⟩
   clear oc
   by_cases hik : i = 6
   ·have hb : seesR L nm s = true := hsk nm (by rw [← hik]; exact hnm)
    rw [hb]
    refine Br.tt ?_
    refine nilCheck rfl ?_
    refine fieldAddr st73 rfl rfl rfl ?_
    refine loadO o4 0 rfl ty31 rfl rfl ?_
    refine nilCheck rfl ?_
    refine fieldAddr st73 rfl rfl rfl ?_
    refine loadO o4 0 rfl ty3 rfl rfl ?_
    refine Ar.i64 (by omega) (by omega) ?_
    refine idxN sl31 ty38 (o4.reads 1 hRd rfl) rfl (by omega) (by omega) ?_
    refine fieldAdr (o4.reads 1 hRd rfl) (by omega) st38 rfl rfl rfl ?_
    refine loadFF (o4.reads 1 hRd rfl) ty3 (fun _ => rfl) rfl ‹_› rfl ?_
    refine Br.dec (fun c59 => ?_) (fun hc => absurd (by omega) hc)
    refine nilCheck rfl ?_
    refine fieldAddr st73 rfl rfl rfl ?_
    refine loadO o4 0 rfl ty31 rfl rfl ?_
    refine nilCheck rfl ?_
    refine fieldAddr st73 rfl rfl rfl ?_
    refine loadO o4 0 rfl ty3 rfl rfl ?_
    refine Ar.i64 (by omega) (by omega) ?_
    refine idxN sl31 ty38 (o4.reads 1 hRd rfl) rfl (by omega) (by omega) ?_
    refine fieldAdr (o4.reads 1 hRd rfl) (by omega) st38 rfl rfl rfl ?_
    refine loadFF (o4.reads 1 hRd rfl) ty9 (fun _ => rfl) rfl ‹_› rfl ?_
    refine Br.dec (fun c69 => ?_) (fun hc => absurd (by omega) hc)
    refine Ar.i64 (by omega) (by omega) ?_
    refine run (fieldAddr st49 rfl rfl rfl ?_)
    (refine RunVC.store o4 3 rfl ty3 rfl (by simp) (And.intro ⟨rfl, rfl⟩ ?_); intro m71 o71)
    refine Ar.i64 (by omega) (by omega) ?_
    refine ⟨rfl, ?_⟩
    refine ⟨⟨i + 1, 8, by omega, by rw [if_neg (by omega)], rfl, ?_⟩, by simp; omega⟩
    have e2 : (2 + (i : Int)) = 8 := by rw [hik]; rfl
    rw [← e2]
    exact Own.sel ‹_› [0, 1, 2, 3] rfl
   ·have hb : seesR L nm s = false := hsn i nm h7 hik hnm
    rw [hb]
    refine Br.ff ?_
    refine Br.ff ?_
    refine Ar.i64 (by omega) (by omega) ?_
    refine ⟨rfl, ?_⟩
    refine ⟨⟨i + 1, kd, by omega, ?_, rfl, Own.sel ‹_› [0, 1, 2, 3] rfl⟩, by simp; omega⟩
    rw [hkd]
    by_cases hle : i ≤ 6
    ·rw [if_pos hle, if_pos (by omega)]
    ·rw [if_neg hle, if_neg (by omega)]
  ·have hkd : kd = 8 := by rw [hkd]; exact if_neg (by omega)
   subst hkd
   refine lenV rfl sl42 ?_
   refine Br.dec (fun hc => absurd hc (by omega)) (fun c111 => ?_)
   refine Br.ff ?_
   refine run (fieldAddr st49 rfl rfl rfl ?_)
   refine run (loadO o2 3 rfl ty3 rfl rfl ?_)
   refine Br.ff ?_
   refine rname_spec.callL ‹_› rfl hR hl hi (fun nm_ s21 v h21 hm hv hi21 hj21 oq => ?_)
   subst hv
   rw [RM.bind_of hm] at hE
   have o21 := oq
   simp only [RSt, pick, lcA, lnA, lgS, lgZ, lgN] at o21
   clear oq
   refine (rmust_spec [40]).callL ‹_› rfl hR hl hj21 (fun a22 s22 v h22 hm hv hi22 hj22 oq => ?_)
   subst hv
   rw [RM.bind_of hm] at hE
   have o22 := oq
   simp only [RSt, pick, lcA, lnA, lgS, lgZ, lgN] at o22
   clear oq
   have o22 := Own.sel o22 [0, 1, 2, 3] rfl
   simp only [RSt, pick, lcA, lnA, lgS, lgZ, lgN] at o22
   refine Ar.i64 (by omega) (by omega) ?_
   refine RSpecI.callL (ih (level + 1) (by omega)) ‹_› rfl hR hl hj22 (fun x1 s23 v I1 h23 hm hv hi23 hj23 oq => ?_)
   obtain ⟨⟨c1, hlc1⟩, rfl, hx1⟩ := hv
   rw [RM.bind_of hm] at hE
   have o23 := oq
   simp only [RSt, pick, lcA, lnA, lgS, lgZ, lgN] at o23
   clear oq
   dsimp only at hx1
   obtain ⟨c1k, c1t, c1a1, c1n1, c1b1, c1a2, c1n2, c1b2, c1a3, c1n3, c1b3, c1a, c1s, c1g, c1o, rfl⟩ := exR_nine hx1 (Own.satK o23 2 rfl)
   rw [ifR_no (show twoB 6 = false from rfl)] at hE
   simp only [RM.assoc, RM.pure_bind, opRestR] at hE
   (refine RunVC.litN o23 sl47 ty49 rfl rfl (by decide) ?_)
   refine And.intro rfl ?_
   intro b141 m141 o141
   refine run (fieldAddr st49 rfl rfl rfl ?_)
   (refine RunVC.store o141 4 rfl ty47 rfl (by simp) (And.intro ⟨rfl, rfl⟩ ?_); intro m143 o143)
   refine run (fieldAddr st49 rfl rfl rfl ?_)
   refine run (loadO o143 4 rfl ty3 rfl rfl ?_)
   refine Br.ff ?_
   refine Br.ff ?_
   refine Br.ff ?_
   refine Br.tt ?_
   refine (rmust_spec [111, 110]).callL ‹_› rfl hR hl hj23 (fun a24 s24 v h24 hm hv hi24 hj24 oq => ?_)
   subst hv
   rw [RM.bind_of hm] at hE
   have o24 := oq
   simp only [RSt, pick, lcA, lnA, lgS, lgZ, lgN] at o24
   clear oq
   refine (rsees_spec [119, 105, 116, 104]).callL ‹_› rfl hR hl hj24 (fun b s25 v h25 hm hv hi25 hj25 oq => ?_)
   subst hv
   injection hm with hb hs_
   subst hs_
   have o25 := oq
   simp only [RSt, pick, lcA, lnA, lgS, lgZ, lgN] at o25
   clear oq
   cases b with
   | true =>
    have hU : namesUR L z [119, 105, 116, 104] _ = ([], _) := if_pos hb
    rw [RM.bind_of hU] at hE
    refine Br.ff ?_
    refine (rmust_spec [119, 105, 116, 104]).callL ‹_› rfl hR hl hj25 (fun a26 s26 v h26 hm hv hi26 hj26 oq => ?_)
    subst hv
    rw [RM.bind_of hm] at hE
    have o26 := oq
    simp only [RSt, pick, lcA, lnA, lgS, lgZ, lgN] at o26
    clear oq
    (refine RunVC.lit o26 sl42 ty9 rfl rfl (by decide) (And.intro rfl ?_); intro b170 m170 o170)
    refine rone_call (ss := [[99, 111, 117, 110, 116], [115, 117, 109], [108, 101, 97, 115, 116], [103, 114, 101, 97, 116, 101, 115, 116]]) ‹_› rfl ⟨6, by decide, rfl⟩ hR hl hj26 (by decide) (fun gg s27 v h27 hm hv hi27 hj27 oq => ?_)
    subst hv
    rw [RM.bind_of hm] at hE
    have o27 := oq
    simp only [RSt, pick, lcA, lnA, lgS, lgZ, lgN] at o27
    clear oq
    by_cases hg : 1 < gg
    ·rw [ifR_yes (by simp [hg])] at hE
     refine run (fieldAddr st49 rfl rfl rfl ?_)
     (refine RunVC.store o27 4 rfl ty3 rfl (by simp) (And.intro ⟨rfl, rfl⟩ ?_); intro m181 o181)
     refine run (fieldAddr st49 rfl rfl rfl ?_)
     refine run (loadO o181 4 rfl ty3 rfl rfl ?_)
     refine Br.dec (fun c184 => ?_) (fun hc => absurd (by omega) hc)
     refine rname_spec.callL ‹_› rfl hR hl hj27 (fun at_ s28 v h28 hm hv hi28 hj28 oq => ?_)
     subst hv
     rw [RM.bind_of hm] at hE
     have o28 := oq
     simp only [RSt, pick, lcA, lnA, lgS, lgZ, lgN] at o28
     clear oq
     refine run (fieldAddr st49 rfl rfl rfl ?_)
     (refine RunVC.store o28 4 rfl ty9 rfl (by simp) (And.intro ⟨rfl, rfl⟩ ?_); intro m191 o191)
     refine (rmust_spec [97, 115]).callL ‹_› rfl hR hl hj28 (fun a29 s29 v h29 hm hv hi29 hj29 oq => ?_)
     subst hv
     rw [RM.bind_of hm] at hE
     have o29 := oq
     simp only [RSt, pick, lcA, lnA, lgS, lgZ, lgN] at o29
     clear oq
     refine rname_spec.callL ‹_› rfl hR hl hj29 (fun as_ s30 v h30 hm hv hi30 hj30 oq => ?_)
     subst hv
     rw [RM.bind_of hm] at hE
     have o30 := oq
     simp only [RSt, pick, lcA, lnA, lgS, lgZ, lgN] at o30
     clear oq
     refine run (fieldAddr st49 rfl rfl rfl ?_)
     (refine RunVC.store o30 4 rfl ty9 rfl (by simp) (And.intro ⟨rfl, rfl⟩ ?_); intro m211 o211)
     refine (rmust_spec [41]).callL ‹_› rfl hR hl hj30 (fun a31 s31 v h31 hm hv hi31 hj31 oq => ?_)
     subst hv
     rw [RM.bind_of hm] at hE
     have o31 := oq
     simp only [RSt, pick, lcA, lnA, lgS, lgZ, lgN] at o31
     clear oq
     refine run (loadON o31 4 rfl ty49 rfl rfl rfl ?_)
     (refine RunVC.storeL o31 3 rfl ty49 rfl (by decide) (And.intro ⟨rfl, rfl⟩ ?_); intro m221 o221)
     first | refine RetVC.cell2 rfl o221 3 rfl ty49 rfl rfl ?_ | refine RetVC.cell1 rfl o221 3 rfl ty49 rfl rfl ?_ | refine RetVC.cellTT rfl o221 3 rfl ty49 rfl rfl ?_
     obtain ⟨W, oW, hs⟩ := Own.allM (M := [_, _]) ‹_› [2, 5] [0, 1] rfl rfl
     refine ⟨.mk 8 [] [x1] [] [] at_ as_ gg t.off, _, W, hE, ⟨⟨exC 8 [] _ _ _ at_ as_ gg t.off, rfl⟩, rfl, ?_⟩, by omega, by omega, oW.sel [1, 2, 0] rfl⟩
     rw [exR]
     exact ⟨_, _, _, rfl, nil_reads, nil_reads, [⟨_, rfl⟩], (box_reads rfl (by decide)).mono (hs 1 _ rfl), exR.mono (hs 0 _ rfl) _ _ hx1, trivial⟩
    ·rw [ifR_no (by simp [hg]), RM.bind_of (RM.pure_eq _ _)] at hE
     refine run (fieldAddr st49 rfl rfl rfl ?_)
     (refine RunVC.store o27 4 rfl ty3 rfl (by simp) (And.intro ⟨rfl, rfl⟩ ?_); intro m231 o231)
     refine run (fieldAddr st49 rfl rfl rfl ?_)
     refine run (loadO o231 4 rfl ty3 rfl rfl ?_)
     refine Br.dec (fun hc => absurd hc (by omega)) (fun c234 => ?_)
     refine (rmust_spec [97, 115]).callL ‹_› rfl hR hl hj27 (fun a32 s32 v h32 hm hv hi32 hj32 oq => ?_)
     subst hv
     rw [RM.bind_of hm] at hE
     have o32 := oq
     simp only [RSt, pick, lcA, lnA, lgS, lgZ, lgN] at o32
     clear oq
     refine rname_spec.callL ‹_› rfl hR hl hj32 (fun as_ s33 v h33 hm hv hi33 hj33 oq => ?_)
     subst hv
     rw [RM.bind_of hm] at hE
     have o33 := oq
     simp only [RSt, pick, lcA, lnA, lgS, lgZ, lgN] at o33
     clear oq
     refine run (fieldAddr st49 rfl rfl rfl ?_)
     (refine RunVC.store o33 4 rfl ty9 rfl (by simp) (And.intro ⟨rfl, rfl⟩ ?_); intro m251 o251)
     refine (rmust_spec [41]).callL ‹_› rfl hR hl hj33 (fun a34 s34 v h34 hm hv hi34 hj34 oq => ?_)
     subst hv
     rw [RM.bind_of hm] at hE
     have o34 := oq
     simp only [RSt, pick, lcA, lnA, lgS, lgZ, lgN] at o34
     clear oq
     refine run (loadON o34 4 rfl ty49 rfl rfl rfl ?_)
     (refine RunVC.storeL o34 3 rfl ty49 rfl (by decide) (And.intro ⟨rfl, rfl⟩ ?_); intro m261 o261)
     first | refine RetVC.cell2 rfl o261 3 rfl ty49 rfl rfl ?_ | refine RetVC.cell1 rfl o261 3 rfl ty49 rfl rfl ?_ | refine RetVC.cellTT rfl o261 3 rfl ty49 rfl rfl ?_
     obtain ⟨W, oW, hs⟩ := Own.allM (M := [_, _]) ‹_› [2, 5] [0, 1] rfl rfl
     refine ⟨.mk 8 [] [x1] [] [] [] as_ gg t.off, _, W, hE, ⟨⟨exC 8 [] _ _ _ [] as_ gg t.off, rfl⟩, rfl, ?_⟩, by omega, by omega, oW.sel [1, 2, 0] rfl⟩
     rw [exR]
     exact ⟨_, _, _, rfl, nil_reads, nil_reads, [⟨_, rfl⟩], (box_reads rfl (by decide)).mono (hs 1 _ rfl), exR.mono (hs 0 _ rfl) _ _ hx1, trivial⟩
   | false =>
    refine Br.tt ?_
    refine RSpecI.callL rnames_spec ‹_› rfl hR hl hj25 (fun l s35 v35 I35 h35 hm hv hi35 hj35 oq => ?_)
    obtain ⟨hn35, rfl⟩ := hv
    have hU : namesUR L z [119, 105, 116, 104] _ = (l, _) := (if_neg (by rw [hb]; decide)).trans hm
    rw [RM.bind_of hU] at hE
    have o35 := oq
    simp only [RSt, pick, lcA, lnA, lgS, lgZ, lgN] at o35
    clear oq
    obtain ⟨va35, vb35, rfl⟩ := o35.rowIs 2 rfl
    refine run (fieldAddr st49 rfl rfl rfl ?_)
    (refine RunVC.store o35 5 rfl ty42 rfl (by simp) (And.intro ⟨rfl, rfl⟩ ?_); intro m281 o281)
    refine (rmust_spec [119, 105, 116, 104]).callL ‹_› rfl hR hl hj35 (fun a36 s36 v h36 hm hv hi36 hj36 oq => ?_)
    subst hv
    rw [RM.bind_of hm] at hE
    have o36 := oq
    simp only [RSt, pick, lcA, lnA, lgS, lgZ, lgN] at o36
    clear oq
    (refine RunVC.lit o36 sl42 ty9 rfl rfl (by decide) (And.intro rfl ?_); intro b290 m290 o290)
    refine rone_call (ss := [[99, 111, 117, 110, 116], [115, 117, 109], [108, 101, 97, 115, 116], [103, 114, 101, 97, 116, 101, 115, 116]]) ‹_› rfl ⟨7, by decide, rfl⟩ hR hl hj36 (by decide) (fun gg s37 v h37 hm hv hi37 hj37 oq => ?_)
    subst hv
    rw [RM.bind_of hm] at hE
    have o37 := oq
    simp only [RSt, pick, lcA, lnA, lgS, lgZ, lgN] at o37
    clear oq
    by_cases hg : 1 < gg
    ·rw [ifR_yes (by simp [hg])] at hE
     refine run (fieldAddr st49 rfl rfl rfl ?_)
     (refine RunVC.store o37 5 rfl ty3 rfl (by simp) (And.intro ⟨rfl, rfl⟩ ?_); intro m301 o301)
     refine run (fieldAddr st49 rfl rfl rfl ?_)
     refine run (loadO o301 5 rfl ty3 rfl rfl ?_)
     refine Br.dec (fun c304 => ?_) (fun hc => absurd (by omega) hc)
     refine rname_spec.callL ‹_› rfl hR hl hj37 (fun at_ s38 v h38 hm hv hi38 hj38 oq => ?_)
     subst hv
     rw [RM.bind_of hm] at hE
     have o38 := oq
     simp only [RSt, pick, lcA, lnA, lgS, lgZ, lgN] at o38
     clear oq
     refine run (fieldAddr st49 rfl rfl rfl ?_)
     (refine RunVC.store o38 5 rfl ty9 rfl (by simp) (And.intro ⟨rfl, rfl⟩ ?_); intro m311 o311)
     refine (rmust_spec [97, 115]).callL ‹_› rfl hR hl hj38 (fun a39 s39 v h39 hm hv hi39 hj39 oq => ?_)
     subst hv
     rw [RM.bind_of hm] at hE
     have o39 := oq
     simp only [RSt, pick, lcA, lnA, lgS, lgZ, lgN] at o39
     clear oq
     refine rname_spec.callL ‹_› rfl hR hl hj39 (fun as_ s40 v h40 hm hv hi40 hj40 oq => ?_)
     subst hv
     rw [RM.bind_of hm] at hE
     have o40 := oq
     simp only [RSt, pick, lcA, lnA, lgS, lgZ, lgN] at o40
     clear oq
     refine run (fieldAddr st49 rfl rfl rfl ?_)
     (refine RunVC.store o40 5 rfl ty9 rfl (by simp) (And.intro ⟨rfl, rfl⟩ ?_); intro m331 o331)
     refine (rmust_spec [41]).callL ‹_› rfl hR hl hj40 (fun a41 s41 v h41 hm hv hi41 hj41 oq => ?_)
     subst hv
     rw [RM.bind_of hm] at hE
     have o41 := oq
     simp only [RSt, pick, lcA, lnA, lgS, lgZ, lgN] at o41
     clear oq
     refine run (loadON o41 5 rfl ty49 rfl rfl rfl ?_)
     (refine RunVC.storeL o41 4 rfl ty49 rfl (by decide) (And.intro ⟨rfl, rfl⟩ ?_); intro m341 o341)
     first | refine RetVC.cell2 rfl o341 4 rfl ty49 rfl rfl ?_ | refine RetVC.cell1 rfl o341 4 rfl ty49 rfl rfl ?_ | refine RetVC.cellTT rfl o341 4 rfl ty49 rfl rfl ?_
     obtain ⟨W, oW, hs⟩ := Own.allM (M := [_, _]) ‹_› [2, 3, 6] [0, 1] rfl rfl
     refine ⟨.mk 8 [] [x1] [] l at_ as_ gg t.off, _, W, hE, ⟨⟨exC 8 [] _ _ _ at_ as_ gg t.off, rfl⟩, rfl, ?_⟩, by omega, by omega, oW.sel [1, 2, 0] rfl⟩
     rw [exR]
     exact ⟨_, _, _, rfl, nil_reads, (row_reads.mono (hs 0 _ rfl)), [⟨_, rfl⟩], (box_reads rfl (by decide)).mono (hs 2 _ rfl), exR.mono (hs 1 _ rfl) _ _ hx1, trivial⟩
    ·rw [ifR_no (by simp [hg]), RM.bind_of (RM.pure_eq _ _)] at hE
     refine run (fieldAddr st49 rfl rfl rfl ?_)
     (refine RunVC.store o37 5 rfl ty3 rfl (by simp) (And.intro ⟨rfl, rfl⟩ ?_); intro m351 o351)
     refine run (fieldAddr st49 rfl rfl rfl ?_)
     refine run (loadO o351 5 rfl ty3 rfl rfl ?_)
     refine Br.dec (fun hc => absurd hc (by omega)) (fun c354 => ?_)
     refine (rmust_spec [97, 115]).callL ‹_› rfl hR hl hj37 (fun a42 s42 v h42 hm hv hi42 hj42 oq => ?_)
     subst hv
     rw [RM.bind_of hm] at hE
     have o42 := oq
     simp only [RSt, pick, lcA, lnA, lgS, lgZ, lgN] at o42
     clear oq
     refine rname_spec.callL ‹_› rfl hR hl hj42 (fun as_ s43 v h43 hm hv hi43 hj43 oq => ?_)
     subst hv
     rw [RM.bind_of hm] at hE
     have o43 := oq
     simp only [RSt, pick, lcA, lnA, lgS, lgZ, lgN] at o43
     clear oq
     refine run (fieldAddr st49 rfl rfl rfl ?_)
     (refine RunVC.store o43 5 rfl ty9 rfl (by simp) (And.intro ⟨rfl, rfl⟩ ?_); intro m371 o371)
     refine (rmust_spec [41]).callL ‹_› rfl hR hl hj43 (fun a44 s44 v h44 hm hv hi44 hj44 oq => ?_)
     subst hv
     rw [RM.bind_of hm] at hE
     have o44 := oq
     simp only [RSt, pick, lcA, lnA, lgS, lgZ, lgN] at o44
     clear oq
     refine run (loadON o44 5 rfl ty49 rfl rfl rfl ?_)
     (refine RunVC.storeL o44 4 rfl ty49 rfl (by decide) (And.intro ⟨rfl, rfl⟩ ?_); intro m381 o381)
     first | refine RetVC.cell2 rfl o381 4 rfl ty49 rfl rfl ?_ | refine RetVC.cell1 rfl o381 4 rfl ty49 rfl rfl ?_ | refine RetVC.cellTT rfl o381 4 rfl ty49 rfl rfl ?_
     obtain ⟨W, oW, hs⟩ := Own.allM (M := [_, _]) ‹_› [2, 3, 6] [0, 1] rfl rfl
     refine ⟨.mk 8 [] [x1] [] l [] as_ gg t.off, _, W, hE, ⟨⟨exC 8 [] _ _ _ [] as_ gg t.off, rfl⟩, rfl, ?_⟩, by omega, by omega, oW.sel [1, 2, 0] rfl⟩
     rw [exR]
     exact ⟨_, _, _, rfl, nil_reads, (row_reads.mono (hs 0 _ rfl)), [⟨_, rfl⟩], (box_reads rfl (by decide)).mono (hs 2 _ rfl), exR.mono (hs 1 _ rfl) _ _ hx1, trivial⟩

end Go.Proofs.YtnmfanjhepepbaaGreatDoor

/- The reference's reader: expressions. -/
namespace Go.Proofs.YtnmfanjhepepbaaGreatDoor
open Go StillVC

theorem opIdxR_lt {L : List Tok} {s : RS} {k : Nat} (h : opIdxR L s = some k) : k < 7 := by
 unfold opIdxR at h
 simpa using List.mem_of_find?_eq_some h

theorem opIdxR_no {L : List Tok} {s : RS} (h : opIdxR L s = none) : ∀ j, j < 7 → opB L s j = false := by
 unfold opIdxR at h
 rw [List.find?_eq_none] at h
 intro j hj
 have := h j (by simpa using hj)
 simpa using this

theorem rexpr_zero : RExSpec 0 := by
 intro level hlv B bp z tk w L s h o hR hl hi
 have hs1 : limitS L z s = if 12 < level then limitS L z s else s := by rw [if_pos (by omega)]
 have hno : ∀ j, j < 7 → opB L (limitS L z s) j = false := by
  intro j hj
  by_cases hc : s.e = 0 ∧ s.i < L.length
  ·have e : limitS L z s = failS L z 3 s := if_pos hc
   have he : (failS L z 3 s).e ≠ 0 := by
    unfold failS
    rw [if_neg (fun h => h hc.1)]
    split <;> simp
   rw [e]
   unfold opB seesR
   rw [decide_eq_false he, Bool.false_and, Bool.false_and]
  ·have e : limitS L z s = s := if_neg hc
   rw [e]
   unfold opB seesR
   by_cases he : s.e = 0
   ·have hx : L[s.i]? = none := by
     simp
     by_cases hlt : s.i < L.length
     ·exact absurd ⟨he, hlt⟩ hc
     ·omega
    simp only [hx, Bool.and_false, Bool.false_and]
   ·rw [decide_eq_false he, Bool.false_and, Bool.false_and]
 refine (rexpr_leaf level (by omega) (by omega) B bp z tk w L s h o hR hl hi (limitS L z s) hs1 hno).mono ?_
 rintro v h' ⟨x, s', I, h1, h2⟩
 refine ⟨x, s', I, ?_, h2⟩
 show exprR L z 0 s = _
 rw [exprR_zero, ← h1]
 have hh : headR L (limitS L z s) = 0 := by
  by_cases hc : s.e = 0 ∧ s.i < L.length
  ·have e : limitS L z s = failS L z 3 s := if_pos hc
   have he : (failS L z 3 s).e ≠ 0 := by
    unfold failS
    rw [if_neg (fun h => h hc.1)]
    split <;> simp
   rw [e]
   unfold headR
   rw [if_neg he]
  ·have e : limitS L z s = s := if_neg hc
   rw [e]
   unfold headR
   by_cases he : s.e = 0
   ·have hx : L[s.i]? = none := by
     simp
     by_cases hlt : s.i < L.length
     ·exact absurd ⟨he, hlt⟩ hc
     ·omega
    rw [if_pos he]
    simp only [hx]
   ·rw [if_neg he]
 rw [hh]

theorem rexpr_next (n : Nat) (hn : n ≤ 11) (ih : RExSpec n) : RExSpec (n + 1) := by
 intro level hlv B bp z tk w L s h o hR hl hi
 cases ho : opIdxR L s with
 | none =>
  refine (rexpr_leaf level (by omega) (by omega) B bp z tk w L s h o hR hl hi s (by rw [if_neg (by omega)]) (opIdxR_no ho)).mono ?_
  rintro v h' ⟨x, s', I, h1, h2⟩
  refine ⟨x, s', I, ?_, h2⟩
  have hE := congrFun (exprR.eq_2 L z n) s
  simp only [ho] at hE
  exact hE.trans h1
 | some k =>
  have hk := opIdxR_lt ho
  match k, hk with
  | 0, _ => exact rexpr_op0 n hn ih level hlv B bp z tk w L s h o hR hl hi ho
  | 1, _ => exact rexpr_op1 n hn ih level hlv B bp z tk w L s h o hR hl hi ho
  | 2, _ => exact rexpr_op2 n hn ih level hlv B bp z tk w L s h o hR hl hi ho
  | 3, _ => exact rexpr_op3 n hn ih level hlv B bp z tk w L s h o hR hl hi ho
  | 4, _ => exact rexpr_op4 n hn ih level hlv B bp z tk w L s h o hR hl hi ho
  | 5, _ => exact rexpr_op5 n hn ih level hlv B bp z tk w L s h o hR hl hi ho
  | 6, _ => exact rexpr_op6 n hn ih level hlv B bp z tk w L s h o hR hl hi ho

theorem rexpr_spec : ∀ (n : Nat), n ≤ 12 → RExSpec n
 | 0, _ => rexpr_zero
 | n + 1, h => rexpr_next n (by omega) (rexpr_spec n (by omega))

end Go.Proofs.YtnmfanjhepepbaaGreatDoor
