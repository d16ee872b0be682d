/-
 The reference's reader: expressions that are a table. The reference's reader: expressions that are a table.
-/
import Derived.Test.YtnmfanjhepepbaaGreatDoorNStructs
import Derived.Test.YtnmfanjhepepbaaGreatDoorNMRd
import Derived.Test.YtnmfanjhepepbaaGreatDoorNMEa
set_option linter.all false
/- The reference's reader: expressions that are a table. -/
namespace Go.Proofs.YtnmfanjhepepbaaGreatDoor
open Go StillVC

/-- An expression's nine cells. -/
theorem exR_nine {I : Item} {c : List Value} {x : Ex} (h : exR I c x) {hp : Heap} (hI : I.sat hp) : ∃ k t a1 n1 b1 a2 n2 b2 a3 n3 b3 a s g o,
  c = [.int .i64 k, .string ⟨⟨t⟩⟩, .slice a1 n1 b1, .slice a2 n2 b2, .slice a3 n3 b3, .string ⟨⟨a⟩⟩, .string ⟨⟨s⟩⟩, .int .i64 g, .int .i64 o] := by
 cases x with
 | mk k t ks cs ns a s' g o =>
  rw [exR] at h
  obtain ⟨uk, uc', un, rfl, p1, p2, ys, p3, pk⟩ := h
  obtain ⟨y7, z7, rfl⟩ := p3.isS hI
  obtain ⟨y8, z8, rfl⟩ := p1.isS hI
  obtain ⟨y9, z9, rfl⟩ := p2.isS hI
  exact ⟨_, _, _, _, _, _, _, _, _, _, _, _, _, _, _, rfl⟩

def allI : List Item → Item
 | [] => emptyI
 | x :: L => joinI x (allI L)

theorem allI_sat : ∀ {L : List Item} (k : Nat) {x : Item} {h : Heap}, L[k]? = some x → (allI L).sat h → x.sat h
 | _ :: _, 0, _, _, hk, s => by simp at hk; subst hk; exact s.1
 | _ :: L, k + 1, _, _, hk, s => allI_sat (L := L) k (by simpa using hk) s.2

theorem Own.allI {B : Base} {h : Heap} : ∀ (L M : List Item), Own B (L ++ M) h → Own B (Go.Proofs.YtnmfanjhepepbaaGreatDoor.allI L :: M) h
 | [], _, o => o.emptyI'
 | x :: L, M, o => by
  have o1 : Own B (L ++ (x :: M)) h := OwnR.perm o (by
   refine List.Perm.append_right _ ?_
   exact (List.perm_middle (l₁ := L) (l₂ := M) (a := x)).symm)
  have o2 := Own.allI L (x :: M) o1
  have o3 : Own B (x :: Go.Proofs.YtnmfanjhepepbaaGreatDoor.allI L :: M) h := OwnR.perm o2 (List.Perm.swap _ _ _)
  exact o3.join

theorem Own.allM {B : Base} {L M : List Item} {h : Heap} (o : Own B L h) (ks ms : List Nat) (hd : dst (ks ++ ms) = true) (e : pick L ms = M) : ∃ W : Item, Own B (W :: M) h ∧ ∀ (j : Nat) (z : Item), (pick L ks)[j]? = some z → ∀ h', W.sat h' → z.sat h' := by
 have o1 := o.sel (ks ++ ms) hd
 rw [pick_append, e] at o1
 exact ⟨_, Own.allI _ _ o1, fun j z hz h' hs => allI_sat j hz hs⟩

theorem opIdxR_is {L : List Tok} {s : RS} {k : Nat} (h : opIdxR L s = some k) : s.e = 0 ∧ ∃ t t2, L[s.i]? = some t ∧ L[s.i + 1]? = some t2 ∧ t2.kind = 4 ∧ t2.text = [40] ∧
  (∀ nm, opNames[k]? = some nm → seesR L nm s = true) ∧ (∀ i nm, i < 7 → i ≠ k → opNames[i]? = some nm → seesR L nm s = false) := by
 unfold opIdxR at h
 have h1 := List.find?_some h
 have h2 : k < 7 := by simpa using List.mem_of_find?_eq_some h
 unfold opB at h1
 simp only [Bool.and_eq_true] at h1
 obtain ⟨h3, h4⟩ := h1
 have h5 := h3
 unfold seesR at h3
 simp only [Bool.and_eq_true, decide_eq_true_eq] at h3
 obtain ⟨he, h3⟩ := h3
 cases hx : L[s.i]? with
 | none => simp only [hx] at h3; cases h3
 | some t =>
  simp only [hx] at h3
  cases hy : L[s.i + 1]? with
  | none => simp only [hy] at h4; cases h4
  | some t2 =>
   simp only [hy, decide_eq_true_eq] at h4
   refine ⟨he, t, t2, rfl, rfl, h4.1, h4.2, fun nm hnm => ?_, fun i nm hi hik hnm => ?_⟩
   ·have e : opNames.getD k [] = nm := by rw [List.getD_eq_getElem?_getD, hnm]; rfl
    rw [← e]; exact h5
   ·have hw := of_decide_eq_true h3
    unfold seesR
    simp only [hx]
    rw [Bool.and_eq_false_iff]
    refine .inr (decide_eq_false fun hn => ?_)
    have e1 : opNames.getD i [] = nm := by rw [List.getD_eq_getElem?_getD, hnm]; rfl
    have e2 : opNames.getD i [] = opNames.getD k [] := by rw [e1, ← hn.1, hw.1]
    have hall : ∀ i < 7, ∀ k < 7, opNames.getD i [] = opNames.getD k [] → i = k := by decide
    exact hik (hall i hi k h2 e2)

theorem RM.pure_bind {α β : Type} (a : α) (f : α → RM β) : ((pure a : RM α) >>= f) = f a := rfl

theorem opB_no {L : List Tok} {s : RS} {t : Tok} {i : Nat} {nm : List UInt8} (hnm : opNames[i]? = some nm) (hx2 : L[s.i + 1]? = some t) (h : opB L s i = false) (hs : seesR L nm s = true) : ¬ (t.kind = 4 ∧ t.text = [40]) := by
 have e : opNames.getD i [] = nm := by rw [List.getD_eq_getElem?_getD, hnm]; rfl
 unfold opB at h
 rw [e, hs, Bool.true_and] at h
 simp only [hx2] at h
 exact of_decide_eq_false h

set_option maxHeartbeats 4000000 in
set_option maxRecDepth 100000 in
theorem rsees_still (x : List UInt8) (bp : Nat) (w : Value) (L : List Tok) (s : RS) (h : Heap) (c0 : cellAt h ⟨bp, 0, none⟩ = some w) (c1 : cellAt h ⟨bp, 1, none⟩ = some (.int .i64 s.i)) (c2 : cellAt h ⟨bp, 2, none⟩ = some (.int .i64 s.e)) (hA : ArrN 4 h w L.length (L.flatMap tokC)) (hl : L.length ≤ 5000) :
  SpecR Tryz.prog 94 [.pointer (some ⟨bp, 0, none⟩), .string ⟨⟨x⟩⟩] h fun v h' => v = .bool (seesR L x s) ∧ Own h [] h' := by
 refine Spec.enter Tryz.func94 rfl Tryz.ntmps94 (by kernel_rfl) ?_
 have o0 := Own.refl h
 by_cases he : s.e = 0
 ·by_cases hlt : s.i < L.length
  ·obtain ⟨t, hx⟩ := getx hlt
   have hE : seesR L x s = wordB t x := by unfold seesR; rw [decide_eq_true he]; simp only [hx]; rfl
   by_cases hk : t.kind = 1 ∨ t.kind = 4
   ·have hE : seesR L x s = decide (t.text = x) := by rw [hE]; unfold wordB; simp [hk]
    refine DrawVC.intro [0, 1, 2, 4, 5, 6, 7, 8, 10, 11, 12, 14, 15, 16] [3, 9, 13] [] [0, 1, 2, 3, 4, 5, 6, 7, 8, 9, 10, 11, 12, 13, 14, 15, 16] mixed (by kernel_rfl) rfl (fun _ _ _ _ h => h) ?_
    refine nilCheck rfl ?_
    refine fieldAddr st73 rfl rfl rfl ?_
    refine load1 ty26 rfl ‹_› ?_
    refine Br.ndec (fun hc => absurd (by first | omega | assumption | decide | exact rfl) hc) (fun c13 => ?_)
    refine nilCheck rfl ?_
    refine fieldAddr st73 rfl rfl rfl ?_
    refine load1 ty3 rfl ‹_› ?_
    refine nilCheck rfl ?_
    refine fieldAddr st73 rfl rfl rfl ?_
    refine load1 ty31 rfl ‹_› ?_
    refine lenN hA sl31 ?_
    refine Br.dec (fun hc => absurd hc (by omega)) (fun c21 => ?_)
    refine DrawVC.intro [0, 1, 2, 4, 5, 6, 8, 9, 11] [3, 7, 10] [] [0, 1, 2, 3, 4, 5, 6, 7, 8, 9, 10, 11] mixed (by kernel_rfl) rfl (fun _ _ _ _ h => h) ?_
    refine nilCheck rfl ?_
    refine fieldAddr st73 rfl rfl rfl ?_
    refine load1 ty31 rfl ‹_› ?_
    refine nilCheck rfl ?_
    refine fieldAddr st73 rfl rfl rfl ?_
    refine load1 ty3 rfl ‹_› ?_
    refine idxN sl31 ty38 hA rfl (by omega) (by omega) ?_
    refine fieldAdr hA (by omega) st38 rfl rfl rfl ?_
    refine loadFF hA ty3 (fun _ => rfl) rfl ‹_› rfl ?_
    refine DrawVC.intro [0, 1, 2, 3, 4, 5, 6, 7, 8, 9, 11, 12, 13, 15, 16, 18, 19, 20, 21] [10, 14, 17] [] [0, 1, 2, 3, 4, 5, 6, 7, 8, 9, 10, 11, 12, 13, 14, 15, 16, 17, 18, 19, 20, 21] mixed (by kernel_rfl) rfl (fun _ _ _ _ h => h) ?_
    refine Br.dec (fun c31 => ?_) (fun c31 => ?_)
    refine nilCheck rfl ?_
    refine fieldAddr st73 rfl rfl rfl ?_
    refine load1 ty31 rfl ‹_› ?_
    refine nilCheck rfl ?_
    refine fieldAddr st73 rfl rfl rfl ?_
    refine load1 ty3 rfl ‹_› ?_
    refine idxN sl31 ty38 hA rfl (by omega) (by omega) ?_
    refine fieldAdr hA (by omega) st38 rfl rfl rfl ?_
    refine loadFF hA ty9 (fun _ => rfl) rfl ‹_› rfl ?_
    refine RetVC.one rfl ?_
    rotate_left
    refine Br.dec (fun c41 => ?_) (fun hc => absurd (by omega) hc)
    refine nilCheck rfl ?_
    refine fieldAddr st73 rfl rfl rfl ?_
    refine load1 ty31 rfl ‹_› ?_
    refine nilCheck rfl ?_
    refine fieldAddr st73 rfl rfl rfl ?_
    refine load1 ty3 rfl ‹_› ?_
    refine idxN sl31 ty38 hA rfl (by omega) (by omega) ?_
    refine fieldAdr hA (by omega) st38 rfl rfl rfl ?_
    refine loadFF hA ty9 (fun _ => rfl) rfl ‹_› rfl ?_
    refine RetVC.one rfl ?_
    all_goals exact ⟨congrArg Value.bool hE.symm, Own.sel ‹_› [] rfl⟩
   ·have hE : seesR L x s = false := by rw [hE]; exact decide_eq_false fun h => hk h.2
    refine DrawVC.intro [0, 1, 2, 4, 5, 6, 7, 8, 10, 11, 12, 14, 15, 16] [3, 9, 13] [] [0, 1, 2, 3, 4, 5, 6, 7, 8, 9, 10, 11, 12, 13, 14, 15, 16] mixed (by kernel_rfl) rfl (fun _ _ _ _ h => h) ?_
    refine nilCheck rfl ?_
    refine fieldAddr st73 rfl rfl rfl ?_
    refine load1 ty26 rfl ‹_› ?_
    refine Br.ndec (fun hc => absurd (by first | omega | assumption | decide | exact rfl) hc) (fun c23 => ?_)
    refine nilCheck rfl ?_
    refine fieldAddr st73 rfl rfl rfl ?_
    refine load1 ty3 rfl ‹_› ?_
    refine nilCheck rfl ?_
    refine fieldAddr st73 rfl rfl rfl ?_
    refine load1 ty31 rfl ‹_› ?_
    refine lenN hA sl31 ?_
    refine Br.dec (fun hc => absurd hc (by omega)) (fun c31 => ?_)
    refine DrawVC.intro [0, 1, 2, 4, 5, 6, 8, 9, 11] [3, 7, 10] [] [0, 1, 2, 3, 4, 5, 6, 7, 8, 9, 10, 11] mixed (by kernel_rfl) rfl (fun _ _ _ _ h => h) ?_
    refine nilCheck rfl ?_
    refine fieldAddr st73 rfl rfl rfl ?_
    refine load1 ty31 rfl ‹_› ?_
    refine nilCheck rfl ?_
    refine fieldAddr st73 rfl rfl rfl ?_
    refine load1 ty3 rfl ‹_› ?_
    refine idxN sl31 ty38 hA rfl (by omega) (by omega) ?_
    refine fieldAdr hA (by omega) st38 rfl rfl rfl ?_
    refine loadFF hA ty3 (fun _ => rfl) rfl ‹_› rfl ?_
    refine DrawVC.intro [0, 1, 2, 3, 4, 5, 6, 7, 8, 9, 11, 12, 13, 15, 16, 18, 19, 20, 21] [10, 14, 17] [] [0, 1, 2, 3, 4, 5, 6, 7, 8, 9, 10, 11, 12, 13, 14, 15, 16, 17, 18, 19, 20, 21] mixed (by kernel_rfl) rfl (fun _ _ _ _ h => h) ?_
    refine Br.dec (fun hc => absurd hc (by omega)) (fun c41 => ?_)
    refine Br.dec (fun hc => absurd hc (by omega)) (fun c42 => ?_)
    refine RetVC.one rfl ?_
    all_goals exact ⟨congrArg Value.bool hE.symm, Own.sel ‹_› [] rfl⟩
  ·have hx : L[s.i]? = none := by simp; omega
   have hE : seesR L x s = false := by unfold seesR; simp only [hx]; exact Bool.and_false _
   refine DrawVC.intro [0, 1, 2, 4, 5, 6, 7, 8, 10, 11, 12, 14, 15, 16] [3, 9, 13] [] [0, 1, 2, 3, 4, 5, 6, 7, 8, 9, 10, 11, 12, 13, 14, 15, 16] mixed (by kernel_rfl) rfl (fun _ _ _ _ h => h) ?_
   refine nilCheck rfl ?_
   refine fieldAddr st73 rfl rfl rfl ?_
   refine load1 ty26 rfl ‹_› ?_
   refine Br.ndec (fun hc => absurd (by first | omega | assumption | decide | exact rfl) hc) (fun c33 => ?_)
   refine nilCheck rfl ?_
   refine fieldAddr st73 rfl rfl rfl ?_
   refine load1 ty3 rfl ‹_› ?_
   refine nilCheck rfl ?_
   refine fieldAddr st73 rfl rfl rfl ?_
   refine load1 ty31 rfl ‹_› ?_
   refine lenN hA sl31 ?_
   refine Br.dec (fun c41 => ?_) (fun hc => absurd (by omega) hc)
   refine RetVC.one rfl ?_
   exact ⟨congrArg Value.bool hE.symm, Own.sel ‹_› [] rfl⟩
 ·have hE : seesR L x s = false := by unfold seesR; rw [decide_eq_false he, Bool.false_and]
  refine DrawVC.intro [0, 1, 2, 4, 5, 6, 7, 8, 10, 11, 12, 14, 15, 16] [3, 9, 13] [] [0, 1, 2, 3, 4, 5, 6, 7, 8, 9, 10, 11, 12, 13, 14, 15, 16] mixed (by kernel_rfl) rfl (fun _ _ _ _ h => h) ?_
  refine nilCheck rfl ?_
  refine fieldAddr st73 rfl rfl rfl ?_
  refine load1 ty26 rfl ‹_› ?_
  refine Br.ndec (fun c43 => ?_) (fun hc => absurd hc (by first | omega | assumption | decide | exact rfl))
  refine Br.tt ?_
  refine RetVC.one rfl ?_
  exact ⟨congrArg Value.bool hE.symm, Own.sel ‹_› [] rfl⟩

def RExSpec (n : Nat) : Prop := ∀ (level : Int), level = 13 - n → RSpecI 58 (fun bp => [.pointer (some ⟨bp, 0, none⟩), .int .i64 level]) (fun L z => exprR L z n) exV


end Go.Proofs.YtnmfanjhepepbaaGreatDoor

/- The reference's reader: expressions that are a table. -/
namespace Go.Proofs.YtnmfanjhepepbaaGreatDoor
open Go StillVC

set_option maxHeartbeats 100000000 in
set_option maxRecDepth 100000 in
theorem rexpr_leaf (level : Int) (hl0 : 0 ≤ level) (hl1 : level ≤ 13) (B : Base) (bp z : Nat) (tk : Item) (w : Value) (L : List Tok) (s : RS) (h : Heap) (o : Own B (RSt bp z w tk s) h) (hR : TokR tk w L) (hl : L.length ≤ 5000) (hi : s.i ≤ L.length)
  (s1 : RS) (hs1 : s1 = if 12 < level then limitS L z s else s) (hno : ∀ j, j < 7 → opB L s1 j = false) : SpecR Tryz.prog 58 [.pointer (some ⟨bp, 0, none⟩), .int .i64 level] h fun v h' =>
   ∃ x s' I, (rnameR L z >>= fun t => (pure (exTable (headR L s1) t) : RM Ex)) s1 = (x, s') ∧ exV x v I ∧ s.i ≤ s'.i ∧ s'.i ≤ L.length ∧ Own B [box bp [w, .int .i64 s'.i, .int .i64 s'.e, .int .i64 s'.a, .int .i64 z] 73, tk, I] h' := by
 unfold RSt at o
 obtain ⟨hRd, hK⟩ := hR
 have hR : TokR tk w L := ⟨hRd, hK⟩
 refine Spec.enter Tryz.func58 rfl Tryz.ntmps58 (by kernel_rfl) ?_
 by_cases hc : 12 < level
 ·by_cases hc2 : s.e = 0
  ·by_cases hc3 : s.i < L.length
   ·have hS : s1 = failS L z 3 s := by rw [hs1, if_pos hc]; exact if_pos ⟨hc2, hc3⟩
    (refine RunVC.alloc o ty49 ?_; intro b10 m10 o10)
    refine DrawVC.intro [0, 1, 2, 3, 4, 5, 7, 8, 9, 10, 11, 12, 14, 15, 16, 18, 19, 20] [6, 13, 17] [] [0, 1, 2, 3, 4, 5, 6, 7, 8, 9, 10, 11, 12, 13, 14, 15, 16, 17, 18, 19, 20] mixed (by kernel_rfl) rfl (fun _ _ _ _ h => h) ?_
    refine Br.dec (fun c11 => ?_) (fun hc => absurd (by omega) hc)
    refine nilCheck rfl ?_
    refine fieldAddr st73 rfl rfl rfl ?_
    refine loadO o10 0 rfl ty26 rfl rfl ?_
    refine Br.dec (fun c15 => ?_) (fun hc => absurd (by omega) hc)
    refine nilCheck rfl ?_
    refine fieldAddr st73 rfl rfl rfl ?_
    refine loadO o10 0 rfl ty3 rfl rfl ?_
    refine nilCheck rfl ?_
    refine fieldAddr st73 rfl rfl rfl ?_
    refine loadO o10 0 rfl ty31 rfl rfl ?_
    refine lenN (o10.reads 1 hRd rfl) sl31 ?_
    refine Br.dec (fun c23 => ?_) (fun hc => absurd (by omega) hc)
    refine (rfail_spec 3).callL ‹_› rfl hR hl hi (fun a s0 v h1 hm hv hi1 hj1 oq => ?_)
    subst hv
    injection hm with _ hm
    have e0 : s0 = s1 := hm.symm.trans hS.symm
    have he : s0.e ≠ 0 := by rw [e0, hS]; unfold failS; rw [if_neg (fun h => h hc2)]; split <;> simp
    subst e0
    have o1 := oq
    simp only [RSt, pick, lcA, lnA, lgS, lgZ, lgN] at o1
    clear oq hm hS hs1
    refine run (buildK st49 ?_)
    refine And.intro rfl ?_
    (refine RunVC.alloc o1 ty49 ?_; intro b21 m21 o21)
    (refine RunVC.storeL o21 3 rfl ty49 rfl (by decide) (And.intro ⟨rfl, rfl⟩ ?_); intro m22 o22)
    refine DrawVC.intro [0, 1, 2, 4, 5, 6, 7, 8, 10, 11, 12, 14, 15, 16] [3, 9, 13] [] [0, 1, 2, 3, 4, 5, 6, 7, 8, 9, 10, 11, 12, 13, 14, 15, 16] mixed (by kernel_rfl) rfl (fun _ _ _ _ h => h) ?_
    refine nilCheck rfl ?_
    refine fieldAddr st73 rfl rfl rfl ?_
    refine loadO o22 0 rfl ty26 rfl rfl ?_
    refine Br.dec (fun hc => absurd hc (by omega)) (fun c26 => ?_)
    refine Br.ff ?_
    refine LoopVC.intro [6, 60, 61, 62, 63, 64, 65, 66, 67, 68, 69, 70, 71, 72, 73, 74, 75, 76, 77, 78, 79, 80, 81, 82, 83, 84, 85, 86, 87, 88, 89, 90, 91, 92, 93, 94, 95, 96, 97, 98, 99, 100, 101, 102, 103, 104, 105, 106, 107, 108, 109, 110, 111, 112, 113, 114, 115, 116, 117] [6] (fun vs hh => ∃ (i : Nat), i ≤ 7 ∧ vs = [.int .i64 i] ∧ Own B [box bp [w, .int .i64 s0.i, .int .i64 s0.e, .int .i64 s0.a, .int .i64 z] 73, tk, box b10 [.int .i64 0, .string ⟨⟨[]⟩⟩, nilV, nilV, nilV, .string ⟨⟨[]⟩⟩, .string ⟨⟨[]⟩⟩, .int .i64 0, .int .i64 0] 49, box b21 [.int .i64 1, .string ⟨⟨[]⟩⟩, nilV, nilV, nilV, .string ⟨⟨[]⟩⟩, .string ⟨⟨[]⟩⟩, .int .i64 0, .int .i64 0] 49] hh) (fun vs _ => match vs with | [.int _ i] => 7 - i.toNat | _ => 0) ?_ ?_
    ·exact ⟨0, by omega, rfl, Own.sel ‹_› [0, 1, 2, 3] rfl⟩
    ·rintro vs junk hh ⟨i, hi7, rfl, oh⟩
     have hhd : headR L s0 = 0 := by
      unfold headR; rw [if_neg he]
     refine DrawVC.intro [0, 2, 3, 4, 5, 6, 7, 9, 10, 11, 12, 14, 15, 16] [8, 13] [] [0, 1, 2, 3, 4, 5, 6, 7, 8, 9, 10, 11, 12, 13, 14, 15, 16] mixed (by kernel_rfl) rfl (fun _ _ _ _ h => h) ?_
     refine CallVC.ret (roperations_spec _) ?_
     rintro _ h2 ⟨bo, rfl, oc⟩
     have o2 := Own.call ‹_› oc
     simp only [lcA, lnA] at o2
     refine ⟨Own.ext oc, ?_⟩
     clear oc
     by_cases h7 : i < 7
     ·by_cases hI : s0.i + 1 < L.length
      ·skip
       obtain ⟨t2, hx2⟩ := getx hI
       have hx3 : L[((s0.i : Int) + 1).toNat]? = some t2 := by rw [show ((s0.i : Int) + 1).toNat = s0.i + 1 by omega]; exact hx2
       obtain ⟨nm, hnm⟩ := getx (show i < opNames.length from h7)
       have hss : (strs opNames)[i]? = some (.string ⟨⟨nm⟩⟩) := by simp [strs, hnm]
       have hsl : (strs opNames).length = 7 := rfl
       refine lenV rfl sl42 ?_
       refine Br.dec (fun c1221 => ?_) (fun hc => absurd (by omega) hc)
       refine nilCheck rfl ?_
       refine fieldAddr st73 rfl rfl rfl ?_
       refine loadO o2 0 rfl ty3 rfl rfl ?_
       refine Ar.i64 (by omega) (by omega) ?_
       refine nilCheck rfl ?_
       refine fieldAddr st73 rfl rfl rfl ?_
       refine loadO o2 0 rfl ty31 rfl rfl ?_
       refine lenN (o2.reads 1 hRd rfl) sl31 ?_
       refine Br.dec (fun c1229 => ?_) (fun hc => absurd (by omega) hc)
       refine DrawVC.intro [0, 2, 3, 6, 7, 8, 9, 11, 12, 13, 15, 16, 17, 19, 20, 21, 22, 23, 24, 26, 27, 28, 30, 31, 32, 34, 35] [4, 10, 14, 18, 25, 29, 33] [] [0, 2, 1, 3, 4, 5, 6, 7, 8, 9, 10, 11, 12, 13, 14, 15, 16, 17, 18, 19, 20, 21, 22, 23, 24, 25, 26, 27, 28, 29, 30, 31, 32, 33, 34, 35] mixed (by kernel_rfl) rfl (fun _ _ _ _ h => h) ?_
       refine CallVC.ret (roperations_spec _) ?_
       rintro _ h3 ⟨bo3, rfl, oc⟩
       have o3 := Own.call ‹_› oc
       simp only [lcA, lnA] at o3
       refine ⟨Own.ext oc, ?_⟩
       clear oc
       refine idxB o3 5 rfl sl42 ty9 rfl rfl (by omega) (by first | omega | (simp; omega)) ?_
       refine loadO o3 5 rfl ty9 rfl ‹_› ?_
       refine CallVC.ret (rsees_still nm bp w L s0 _ (Own.cellB ‹_› 0 rfl 0) (Own.cellB ‹_› 0 rfl 1) (Own.cellB ‹_› 0 rfl 2) (Own.reads ‹_› 1 hRd rfl) hl) ?_
       rintro _ h4 ⟨rfl, oc⟩
       have o4 := oc.thenE ‹_›
       refine ⟨Own.ext oc, ?_⟩
       clear oc
       cases hb : seesR L nm s0 with
       | true =>
        have hnot := opB_no hnm hx2 (hno i h7) hb
        by_cases hk4 : t2.kind = 4
        ·have ht4 : ¬ t2.text = [40] := fun h => hnot ⟨hk4, h⟩
         refine Br.tt ?_
         refine nilCheck rfl ?_
         refine fieldAddr st73 rfl rfl rfl ?_
         refine loadO o4 0 rfl ty31 rfl rfl ?_
         refine nilCheck rfl ?_
         refine fieldAddr st73 rfl rfl rfl ?_
         refine loadO o4 0 rfl ty3 rfl rfl ?_
         refine Ar.i64 (by omega) (by omega) ?_
         refine idxN sl31 ty38 (o4.reads 1 hRd rfl) rfl (by omega) (by omega) ?_
         refine fieldAdr (o4.reads 1 hRd rfl) (by omega) st38 rfl rfl rfl ?_
         refine loadFF (o4.reads 1 hRd rfl) ty3 (fun _ => rfl) rfl ‹_› rfl ?_
         refine Br.dec (fun c1249 => ?_) (fun hc => absurd (by omega) hc)
         refine nilCheck rfl ?_
         refine fieldAddr st73 rfl rfl rfl ?_
         refine loadO o4 0 rfl ty31 rfl rfl ?_
         refine nilCheck rfl ?_
         refine fieldAddr st73 rfl rfl rfl ?_
         refine loadO o4 0 rfl ty3 rfl rfl ?_
         refine Ar.i64 (by omega) (by omega) ?_
         refine idxN sl31 ty38 (o4.reads 1 hRd rfl) rfl (by omega) (by omega) ?_
         refine fieldAdr (o4.reads 1 hRd rfl) (by omega) st38 rfl rfl rfl ?_
         refine loadFF (o4.reads 1 hRd rfl) ty9 (fun _ => rfl) rfl ‹_› rfl ?_
         refine Br.dec (fun hc => absurd hc (by omega)) (fun c1259 => ?_)
         refine Ar.i64 (by omega) (by omega) ?_
         refine ⟨rfl, ?_⟩
         exact ⟨⟨i + 1, by omega, rfl, Own.sel ‹_› [0, 1, 2, 3] rfl⟩, by simp; omega⟩
        ·refine Br.tt ?_
         refine nilCheck rfl ?_
         refine fieldAddr st73 rfl rfl rfl ?_
         refine loadO o4 0 rfl ty31 rfl rfl ?_
         refine nilCheck rfl ?_
         refine fieldAddr st73 rfl rfl rfl ?_
         refine loadO o4 0 rfl ty3 rfl rfl ?_
         refine Ar.i64 (by omega) (by omega) ?_
         refine idxN sl31 ty38 (o4.reads 1 hRd rfl) rfl (by omega) (by omega) ?_
         refine fieldAdr (o4.reads 1 hRd rfl) (by omega) st38 rfl rfl rfl ?_
         refine loadFF (o4.reads 1 hRd rfl) ty3 (fun _ => rfl) rfl ‹_› rfl ?_
         refine Br.dec (fun hc => absurd hc (by omega)) (fun c1259 => ?_)
         refine Br.ff ?_
         refine Ar.i64 (by omega) (by omega) ?_
         refine ⟨rfl, ?_⟩
         exact ⟨⟨i + 1, by omega, rfl, Own.sel ‹_› [0, 1, 2, 3] rfl⟩, by simp; omega⟩
       | false =>
        refine Br.ff ?_
        refine Br.ff ?_
        refine Ar.i64 (by omega) (by omega) ?_
        refine ⟨rfl, ?_⟩
        exact ⟨⟨i + 1, by omega, rfl, Own.sel ‹_› [0, 1, 2, 3] rfl⟩, by simp; omega⟩
      ·skip
       refine lenV rfl sl42 ?_
       refine Br.dec (fun c1271 => ?_) (fun hc => absurd (by omega) hc)
       refine nilCheck rfl ?_
       refine fieldAddr st73 rfl rfl rfl ?_
       refine loadO o2 0 rfl ty3 rfl rfl ?_
       refine Ar.i64 (by omega) (by omega) ?_
       refine nilCheck rfl ?_
       refine fieldAddr st73 rfl rfl rfl ?_
       refine loadO o2 0 rfl ty31 rfl rfl ?_
       refine lenN (o2.reads 1 hRd rfl) sl31 ?_
       refine Br.dec (fun hc => absurd hc (by omega)) (fun c1279 => ?_)
       refine run (fieldAddr st49 rfl rfl rfl ?_)
       refine run (loadO o2 3 rfl ty3 rfl rfl ?_)
       refine Br.tt ?_
       refine rname_spec.callL ‹_› rfl hR hl hj1 (fun tx s9 v h9 hm hv hi9 hj9 oq => ?_)
       subst hv
       have o9 := oq
       simp only [RSt, pick, lcA, lnA, lgS, lgZ, lgN] at o9
       clear oq
       refine run (fieldAddr st49 rfl rfl rfl ?_)
       (refine RunVC.storeL o9 3 rfl ty9 rfl (by decide) (And.intro ⟨rfl, rfl⟩ ?_); intro m1281 o1281)
       refine run (loadON o1281 3 rfl ty49 rfl rfl rfl ?_)
       (refine RunVC.storeL o1281 2 rfl ty49 rfl (by decide) (And.intro ⟨rfl, rfl⟩ ?_); intro m1283 o1283)
       first | refine RetVC.cell2 rfl o1283 2 rfl ty49 rfl rfl ?_ | refine RetVC.cell1 rfl o1283 2 rfl ty49 rfl rfl ?_ | refine RetVC.cellTT rfl o1283 2 rfl ty49 rfl rfl ?_
       exact ⟨_, s9, emptyI, RM.bind_of hm, by rw [hhd]; exact ⟨⟨exC 1 tx nilV nilV nilV [] [] 0 0, rfl⟩, rfl, exR_leaf _ _ _⟩, by omega, by omega, ((Own.sel ‹_› [0, 1] rfl).emptyI').sel [1, 2, 0] rfl⟩
     ·skip
      refine lenV rfl sl42 ?_
      refine Br.dec (fun hc => absurd hc (by omega)) (fun c1291 => ?_)
      refine Br.ff ?_
      refine run (fieldAddr st49 rfl rfl rfl ?_)
      refine run (loadO o2 3 rfl ty3 rfl rfl ?_)
      refine Br.tt ?_
      refine rname_spec.callL ‹_› rfl hR hl hj1 (fun tx s9 v h9 hm hv hi9 hj9 oq => ?_)
      subst hv
      have o9 := oq
      simp only [RSt, pick, lcA, lnA, lgS, lgZ, lgN] at o9
      clear oq
      refine run (fieldAddr st49 rfl rfl rfl ?_)
      (refine RunVC.storeL o9 3 rfl ty9 rfl (by decide) (And.intro ⟨rfl, rfl⟩ ?_); intro m1301 o1301)
      refine run (loadON o1301 3 rfl ty49 rfl rfl rfl ?_)
      (refine RunVC.storeL o1301 2 rfl ty49 rfl (by decide) (And.intro ⟨rfl, rfl⟩ ?_); intro m1303 o1303)
      first | refine RetVC.cell2 rfl o1303 2 rfl ty49 rfl rfl ?_ | refine RetVC.cell1 rfl o1303 2 rfl ty49 rfl rfl ?_ | refine RetVC.cellTT rfl o1303 2 rfl ty49 rfl rfl ?_
      exact ⟨_, s9, emptyI, RM.bind_of hm, by rw [hhd]; exact ⟨⟨exC 1 tx nilV nilV nilV [] [] 0 0, rfl⟩, rfl, exR_leaf _ _ _⟩, by omega, by omega, ((Own.sel ‹_› [0, 1] rfl).emptyI').sel [1, 2, 0] rfl⟩
   ·have hS : s1 = s := by rw [hs1, if_pos hc]; exact if_neg fun h => hc3 h.2
    subst hS
    clear hs1
    have hi1 := Nat.le_refl s1.i
    have hj1 := hi
    have he : s1.e = 0 := hc2
    have hlt := hc3
    skip
    (refine RunVC.alloc o ty49 ?_; intro b30 m30 o30)
    refine DrawVC.intro [0, 1, 2, 3, 4, 5, 7, 8, 9, 10, 11, 12, 14, 15, 16, 18, 19, 20] [6, 13, 17] [] [0, 1, 2, 3, 4, 5, 6, 7, 8, 9, 10, 11, 12, 13, 14, 15, 16, 17, 18, 19, 20] mixed (by kernel_rfl) rfl (fun _ _ _ _ h => h) ?_
    refine Br.dec (fun c31 => ?_) (fun hc => absurd (by omega) hc)
    refine nilCheck rfl ?_
    refine fieldAddr st73 rfl rfl rfl ?_
    refine loadO o30 0 rfl ty26 rfl rfl ?_
    refine Br.dec (fun c35 => ?_) (fun hc => absurd (by omega) hc)
    refine nilCheck rfl ?_
    refine fieldAddr st73 rfl rfl rfl ?_
    refine loadO o30 0 rfl ty3 rfl rfl ?_
    refine nilCheck rfl ?_
    refine fieldAddr st73 rfl rfl rfl ?_
    refine loadO o30 0 rfl ty31 rfl rfl ?_
    refine lenN (o30.reads 1 hRd rfl) sl31 ?_
    refine Br.dec (fun hc => absurd hc (by omega)) (fun c43 => ?_)
    refine run (buildK st49 ?_)
    refine And.intro rfl ?_
    (refine RunVC.alloc o30 ty49 ?_; intro b45 m45 o45)
    (refine RunVC.storeL o45 3 rfl ty49 rfl (by decide) (And.intro ⟨rfl, rfl⟩ ?_); intro m46 o46)
    refine DrawVC.intro [0, 1, 2, 4, 5, 6, 7, 8, 10, 11, 12, 14, 15, 16] [3, 9, 13] [] [0, 1, 2, 3, 4, 5, 6, 7, 8, 9, 10, 11, 12, 13, 14, 15, 16] mixed (by kernel_rfl) rfl (fun _ _ _ _ h => h) ?_
    refine nilCheck rfl ?_
    refine fieldAddr st73 rfl rfl rfl ?_
    refine loadO o46 0 rfl ty26 rfl rfl ?_
    refine Br.dec (fun c50 => ?_) (fun hc => absurd (by omega) hc)
    refine nilCheck rfl ?_
    refine fieldAddr st73 rfl rfl rfl ?_
    refine loadO o46 0 rfl ty3 rfl rfl ?_
    refine nilCheck rfl ?_
    refine fieldAddr st73 rfl rfl rfl ?_
    refine loadO o46 0 rfl ty31 rfl rfl ?_
    refine lenN (o46.reads 1 hRd rfl) sl31 ?_
    refine Br.dec (fun hc => absurd hc (by omega)) (fun c58 => ?_)
    refine LoopVC.intro [6, 60, 61, 62, 63, 64, 65, 66, 67, 68, 69, 70, 71, 72, 73, 74, 75, 76, 77, 78, 79, 80, 81, 82, 83, 84, 85, 86, 87, 88, 89, 90, 91, 92, 93, 94, 95, 96, 97, 98, 99, 100, 101, 102, 103, 104, 105, 106, 107, 108, 109, 110, 111, 112, 113, 114, 115, 116, 117] [6] (fun vs hh => ∃ (i : Nat), i ≤ 7 ∧ vs = [.int .i64 i] ∧ Own B [box bp [w, .int .i64 s1.i, .int .i64 s1.e, .int .i64 s1.a, .int .i64 z] 73, tk, box b30 [.int .i64 0, .string ⟨⟨[]⟩⟩, nilV, nilV, nilV, .string ⟨⟨[]⟩⟩, .string ⟨⟨[]⟩⟩, .int .i64 0, .int .i64 0] 49, box b45 [.int .i64 1, .string ⟨⟨[]⟩⟩, nilV, nilV, nilV, .string ⟨⟨[]⟩⟩, .string ⟨⟨[]⟩⟩, .int .i64 0, .int .i64 0] 49] hh) (fun vs _ => match vs with | [.int _ i] => 7 - i.toNat | _ => 0) ?_ ?_
    ·exact ⟨0, by omega, rfl, Own.sel ‹_› [0, 1, 2, 3] rfl⟩
    ·rintro vs junk hh ⟨i, hi7, rfl, oh⟩
     have hhd : headR L s1 = 0 := by
      have hx : L[s1.i]? = none := by simp; omega
      unfold headR; rw [if_pos he]; simp only [hx]
     refine DrawVC.intro [0, 2, 3, 4, 5, 6, 7, 9, 10, 11, 12, 14, 15, 16] [8, 13] [] [0, 1, 2, 3, 4, 5, 6, 7, 8, 9, 10, 11, 12, 13, 14, 15, 16] mixed (by kernel_rfl) rfl (fun _ _ _ _ h => h) ?_
     refine CallVC.ret (roperations_spec _) ?_
     rintro _ h2 ⟨bo, rfl, oc⟩
     have o2 := Own.call ‹_› oc
     simp only [lcA, lnA] at o2
     refine ⟨Own.ext oc, ?_⟩
     clear oc
     by_cases h7 : i < 7
     ·by_cases hI : s1.i + 1 < L.length
      ·skip
       exfalso
       omega
      ·skip
       refine lenV rfl sl42 ?_
       refine Br.dec (fun c1471 => ?_) (fun hc => absurd (by omega) hc)
       refine nilCheck rfl ?_
       refine fieldAddr st73 rfl rfl rfl ?_
       refine loadO o2 0 rfl ty3 rfl rfl ?_
       refine Ar.i64 (by omega) (by omega) ?_
       refine nilCheck rfl ?_
       refine fieldAddr st73 rfl rfl rfl ?_
       refine loadO o2 0 rfl ty31 rfl rfl ?_
       refine lenN (o2.reads 1 hRd rfl) sl31 ?_
       refine Br.dec (fun hc => absurd hc (by omega)) (fun c1479 => ?_)
       refine run (fieldAddr st49 rfl rfl rfl ?_)
       refine run (loadO o2 3 rfl ty3 rfl rfl ?_)
       refine Br.tt ?_
       refine rname_spec.callL ‹_› rfl hR hl hj1 (fun tx s9 v h9 hm hv hi9 hj9 oq => ?_)
       subst hv
       have o9 := oq
       simp only [RSt, pick, lcA, lnA, lgS, lgZ, lgN] at o9
       clear oq
       refine run (fieldAddr st49 rfl rfl rfl ?_)
       (refine RunVC.storeL o9 3 rfl ty9 rfl (by decide) (And.intro ⟨rfl, rfl⟩ ?_); intro m1481 o1481)
       refine run (loadON o1481 3 rfl ty49 rfl rfl rfl ?_)
       (refine RunVC.storeL o1481 2 rfl ty49 rfl (by decide) (And.intro ⟨rfl, rfl⟩ ?_); intro m1483 o1483)
       first | refine RetVC.cell2 rfl o1483 2 rfl ty49 rfl rfl ?_ | refine RetVC.cell1 rfl o1483 2 rfl ty49 rfl rfl ?_ | refine RetVC.cellTT rfl o1483 2 rfl ty49 rfl rfl ?_
       exact ⟨_, s9, emptyI, RM.bind_of hm, by rw [hhd]; exact ⟨⟨exC 1 tx nilV nilV nilV [] [] 0 0, rfl⟩, rfl, exR_leaf _ _ _⟩, by omega, by omega, ((Own.sel ‹_› [0, 1] rfl).emptyI').sel [1, 2, 0] rfl⟩
     ·skip
      refine lenV rfl sl42 ?_
      refine Br.dec (fun hc => absurd hc (by omega)) (fun c1491 => ?_)
      refine Br.ff ?_
      refine run (fieldAddr st49 rfl rfl rfl ?_)
      refine run (loadO o2 3 rfl ty3 rfl rfl ?_)
      refine Br.tt ?_
      refine rname_spec.callL ‹_› rfl hR hl hj1 (fun tx s9 v h9 hm hv hi9 hj9 oq => ?_)
      subst hv
      have o9 := oq
      simp only [RSt, pick, lcA, lnA, lgS, lgZ, lgN] at o9
      clear oq
      refine run (fieldAddr st49 rfl rfl rfl ?_)
      (refine RunVC.storeL o9 3 rfl ty9 rfl (by decide) (And.intro ⟨rfl, rfl⟩ ?_); intro m1501 o1501)
      refine run (loadON o1501 3 rfl ty49 rfl rfl rfl ?_)
      (refine RunVC.storeL o1501 2 rfl ty49 rfl (by decide) (And.intro ⟨rfl, rfl⟩ ?_); intro m1503 o1503)
      first | refine RetVC.cell2 rfl o1503 2 rfl ty49 rfl rfl ?_ | refine RetVC.cell1 rfl o1503 2 rfl ty49 rfl rfl ?_ | refine RetVC.cellTT rfl o1503 2 rfl ty49 rfl rfl ?_
      exact ⟨_, s9, emptyI, RM.bind_of hm, by rw [hhd]; exact ⟨⟨exC 1 tx nilV nilV nilV [] [] 0 0, rfl⟩, rfl, exR_leaf _ _ _⟩, by omega, by omega, ((Own.sel ‹_› [0, 1] rfl).emptyI').sel [1, 2, 0] rfl⟩
  ·have hS : s1 = s := by rw [hs1, if_pos hc]; exact if_neg fun h => hc2 h.1
   subst hS
   clear hs1
   have hi1 := Nat.le_refl s1.i
   have hj1 := hi
   have he := hc2
   (refine RunVC.alloc o ty49 ?_; intro b40 m40 o40)
   refine DrawVC.intro [0, 1, 2, 3, 4, 5, 7, 8, 9, 10, 11, 12, 14, 15, 16, 18, 19, 20] [6, 13, 17] [] [0, 1, 2, 3, 4, 5, 6, 7, 8, 9, 10, 11, 12, 13, 14, 15, 16, 17, 18, 19, 20] mixed (by kernel_rfl) rfl (fun _ _ _ _ h => h) ?_
   refine Br.dec (fun c41 => ?_) (fun hc => absurd (by omega) hc)
   refine nilCheck rfl ?_
   refine fieldAddr st73 rfl rfl rfl ?_
   refine loadO o40 0 rfl ty26 rfl rfl ?_
   refine Br.dec (fun hc => absurd hc (by omega)) (fun c45 => ?_)
   refine Br.ff ?_
   refine run (buildK st49 ?_)
   refine And.intro rfl ?_
   (refine RunVC.alloc o40 ty49 ?_; intro b47 m47 o47)
   (refine RunVC.storeL o47 3 rfl ty49 rfl (by decide) (And.intro ⟨rfl, rfl⟩ ?_); intro m48 o48)
   refine DrawVC.intro [0, 1, 2, 4, 5, 6, 7, 8, 10, 11, 12, 14, 15, 16] [3, 9, 13] [] [0, 1, 2, 3, 4, 5, 6, 7, 8, 9, 10, 11, 12, 13, 14, 15, 16] mixed (by kernel_rfl) rfl (fun _ _ _ _ h => h) ?_
   refine nilCheck rfl ?_
   refine fieldAddr st73 rfl rfl rfl ?_
   refine loadO o48 0 rfl ty26 rfl rfl ?_
   refine Br.dec (fun hc => absurd hc (by omega)) (fun c52 => ?_)
   refine Br.ff ?_
   refine LoopVC.intro [6, 60, 61, 62, 63, 64, 65, 66, 67, 68, 69, 70, 71, 72, 73, 74, 75, 76, 77, 78, 79, 80, 81, 82, 83, 84, 85, 86, 87, 88, 89, 90, 91, 92, 93, 94, 95, 96, 97, 98, 99, 100, 101, 102, 103, 104, 105, 106, 107, 108, 109, 110, 111, 112, 113, 114, 115, 116, 117] [6] (fun vs hh => ∃ (i : Nat), i ≤ 7 ∧ vs = [.int .i64 i] ∧ Own B [box bp [w, .int .i64 s1.i, .int .i64 s1.e, .int .i64 s1.a, .int .i64 z] 73, tk, box b40 [.int .i64 0, .string ⟨⟨[]⟩⟩, nilV, nilV, nilV, .string ⟨⟨[]⟩⟩, .string ⟨⟨[]⟩⟩, .int .i64 0, .int .i64 0] 49, box b47 [.int .i64 1, .string ⟨⟨[]⟩⟩, nilV, nilV, nilV, .string ⟨⟨[]⟩⟩, .string ⟨⟨[]⟩⟩, .int .i64 0, .int .i64 0] 49] hh) (fun vs _ => match vs with | [.int _ i] => 7 - i.toNat | _ => 0) ?_ ?_
   ·exact ⟨0, by omega, rfl, Own.sel ‹_› [0, 1, 2, 3] rfl⟩
   ·rintro vs junk hh ⟨i, hi7, rfl, oh⟩
    have hhd : headR L s1 = 0 := by
     unfold headR; rw [if_neg he]
    refine DrawVC.intro [0, 2, 3, 4, 5, 6, 7, 9, 10, 11, 12, 14, 15, 16] [8, 13] [] [0, 1, 2, 3, 4, 5, 6, 7, 8, 9, 10, 11, 12, 13, 14, 15, 16] mixed (by kernel_rfl) rfl (fun _ _ _ _ h => h) ?_
    refine CallVC.ret (roperations_spec _) ?_
    rintro _ h2 ⟨bo, rfl, oc⟩
    have o2 := Own.call ‹_› oc
    simp only [lcA, lnA] at o2
    refine ⟨Own.ext oc, ?_⟩
    clear oc
    by_cases h7 : i < 7
    ·by_cases hI : s1.i + 1 < L.length
     ·skip
      obtain ⟨t2, hx2⟩ := getx hI
      have hx3 : L[((s1.i : Int) + 1).toNat]? = some t2 := by rw [show ((s1.i : Int) + 1).toNat = s1.i + 1 by omega]; exact hx2
      obtain ⟨nm, hnm⟩ := getx (show i < opNames.length from h7)
      have hss : (strs opNames)[i]? = some (.string ⟨⟨nm⟩⟩) := by simp [strs, hnm]
      have hsl : (strs opNames).length = 7 := rfl
      refine lenV rfl sl42 ?_
      refine Br.dec (fun c1621 => ?_) (fun hc => absurd (by omega) hc)
      refine nilCheck rfl ?_
      refine fieldAddr st73 rfl rfl rfl ?_
      refine loadO o2 0 rfl ty3 rfl rfl ?_
      refine Ar.i64 (by omega) (by omega) ?_
      refine nilCheck rfl ?_
      refine fieldAddr st73 rfl rfl rfl ?_
      refine loadO o2 0 rfl ty31 rfl rfl ?_
      refine lenN (o2.reads 1 hRd rfl) sl31 ?_
      refine Br.dec (fun c1629 => ?_) (fun hc => absurd (by omega) hc)
      refine DrawVC.intro [0, 2, 3, 6, 7, 8, 9, 11, 12, 13, 15, 16, 17, 19, 20, 21, 22, 23, 24, 26, 27, 28, 30, 31, 32, 34, 35] [4, 10, 14, 18, 25, 29, 33] [] [0, 2, 1, 3, 4, 5, 6, 7, 8, 9, 10, 11, 12, 13, 14, 15, 16, 17, 18, 19, 20, 21, 22, 23, 24, 25, 26, 27, 28, 29, 30, 31, 32, 33, 34, 35] mixed (by kernel_rfl) rfl (fun _ _ _ _ h => h) ?_
      refine CallVC.ret (roperations_spec _) ?_
      rintro _ h3 ⟨bo3, rfl, oc⟩
      have o3 := Own.call ‹_› oc
      simp only [lcA, lnA] at o3
      refine ⟨Own.ext oc, ?_⟩
      clear oc
      refine idxB o3 5 rfl sl42 ty9 rfl rfl (by omega) (by first | omega | (simp; omega)) ?_
      refine loadO o3 5 rfl ty9 rfl ‹_› ?_
      refine CallVC.ret (rsees_still nm bp w L s1 _ (Own.cellB ‹_› 0 rfl 0) (Own.cellB ‹_› 0 rfl 1) (Own.cellB ‹_› 0 rfl 2) (Own.reads ‹_› 1 hRd rfl) hl) ?_
      rintro _ h4 ⟨rfl, oc⟩
      have o4 := oc.thenE ‹_›
      refine ⟨Own.ext oc, ?_⟩
      clear oc
      cases hb : seesR L nm s1 with
      | true =>
       have hnot := opB_no hnm hx2 (hno i h7) hb
       by_cases hk4 : t2.kind = 4
       ·have ht4 : ¬ t2.text = [40] := fun h => hnot ⟨hk4, h⟩
        refine Br.tt ?_
        refine nilCheck rfl ?_
        refine fieldAddr st73 rfl rfl rfl ?_
        refine loadO o4 0 rfl ty31 rfl rfl ?_
        refine nilCheck rfl ?_
        refine fieldAddr st73 rfl rfl rfl ?_
        refine loadO o4 0 rfl ty3 rfl rfl ?_
        refine Ar.i64 (by omega) (by omega) ?_
        refine idxN sl31 ty38 (o4.reads 1 hRd rfl) rfl (by omega) (by omega) ?_
        refine fieldAdr (o4.reads 1 hRd rfl) (by omega) st38 rfl rfl rfl ?_
        refine loadFF (o4.reads 1 hRd rfl) ty3 (fun _ => rfl) rfl ‹_› rfl ?_
        refine Br.dec (fun c1649 => ?_) (fun hc => absurd (by omega) hc)
        refine nilCheck rfl ?_
        refine fieldAddr st73 rfl rfl rfl ?_
        refine loadO o4 0 rfl ty31 rfl rfl ?_
        refine nilCheck rfl ?_
        refine fieldAddr st73 rfl rfl rfl ?_
        refine loadO o4 0 rfl ty3 rfl rfl ?_
        refine Ar.i64 (by omega) (by omega) ?_
        refine idxN sl31 ty38 (o4.reads 1 hRd rfl) rfl (by omega) (by omega) ?_
        refine fieldAdr (o4.reads 1 hRd rfl) (by omega) st38 rfl rfl rfl ?_
        refine loadFF (o4.reads 1 hRd rfl) ty9 (fun _ => rfl) rfl ‹_› rfl ?_
        refine Br.dec (fun hc => absurd hc (by omega)) (fun c1659 => ?_)
        refine Ar.i64 (by omega) (by omega) ?_
        refine ⟨rfl, ?_⟩
        exact ⟨⟨i + 1, by omega, rfl, Own.sel ‹_› [0, 1, 2, 3] rfl⟩, by simp; omega⟩
       ·refine Br.tt ?_
        refine nilCheck rfl ?_
        refine fieldAddr st73 rfl rfl rfl ?_
        refine loadO o4 0 rfl ty31 rfl rfl ?_
        refine nilCheck rfl ?_
        refine fieldAddr st73 rfl rfl rfl ?_
        refine loadO o4 0 rfl ty3 rfl rfl ?_
        refine Ar.i64 (by omega) (by omega) ?_
        refine idxN sl31 ty38 (o4.reads 1 hRd rfl) rfl (by omega) (by omega) ?_
        refine fieldAdr (o4.reads 1 hRd rfl) (by omega) st38 rfl rfl rfl ?_
        refine loadFF (o4.reads 1 hRd rfl) ty3 (fun _ => rfl) rfl ‹_› rfl ?_
        refine Br.dec (fun hc => absurd hc (by omega)) (fun c1659 => ?_)
        refine Br.ff ?_
        refine Ar.i64 (by omega) (by omega) ?_
        refine ⟨rfl, ?_⟩
        exact ⟨⟨i + 1, by omega, rfl, Own.sel ‹_› [0, 1, 2, 3] rfl⟩, by simp; omega⟩
      | false =>
       refine Br.ff ?_
       refine Br.ff ?_
       refine Ar.i64 (by omega) (by omega) ?_
       refine ⟨rfl, ?_⟩
       exact ⟨⟨i + 1, by omega, rfl, Own.sel ‹_› [0, 1, 2, 3] rfl⟩, by simp; omega⟩
     ·skip
      refine lenV rfl sl42 ?_
      refine Br.dec (fun c1671 => ?_) (fun hc => absurd (by omega) hc)
      refine nilCheck rfl ?_
      refine fieldAddr st73 rfl rfl rfl ?_
      refine loadO o2 0 rfl ty3 rfl rfl ?_
      refine Ar.i64 (by omega) (by omega) ?_
      refine nilCheck rfl ?_
      refine fieldAddr st73 rfl rfl rfl ?_
      refine loadO o2 0 rfl ty31 rfl rfl ?_
      refine lenN (o2.reads 1 hRd rfl) sl31 ?_
      refine Br.dec (fun hc => absurd hc (by omega)) (fun c1679 => ?_)
      refine run (fieldAddr st49 rfl rfl rfl ?_)
      refine run (loadO o2 3 rfl ty3 rfl rfl ?_)
      refine Br.tt ?_
      refine rname_spec.callL ‹_› rfl hR hl hj1 (fun tx s9 v h9 hm hv hi9 hj9 oq => ?_)
      subst hv
      have o9 := oq
      simp only [RSt, pick, lcA, lnA, lgS, lgZ, lgN] at o9
      clear oq
      refine run (fieldAddr st49 rfl rfl rfl ?_)
      (refine RunVC.storeL o9 3 rfl ty9 rfl (by decide) (And.intro ⟨rfl, rfl⟩ ?_); intro m1681 o1681)
      refine run (loadON o1681 3 rfl ty49 rfl rfl rfl ?_)
      (refine RunVC.storeL o1681 2 rfl ty49 rfl (by decide) (And.intro ⟨rfl, rfl⟩ ?_); intro m1683 o1683)
      first | refine RetVC.cell2 rfl o1683 2 rfl ty49 rfl rfl ?_ | refine RetVC.cell1 rfl o1683 2 rfl ty49 rfl rfl ?_ | refine RetVC.cellTT rfl o1683 2 rfl ty49 rfl rfl ?_
      exact ⟨_, s9, emptyI, RM.bind_of hm, by rw [hhd]; exact ⟨⟨exC 1 tx nilV nilV nilV [] [] 0 0, rfl⟩, rfl, exR_leaf _ _ _⟩, by omega, by omega, ((Own.sel ‹_› [0, 1] rfl).emptyI').sel [1, 2, 0] rfl⟩
    ·skip
     refine lenV rfl sl42 ?_
     refine Br.dec (fun hc => absurd hc (by omega)) (fun c1691 => ?_)
     refine Br.ff ?_
     refine run (fieldAddr st49 rfl rfl rfl ?_)
     refine run (loadO o2 3 rfl ty3 rfl rfl ?_)
     refine Br.tt ?_
     refine rname_spec.callL ‹_› rfl hR hl hj1 (fun tx s9 v h9 hm hv hi9 hj9 oq => ?_)
     subst hv
     have o9 := oq
     simp only [RSt, pick, lcA, lnA, lgS, lgZ, lgN] at o9
     clear oq
     refine run (fieldAddr st49 rfl rfl rfl ?_)
     (refine RunVC.storeL o9 3 rfl ty9 rfl (by decide) (And.intro ⟨rfl, rfl⟩ ?_); intro m1701 o1701)
     refine run (loadON o1701 3 rfl ty49 rfl rfl rfl ?_)
     (refine RunVC.storeL o1701 2 rfl ty49 rfl (by decide) (And.intro ⟨rfl, rfl⟩ ?_); intro m1703 o1703)
     first | refine RetVC.cell2 rfl o1703 2 rfl ty49 rfl rfl ?_ | refine RetVC.cell1 rfl o1703 2 rfl ty49 rfl rfl ?_ | refine RetVC.cellTT rfl o1703 2 rfl ty49 rfl rfl ?_
     exact ⟨_, s9, emptyI, RM.bind_of hm, by rw [hhd]; exact ⟨⟨exC 1 tx nilV nilV nilV [] [] 0 0, rfl⟩, rfl, exR_leaf _ _ _⟩, by omega, by omega, ((Own.sel ‹_› [0, 1] rfl).emptyI').sel [1, 2, 0] rfl⟩
 ·have hS : s1 = s := by rw [hs1, if_neg hc]
  subst hS
  clear hs1
  have hi1 := Nat.le_refl s1.i
  have hj1 := hi
  by_cases he : s1.e = 0
  ·by_cases hlt : s1.i < L.length
   ·obtain ⟨t, hx⟩ := getx hlt
    (refine RunVC.alloc o ty49 ?_; intro b50 m50 o50)
    refine DrawVC.intro [0, 1, 2, 3, 4, 5, 7, 8, 9, 10, 11, 12, 14, 15, 16, 18, 19, 20] [6, 13, 17] [] [0, 1, 2, 3, 4, 5, 6, 7, 8, 9, 10, 11, 12, 13, 14, 15, 16, 17, 18, 19, 20] mixed (by kernel_rfl) rfl (fun _ _ _ _ h => h) ?_
    refine Br.dec (fun hc => absurd hc (by omega)) (fun c51 => ?_)
    refine Br.ff ?_
    refine run (buildK st49 ?_)
    refine And.intro rfl ?_
    (refine RunVC.alloc o50 ty49 ?_; intro b53 m53 o53)
    (refine RunVC.storeL o53 3 rfl ty49 rfl (by decide) (And.intro ⟨rfl, rfl⟩ ?_); intro m54 o54)
    refine DrawVC.intro [0, 1, 2, 4, 5, 6, 7, 8, 10, 11, 12, 14, 15, 16] [3, 9, 13] [] [0, 1, 2, 3, 4, 5, 6, 7, 8, 9, 10, 11, 12, 13, 14, 15, 16] mixed (by kernel_rfl) rfl (fun _ _ _ _ h => h) ?_
    refine nilCheck rfl ?_
    refine fieldAddr st73 rfl rfl rfl ?_
    refine loadO o54 0 rfl ty26 rfl rfl ?_
    refine Br.dec (fun c58 => ?_) (fun hc => absurd (by omega) hc)
    refine nilCheck rfl ?_
    refine fieldAddr st73 rfl rfl rfl ?_
    refine loadO o54 0 rfl ty3 rfl rfl ?_
    refine nilCheck rfl ?_
    refine fieldAddr st73 rfl rfl rfl ?_
    refine loadO o54 0 rfl ty31 rfl rfl ?_
    refine lenN (o54.reads 1 hRd rfl) sl31 ?_
    refine Br.dec (fun c66 => ?_) (fun hc => absurd (by omega) hc)
    refine DrawVC.intro [0, 1, 2, 4, 5, 6, 8, 9, 11] [3, 7, 10] [12] [0, 1, 2, 3, 4, 5, 6, 7, 8, 9, 10, 11, 12] mixed (by kernel_rfl) rfl (fun _ _ _ _ h => h) ?_
    refine nilCheck rfl ?_
    refine fieldAddr st73 rfl rfl rfl ?_
    refine loadO o54 0 rfl ty31 rfl rfl ?_
    refine nilCheck rfl ?_
    refine fieldAddr st73 rfl rfl rfl ?_
    refine loadO o54 0 rfl ty3 rfl rfl ?_
    refine idxN sl31 ty38 (o54.reads 1 hRd rfl) rfl (by omega) (by omega) ?_
    refine fieldAdr (o54.reads 1 hRd rfl) (by omega) st38 rfl rfl rfl ?_
    refine loadFF (o54.reads 1 hRd rfl) ty3 (fun _ => rfl) rfl ‹_› rfl ?_
    refine fieldAddr st49 rfl rfl rfl ?_
    (refine RunVC.storeL o54 3 rfl ty3 rfl (by decide) (And.intro ⟨rfl, rfl⟩ ?_); intro m77 o77)
    refine LoopVC.intro [6, 60, 61, 62, 63, 64, 65, 66, 67, 68, 69, 70, 71, 72, 73, 74, 75, 76, 77, 78, 79, 80, 81, 82, 83, 84, 85, 86, 87, 88, 89, 90, 91, 92, 93, 94, 95, 96, 97, 98, 99, 100, 101, 102, 103, 104, 105, 106, 107, 108, 109, 110, 111, 112, 113, 114, 115, 116, 117] [6] (fun vs hh => ∃ (i : Nat), i ≤ 7 ∧ vs = [.int .i64 i] ∧ Own B [box bp [w, .int .i64 s1.i, .int .i64 s1.e, .int .i64 s1.a, .int .i64 z] 73, tk, box b50 [.int .i64 0, .string ⟨⟨[]⟩⟩, nilV, nilV, nilV, .string ⟨⟨[]⟩⟩, .string ⟨⟨[]⟩⟩, .int .i64 0, .int .i64 0] 49, box b53 [.int .i64 1, .string ⟨⟨[]⟩⟩, nilV, nilV, nilV, .string ⟨⟨[]⟩⟩, .string ⟨⟨[]⟩⟩, .int .i64 0, .int .i64 t.off] 49] hh) (fun vs _ => match vs with | [.int _ i] => 7 - i.toNat | _ => 0) ?_ ?_
    ·exact ⟨0, by omega, rfl, Own.sel ‹_› [0, 1, 2, 3] rfl⟩
    ·rintro vs junk hh ⟨i, hi7, rfl, oh⟩
     have hhd : headR L s1 = t.off := by
      unfold headR; rw [if_pos he]; simp only [hx]
     refine DrawVC.intro [0, 2, 3, 4, 5, 6, 7, 9, 10, 11, 12, 14, 15, 16] [8, 13] [] [0, 1, 2, 3, 4, 5, 6, 7, 8, 9, 10, 11, 12, 13, 14, 15, 16] mixed (by kernel_rfl) rfl (fun _ _ _ _ h => h) ?_
     refine CallVC.ret (roperations_spec _) ?_
     rintro _ h2 ⟨bo, rfl, oc⟩
     have o2 := Own.call ‹_› oc
     simp only [lcA, lnA] at o2
     refine ⟨Own.ext oc, ?_⟩
     clear oc
     by_cases h7 : i < 7
     ·by_cases hI : s1.i + 1 < L.length
      ·skip
       obtain ⟨t2, hx2⟩ := getx hI
       have hx3 : L[((s1.i : Int) + 1).toNat]? = some t2 := by rw [show ((s1.i : Int) + 1).toNat = s1.i + 1 by omega]; exact hx2
       obtain ⟨nm, hnm⟩ := getx (show i < opNames.length from h7)
       have hss : (strs opNames)[i]? = some (.string ⟨⟨nm⟩⟩) := by simp [strs, hnm]
       have hsl : (strs opNames).length = 7 := rfl
       refine lenV rfl sl42 ?_
       refine Br.dec (fun c1821 => ?_) (fun hc => absurd (by omega) hc)
       refine nilCheck rfl ?_
       refine fieldAddr st73 rfl rfl rfl ?_
       refine loadO o2 0 rfl ty3 rfl rfl ?_
       refine Ar.i64 (by omega) (by omega) ?_
       refine nilCheck rfl ?_
       refine fieldAddr st73 rfl rfl rfl ?_
       refine loadO o2 0 rfl ty31 rfl rfl ?_
       refine lenN (o2.reads 1 hRd rfl) sl31 ?_
       refine Br.dec (fun c1829 => ?_) (fun hc => absurd (by omega) hc)
       refine DrawVC.intro [0, 2, 3, 6, 7, 8, 9, 11, 12, 13, 15, 16, 17, 19, 20, 21, 22, 23, 24, 26, 27, 28, 30, 31, 32, 34, 35] [4, 10, 14, 18, 25, 29, 33] [] [0, 2, 1, 3, 4, 5, 6, 7, 8, 9, 10, 11, 12, 13, 14, 15, 16, 17, 18, 19, 20, 21, 22, 23, 24, 25, 26, 27, 28, 29, 30, 31, 32, 33, 34, 35] mixed (by kernel_rfl) rfl (fun _ _ _ _ h => h) ?_
       refine CallVC.ret (roperations_spec _) ?_
       rintro _ h3 ⟨bo3, rfl, oc⟩
       have o3 := Own.call ‹_› oc
       simp only [lcA, lnA] at o3
       refine ⟨Own.ext oc, ?_⟩
       clear oc
       refine idxB o3 5 rfl sl42 ty9 rfl rfl (by omega) (by first | omega | (simp; omega)) ?_
       refine loadO o3 5 rfl ty9 rfl ‹_› ?_
       refine CallVC.ret (rsees_still nm bp w L s1 _ (Own.cellB ‹_› 0 rfl 0) (Own.cellB ‹_› 0 rfl 1) (Own.cellB ‹_› 0 rfl 2) (Own.reads ‹_› 1 hRd rfl) hl) ?_
       rintro _ h4 ⟨rfl, oc⟩
       have o4 := oc.thenE ‹_›
       refine ⟨Own.ext oc, ?_⟩
       clear oc
       cases hb : seesR L nm s1 with
       | true =>
        have hnot := opB_no hnm hx2 (hno i h7) hb
        by_cases hk4 : t2.kind = 4
        ·have ht4 : ¬ t2.text = [40] := fun h => hnot ⟨hk4, h⟩
         refine Br.tt ?_
         refine nilCheck rfl ?_
         refine fieldAddr st73 rfl rfl rfl ?_
         refine loadO o4 0 rfl ty31 rfl rfl ?_
         refine nilCheck rfl ?_
         refine fieldAddr st73 rfl rfl rfl ?_
         refine loadO o4 0 rfl ty3 rfl rfl ?_
         refine Ar.i64 (by omega) (by omega) ?_
         refine idxN sl31 ty38 (o4.reads 1 hRd rfl) rfl (by omega) (by omega) ?_
         refine fieldAdr (o4.reads 1 hRd rfl) (by omega) st38 rfl rfl rfl ?_
         refine loadFF (o4.reads 1 hRd rfl) ty3 (fun _ => rfl) rfl ‹_› rfl ?_
         refine Br.dec (fun c1849 => ?_) (fun hc => absurd (by omega) hc)
         refine nilCheck rfl ?_
         refine fieldAddr st73 rfl rfl rfl ?_
         refine loadO o4 0 rfl ty31 rfl rfl ?_
         refine nilCheck rfl ?_
         refine fieldAddr st73 rfl rfl rfl ?_
         refine loadO o4 0 rfl ty3 rfl rfl ?_
         refine Ar.i64 (by omega) (by omega) ?_
         refine idxN sl31 ty38 (o4.reads 1 hRd rfl) rfl (by omega) (by omega) ?_
         refine fieldAdr (o4.reads 1 hRd rfl) (by omega) st38 rfl rfl rfl ?_
         refine loadFF (o4.reads 1 hRd rfl) ty9 (fun _ => rfl) rfl ‹_› rfl ?_
         refine Br.dec (fun hc => absurd hc (by omega)) (fun c1859 => ?_)
         refine Ar.i64 (by omega) (by omega) ?_
         refine ⟨rfl, ?_⟩
         exact ⟨⟨i + 1, by omega, rfl, Own.sel ‹_› [0, 1, 2, 3] rfl⟩, by simp; omega⟩
        ·refine Br.tt ?_
         refine nilCheck rfl ?_
         refine fieldAddr st73 rfl rfl rfl ?_
         refine loadO o4 0 rfl ty31 rfl rfl ?_
         refine nilCheck rfl ?_
         refine fieldAddr st73 rfl rfl rfl ?_
         refine loadO o4 0 rfl ty3 rfl rfl ?_
         refine Ar.i64 (by omega) (by omega) ?_
         refine idxN sl31 ty38 (o4.reads 1 hRd rfl) rfl (by omega) (by omega) ?_
         refine fieldAdr (o4.reads 1 hRd rfl) (by omega) st38 rfl rfl rfl ?_
         refine loadFF (o4.reads 1 hRd rfl) ty3 (fun _ => rfl) rfl ‹_› rfl ?_
         refine Br.dec (fun hc => absurd hc (by omega)) (fun c1859 => ?_)
         refine Br.ff ?_
         refine Ar.i64 (by omega) (by omega) ?_
         refine ⟨rfl, ?_⟩
         exact ⟨⟨i + 1, by omega, rfl, Own.sel ‹_› [0, 1, 2, 3] rfl⟩, by simp; omega⟩
       | false =>
        refine Br.ff ?_
        refine Br.ff ?_
        refine Ar.i64 (by omega) (by omega) ?_
        refine ⟨rfl, ?_⟩
        exact ⟨⟨i + 1, by omega, rfl, Own.sel ‹_› [0, 1, 2, 3] rfl⟩, by simp; omega⟩
      ·skip
       refine lenV rfl sl42 ?_
       refine Br.dec (fun c1871 => ?_) (fun hc => absurd (by omega) hc)
       refine nilCheck rfl ?_
       refine fieldAddr st73 rfl rfl rfl ?_
       refine loadO o2 0 rfl ty3 rfl rfl ?_
       refine Ar.i64 (by omega) (by omega) ?_
       refine nilCheck rfl ?_
       refine fieldAddr st73 rfl rfl rfl ?_
       refine loadO o2 0 rfl ty31 rfl rfl ?_
       refine lenN (o2.reads 1 hRd rfl) sl31 ?_
       refine Br.dec (fun hc => absurd hc (by omega)) (fun c1879 => ?_)
       refine run (fieldAddr st49 rfl rfl rfl ?_)
       refine run (loadO o2 3 rfl ty3 rfl rfl ?_)
       refine Br.tt ?_
       refine rname_spec.callL ‹_› rfl hR hl hj1 (fun tx s9 v h9 hm hv hi9 hj9 oq => ?_)
       subst hv
       have o9 := oq
       simp only [RSt, pick, lcA, lnA, lgS, lgZ, lgN] at o9
       clear oq
       refine run (fieldAddr st49 rfl rfl rfl ?_)
       (refine RunVC.store o9 3 rfl ty9 rfl (by simp) (And.intro ⟨rfl, rfl⟩ ?_); intro m1881 o1881)
       refine run (loadON o1881 3 rfl ty49 rfl rfl rfl ?_)
       (refine RunVC.storeL o1881 2 rfl ty49 rfl (by decide) (And.intro ⟨rfl, rfl⟩ ?_); intro m1883 o1883)
       first | refine RetVC.cell2 rfl o1883 2 rfl ty49 rfl rfl ?_ | refine RetVC.cell1 rfl o1883 2 rfl ty49 rfl rfl ?_ | refine RetVC.cellTT rfl o1883 2 rfl ty49 rfl rfl ?_
       exact ⟨_, s9, emptyI, RM.bind_of hm, by rw [hhd]; exact ⟨⟨exC 1 tx nilV nilV nilV [] [] 0 t.off, rfl⟩, rfl, exR_leaf _ _ _⟩, by omega, by omega, ((Own.sel ‹_› [0, 1] rfl).emptyI').sel [1, 2, 0] rfl⟩
     ·skip
      refine lenV rfl sl42 ?_
      refine Br.dec (fun hc => absurd hc (by omega)) (fun c1891 => ?_)
      refine Br.ff ?_
      refine run (fieldAddr st49 rfl rfl rfl ?_)
      refine run (loadO o2 3 rfl ty3 rfl rfl ?_)
      refine Br.tt ?_
      refine rname_spec.callL ‹_› rfl hR hl hj1 (fun tx s9 v h9 hm hv hi9 hj9 oq => ?_)
      subst hv
      have o9 := oq
      simp only [RSt, pick, lcA, lnA, lgS, lgZ, lgN] at o9
      clear oq
      refine run (fieldAddr st49 rfl rfl rfl ?_)
      (refine RunVC.store o9 3 rfl ty9 rfl (by simp) (And.intro ⟨rfl, rfl⟩ ?_); intro m1901 o1901)
      refine run (loadON o1901 3 rfl ty49 rfl rfl rfl ?_)
      (refine RunVC.storeL o1901 2 rfl ty49 rfl (by decide) (And.intro ⟨rfl, rfl⟩ ?_); intro m1903 o1903)
      first | refine RetVC.cell2 rfl o1903 2 rfl ty49 rfl rfl ?_ | refine RetVC.cell1 rfl o1903 2 rfl ty49 rfl rfl ?_ | refine RetVC.cellTT rfl o1903 2 rfl ty49 rfl rfl ?_
      exact ⟨_, s9, emptyI, RM.bind_of hm, by rw [hhd]; exact ⟨⟨exC 1 tx nilV nilV nilV [] [] 0 t.off, rfl⟩, rfl, exR_leaf _ _ _⟩, by omega, by omega, ((Own.sel ‹_› [0, 1] rfl).emptyI').sel [1, 2, 0] rfl⟩
   ·skip
    (refine RunVC.alloc o ty49 ?_; intro b60 m60 o60)
    refine DrawVC.intro [0, 1, 2, 3, 4, 5, 7, 8, 9, 10, 11, 12, 14, 15, 16, 18, 19, 20] [6, 13, 17] [] [0, 1, 2, 3, 4, 5, 6, 7, 8, 9, 10, 11, 12, 13, 14, 15, 16, 17, 18, 19, 20] mixed (by kernel_rfl) rfl (fun _ _ _ _ h => h) ?_
    refine Br.dec (fun hc => absurd hc (by omega)) (fun c61 => ?_)
    refine Br.ff ?_
    refine run (buildK st49 ?_)
    refine And.intro rfl ?_
    (refine RunVC.alloc o60 ty49 ?_; intro b63 m63 o63)
    (refine RunVC.storeL o63 3 rfl ty49 rfl (by decide) (And.intro ⟨rfl, rfl⟩ ?_); intro m64 o64)
    refine DrawVC.intro [0, 1, 2, 4, 5, 6, 7, 8, 10, 11, 12, 14, 15, 16] [3, 9, 13] [] [0, 1, 2, 3, 4, 5, 6, 7, 8, 9, 10, 11, 12, 13, 14, 15, 16] mixed (by kernel_rfl) rfl (fun _ _ _ _ h => h) ?_
    refine nilCheck rfl ?_
    refine fieldAddr st73 rfl rfl rfl ?_
    refine loadO o64 0 rfl ty26 rfl rfl ?_
    refine Br.dec (fun c68 => ?_) (fun hc => absurd (by omega) hc)
    refine nilCheck rfl ?_
    refine fieldAddr st73 rfl rfl rfl ?_
    refine loadO o64 0 rfl ty3 rfl rfl ?_
    refine nilCheck rfl ?_
    refine fieldAddr st73 rfl rfl rfl ?_
    refine loadO o64 0 rfl ty31 rfl rfl ?_
    refine lenN (o64.reads 1 hRd rfl) sl31 ?_
    refine Br.dec (fun hc => absurd hc (by omega)) (fun c76 => ?_)
    refine LoopVC.intro [6, 60, 61, 62, 63, 64, 65, 66, 67, 68, 69, 70, 71, 72, 73, 74, 75, 76, 77, 78, 79, 80, 81, 82, 83, 84, 85, 86, 87, 88, 89, 90, 91, 92, 93, 94, 95, 96, 97, 98, 99, 100, 101, 102, 103, 104, 105, 106, 107, 108, 109, 110, 111, 112, 113, 114, 115, 116, 117] [6] (fun vs hh => ∃ (i : Nat), i ≤ 7 ∧ vs = [.int .i64 i] ∧ Own B [box bp [w, .int .i64 s1.i, .int .i64 s1.e, .int .i64 s1.a, .int .i64 z] 73, tk, box b60 [.int .i64 0, .string ⟨⟨[]⟩⟩, nilV, nilV, nilV, .string ⟨⟨[]⟩⟩, .string ⟨⟨[]⟩⟩, .int .i64 0, .int .i64 0] 49, box b63 [.int .i64 1, .string ⟨⟨[]⟩⟩, nilV, nilV, nilV, .string ⟨⟨[]⟩⟩, .string ⟨⟨[]⟩⟩, .int .i64 0, .int .i64 0] 49] hh) (fun vs _ => match vs with | [.int _ i] => 7 - i.toNat | _ => 0) ?_ ?_
    ·exact ⟨0, by omega, rfl, Own.sel ‹_› [0, 1, 2, 3] rfl⟩
    ·rintro vs junk hh ⟨i, hi7, rfl, oh⟩
     have hhd : headR L s1 = 0 := by
      have hx : L[s1.i]? = none := by simp; omega
      unfold headR; rw [if_pos he]; simp only [hx]
     refine DrawVC.intro [0, 2, 3, 4, 5, 6, 7, 9, 10, 11, 12, 14, 15, 16] [8, 13] [] [0, 1, 2, 3, 4, 5, 6, 7, 8, 9, 10, 11, 12, 13, 14, 15, 16] mixed (by kernel_rfl) rfl (fun _ _ _ _ h => h) ?_
     refine CallVC.ret (roperations_spec _) ?_
     rintro _ h2 ⟨bo, rfl, oc⟩
     have o2 := Own.call ‹_› oc
     simp only [lcA, lnA] at o2
     refine ⟨Own.ext oc, ?_⟩
     clear oc
     by_cases h7 : i < 7
     ·by_cases hI : s1.i + 1 < L.length
      ·skip
       exfalso
       omega
      ·skip
       refine lenV rfl sl42 ?_
       refine Br.dec (fun c2071 => ?_) (fun hc => absurd (by omega) hc)
       refine nilCheck rfl ?_
       refine fieldAddr st73 rfl rfl rfl ?_
       refine loadO o2 0 rfl ty3 rfl rfl ?_
       refine Ar.i64 (by omega) (by omega) ?_
       refine nilCheck rfl ?_
       refine fieldAddr st73 rfl rfl rfl ?_
       refine loadO o2 0 rfl ty31 rfl rfl ?_
       refine lenN (o2.reads 1 hRd rfl) sl31 ?_
       refine Br.dec (fun hc => absurd hc (by omega)) (fun c2079 => ?_)
       refine run (fieldAddr st49 rfl rfl rfl ?_)
       refine run (loadO o2 3 rfl ty3 rfl rfl ?_)
       refine Br.tt ?_
       refine rname_spec.callL ‹_› rfl hR hl hj1 (fun tx s9 v h9 hm hv hi9 hj9 oq => ?_)
       subst hv
       have o9 := oq
       simp only [RSt, pick, lcA, lnA, lgS, lgZ, lgN] at o9
       clear oq
       refine run (fieldAddr st49 rfl rfl rfl ?_)
       (refine RunVC.storeL o9 3 rfl ty9 rfl (by decide) (And.intro ⟨rfl, rfl⟩ ?_); intro m2081 o2081)
       refine run (loadON o2081 3 rfl ty49 rfl rfl rfl ?_)
       (refine RunVC.storeL o2081 2 rfl ty49 rfl (by decide) (And.intro ⟨rfl, rfl⟩ ?_); intro m2083 o2083)
       first | refine RetVC.cell2 rfl o2083 2 rfl ty49 rfl rfl ?_ | refine RetVC.cell1 rfl o2083 2 rfl ty49 rfl rfl ?_ | refine RetVC.cellTT rfl o2083 2 rfl ty49 rfl rfl ?_
       exact ⟨_, s9, emptyI, RM.bind_of hm, by rw [hhd]; exact ⟨⟨exC 1 tx nilV nilV nilV [] [] 0 0, rfl⟩, rfl, exR_leaf _ _ _⟩, by omega, by omega, ((Own.sel ‹_› [0, 1] rfl).emptyI').sel [1, 2, 0] rfl⟩
     ·skip
      refine lenV rfl sl42 ?_
      refine Br.dec (fun hc => absurd hc (by omega)) (fun c2091 => ?_)
      refine Br.ff ?_
      refine run (fieldAddr st49 rfl rfl rfl ?_)
      refine run (loadO o2 3 rfl ty3 rfl rfl ?_)
      refine Br.tt ?_
      refine rname_spec.callL ‹_› rfl hR hl hj1 (fun tx s9 v h9 hm hv hi9 hj9 oq => ?_)
      subst hv
      have o9 := oq
      simp only [RSt, pick, lcA, lnA, lgS, lgZ, lgN] at o9
      clear oq
      refine run (fieldAddr st49 rfl rfl rfl ?_)
      (refine RunVC.storeL o9 3 rfl ty9 rfl (by decide) (And.intro ⟨rfl, rfl⟩ ?_); intro m2101 o2101)
      refine run (loadON o2101 3 rfl ty49 rfl rfl rfl ?_)
      (refine RunVC.storeL o2101 2 rfl ty49 rfl (by decide) (And.intro ⟨rfl, rfl⟩ ?_); intro m2103 o2103)
      first | refine RetVC.cell2 rfl o2103 2 rfl ty49 rfl rfl ?_ | refine RetVC.cell1 rfl o2103 2 rfl ty49 rfl rfl ?_ | refine RetVC.cellTT rfl o2103 2 rfl ty49 rfl rfl ?_
      exact ⟨_, s9, emptyI, RM.bind_of hm, by rw [hhd]; exact ⟨⟨exC 1 tx nilV nilV nilV [] [] 0 0, rfl⟩, rfl, exR_leaf _ _ _⟩, by omega, by omega, ((Own.sel ‹_› [0, 1] rfl).emptyI').sel [1, 2, 0] rfl⟩
  ·skip
   (refine RunVC.alloc o ty49 ?_; intro b70 m70 o70)
   refine DrawVC.intro [0, 1, 2, 3, 4, 5, 7, 8, 9, 10, 11, 12, 14, 15, 16, 18, 19, 20] [6, 13, 17] [] [0, 1, 2, 3, 4, 5, 6, 7, 8, 9, 10, 11, 12, 13, 14, 15, 16, 17, 18, 19, 20] mixed (by kernel_rfl) rfl (fun _ _ _ _ h => h) ?_
   refine Br.dec (fun hc => absurd hc (by omega)) (fun c71 => ?_)
   refine Br.ff ?_
   refine run (buildK st49 ?_)
   refine And.intro rfl ?_
   (refine RunVC.alloc o70 ty49 ?_; intro b73 m73 o73)
   (refine RunVC.storeL o73 3 rfl ty49 rfl (by decide) (And.intro ⟨rfl, rfl⟩ ?_); intro m74 o74)
   refine DrawVC.intro [0, 1, 2, 4, 5, 6, 7, 8, 10, 11, 12, 14, 15, 16] [3, 9, 13] [] [0, 1, 2, 3, 4, 5, 6, 7, 8, 9, 10, 11, 12, 13, 14, 15, 16] mixed (by kernel_rfl) rfl (fun _ _ _ _ h => h) ?_
   refine nilCheck rfl ?_
   refine fieldAddr st73 rfl rfl rfl ?_
   refine loadO o74 0 rfl ty26 rfl rfl ?_
   refine Br.dec (fun hc => absurd hc (by omega)) (fun c78 => ?_)
   refine Br.ff ?_
   refine LoopVC.intro [6, 60, 61, 62, 63, 64, 65, 66, 67, 68, 69, 70, 71, 72, 73, 74, 75, 76, 77, 78, 79, 80, 81, 82, 83, 84, 85, 86, 87, 88, 89, 90, 91, 92, 93, 94, 95, 96, 97, 98, 99, 100, 101, 102, 103, 104, 105, 106, 107, 108, 109, 110, 111, 112, 113, 114, 115, 116, 117] [6] (fun vs hh => ∃ (i : Nat), i ≤ 7 ∧ vs = [.int .i64 i] ∧ Own B [box bp [w, .int .i64 s1.i, .int .i64 s1.e, .int .i64 s1.a, .int .i64 z] 73, tk, box b70 [.int .i64 0, .string ⟨⟨[]⟩⟩, nilV, nilV, nilV, .string ⟨⟨[]⟩⟩, .string ⟨⟨[]⟩⟩, .int .i64 0, .int .i64 0] 49, box b73 [.int .i64 1, .string ⟨⟨[]⟩⟩, nilV, nilV, nilV, .string ⟨⟨[]⟩⟩, .string ⟨⟨[]⟩⟩, .int .i64 0, .int .i64 0] 49] hh) (fun vs _ => match vs with | [.int _ i] => 7 - i.toNat | _ => 0) ?_ ?_
   ·exact ⟨0, by omega, rfl, Own.sel ‹_› [0, 1, 2, 3] rfl⟩
   ·rintro vs junk hh ⟨i, hi7, rfl, oh⟩
    have hhd : headR L s1 = 0 := by
     unfold headR; rw [if_neg he]
    refine DrawVC.intro [0, 2, 3, 4, 5, 6, 7, 9, 10, 11, 12, 14, 15, 16] [8, 13] [] [0, 1, 2, 3, 4, 5, 6, 7, 8, 9, 10, 11, 12, 13, 14, 15, 16] mixed (by kernel_rfl) rfl (fun _ _ _ _ h => h) ?_
    refine CallVC.ret (roperations_spec _) ?_
    rintro _ h2 ⟨bo, rfl, oc⟩
    have o2 := Own.call ‹_› oc
    simp only [lcA, lnA] at o2
    refine ⟨Own.ext oc, ?_⟩
    clear oc
    by_cases h7 : i < 7
    ·by_cases hI : s1.i + 1 < L.length
     ·skip
      obtain ⟨t2, hx2⟩ := getx hI
      have hx3 : L[((s1.i : Int) + 1).toNat]? = some t2 := by rw [show ((s1.i : Int) + 1).toNat = s1.i + 1 by omega]; exact hx2
      obtain ⟨nm, hnm⟩ := getx (show i < opNames.length from h7)
      have hss : (strs opNames)[i]? = some (.string ⟨⟨nm⟩⟩) := by simp [strs, hnm]
      have hsl : (strs opNames).length = 7 := rfl
      refine lenV rfl sl42 ?_
      refine Br.dec (fun c2221 => ?_) (fun hc => absurd (by omega) hc)
      refine nilCheck rfl ?_
      refine fieldAddr st73 rfl rfl rfl ?_
      refine loadO o2 0 rfl ty3 rfl rfl ?_
      refine Ar.i64 (by omega) (by omega) ?_
      refine nilCheck rfl ?_
      refine fieldAddr st73 rfl rfl rfl ?_
      refine loadO o2 0 rfl ty31 rfl rfl ?_
      refine lenN (o2.reads 1 hRd rfl) sl31 ?_
      refine Br.dec (fun c2229 => ?_) (fun hc => absurd (by omega) hc)
      refine DrawVC.intro [0, 2, 3, 6, 7, 8, 9, 11, 12, 13, 15, 16, 17, 19, 20, 21, 22, 23, 24, 26, 27, 28, 30, 31, 32, 34, 35] [4, 10, 14, 18, 25, 29, 33] [] [0, 2, 1, 3, 4, 5, 6, 7, 8, 9, 10, 11, 12, 13, 14, 15, 16, 17, 18, 19, 20, 21, 22, 23, 24, 25, 26, 27, 28, 29, 30, 31, 32, 33, 34, 35] mixed (by kernel_rfl) rfl (fun _ _ _ _ h => h) ?_
      refine CallVC.ret (roperations_spec _) ?_
      rintro _ h3 ⟨bo3, rfl, oc⟩
      have o3 := Own.call ‹_› oc
      simp only [lcA, lnA] at o3
      refine ⟨Own.ext oc, ?_⟩
      clear oc
      refine idxB o3 5 rfl sl42 ty9 rfl rfl (by omega) (by first | omega | (simp; omega)) ?_
      refine loadO o3 5 rfl ty9 rfl ‹_› ?_
      refine CallVC.ret (rsees_still nm bp w L s1 _ (Own.cellB ‹_› 0 rfl 0) (Own.cellB ‹_› 0 rfl 1) (Own.cellB ‹_› 0 rfl 2) (Own.reads ‹_› 1 hRd rfl) hl) ?_
      rintro _ h4 ⟨rfl, oc⟩
      have o4 := oc.thenE ‹_›
      refine ⟨Own.ext oc, ?_⟩
      clear oc
      cases hb : seesR L nm s1 with
      | true =>
       have hnot := opB_no hnm hx2 (hno i h7) hb
       by_cases hk4 : t2.kind = 4
       ·have ht4 : ¬ t2.text = [40] := fun h => hnot ⟨hk4, h⟩
        refine Br.tt ?_
        refine nilCheck rfl ?_
        refine fieldAddr st73 rfl rfl rfl ?_
        refine loadO o4 0 rfl ty31 rfl rfl ?_
        refine nilCheck rfl ?_
        refine fieldAddr st73 rfl rfl rfl ?_
        refine loadO o4 0 rfl ty3 rfl rfl ?_
        refine Ar.i64 (by omega) (by omega) ?_
        refine idxN sl31 ty38 (o4.reads 1 hRd rfl) rfl (by omega) (by omega) ?_
        refine fieldAdr (o4.reads 1 hRd rfl) (by omega) st38 rfl rfl rfl ?_
        refine loadFF (o4.reads 1 hRd rfl) ty3 (fun _ => rfl) rfl ‹_› rfl ?_
        refine Br.dec (fun c2249 => ?_) (fun hc => absurd (by omega) hc)
        refine nilCheck rfl ?_
        refine fieldAddr st73 rfl rfl rfl ?_
        refine loadO o4 0 rfl ty31 rfl rfl ?_
        refine nilCheck rfl ?_
        refine fieldAddr st73 rfl rfl rfl ?_
        refine loadO o4 0 rfl ty3 rfl rfl ?_
        refine Ar.i64 (by omega) (by omega) ?_
        refine idxN sl31 ty38 (o4.reads 1 hRd rfl) rfl (by omega) (by omega) ?_
        refine fieldAdr (o4.reads 1 hRd rfl) (by omega) st38 rfl rfl rfl ?_
        refine loadFF (o4.reads 1 hRd rfl) ty9 (fun _ => rfl) rfl ‹_› rfl ?_
        refine Br.dec (fun hc => absurd hc (by omega)) (fun c2259 => ?_)
        refine Ar.i64 (by omega) (by omega) ?_
        refine ⟨rfl, ?_⟩
        exact ⟨⟨i + 1, by omega, rfl, Own.sel ‹_› [0, 1, 2, 3] rfl⟩, by simp; omega⟩
       ·refine Br.tt ?_
        refine nilCheck rfl ?_
        refine fieldAddr st73 rfl rfl rfl ?_
        refine loadO o4 0 rfl ty31 rfl rfl ?_
        refine nilCheck rfl ?_
        refine fieldAddr st73 rfl rfl rfl ?_
        refine loadO o4 0 rfl ty3 rfl rfl ?_
        refine Ar.i64 (by omega) (by omega) ?_
        refine idxN sl31 ty38 (o4.reads 1 hRd rfl) rfl (by omega) (by omega) ?_
        refine fieldAdr (o4.reads 1 hRd rfl) (by omega) st38 rfl rfl rfl ?_
        refine loadFF (o4.reads 1 hRd rfl) ty3 (fun _ => rfl) rfl ‹_› rfl ?_
        refine Br.dec (fun hc => absurd hc (by omega)) (fun c2259 => ?_)
        refine Br.ff ?_
        refine Ar.i64 (by omega) (by omega) ?_
        refine ⟨rfl, ?_⟩
        exact ⟨⟨i + 1, by omega, rfl, Own.sel ‹_› [0, 1, 2, 3] rfl⟩, by simp; omega⟩
      | false =>
       refine Br.ff ?_
       refine Br.ff ?_
       refine Ar.i64 (by omega) (by omega) ?_
       refine ⟨rfl, ?_⟩
       exact ⟨⟨i + 1, by omega, rfl, Own.sel ‹_› [0, 1, 2, 3] rfl⟩, by simp; omega⟩
     ·skip
      refine lenV rfl sl42 ?_
      refine Br.dec (fun c2271 => ?_) (fun hc => absurd (by omega) hc)
      refine nilCheck rfl ?_
      refine fieldAddr st73 rfl rfl rfl ?_
      refine loadO o2 0 rfl ty3 rfl rfl ?_
      refine Ar.i64 (by omega) (by omega) ?_
      refine nilCheck rfl ?_
      refine fieldAddr st73 rfl rfl rfl ?_
      refine loadO o2 0 rfl ty31 rfl rfl ?_
      refine lenN (o2.reads 1 hRd rfl) sl31 ?_
      refine Br.dec (fun hc => absurd hc (by omega)) (fun c2279 => ?_)
      refine run (fieldAddr st49 rfl rfl rfl ?_)
      refine run (loadO o2 3 rfl ty3 rfl rfl ?_)
      refine Br.tt ?_
      refine rname_spec.callL ‹_› rfl hR hl hj1 (fun tx s9 v h9 hm hv hi9 hj9 oq => ?_)
      subst hv
      have o9 := oq
      simp only [RSt, pick, lcA, lnA, lgS, lgZ, lgN] at o9
      clear oq
      refine run (fieldAddr st49 rfl rfl rfl ?_)
      (refine RunVC.storeL o9 3 rfl ty9 rfl (by decide) (And.intro ⟨rfl, rfl⟩ ?_); intro m2281 o2281)
      refine run (loadON o2281 3 rfl ty49 rfl rfl rfl ?_)
      (refine RunVC.storeL o2281 2 rfl ty49 rfl (by decide) (And.intro ⟨rfl, rfl⟩ ?_); intro m2283 o2283)
      first | refine RetVC.cell2 rfl o2283 2 rfl ty49 rfl rfl ?_ | refine RetVC.cell1 rfl o2283 2 rfl ty49 rfl rfl ?_ | refine RetVC.cellTT rfl o2283 2 rfl ty49 rfl rfl ?_
      exact ⟨_, s9, emptyI, RM.bind_of hm, by rw [hhd]; exact ⟨⟨exC 1 tx nilV nilV nilV [] [] 0 0, rfl⟩, rfl, exR_leaf _ _ _⟩, by omega, by omega, ((Own.sel ‹_› [0, 1] rfl).emptyI').sel [1, 2, 0] rfl⟩
    ·skip
     refine lenV rfl sl42 ?_
     refine Br.dec (fun hc => absurd hc (by omega)) (fun c2291 => ?_)
     refine Br.ff ?_
     refine run (fieldAddr st49 rfl rfl rfl ?_)
     refine run (loadO o2 3 rfl ty3 rfl rfl ?_)
     refine Br.tt ?_
     refine rname_spec.callL ‹_› rfl hR hl hj1 (fun tx s9 v h9 hm hv hi9 hj9 oq => ?_)
     subst hv
     have o9 := oq
     simp only [RSt, pick, lcA, lnA, lgS, lgZ, lgN] at o9
     clear oq
     refine run (fieldAddr st49 rfl rfl rfl ?_)
     (refine RunVC.storeL o9 3 rfl ty9 rfl (by decide) (And.intro ⟨rfl, rfl⟩ ?_); intro m2301 o2301)
     refine run (loadON o2301 3 rfl ty49 rfl rfl rfl ?_)
     (refine RunVC.storeL o2301 2 rfl ty49 rfl (by decide) (And.intro ⟨rfl, rfl⟩ ?_); intro m2303 o2303)
     first | refine RetVC.cell2 rfl o2303 2 rfl ty49 rfl rfl ?_ | refine RetVC.cell1 rfl o2303 2 rfl ty49 rfl rfl ?_ | refine RetVC.cellTT rfl o2303 2 rfl ty49 rfl rfl ?_
     exact ⟨_, s9, emptyI, RM.bind_of hm, by rw [hhd]; exact ⟨⟨exC 1 tx nilV nilV nilV [] [] 0 0, rfl⟩, rfl, exR_leaf _ _ _⟩, by omega, by omega, ((Own.sel ‹_› [0, 1] rfl).emptyI').sel [1, 2, 0] rfl⟩

end Go.Proofs.YtnmfanjhepepbaaGreatDoor
