/-
  The parts of items without lists. The parts of items with lists. The parts of items: depend and match. The operations of expressions.
-/
import Derived.Test.YtnmfanjhepepbaaGreatDoorStructs
import Derived.Test.YtnmfanjhepepbaaGreatDoorMPb
set_option linter.all false
/- The parts of items without lists. -/
namespace Go.Proofs.YtnmfanjhepepbaaGreatDoor
open Go

set_option maxHeartbeats 8000000 in
set_option maxRecDepth 100000 in
theorem source_part (kd : Int) (nm : List UInt8) (off : Nat) (B : Base) (bp z : Nat) (tk : Item) (bx : Nat) (w : Value) (ts : List Tok) (h : Heap) (o : Own B [box bp [w, .int .i64 z] 68, tk, box bx (it0C kd nm off) 51] h) (hR : TokR tk w ts) (hl : ts.length ≤ 5000) :
    Spec Tryz.prog 32 [.pointer (some ⟨bp, 0, none⟩), .pointer (some ⟨bx, 0, none⟩)] h (PartEnd B bp z tk bx ts.length (sourceP z (x0 kd nm off) ts)) := by
  have hE := congrFun (sourceP.eq_1 z (x0 kd nm off)) ts
  unfold it0C at o
  refine Spec.enter Tryz.func32 rfl Tryz.ntmps32 (by kernel_rfl) ?_
  (refine RunVC.lit o sl42 ty9 rfl rfl (by decide) (And.intro rfl ?_); intro b10 m10 o10)
  refine pneed_call (ss := [[116, 114, 117, 115, 116]]) (by assumption) rfl (by first | exact ⟨2, by decide, rfl⟩ | exact ⟨3, by decide, rfl⟩ | exact ⟨4, by decide, rfl⟩ | exact ⟨5, by decide, rfl⟩ | exact ⟨6, by decide, rfl⟩ | exact ⟨7, by decide, rfl⟩ | exact ⟨8, by decide, rfl⟩ | exact ⟨9, by decide, rfl⟩) hR (by omega) (by decide) (fun _ q1 w1 v h1 hm hv hle1 hR1 oq => ?_) (fun e w' h' hm o2 => ⟨e, w', hE.trans (PM.bind_err hm), rfl, o2⟩)
  subst hv
  rw [PM.bind_ok hm] at hE
  have o1 := oq
  simp only [PSt, pick, List.cons_append, List.nil_append, List.getElem?_cons_succ, List.getElem?_cons_zero, List.getElem?_nil] at o1
  clear oq hm
  refine pnumber_spec.callL (by assumption) rfl hR1 (by omega) (fun n_ q2 w2 v h2 hm hv hle2 hR2 oq => ?_) (fun e w' h' hm o2 => ⟨e, w', hE.trans (PM.bind_err hm), rfl, o2⟩)
  obtain ⟨rfl, hv0_2, hv1_2⟩ := hv
  rw [PM.bind_ok hm] at hE
  have o2 := oq
  simp only [PSt, pick, List.cons_append, List.nil_append, List.getElem?_cons_succ, List.getElem?_cons_zero, List.getElem?_nil] at o2
  clear oq hm
  refine StillVC.run (StillVC.nilCheck rfl ?_)
  refine StillVC.run (StillVC.fieldAddr st51 rfl rfl rfl ?_)
  (refine RunVC.store o2 2 rfl ty3 rfl (by simp) (And.intro ⟨rfl, rfl⟩ ?_); intro m32 o32)
  refine RetVC.zero rfl ?_
  exact ⟨_, q2, w2, _, emptyI, hE, rfl, ⟨_, _, _, _, _, _, _, _, _, _, _, _, _, _, _, rfl, nil_reads, nil_reads, nil_reads, nil_reads, nil_reads, nil_reads, exR_zero _⟩, by omega, hR2, (Own.sel (by assumption) [0, 1, 2] rfl).empty3⟩

set_option maxHeartbeats 8000000 in
set_option maxRecDepth 100000 in
theorem keep_part (kd : Int) (nm : List UInt8) (off : Nat) (B : Base) (bp z : Nat) (tk : Item) (bx : Nat) (w : Value) (ts : List Tok) (h : Heap) (o : Own B [box bp [w, .int .i64 z] 68, tk, box bx (it0C kd nm off) 51] h) (hR : TokR tk w ts) (hl : ts.length ≤ 5000) :
    Spec Tryz.prog 35 [.pointer (some ⟨bp, 0, none⟩), .pointer (some ⟨bx, 0, none⟩)] h (PartEnd B bp z tk bx ts.length (keepP z (x0 kd nm off) ts)) := by
  have hE := congrFun (keepP.eq_1 z (x0 kd nm off)) ts
  unfold it0C at o
  refine Spec.enter Tryz.func35 rfl Tryz.ntmps35 (by kernel_rfl) ?_
  refine place_spec.callL (by assumption) rfl hR (by omega) (fun pl q1 w1 v h1 hm hv hle1 hR1 oq => ?_) (fun e w' h' hm o2 => ⟨e, w', hE.trans (PM.bind_err hm), rfl, o2⟩)
  subst hv
  rw [PM.bind_ok hm] at hE
  have o1 := oq
  simp only [PSt, pick, List.cons_append, List.nil_append, List.getElem?_cons_succ, List.getElem?_cons_zero, List.getElem?_nil] at o1
  clear oq hm
  refine StillVC.run (StillVC.nilCheck rfl ?_)
  refine StillVC.run (StillVC.fieldAddr st51 rfl rfl rfl ?_)
  (refine RunVC.store o1 2 rfl ty9 rfl (by simp) (And.intro ⟨rfl, rfl⟩ ?_); intro m22 o22)
  refine StillVC.run (StillVC.nilCheck rfl ?_)
  refine StillVC.run (StillVC.fieldAddr st51 rfl rfl rfl ?_)
  (refine RunVC.store o22 2 rfl ty9 rfl (by simp) (And.intro ⟨rfl, rfl⟩ ?_); intro m25 o25)
  (refine RunVC.lit o25 sl42 ty9 rfl rfl (by decide) (And.intro rfl ?_); intro b26 m26 o26)
  refine pneed_call (ss := [[98, 121]]) (by assumption) rfl (by first | exact ⟨2, by decide, rfl⟩ | exact ⟨3, by decide, rfl⟩ | exact ⟨4, by decide, rfl⟩ | exact ⟨5, by decide, rfl⟩ | exact ⟨6, by decide, rfl⟩ | exact ⟨7, by decide, rfl⟩ | exact ⟨8, by decide, rfl⟩ | exact ⟨9, by decide, rfl⟩) hR1 (by omega) (by decide) (fun _ q2 w2 v h2 hm hv hle2 hR2 oq => ?_) (fun e w' h' hm o2 => ⟨e, w', hE.trans (PM.bind_err hm), rfl, o2⟩)
  subst hv
  rw [PM.bind_ok hm] at hE
  have o2 := oq
  simp only [PSt, pick, List.cons_append, List.nil_append, List.getElem?_cons_succ, List.getElem?_cons_zero, List.getElem?_nil] at o2
  clear oq hm
  (refine RunVC.lit o2 sl42 ty9 rfl rfl (by decide) (And.intro rfl ?_); intro b30 m30 o30)
  refine pword_call (ss := [[108, 97, 116, 101, 115, 116], [109, 111, 115, 116], [116, 114, 117, 115, 116, 101, 100], [108, 111, 110, 103, 101, 115, 116], [108, 101, 97, 115, 116], [103, 114, 101, 97, 116, 101, 115, 116]]) (by assumption) rfl (by first | exact ⟨2, by decide, rfl⟩ | exact ⟨3, by decide, rfl⟩ | exact ⟨4, by decide, rfl⟩ | exact ⟨5, by decide, rfl⟩ | exact ⟨6, by decide, rfl⟩ | exact ⟨7, by decide, rfl⟩ | exact ⟨8, by decide, rfl⟩ | exact ⟨9, by decide, rfl⟩) hR2 (by omega) (by decide) (fun b_ q3 w3 v h3 hm hv hle3 hR3 oq => ?_) (fun e w' h' hm o2 => ⟨e, w', hE.trans (PM.bind_err hm), rfl, o2⟩)
  subst hv
  rw [PM.bind_ok hm] at hE
  have o3 := oq
  simp only [PSt, pick, List.cons_append, List.nil_append, List.getElem?_cons_succ, List.getElem?_cons_zero, List.getElem?_nil] at o3
  clear oq hm
  refine StillVC.run (StillVC.nilCheck rfl ?_)
  refine StillVC.run (StillVC.fieldAddr st51 rfl rfl rfl ?_)
  (refine RunVC.store o3 2 rfl ty3 rfl (by simp) (And.intro ⟨rfl, rfl⟩ ?_); intro m42 o42)
  refine RetVC.zero rfl ?_
  exact ⟨_, q3, w3, _, emptyI, hE, rfl, ⟨_, _, _, _, _, _, _, _, _, _, _, _, _, _, _, rfl, nil_reads, nil_reads, nil_reads, nil_reads, nil_reads, nil_reads, exR_zero _⟩, by omega, hR3, (Own.sel (by assumption) [0, 1, 2] rfl).empty3⟩

set_option maxHeartbeats 8000000 in
set_option maxRecDepth 100000 in
theorem include_part (kd : Int) (nm : List UInt8) (off : Nat) (B : Base) (bp z : Nat) (tk : Item) (bx : Nat) (w : Value) (ts : List Tok) (h : Heap) (o : Own B [box bp [w, .int .i64 z] 68, tk, box bx (it0C kd nm off) 51] h) (hR : TokR tk w ts) (hl : ts.length ≤ 5000) :
    Spec Tryz.prog 38 [.pointer (some ⟨bp, 0, none⟩), .pointer (some ⟨bx, 0, none⟩)] h (PartEnd B bp z tk bx ts.length (includeP z (x0 kd nm off) ts)) := by
  have hE := congrFun (includeP.eq_1 z (x0 kd nm off)) ts
  unfold it0C at o
  refine Spec.enter Tryz.func38 rfl Tryz.ntmps38 (by kernel_rfl) ?_
  refine place_spec.callL (by assumption) rfl hR (by omega) (fun pl q1 w1 v h1 hm hv hle1 hR1 oq => ?_) (fun e w' h' hm o2 => ⟨e, w', hE.trans (PM.bind_err hm), rfl, o2⟩)
  subst hv
  rw [PM.bind_ok hm] at hE
  have o1 := oq
  simp only [PSt, pick, List.cons_append, List.nil_append, List.getElem?_cons_succ, List.getElem?_cons_zero, List.getElem?_nil] at o1
  clear oq hm
  refine StillVC.run (StillVC.nilCheck rfl ?_)
  refine StillVC.run (StillVC.fieldAddr st51 rfl rfl rfl ?_)
  (refine RunVC.store o1 2 rfl ty9 rfl (by simp) (And.intro ⟨rfl, rfl⟩ ?_); intro m22 o22)
  refine StillVC.run (StillVC.nilCheck rfl ?_)
  refine StillVC.run (StillVC.fieldAddr st51 rfl rfl rfl ?_)
  (refine RunVC.store o22 2 rfl ty9 rfl (by simp) (And.intro ⟨rfl, rfl⟩ ?_); intro m25 o25)
  (refine RunVC.lit o25 sl42 ty9 rfl rfl (by decide) (And.intro rfl ?_); intro b26 m26 o26)
  refine pneed_call (ss := [[105, 110]]) (by assumption) rfl (by first | exact ⟨2, by decide, rfl⟩ | exact ⟨3, by decide, rfl⟩ | exact ⟨4, by decide, rfl⟩ | exact ⟨5, by decide, rfl⟩ | exact ⟨6, by decide, rfl⟩ | exact ⟨7, by decide, rfl⟩ | exact ⟨8, by decide, rfl⟩ | exact ⟨9, by decide, rfl⟩) hR1 (by omega) (by decide) (fun _ q2 w2 v h2 hm hv hle2 hR2 oq => ?_) (fun e w' h' hm o2 => ⟨e, w', hE.trans (PM.bind_err hm), rfl, o2⟩)
  subst hv
  rw [PM.bind_ok hm] at hE
  have o2 := oq
  simp only [PSt, pick, List.cons_append, List.nil_append, List.getElem?_cons_succ, List.getElem?_cons_zero, List.getElem?_nil] at o2
  clear oq hm
  refine place_spec.callL (by assumption) rfl hR2 (by omega) (fun po q3 w3 v h3 hm hv hle3 hR3 oq => ?_) (fun e w' h' hm o2 => ⟨e, w', hE.trans (PM.bind_err hm), rfl, o2⟩)
  subst hv
  rw [PM.bind_ok hm] at hE
  have o3 := oq
  simp only [PSt, pick, List.cons_append, List.nil_append, List.getElem?_cons_succ, List.getElem?_cons_zero, List.getElem?_nil] at o3
  clear oq hm
  refine StillVC.run (StillVC.nilCheck rfl ?_)
  refine StillVC.run (StillVC.fieldAddr st51 rfl rfl rfl ?_)
  (refine RunVC.store o3 2 rfl ty9 rfl (by simp) (And.intro ⟨rfl, rfl⟩ ?_); intro m42 o42)
  refine StillVC.run (StillVC.nilCheck rfl ?_)
  refine StillVC.run (StillVC.fieldAddr st51 rfl rfl rfl ?_)
  (refine RunVC.store o42 2 rfl ty9 rfl (by simp) (And.intro ⟨rfl, rfl⟩ ?_); intro m45 o45)
  refine RetVC.zero rfl ?_
  exact ⟨_, q3, w3, _, emptyI, hE, rfl, ⟨_, _, _, _, _, _, _, _, _, _, _, _, _, _, _, rfl, nil_reads, nil_reads, nil_reads, nil_reads, nil_reads, nil_reads, exR_zero _⟩, by omega, hR3, (Own.sel (by assumption) [0, 1, 2] rfl).empty3⟩

set_option maxHeartbeats 8000000 in
set_option maxRecDepth 100000 in
theorem block_part (kd : Int) (nm : List UInt8) (off : Nat) (B : Base) (bp z : Nat) (tk : Item) (bx : Nat) (w : Value) (ts : List Tok) (h : Heap) (o : Own B [box bp [w, .int .i64 z] 68, tk, box bx (it0C kd nm off) 51] h) (hR : TokR tk w ts) (hl : ts.length ≤ 5000) :
    Spec Tryz.prog 33 [.pointer (some ⟨bp, 0, none⟩), .pointer (some ⟨bx, 0, none⟩)] h (PartEnd B bp z tk bx ts.length (blockP z (x0 kd nm off) ts)) := by
  have hE := congrFun (blockP.eq_1 z (x0 kd nm off)) ts
  unfold it0C at o
  refine Spec.enter Tryz.func33 rfl Tryz.ntmps33 (by kernel_rfl) ?_
  (refine RunVC.lit o sl42 ty9 rfl rfl (by decide) (And.intro rfl ?_); intro b10 m10 o10)
  refine pneed_call (ss := [[111, 110]]) (by assumption) rfl (by first | exact ⟨2, by decide, rfl⟩ | exact ⟨3, by decide, rfl⟩ | exact ⟨4, by decide, rfl⟩ | exact ⟨5, by decide, rfl⟩ | exact ⟨6, by decide, rfl⟩ | exact ⟨7, by decide, rfl⟩ | exact ⟨8, by decide, rfl⟩ | exact ⟨9, by decide, rfl⟩) hR (by omega) (by decide) (fun _ q1 w1 v h1 hm hv hle1 hR1 oq => ?_) (fun e w' h' hm o2 => ⟨e, w', hE.trans (PM.bind_err hm), rfl, o2⟩)
  subst hv
  rw [PM.bind_ok hm] at hE
  have o1 := oq
  simp only [PSt, pick, List.cons_append, List.nil_append, List.getElem?_cons_succ, List.getElem?_cons_zero, List.getElem?_nil] at o1
  clear oq hm
  refine place_spec.callL (by assumption) rfl hR1 (by omega) (fun pl q2 w2 v h2 hm hv hle2 hR2 oq => ?_) (fun e w' h' hm o2 => ⟨e, w', hE.trans (PM.bind_err hm), rfl, o2⟩)
  subst hv
  rw [PM.bind_ok hm] at hE
  have o2 := oq
  simp only [PSt, pick, List.cons_append, List.nil_append, List.getElem?_cons_succ, List.getElem?_cons_zero, List.getElem?_nil] at o2
  clear oq hm
  refine StillVC.run (StillVC.nilCheck rfl ?_)
  refine StillVC.run (StillVC.fieldAddr st51 rfl rfl rfl ?_)
  (refine RunVC.store o2 2 rfl ty9 rfl (by simp) (And.intro ⟨rfl, rfl⟩ ?_); intro m32 o32)
  refine StillVC.run (StillVC.nilCheck rfl ?_)
  refine StillVC.run (StillVC.fieldAddr st51 rfl rfl rfl ?_)
  (refine RunVC.store o32 2 rfl ty9 rfl (by simp) (And.intro ⟨rfl, rfl⟩ ?_); intro m35 o35)
  (refine RunVC.lit o35 sl42 ty9 rfl rfl (by decide) (And.intro rfl ?_); intro b36 m36 o36)
  refine pneed_call (ss := [[98, 121]]) (by assumption) rfl (by first | exact ⟨2, by decide, rfl⟩ | exact ⟨3, by decide, rfl⟩ | exact ⟨4, by decide, rfl⟩ | exact ⟨5, by decide, rfl⟩ | exact ⟨6, by decide, rfl⟩ | exact ⟨7, by decide, rfl⟩ | exact ⟨8, by decide, rfl⟩ | exact ⟨9, by decide, rfl⟩) hR2 (by omega) (by decide) (fun _ q3 w3 v h3 hm hv hle3 hR3 oq => ?_) (fun e w' h' hm o2 => ⟨e, w', hE.trans (PM.bind_err hm), rfl, o2⟩)
  subst hv
  rw [PM.bind_ok hm] at hE
  have o3 := oq
  simp only [PSt, pick, List.cons_append, List.nil_append, List.getElem?_cons_succ, List.getElem?_cons_zero, List.getElem?_nil] at o3
  clear oq hm
  (refine RunVC.lit o3 sl42 ty9 rfl rfl (by decide) (And.intro rfl ?_); intro b40 m40 o40)
  refine pword_call (ss := [[101, 120, 97, 99, 116], [116, 111, 107, 101, 110], [112, 114, 101, 102, 105, 120], [115, 107, 101, 116, 99, 104]]) (by assumption) rfl (by first | exact ⟨2, by decide, rfl⟩ | exact ⟨3, by decide, rfl⟩ | exact ⟨4, by decide, rfl⟩ | exact ⟨5, by decide, rfl⟩ | exact ⟨6, by decide, rfl⟩ | exact ⟨7, by decide, rfl⟩ | exact ⟨8, by decide, rfl⟩ | exact ⟨9, by decide, rfl⟩) hR3 (by omega) (by decide) (fun b_ q4 w4 v h4 hm hv hle4 hR4 oq => ?_) (fun e w' h' hm o2 => ⟨e, w', hE.trans (PM.bind_err hm), rfl, o2⟩)
  subst hv
  rw [PM.bind_ok hm] at hE
  have o4 := oq
  simp only [PSt, pick, List.cons_append, List.nil_append, List.getElem?_cons_succ, List.getElem?_cons_zero, List.getElem?_nil] at o4
  clear oq hm
  by_cases h3 : b_ = 3
  · rw [if_pos h3] at hE
    refine StillVC.run (StillVC.nilCheck rfl ?_)
    refine StillVC.run (StillVC.fieldAddr st51 rfl rfl rfl ?_)
    (refine RunVC.store o4 2 rfl ty3 rfl (by simp) (And.intro ⟨rfl, rfl⟩ ?_); intro m52 o52)
    refine StillVC.run (StillVC.nilCheck rfl ?_)
    refine StillVC.run (StillVC.fieldAddr st51 rfl rfl rfl ?_)
    refine StillVC.run (StillVC.loadO o52 2 rfl ty3 rfl rfl ?_)
    refine Br.dec (fun c56 => ?_) (fun hc => absurd (by omega) hc)
    refine pnumber_spec.callL (by assumption) rfl hR4 (by omega) (fun n_ q5 w5 v h5 hm hv hle5 hR5 oq => ?_) (fun e w' h' hm o2 => ⟨e, w', hE.trans (PM.bind_err hm), rfl, o2⟩)
    obtain ⟨rfl, hv0_5, hv1_5⟩ := hv
    rw [PM.bind_ok hm] at hE
    have o5 := oq
    simp only [PSt, pick, List.cons_append, List.nil_append, List.getElem?_cons_succ, List.getElem?_cons_zero, List.getElem?_nil] at o5
    clear oq hm
    refine StillVC.run (StillVC.nilCheck rfl ?_)
    refine StillVC.run (StillVC.fieldAddr st51 rfl rfl rfl ?_)
    (refine RunVC.store o5 2 rfl ty3 rfl (by simp) (And.intro ⟨rfl, rfl⟩ ?_); intro m62 o62)
    refine RetVC.zero rfl ?_
    exact ⟨_, q5, w5, _, emptyI, hE, rfl, ⟨_, _, _, _, _, _, _, _, _, _, _, _, _, _, _, rfl, nil_reads, nil_reads, nil_reads, nil_reads, nil_reads, nil_reads, exR_zero _⟩, by omega, hR5, (Own.sel (by assumption) [0, 1, 2] rfl).empty3⟩
  rw [if_neg h3] at hE
  by_cases h4 : b_ = 4
  · rw [if_pos h4] at hE
    refine StillVC.run (StillVC.nilCheck rfl ?_)
    refine StillVC.run (StillVC.fieldAddr st51 rfl rfl rfl ?_)
    (refine RunVC.store o4 2 rfl ty3 rfl (by simp) (And.intro ⟨rfl, rfl⟩ ?_); intro m72 o72)
    refine StillVC.run (StillVC.nilCheck rfl ?_)
    refine StillVC.run (StillVC.fieldAddr st51 rfl rfl rfl ?_)
    refine StillVC.run (StillVC.loadO o72 2 rfl ty3 rfl rfl ?_)
    refine Br.dec (fun hc => absurd hc (by omega)) (fun c76 => ?_)
    refine Br.dec (fun c77 => ?_) (fun hc => absurd (by omega) hc)
    refine pnumber_spec.callL (by assumption) rfl hR4 (by omega) (fun n_ q6 w6 v h6 hm hv hle6 hR6 oq => ?_) (fun e w' h' hm o2 => ⟨e, w', hE.trans (PM.bind_err hm), rfl, o2⟩)
    obtain ⟨rfl, hv0_6, hv1_6⟩ := hv
    rw [PM.bind_ok hm] at hE
    have o6 := oq
    simp only [PSt, pick, List.cons_append, List.nil_append, List.getElem?_cons_succ, List.getElem?_cons_zero, List.getElem?_nil] at o6
    clear oq hm
    refine StillVC.run (StillVC.nilCheck rfl ?_)
    refine StillVC.run (StillVC.fieldAddr st51 rfl rfl rfl ?_)
    (refine RunVC.store o6 2 rfl ty3 rfl (by simp) (And.intro ⟨rfl, rfl⟩ ?_); intro m82 o82)
    refine pnumber_spec.callL (by assumption) rfl hR6 (by omega) (fun m_ q7 w7 v h7 hm hv hle7 hR7 oq => ?_) (fun e w' h' hm o2 => ⟨e, w', hE.trans (PM.bind_err hm), rfl, o2⟩)
    obtain ⟨rfl, hv0_7, hv1_7⟩ := hv
    rw [PM.bind_ok hm] at hE
    have o7 := oq
    simp only [PSt, pick, List.cons_append, List.nil_append, List.getElem?_cons_succ, List.getElem?_cons_zero, List.getElem?_nil] at o7
    clear oq hm
    refine StillVC.run (StillVC.nilCheck rfl ?_)
    refine StillVC.run (StillVC.fieldAddr st51 rfl rfl rfl ?_)
    (refine RunVC.store o7 2 rfl ty3 rfl (by simp) (And.intro ⟨rfl, rfl⟩ ?_); intro m92 o92)
    refine RetVC.zero rfl ?_
    exact ⟨_, q7, w7, _, emptyI, hE, rfl, ⟨_, _, _, _, _, _, _, _, _, _, _, _, _, _, _, rfl, nil_reads, nil_reads, nil_reads, nil_reads, nil_reads, nil_reads, exR_zero _⟩, by omega, hR7, (Own.sel (by assumption) [0, 1, 2] rfl).empty3⟩
  rw [if_neg h4] at hE
  refine StillVC.run (StillVC.nilCheck rfl ?_)
  refine StillVC.run (StillVC.fieldAddr st51 rfl rfl rfl ?_)
  (refine RunVC.store o4 2 rfl ty3 rfl (by simp) (And.intro ⟨rfl, rfl⟩ ?_); intro m102 o102)
  refine StillVC.run (StillVC.nilCheck rfl ?_)
  refine StillVC.run (StillVC.fieldAddr st51 rfl rfl rfl ?_)
  refine StillVC.run (StillVC.loadO o102 2 rfl ty3 rfl rfl ?_)
  refine Br.dec (fun hc => absurd hc (by omega)) (fun c106 => ?_)
  refine Br.dec (fun hc => absurd hc (by omega)) (fun c107 => ?_)
  refine RetVC.zero rfl ?_
  exact ⟨_, q4, w4, _, emptyI, hE, rfl, ⟨_, _, _, _, _, _, _, _, _, _, _, _, _, _, _, rfl, nil_reads, nil_reads, nil_reads, nil_reads, nil_reads, nil_reads, exR_zero _⟩, by omega, hR4, (Own.sel (by assumption) [0, 1, 2] rfl).empty3⟩

end Go.Proofs.YtnmfanjhepepbaaGreatDoor

/- The parts of items with lists. -/
namespace Go.Proofs.YtnmfanjhepepbaaGreatDoor
open Go

set_option maxHeartbeats 8000000 in
set_option maxRecDepth 100000 in
theorem unique_part (kd : Int) (nm : List UInt8) (off : Nat) (B : Base) (bp z : Nat) (tk : Item) (bx : Nat) (w : Value) (ts : List Tok) (h : Heap) (o : Own B [box bp [w, .int .i64 z] 68, tk, box bx (it0C kd nm off) 51] h) (hR : TokR tk w ts) (hl : ts.length ≤ 5000) :
    Spec Tryz.prog 36 [.pointer (some ⟨bp, 0, none⟩), .pointer (some ⟨bx, 0, none⟩)] h (PartEnd B bp z tk bx ts.length (uniqueP z (x0 kd nm off) ts)) := by
  have hE := congrFun (uniqueP.eq_1 z (x0 kd nm off)) ts
  unfold it0C at o
  refine Spec.enter Tryz.func36 rfl Tryz.ntmps36 (by kernel_rfl) ?_
  (refine RunVC.lit o sl42 ty9 rfl rfl (by decide) (And.intro rfl ?_); intro b10 m10 o10)
  refine pneed_call (ss := [[111, 110]]) (by assumption) rfl (by first | exact ⟨2, by decide, rfl⟩ | exact ⟨3, by decide, rfl⟩ | exact ⟨4, by decide, rfl⟩ | exact ⟨5, by decide, rfl⟩ | exact ⟨6, by decide, rfl⟩ | exact ⟨7, by decide, rfl⟩ | exact ⟨8, by decide, rfl⟩ | exact ⟨9, by decide, rfl⟩) hR (by omega) (by decide) (fun _ q1 w1 v h1 hm hv hle1 hR1 oq => ?_) (fun e w' h' hm o2 => ⟨e, w', hE.trans (PM.bind_err hm), rfl, o2⟩)
  subst hv
  rw [PM.bind_ok hm] at hE
  have o1 := oq
  simp only [PSt, pick, List.cons_append, List.nil_append, List.getElem?_cons_succ, List.getElem?_cons_zero, List.getElem?_nil] at o1
  clear oq hm
  refine pname_spec.callL (by assumption) rfl hR1 (by omega) (fun tb q2 w2 v h2 hm hv hle2 hR2 oq => ?_) (fun e w' h' hm o2 => ⟨e, w', hE.trans (PM.bind_err hm), rfl, o2⟩)
  subst hv
  rw [PM.bind_ok hm] at hE
  have o2 := oq
  simp only [PSt, pick, List.cons_append, List.nil_append, List.getElem?_cons_succ, List.getElem?_cons_zero, List.getElem?_nil] at o2
  clear oq hm
  refine StillVC.run (StillVC.nilCheck rfl ?_)
  refine StillVC.run (StillVC.fieldAddr st51 rfl rfl rfl ?_)
  (refine RunVC.store o2 2 rfl ty9 rfl (by simp) (And.intro ⟨rfl, rfl⟩ ?_); intro m32 o32)
  (refine RunVC.lit o32 sl42 ty9 rfl rfl (by decide) (And.intro rfl ?_); intro b33 m33 o33)
  refine pneed_call (ss := [[40]]) (by assumption) rfl (by first | exact ⟨2, by decide, rfl⟩ | exact ⟨3, by decide, rfl⟩ | exact ⟨4, by decide, rfl⟩ | exact ⟨5, by decide, rfl⟩ | exact ⟨6, by decide, rfl⟩ | exact ⟨7, by decide, rfl⟩ | exact ⟨8, by decide, rfl⟩ | exact ⟨9, by decide, rfl⟩) hR2 (by omega) (by decide) (fun _ q3 w3 v h3 hm hv hle3 hR3 oq => ?_) (fun e w' h' hm o2 => ⟨e, w', hE.trans (PM.bind_err hm), rfl, o2⟩)
  subst hv
  rw [PM.bind_ok hm] at hE
  have o3 := oq
  simp only [PSt, pick, List.cons_append, List.nil_append, List.getElem?_cons_succ, List.getElem?_cons_zero, List.getElem?_nil] at o3
  clear oq hm
  refine PEndI.callL (fun B' o' => names_spec B' bp z tk _ _ _ o' hR3 (by omega)) (by assumption) rfl (fun l4 q4 w4 v4 I h4 hm hv hle4 hR4 oq => ?_) (fun e w' h' hm o2 => ⟨e, w', hE.trans (PM.bind_err hm), rfl, o2⟩)
  obtain ⟨hn4, rfl⟩ := hv
  rw [PM.bind_ok hm] at hE
  have o4 := oq
  simp only [PSt, pick, List.cons_append, List.nil_append, List.getElem?_cons_succ, List.getElem?_cons_zero, List.getElem?_nil] at o4
  clear oq hm
  obtain ⟨va4, vb4, rfl⟩ := o4.rowIs 2 rfl
  refine StillVC.run (StillVC.nilCheck rfl ?_)
  refine StillVC.run (StillVC.fieldAddr st51 rfl rfl rfl ?_)
  (refine RunVC.store o4 3 rfl ty42 rfl (by simp) (And.intro ⟨rfl, rfl⟩ ?_); intro m52 o52)
  (refine RunVC.lit o52 sl42 ty9 rfl rfl (by decide) (And.intro rfl ?_); intro b53 m53 o53)
  refine pneed_call (ss := [[41]]) (by assumption) rfl (by first | exact ⟨2, by decide, rfl⟩ | exact ⟨3, by decide, rfl⟩ | exact ⟨4, by decide, rfl⟩ | exact ⟨5, by decide, rfl⟩ | exact ⟨6, by decide, rfl⟩ | exact ⟨7, by decide, rfl⟩ | exact ⟨8, by decide, rfl⟩ | exact ⟨9, by decide, rfl⟩) hR4 (by omega) (by decide) (fun _ q5 w5 v h5 hm hv hle5 hR5 oq => ?_) (fun e w' h' hm o2 => ⟨e, w', hE.trans (PM.bind_err hm), rfl, o2⟩)
  subst hv
  rw [PM.bind_ok hm] at hE
  have o5 := oq
  simp only [PSt, pick, List.cons_append, List.nil_append, List.getElem?_cons_succ, List.getElem?_cons_zero, List.getElem?_nil] at o5
  clear oq hm
  refine RetVC.zero rfl ?_
  exact ⟨_, q5, w5, _, _, hE, rfl, ⟨_, _, _, _, _, _, _, _, _, _, _, _, _, _, _, rfl, nil_reads, row_reads, nil_reads, nil_reads, nil_reads, nil_reads, exR_zero _⟩, by omega, hR5, Own.sel (by assumption) [0, 1, 3, 2] rfl⟩

set_option maxHeartbeats 8000000 in
set_option maxRecDepth 100000 in
theorem deny_part (kd : Int) (nm : List UInt8) (off : Nat) (B : Base) (bp z : Nat) (tk : Item) (bx : Nat) (w : Value) (ts : List Tok) (h : Heap) (o : Own B [box bp [w, .int .i64 z] 68, tk, box bx (it0C kd nm off) 51] h) (hR : TokR tk w ts) (hl : ts.length ≤ 5000) :
    Spec Tryz.prog 39 [.pointer (some ⟨bp, 0, none⟩), .pointer (some ⟨bx, 0, none⟩)] h (PartEnd B bp z tk bx ts.length (denyP z (x0 kd nm off) ts)) := by
  have hE := congrFun (denyP.eq_1 z (x0 kd nm off)) ts
  unfold it0C at o
  refine Spec.enter Tryz.func39 rfl Tryz.ntmps39 (by kernel_rfl) ?_
  refine StillVC.run (StillVC.makeFn ?_)
  refine PEndI.callL (fun B' o' => listV_spec _ (fun z => varP z) variable_spec [44] B' bp z tk _ _ _ o' hR (by omega)) (by assumption) rfl (fun l1 q1 w1 v1 I h1 hm hv hle1 hR1 oq => ?_) (fun e w' h' hm o2 => ⟨e, w', hE.trans (PM.bind_err hm), rfl, o2⟩)
  obtain ⟨hn1, rfl⟩ := hv
  rw [PM.bind_ok hm] at hE
  have o1 := oq
  simp only [PSt, pick, List.cons_append, List.nil_append, List.getElem?_cons_succ, List.getElem?_cons_zero, List.getElem?_nil] at o1
  clear oq hm
  obtain ⟨va1, vb1, rfl⟩ := o1.rowIs 2 rfl
  refine StillVC.run (StillVC.nilCheck rfl ?_)
  refine StillVC.run (StillVC.fieldAddr st51 rfl rfl rfl ?_)
  (refine RunVC.store o1 3 rfl ty45 rfl (by simp) (And.intro ⟨rfl, rfl⟩ ?_); intro m22 o22)
  refine PEndI.callL (fun B' o' => conds_spec B' bp z tk _ _ _ o' hR1 (by omega)) (by assumption) rfl (fun l2 q2 w2 v2 I h2 hm hv hle2 hR2 oq => ?_) (fun e w' h' hm o2 => ⟨e, w', hE.trans (PM.bind_err hm), rfl, o2⟩)
  obtain ⟨hn2, rfl⟩ := hv
  rw [PM.bind_ok hm] at hE
  have o2 := oq
  simp only [PSt, pick, List.cons_append, List.nil_append, List.getElem?_cons_succ, List.getElem?_cons_zero, List.getElem?_nil] at o2
  clear oq hm
  obtain ⟨va2, vb2, rfl⟩ := o2.rowIs 2 rfl
  refine StillVC.run (StillVC.nilCheck rfl ?_)
  refine StillVC.run (StillVC.fieldAddr st51 rfl rfl rfl ?_)
  (refine RunVC.store o2 4 rfl ty46 rfl (by simp) (And.intro ⟨rfl, rfl⟩ ?_); intro m32 o32)
  refine RetVC.zero rfl ?_
  exact ⟨_, q2, w2, _, _, hE, rfl, ⟨_, _, _, _, _, _, _, _, _, _, _, _, _, _, _, rfl, nil_reads, nil_reads, nil_reads, nil_reads, row_reads.inr, row_reads.inl, exR_zero _⟩, by omega, hR2, ((Own.sel (by assumption) [2, 3, 0, 1, 4] rfl).join).sel [1, 2, 3, 0] rfl⟩

set_option maxHeartbeats 8000000 in
set_option maxRecDepth 100000 in
theorem table_part (kd : Int) (nm : List UInt8) (off : Nat) (B : Base) (bp z : Nat) (tk : Item) (bx : Nat) (w : Value) (ts : List Tok) (h : Heap) (o : Own B [box bp [w, .int .i64 z] 68, tk, box bx (it0C kd nm off) 51] h) (hR : TokR tk w ts) (hl : ts.length ≤ 5000) :
    Spec Tryz.prog 31 [.pointer (some ⟨bp, 0, none⟩), .pointer (some ⟨bx, 0, none⟩)] h (PartEnd B bp z tk bx ts.length (tableP z (x0 kd nm off) ts)) := by
  have hE := congrFun (tableP.eq_1 z (x0 kd nm off)) ts
  unfold it0C at o
  refine Spec.enter Tryz.func31 rfl Tryz.ntmps31 (by kernel_rfl) ?_
  (refine RunVC.lit o sl42 ty9 rfl rfl (by decide) (And.intro rfl ?_); intro b10 m10 o10)
  refine pneed_call (ss := [[40]]) (by assumption) rfl (by first | exact ⟨2, by decide, rfl⟩ | exact ⟨3, by decide, rfl⟩ | exact ⟨4, by decide, rfl⟩ | exact ⟨5, by decide, rfl⟩ | exact ⟨6, by decide, rfl⟩ | exact ⟨7, by decide, rfl⟩ | exact ⟨8, by decide, rfl⟩ | exact ⟨9, by decide, rfl⟩) hR (by omega) (by decide) (fun _ q1 w1 v h1 hm hv hle1 hR1 oq => ?_) (fun e w' h' hm o2 => ⟨e, w', hE.trans (PM.bind_err hm), rfl, o2⟩)
  subst hv
  rw [PM.bind_ok hm] at hE
  have o1 := oq
  simp only [PSt, pick, List.cons_append, List.nil_append, List.getElem?_cons_succ, List.getElem?_cons_zero, List.getElem?_nil] at o1
  clear oq hm
  refine StillVC.run (StillVC.makeFn ?_)
  refine PEndI.callL (fun B' o' => listK_spec _ (fun z => columnP z) column_spec [44] B' bp z tk _ _ _ o' hR1 (by omega)) (by assumption) rfl (fun l2 q2 w2 v2 I h2 hm hv hle2 hR2 oq => ?_) (fun e w' h' hm o2 => ⟨e, w', hE.trans (PM.bind_err hm), rfl, o2⟩)
  obtain ⟨hn2, rfl⟩ := hv
  rw [PM.bind_ok hm] at hE
  have o2 := oq
  simp only [PSt, pick, List.cons_append, List.nil_append, List.getElem?_cons_succ, List.getElem?_cons_zero, List.getElem?_nil] at o2
  clear oq hm
  obtain ⟨va2, vb2, rfl⟩ := o2.rowIs 2 rfl
  refine StillVC.run (StillVC.nilCheck rfl ?_)
  refine StillVC.run (StillVC.fieldAddr st51 rfl rfl rfl ?_)
  (refine RunVC.store o2 3 rfl ty41 rfl (by simp) (And.intro ⟨rfl, rfl⟩ ?_); intro m32 o32)
  (refine RunVC.lit o32 sl42 ty9 rfl rfl (by decide) (And.intro rfl ?_); intro b33 m33 o33)
  refine pneed_call (ss := [[41], [107, 101, 121]]) (by assumption) rfl (by first | exact ⟨2, by decide, rfl⟩ | exact ⟨3, by decide, rfl⟩ | exact ⟨4, by decide, rfl⟩ | exact ⟨5, by decide, rfl⟩ | exact ⟨6, by decide, rfl⟩ | exact ⟨7, by decide, rfl⟩ | exact ⟨8, by decide, rfl⟩ | exact ⟨9, by decide, rfl⟩) hR2 (by omega) (by decide) (fun _ q3 w3 v h3 hm hv hle3 hR3 oq => ?_) (fun e w' h' hm o2 => ⟨e, w', hE.trans (PM.bind_err hm), rfl, o2⟩)
  subst hv
  rw [PM.bind_ok hm] at hE
  have o3 := oq
  simp only [PSt, pick, List.cons_append, List.nil_append, List.getElem?_cons_succ, List.getElem?_cons_zero, List.getElem?_nil] at o3
  clear oq hm
  refine PEndI.callL (fun B' o' => names_spec B' bp z tk _ _ _ o' hR3 (by omega)) (by assumption) rfl (fun l4 q4 w4 v4 I h4 hm hv hle4 hR4 oq => ?_) (fun e w' h' hm o2 => ⟨e, w', hE.trans (PM.bind_err hm), rfl, o2⟩)
  obtain ⟨hn4, rfl⟩ := hv
  rw [PM.bind_ok hm] at hE
  have o4 := oq
  simp only [PSt, pick, List.cons_append, List.nil_append, List.getElem?_cons_succ, List.getElem?_cons_zero, List.getElem?_nil] at o4
  clear oq hm
  obtain ⟨va4, vb4, rfl⟩ := o4.rowIs 2 rfl
  refine StillVC.run (StillVC.nilCheck rfl ?_)
  refine StillVC.run (StillVC.fieldAddr st51 rfl rfl rfl ?_)
  (refine RunVC.store o4 4 rfl ty42 rfl (by simp) (And.intro ⟨rfl, rfl⟩ ?_); intro m52 o52)
  refine RetVC.zero rfl ?_
  exact ⟨_, q4, w4, _, _, hE, rfl, ⟨_, _, _, _, _, _, _, _, _, _, _, _, _, _, _, rfl, row_reads.inr, row_reads.inl, nil_reads, nil_reads, nil_reads, nil_reads, exR_zero _⟩, by omega, hR4, ((Own.sel (by assumption) [2, 3, 0, 1, 4] rfl).join).sel [1, 2, 3, 0] rfl⟩

end Go.Proofs.YtnmfanjhepepbaaGreatDoor

/- The parts of items: depend and match. -/
namespace Go.Proofs.YtnmfanjhepepbaaGreatDoor
open Go

/-- A reading that leaves at most as many tokens as there were. -/
def Dec {α : Type} (m : PM α) : Prop := ∀ ts a r, m ts = .ok (a, r) → r.length ≤ ts.length

theorem Dec.pure {α : Type} (a : α) : Dec (Pure.pure a : PM α) := by
  intro ts x r h
  cases h
  exact Nat.le_refl _

theorem Dec.bind {α β : Type} {m : PM α} {f : α → PM β} (hm : Dec m) (hf : ∀ a, Dec (f a)) : Dec (m >>= f) := by
  intro ts b r h
  cases hq : m ts with
  | error e => rw [PM.bind_err hq] at h; cases h
  | ok p =>
    obtain ⟨a, q⟩ := p
    rw [PM.bind_ok hq] at h
    exact Nat.le_trans (hf a _ _ _ h) (hm _ _ _ hq)

theorem Dec.take (s : List UInt8) : Dec (takeB s) := by
  intro ts b r h
  unfold takeB at h
  split at h
  · cases h; simp
  · cases h; exact Nat.le_refl _

theorem Dec.fail {α : Type} (z : Nat) (e : Int) : Dec (failP z e : PM α) := by
  intro ts b r h
  cases h

theorem kindP_lt {z : Nat} {k : Int} {ts : List Tok} {t : Tok} {r : List Tok} (h : kindP z k ts = .ok (t, r)) : r.length + 1 = ts.length := by
  cases ts with
  | nil => cases h
  | cons x q =>
    unfold kindP at h
    dsimp only at h
    split at h
    · cases h; rfl
    · cases h

theorem nameP_lt {z : Nat} {ts : List Tok} {a : List UInt8} {r : List Tok} (h : nameP z ts = .ok (a, r)) : r.length + 1 = ts.length := by
  unfold nameP at h
  cases hq : kindP z 1 ts with
  | error e => rw [PM.bind_err hq] at h; cases h
  | ok p =>
    obtain ⟨t, q⟩ := p
    rw [PM.bind_ok hq] at h
    cases h
    exact kindP_lt hq

theorem Dec.kind (z : Nat) (k : Int) : Dec (kindP z k) := fun _ _ _ h => by have := kindP_lt h; omega
theorem Dec.name (z : Nat) : Dec (nameP z) := Dec.bind (Dec.kind z 1) fun _ => Dec.pure _
theorem Dec.num (z : Nat) : Dec (numP z) := Dec.bind (Dec.kind z 2) fun _ => Dec.pure _

theorem Dec.need : ∀ (z : Nat) (ss : List (List UInt8)), Dec (needP z ss)
  | _, [] => Dec.pure _
  | z, s :: ss => Dec.bind (Dec.bind (Dec.take s) fun b => by cases b <;> first | exact Dec.fail _ _ | exact Dec.pure _) fun _ => Dec.need z ss

theorem Dec.word : ∀ (z : Nat) (ss : List (List UInt8)) (i : Int), Dec (wordP z ss i)
  | z, [], _ => Dec.fail z 4
  | z, s :: ss, i => Dec.bind (Dec.take s) fun b => by cases b <;> first | exact Dec.word z ss (i + 1) | exact Dec.pure _

theorem Dec.ifP {α : Type} {c : Bool} {m : PM α} {d : α} (h : Dec m) : Dec (ifP c m d) := by
  unfold Go.Proofs.YtnmfanjhepepbaaGreatDoor.ifP
  split
  · exact h
  · exact Dec.pure _

theorem Dec.opt {α : Type} {s : List UInt8} {m n : PM α} (h1 : Dec m) (h2 : Dec n) : Dec (takeB s >>= fun b => if b = true then m else n) := Dec.bind (Dec.take s) fun b => by cases b <;> assumption

theorem termP_lt {z : Nat} {ts : List Tok} {a : Trm} {r : List Tok} (h : termP z ts = .ok (a, r)) : r.length + 1 ≤ ts.length := by
  unfold termP at h
  cases hq : nameP z ts with
  | error e => rw [PM.bind_err hq] at h; cases h
  | ok p =>
    obtain ⟨n, q⟩ := p
    rw [PM.bind_ok hq] at h
    have h1 := nameP_lt hq
    have h2 := (Dec.bind (Dec.word _ _ _) fun _ => Dec.bind (Dec.ifP (Dec.num z)) fun _ => Dec.bind (Dec.need _ _) fun _ => Dec.bind (Dec.num z) fun _ => Dec.bind (Dec.opt (Dec.num z) (Dec.pure _)) fun _ => Dec.bind (Dec.need _ _) fun _ => Dec.bind (Dec.num z) fun _ =>
      Dec.bind (Dec.opt (Dec.num z) (Dec.pure _)) fun _ => Dec.bind (Dec.need _ _) fun _ => Dec.pure _) _ _ _ h
    omega

def termsM (bx : Nat) (h : Heap) : Nat := match cellAt h ⟨bx, 10, none⟩ with
  | some (.slice _ n _) => 6000 - n
  | _ => 0

theorem termsM_of {B : Base} {L : List Item} {h : Heap} {bx n : Nat} {cs : List Value} {t : TypeId} {a : Option Addr} {c : Nat} (o : Own B L h) (k : Nat) (hk : L[k]? = some (box bx cs t)) (hc : cs[10]? = some (.slice a n c)) : termsM bx h = 6000 - n := by
  unfold termsM
  rw [(o.cellB k hk 10).trans hc]

theorem termsA_yes {z f : Nat} {acc : List Trm} {ts : List Tok} (h : seesB [[125]] ts = true) : termsA z (f + 1) acc ts = .ok (acc, ts) := by
  have e := congrFun (termsA.eq_2 z acc f) ts
  simp only [h, if_true] at e
  exact e

theorem termsA_no {z f : Nat} {acc : List Trm} {ts : List Tok} (h : seesB [[125]] ts = false) : termsA z (f + 1) acc ts = (termP z >>= fun a => termsA z f (acc ++ [a])) ts := by
  have e := congrFun (termsA.eq_2 z acc f) ts
  simp only [h, Bool.false_eq_true, if_false] at e
  exact e

set_option maxHeartbeats 8000000 in
set_option maxRecDepth 100000 in
theorem depend_part (kd : Int) (nm : List UInt8) (off : Nat) (B : Base) (bp z : Nat) (tk : Item) (bx : Nat) (w : Value) (ts : List Tok) (h : Heap) (o : Own B [box bp [w, .int .i64 z] 68, tk, box bx (it0C kd nm off) 51] h) (hR : TokR tk w ts) (hl : ts.length ≤ 5000) :
    Spec Tryz.prog 37 [.pointer (some ⟨bp, 0, none⟩), .pointer (some ⟨bx, 0, none⟩)] h (PartEnd B bp z tk bx ts.length (dependP z (x0 kd nm off) ts)) := by
  have hE := congrFun (dependP.eq_1 z (x0 kd nm off)) ts
  unfold it0C at o
  refine Spec.enter Tryz.func37 rfl Tryz.ntmps37 (by kernel_rfl) ?_
  refine CallVC.ends (unique_part kd nm off B bp z tk bx w ts h o hR hl) (fun v h' ⟨x, q, wu, c, I, hm, hv, hI, hle, hRu, ou⟩ => ?_) (fun c h' ⟨e, w', hm, hc, o'⟩ => ⟨e, w', hE.trans (PM.bind_err hm), hc, o'⟩)
  subst hv
  rw [PM.bind_ok hm] at hE
  obtain ⟨vc, vn, vt, vf, vv, vd, e0, e1, e2, e3, e4, e5, e6, e7, e8, rfl, r1, r2, r3, r4, r5, r6, rx⟩ := hI
  unfold itC at ou
  clear hm
  (refine RunVC.lit ou sl42 ty9 rfl rfl (by decide) (And.intro rfl ?_); intro b20 m20 o20)
  refine pneed_call (ss := [[116, 111]]) (by assumption) rfl (by first | exact ⟨2, by decide, rfl⟩ | exact ⟨3, by decide, rfl⟩ | exact ⟨4, by decide, rfl⟩ | exact ⟨5, by decide, rfl⟩ | exact ⟨6, by decide, rfl⟩ | exact ⟨7, by decide, rfl⟩ | exact ⟨8, by decide, rfl⟩ | exact ⟨9, by decide, rfl⟩) hRu (by omega) (by decide) (fun _ q1 w1 v h1 hm hv hle1 hR1 oq => ?_) (fun e w' h' hm o2 => ⟨e, w', hE.trans (PM.bind_err hm), rfl, o2⟩)
  subst hv
  rw [PM.bind_ok hm] at hE
  have o1 := oq
  simp only [PSt, pick, List.cons_append, List.nil_append, List.getElem?_cons_succ, List.getElem?_cons_zero, List.getElem?_nil] at o1
  clear oq hm
  refine pname_spec.callL (by assumption) rfl hR1 (by omega) (fun at_ q2 w2 v h2 hm hv hle2 hR2 oq => ?_) (fun e w' h' hm o2 => ⟨e, w', hE.trans (PM.bind_err hm), rfl, o2⟩)
  subst hv
  rw [PM.bind_ok hm] at hE
  have o2 := oq
  simp only [PSt, pick, List.cons_append, List.nil_append, List.getElem?_cons_succ, List.getElem?_cons_zero, List.getElem?_nil] at o2
  clear oq hm
  refine StillVC.run (StillVC.nilCheck rfl ?_)
  refine StillVC.run (StillVC.fieldAddr st51 rfl rfl rfl ?_)
  (refine RunVC.store o2 2 rfl ty9 rfl (by simp) (And.intro ⟨rfl, rfl⟩ ?_); intro m42 o42)
  refine (ptake_spec [119, 104, 101, 114, 101]).callL (by assumption) rfl hR2 (by omega) (fun b q3 w3 v h3 hm hv hle3 hR3 oq => ?_) (fun e w2 h2 hm o2 => absurd hm (takeB_ok _ _ e))
  subst hv
  rw [PM.bind_ok hm] at hE
  have o3 := oq
  simp only [PSt, pick, List.cons_append, List.nil_append, List.getElem?_cons_succ, List.getElem?_cons_zero, List.getElem?_nil] at o3
  clear oq hm
  cases b with
  | true =>
    rw [if_pos rfl] at hE
    refine Br.tt ?_
    refine StillVC.run (StillVC.makeFn ?_)
    refine PEndI.callL (fun B' o' => listN_spec _ (fun z => fixedP z) fixed_spec [44] B' bp z tk _ _ _ o' hR3 (by omega)) (by assumption) rfl (fun l4 q4 w4 v4 I h4 hm hv hle4 hR4 oq => ?_) (fun e w' h' hm o2 => ⟨e, w', hE.trans (PM.bind_err hm), rfl, o2⟩)
    obtain ⟨hn4, rfl⟩ := hv
    rw [PM.bind_ok hm] at hE
    have o4 := oq
    simp only [PSt, pick, List.cons_append, List.nil_append, List.getElem?_cons_succ, List.getElem?_cons_zero, List.getElem?_nil] at o4
    clear oq hm
    obtain ⟨va4, vb4, rfl⟩ := o4.rowIs 2 rfl
    refine StillVC.run (StillVC.nilCheck rfl ?_)
    refine StillVC.run (StillVC.fieldAddr st51 rfl rfl rfl ?_)
    (refine RunVC.store o4 3 rfl ty44 rfl (by simp) (And.intro ⟨rfl, rfl⟩ ?_); intro m62 o62)
    refine RetVC.zero rfl ?_
    exact ⟨_, q4, w4, _, _, hE, rfl, ⟨_, _, _, _, _, _, _, _, _, _, _, _, _, _, _, rfl, r1.inr, r2.inr, r3.inr, row_reads.inl, r5.inr, r6.inr, exR.mono (fun _ (s : (joinI _ _).sat _) => s.2) _ _ rx⟩, by omega, hR4, ((Own.sel (by assumption) [2, 4, 0, 1, 3] rfl).join).sel [1, 2, 3, 0] rfl⟩
  | false =>
    rw [if_neg (by decide)] at hE
    refine Br.ff ?_
    refine RetVC.zero rfl ?_
    exact ⟨_, q3, w3, _, _, hE, rfl, ⟨_, _, _, _, _, _, _, _, _, _, _, _, _, _, _, rfl, r1, r2, r3, r4, r5, r6, rx⟩, by omega, hR3, Own.sel (by assumption) [0, 1, 2, 3] rfl⟩

set_option maxHeartbeats 8000000 in
set_option maxRecDepth 100000 in
theorem match_part (kd : Int) (nm : List UInt8) (off : Nat) (B : Base) (bp z : Nat) (tk : Item) (bx : Nat) (w : Value) (ts : List Tok) (h : Heap) (o : Own B [box bp [w, .int .i64 z] 68, tk, box bx (it0C kd nm off) 51] h) (hR : TokR tk w ts) (hl : ts.length ≤ 5000) :
    Spec Tryz.prog 34 [.pointer (some ⟨bp, 0, none⟩), .pointer (some ⟨bx, 0, none⟩)] h (PartEnd B bp z tk bx ts.length (matchP z (x0 kd nm off) ts)) := by
  have hE := congrFun (matchP.eq_1 z (x0 kd nm off)) ts
  unfold it0C at o
  refine Spec.enter Tryz.func34 rfl Tryz.ntmps34 (by kernel_rfl) ?_
  (refine RunVC.lit o sl42 ty9 rfl rfl (by decide) (And.intro rfl ?_); intro b10 m10 o10)
  refine pneed_call (ss := [[111, 110]]) (by assumption) rfl (by first | exact ⟨2, by decide, rfl⟩ | exact ⟨3, by decide, rfl⟩ | exact ⟨4, by decide, rfl⟩ | exact ⟨5, by decide, rfl⟩ | exact ⟨6, by decide, rfl⟩ | exact ⟨7, by decide, rfl⟩ | exact ⟨8, by decide, rfl⟩ | exact ⟨9, by decide, rfl⟩) hR (by omega) (by decide) (fun _ q1 w1 v h1 hm hv hle1 hR1 oq => ?_) (fun e w' h' hm o2 => ⟨e, w', hE.trans (PM.bind_err hm), rfl, o2⟩)
  subst hv
  rw [PM.bind_ok hm] at hE
  have o1 := oq
  simp only [PSt, pick, List.cons_append, List.nil_append, List.getElem?_cons_succ, List.getElem?_cons_zero, List.getElem?_nil] at o1
  clear oq hm
  refine pname_spec.callL (by assumption) rfl hR1 (by omega) (fun tb q2 w2 v h2 hm hv hle2 hR2 oq => ?_) (fun e w' h' hm o2 => ⟨e, w', hE.trans (PM.bind_err hm), rfl, o2⟩)
  subst hv
  rw [PM.bind_ok hm] at hE
  have o2 := oq
  simp only [PSt, pick, List.cons_append, List.nil_append, List.getElem?_cons_succ, List.getElem?_cons_zero, List.getElem?_nil] at o2
  clear oq hm
  refine StillVC.run (StillVC.nilCheck rfl ?_)
  refine StillVC.run (StillVC.fieldAddr st51 rfl rfl rfl ?_)
  (refine RunVC.store o2 2 rfl ty9 rfl (by simp) (And.intro ⟨rfl, rfl⟩ ?_); intro m32 o32)
  (refine RunVC.lit o32 sl42 ty9 rfl rfl (by decide) (And.intro rfl ?_); intro b33 m33 o33)
  refine pneed_call (ss := [[97, 116]]) (by assumption) rfl (by first | exact ⟨2, by decide, rfl⟩ | exact ⟨3, by decide, rfl⟩ | exact ⟨4, by decide, rfl⟩ | exact ⟨5, by decide, rfl⟩ | exact ⟨6, by decide, rfl⟩ | exact ⟨7, by decide, rfl⟩ | exact ⟨8, by decide, rfl⟩ | exact ⟨9, by decide, rfl⟩) hR2 (by omega) (by decide) (fun _ q3 w3 v h3 hm hv hle3 hR3 oq => ?_) (fun e w' h' hm o2 => ⟨e, w', hE.trans (PM.bind_err hm), rfl, o2⟩)
  subst hv
  rw [PM.bind_ok hm] at hE
  have o3 := oq
  simp only [PSt, pick, List.cons_append, List.nil_append, List.getElem?_cons_succ, List.getElem?_cons_zero, List.getElem?_nil] at o3
  clear oq hm
  refine pnumber_spec.callL (by assumption) rfl hR3 (by omega) (fun n_ q4 w4 v h4 hm hv hle4 hR4 oq => ?_) (fun e w' h' hm o2 => ⟨e, w', hE.trans (PM.bind_err hm), rfl, o2⟩)
  obtain ⟨rfl, hv0_4, hv1_4⟩ := hv
  rw [PM.bind_ok hm] at hE
  have o4 := oq
  simp only [PSt, pick, List.cons_append, List.nil_append, List.getElem?_cons_succ, List.getElem?_cons_zero, List.getElem?_nil] at o4
  clear oq hm
  refine StillVC.run (StillVC.nilCheck rfl ?_)
  refine StillVC.run (StillVC.fieldAddr st51 rfl rfl rfl ?_)
  (refine RunVC.store o4 2 rfl ty3 rfl (by simp) (And.intro ⟨rfl, rfl⟩ ?_); intro m52 o52)
  (refine RunVC.lit o52 sl42 ty9 rfl rfl (by decide) (And.intro rfl ?_); intro b53 m53 o53)
  refine pneed_call (ss := [[123]]) (by assumption) rfl (by first | exact ⟨2, by decide, rfl⟩ | exact ⟨3, by decide, rfl⟩ | exact ⟨4, by decide, rfl⟩ | exact ⟨5, by decide, rfl⟩ | exact ⟨6, by decide, rfl⟩ | exact ⟨7, by decide, rfl⟩ | exact ⟨8, by decide, rfl⟩ | exact ⟨9, by decide, rfl⟩) hR4 (by omega) (by decide) (fun _ q5 w5 v h5 hm hv hle5 hR5 oq => ?_) (fun e w' h' hm o2 => ⟨e, w', hE.trans (PM.bind_err hm), rfl, o2⟩)
  subst hv
  rw [PM.bind_ok hm] at hE
  have o5 := oq
  simp only [PSt, pick, List.cons_append, List.nil_append, List.getElem?_cons_succ, List.getElem?_cons_zero, List.getElem?_nil] at o5
  clear oq hm
  have on := Own.nilRow (by assumption) 62 7
  have on := Own.sel on [0, 1, 2, 6] rfl
  refine LoopVC.intro [23, 24, 25, 26, 27, 28, 29, 30, 31, 32, 33, 34, 35, 36, 37] [] (fun _ hh => ∃ (f : Nat) (acc : List Trm) (q : List Tok) (w' : Value) (va : Option Addr) (vc : Nat), termsA z f acc q = termsA z (q5.length + 1) [] q5 ∧ q.length < f ∧ q.length ≤ ts.length ∧ acc.length + q.length ≤ ts.length ∧ TokR tk w' q ∧ Own B [box bp [w', .int .i64 z] 68, tk, box bx [.int .i64 kd, .string ⟨⟨nm⟩⟩, .int .i64 off, .string ⟨⟨tb⟩⟩, .string ⟨⟨[]⟩⟩, nilV, nilV, .int .i64 0, .int .i64 n_, .int .i64 0, .slice va acc.length vc, .string ⟨⟨[]⟩⟩, .string ⟨⟨[]⟩⟩, nilV, nilV, nilV, .int .i64 0, .string ⟨⟨[]⟩⟩, nilV, nilV, nilV, .string ⟨⟨[]⟩⟩, .string ⟨⟨[]⟩⟩, .int .i64 0, .int .i64 0] 51, row (.slice va acc.length vc) 62 7 acc.length (acc.flatMap trmC)] hh) (fun _ hh => termsM bx hh) ?_ ?_
  · exact ⟨q5.length + 1, [], q5, w5, none, 0, rfl, by omega, by omega, by simp; omega, hR5, on⟩
  · rintro vs junk hh ⟨f, acc, q, w', va, vc, hT, hf, hq, hac, hR', oh⟩
    obtain ⟨f, rfl⟩ : ∃ f', f = f' + 1 := ⟨f - 1, by omega⟩
    have hm0 := termsM_of oh 2 rfl rfl
    (refine RunVC.lit oh sl42 ty9 rfl rfl (by decide) (And.intro rfl ?_); intro b70 m70 o70)
    refine CallVC.ret (peek_spec [[125]] _ bp w' q _ (Own.cellB (by assumption) 0 rfl 0) (Own.reads (by assumption) 1 hR'.1 rfl) (Own.boxArr (by assumption) 4 rfl rfl (by decide)) (by omega)) ?_
    rintro _ h2 ⟨rfl, oc⟩
    have op := oc.thenE (by assumption)
    clear oc
    cases hb : seesB [[125]] q with
    | true =>
      rw [termsA_yes hb] at hT
      have hE := hE.trans (PM.bind_ok (m := fun ts => termsA z (ts.length + 1) [] ts) hT.symm)
      refine Br.ff ?_
      refine RetVC.zero rfl ?_
      exact ⟨_, q, w', _, _, hE, rfl, ⟨_, _, _, _, _, _, _, _, _, _, _, _, _, _, _, rfl, nil_reads, nil_reads, row_reads, nil_reads, nil_reads, nil_reads, exR_zero _⟩, by omega, hR', Own.sel (by assumption) [0, 1, 2, 3] rfl⟩
    | false =>
      rw [termsA_no hb] at hT
      refine Br.tt ?_
      refine DrawVC.introB bx [0, 1, 2, 3, 5, 9, 10] [4] [8, 11] [0, 1, 2, 3, 4, 5, 6, 7, 8, 9, 10, 11] mixed (by kernel_rfl) rfl (fun _ _ _ _ h => h) ?_
      refine StillVC.nilCheck rfl ?_
      refine StillVC.fieldAddr st51 rfl rfl rfl ?_
      refine StillVCA.load1 ty43 rfl rfl ((op.cellB 2 rfl _).trans rfl) ?_
      refine term_spec.callL (by assumption) rfl hR' (by omega) (fun a q2 w2 v h3 hm hv hle hR2 oq => ?_) (fun e w2 h3 hm o2 => ⟨e, w2, hE.trans (PM.bind_err (m := fun ts => termsA z (ts.length + 1) [] ts) (hT.symm.trans (PM.bind_err hm))), rfl, o2⟩)
      subst hv
      rw [PM.bind_ok hm] at hT
      have o9 := oq
      simp only [PSt, pick, List.cons_append, List.nil_append, List.getElem?_cons_succ, List.getElem?_cons_zero, List.getElem?_nil] at o9
      clear oq
      refine ⟨(Own.satK o9 2 rfl).trans (Own.satK op 2 rfl).symm, ?_⟩
      (refine RunVC.litN o9 sl43 ty62 rfl rfl (by decide) ?_)
      refine And.intro rfl ?_
      intro b111 m111 o111
      refine And.intro ((o111.boxBlk 2 rfl).trans (o9.boxBlk 2 rfl).symm) ?_
      refine RunVC.append (by assumption) 3 rfl sl43 ty62 (by decide) (Own.boxArrN (by assumption) 5 rfl (n := 1) rfl (by omega)) (by simp [Value.oneCell']) (by simp only [maxLen]; omega) (by omega) ?_
      intro v915 m915 o915
      obtain ⟨ua, uc, rfl⟩ := o915.rowIs 3 rfl
      refine StillVC.nilCheck rfl ?_
      refine StillVC.fieldAddr st51 rfl rfl rfl ?_
      (refine RunVC.store o915 2 rfl ty43 rfl (by simp) (And.intro ⟨rfl, rfl⟩ ?_); intro m922 o922)
      refine ⟨rfl, ?_⟩
      have e1 : (acc ++ [a]).flatMap trmC = acc.flatMap trmC ++ trmC a := by rw [List.flatMap_append, List.flatMap_cons, List.flatMap_nil, List.append_nil]
      have e2 : (acc ++ [a]).length = acc.length + 1 := by simp
      have hlt := termP_lt hm
      refine ⟨⟨f, acc ++ [a], q2, w2, ua, uc, hT, by omega, by omega, by omega, hR2, ?_⟩, ?_⟩
      · rw [e1, e2]
        exact Own.sel (by assumption) [0, 1, 2, 3] rfl
      · have hm1 := termsM_of (bx := bx) (by assumption) 2 rfl rfl
        rw [hm0, hm1]
        omega

end Go.Proofs.YtnmfanjhepepbaaGreatDoor

/- The operations of expressions. -/
namespace Go.Proofs.YtnmfanjhepepbaaGreatDoor
open Go

/-- The operations of expressions, in memory. -/
def opsC (pb : Nat) : List Value := [.string ⟨⟨[115, 101, 108, 101, 99, 116]⟩⟩, .bool false, .func (.func 117) ⟨[]⟩ ⟨[.pointer (some ⟨pb, 0, none⟩)]⟩, .string ⟨⟨[112, 114, 111, 106, 101, 99, 116]⟩⟩, .bool false, .func (.func 118) ⟨[]⟩ ⟨[.pointer (some ⟨pb, 0, none⟩)]⟩, .string ⟨⟨[106, 111, 105, 110]⟩⟩, .bool true, .func (.func 116) ⟨[]⟩ ⟨[]⟩, .string ⟨⟨[117, 110, 105, 111, 110]⟩⟩, .bool true, .func (.func 116) ⟨[]⟩ ⟨[]⟩, .string ⟨⟨[109, 105, 110, 117, 115]⟩⟩, .bool true, .func (.func 116) ⟨[]⟩ ⟨[]⟩, .string ⟨⟨[114, 101, 110, 97, 109, 101]⟩⟩, .bool false, .func (.func 119) ⟨[]⟩ ⟨[.pointer (some ⟨pb, 0, none⟩)]⟩, .string ⟨⟨[103, 114, 111, 117, 112]⟩⟩, .bool false, .func (.func 120) ⟨[]⟩ ⟨[.pointer (some ⟨pb, 0, none⟩)]⟩]

set_option maxHeartbeats 8000000 in
set_option maxRecDepth 100000 in
theorem operations_spec (bp : Nat) (h : Heap) : SpecR Tryz.prog 107 [.pointer (some ⟨bp, 0, none⟩)] h fun v h' => ∃ b pb, v = .slice (some ⟨b, 0, none⟩) 7 7 ∧ Own h [box pb [.pointer (some ⟨bp, 0, none⟩)] 66, box b (opsC pb) 149] h' := by
  refine Spec.enter Tryz.func107 rfl Tryz.ntmps107 (by kernel_rfl) ?_
  have o0 := Own.refl h
  (refine RunVC.boxO o0 rfl ?_; intro b10 m10 o10)
  refine StillVC.run (StillVC.makeFn ?_)
  refine StillVC.run (StillVC.buildK st149 ?_)
  refine And.intro rfl ?_
  refine And.intro rfl ?_
  refine And.intro rfl ?_
  refine StillVC.run (StillVC.makeFn ?_)
  refine StillVC.run (StillVC.buildK st149 ?_)
  refine And.intro rfl ?_
  refine And.intro rfl ?_
  refine And.intro rfl ?_
  refine StillVC.run (StillVC.buildK st149 ?_)
  refine And.intro rfl ?_
  refine And.intro rfl ?_
  refine And.intro rfl ?_
  refine StillVC.run (StillVC.buildK st149 ?_)
  refine And.intro rfl ?_
  refine And.intro rfl ?_
  refine And.intro rfl ?_
  refine StillVC.run (StillVC.buildK st149 ?_)
  refine And.intro rfl ?_
  refine And.intro rfl ?_
  refine And.intro rfl ?_
  refine StillVC.run (StillVC.makeFn ?_)
  refine StillVC.run (StillVC.buildK st149 ?_)
  refine And.intro rfl ?_
  refine And.intro rfl ?_
  refine And.intro rfl ?_
  refine StillVC.run (StillVC.makeFn ?_)
  refine StillVC.run (StillVC.buildK st149 ?_)
  refine And.intro rfl ?_
  refine And.intro rfl ?_
  refine And.intro rfl ?_
  (refine RunVC.litN o10 sl145 ty149 rfl rfl (by decide) ?_)
  refine And.intro rfl ?_
  refine And.intro rfl ?_
  refine And.intro rfl ?_
  refine And.intro rfl ?_
  refine And.intro rfl ?_
  refine And.intro rfl ?_
  refine And.intro rfl ?_
  intro b23 m23 o23
  refine RetVC.one rfl ?_
  exact ⟨_, _, rfl, Own.sel (by assumption) [0, 1] rfl⟩

/-- An expression whose rest was read. -/
def restR (I : Item) (c : List Value) (kind : Int) (vk : Value) (kids : List Ex) (off : Nat) (x : Ex) : Prop := ∃ vc vn conds names attr as_ agg, x = .mk kind [] kids conds names attr as_ agg off ∧ c = exC kind [] vk vc vn attr as_ agg off ∧
  Reads I 14 vc conds.length (conds.flatMap cndC) ∧ Reads I 1 vn names.length (names.flatMap strC)

/-- How the rest of an expression ends. -/
def RestEnd (B : Base) (bp z : Nat) (tk : Item) (bx pb : Nat) (n : Nat) (res : Except (Int × Nat) (Ex × List Tok)) (kind : Int) (vk : Value) (kids : List Ex) (off : Nat) : Ending → Heap → Prop :=
  Ends (fun v h' => ∃ x r w c I, res = .ok (x, r) ∧ v = .tuple ⟨[]⟩ ∧ restR I c kind vk kids off x ∧ r.length ≤ n ∧ TokR tk w r ∧ Own B [box bp [w, .int .i64 z] 68, tk, box bx c 49, box pb [.pointer (some ⟨bp, 0, none⟩)] 66, I] h')
    (fun c h' => ∃ e w, res = .error e ∧ c = failC e ∧ Own B (PSt bp z w tk) h')

theorem Own.empty4 {B : Base} {x y z u : Item} {h : Heap} (o : Own B [x, y, z, u] h) : Own B [x, y, z, u, emptyI] h := o.emptyI'.sel [1, 2, 3, 4, 0] rfl

set_option maxHeartbeats 8000000 in
set_option maxRecDepth 100000 in
theorem rest0_spec (off : Nat) (vk : Value) (kids : List Ex) (B : Base) (bp z : Nat) (tk : Item) (bx pb : Nat) (w : Value) (ts : List Tok) (h : Heap) (o : Own B [box bp [w, .int .i64 z] 68, tk, box bx (exC 2 [] vk nilV nilV [] [] 0 off) 49, box pb [.pointer (some ⟨bp, 0, none⟩)] 66] h) (hR : TokR tk w ts) (hl : ts.length ≤ 5000) :
    Spec Tryz.prog 117 [.pointer (some ⟨bx, 0, none⟩), .pointer (some ⟨pb, 0, none⟩)] h (RestEnd B bp z tk bx pb ts.length (opRest z 0 off kids ts) 2 vk kids off) := by
  have hE : opRest z 0 off kids ts = (condsP z >>= fun c => (pure (Ex.mk 2 [] kids c [] [] [] 0 off) : PM Ex)) ts := rfl
  unfold exC at o
  refine Spec.enter Tryz.func117 rfl Tryz.ntmps117 (by kernel_rfl) ?_
  refine StillVC.run (StillVC.loadO o 3 rfl ty66 rfl rfl ?_)
  refine PEndI.callL (fun B' o' => conds_spec B' bp z tk _ _ _ o' hR (by omega)) (by assumption) rfl (fun l1 q1 w1 v1 I h1 hm hv hle1 hR1 oq => ?_) (fun e w' h' hm o2 => ⟨e, w', hE.trans (PM.bind_err hm), rfl, o2⟩)
  obtain ⟨hn1, rfl⟩ := hv
  rw [PM.bind_ok hm] at hE
  have o1 := oq
  simp only [PSt, pick, List.cons_append, List.nil_append, List.getElem?_cons_succ, List.getElem?_cons_zero, List.getElem?_nil] at o1
  clear oq hm
  obtain ⟨va1, vb1, rfl⟩ := o1.rowIs 2 rfl
  refine StillVC.run (StillVC.nilCheck rfl ?_)
  refine StillVC.run (StillVC.fieldAddr st49 rfl rfl rfl ?_)
  (refine RunVC.store o1 3 rfl ty46 rfl (by simp) (And.intro ⟨rfl, rfl⟩ ?_); intro m22 o22)
  refine RetVC.zero rfl ?_
  exact ⟨_, q1, w1, _, _, hE, rfl, ⟨_, _, l1, [], [], [], 0, rfl, rfl, row_reads, nil_reads⟩, by omega, hR1, Own.sel (by assumption) [0, 1, 3, 4, 2] rfl⟩

set_option maxHeartbeats 8000000 in
set_option maxRecDepth 100000 in
theorem rest1_spec (off : Nat) (vk : Value) (kids : List Ex) (B : Base) (bp z : Nat) (tk : Item) (bx pb : Nat) (w : Value) (ts : List Tok) (h : Heap) (o : Own B [box bp [w, .int .i64 z] 68, tk, box bx (exC 3 [] vk nilV nilV [] [] 0 off) 49, box pb [.pointer (some ⟨bp, 0, none⟩)] 66] h) (hR : TokR tk w ts) (hl : ts.length ≤ 5000) :
    Spec Tryz.prog 118 [.pointer (some ⟨bx, 0, none⟩), .pointer (some ⟨pb, 0, none⟩)] h (RestEnd B bp z tk bx pb ts.length (opRest z 1 off kids ts) 3 vk kids off) := by
  have hE : opRest z 1 off kids ts = (needP z [[111, 110]] >>= fun _ => namesU z [41] >>= fun l => (pure (Ex.mk 3 [] kids [] l [] [] 0 off) : PM Ex)) ts := rfl
  unfold exC at o
  refine Spec.enter Tryz.func118 rfl Tryz.ntmps118 (by kernel_rfl) ?_
  refine StillVC.run (StillVC.loadO o 3 rfl ty66 rfl rfl ?_)
  (refine RunVC.lit o sl42 ty9 rfl rfl (by decide) (And.intro rfl ?_); intro b11 m11 o11)
  refine pneed_call (ss := [[111, 110]]) (by assumption) rfl (by first | exact ⟨2, by decide, rfl⟩ | exact ⟨3, by decide, rfl⟩ | exact ⟨4, by decide, rfl⟩ | exact ⟨5, by decide, rfl⟩ | exact ⟨6, by decide, rfl⟩ | exact ⟨7, by decide, rfl⟩ | exact ⟨8, by decide, rfl⟩ | exact ⟨9, by decide, rfl⟩) hR (by omega) (by decide) (fun _ q1 w1 v h1 hm hv hle1 hR1 oq => ?_) (fun e w' h' hm o2 => ⟨e, w', hE.trans (PM.bind_err hm), rfl, o2⟩)
  subst hv
  rw [PM.bind_ok hm] at hE
  have o1 := oq
  simp only [PSt, pick, List.cons_append, List.nil_append, List.getElem?_cons_succ, List.getElem?_cons_zero, List.getElem?_nil] at o1
  clear oq hm
  refine StillVC.run (StillVC.loadO o1 3 rfl ty66 rfl rfl ?_)
  (refine RunVC.lit o1 sl42 ty9 rfl rfl (by decide) (And.intro rfl ?_); intro b21 m21 o21)
  refine CallVC.ret (peek_spec [[41]] _ bp w1 q1 _ (Own.cellB (by assumption) 0 rfl 0) (Own.reads (by assumption) 1 hR1.1 rfl) (Own.boxArr (by assumption) 5 rfl rfl (by decide)) (by omega)) ?_
  rintro _ hp ⟨rfl, oc⟩
  have op := oc.thenE (by assumption)
  clear oc
  cases hb : seesB [[41]] q1 with
  | true =>
    rw [PM.bind_ok (namesU_yes hb)] at hE
    refine Br.ff ?_
    refine RetVC.zero rfl ?_
    exact ⟨_, q1, w1, _, emptyI, hE, rfl, ⟨_, _, [], [], [], [], 0, rfl, rfl, nil_reads, nil_reads⟩, by omega, hR1, (Own.sel (by assumption) [0, 1, 2, 3] rfl).empty4⟩
  | false =>
    refine Br.tt ?_
    refine StillVC.run (StillVC.loadO op 3 rfl ty66 rfl rfl ?_)
    refine PEndI.callL (fun B' o' => names_spec B' bp z tk _ _ _ o' hR1 (by omega)) (by assumption) rfl (fun l2 q2 w2 v2 I h2 hm hv hle2 hR2 oq => ?_) (fun e w' h' hm o2 => ⟨e, w', hE.trans (PM.bind_err ((namesU_no hb).trans hm)), rfl, o2⟩)
    obtain ⟨hn2, rfl⟩ := hv
    rw [PM.bind_ok ((namesU_no hb).trans hm)] at hE
    have o2 := oq
    simp only [PSt, pick, List.cons_append, List.nil_append, List.getElem?_cons_succ, List.getElem?_cons_zero, List.getElem?_nil] at o2
    clear oq hm
    obtain ⟨va2, vb2, rfl⟩ := o2.rowIs 2 rfl
    refine StillVC.run (StillVC.nilCheck rfl ?_)
    refine StillVC.run (StillVC.fieldAddr st49 rfl rfl rfl ?_)
    (refine RunVC.store o2 3 rfl ty42 rfl (by simp) (And.intro ⟨rfl, rfl⟩ ?_); intro m52 o52)
    refine RetVC.zero rfl ?_
    exact ⟨_, q2, w2, _, _, hE, rfl, ⟨_, _, [], l2, [], [], 0, rfl, rfl, nil_reads, row_reads⟩, by omega, hR2, Own.sel (by assumption) [0, 1, 3, 4, 2] rfl⟩

set_option maxHeartbeats 8000000 in
set_option maxRecDepth 100000 in
theorem rest5_spec (off : Nat) (vk : Value) (kids : List Ex) (B : Base) (bp z : Nat) (tk : Item) (bx pb : Nat) (w : Value) (ts : List Tok) (h : Heap) (o : Own B [box bp [w, .int .i64 z] 68, tk, box bx (exC 7 [] vk nilV nilV [] [] 0 off) 49, box pb [.pointer (some ⟨bp, 0, none⟩)] 66] h) (hR : TokR tk w ts) (hl : ts.length ≤ 5000) :
    Spec Tryz.prog 119 [.pointer (some ⟨bx, 0, none⟩), .pointer (some ⟨pb, 0, none⟩)] h (RestEnd B bp z tk bx pb ts.length (opRest z 5 off kids ts) 7 vk kids off) := by
  have hE : opRest z 5 off kids ts = (needP z [[44]] >>= fun _ => nameP z >>= fun a => needP z [[97, 115]] >>= fun _ => nameP z >>= fun b => (pure (Ex.mk 7 [] kids [] [] a b 0 off) : PM Ex)) ts := rfl
  unfold exC at o
  refine Spec.enter Tryz.func119 rfl Tryz.ntmps119 (by kernel_rfl) ?_
  refine StillVC.run (StillVC.loadO o 3 rfl ty66 rfl rfl ?_)
  (refine RunVC.lit o sl42 ty9 rfl rfl (by decide) (And.intro rfl ?_); intro b11 m11 o11)
  refine pneed_call (ss := [[44]]) (by assumption) rfl (by first | exact ⟨2, by decide, rfl⟩ | exact ⟨3, by decide, rfl⟩ | exact ⟨4, by decide, rfl⟩ | exact ⟨5, by decide, rfl⟩ | exact ⟨6, by decide, rfl⟩ | exact ⟨7, by decide, rfl⟩ | exact ⟨8, by decide, rfl⟩ | exact ⟨9, by decide, rfl⟩) hR (by omega) (by decide) (fun _ q1 w1 v h1 hm hv hle1 hR1 oq => ?_) (fun e w' h' hm o2 => ⟨e, w', hE.trans (PM.bind_err hm), rfl, o2⟩)
  subst hv
  rw [PM.bind_ok hm] at hE
  have o1 := oq
  simp only [PSt, pick, List.cons_append, List.nil_append, List.getElem?_cons_succ, List.getElem?_cons_zero, List.getElem?_nil] at o1
  clear oq hm
  refine StillVC.run (StillVC.loadO o1 3 rfl ty66 rfl rfl ?_)
  refine pname_spec.callL (by assumption) rfl hR1 (by omega) (fun at_ q2 w2 v h2 hm hv hle2 hR2 oq => ?_) (fun e w' h' hm o2 => ⟨e, w', hE.trans (PM.bind_err hm), rfl, o2⟩)
  subst hv
  rw [PM.bind_ok hm] at hE
  have o2 := oq
  simp only [PSt, pick, List.cons_append, List.nil_append, List.getElem?_cons_succ, List.getElem?_cons_zero, List.getElem?_nil] at o2
  clear oq hm
  refine StillVC.run (StillVC.nilCheck rfl ?_)
  refine StillVC.run (StillVC.fieldAddr st49 rfl rfl rfl ?_)
  (refine RunVC.store o2 2 rfl ty9 rfl (by simp) (And.intro ⟨rfl, rfl⟩ ?_); intro m32 o32)
  refine StillVC.run (StillVC.loadO o32 3 rfl ty66 rfl rfl ?_)
  (refine RunVC.lit o32 sl42 ty9 rfl rfl (by decide) (And.intro rfl ?_); intro b34 m34 o34)
  refine pneed_call (ss := [[97, 115]]) (by assumption) rfl (by first | exact ⟨2, by decide, rfl⟩ | exact ⟨3, by decide, rfl⟩ | exact ⟨4, by decide, rfl⟩ | exact ⟨5, by decide, rfl⟩ | exact ⟨6, by decide, rfl⟩ | exact ⟨7, by decide, rfl⟩ | exact ⟨8, by decide, rfl⟩ | exact ⟨9, by decide, rfl⟩) hR2 (by omega) (by decide) (fun _ q3 w3 v h3 hm hv hle3 hR3 oq => ?_) (fun e w' h' hm o2 => ⟨e, w', hE.trans (PM.bind_err hm), rfl, o2⟩)
  subst hv
  rw [PM.bind_ok hm] at hE
  have o3 := oq
  simp only [PSt, pick, List.cons_append, List.nil_append, List.getElem?_cons_succ, List.getElem?_cons_zero, List.getElem?_nil] at o3
  clear oq hm
  refine StillVC.run (StillVC.loadO o3 3 rfl ty66 rfl rfl ?_)
  refine pname_spec.callL (by assumption) rfl hR3 (by omega) (fun as_ q4 w4 v h4 hm hv hle4 hR4 oq => ?_) (fun e w' h' hm o2 => ⟨e, w', hE.trans (PM.bind_err hm), rfl, o2⟩)
  subst hv
  rw [PM.bind_ok hm] at hE
  have o4 := oq
  simp only [PSt, pick, List.cons_append, List.nil_append, List.getElem?_cons_succ, List.getElem?_cons_zero, List.getElem?_nil] at o4
  clear oq hm
  refine StillVC.run (StillVC.nilCheck rfl ?_)
  refine StillVC.run (StillVC.fieldAddr st49 rfl rfl rfl ?_)
  (refine RunVC.store o4 2 rfl ty9 rfl (by simp) (And.intro ⟨rfl, rfl⟩ ?_); intro m52 o52)
  refine RetVC.zero rfl ?_
  exact ⟨_, q4, w4, _, emptyI, hE, rfl, ⟨_, _, [], [], at_, as_, 0, rfl, rfl, nil_reads, nil_reads⟩, by omega, hR4, (Own.sel (by assumption) [0, 1, 2, 3] rfl).empty4⟩

set_option maxHeartbeats 8000000 in
set_option maxRecDepth 100000 in
theorem rest6_spec (off : Nat) (vk : Value) (kids : List Ex) (B : Base) (bp z : Nat) (tk : Item) (bx pb : Nat) (w : Value) (ts : List Tok) (h : Heap) (o : Own B [box bp [w, .int .i64 z] 68, tk, box bx (exC 8 [] vk nilV nilV [] [] 0 off) 49, box pb [.pointer (some ⟨bp, 0, none⟩)] 66] h) (hR : TokR tk w ts) (hl : ts.length ≤ 5000) :
    Spec Tryz.prog 120 [.pointer (some ⟨bx, 0, none⟩), .pointer (some ⟨pb, 0, none⟩)] h (RestEnd B bp z tk bx pb ts.length (opRest z 6 off kids ts) 8 vk kids off) := by
  have hE : opRest z 6 off kids ts = (needP z [[111, 110]] >>= fun _ => namesU z [119, 105, 116, 104] >>= fun l => needP z [[119, 105, 116, 104]] >>= fun _ => wordP z [[99, 111, 117, 110, 116], [115, 117, 109], [108, 101, 97, 115, 116], [103, 114, 101, 97, 116, 101, 115, 116]] 1 >>= fun g => ifP (g != 1) (nameP z) [] >>= fun a => needP z [[97, 115]] >>= fun _ => nameP z >>= fun b => (pure (Ex.mk 8 [] kids [] l a b g off) : PM Ex)) ts := rfl
  unfold exC at o
  refine Spec.enter Tryz.func120 rfl Tryz.ntmps120 (by kernel_rfl) ?_
  refine StillVC.run (StillVC.loadO o 3 rfl ty66 rfl rfl ?_)
  (refine RunVC.lit o sl42 ty9 rfl rfl (by decide) (And.intro rfl ?_); intro b11 m11 o11)
  refine pneed_call (ss := [[111, 110]]) (by assumption) rfl (by first | exact ⟨2, by decide, rfl⟩ | exact ⟨3, by decide, rfl⟩ | exact ⟨4, by decide, rfl⟩ | exact ⟨5, by decide, rfl⟩ | exact ⟨6, by decide, rfl⟩ | exact ⟨7, by decide, rfl⟩ | exact ⟨8, by decide, rfl⟩ | exact ⟨9, by decide, rfl⟩) hR (by omega) (by decide) (fun _ q1 w1 v h1 hm hv hle1 hR1 oq => ?_) (fun e w' h' hm o2 => ⟨e, w', hE.trans (PM.bind_err hm), rfl, o2⟩)
  subst hv
  rw [PM.bind_ok hm] at hE
  have o1 := oq
  simp only [PSt, pick, List.cons_append, List.nil_append, List.getElem?_cons_succ, List.getElem?_cons_zero, List.getElem?_nil] at o1
  clear oq hm
  refine StillVC.run (StillVC.loadO o1 3 rfl ty66 rfl rfl ?_)
  (refine RunVC.lit o1 sl42 ty9 rfl rfl (by decide) (And.intro rfl ?_); intro b21 m21 o21)
  refine CallVC.ret (peek_spec [[119, 105, 116, 104]] _ bp w1 q1 _ (Own.cellB (by assumption) 0 rfl 0) (Own.reads (by assumption) 1 hR1.1 rfl) (Own.boxArr (by assumption) 5 rfl rfl (by decide)) (by omega)) ?_
  rintro _ hp ⟨rfl, oc⟩
  have op := oc.thenE (by assumption)
  clear oc
  cases hb : seesB [[119, 105, 116, 104]] q1 with
  | true =>
    rw [PM.bind_ok (namesU_yes hb)] at hE
    refine Br.ff ?_
    refine StillVC.run (StillVC.loadO op 3 rfl ty66 rfl rfl ?_)
    (refine RunVC.lit op sl42 ty9 rfl rfl (by decide) (And.intro rfl ?_); intro b31 m31 o31)
    refine pneed_call (ss := [[119, 105, 116, 104]]) (by assumption) rfl (by first | exact ⟨2, by decide, rfl⟩ | exact ⟨3, by decide, rfl⟩ | exact ⟨4, by decide, rfl⟩ | exact ⟨5, by decide, rfl⟩ | exact ⟨6, by decide, rfl⟩ | exact ⟨7, by decide, rfl⟩ | exact ⟨8, by decide, rfl⟩ | exact ⟨9, by decide, rfl⟩) hR1 (by omega) (by decide) (fun _ q2 w2 v h2 hm hv hle2 hR2 oq => ?_) (fun e w' h' hm o2 => ⟨e, w', hE.trans (PM.bind_err hm), rfl, o2⟩)
    subst hv
    rw [PM.bind_ok hm] at hE
    have o2 := oq
    simp only [PSt, pick, List.cons_append, List.nil_append, List.getElem?_cons_succ, List.getElem?_cons_zero, List.getElem?_nil] at o2
    clear oq hm
    refine StillVC.run (StillVC.loadO o2 3 rfl ty66 rfl rfl ?_)
    (refine RunVC.lit o2 sl42 ty9 rfl rfl (by decide) (And.intro rfl ?_); intro b41 m41 o41)
    refine pword_call (ss := [[99, 111, 117, 110, 116], [115, 117, 109], [108, 101, 97, 115, 116], [103, 114, 101, 97, 116, 101, 115, 116]]) (by assumption) rfl (by first | exact ⟨2, by decide, rfl⟩ | exact ⟨3, by decide, rfl⟩ | exact ⟨4, by decide, rfl⟩ | exact ⟨5, by decide, rfl⟩ | exact ⟨6, by decide, rfl⟩ | exact ⟨7, by decide, rfl⟩ | exact ⟨8, by decide, rfl⟩ | exact ⟨9, by decide, rfl⟩) hR2 (by omega) (by decide) (fun g q3 w3 v h3 hm hv hle3 hR3 oq => ?_) (fun e w' h' hm o2 => ⟨e, w', hE.trans (PM.bind_err hm), rfl, o2⟩)
    subst hv
    rw [PM.bind_ok hm] at hE
    have o3 := oq
    simp only [PSt, pick, List.cons_append, List.nil_append, List.getElem?_cons_succ, List.getElem?_cons_zero, List.getElem?_nil] at o3
    clear oq hm
    by_cases hg : g = 1
    · rw [ifP_no (by simp [hg]), PM.pure_bind'] at hE
      refine StillVC.run (StillVC.nilCheck rfl ?_)
      refine StillVC.run (StillVC.fieldAddr st49 rfl rfl rfl ?_)
      (refine RunVC.store o3 2 rfl ty3 rfl (by simp) (And.intro ⟨rfl, rfl⟩ ?_); intro m52 o52)
      refine StillVC.run (StillVC.nilCheck rfl ?_)
      refine StillVC.run (StillVC.fieldAddr st49 rfl rfl rfl ?_)
      refine StillVC.run (StillVC.loadO o52 2 rfl ty3 rfl rfl ?_)
      refine Br.ndec (fun hc => absurd (by first | omega | assumption | decide | exact rfl) hc) (fun c56 => ?_)
      refine StillVC.run (StillVC.loadO o52 3 rfl ty66 rfl rfl ?_)
      (refine RunVC.lit o52 sl42 ty9 rfl rfl (by decide) (And.intro rfl ?_); intro b58 m58 o58)
      refine pneed_call (ss := [[97, 115]]) (by assumption) rfl (by first | exact ⟨2, by decide, rfl⟩ | exact ⟨3, by decide, rfl⟩ | exact ⟨4, by decide, rfl⟩ | exact ⟨5, by decide, rfl⟩ | exact ⟨6, by decide, rfl⟩ | exact ⟨7, by decide, rfl⟩ | exact ⟨8, by decide, rfl⟩ | exact ⟨9, by decide, rfl⟩) hR3 (by omega) (by decide) (fun _ q4 w4 v h4 hm hv hle4 hR4 oq => ?_) (fun e w' h' hm o2 => ⟨e, w', hE.trans (PM.bind_err hm), rfl, o2⟩)
      subst hv
      rw [PM.bind_ok hm] at hE
      have o4 := oq
      simp only [PSt, pick, List.cons_append, List.nil_append, List.getElem?_cons_succ, List.getElem?_cons_zero, List.getElem?_nil] at o4
      clear oq hm
      refine StillVC.run (StillVC.loadO o4 3 rfl ty66 rfl rfl ?_)
      refine pname_spec.callL (by assumption) rfl hR4 (by omega) (fun as_ q5 w5 v h5 hm hv hle5 hR5 oq => ?_) (fun e w' h' hm o2 => ⟨e, w', hE.trans (PM.bind_err hm), rfl, o2⟩)
      subst hv
      rw [PM.bind_ok hm] at hE
      have o5 := oq
      simp only [PSt, pick, List.cons_append, List.nil_append, List.getElem?_cons_succ, List.getElem?_cons_zero, List.getElem?_nil] at o5
      clear oq hm
      refine StillVC.run (StillVC.nilCheck rfl ?_)
      refine StillVC.run (StillVC.fieldAddr st49 rfl rfl rfl ?_)
      (refine RunVC.store o5 2 rfl ty9 rfl (by simp) (And.intro ⟨rfl, rfl⟩ ?_); intro m72 o72)
      refine RetVC.zero rfl ?_
      exact ⟨_, q5, w5, _, emptyI, hE, rfl, ⟨_, _, [], [], [], as_, g, rfl, rfl, nil_reads, nil_reads⟩, by omega, hR5, (Own.sel (by assumption) [0, 1, 2, 3] rfl).empty4⟩
    · rw [ifP_yes (by simp [hg])] at hE
      refine StillVC.run (StillVC.nilCheck rfl ?_)
      refine StillVC.run (StillVC.fieldAddr st49 rfl rfl rfl ?_)
      (refine RunVC.store o3 2 rfl ty3 rfl (by simp) (And.intro ⟨rfl, rfl⟩ ?_); intro m82 o82)
      refine StillVC.run (StillVC.nilCheck rfl ?_)
      refine StillVC.run (StillVC.fieldAddr st49 rfl rfl rfl ?_)
      refine StillVC.run (StillVC.loadO o82 2 rfl ty3 rfl rfl ?_)
      refine Br.ndec (fun c86 => ?_) (fun hc => absurd hc (by first | omega | assumption | decide | exact rfl))
      refine StillVC.run (StillVC.loadO o82 3 rfl ty66 rfl rfl ?_)
      refine pname_spec.callL (by assumption) rfl hR3 (by omega) (fun at_ q6 w6 v h6 hm hv hle6 hR6 oq => ?_) (fun e w' h' hm o2 => ⟨e, w', hE.trans (PM.bind_err hm), rfl, o2⟩)
      subst hv
      rw [PM.bind_ok hm] at hE
      have o6 := oq
      simp only [PSt, pick, List.cons_append, List.nil_append, List.getElem?_cons_succ, List.getElem?_cons_zero, List.getElem?_nil] at o6
      clear oq hm
      refine StillVC.run (StillVC.nilCheck rfl ?_)
      refine StillVC.run (StillVC.fieldAddr st49 rfl rfl rfl ?_)
      (refine RunVC.store o6 2 rfl ty9 rfl (by simp) (And.intro ⟨rfl, rfl⟩ ?_); intro m92 o92)
      refine StillVC.run (StillVC.loadO o92 3 rfl ty66 rfl rfl ?_)
      (refine RunVC.lit o92 sl42 ty9 rfl rfl (by decide) (And.intro rfl ?_); intro b94 m94 o94)
      refine pneed_call (ss := [[97, 115]]) (by assumption) rfl (by first | exact ⟨2, by decide, rfl⟩ | exact ⟨3, by decide, rfl⟩ | exact ⟨4, by decide, rfl⟩ | exact ⟨5, by decide, rfl⟩ | exact ⟨6, by decide, rfl⟩ | exact ⟨7, by decide, rfl⟩ | exact ⟨8, by decide, rfl⟩ | exact ⟨9, by decide, rfl⟩) hR6 (by omega) (by decide) (fun _ q7 w7 v h7 hm hv hle7 hR7 oq => ?_) (fun e w' h' hm o2 => ⟨e, w', hE.trans (PM.bind_err hm), rfl, o2⟩)
      subst hv
      rw [PM.bind_ok hm] at hE
      have o7 := oq
      simp only [PSt, pick, List.cons_append, List.nil_append, List.getElem?_cons_succ, List.getElem?_cons_zero, List.getElem?_nil] at o7
      clear oq hm
      refine StillVC.run (StillVC.loadO o7 3 rfl ty66 rfl rfl ?_)
      refine pname_spec.callL (by assumption) rfl hR7 (by omega) (fun as_ q8 w8 v h8 hm hv hle8 hR8 oq => ?_) (fun e w' h' hm o2 => ⟨e, w', hE.trans (PM.bind_err hm), rfl, o2⟩)
      subst hv
      rw [PM.bind_ok hm] at hE
      have o8 := oq
      simp only [PSt, pick, List.cons_append, List.nil_append, List.getElem?_cons_succ, List.getElem?_cons_zero, List.getElem?_nil] at o8
      clear oq hm
      refine StillVC.run (StillVC.nilCheck rfl ?_)
      refine StillVC.run (StillVC.fieldAddr st49 rfl rfl rfl ?_)
      (refine RunVC.store o8 2 rfl ty9 rfl (by simp) (And.intro ⟨rfl, rfl⟩ ?_); intro m112 o112)
      refine RetVC.zero rfl ?_
      exact ⟨_, q8, w8, _, emptyI, hE, rfl, ⟨_, _, [], [], at_, as_, g, rfl, rfl, nil_reads, nil_reads⟩, by omega, hR8, (Own.sel (by assumption) [0, 1, 2, 3] rfl).empty4⟩
  | false =>
    refine Br.tt ?_
    refine StillVC.run (StillVC.loadO op 3 rfl ty66 rfl rfl ?_)
    refine PEndI.callL (fun B' o' => names_spec B' bp z tk _ _ _ o' hR1 (by omega)) (by assumption) rfl (fun l9 q9 w9 v9 I h9 hm hv hle9 hR9 oq => ?_) (fun e w' h' hm o2 => ⟨e, w', hE.trans (PM.bind_err ((namesU_no hb).trans hm)), rfl, o2⟩)
    obtain ⟨hn9, rfl⟩ := hv
    rw [PM.bind_ok ((namesU_no hb).trans hm)] at hE
    have o9 := oq
    simp only [PSt, pick, List.cons_append, List.nil_append, List.getElem?_cons_succ, List.getElem?_cons_zero, List.getElem?_nil] at o9
    clear oq hm
    obtain ⟨va9, vb9, rfl⟩ := o9.rowIs 2 rfl
    refine StillVC.run (StillVC.nilCheck rfl ?_)
    refine StillVC.run (StillVC.fieldAddr st49 rfl rfl rfl ?_)
    (refine RunVC.store o9 3 rfl ty42 rfl (by simp) (And.intro ⟨rfl, rfl⟩ ?_); intro m132 o132)
    refine StillVC.run (StillVC.loadO o132 4 rfl ty66 rfl rfl ?_)
    (refine RunVC.lit o132 sl42 ty9 rfl rfl (by decide) (And.intro rfl ?_); intro b134 m134 o134)
    refine pneed_call (ss := [[119, 105, 116, 104]]) (by assumption) rfl (by first | exact ⟨2, by decide, rfl⟩ | exact ⟨3, by decide, rfl⟩ | exact ⟨4, by decide, rfl⟩ | exact ⟨5, by decide, rfl⟩ | exact ⟨6, by decide, rfl⟩ | exact ⟨7, by decide, rfl⟩ | exact ⟨8, by decide, rfl⟩ | exact ⟨9, by decide, rfl⟩) hR9 (by omega) (by decide) (fun _ q10 w10 v h10 hm hv hle10 hR10 oq => ?_) (fun e w' h' hm o2 => ⟨e, w', hE.trans (PM.bind_err hm), rfl, o2⟩)
    subst hv
    rw [PM.bind_ok hm] at hE
    have o10 := oq
    simp only [PSt, pick, List.cons_append, List.nil_append, List.getElem?_cons_succ, List.getElem?_cons_zero, List.getElem?_nil] at o10
    clear oq hm
    refine StillVC.run (StillVC.loadO o10 4 rfl ty66 rfl rfl ?_)
    (refine RunVC.lit o10 sl42 ty9 rfl rfl (by decide) (And.intro rfl ?_); intro b141 m141 o141)
    refine pword_call (ss := [[99, 111, 117, 110, 116], [115, 117, 109], [108, 101, 97, 115, 116], [103, 114, 101, 97, 116, 101, 115, 116]]) (by assumption) rfl (by first | exact ⟨2, by decide, rfl⟩ | exact ⟨3, by decide, rfl⟩ | exact ⟨4, by decide, rfl⟩ | exact ⟨5, by decide, rfl⟩ | exact ⟨6, by decide, rfl⟩ | exact ⟨7, by decide, rfl⟩ | exact ⟨8, by decide, rfl⟩ | exact ⟨9, by decide, rfl⟩) hR10 (by omega) (by decide) (fun g q11 w11 v h11 hm hv hle11 hR11 oq => ?_) (fun e w' h' hm o2 => ⟨e, w', hE.trans (PM.bind_err hm), rfl, o2⟩)
    subst hv
    rw [PM.bind_ok hm] at hE
    have o11 := oq
    simp only [PSt, pick, List.cons_append, List.nil_append, List.getElem?_cons_succ, List.getElem?_cons_zero, List.getElem?_nil] at o11
    clear oq hm
    by_cases hg : g = 1
    · rw [ifP_no (by simp [hg]), PM.pure_bind'] at hE
      refine StillVC.run (StillVC.nilCheck rfl ?_)
      refine StillVC.run (StillVC.fieldAddr st49 rfl rfl rfl ?_)
      (refine RunVC.store o11 3 rfl ty3 rfl (by simp) (And.intro ⟨rfl, rfl⟩ ?_); intro m152 o152)
      refine StillVC.run (StillVC.nilCheck rfl ?_)
      refine StillVC.run (StillVC.fieldAddr st49 rfl rfl rfl ?_)
      refine StillVC.run (StillVC.loadO o152 3 rfl ty3 rfl rfl ?_)
      refine Br.ndec (fun hc => absurd (by first | omega | assumption | decide | exact rfl) hc) (fun c156 => ?_)
      refine StillVC.run (StillVC.loadO o152 4 rfl ty66 rfl rfl ?_)
      (refine RunVC.lit o152 sl42 ty9 rfl rfl (by decide) (And.intro rfl ?_); intro b158 m158 o158)
      refine pneed_call (ss := [[97, 115]]) (by assumption) rfl (by first | exact ⟨2, by decide, rfl⟩ | exact ⟨3, by decide, rfl⟩ | exact ⟨4, by decide, rfl⟩ | exact ⟨5, by decide, rfl⟩ | exact ⟨6, by decide, rfl⟩ | exact ⟨7, by decide, rfl⟩ | exact ⟨8, by decide, rfl⟩ | exact ⟨9, by decide, rfl⟩) hR11 (by omega) (by decide) (fun _ q12 w12 v h12 hm hv hle12 hR12 oq => ?_) (fun e w' h' hm o2 => ⟨e, w', hE.trans (PM.bind_err hm), rfl, o2⟩)
      subst hv
      rw [PM.bind_ok hm] at hE
      have o12 := oq
      simp only [PSt, pick, List.cons_append, List.nil_append, List.getElem?_cons_succ, List.getElem?_cons_zero, List.getElem?_nil] at o12
      clear oq hm
      refine StillVC.run (StillVC.loadO o12 4 rfl ty66 rfl rfl ?_)
      refine pname_spec.callL (by assumption) rfl hR12 (by omega) (fun as_ q13 w13 v h13 hm hv hle13 hR13 oq => ?_) (fun e w' h' hm o2 => ⟨e, w', hE.trans (PM.bind_err hm), rfl, o2⟩)
      subst hv
      rw [PM.bind_ok hm] at hE
      have o13 := oq
      simp only [PSt, pick, List.cons_append, List.nil_append, List.getElem?_cons_succ, List.getElem?_cons_zero, List.getElem?_nil] at o13
      clear oq hm
      refine StillVC.run (StillVC.nilCheck rfl ?_)
      refine StillVC.run (StillVC.fieldAddr st49 rfl rfl rfl ?_)
      (refine RunVC.store o13 3 rfl ty9 rfl (by simp) (And.intro ⟨rfl, rfl⟩ ?_); intro m172 o172)
      refine RetVC.zero rfl ?_
      exact ⟨_, q13, w13, _, _, hE, rfl, ⟨_, _, [], l9, [], as_, g, rfl, rfl, nil_reads, row_reads⟩, by omega, hR13, Own.sel (by assumption) [0, 1, 3, 4, 2] rfl⟩
    · rw [ifP_yes (by simp [hg])] at hE
      refine StillVC.run (StillVC.nilCheck rfl ?_)
      refine StillVC.run (StillVC.fieldAddr st49 rfl rfl rfl ?_)
      (refine RunVC.store o11 3 rfl ty3 rfl (by simp) (And.intro ⟨rfl, rfl⟩ ?_); intro m182 o182)
      refine StillVC.run (StillVC.nilCheck rfl ?_)
      refine StillVC.run (StillVC.fieldAddr st49 rfl rfl rfl ?_)
      refine StillVC.run (StillVC.loadO o182 3 rfl ty3 rfl rfl ?_)
      refine Br.ndec (fun c186 => ?_) (fun hc => absurd hc (by first | omega | assumption | decide | exact rfl))
      refine StillVC.run (StillVC.loadO o182 4 rfl ty66 rfl rfl ?_)
      refine pname_spec.callL (by assumption) rfl hR11 (by omega) (fun at_ q14 w14 v h14 hm hv hle14 hR14 oq => ?_) (fun e w' h' hm o2 => ⟨e, w', hE.trans (PM.bind_err hm), rfl, o2⟩)
      subst hv
      rw [PM.bind_ok hm] at hE
      have o14 := oq
      simp only [PSt, pick, List.cons_append, List.nil_append, List.getElem?_cons_succ, List.getElem?_cons_zero, List.getElem?_nil] at o14
      clear oq hm
      refine StillVC.run (StillVC.nilCheck rfl ?_)
      refine StillVC.run (StillVC.fieldAddr st49 rfl rfl rfl ?_)
      (refine RunVC.store o14 3 rfl ty9 rfl (by simp) (And.intro ⟨rfl, rfl⟩ ?_); intro m192 o192)
      refine StillVC.run (StillVC.loadO o192 4 rfl ty66 rfl rfl ?_)
      (refine RunVC.lit o192 sl42 ty9 rfl rfl (by decide) (And.intro rfl ?_); intro b194 m194 o194)
      refine pneed_call (ss := [[97, 115]]) (by assumption) rfl (by first | exact ⟨2, by decide, rfl⟩ | exact ⟨3, by decide, rfl⟩ | exact ⟨4, by decide, rfl⟩ | exact ⟨5, by decide, rfl⟩ | exact ⟨6, by decide, rfl⟩ | exact ⟨7, by decide, rfl⟩ | exact ⟨8, by decide, rfl⟩ | exact ⟨9, by decide, rfl⟩) hR14 (by omega) (by decide) (fun _ q15 w15 v h15 hm hv hle15 hR15 oq => ?_) (fun e w' h' hm o2 => ⟨e, w', hE.trans (PM.bind_err hm), rfl, o2⟩)
      subst hv
      rw [PM.bind_ok hm] at hE
      have o15 := oq
      simp only [PSt, pick, List.cons_append, List.nil_append, List.getElem?_cons_succ, List.getElem?_cons_zero, List.getElem?_nil] at o15
      clear oq hm
      refine StillVC.run (StillVC.loadO o15 4 rfl ty66 rfl rfl ?_)
      refine pname_spec.callL (by assumption) rfl hR15 (by omega) (fun as_ q16 w16 v h16 hm hv hle16 hR16 oq => ?_) (fun e w' h' hm o2 => ⟨e, w', hE.trans (PM.bind_err hm), rfl, o2⟩)
      subst hv
      rw [PM.bind_ok hm] at hE
      have o16 := oq
      simp only [PSt, pick, List.cons_append, List.nil_append, List.getElem?_cons_succ, List.getElem?_cons_zero, List.getElem?_nil] at o16
      clear oq hm
      refine StillVC.run (StillVC.nilCheck rfl ?_)
      refine StillVC.run (StillVC.fieldAddr st49 rfl rfl rfl ?_)
      (refine RunVC.store o16 3 rfl ty9 rfl (by simp) (And.intro ⟨rfl, rfl⟩ ?_); intro m212 o212)
      refine RetVC.zero rfl ?_
      exact ⟨_, q16, w16, _, _, hE, rfl, ⟨_, _, [], l9, at_, as_, g, rfl, rfl, nil_reads, row_reads⟩, by omega, hR16, Own.sel (by assumption) [0, 1, 3, 4, 2] rfl⟩

end Go.Proofs.YtnmfanjhepepbaaGreatDoor
