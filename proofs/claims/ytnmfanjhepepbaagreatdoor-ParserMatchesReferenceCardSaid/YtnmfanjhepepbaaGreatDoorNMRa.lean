/-
 The reference's reader of tokens: its functions that read one token. The reference's reader: names, values, operands. The reference's reader: names.
-/
import Derived.Test.YtnmfanjhepepbaaGreatDoorNStructs
import Derived.Test.YtnmfanjhepepbaaGreatDoorNMRm
import Derived.Test.YtnmfanjhepepbaaGreatDoorNMPb
set_option linter.all false
/- The reference's reader of tokens: its functions that read one token. -/
namespace Go.Proofs.YtnmfanjhepepbaaGreatDoor
open Go StillVC

/-- The reader's state, and the tokens that it reads. -/
abbrev RSt (bp z : Nat) (w : Value) (tk : Item) (s : RS) : List Item := [box bp [w, .int .i64 s.i, .int .i64 s.e, .int .i64 s.a, .int .i64 z] 73, tk]

/-- What a function of the reader does, by the plain reading. -/
def RSpec {α : Type} (g : FuncId) (args : Nat → List Value) (m : List Tok → Nat → RM α) (V : α → Value → Prop) : Prop :=
 ∀ (B : Base) (bp z : Nat) (tk : Item) (w : Value) (L : List Tok) (s : RS) (h : Heap), Own B (RSt bp z w tk s) h → TokR tk w L → L.length ≤ 5000 → s.i ≤ L.length → SpecR Tryz.prog g (args bp) h fun v h' => ∃ a s', m L z s = (a, s') ∧ V a v ∧ s.i ≤ s'.i ∧ s'.i ≤ L.length ∧ Own B (RSt bp z w tk s') h'

theorem RSpec.callL {α : Type} {g : FuncId} {args : Nat → List Value} {m : List Tok → Nat → RM α} {V : α → Value → Prop} (sp : RSpec g args m V) {sl : List Value} {h : Heap} {K : KK} {Q : QQ} {B : Base} {Lo : List Item} {bp z : Nat} {tk : Item} {w : Value} {L : List Tok} {s : RS}
  (o : Own B Lo h) (e : pick Lo [0, 1] = RSt bp z w tk s) (hR : TokR tk w L) (hl : L.length ≤ 5000) (hi : s.i ≤ L.length)
  (hret : ∀ a s' v h', m L z s = (a, s') → V a v → s.i ≤ s'.i → s'.i ≤ L.length → Own B (RSt bp z w tk s' ++ rest8 Lo) h' → K v false h') : CallVC Tryz.prog g (args bp) sl h K Q := by
 have ol := o.lend [0, 1] [2, 3, 4, 5, 6, 7, 8, 9] rfl
 rw [e] at ol
 refine CallVC.ret (sp _ bp z tk w L s h ol hR hl hi) ?_
 rintro v h' ⟨a, s', h1, h2, h3, h4, h5⟩
 exact hret a s' v h' h1 h2 h3 h4 h5.back

set_option maxHeartbeats 4000000 in
set_option maxRecDepth 100000 in
theorem rfail_spec (e : Int) : RSpec 18 (fun bp => [.pointer (some ⟨bp, 0, none⟩), .int .i64 e]) (fun L z => failR L z e) (fun _ v => v = .tuple ⟨[]⟩) := by
 intro B bp z tk w L s h o hR hl hi
 unfold RSt at o
 obtain ⟨hR, hK⟩ := hR
 refine Spec.enter Tryz.func18 rfl Tryz.ntmps18 (by kernel_rfl) ?_
 by_cases he : s.e = 0
 ·by_cases hlt : s.i < L.length
  ·obtain ⟨t, hx⟩ := getx hlt
   have hE : failS L z e s = ⟨s.i, e, t.off⟩ := by unfold failS; rw [if_neg (by omega)]; simp only [hx]
   refine run (nilCheck rfl ?_)
   refine run (fieldAddr st73 rfl rfl rfl ?_)
   refine run (loadO o 0 rfl ty26 rfl rfl ?_)
   refine Br.ndec (fun hc => absurd (by first | omega | assumption | decide | exact rfl) hc) (fun c13 => ?_)
   refine run (nilCheck rfl ?_)
   refine run (fieldAddr st73 rfl rfl rfl ?_)
   (refine RunVC.store o 0 rfl ty26 rfl (by simp) (And.intro ⟨rfl, rfl⟩ ?_); intro m16 o16)
   refine run (nilCheck rfl ?_)
   refine run (fieldAddr st73 rfl rfl rfl ?_)
   refine run (loadO o16 0 rfl ty3 rfl rfl ?_)
   refine run (nilCheck rfl ?_)
   refine run (fieldAddr st73 rfl rfl rfl ?_)
   (refine RunVC.store o16 0 rfl ty3 rfl (by simp) (And.intro ⟨rfl, rfl⟩ ?_); intro m22 o22)
   refine DrawVC.intro [0, 1, 2, 4, 5, 6, 8, 9] [3, 7] [] [0, 1, 2, 3, 4, 5, 6, 7, 8, 9] mixed (by kernel_rfl) rfl (fun _ _ _ _ h => h) ?_
   refine nilCheck rfl ?_
   refine fieldAddr st73 rfl rfl rfl ?_
   refine loadO o22 0 rfl ty3 rfl rfl ?_
   refine nilCheck rfl ?_
   refine fieldAddr st73 rfl rfl rfl ?_
   refine loadO o22 0 rfl ty31 rfl rfl ?_
   refine lenN (o22.reads 1 hR rfl) sl31 ?_
   refine Br.dec (fun c30 => ?_) (fun hc => absurd (by omega) hc)
   refine DrawVC.intro [0, 1, 2, 3, 5, 6, 7, 9, 10, 12, 13] [4, 8, 11] [14] [0, 1, 2, 3, 4, 5, 6, 7, 8, 9, 10, 11, 12, 13, 14] mixed (by kernel_rfl) rfl (fun _ _ _ _ h => h) ?_
   refine nilCheck rfl ?_
   refine fieldAddr st73 rfl rfl rfl ?_
   refine loadO o22 0 rfl ty31 rfl rfl ?_
   refine nilCheck rfl ?_
   refine fieldAddr st73 rfl rfl rfl ?_
   refine loadO o22 0 rfl ty3 rfl rfl ?_
   refine idxN sl31 ty38 (o22.reads 1 hR rfl) rfl (by omega) (by omega) ?_
   refine fieldAdr (o22.reads 1 hR rfl) (by omega) st38 rfl rfl rfl ?_
   refine loadFF (o22.reads 1 hR rfl) ty3 (fun _ => rfl) rfl ‹_› rfl ?_
   refine nilCheck rfl ?_
   refine fieldAddr st73 rfl rfl rfl ?_
   (refine RunVC.store o22 0 rfl ty3 rfl (by simp) (And.intro ⟨rfl, rfl⟩ ?_); intro m42 o42)
   refine RetVC.zero rfl ?_
   exact ⟨(), _, congrArg (Prod.mk ()) hE, rfl, Nat.le_refl _, hi, Own.sel ‹_› [0, 1] rfl⟩
  ·have hx : L[s.i]? = none := by simp; omega
   by_cases h4 : e = 4
   ·have hE : failS L z e s = ⟨s.i, 7, z⟩ := by unfold failS; rw [if_neg (by omega)]; simp only [hx]; rw [if_pos h4]
    refine run (nilCheck rfl ?_)
    refine run (fieldAddr st73 rfl rfl rfl ?_)
    refine run (loadO o 0 rfl ty26 rfl rfl ?_)
    refine Br.ndec (fun hc => absurd (by first | omega | assumption | decide | exact rfl) hc) (fun c23 => ?_)
    refine run (nilCheck rfl ?_)
    refine run (fieldAddr st73 rfl rfl rfl ?_)
    (refine RunVC.store o 0 rfl ty26 rfl (by simp) (And.intro ⟨rfl, rfl⟩ ?_); intro m26 o26)
    refine run (nilCheck rfl ?_)
    refine run (fieldAddr st73 rfl rfl rfl ?_)
    refine run (loadO o26 0 rfl ty3 rfl rfl ?_)
    refine run (nilCheck rfl ?_)
    refine run (fieldAddr st73 rfl rfl rfl ?_)
    (refine RunVC.store o26 0 rfl ty3 rfl (by simp) (And.intro ⟨rfl, rfl⟩ ?_); intro m32 o32)
    refine DrawVC.intro [0, 1, 2, 4, 5, 6, 8, 9] [3, 7] [] [0, 1, 2, 3, 4, 5, 6, 7, 8, 9] mixed (by kernel_rfl) rfl (fun _ _ _ _ h => h) ?_
    refine nilCheck rfl ?_
    refine fieldAddr st73 rfl rfl rfl ?_
    refine loadO o32 0 rfl ty3 rfl rfl ?_
    refine nilCheck rfl ?_
    refine fieldAddr st73 rfl rfl rfl ?_
    refine loadO o32 0 rfl ty31 rfl rfl ?_
    refine lenN (o32.reads 1 hR rfl) sl31 ?_
    refine Br.dec (fun hc => absurd hc (by omega)) (fun c40 => ?_)
    refine Br.dec (fun c41 => ?_) (fun hc => absurd (by omega) hc)
    refine run (nilCheck rfl ?_)
    refine run (fieldAddr st73 rfl rfl rfl ?_)
    (refine RunVC.store o32 0 rfl ty26 rfl (by simp) (And.intro ⟨rfl, rfl⟩ ?_); intro m44 o44)
    refine RetVC.zero rfl ?_
    exact ⟨(), _, congrArg (Prod.mk ()) hE, rfl, Nat.le_refl _, hi, Own.sel ‹_› [0, 1] rfl⟩
   ·have hE : failS L z e s = ⟨s.i, e, z⟩ := by unfold failS; rw [if_neg (by omega)]; simp only [hx]; rw [if_neg h4]
    refine run (nilCheck rfl ?_)
    refine run (fieldAddr st73 rfl rfl rfl ?_)
    refine run (loadO o 0 rfl ty26 rfl rfl ?_)
    refine Br.ndec (fun hc => absurd (by first | omega | assumption | decide | exact rfl) hc) (fun c33 => ?_)
    refine run (nilCheck rfl ?_)
    refine run (fieldAddr st73 rfl rfl rfl ?_)
    (refine RunVC.store o 0 rfl ty26 rfl (by simp) (And.intro ⟨rfl, rfl⟩ ?_); intro m36 o36)
    refine run (nilCheck rfl ?_)
    refine run (fieldAddr st73 rfl rfl rfl ?_)
    refine run (loadO o36 0 rfl ty3 rfl rfl ?_)
    refine run (nilCheck rfl ?_)
    refine run (fieldAddr st73 rfl rfl rfl ?_)
    (refine RunVC.store o36 0 rfl ty3 rfl (by simp) (And.intro ⟨rfl, rfl⟩ ?_); intro m42 o42)
    refine DrawVC.intro [0, 1, 2, 4, 5, 6, 8, 9] [3, 7] [] [0, 1, 2, 3, 4, 5, 6, 7, 8, 9] mixed (by kernel_rfl) rfl (fun _ _ _ _ h => h) ?_
    refine nilCheck rfl ?_
    refine fieldAddr st73 rfl rfl rfl ?_
    refine loadO o42 0 rfl ty3 rfl rfl ?_
    refine nilCheck rfl ?_
    refine fieldAddr st73 rfl rfl rfl ?_
    refine loadO o42 0 rfl ty31 rfl rfl ?_
    refine lenN (o42.reads 1 hR rfl) sl31 ?_
    refine Br.dec (fun hc => absurd hc (by omega)) (fun c50 => ?_)
    refine Br.dec (fun hc => absurd hc (by omega)) (fun c51 => ?_)
    refine RetVC.zero rfl ?_
    exact ⟨(), _, congrArg (Prod.mk ()) hE, rfl, Nat.le_refl _, hi, Own.sel ‹_› [0, 1] rfl⟩
 ·have hE : failS L z e s = s := by unfold failS; rw [if_pos he]
  refine run (nilCheck rfl ?_)
  refine run (fieldAddr st73 rfl rfl rfl ?_)
  refine run (loadO o 0 rfl ty26 rfl rfl ?_)
  refine Br.ndec (fun c43 => ?_) (fun hc => absurd hc (by first | omega | assumption | decide | exact rfl))
  refine RetVC.zero rfl ?_
  exact ⟨(), _, congrArg (Prod.mk ()) hE, rfl, Nat.le_refl _, hi, Own.sel ‹_› [0, 1] rfl⟩

set_option maxHeartbeats 4000000 in
set_option maxRecDepth 100000 in
theorem rsees_spec (x : List UInt8) : RSpec 94 (fun bp => [.pointer (some ⟨bp, 0, none⟩), .string ⟨⟨x⟩⟩]) (fun L _ s => (seesR L x s, s)) (fun b v => v = .bool b) := by
 intro B bp z tk w L s h o hR hl hi
 unfold RSt at o
 obtain ⟨hR, hK⟩ := hR
 refine Spec.enter Tryz.func94 rfl Tryz.ntmps94 (by kernel_rfl) ?_
 by_cases he : s.e = 0
 ·by_cases hlt : s.i < L.length
  ·obtain ⟨t, hx⟩ := getx hlt
   have hE : seesR L x s = wordB t x := by unfold seesR; rw [decide_eq_true he]; simp only [hx]; rfl
   by_cases hk : t.kind = 1 ∨ t.kind = 4
   ·have hE : seesR L x s = decide (t.text = x) := by rw [hE]; unfold wordB; simp [hk]
    refine DrawVC.intro [0, 1, 2, 4, 5, 6, 7, 8, 10, 11, 12, 14, 15, 16] [3, 9, 13] [] [0, 1, 2, 3, 4, 5, 6, 7, 8, 9, 10, 11, 12, 13, 14, 15, 16] mixed (by kernel_rfl) rfl (fun _ _ _ _ h => h) ?_
    refine nilCheck rfl ?_
    refine fieldAddr st73 rfl rfl rfl ?_
    refine loadO o 0 rfl ty26 rfl rfl ?_
    refine Br.ndec (fun hc => absurd (by first | omega | assumption | decide | exact rfl) hc) (fun c13 => ?_)
    refine nilCheck rfl ?_
    refine fieldAddr st73 rfl rfl rfl ?_
    refine loadO o 0 rfl ty3 rfl rfl ?_
    refine nilCheck rfl ?_
    refine fieldAddr st73 rfl rfl rfl ?_
    refine loadO o 0 rfl ty31 rfl rfl ?_
    refine lenN (o.reads 1 hR rfl) sl31 ?_
    refine Br.dec (fun hc => absurd hc (by omega)) (fun c21 => ?_)
    refine DrawVC.intro [0, 1, 2, 4, 5, 6, 8, 9, 11] [3, 7, 10] [] [0, 1, 2, 3, 4, 5, 6, 7, 8, 9, 10, 11] mixed (by kernel_rfl) rfl (fun _ _ _ _ h => h) ?_
    refine nilCheck rfl ?_
    refine fieldAddr st73 rfl rfl rfl ?_
    refine loadO o 0 rfl ty31 rfl rfl ?_
    refine nilCheck rfl ?_
    refine fieldAddr st73 rfl rfl rfl ?_
    refine loadO o 0 rfl ty3 rfl rfl ?_
    refine idxN sl31 ty38 (o.reads 1 hR rfl) rfl (by omega) (by omega) ?_
    refine fieldAdr (o.reads 1 hR rfl) (by omega) st38 rfl rfl rfl ?_
    refine loadFF (o.reads 1 hR rfl) ty3 (fun _ => rfl) rfl ‹_› rfl ?_
    refine DrawVC.intro [0, 1, 2, 3, 4, 5, 6, 7, 8, 9, 11, 12, 13, 15, 16, 18, 19, 20, 21] [10, 14, 17] [] [0, 1, 2, 3, 4, 5, 6, 7, 8, 9, 10, 11, 12, 13, 14, 15, 16, 17, 18, 19, 20, 21] mixed (by kernel_rfl) rfl (fun _ _ _ _ h => h) ?_
    refine Br.dec (fun c31 => ?_) (fun c31 => ?_)
    refine nilCheck rfl ?_
    refine fieldAddr st73 rfl rfl rfl ?_
    refine loadO o 0 rfl ty31 rfl rfl ?_
    refine nilCheck rfl ?_
    refine fieldAddr st73 rfl rfl rfl ?_
    refine loadO o 0 rfl ty3 rfl rfl ?_
    refine idxN sl31 ty38 (o.reads 1 hR rfl) rfl (by omega) (by omega) ?_
    refine fieldAdr (o.reads 1 hR rfl) (by omega) st38 rfl rfl rfl ?_
    refine loadFF (o.reads 1 hR rfl) ty9 (fun _ => rfl) rfl ‹_› rfl ?_
    refine RetVC.one rfl ?_
    rotate_left
    refine Br.dec (fun c41 => ?_) (fun hc => absurd (by omega) hc)
    refine nilCheck rfl ?_
    refine fieldAddr st73 rfl rfl rfl ?_
    refine loadO o 0 rfl ty31 rfl rfl ?_
    refine nilCheck rfl ?_
    refine fieldAddr st73 rfl rfl rfl ?_
    refine loadO o 0 rfl ty3 rfl rfl ?_
    refine idxN sl31 ty38 (o.reads 1 hR rfl) rfl (by omega) (by omega) ?_
    refine fieldAdr (o.reads 1 hR rfl) (by omega) st38 rfl rfl rfl ?_
    refine loadFF (o.reads 1 hR rfl) ty9 (fun _ => rfl) rfl ‹_› rfl ?_
    refine RetVC.one rfl ?_
    all_goals exact ⟨_, _, rfl, by first | exact congrArg Value.bool hE.symm | simp_all, Nat.le_refl _, hi, Own.sel ‹_› [0, 1] rfl⟩
   ·have hE : seesR L x s = false := by rw [hE]; exact decide_eq_false fun h => hk h.2
    refine DrawVC.intro [0, 1, 2, 4, 5, 6, 7, 8, 10, 11, 12, 14, 15, 16] [3, 9, 13] [] [0, 1, 2, 3, 4, 5, 6, 7, 8, 9, 10, 11, 12, 13, 14, 15, 16] mixed (by kernel_rfl) rfl (fun _ _ _ _ h => h) ?_
    refine nilCheck rfl ?_
    refine fieldAddr st73 rfl rfl rfl ?_
    refine loadO o 0 rfl ty26 rfl rfl ?_
    refine Br.ndec (fun hc => absurd (by first | omega | assumption | decide | exact rfl) hc) (fun c23 => ?_)
    refine nilCheck rfl ?_
    refine fieldAddr st73 rfl rfl rfl ?_
    refine loadO o 0 rfl ty3 rfl rfl ?_
    refine nilCheck rfl ?_
    refine fieldAddr st73 rfl rfl rfl ?_
    refine loadO o 0 rfl ty31 rfl rfl ?_
    refine lenN (o.reads 1 hR rfl) sl31 ?_
    refine Br.dec (fun hc => absurd hc (by omega)) (fun c31 => ?_)
    refine DrawVC.intro [0, 1, 2, 4, 5, 6, 8, 9, 11] [3, 7, 10] [] [0, 1, 2, 3, 4, 5, 6, 7, 8, 9, 10, 11] mixed (by kernel_rfl) rfl (fun _ _ _ _ h => h) ?_
    refine nilCheck rfl ?_
    refine fieldAddr st73 rfl rfl rfl ?_
    refine loadO o 0 rfl ty31 rfl rfl ?_
    refine nilCheck rfl ?_
    refine fieldAddr st73 rfl rfl rfl ?_
    refine loadO o 0 rfl ty3 rfl rfl ?_
    refine idxN sl31 ty38 (o.reads 1 hR rfl) rfl (by omega) (by omega) ?_
    refine fieldAdr (o.reads 1 hR rfl) (by omega) st38 rfl rfl rfl ?_
    refine loadFF (o.reads 1 hR rfl) ty3 (fun _ => rfl) rfl ‹_› rfl ?_
    refine DrawVC.intro [0, 1, 2, 3, 4, 5, 6, 7, 8, 9, 11, 12, 13, 15, 16, 18, 19, 20, 21] [10, 14, 17] [] [0, 1, 2, 3, 4, 5, 6, 7, 8, 9, 10, 11, 12, 13, 14, 15, 16, 17, 18, 19, 20, 21] mixed (by kernel_rfl) rfl (fun _ _ _ _ h => h) ?_
    refine Br.dec (fun hc => absurd hc (by omega)) (fun c41 => ?_)
    refine Br.dec (fun hc => absurd hc (by omega)) (fun c42 => ?_)
    refine RetVC.one rfl ?_
    all_goals exact ⟨_, _, rfl, congrArg Value.bool hE.symm, Nat.le_refl _, hi, Own.sel ‹_› [0, 1] rfl⟩
  ·have hx : L[s.i]? = none := by simp; omega
   have hE : seesR L x s = false := by unfold seesR; simp only [hx]; exact Bool.and_false _
   refine DrawVC.intro [0, 1, 2, 4, 5, 6, 7, 8, 10, 11, 12, 14, 15, 16] [3, 9, 13] [] [0, 1, 2, 3, 4, 5, 6, 7, 8, 9, 10, 11, 12, 13, 14, 15, 16] mixed (by kernel_rfl) rfl (fun _ _ _ _ h => h) ?_
   refine nilCheck rfl ?_
   refine fieldAddr st73 rfl rfl rfl ?_
   refine loadO o 0 rfl ty26 rfl rfl ?_
   refine Br.ndec (fun hc => absurd (by first | omega | assumption | decide | exact rfl) hc) (fun c33 => ?_)
   refine nilCheck rfl ?_
   refine fieldAddr st73 rfl rfl rfl ?_
   refine loadO o 0 rfl ty3 rfl rfl ?_
   refine nilCheck rfl ?_
   refine fieldAddr st73 rfl rfl rfl ?_
   refine loadO o 0 rfl ty31 rfl rfl ?_
   refine lenN (o.reads 1 hR rfl) sl31 ?_
   refine Br.dec (fun c41 => ?_) (fun hc => absurd (by omega) hc)
   refine RetVC.one rfl ?_
   exact ⟨_, _, rfl, congrArg Value.bool hE.symm, Nat.le_refl _, hi, Own.sel ‹_› [0, 1] rfl⟩
 ·have hE : seesR L x s = false := by unfold seesR; rw [decide_eq_false he, Bool.false_and]
  refine DrawVC.intro [0, 1, 2, 4, 5, 6, 7, 8, 10, 11, 12, 14, 15, 16] [3, 9, 13] [] [0, 1, 2, 3, 4, 5, 6, 7, 8, 9, 10, 11, 12, 13, 14, 15, 16] mixed (by kernel_rfl) rfl (fun _ _ _ _ h => h) ?_
  refine nilCheck rfl ?_
  refine fieldAddr st73 rfl rfl rfl ?_
  refine loadO o 0 rfl ty26 rfl rfl ?_
  refine Br.ndec (fun c43 => ?_) (fun hc => absurd hc (by first | omega | assumption | decide | exact rfl))
  refine Br.tt ?_
  refine RetVC.one rfl ?_
  exact ⟨_, _, rfl, congrArg Value.bool hE.symm, Nat.le_refl _, hi, Own.sel ‹_› [0, 1] rfl⟩

set_option maxHeartbeats 4000000 in
set_option maxRecDepth 100000 in
theorem rhas_spec (x : List UInt8) : RSpec 55 (fun bp => [.pointer (some ⟨bp, 0, none⟩), .string ⟨⟨x⟩⟩]) (fun L _ => hasR L x) (fun b v => v = .bool b) := by
 intro B bp z tk w L s h o hR hl hi
 unfold RSt at o
 refine Spec.enter Tryz.func55 rfl Tryz.ntmps55 (by kernel_rfl) ?_
 refine (rsees_spec x).callL ‹_› rfl hR hl hi (fun a s1 v h1 hm hv hi1 hj1 oq => ?_)
 subst hv
 injection hm with h1 h2
 subst h2
 have o1 := oq
 simp only [RSt, pick, lcA, lnA, lgS, lgZ, lgN] at o1
 clear oq
 cases a with
 | false =>
  have hE : hasR L x s = (false, s) := by unfold hasR; rw [h1]; rfl
  refine Br.tt ?_
  refine RetVC.one rfl ?_
  exact ⟨_, _, hE, rfl, Nat.le_refl _, hi, Own.sel ‹_› [0, 1] rfl⟩
 | true =>
  have hlt : s.i < L.length := by
   by_cases hlt : s.i < L.length
   ·exact hlt
   ·have hx : L[s.i]? = none := by simp; omega
    unfold seesR at h1
    simp only [hx, Bool.and_false] at h1
    cases h1
  have hE : hasR L x s = (true, ⟨s.i + 1, s.e, s.a⟩) := by unfold hasR; rw [h1]; rfl
  refine Br.ff ?_
  refine run (nilCheck rfl ?_)
  refine run (fieldAddr st73 rfl rfl rfl ?_)
  refine run (loadO o1 0 rfl ty3 rfl rfl ?_)
  refine Ar.i64 (by omega) (by omega) ?_
  refine run (nilCheck rfl ?_)
  refine run (fieldAddr st73 rfl rfl rfl ?_)
  (refine RunVC.store o1 0 rfl ty3 rfl (by simp) (And.intro ⟨rfl, rfl⟩ ?_); intro m35 o35)
  refine RetVC.one rfl ?_
  exact ⟨_, _, hE, rfl, by simp, by simp; omega, Own.sel ‹_› [0, 1] rfl⟩

set_option maxHeartbeats 4000000 in
set_option maxRecDepth 100000 in
theorem rmust_spec (x : List UInt8) : RSpec 47 (fun bp => [.pointer (some ⟨bp, 0, none⟩), .string ⟨⟨x⟩⟩]) (fun L z => mustR L z x) (fun _ v => v = .tuple ⟨[]⟩) := by
 intro B bp z tk w L s h o hR hl hi
 unfold RSt at o
 have hE := congrFun (mustR.eq_1 L z x) s
 refine Spec.enter Tryz.func47 rfl Tryz.ntmps47 (by kernel_rfl) ?_
 refine (rhas_spec x).callL ‹_› rfl hR hl hi (fun a s1 v h1 hm hv hi1 hj1 oq => ?_)
 subst hv
 rw [RM.bind_of hm] at hE
 have o1 := oq
 simp only [RSt, pick, lcA, lnA, lgS, lgZ, lgN] at o1
 clear oq
 cases a with
 | true =>
  refine Br.ff ?_
  refine RetVC.zero rfl ?_
  exact ⟨_, _, hE, rfl, hi1, hj1, Own.sel ‹_› [0, 1] rfl⟩
 | false =>
  refine Br.tt ?_
  refine (rfail_spec 4).callL ‹_› rfl hR hl hj1 (fun a s2 v h2 hm hv hi2 hj2 oq => ?_)
  subst hv
  refine RetVC.zero rfl ?_
  exact ⟨_, _, hE.trans hm, rfl, by omega, hj2, Own.sel oq [0, 1] rfl⟩

set_option maxHeartbeats 4000000 in
set_option maxRecDepth 100000 in
theorem rtok_spec (k : Int) : RSpec 93 (fun bp => [.pointer (some ⟨bp, 0, none⟩), .int .i64 k]) (fun L z => tokenR L z k) (fun t v => v = .agg ⟨tokC t⟩ ∧ 0 ≤ t.num ∧ t.num ≤ 10000000000) := by
 intro B bp z tk w L s h o hR hl hi
 unfold RSt at o
 obtain ⟨hR, hK⟩ := hR
 refine Spec.enter Tryz.func93 rfl Tryz.ntmps93 (by kernel_rfl) ?_
 have h0 : (0 : Int) ≤ tok0.num ∧ tok0.num ≤ 10000000000 := by decide
 by_cases hlt : s.i < L.length
 ·obtain ⟨t, hx⟩ := getx hlt
  by_cases he : s.e = 0
  ·by_cases hk : t.kind = k
   ·have hE : tokenR L z k s = (t, ⟨s.i + 1, s.e, s.a⟩) := by unfold tokenR; simp only [hx]; rw [if_pos ⟨he, hk⟩]
    have hx2 : L[((s.i : Int) + 1 - 1).toNat]? = some t := by rw [show ((s.i : Int) + 1 - 1).toNat = s.i by omega]; exact hx
    (refine RunVC.alloc o ty38 ?_; intro b10 m10 o10)
    refine DrawVC.intro [0, 1, 2, 4, 5, 6, 7, 8, 10, 11, 12, 14, 15, 16, 17, 18, 19, 20, 22, 23, 24, 26, 27, 29, 30, 31] [3, 9, 13, 21, 25, 28] [] [0, 1, 2, 3, 4, 5, 6, 7, 8, 9, 10, 11, 12, 13, 14, 15, 16, 17, 18, 19, 20, 21, 22, 23, 24, 25, 26, 27, 28, 29, 30, 31] mixed (by kernel_rfl) rfl (fun _ _ _ _ h => h) ?_
    refine nilCheck rfl ?_
    refine fieldAddr st73 rfl rfl rfl ?_
    refine loadO o10 0 rfl ty26 rfl rfl ?_
    refine Br.ndec (fun hc => absurd (by first | omega | assumption | decide | exact rfl) hc) (fun c14 => ?_)
    refine nilCheck rfl ?_
    refine fieldAddr st73 rfl rfl rfl ?_
    refine loadO o10 0 rfl ty3 rfl rfl ?_
    refine nilCheck rfl ?_
    refine fieldAddr st73 rfl rfl rfl ?_
    refine loadO o10 0 rfl ty31 rfl rfl ?_
    refine lenN (o10.reads 1 hR rfl) sl31 ?_
    refine Br.dec (fun hc => absurd hc (by omega)) (fun c22 => ?_)
    refine nilCheck rfl ?_
    refine fieldAddr st73 rfl rfl rfl ?_
    refine loadO o10 0 rfl ty31 rfl rfl ?_
    refine nilCheck rfl ?_
    refine fieldAddr st73 rfl rfl rfl ?_
    refine loadO o10 0 rfl ty3 rfl rfl ?_
    refine idxN sl31 ty38 (o10.reads 1 hR rfl) rfl (by omega) (by omega) ?_
    refine fieldAdr (o10.reads 1 hR rfl) (by omega) st38 rfl rfl rfl ?_
    refine loadFF (o10.reads 1 hR rfl) ty3 (fun _ => rfl) rfl ‹_› rfl ?_
    refine Br.ndec (fun hc => absurd (by first | omega | assumption | decide | exact rfl) hc) (fun c32 => ?_)
    refine run (nilCheck rfl ?_)
    refine run (fieldAddr st73 rfl rfl rfl ?_)
    refine run (loadO o10 0 rfl ty3 rfl rfl ?_)
    refine Ar.i64 (by omega) (by omega) ?_
    refine run (nilCheck rfl ?_)
    refine run (fieldAddr st73 rfl rfl rfl ?_)
    (refine RunVC.store o10 0 rfl ty3 rfl (by simp) (And.intro ⟨rfl, rfl⟩ ?_); intro m38 o38)
    refine DrawVC.intro [0, 1, 2, 4, 5, 6, 8, 9] [3, 7, 10] [11] [0, 1, 2, 3, 4, 5, 6, 7, 8, 9, 10, 11] mixed (by kernel_rfl) rfl (fun _ _ _ _ h => h) ?_
    refine nilCheck rfl ?_
    refine fieldAddr st73 rfl rfl rfl ?_
    refine loadO o38 0 rfl ty31 rfl rfl ?_
    refine nilCheck rfl ?_
    refine fieldAddr st73 rfl rfl rfl ?_
    refine loadO o38 0 rfl ty3 rfl rfl ?_
    refine Ar.i64 (by omega) (by omega) ?_
    refine idxN sl31 ty38 (o38.reads 1 hR rfl) rfl (by omega) (by omega) ?_
    refine loadFT ty38 (o38.reads 1 hR rfl) (fun _ => rfl) (by decide) rfl ‹_› ?_
    (refine RunVC.storeL o38 2 rfl ty38 rfl (by decide) (And.intro ⟨rfl, rfl⟩ ?_); intro m47 o47)
    first | refine RetVC.cell2 rfl o47 2 rfl ty38 rfl rfl ?_ | refine RetVC.cell1 rfl o47 2 rfl ty38 rfl rfl ?_ | refine RetVC.cellTT rfl o47 2 rfl ty38 rfl rfl ?_
    exact ⟨_, _, hE, ⟨rfl, hK t (List.mem_of_getElem? hx)⟩, by simp, by simp; omega, Own.sel ‹_› [0, 1] rfl⟩
   ·have hE : tokenR L z k s = (tok0, failS L z 4 s) := by unfold tokenR; simp only [hx]; rw [if_neg fun h => hk h.2]
    (refine RunVC.alloc o ty38 ?_; intro b20 m20 o20)
    refine DrawVC.intro [0, 1, 2, 4, 5, 6, 7, 8, 10, 11, 12, 14, 15, 16, 17, 18, 19, 20, 22, 23, 24, 26, 27, 29, 30, 31] [3, 9, 13, 21, 25, 28] [] [0, 1, 2, 3, 4, 5, 6, 7, 8, 9, 10, 11, 12, 13, 14, 15, 16, 17, 18, 19, 20, 21, 22, 23, 24, 25, 26, 27, 28, 29, 30, 31] mixed (by kernel_rfl) rfl (fun _ _ _ _ h => h) ?_
    refine nilCheck rfl ?_
    refine fieldAddr st73 rfl rfl rfl ?_
    refine loadO o20 0 rfl ty26 rfl rfl ?_
    refine Br.ndec (fun hc => absurd (by first | omega | assumption | decide | exact rfl) hc) (fun c24 => ?_)
    refine nilCheck rfl ?_
    refine fieldAddr st73 rfl rfl rfl ?_
    refine loadO o20 0 rfl ty3 rfl rfl ?_
    refine nilCheck rfl ?_
    refine fieldAddr st73 rfl rfl rfl ?_
    refine loadO o20 0 rfl ty31 rfl rfl ?_
    refine lenN (o20.reads 1 hR rfl) sl31 ?_
    refine Br.dec (fun hc => absurd hc (by omega)) (fun c32 => ?_)
    refine nilCheck rfl ?_
    refine fieldAddr st73 rfl rfl rfl ?_
    refine loadO o20 0 rfl ty31 rfl rfl ?_
    refine nilCheck rfl ?_
    refine fieldAddr st73 rfl rfl rfl ?_
    refine loadO o20 0 rfl ty3 rfl rfl ?_
    refine idxN sl31 ty38 (o20.reads 1 hR rfl) rfl (by omega) (by omega) ?_
    refine fieldAdr (o20.reads 1 hR rfl) (by omega) st38 rfl rfl rfl ?_
    refine loadFF (o20.reads 1 hR rfl) ty3 (fun _ => rfl) rfl ‹_› rfl ?_
    refine Br.ndec (fun c42 => ?_) (fun hc => absurd hc (by first | omega | assumption | decide | exact rfl))
    refine (rfail_spec 4).callL ‹_› rfl ⟨hR, hK⟩ hl hi (fun a s2 v h2 hm hv hi2 hj2 oq => ?_)
    subst hv
    injection hm with _ hm
    have o2 := oq
    simp only [RSt, pick, lcA, lnA, lgS, lgZ, lgN] at o2
    clear oq
    refine run (buildK st38 ?_)
    (refine RunVC.storeL o2 2 rfl ty38 rfl (by decide) (And.intro ⟨rfl, rfl⟩ ?_); intro m26 o26)
    first | refine RetVC.cell2 rfl o26 2 rfl ty38 rfl rfl ?_ | refine RetVC.cell1 rfl o26 2 rfl ty38 rfl rfl ?_ | refine RetVC.cellTT rfl o26 2 rfl ty38 rfl rfl ?_
    exact ⟨_, _, hE.trans (by rw [hm]), ⟨rfl, h0⟩, hi2, hj2, Own.sel ‹_› [0, 1] rfl⟩
  ·have hE : tokenR L z k s = (tok0, failS L z 4 s) := by unfold tokenR; simp only [hx]; rw [if_neg fun h => he h.1]
   (refine RunVC.alloc o ty38 ?_; intro b30 m30 o30)
   refine DrawVC.intro [0, 1, 2, 4, 5, 6, 7, 8, 10, 11, 12, 14, 15, 16, 17, 18, 19, 20, 22, 23, 24, 26, 27, 29, 30, 31] [3, 9, 13, 21, 25, 28] [] [0, 1, 2, 3, 4, 5, 6, 7, 8, 9, 10, 11, 12, 13, 14, 15, 16, 17, 18, 19, 20, 21, 22, 23, 24, 25, 26, 27, 28, 29, 30, 31] mixed (by kernel_rfl) rfl (fun _ _ _ _ h => h) ?_
   refine nilCheck rfl ?_
   refine fieldAddr st73 rfl rfl rfl ?_
   refine loadO o30 0 rfl ty26 rfl rfl ?_
   refine Br.ndec (fun c34 => ?_) (fun hc => absurd hc (by first | omega | assumption | decide | exact rfl))
   refine Br.tt ?_
   refine (rfail_spec 4).callL ‹_› rfl ⟨hR, hK⟩ hl hi (fun a s2 v h2 hm hv hi2 hj2 oq => ?_)
   subst hv
   injection hm with _ hm
   have o2 := oq
   simp only [RSt, pick, lcA, lnA, lgS, lgZ, lgN] at o2
   clear oq
   refine run (buildK st38 ?_)
   (refine RunVC.storeL o2 2 rfl ty38 rfl (by decide) (And.intro ⟨rfl, rfl⟩ ?_); intro m36 o36)
   first | refine RetVC.cell2 rfl o36 2 rfl ty38 rfl rfl ?_ | refine RetVC.cell1 rfl o36 2 rfl ty38 rfl rfl ?_ | refine RetVC.cellTT rfl o36 2 rfl ty38 rfl rfl ?_
   exact ⟨_, _, hE.trans (by rw [hm]), ⟨rfl, h0⟩, hi2, hj2, Own.sel ‹_› [0, 1] rfl⟩
 ·have hx : L[s.i]? = none := by simp; omega
  have hE : tokenR L z k s = (tok0, failS L z 4 s) := by unfold tokenR; simp only [hx]
  by_cases he : s.e = 0
  ·(refine RunVC.alloc o ty38 ?_; intro b40 m40 o40)
   refine DrawVC.intro [0, 1, 2, 4, 5, 6, 7, 8, 10, 11, 12, 14, 15, 16, 17, 18, 19, 20, 22, 23, 24, 26, 27, 29, 30, 31] [3, 9, 13, 21, 25, 28] [] [0, 1, 2, 3, 4, 5, 6, 7, 8, 9, 10, 11, 12, 13, 14, 15, 16, 17, 18, 19, 20, 21, 22, 23, 24, 25, 26, 27, 28, 29, 30, 31] mixed (by kernel_rfl) rfl (fun _ _ _ _ h => h) ?_
   refine nilCheck rfl ?_
   refine fieldAddr st73 rfl rfl rfl ?_
   refine loadO o40 0 rfl ty26 rfl rfl ?_
   refine Br.ndec (fun hc => absurd (by first | omega | assumption | decide | exact rfl) hc) (fun c44 => ?_)
   refine nilCheck rfl ?_
   refine fieldAddr st73 rfl rfl rfl ?_
   refine loadO o40 0 rfl ty3 rfl rfl ?_
   refine nilCheck rfl ?_
   refine fieldAddr st73 rfl rfl rfl ?_
   refine loadO o40 0 rfl ty31 rfl rfl ?_
   refine lenN (o40.reads 1 hR rfl) sl31 ?_
   refine Br.dec (fun c52 => ?_) (fun hc => absurd (by omega) hc)
   refine Br.tt ?_
   refine (rfail_spec 4).callL ‹_› rfl ⟨hR, hK⟩ hl hi (fun a s2 v h2 hm hv hi2 hj2 oq => ?_)
   subst hv
   injection hm with _ hm
   have o2 := oq
   simp only [RSt, pick, lcA, lnA, lgS, lgZ, lgN] at o2
   clear oq
   refine run (buildK st38 ?_)
   (refine RunVC.storeL o2 2 rfl ty38 rfl (by decide) (And.intro ⟨rfl, rfl⟩ ?_); intro m46 o46)
   first | refine RetVC.cell2 rfl o46 2 rfl ty38 rfl rfl ?_ | refine RetVC.cell1 rfl o46 2 rfl ty38 rfl rfl ?_ | refine RetVC.cellTT rfl o46 2 rfl ty38 rfl rfl ?_
   exact ⟨_, _, hE.trans (by rw [hm]), ⟨rfl, h0⟩, hi2, hj2, Own.sel ‹_› [0, 1] rfl⟩
  ·(refine RunVC.alloc o ty38 ?_; intro b50 m50 o50)
   refine DrawVC.intro [0, 1, 2, 4, 5, 6, 7, 8, 10, 11, 12, 14, 15, 16, 17, 18, 19, 20, 22, 23, 24, 26, 27, 29, 30, 31] [3, 9, 13, 21, 25, 28] [] [0, 1, 2, 3, 4, 5, 6, 7, 8, 9, 10, 11, 12, 13, 14, 15, 16, 17, 18, 19, 20, 21, 22, 23, 24, 25, 26, 27, 28, 29, 30, 31] mixed (by kernel_rfl) rfl (fun _ _ _ _ h => h) ?_
   refine nilCheck rfl ?_
   refine fieldAddr st73 rfl rfl rfl ?_
   refine loadO o50 0 rfl ty26 rfl rfl ?_
   refine Br.ndec (fun c54 => ?_) (fun hc => absurd hc (by first | omega | assumption | decide | exact rfl))
   refine Br.tt ?_
   refine (rfail_spec 4).callL ‹_› rfl ⟨hR, hK⟩ hl hi (fun a s2 v h2 hm hv hi2 hj2 oq => ?_)
   subst hv
   injection hm with _ hm
   have o2 := oq
   simp only [RSt, pick, lcA, lnA, lgS, lgZ, lgN] at o2
   clear oq
   refine run (buildK st38 ?_)
   (refine RunVC.storeL o2 2 rfl ty38 rfl (by decide) (And.intro ⟨rfl, rfl⟩ ?_); intro m56 o56)
   first | refine RetVC.cell2 rfl o56 2 rfl ty38 rfl rfl ?_ | refine RetVC.cell1 rfl o56 2 rfl ty38 rfl rfl ?_ | refine RetVC.cellTT rfl o56 2 rfl ty38 rfl rfl ?_
   exact ⟨_, _, hE.trans (by rw [hm]), ⟨rfl, h0⟩, hi2, hj2, Own.sel ‹_› [0, 1] rfl⟩

set_option maxHeartbeats 4000000 in
set_option maxRecDepth 100000 in
theorem rname_spec : RSpec 46 (fun bp => [.pointer (some ⟨bp, 0, none⟩)]) (fun L z => rnameR L z) (fun t v => v = .string ⟨⟨t⟩⟩) := by
 intro B bp z tk w L s h o hR hl hi
 unfold RSt at o
 refine Spec.enter Tryz.func46 rfl Tryz.ntmps46 (by kernel_rfl) ?_
 refine (rtok_spec 1).callL ‹_› rfl hR hl hi (fun a s1 v h1 hm hv hi1 hj1 oq => ?_)
 obtain ⟨rfl, hv⟩ := hv
 refine run (fieldV st38 rfl rfl rfl rfl ?_)
 refine RetVC.one rfl ?_
 exact ⟨_, _, RM.bind_of hm, rfl, hi1, hj1, Own.sel oq [0, 1] rfl⟩

set_option maxHeartbeats 4000000 in
set_option maxRecDepth 100000 in
theorem rnumber_spec : RSpec 50 (fun bp => [.pointer (some ⟨bp, 0, none⟩)]) (fun L z => rnumR L z) (fun n v => v = .int .i64 n ∧ 0 ≤ n ∧ n ≤ 10000000000) := by
 intro B bp z tk w L s h o hR hl hi
 unfold RSt at o
 refine Spec.enter Tryz.func50 rfl Tryz.ntmps50 (by kernel_rfl) ?_
 refine (rtok_spec 2).callL ‹_› rfl hR hl hi (fun a s1 v h1 hm hv hi1 hj1 oq => ?_)
 obtain ⟨rfl, hv⟩ := hv
 refine run (fieldV st38 rfl rfl rfl rfl ?_)
 refine RetVC.one rfl ?_
 exact ⟨_, _, RM.bind_of hm, ⟨rfl, hv⟩, hi1, hj1, Own.sel oq [0, 1] rfl⟩

theorem oneR_step {L : List Tok} {z : Nat} {ss : List (List UInt8)} {i : Nat} {w : List UInt8} {k : Int} (hs : ss[i]? = some w) : oneR L z (ss.drop i) k = (hasR L w >>= fun b => if b = true then pure k else oneR L z (ss.drop (i + 1)) (k + 1)) := by
 obtain ⟨h1, rfl⟩ := List.getElem?_eq_some_iff.1 hs
 rw [List.drop_eq_getElem_cons h1]
 rfl

set_option maxHeartbeats 4000000 in
set_option maxRecDepth 100000 in
theorem rone_spec (ss : List (List UInt8)) (vs : Value) (B : Base) (bp z : Nat) (tk : Item) (w : Value) (L : List Tok) (s : RS) (h : Heap) (hS : KeepS B vs ss) (o : Own B (RSt bp z w tk s) h) (hR : TokR tk w L) (hl : L.length ≤ 5000) (hi : s.i ≤ L.length) (hsl : ss.length ≤ 100) :
  SpecR Tryz.prog 44 [.pointer (some ⟨bp, 0, none⟩), vs] h fun v h' => ∃ a s', oneR L z ss 1 s = (a, s') ∧ v = .int .i64 a ∧ s.i ≤ s'.i ∧ s'.i ≤ L.length ∧ Own B (RSt bp z w tk s') h' := by
 refine Spec.enter Tryz.func44 rfl Tryz.ntmps44 (by kernel_rfl) ?_
 have hA := hS _ _ o
 have hln : (strs ss).length = ss.length := by simp [strs]
 refine LoopVC.intro [4, 5, 6, 7, 8, 9, 10, 11, 12, 13, 14, 15, 16, 17, 18, 19] [5] (fun vs hh => ∃ (i : Nat) (s1 : RS), i ≤ ss.length ∧ vs = [.int .i64 i] ∧ s.i ≤ s1.i ∧ s1.i ≤ L.length ∧ oneR L z (ss.drop i) (i + 1) s1 = oneR L z ss 1 s ∧ Own B (RSt bp z w tk s1) hh) (fun vs _ => match vs with | [.int _ i] => ss.length - i.toNat | _ => 0) ?_ ?_
 ·exact ⟨0, s, by omega, rfl, Nat.le_refl _, hi, rfl, o⟩
 ·rintro vs junk hh ⟨i, s1, hin, rfl, hi1, hj1, hE, oh⟩
  have hA := hS _ _ oh
  by_cases hlt : i < ss.length
  ·obtain ⟨x, hs⟩ := getx hlt
   have hss : (strs ss)[i]? = some (.string ⟨⟨x⟩⟩) := by simp [strs, hs]
   rw [oneR_step hs] at hE
   refine run (lenAn hA ‹_› sl42 ?_)
   refine Br.dec (fun c21 => ?_) (fun hc => absurd (by omega) hc)
   refine run (idx sl42 ty9 hA rfl (by omega) (by omega) ?_)
   refine run (loadM hA ty9 rfl (by first | assumption | rfl) ?_)
   refine (rhas_spec x).callL oh rfl hR hl hj1 (fun b s2 v h2 hm hv hi2 hj2 oq => ?_)
   subst hv
   rw [RM.bind_of hm] at hE
   cases b with
   | true =>
    refine Br.tt ?_
    refine Ar.i64 (by omega) (by omega) ?_
    refine RetVC.one rfl ?_
    exact ⟨_, _, hE.symm, rfl, by omega, hj2, Own.sel oq [0, 1] rfl⟩
   | false =>
    refine Br.ff ?_
    refine Ar.i64 (by omega) (by omega) ?_
    refine ⟨rfl, ?_⟩
    exact ⟨⟨i + 1, s2, by omega, rfl, by omega, hj2, by rw [← hE]; push_cast; rfl, Own.sel oq [0, 1] rfl⟩, by simp; omega⟩
  ·have hd : ss.drop i = [] := List.drop_of_length_le (by omega)
   rw [hd, oneR] at hE
   refine run (lenAn hA ‹_› sl42 ?_)
   refine Br.dec (fun hc => absurd hc (by omega)) (fun c61 => ?_)
   refine (rfail_spec 4).callL oh rfl hR hl hj1 (fun a s2 v h2 hm hv hi2 hj2 oq => ?_)
   subst hv
   rw [RM.bind_of hm] at hE
   refine RetVC.one rfl ?_
   exact ⟨_, _, hE.symm, rfl, by omega, hj2, Own.sel oq [0, 1] rfl⟩

theorem rone_call {ss : List (List UInt8)} {b : Nat} {t : TypeId} {sl : List Value} {h : Heap} {K : KK} {Q : QQ} {B : Base} {Lo : List Item} {bp z : Nat} {tk : Item} {w : Value} {L : List Tok} {s : RS}
  (o : Own B Lo h) (e : pick Lo [0, 1] = RSt bp z w tk s) (hk : ∃ k ∈ [2, 3, 4, 5, 6, 7, 8, 9], Lo[k]? = some (box b (strs ss) t)) (hR : TokR tk w L) (hl : L.length ≤ 5000) (hi : s.i ≤ L.length) (hsl : ss.length ≤ 100)
  (hret : ∀ a s' v h', oneR L z ss 1 s = (a, s') → v = .int .i64 a → s.i ≤ s'.i → s'.i ≤ L.length → Own B (RSt bp z w tk s' ++ rest8 Lo) h' → K v false h') : CallVC Tryz.prog 44 [.pointer (some ⟨bp, 0, none⟩), .slice (some ⟨b, 0, none⟩) ss.length ss.length] sl h K Q := by
 have ol := o.lend [0, 1] [2, 3, 4, 5, 6, 7, 8, 9] rfl
 rw [e] at ol
 refine CallVC.ret (rone_spec ss _ _ bp z tk w L s h (keepIn hk) ol hR hl hi hsl) ?_
 rintro v h' ⟨a, s', h1, h2, h3, h4, h5⟩
 exact hret a s' v h' h1 h2 h3 h4 h5.back

end Go.Proofs.YtnmfanjhepepbaaGreatDoor

/- The reference's reader: names, values, operands. -/
namespace Go.Proofs.YtnmfanjhepepbaaGreatDoor
open Go StillVC

/-- What a function of the reader does that makes memory. -/
def RSpecI {α : Type} (g : FuncId) (args : Nat → List Value) (m : List Tok → Nat → RM α) (V : α → Value → Item → Prop) : Prop :=
 ∀ (B : Base) (bp z : Nat) (tk : Item) (w : Value) (L : List Tok) (s : RS) (h : Heap), Own B (RSt bp z w tk s) h → TokR tk w L → L.length ≤ 5000 → s.i ≤ L.length → SpecR Tryz.prog g (args bp) h fun v h' => ∃ a s' I, m L z s = (a, s') ∧ V a v I ∧ s.i ≤ s'.i ∧ s'.i ≤ L.length ∧ Own B [box bp [w, .int .i64 s'.i, .int .i64 s'.e, .int .i64 s'.a, .int .i64 z] 73, tk, I] h'

theorem RSpecI.callL {α : Type} {g : FuncId} {args : Nat → List Value} {m : List Tok → Nat → RM α} {V : α → Value → Item → Prop} (sp : RSpecI g args m V) {sl : List Value} {h : Heap} {K : KK} {Q : QQ} {B : Base} {Lo : List Item} {bp z : Nat} {tk : Item} {w : Value} {L : List Tok} {s : RS}
  (o : Own B Lo h) (e : pick Lo [0, 1] = RSt bp z w tk s) (hR : TokR tk w L) (hl : L.length ≤ 5000) (hi : s.i ≤ L.length)
  (hret : ∀ a s' v I h', m L z s = (a, s') → V a v I → s.i ≤ s'.i → s'.i ≤ L.length → Own B ([box bp [w, .int .i64 s'.i, .int .i64 s'.e, .int .i64 s'.a, .int .i64 z] 73, tk, I] ++ rest8 Lo) h' → K v false h') : CallVC Tryz.prog g (args bp) sl h K Q := by
 have ol := o.lend [0, 1] [2, 3, 4, 5, 6, 7, 8, 9] rfl
 rw [e] at ol
 refine CallVC.ret (sp _ bp z tk w L s h ol hR hl hi) ?_
 rintro v h' ⟨a, s', I, h1, h2, h3, h4, h5⟩
 exact hret a s' v I h' h1 h2 h3 h4 h5.back

theorem listAR_yes {α : Type} {L : List Tok} {sep : List UInt8} {one : RM α} {f : Nat} {acc : List α} {s r : RS} (h : hasR L sep s = (true, r)) : listAR L sep one (f + 1) acc s = (one >>= fun a => listAR L sep one f (acc ++ [a])) r := by
 rw [listAR, RM.bind_of h]
 rfl

theorem listAR_no {α : Type} {L : List Tok} {sep : List UInt8} {one : RM α} {f : Nat} {acc : List α} {s r : RS} (h : hasR L sep s = (false, r)) : listAR L sep one (f + 1) acc s = (acc, r) := by
 rw [listAR, RM.bind_of h]
 rfl

theorem hasR_lt {L : List Tok} {sep : List UInt8} {s r : RS} (h : hasR L sep s = (true, r)) : r.i = s.i + 1 := by
 unfold hasR at h
 split at h
 ·injection h with _ h; subst h; rfl
 ·injection h with h; cases h


theorem hasR_same {L : List Tok} {x : List UInt8} {s r : RS} (h : hasR L x s = (false, r)) : r = s := by
 unfold hasR at h
 split at h
 ·injection h with h; cases h
 ·injection h with _ h; exact h.symm

theorem numR_of {L : List Tok} {z : Nat} {s : RS} {t : Tok} (hx : L[s.i]? = some t) (he : s.e = 0) (hk : t.kind = 2) : rnumR L z s = (t.num, ⟨s.i + 1, s.e, s.a⟩) := by
 have e : tokenR L z 2 s = (t, ⟨s.i + 1, s.e, s.a⟩) := by unfold tokenR; simp only [hx]; rw [if_pos ⟨he, hk⟩]
 exact RM.bind_of e

theorem tokR_of {L : List Tok} {z : Nat} {s : RS} {t : Tok} {k : Int} (hx : L[s.i]? = some t) (he : s.e = 0) (hk : t.kind = k) : tokenR L z k s = (t, ⟨s.i + 1, s.e, s.a⟩) := by
 unfold tokenR; simp only [hx]; rw [if_pos ⟨he, hk⟩]


set_option maxHeartbeats 8000000 in
set_option maxRecDepth 100000 in
theorem rvalue_spec : RSpec 95 (fun bp => [.pointer (some ⟨bp, 0, none⟩)]) (fun L z => rvalueR L z) (litV) := by
 intro B bp z tk w L s h o hR hl hi
 unfold RSt at o
 have hE := congrFun (rvalueR.eq_1 L z) s
 unfold rvalueK at hE
 refine Spec.enter Tryz.func95 rfl Tryz.ntmps95 (by kernel_rfl) ?_
 (refine RunVC.alloc o ty54 ?_; intro b10 m10 o10)
 refine (rhas_spec [45]).callL ‹_› rfl hR hl hi (fun b s1 v h1 hm hv hi1 hj1 oq => ?_)
 subst hv
 rw [RM.bind_of hm] at hE
 have o1 := oq
 simp only [RSt, pick, lcA, lnA, lgS, lgZ, lgN] at o1
 clear oq
 cases b with
 | true =>
  rw [if_pos rfl] at hE
  refine Br.tt ?_
  refine rnumber_spec.callL ‹_› rfl hR hl hj1 (fun n s2 v h2 hm hv hi2 hj2 oq => ?_)
  obtain ⟨rfl, hv0_2, hv1_2⟩ := hv
  rw [RM.bind_of hm] at hE
  have o2 := oq
  simp only [RSt, pick, lcA, lnA, lgS, lgZ, lgN] at o2
  clear oq
  refine Ar.i64 (by omega) (by omega) ?_
  refine run (buildK st54 ?_)
  refine And.intro rfl ?_
  refine And.intro rfl ?_
  (refine RunVC.storeL o2 2 rfl ty54 rfl (by decide) (And.intro ⟨rfl, rfl⟩ ?_); intro m31 o31)
  first | refine RetVC.cell2 rfl o31 2 rfl ty54 rfl rfl ?_ | refine RetVC.cell1 rfl o31 2 rfl ty54 rfl rfl ?_ | refine RetVC.cellTT rfl o31 2 rfl ty54 rfl rfl ?_
  exact ⟨some ⟨2, -n, []⟩, _, hE, by first | rfl | simp [litV, vlV, vlC, vl0], by omega, by omega, Own.sel ‹_› [0, 1] rfl⟩
 | false =>
 rw [if_neg (by decide)] at hE
 obtain rfl := hasR_same hm
 clear hm
 refine Br.ff ?_
 refine (rhas_spec [64]).callL ‹_› rfl hR hl hj1 (fun b s3 v h3 hm hv hi3 hj3 oq => ?_)
 subst hv
 rw [RM.bind_of hm] at hE
 have o3 := oq
 simp only [RSt, pick, lcA, lnA, lgS, lgZ, lgN] at o3
 clear oq
 cases b with
 | true =>
  rw [if_pos rfl] at hE
  refine Br.tt ?_
  refine rnumber_spec.callL ‹_› rfl hR hl hj3 (fun n s4 v h4 hm hv hi4 hj4 oq => ?_)
  obtain ⟨rfl, hv0_4, hv1_4⟩ := hv
  rw [RM.bind_of hm] at hE
  have o4 := oq
  simp only [RSt, pick, lcA, lnA, lgS, lgZ, lgN] at o4
  clear oq
  refine run (buildK st54 ?_)
  refine And.intro rfl ?_
  refine And.intro rfl ?_
  (refine RunVC.storeL o4 2 rfl ty54 rfl (by decide) (And.intro ⟨rfl, rfl⟩ ?_); intro m61 o61)
  first | refine RetVC.cell2 rfl o61 2 rfl ty54 rfl rfl ?_ | refine RetVC.cell1 rfl o61 2 rfl ty54 rfl rfl ?_ | refine RetVC.cellTT rfl o61 2 rfl ty54 rfl rfl ?_
  exact ⟨some ⟨3, n, []⟩, _, hE, by first | rfl | simp [litV, vlV, vlC, vl0], by omega, by omega, Own.sel ‹_› [0, 1] rfl⟩
 | false =>
 rw [if_neg (by decide)] at hE
 obtain rfl := hasR_same hm
 clear hm
 refine Br.ff ?_
 refine (rhas_spec [116, 114, 117, 101]).callL ‹_› rfl hR hl hj3 (fun b s5 v h5 hm hv hi5 hj5 oq => ?_)
 subst hv
 rw [RM.bind_of hm] at hE
 have o5 := oq
 simp only [RSt, pick, lcA, lnA, lgS, lgZ, lgN] at o5
 clear oq
 cases b with
 | true =>
  rw [if_pos rfl] at hE
  refine Br.tt ?_
  refine run (buildK st54 ?_)
  refine And.intro rfl ?_
  refine And.intro rfl ?_
  (refine RunVC.storeL o5 2 rfl ty54 rfl (by decide) (And.intro ⟨rfl, rfl⟩ ?_); intro m81 o81)
  first | refine RetVC.cell2 rfl o81 2 rfl ty54 rfl rfl ?_ | refine RetVC.cell1 rfl o81 2 rfl ty54 rfl rfl ?_ | refine RetVC.cellTT rfl o81 2 rfl ty54 rfl rfl ?_
  exact ⟨some ⟨4, 1, []⟩, _, hE, by first | rfl | simp [litV, vlV, vlC, vl0], by omega, by omega, Own.sel ‹_› [0, 1] rfl⟩
 | false =>
 rw [if_neg (by decide)] at hE
 obtain rfl := hasR_same hm
 clear hm
 refine Br.ff ?_
 refine (rhas_spec [102, 97, 108, 115, 101]).callL ‹_› rfl hR hl hj5 (fun b s6 v h6 hm hv hi6 hj6 oq => ?_)
 subst hv
 rw [RM.bind_of hm] at hE
 have o6 := oq
 simp only [RSt, pick, lcA, lnA, lgS, lgZ, lgN] at o6
 clear oq
 cases b with
 | true =>
  rw [if_pos rfl] at hE
  refine Br.tt ?_
  refine run (buildK st54 ?_)
  refine And.intro rfl ?_
  (refine RunVC.storeL o6 2 rfl ty54 rfl (by decide) (And.intro ⟨rfl, rfl⟩ ?_); intro m101 o101)
  first | refine RetVC.cell2 rfl o101 2 rfl ty54 rfl rfl ?_ | refine RetVC.cell1 rfl o101 2 rfl ty54 rfl rfl ?_ | refine RetVC.cellTT rfl o101 2 rfl ty54 rfl rfl ?_
  exact ⟨some ⟨4, 0, []⟩, _, hE, by first | rfl | simp [litV, vlV, vlC, vl0], by omega, by omega, Own.sel ‹_› [0, 1] rfl⟩
 | false =>
 rw [if_neg (by decide)] at hE
 obtain rfl := hasR_same hm
 clear hm
 refine Br.ff ?_
 refine (rhas_spec [110, 117, 108, 108]).callL ‹_› rfl hR hl hj6 (fun b s7 v h7 hm hv hi7 hj7 oq => ?_)
 subst hv
 rw [RM.bind_of hm] at hE
 have o7 := oq
 simp only [RSt, pick, lcA, lnA, lgS, lgZ, lgN] at o7
 clear oq
 cases b with
 | true =>
  rw [if_pos rfl] at hE
  refine Br.tt ?_
  refine run (buildK st54 ?_)
  (refine RunVC.storeL o7 2 rfl ty54 rfl (by decide) (And.intro ⟨rfl, rfl⟩ ?_); intro m121 o121)
  first | refine RetVC.cell2 rfl o121 2 rfl ty54 rfl rfl ?_ | refine RetVC.cell1 rfl o121 2 rfl ty54 rfl rfl ?_ | refine RetVC.cellTT rfl o121 2 rfl ty54 rfl rfl ?_
  exact ⟨some vl0, _, hE, by first | rfl | simp [litV, vlV, vlC, vl0], by omega, by omega, Own.sel ‹_› [0, 1] rfl⟩
 | false =>
 rw [if_neg (by decide)] at hE
 obtain rfl := hasR_same hm
 clear hm
 obtain ⟨hRr, hK⟩ := hR
 have hR : TokR tk w L := ⟨hRr, hK⟩
 by_cases he : s7.e = 0
 ·by_cases hlt : s7.i < L.length
  ·obtain ⟨t, hx⟩ := getx hlt
   by_cases h2 : t.kind = 2
   ·have hV : valueL L s7 = (some ⟨2, t.num, []⟩, ⟨s7.i + 1, s7.e, s7.a⟩) := by unfold valueL; simp only [hx]; rw [if_pos ⟨he, h2⟩]
    refine Br.ff ?_
    refine DrawVC.intro [0, 1, 2, 4, 5, 6, 7, 8, 10, 11, 12, 14, 15, 16, 17, 18, 19, 20, 22, 23, 24, 26, 27, 29, 30] [3, 9, 13, 21, 25, 28] [] [0, 1, 2, 3, 4, 5, 6, 7, 8, 9, 10, 11, 12, 13, 14, 15, 16, 17, 18, 19, 20, 21, 22, 23, 24, 25, 26, 27, 28, 29, 30] mixed (by kernel_rfl) rfl (fun _ _ _ _ h => h) ?_
    refine nilCheck rfl ?_
    refine fieldAddr st73 rfl rfl rfl ?_
    refine loadO o7 0 rfl ty26 rfl rfl ?_
    refine Br.dec (fun c133 => ?_) (fun hc => absurd (by omega) hc)
    refine nilCheck rfl ?_
    refine fieldAddr st73 rfl rfl rfl ?_
    refine loadO o7 0 rfl ty3 rfl rfl ?_
    refine nilCheck rfl ?_
    refine fieldAddr st73 rfl rfl rfl ?_
    refine loadO o7 0 rfl ty31 rfl rfl ?_
    refine lenN (o7.reads 1 hRr rfl) sl31 ?_
    refine Br.dec (fun c141 => ?_) (fun hc => absurd (by omega) hc)
    refine nilCheck rfl ?_
    refine fieldAddr st73 rfl rfl rfl ?_
    refine loadO o7 0 rfl ty31 rfl rfl ?_
    refine nilCheck rfl ?_
    refine fieldAddr st73 rfl rfl rfl ?_
    refine loadO o7 0 rfl ty3 rfl rfl ?_
    refine idxN sl31 ty38 (o7.reads 1 hRr rfl) rfl (by omega) (by omega) ?_
    refine fieldAdr (o7.reads 1 hRr rfl) (by omega) st38 rfl rfl rfl ?_
    refine loadFF (o7.reads 1 hRr rfl) ty3 (fun _ => rfl) rfl ‹_› rfl ?_
    refine Br.dec (fun c151 => ?_) (fun hc => absurd (by omega) hc)
    refine rnumber_spec.callL ‹_› rfl hR hl hj7 (fun n s8 v h8 hm hv hi8 hj8 oq => ?_)
    obtain ⟨rfl, hv0_8, hv1_8⟩ := hv
    have o8 := oq
    simp only [RSt, pick, lcA, lnA, lgS, lgZ, lgN] at o8
    clear oq
    rw [numR_of hx he h2] at hm
    injection hm with hm1 hm2
    subst hm1 hm2
    rw [hV] at hE
    refine run (buildK st54 ?_)
    refine And.intro rfl ?_
    refine And.intro rfl ?_
    (refine RunVC.storeL o8 2 rfl ty54 rfl (by decide) (And.intro ⟨rfl, rfl⟩ ?_); intro m141 o141)
    first | refine RetVC.cell2 rfl o141 2 rfl ty54 rfl rfl ?_ | refine RetVC.cell1 rfl o141 2 rfl ty54 rfl rfl ?_ | refine RetVC.cellTT rfl o141 2 rfl ty54 rfl rfl ?_
    exact ⟨_, _, hE, rfl, by simp <;> omega, by simp <;> omega, Own.sel ‹_› [0, 1] rfl⟩
   ·by_cases h3 : t.kind = 3
    ·have hV : valueL L s7 = (some ⟨1, 0, t.text⟩, ⟨s7.i + 1, s7.e, s7.a⟩) := by unfold valueL; simp only [hx]; rw [if_neg (fun h => h2 h.2), if_pos ⟨he, h3⟩]
     refine Br.ff ?_
     refine DrawVC.intro [0, 1, 2, 4, 5, 6, 7, 8, 10, 11, 12, 14, 15, 16, 17, 18, 19, 20, 22, 23, 24, 26, 27, 29, 30] [3, 9, 13, 21, 25, 28] [] [0, 1, 2, 3, 4, 5, 6, 7, 8, 9, 10, 11, 12, 13, 14, 15, 16, 17, 18, 19, 20, 21, 22, 23, 24, 25, 26, 27, 28, 29, 30] mixed (by kernel_rfl) rfl (fun _ _ _ _ h => h) ?_
     refine nilCheck rfl ?_
     refine fieldAddr st73 rfl rfl rfl ?_
     refine loadO o7 0 rfl ty26 rfl rfl ?_
     refine Br.dec (fun c153 => ?_) (fun hc => absurd (by omega) hc)
     refine nilCheck rfl ?_
     refine fieldAddr st73 rfl rfl rfl ?_
     refine loadO o7 0 rfl ty3 rfl rfl ?_
     refine nilCheck rfl ?_
     refine fieldAddr st73 rfl rfl rfl ?_
     refine loadO o7 0 rfl ty31 rfl rfl ?_
     refine lenN (o7.reads 1 hRr rfl) sl31 ?_
     refine Br.dec (fun c161 => ?_) (fun hc => absurd (by omega) hc)
     refine nilCheck rfl ?_
     refine fieldAddr st73 rfl rfl rfl ?_
     refine loadO o7 0 rfl ty31 rfl rfl ?_
     refine nilCheck rfl ?_
     refine fieldAddr st73 rfl rfl rfl ?_
     refine loadO o7 0 rfl ty3 rfl rfl ?_
     refine idxN sl31 ty38 (o7.reads 1 hRr rfl) rfl (by omega) (by omega) ?_
     refine fieldAdr (o7.reads 1 hRr rfl) (by omega) st38 rfl rfl rfl ?_
     refine loadFF (o7.reads 1 hRr rfl) ty3 (fun _ => rfl) rfl ‹_› rfl ?_
     refine Br.dec (fun hc => absurd hc (by omega)) (fun c171 => ?_)
     refine DrawVC.intro [0, 1, 2, 4, 5, 6, 7, 8, 10, 11, 12, 14, 15, 16, 17, 18, 19, 20, 22, 23, 24, 26, 27, 29, 30] [3, 9, 13, 21, 25, 28] [] [0, 1, 2, 3, 4, 5, 6, 7, 8, 9, 10, 11, 12, 13, 14, 15, 16, 17, 18, 19, 20, 21, 22, 23, 24, 25, 26, 27, 28, 29, 30] mixed (by kernel_rfl) rfl (fun _ _ _ _ h => h) ?_
     refine nilCheck rfl ?_
     refine fieldAddr st73 rfl rfl rfl ?_
     refine loadO o7 0 rfl ty26 rfl rfl ?_
     refine Br.dec (fun c175 => ?_) (fun hc => absurd (by omega) hc)
     refine nilCheck rfl ?_
     refine fieldAddr st73 rfl rfl rfl ?_
     refine loadO o7 0 rfl ty3 rfl rfl ?_
     refine nilCheck rfl ?_
     refine fieldAddr st73 rfl rfl rfl ?_
     refine loadO o7 0 rfl ty31 rfl rfl ?_
     refine lenN (o7.reads 1 hRr rfl) sl31 ?_
     refine Br.dec (fun c183 => ?_) (fun hc => absurd (by omega) hc)
     refine nilCheck rfl ?_
     refine fieldAddr st73 rfl rfl rfl ?_
     refine loadO o7 0 rfl ty31 rfl rfl ?_
     refine nilCheck rfl ?_
     refine fieldAddr st73 rfl rfl rfl ?_
     refine loadO o7 0 rfl ty3 rfl rfl ?_
     refine idxN sl31 ty38 (o7.reads 1 hRr rfl) rfl (by omega) (by omega) ?_
     refine fieldAdr (o7.reads 1 hRr rfl) (by omega) st38 rfl rfl rfl ?_
     refine loadFF (o7.reads 1 hRr rfl) ty3 (fun _ => rfl) rfl ‹_› rfl ?_
     refine Br.dec (fun c193 => ?_) (fun hc => absurd (by omega) hc)
     refine (rtok_spec 3).callL ‹_› rfl hR hl hj7 (fun n s9 v h9 hm hv hi9 hj9 oq => ?_)
     obtain ⟨rfl, hv0_9, hv1_9⟩ := hv
     have o9 := oq
     simp only [RSt, pick, lcA, lnA, lgS, lgZ, lgN] at o9
     clear oq
     rw [tokR_of hx he h3] at hm
     injection hm with hm1 hm2
     subst hm1 hm2
     rw [hV] at hE
     refine run (fieldV st38 rfl rfl rfl rfl ?_)
     refine run (buildK st54 ?_)
     refine And.intro rfl ?_
     refine And.intro rfl ?_
     (refine RunVC.storeL o9 2 rfl ty54 rfl (by decide) (And.intro ⟨rfl, rfl⟩ ?_); intro m162 o162)
     first | refine RetVC.cell2 rfl o162 2 rfl ty54 rfl rfl ?_ | refine RetVC.cell1 rfl o162 2 rfl ty54 rfl rfl ?_ | refine RetVC.cellTT rfl o162 2 rfl ty54 rfl rfl ?_
     exact ⟨_, _, hE, rfl, by simp <;> omega, by simp <;> omega, Own.sel ‹_› [0, 1] rfl⟩
    ·have hV : valueL L s7 = (none, s7) := by unfold valueL; simp only [hx]; rw [if_neg (fun h => h2 h.2), if_neg (fun h => h3 h.2)]
     rw [hV] at hE
     refine Br.ff ?_
     refine DrawVC.intro [0, 1, 2, 4, 5, 6, 7, 8, 10, 11, 12, 14, 15, 16, 17, 18, 19, 20, 22, 23, 24, 26, 27, 29, 30] [3, 9, 13, 21, 25, 28] [] [0, 1, 2, 3, 4, 5, 6, 7, 8, 9, 10, 11, 12, 13, 14, 15, 16, 17, 18, 19, 20, 21, 22, 23, 24, 25, 26, 27, 28, 29, 30] mixed (by kernel_rfl) rfl (fun _ _ _ _ h => h) ?_
     refine nilCheck rfl ?_
     refine fieldAddr st73 rfl rfl rfl ?_
     refine loadO o7 0 rfl ty26 rfl rfl ?_
     refine Br.dec (fun c173 => ?_) (fun hc => absurd (by omega) hc)
     refine nilCheck rfl ?_
     refine fieldAddr st73 rfl rfl rfl ?_
     refine loadO o7 0 rfl ty3 rfl rfl ?_
     refine nilCheck rfl ?_
     refine fieldAddr st73 rfl rfl rfl ?_
     refine loadO o7 0 rfl ty31 rfl rfl ?_
     refine lenN (o7.reads 1 hRr rfl) sl31 ?_
     refine Br.dec (fun c181 => ?_) (fun hc => absurd (by omega) hc)
     refine nilCheck rfl ?_
     refine fieldAddr st73 rfl rfl rfl ?_
     refine loadO o7 0 rfl ty31 rfl rfl ?_
     refine nilCheck rfl ?_
     refine fieldAddr st73 rfl rfl rfl ?_
     refine loadO o7 0 rfl ty3 rfl rfl ?_
     refine idxN sl31 ty38 (o7.reads 1 hRr rfl) rfl (by omega) (by omega) ?_
     refine fieldAdr (o7.reads 1 hRr rfl) (by omega) st38 rfl rfl rfl ?_
     refine loadFF (o7.reads 1 hRr rfl) ty3 (fun _ => rfl) rfl ‹_› rfl ?_
     refine Br.dec (fun hc => absurd hc (by omega)) (fun c191 => ?_)
     refine DrawVC.intro [0, 1, 2, 4, 5, 6, 7, 8, 10, 11, 12, 14, 15, 16, 17, 18, 19, 20, 22, 23, 24, 26, 27, 29, 30] [3, 9, 13, 21, 25, 28] [] [0, 1, 2, 3, 4, 5, 6, 7, 8, 9, 10, 11, 12, 13, 14, 15, 16, 17, 18, 19, 20, 21, 22, 23, 24, 25, 26, 27, 28, 29, 30] mixed (by kernel_rfl) rfl (fun _ _ _ _ h => h) ?_
     refine nilCheck rfl ?_
     refine fieldAddr st73 rfl rfl rfl ?_
     refine loadO o7 0 rfl ty26 rfl rfl ?_
     refine Br.dec (fun c195 => ?_) (fun hc => absurd (by omega) hc)
     refine nilCheck rfl ?_
     refine fieldAddr st73 rfl rfl rfl ?_
     refine loadO o7 0 rfl ty3 rfl rfl ?_
     refine nilCheck rfl ?_
     refine fieldAddr st73 rfl rfl rfl ?_
     refine loadO o7 0 rfl ty31 rfl rfl ?_
     refine lenN (o7.reads 1 hRr rfl) sl31 ?_
     refine Br.dec (fun c203 => ?_) (fun hc => absurd (by omega) hc)
     refine nilCheck rfl ?_
     refine fieldAddr st73 rfl rfl rfl ?_
     refine loadO o7 0 rfl ty31 rfl rfl ?_
     refine nilCheck rfl ?_
     refine fieldAddr st73 rfl rfl rfl ?_
     refine loadO o7 0 rfl ty3 rfl rfl ?_
     refine idxN sl31 ty38 (o7.reads 1 hRr rfl) rfl (by omega) (by omega) ?_
     refine fieldAdr (o7.reads 1 hRr rfl) (by omega) st38 rfl rfl rfl ?_
     refine loadFF (o7.reads 1 hRr rfl) ty3 (fun _ => rfl) rfl ‹_› rfl ?_
     refine Br.dec (fun hc => absurd hc (by omega)) (fun c213 => ?_)
     refine run (buildK st54 ?_)
     (refine RunVC.storeL o7 2 rfl ty54 rfl (by decide) (And.intro ⟨rfl, rfl⟩ ?_); intro m215 o215)
     first | refine RetVC.cell2 rfl o215 2 rfl ty54 rfl rfl ?_ | refine RetVC.cell1 rfl o215 2 rfl ty54 rfl rfl ?_ | refine RetVC.cellTT rfl o215 2 rfl ty54 rfl rfl ?_
     exact ⟨_, _, hE, rfl, by omega, by omega, Own.sel ‹_› [0, 1] rfl⟩
  ·have hx : L[s7.i]? = none := by simp; omega
   have hV : valueL L s7 = (none, s7) := by unfold valueL; simp only [hx]
   rw [hV] at hE
   refine Br.ff ?_
   refine DrawVC.intro [0, 1, 2, 4, 5, 6, 7, 8, 10, 11, 12, 14, 15, 16, 17, 18, 19, 20, 22, 23, 24, 26, 27, 29, 30] [3, 9, 13, 21, 25, 28] [] [0, 1, 2, 3, 4, 5, 6, 7, 8, 9, 10, 11, 12, 13, 14, 15, 16, 17, 18, 19, 20, 21, 22, 23, 24, 25, 26, 27, 28, 29, 30] mixed (by kernel_rfl) rfl (fun _ _ _ _ h => h) ?_
   refine nilCheck rfl ?_
   refine fieldAddr st73 rfl rfl rfl ?_
   refine loadO o7 0 rfl ty26 rfl rfl ?_
   refine Br.dec (fun c183 => ?_) (fun hc => absurd (by omega) hc)
   refine nilCheck rfl ?_
   refine fieldAddr st73 rfl rfl rfl ?_
   refine loadO o7 0 rfl ty3 rfl rfl ?_
   refine nilCheck rfl ?_
   refine fieldAddr st73 rfl rfl rfl ?_
   refine loadO o7 0 rfl ty31 rfl rfl ?_
   refine lenN (o7.reads 1 hRr rfl) sl31 ?_
   refine Br.dec (fun hc => absurd hc (by omega)) (fun c191 => ?_)
   refine Br.ff ?_
   refine DrawVC.intro [0, 1, 2, 4, 5, 6, 7, 8, 10, 11, 12, 14, 15, 16, 17, 18, 19, 20, 22, 23, 24, 26, 27, 29, 30] [3, 9, 13, 21, 25, 28] [] [0, 1, 2, 3, 4, 5, 6, 7, 8, 9, 10, 11, 12, 13, 14, 15, 16, 17, 18, 19, 20, 21, 22, 23, 24, 25, 26, 27, 28, 29, 30] mixed (by kernel_rfl) rfl (fun _ _ _ _ h => h) ?_
   refine nilCheck rfl ?_
   refine fieldAddr st73 rfl rfl rfl ?_
   refine loadO o7 0 rfl ty26 rfl rfl ?_
   refine Br.dec (fun c195 => ?_) (fun hc => absurd (by omega) hc)
   refine nilCheck rfl ?_
   refine fieldAddr st73 rfl rfl rfl ?_
   refine loadO o7 0 rfl ty3 rfl rfl ?_
   refine nilCheck rfl ?_
   refine fieldAddr st73 rfl rfl rfl ?_
   refine loadO o7 0 rfl ty31 rfl rfl ?_
   refine lenN (o7.reads 1 hRr rfl) sl31 ?_
   refine Br.dec (fun hc => absurd hc (by omega)) (fun c203 => ?_)
   refine Br.ff ?_
   refine run (buildK st54 ?_)
   (refine RunVC.storeL o7 2 rfl ty54 rfl (by decide) (And.intro ⟨rfl, rfl⟩ ?_); intro m205 o205)
   first | refine RetVC.cell2 rfl o205 2 rfl ty54 rfl rfl ?_ | refine RetVC.cell1 rfl o205 2 rfl ty54 rfl rfl ?_ | refine RetVC.cellTT rfl o205 2 rfl ty54 rfl rfl ?_
   exact ⟨_, _, hE, rfl, by omega, by omega, Own.sel ‹_› [0, 1] rfl⟩
 ·have hV : valueL L s7 = (none, s7) := by
   unfold valueL
   cases hx : L[s7.i]? with
   | none => simp only [hx]
   | some t => simp only [hx]; rw [if_neg (fun h => he h.1), if_neg (fun h => he h.1)]
  rw [hV] at hE
  refine Br.ff ?_
  refine DrawVC.intro [0, 1, 2, 4, 5, 6, 7, 8, 10, 11, 12, 14, 15, 16, 17, 18, 19, 20, 22, 23, 24, 26, 27, 29, 30] [3, 9, 13, 21, 25, 28] [] [0, 1, 2, 3, 4, 5, 6, 7, 8, 9, 10, 11, 12, 13, 14, 15, 16, 17, 18, 19, 20, 21, 22, 23, 24, 25, 26, 27, 28, 29, 30] mixed (by kernel_rfl) rfl (fun _ _ _ _ h => h) ?_
  refine nilCheck rfl ?_
  refine fieldAddr st73 rfl rfl rfl ?_
  refine loadO o7 0 rfl ty26 rfl rfl ?_
  refine Br.dec (fun hc => absurd hc (by omega)) (fun c193 => ?_)
  refine Br.ff ?_
  refine DrawVC.intro [0, 1, 2, 4, 5, 6, 7, 8, 10, 11, 12, 14, 15, 16, 17, 18, 19, 20, 22, 23, 24, 26, 27, 29, 30] [3, 9, 13, 21, 25, 28] [] [0, 1, 2, 3, 4, 5, 6, 7, 8, 9, 10, 11, 12, 13, 14, 15, 16, 17, 18, 19, 20, 21, 22, 23, 24, 25, 26, 27, 28, 29, 30] mixed (by kernel_rfl) rfl (fun _ _ _ _ h => h) ?_
  refine nilCheck rfl ?_
  refine fieldAddr st73 rfl rfl rfl ?_
  refine loadO o7 0 rfl ty26 rfl rfl ?_
  refine Br.dec (fun hc => absurd hc (by omega)) (fun c197 => ?_)
  refine Br.ff ?_
  refine run (buildK st54 ?_)
  (refine RunVC.storeL o7 2 rfl ty54 rfl (by decide) (And.intro ⟨rfl, rfl⟩ ?_); intro m199 o199)
  first | refine RetVC.cell2 rfl o199 2 rfl ty54 rfl rfl ?_ | refine RetVC.cell1 rfl o199 2 rfl ty54 rfl rfl ?_ | refine RetVC.cellTT rfl o199 2 rfl ty54 rfl rfl ?_
  exact ⟨_, _, hE, rfl, by omega, by omega, Own.sel ‹_› [0, 1] rfl⟩

set_option maxHeartbeats 8000000 in
set_option maxRecDepth 100000 in
theorem rconst_spec : RSpec 56 (fun bp => [.pointer (some ⟨bp, 0, none⟩)]) (fun L z => constR L z) (fun x v => v = vlV x) := by
 intro B bp z tk w L s h o hR hl hi
 unfold RSt at o
 have hE := congrFun (constR.eq_1 L z) s
 refine Spec.enter Tryz.func56 rfl Tryz.ntmps56 (by kernel_rfl) ?_
 (refine RunVC.alloc o ty54 ?_; intro b10 m10 o10)
 refine rvalue_spec.callL ‹_› rfl hR hl hi (fun a1 s1 v h1 hm hv hi1 hj1 oq => ?_)
 rw [RM.bind_of hm] at hE
 have o1 := oq
 simp only [RSt, pick, lcA, lnA, lgS, lgZ, lgN] at o1
 clear oq
 cases a1 with
 | some x =>
  have hv : v = _ := hv
  subst hv
  (refine RunVC.alloc o1 ty54 ?_; intro b20 m20 o20)
  (refine RunVC.storeL o20 3 rfl ty54 rfl (by decide) (And.intro ⟨rfl, rfl⟩ ?_); intro m21 o21)
  refine Br.ff ?_
  refine run (loadON o21 3 rfl ty54 rfl rfl rfl ?_)
  (refine RunVC.storeL o21 2 rfl ty54 rfl (by decide) (And.intro ⟨rfl, rfl⟩ ?_); intro m23 o23)
  first | refine RetVC.cell2 rfl o23 2 rfl ty54 rfl rfl ?_ | refine RetVC.cell1 rfl o23 2 rfl ty54 rfl rfl ?_ | refine RetVC.cellTT rfl o23 2 rfl ty54 rfl rfl ?_
  exact ⟨x, _, hE, rfl, by omega, by omega, Own.sel ‹_› [0, 1] rfl⟩
 | none =>
  have hv : v = _ := hv
  subst hv
  dsimp only at hE
  (refine RunVC.alloc o1 ty54 ?_; intro b30 m30 o30)
  (refine RunVC.storeL o30 3 rfl ty54 rfl (by decide) (And.intro ⟨rfl, rfl⟩ ?_); intro m31 o31)
  refine Br.tt ?_
  refine (rfail_spec 4).callL ‹_› rfl hR hl hj1 (fun a2 s2 v h2 hm hv hi2 hj2 oq => ?_)
  subst hv
  rw [RM.bind_of hm] at hE
  have o2 := oq
  simp only [RSt, pick, lcA, lnA, lgS, lgZ, lgN] at o2
  clear oq
  refine run (loadON o2 3 rfl ty54 rfl rfl rfl ?_)
  (refine RunVC.storeL o2 2 rfl ty54 rfl (by decide) (And.intro ⟨rfl, rfl⟩ ?_); intro m41 o41)
  first | refine RetVC.cell2 rfl o41 2 rfl ty54 rfl rfl ?_ | refine RetVC.cell1 rfl o41 2 rfl ty54 rfl rfl ?_ | refine RetVC.cellTT rfl o41 2 rfl ty54 rfl rfl ?_
  exact ⟨vl0, _, hE, rfl, by omega, by omega, Own.sel ‹_› [0, 1] rfl⟩

set_option maxHeartbeats 8000000 in
set_option maxRecDepth 100000 in
theorem rside_spec : RSpec 96 (fun bp => [.pointer (some ⟨bp, 0, none⟩)]) (fun L z => sideR L z) (fun x v => v = .agg ⟨opdC x⟩) := by
 intro B bp z tk w L s h o hR hl hi
 unfold RSt at o
 have hE := congrFun (sideR.eq_1 L z) s
 refine Spec.enter Tryz.func96 rfl Tryz.ntmps96 (by kernel_rfl) ?_
 (refine RunVC.alloc o ty56 ?_; intro b10 m10 o10)
 refine rvalue_spec.callL ‹_› rfl hR hl hi (fun a1 s1 v h1 hm hv hi1 hj1 oq => ?_)
 rw [RM.bind_of hm] at hE
 have o1 := oq
 simp only [RSt, pick, lcA, lnA, lgS, lgZ, lgN] at o1
 clear oq
 cases a1 with
 | some x =>
  have hv : v = _ := hv
  subst hv
  (refine RunVC.alloc o1 ty54 ?_; intro b20 m20 o20)
  (refine RunVC.storeL o20 3 rfl ty54 rfl (by decide) (And.intro ⟨rfl, rfl⟩ ?_); intro m21 o21)
  refine Br.tt ?_
  refine run (loadON o21 3 rfl ty54 rfl rfl rfl ?_)
  refine run (buildK st56 ?_)
  refine And.intro rfl ?_
  refine And.intro rfl ?_
  (refine RunVC.storeL o21 2 rfl ty56 rfl (by decide) (And.intro ⟨rfl, rfl⟩ ?_); intro m24 o24)
  first | refine RetVC.cell2 rfl o24 2 rfl ty56 rfl rfl ?_ | refine RetVC.cell1 rfl o24 2 rfl ty56 rfl rfl ?_ | refine RetVC.cellTT rfl o24 2 rfl ty56 rfl rfl ?_
  exact ⟨⟨[], [], true, x⟩, _, hE, rfl, by omega, by omega, Own.sel ‹_› [0, 1] rfl⟩
 | none =>
  have hv : v = _ := hv
  subst hv
  dsimp only at hE
  (refine RunVC.alloc o1 ty54 ?_; intro b30 m30 o30)
  (refine RunVC.storeL o30 3 rfl ty54 rfl (by decide) (And.intro ⟨rfl, rfl⟩ ?_); intro m31 o31)
  refine Br.ff ?_
  refine rname_spec.callL ‹_› rfl hR hl hj1 (fun first s2 v h2 hm hv hi2 hj2 oq => ?_)
  subst hv
  rw [RM.bind_of hm] at hE
  have o2 := oq
  simp only [RSt, pick, lcA, lnA, lgS, lgZ, lgN] at o2
  clear oq
  refine run (buildK st56 ?_)
  refine And.intro rfl ?_
  (refine RunVC.alloc o2 ty56 ?_; intro b41 m41 o41)
  (refine RunVC.storeL o41 4 rfl ty56 rfl (by decide) (And.intro ⟨rfl, rfl⟩ ?_); intro m42 o42)
  refine (rhas_spec [46]).callL ‹_› rfl hR hl hj2 (fun b s3 v h3 hm hv hi3 hj3 oq => ?_)
  subst hv
  rw [RM.bind_of hm] at hE
  have o3 := oq
  simp only [RSt, pick, lcA, lnA, lgS, lgZ, lgN] at o3
  clear oq
  cases b with
  | true =>
   rw [if_pos rfl] at hE
   refine Br.tt ?_
   refine run (fieldAddr st56 rfl rfl rfl ?_)
   refine run (loadO o3 4 rfl ty9 rfl rfl ?_)
   refine run (fieldAddr st56 rfl rfl rfl ?_)
   (refine RunVC.store o3 4 rfl ty9 rfl (by simp) (And.intro ⟨rfl, rfl⟩ ?_); intro m53 o53)
   refine rname_spec.callL ‹_› rfl hR hl hj3 (fun at_ s4 v h4 hm hv hi4 hj4 oq => ?_)
   subst hv
   rw [RM.bind_of hm] at hE
   have o4 := oq
   simp only [RSt, pick, lcA, lnA, lgS, lgZ, lgN] at o4
   clear oq
   refine run (fieldAddr st56 rfl rfl rfl ?_)
   (refine RunVC.store o4 4 rfl ty9 rfl (by simp) (And.intro ⟨rfl, rfl⟩ ?_); intro m61 o61)
   refine run (loadON o61 4 rfl ty56 rfl rfl rfl ?_)
   (refine RunVC.storeL o61 2 rfl ty56 rfl (by decide) (And.intro ⟨rfl, rfl⟩ ?_); intro m63 o63)
   first | refine RetVC.cell2 rfl o63 2 rfl ty56 rfl rfl ?_ | refine RetVC.cell1 rfl o63 2 rfl ty56 rfl rfl ?_ | refine RetVC.cellTT rfl o63 2 rfl ty56 rfl rfl ?_
   exact ⟨⟨first, at_, false, vl0⟩, _, hE, rfl, by omega, by omega, Own.sel ‹_› [0, 1] rfl⟩
  | false =>
   rw [if_neg (by decide)] at hE
   refine Br.ff ?_
   refine run (loadON o3 4 rfl ty56 rfl rfl rfl ?_)
   (refine RunVC.storeL o3 2 rfl ty56 rfl (by decide) (And.intro ⟨rfl, rfl⟩ ?_); intro m71 o71)
   first | refine RetVC.cell2 rfl o71 2 rfl ty56 rfl rfl ?_ | refine RetVC.cell1 rfl o71 2 rfl ty56 rfl rfl ?_ | refine RetVC.cellTT rfl o71 2 rfl ty56 rfl rfl ?_
   exact ⟨⟨[], first, false, vl0⟩, _, hE, rfl, by omega, by omega, Own.sel ‹_› [0, 1] rfl⟩

set_option maxHeartbeats 8000000 in
set_option maxRecDepth 100000 in
theorem rplace_spec : RSpec 51 (fun bp => [.pointer (some ⟨bp, 0, none⟩)]) (fun L z => placeR L z) (fun x v => v = .tuple ⟨[.string ⟨⟨x.1⟩⟩, .string ⟨⟨x.2⟩⟩]⟩) := by
 intro B bp z tk w L s h o hR hl hi
 unfold RSt at o
 have hE := congrFun (placeR.eq_1 L z) s
 refine Spec.enter Tryz.func51 rfl Tryz.ntmps51 (by kernel_rfl) ?_
 refine rname_spec.callL ‹_› rfl hR hl hi (fun t s1 v h1 hm hv hi1 hj1 oq => ?_)
 subst hv
 rw [RM.bind_of hm] at hE
 have o1 := oq
 simp only [RSt, pick, lcA, lnA, lgS, lgZ, lgN] at o1
 clear oq
 refine (rmust_spec [46]).callL ‹_› rfl hR hl hj1 (fun a2 s2 v h2 hm hv hi2 hj2 oq => ?_)
 subst hv
 rw [RM.bind_of hm] at hE
 have o2 := oq
 simp only [RSt, pick, lcA, lnA, lgS, lgZ, lgN] at o2
 clear oq
 refine rname_spec.callL ‹_› rfl hR hl hj2 (fun a_ s3 v h3 hm hv hi3 hj3 oq => ?_)
 subst hv
 rw [RM.bind_of hm] at hE
 have o3 := oq
 simp only [RSt, pick, lcA, lnA, lgS, lgZ, lgN] at o3
 clear oq
 refine RetVC.two rfl ?_
 exact ⟨(t, a_), _, hE, rfl, by omega, by omega, Own.sel ‹_› [0, 1] rfl⟩

set_option maxHeartbeats 8000000 in
set_option maxRecDepth 100000 in
theorem ron_spec : RSpec 52 (fun bp => [.pointer (some ⟨bp, 0, none⟩)]) (fun L z => onR L z) (fun t v => v = .string ⟨⟨t⟩⟩) := by
 intro B bp z tk w L s h o hR hl hi
 unfold RSt at o
 have hE := congrFun (onR.eq_1 L z) s
 refine Spec.enter Tryz.func52 rfl Tryz.ntmps52 (by kernel_rfl) ?_
 refine (rmust_spec [111, 110]).callL ‹_› rfl hR hl hi (fun a1 s1 v h1 hm hv hi1 hj1 oq => ?_)
 subst hv
 rw [RM.bind_of hm] at hE
 have o1 := oq
 simp only [RSt, pick, lcA, lnA, lgS, lgZ, lgN] at o1
 clear oq
 refine rname_spec.callL ‹_› rfl hR hl hj1 (fun t s2 v h2 hm hv hi2 hj2 oq => ?_)
 subst hv
 have o2 := oq
 simp only [RSt, pick, lcA, lnA, lgS, lgZ, lgN] at o2
 clear oq
 refine RetVC.one rfl ?_
 exact ⟨_, _, hE.trans hm, rfl, by omega, by omega, Own.sel ‹_› [0, 1] rfl⟩

end Go.Proofs.YtnmfanjhepepbaaGreatDoor

/- The reference's reader: names. -/
namespace Go.Proofs.YtnmfanjhepepbaaGreatDoor
open Go StillVC

set_option maxHeartbeats 8000000 in
set_option maxRecDepth 100000 in
theorem rnames_spec : RSpecI 49 (fun bp => [.pointer (some ⟨bp, 0, none⟩)]) (fun L z => namesR L z) (fun l v I => l.length ≤ 5001 ∧ I = row v 9 1 l.length (l.flatMap strC)) := by
 intro B bp z tk w L s h o hR hl hi
 unfold RSt at o
 have hE : _ = namesR L z s := (congrFun (listR.eq_1 L [44] (rnameR L z)) s).symm
 refine Spec.enter Tryz.func49 rfl Tryz.ntmps49 (by kernel_rfl) ?_
 refine rname_spec.callL ‹_› rfl hR hl hi (fun a s1 v h1 hm hv hi1 hj1 oq => ?_)
 subst hv
 have hE : listAR L [44] (rnameR L z) (L.length - s1.i + 1) [a] s1 = namesR L z s := (RM.bind_of (f := fun a => fun s => listAR L [44] (rnameR L z) (L.length - s.i + 1) [a] s) hm).symm.trans hE
 have o1 := oq
 simp only [RSt, pick, lcA, lnA, lgS, lgZ, lgN] at o1
 clear oq
 (refine RunVC.lit o1 sl42 ty9 rfl rfl (by decide) (And.intro rfl ?_); intro b20 m20 o20)
 have or := Own.boxRow ‹_› 2 rfl 1 1 1 rfl (Nat.le_refl _) (by decide)
 refine LoopVC.intro [3, 7, 8, 9, 10, 11, 12, 13] [3] (fun vs hh => ∃ (f : Nat) (acc : List (List UInt8)) (s2 : RS) (va : Option Addr) (vc : Nat), vs = [.slice va acc.length vc] ∧ listAR L [44] (rnameR L z) f acc s2 = namesR L z s ∧ L.length - s2.i < f ∧ s.i ≤ s2.i ∧ s2.i ≤ L.length ∧ acc.length ≤ s2.i + 1 ∧ Own B [box bp [w, .int .i64 s2.i, .int .i64 s2.e, .int .i64 s2.a, .int .i64 z] 73, tk, row (.slice va acc.length vc) 9 1 acc.length (acc.flatMap strC)] hh) (fun vs _ => match vs with | [.slice _ n _] => 6000 - n | _ => 0) ?_ ?_
 ·exact ⟨L.length - s1.i + 1, [a], s1, _, _, rfl, hE, by omega, hi1, hj1, by simp, or⟩
 ·rintro vs junk hh ⟨f, acc, s2, va, vc, rfl, hE, hf, hi2, hj2, hac, oh⟩
  obtain ⟨f, rfl⟩ : ∃ f', f = f' + 1 := ⟨f - 1, by omega⟩
  refine (rhas_spec [44]).callL oh rfl hR hl hj2 (fun b s3 v h2 hm hv hi3 hj3 oq => ?_)
  subst hv
  have o3 := oq
  simp only [RSt, pick, lcA, lnA, lgS, lgZ, lgN] at o3
  clear oq
  cases b with
  | false =>
   rw [listAR_no hm] at hE
   refine Br.ff ?_
   refine RetVC.one rfl ?_
   exact ⟨acc, s3, _, hE.symm, ⟨by omega, rfl⟩, by omega, hj3, Own.sel o3 [0, 1, 2] rfl⟩
  | true =>
   have hlt := hasR_lt hm
   rw [listAR_yes hm] at hE
   refine Br.tt ?_
   refine rname_spec.callL o3 rfl hR hl hj3 (fun a s4 v h4 hm4 hv hi4 hj4 oq => ?_)
   subst hv
   rw [RM.bind_of hm4] at hE
   have o4 := oq
   simp only [RSt, pick, lcA, lnA, lgS, lgZ, lgN] at o4
   clear oq
   (refine RunVC.lit o4 sl42 ty9 rfl rfl (by decide) (And.intro rfl ?_); intro b60 m60 o60)
   (refine RunVC.append o60 2 rfl sl42 ty9 (by decide) (o60.boxArr 3 rfl (by simp) (by simp)).toN (by simp [Value.oneCell']) (by simp only [maxLen]; first | omega | (simp; omega)) (by first | omega | (simp; omega)) ?_; intro v61 m61 o61)
   refine ⟨rfl, ?_⟩
   obtain ⟨ua, uc, rfl⟩ := o61.rowIs 2 rfl
   refine ⟨⟨f, acc ++ [a], s4, ua, uc, by simp, hE, by omega, by omega, hj4, by simp; omega, ?_⟩, by simp; omega⟩
   have e1 : (acc ++ [a]).flatMap strC = acc.flatMap strC ++ strC a := by rw [List.flatMap_append, List.flatMap_cons, List.flatMap_nil, List.append_nil]
   have e2 : (acc ++ [a]).length = acc.length + 1 := by simp
   rw [e1, e2]
   exact Own.sel ‹_› [0, 1, 2] rfl

end Go.Proofs.YtnmfanjhepepbaaGreatDoor
