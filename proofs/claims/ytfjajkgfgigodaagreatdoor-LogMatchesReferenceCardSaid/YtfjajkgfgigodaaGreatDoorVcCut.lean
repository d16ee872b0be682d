/-
  A code that is walked in pieces: what holds between two pieces is said once.
-/
import Derived.Test.YtfjajkgfgigodaaGreatDoorVcSep
namespace Go.Proofs.YtfjajkgfgigodaaGreatDoor
open Go

/-- The first statements of a code. -/
def cutPre : Nat → Code → Code
  | 0, _ => .skip
  | k + 1, .seq a b => .seq a (cutPre k b)
  | _ + 1, c => c

/-- Those behind them. -/
def cutPost : Nat → Code → Code
  | 0, c => c
  | k + 1, .seq _ b => cutPost k b
  | _ + 1, _ => .skip

theorem vcode_cut0 {P : Program} : ∀ (k : Nat) (c : Code) (Q : QQ) (s : List Value) (h : Heap), vcode P (cutPre k c) (onN (fun s h => vcode P (cutPost k c) Q s h) Q) s h → vcode P c Q s h := by
  intro k
  induction k with
  | zero => intro c Q s h hv; exact hv
  | succ k ih =>
    intro c Q s h hv
    have other : ∀ c, vcode P c (onN (fun s h => vcode P .skip Q s h) Q) s h → vcode P c Q s h := fun c hv =>
      vcode_mono c (fun e s h hq => by cases e <;> exact hq) s h hv
    cases c with
    | seq a b =>
      refine vcode_mono a (fun e s h hq => ?_) s h hv
      cases e with
      | normal => exact ih b Q s h hq
      | _ => exact hq
    | _ => exact other _ hv

theorem vcode_cut {P : Program} {c : Code} {Q : QQ} {s : List Value} {h : Heap} (k : Nat) (asg lv : List Nat) (I : List Value → Heap → Prop)
    (hab : vcode P (cutPre k c) (onN (fun s' h' => mask asg 0 s' = mask asg 0 s ∧ sgetsK s' lv fun vs => I vs h') Q) s h)
    (hr : ∀ (vs : List Value) (junk : Nat → Value) (h' : Heap), I vs h' → havocK asg lv vs junk 0 s fun s1 => vcode P (cutPost k c) Q s1 h') : vcode P c Q s h := by
  refine vcode_cut0 k c Q s h (vcode_mono _ (onN_mono (fun s' h' ⟨hm, hI⟩ => ?_) (fun _ _ _ x => x)) s h hab)
  rw [sgetsK_eq] at hI
  have := hr (lv.map (sget s')) (sget s') h' hI
  rwa [havocK_eq, havoc_self asg lv s' s s' 0 (by simp) hm] at this

theorem havoc_len (asg lv : List Nat) (vs : List Value) (junk : Nat → Value) : ∀ (l : List Value) (k : Nat), (havoc asg lv vs junk k l).length = l.length
  | [], _ => rfl
  | _ :: l, k => by
    unfold havoc
    rw [List.length_cons, List.length_cons, havoc_len asg lv vs junk l (k + 1)]

theorem havoc_full {asg lv : List Nat} {vs : List Value} {junk : Nat → Value} : ∀ (l l' : List Value) (k : Nat), l.length = l'.length → (∀ i, k ≤ i → i < k + l.length → mem asg i = true) → havoc asg lv vs junk k l = havoc asg lv vs junk k l'
  | [], [], _, _, _ => rfl
  | [], _ :: _, _, h, _ => by simp at h
  | _ :: _, [], _, h, _ => by simp at h
  | v :: l, v' :: l', k, h, hf => by
    unfold havoc
    rw [havoc_full l l' (k + 1) (by simpa using h) (fun i h1 h2 => hf i (by omega) (by rw [List.length_cons]; omega)), hf k (Nat.le_refl _) (by rw [List.length_cons]; omega)]
    rfl

/-- The next piece, where all slots are forgotten but those that live. -/
theorem vcode_cutK {P : Program} {c : Code} {Q : QQ} {s : List Value} {h : Heap} {a l : List Nat} {vs0 : List Value} {junk0 : Nat → Value} (k : Nat) (asg lv : List Nat) (I : List Value → Heap → Prop) (hfull : ∀ i, i < s.length → mem asg i = true)
    (hab : havocK a l vs0 junk0 0 s fun s1 => vcode P (cutPre k c) (onN (fun s' h' => mask asg 0 s' = mask asg 0 s1 ∧ sgetsK s' lv fun vs => I vs h') Q) s1 h)
    (hr : ∀ (vs : List Value) (junk : Nat → Value) (h' : Heap), I vs h' → havocK asg lv vs junk 0 s fun s1 => vcode P (cutPost k c) Q s1 h') : havocK a l vs0 junk0 0 s fun s1 => vcode P c Q s1 h := by
  rw [havocK_eq] at hab ⊢
  refine vcode_cut k asg lv I hab fun vs junk h' hI => ?_
  have := hr vs junk h' hI
  rw [havocK_eq] at this ⊢
  rw [havoc_full _ s 0 (havoc_len _ _ _ _ _ _) (fun i _ hi => hfull i (by rw [havoc_len] at hi; omega))]
  exact this

theorem StillVC.toM {P : Program} {op : Op} {ty : TypeId} {s : List Value} {h : Heap} {K : KK} (r : StillVC false P op ty s h K) : StillVCA (fun a => a.block < h.size) P op ty s h K := by
  obtain ⟨v, l, reads, _, hr, hw, hk⟩ := r.ex
  exact ⟨v, l, reads, hr, fun r hr' => cellAt_lt (hr r hr'), hw, hk⟩

end Go.Proofs.YtfjajkgfgigodaaGreatDoor
