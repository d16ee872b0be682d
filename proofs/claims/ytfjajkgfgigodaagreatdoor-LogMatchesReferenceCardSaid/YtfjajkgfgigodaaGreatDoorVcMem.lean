/-
  Memory for the small program logic: what a call owns (a list of items with disjoint footprints above the heap that it began with), what it may read, and the rules of the operations that read or make memory.
-/
import Derived.Test.YtfjajkgfgigodaaGreatDoorVcRules
namespace Go.Proofs.YtfjajkgfgigodaaGreatDoor
open Go

structure Ext (h h' : Heap) : Prop where
  size : h.size ≤ h'.size
  old : ∀ b, b < h.size → h'[b]? = h[b]?

theorem Ext.refl (h : Heap) : Ext h h := ⟨Nat.le_refl _, fun _ _ => rfl⟩
theorem Ext.trans {a b c : Heap} (h : Ext a b) (k : Ext b c) : Ext a c :=
  ⟨Nat.le_trans h.size k.size, fun i hi => (k.old i (Nat.lt_of_lt_of_le hi h.size)).trans (h.old i hi)⟩

theorem cellAt_lt {h : Heap} {a : Addr} {v : Value} (hc : cellAt h a = some v) : a.block < h.size := by
  rcases Nat.lt_or_ge a.block h.size with h' | h'
  · exact h'
  · simp [cellAt, Array.getElem?_eq_none h'] at hc

theorem cellAt_congr {h h' : Heap} {a : Addr} (e : h'[a.block]? = h[a.block]?) : cellAt h' a = cellAt h a := by simp [cellAt, e]

theorem Ext.cell {h h' : Heap} (e : Ext h h') {a : Addr} {v : Value} (hc : cellAt h a = some v) : cellAt h' a = some v := by
  rw [cellAt_congr (e.old _ (cellAt_lt hc))]; exact hc

/- ITEMS -/
structure Item where
  fp : Nat → Prop
  sat : Heap → Prop
  loc : ∀ h h' : Heap, (∀ b, fp b → h'[b]? = h[b]?) → sat h → sat h'

def box (b : Nat) (cs : List Value) (t : TypeId) : Item where
  fp x := x = b
  sat h := h[b]? = some (.cells cs.toArray t (0, 0))
  loc _ _ e := fun k => (e b rfl).trans k

def rowH (h : Heap) (e : TypeId) (sz : Nat) (v : Value) (n : Nat) (xs : List Value) : Prop :=
  xs.length = n * sz ∧ ((v = .slice none 0 0 ∧ n = 0) ∨
    ∃ g cap cur, v = .slice (some ⟨g, 0, none⟩) n cap ∧ h[g]? = some (.cells cur e (0, 0)) ∧ n ≤ cap ∧ cap ≤ maxLen ∧ cur.size = cap * sz ∧ cur.toList.take (n * sz) = xs)

def row (v : Value) (e : TypeId) (sz n : Nat) (xs : List Value) : Item where
  fp x := v.ownBlock = some x
  sat h := rowH h e sz v n xs
  loc h h' eq := fun ⟨l, r⟩ => ⟨l, r.imp id fun ⟨g, cap, cur, hv, hg, rest⟩ => ⟨g, cap, cur, hv, by rw [eq g (by rw [hv]; rfl)]; exact hg, rest⟩⟩

structure OwnR (h0 : Heap) (L : List Item) (h : Heap) : Prop where
  ext : Ext h0 h
  sat : ∀ x ∈ L, x.sat h
  lo : ∀ x ∈ L, ∀ b, x.fp b → h0.size ≤ b
  hi : ∀ x ∈ L, ∀ b, x.fp b → b < h.size
  dis : L.Pairwise fun x y => ∀ b, x.fp b → ¬ y.fp b

section
variable {h0 h h' : Heap} {L L' : List Item}

theorem OwnR.refl (h : Heap) : OwnR h [] h := ⟨.refl h, by simp, by simp, by simp, .nil⟩

theorem OwnR.call (o : OwnR h0 L h) (o' : OwnR h L' h') : OwnR h0 (L ++ L') h' where
  ext := o.ext.trans o'.ext
  sat x hx := by
    rcases List.mem_append.1 hx with hx | hx
    · exact x.loc h h' (fun b hb => o'.ext.old b (o.hi x hx b hb)) (o.sat x hx)
    · exact o'.sat x hx
  lo x hx b hb := by
    rcases List.mem_append.1 hx with hx | hx
    · exact o.lo x hx b hb
    · exact Nat.le_trans o.ext.size (o'.lo x hx b hb)
  hi x hx b hb := by
    rcases List.mem_append.1 hx with hx | hx
    · exact Nat.lt_of_lt_of_le (o.hi x hx b hb) o'.ext.size
    · exact o'.hi x hx b hb
  dis := by
    refine List.pairwise_append.2 ⟨o.dis, o'.dis, fun x hx y hy b hb hb' => ?_⟩
    have h1 := o.hi x hx b hb
    have h2 := o'.lo y hy b hb'
    omega

theorem OwnR.ext' (o : OwnR h0 L h) (o' : OwnR h [] h') : OwnR h0 L h' := by
  have := o.call o'; simpa using this

def pick (L : List Item) : List Nat → List Item
  | [] => []
  | k :: ks => match L[k]? with
    | some x => x :: pick L ks
    | none => pick L ks

def mem0 : List Nat → Nat → Bool
  | [], _ => false
  | x :: l, n => bif Nat.beq x n then true else mem0 l n

/-- All indices are different. -/
def dst : List Nat → Bool
  | [] => true
  | k :: ks => !mem0 ks k && dst ks

theorem mem0_iff (l : List Nat) (n : Nat) : mem0 l n = true ↔ n ∈ l := by
  induction l with
  | nil => simp [mem0]
  | cons x l ih =>
    simp only [mem0, List.mem_cons]
    cases hb : Nat.beq x n with
    | true => have := Nat.eq_of_beq_eq_true hb; simp [this]
    | false => have := Nat.ne_of_beq_eq_false hb; simp [ih, Ne.symm this]

theorem pick_mem {L : List Item} {ks : List Nat} {x : Item} (hx : x ∈ pick L ks) : ∃ k ∈ ks, L[k]? = some x := by
  induction ks with
  | nil => simp [pick] at hx
  | cons k ks ih =>
    simp only [pick] at hx
    split at hx
    · rename_i y hy
      rcases List.mem_cons.1 hx with rfl | hx
      · exact ⟨k, by simp, hy⟩
      · obtain ⟨j, hj, hl⟩ := ih hx; exact ⟨j, by simp [hj], hl⟩
    · obtain ⟨j, hj, hl⟩ := ih hx; exact ⟨j, by simp [hj], hl⟩

theorem OwnR.dis' (o : OwnR h0 L h) {i j : Nat} {x y : Item} (hi : L[i]? = some x) (hj : L[j]? = some y) (hne : i ≠ j) : ∀ b, x.fp b → ¬ y.fp b := by
  obtain ⟨hi', hx⟩ := List.getElem?_eq_some_iff.1 hi
  obtain ⟨hj', hy⟩ := List.getElem?_eq_some_iff.1 hj
  rcases Nat.lt_or_ge i j with hlt | hge
  · have := List.pairwise_iff_getElem.1 o.dis i j hi' hj' hlt; rw [hx, hy] at this; exact this
  · have := List.pairwise_iff_getElem.1 o.dis j i hj' hi' (by omega); rw [hx, hy] at this; exact fun b h1 h2 => this b h2 h1

theorem OwnR.sel (o : OwnR h0 L h) (ks : List Nat) (hk : dst ks = true) : OwnR h0 (pick L ks) h where
  ext := o.ext
  sat x hx := by obtain ⟨k, _, hl⟩ := pick_mem hx; exact o.sat x (List.mem_of_getElem? hl)
  lo x hx := by obtain ⟨k, _, hl⟩ := pick_mem hx; exact o.lo x (List.mem_of_getElem? hl)
  hi x hx := by obtain ⟨k, _, hl⟩ := pick_mem hx; exact o.hi x (List.mem_of_getElem? hl)
  dis := by
    induction ks with
    | nil => exact .nil
    | cons k ks ih =>
      simp only [dst, Bool.and_eq_true, Bool.not_eq_true'] at hk
      simp only [pick]
      split
      · rename_i x hx
        refine List.pairwise_cons.2 ⟨fun y hy => ?_, ih hk.2⟩
        obtain ⟨j, hj, hl⟩ := pick_mem hy
        refine o.dis' hx hl fun e => ?_
        subst e
        rw [(mem0_iff _ _).2 hj] at hk
        exact Bool.noConfusion hk.1
      · exact ih hk.2

theorem OwnR.perm (o : OwnR h0 L h) (p : L.Perm L') : OwnR h0 L' h where
  ext := o.ext
  sat x hx := o.sat x (p.mem_iff.2 hx)
  lo x hx := o.lo x (p.mem_iff.2 hx)
  hi x hx := o.hi x (p.mem_iff.2 hx)
  dis := (p.pairwise_iff (fun h b h1 h2 => h b h2 h1)).1 o.dis

theorem OwnR.push {c : Array Value} {t : TypeId} (o : OwnR h0 L h) : OwnR h0 (L ++ [box h.size c.toList t]) (h.push (.cells c t)) := by
  have e : Ext h (h.push (.cells c t)) := ⟨by simp, fun b hb => by rw [Array.getElem?_push, if_neg (by omega)]⟩
  refine o.call ⟨e, ?_, ?_, ?_, List.pairwise_singleton _ _⟩
  · intro x hx; simp only [List.mem_singleton] at hx; subst hx
    simp [box]
  · intro x hx b hb; simp only [List.mem_singleton] at hx; subst hx; cases hb; exact Nat.le_refl _
  · intro x hx b hb; simp only [List.mem_singleton] at hx; subst hx; cases hb; simp

/-- The k-th item's memory has turned, and nothing else that was there. -/
theorem OwnR.set (o : OwnR h0 L h) {k : Nat} {x y : Item} (hk : L[k]? = some x) (hs : h.size ≤ h'.size) (hold : ∀ b, b < h.size → ¬ x.fp b → h'[b]? = h[b]?)
    (hy : y.sat h') (hfp : ∀ b, y.fp b → x.fp b ∨ h.size ≤ b) (hhi : ∀ b, y.fp b → b < h'.size) : OwnR h0 (L.set k y) h' := by
  obtain ⟨hk', hx⟩ := List.getElem?_eq_some_iff.1 hk
  have other : ∀ (j : Nat) (z : Item), L[j]? = some z → j ≠ k → ∀ b, z.fp b → ¬ x.fp b := by
    intro j z hz hne b hb hb'
    obtain ⟨hj', hz'⟩ := List.getElem?_eq_some_iff.1 hz
    rcases Nat.lt_or_ge j k with hlt | hge
    · have := List.pairwise_iff_getElem.1 o.dis j k hj' hk' hlt; rw [hx, hz'] at this; exact this b hb hb'
    · have := List.pairwise_iff_getElem.1 o.dis k j hk' hj' (by omega); rw [hx, hz'] at this; exact this b hb' hb
  have memSet : ∀ z ∈ L.set k y, z = y ∨ ∃ j, j ≠ k ∧ L[j]? = some z := by
    intro z hz
    obtain ⟨j, hj⟩ := List.mem_iff_getElem?.1 hz
    rw [List.getElem?_set] at hj
    split at hj
    · left; simpa using hj.symm
    · exact .inr ⟨j, by omega, hj⟩
  refine ⟨⟨Nat.le_trans o.ext.size hs, fun b hb => ?_⟩, ?_, ?_, ?_, ?_⟩
  · have hnx : ¬ x.fp b := fun hf => by have := o.lo x (List.mem_of_getElem? hk) b hf; omega
    rw [hold b (Nat.lt_of_lt_of_le hb o.ext.size) hnx]; exact o.ext.old b hb
  · intro z hz
    rcases memSet z hz with rfl | ⟨j, hne, hj⟩
    · exact hy
    · exact z.loc h h' (fun b hb => hold b (o.hi z (List.mem_of_getElem? hj) b hb) (other j z hj hne b hb)) (o.sat z (List.mem_of_getElem? hj))
  · intro z hz b hb
    rcases memSet z hz with rfl | ⟨j, hne, hj⟩
    · rcases hfp b hb with h1 | h1
      · exact o.lo x (List.mem_of_getElem? hk) b h1
      · exact Nat.le_trans o.ext.size h1
    · exact o.lo z (List.mem_of_getElem? hj) b hb
  · intro z hz b hb
    rcases memSet z hz with rfl | ⟨j, hne, hj⟩
    · exact hhi b hb
    · exact Nat.lt_of_lt_of_le (o.hi z (List.mem_of_getElem? hj) b hb) hs
  · rw [List.pairwise_iff_getElem]
    intro i j hi hj hij
    have hi' : i < L.length := by simpa using hi
    have hj' : j < L.length := by simpa using hj
    rw [List.getElem_set, List.getElem_set]
    split
    · rename_i hki
      rw [if_neg (by omega)]
      intro b hb hb'
      have hz : L[j]? = some L[j] := by simp [hj']
      rcases hfp b hb with h1 | h1
      · exact other j _ hz (by omega) b hb' h1
      · have := o.hi _ (List.mem_of_getElem? hz) b hb'; omega
    · split
      · intro b hb hb'
        have hz : L[i]? = some L[i] := by simp [hi']
        rcases hfp b hb' with h1 | h1
        · exact other i _ hz (by omega) b hb h1
        · have := o.hi _ (List.mem_of_getElem? hz) b hb; omega
      · exact List.pairwise_iff_getElem.1 o.dis i j hi' hj' hij


/- WHAT A CALL OWNS, AND WHAT IT LEAVES ALONE -/
/-- Where a call began: the heap, and the items that are its caller's and that it does not touch. -/
structure Base where
  h : Heap
  T : List Item

instance : Coe Heap Base := ⟨fun h => ⟨h, []⟩⟩

def Own (B : Base) (L : List Item) (h : Heap) : Prop := OwnR B.h (L ++ B.T) h

end
section
variable {B : Base} {h h' : Heap} {L L' : List Item}

theorem Own.ext (o : Own B L h) : Ext B.h h := OwnR.ext o
theorem Own.sat (o : Own B L h) : ∀ x ∈ L, x.sat h := fun x hx => OwnR.sat o x (List.mem_append_left _ hx)
theorem Own.hi (o : Own B L h) : ∀ x ∈ L, ∀ b, x.fp b → b < h.size := fun x hx => OwnR.hi o x (List.mem_append_left _ hx)
theorem Own.refl (h : Heap) : Own h [] h := OwnR.refl h
theorem OwnR.own {h0 : Heap} (o : OwnR h0 L h) : Own h0 L h := by unfold Own; simpa using o
theorem Own.toR {h0 : Heap} (o : Own h0 L h) : OwnR h0 L h := by unfold Own at o; simpa using o

theorem Own.callR (o : Own B L h) (o' : OwnR h L' h') : Own B (L ++ L') h' := by
  have := OwnR.call o o'
  refine this.perm ?_
  rw [List.append_assoc, List.append_assoc]
  exact List.Perm.append_left L List.perm_append_comm

theorem Own.call (o : Own B L h) (o' : Own h L' h') : Own B (L ++ L') h' := o.callR o'.toR

theorem Own.ext' (o : Own B L h) (o' : Own h [] h') : Own B L h' := by
  have := o.call o'; rwa [List.append_nil] at this

theorem pick_append_left {L T : List Item} : ∀ (ks : List Nat), (∀ k ∈ ks, k < L.length) → pick (L ++ T) ks = pick L ks
  | [], _ => rfl
  | k :: ks, h => by
    simp only [pick]
    rw [List.getElem?_append_left (h k (by simp)), pick_append_left ks (fun j hj => h j (by simp [hj]))]

theorem pick_some {L : List Item} : ∀ (ks : List Nat), pick L ks = pick L (ks.filter fun k => decide (k < L.length))
  | [] => rfl
  | k :: ks => by
    simp only [pick, List.filter_cons]
    by_cases hk : k < L.length
    · simp only [hk, decide_true, if_true, pick]; rw [pick_some ks]
    · rw [List.getElem?_eq_none (by omega)]
      simp only [hk, decide_false]
      exact pick_some ks

theorem pick_range' (L T : List Item) : ∀ (n : Nat), n ≤ T.length → pick (L ++ T) (List.range' (L.length + (T.length - n)) n) = T.drop (T.length - n)
  | 0, _ => by simp [pick]
  | n + 1, h => by
    have e : T.length - n = T.length - (n + 1) + 1 := by omega
    have ih := pick_range' L T n (by omega)
    rw [e, ← Nat.add_assoc] at ih
    rw [List.range'_succ]
    simp only [pick]
    rw [List.getElem?_append_right (by omega), Nat.add_sub_cancel_left, List.drop_eq_getElem_cons (by omega)]
    simp only [show T.length - (n + 1) < T.length by omega, getElem?_pos]
    rw [ih]

theorem dst_filter (p : Nat → Bool) : ∀ (ks : List Nat), dst ks = true → dst (ks.filter p) = true
  | [], _ => rfl
  | k :: ks, h => by
    simp only [dst, Bool.and_eq_true, Bool.not_eq_true'] at h
    rw [List.filter_cons]
    split
    · simp only [dst, Bool.and_eq_true, Bool.not_eq_true']
      refine ⟨?_, dst_filter p ks h.2⟩
      cases hm : mem0 (ks.filter p) k with
      | false => rfl
      | true =>
        have h1 := h.1
        rw [(mem0_iff _ _).2 (List.mem_filter.1 ((mem0_iff _ _).1 hm)).1] at h1
        exact Bool.noConfusion h1
    · exact dst_filter p ks h.2

theorem dst_append_range {n m : Nat} : ∀ (ks : List Nat), dst ks = true → (∀ k ∈ ks, k < n) → dst (ks ++ List.range' n m) = true
  | [], _, _ => by
    rw [List.nil_append]
    induction m generalizing n with
    | zero => rfl
    | succ m ih =>
      rw [List.range'_succ]
      simp only [dst, Bool.and_eq_true, Bool.not_eq_true']
      refine ⟨?_, ih (by simp)⟩
      cases hm : mem0 (List.range' (n + 1) m) n with
      | false => rfl
      | true => have := (mem0_iff _ _).1 hm; simp only [List.mem_range'_1] at this; omega
  | k :: ks, h, hlt => by
    simp only [dst, Bool.and_eq_true, Bool.not_eq_true'] at h
    simp only [List.cons_append, dst, Bool.and_eq_true, Bool.not_eq_true']
    refine ⟨?_, dst_append_range ks h.2 (fun j hj => hlt j (by simp [hj]))⟩
    cases hm : mem0 (ks ++ List.range' n m) k with
    | false => rfl
    | true =>
      rcases List.mem_append.1 ((mem0_iff _ _).1 hm) with hk | hk
      · have h1 := h.1; rw [(mem0_iff _ _).2 hk] at h1; exact Bool.noConfusion h1
      · have := hlt k (by simp)
        simp only [List.mem_range'_1] at hk; omega

theorem pick_append (L : List Item) : ∀ (ks js : List Nat), pick L (ks ++ js) = pick L ks ++ pick L js
  | [], js => rfl
  | k :: ks, js => by
    simp only [List.cons_append, pick]
    split
    · rw [pick_append L ks js]; rfl
    · exact pick_append L ks js

theorem Own.sel (o : Own B L h) (ks : List Nat) (hk : dst ks = true) : Own B (pick L ks) h := by
  have hf : ∀ k ∈ ks.filter (fun k => decide (k < L.length)), k < L.length := fun k hk => by simpa using (List.mem_filter.1 hk).2
  have := OwnR.sel o (ks.filter (fun k => decide (k < L.length)) ++ List.range' L.length B.T.length) (dst_append_range _ (dst_filter _ ks hk) hf)
  rw [pick_append, pick_append_left _ hf, ← pick_some] at this
  have hr := pick_range' L B.T B.T.length (Nat.le_refl _)
  rw [Nat.sub_self, Nat.add_zero, List.drop_zero] at hr
  rw [hr] at this
  exact this

/-- A call is lent some items; the others wait. -/
theorem Own.lend (o : Own B L h) (ks js : List Nat) (hk : dst (ks ++ js) = true) : Own ⟨B.h, pick L js ++ B.T⟩ (pick L ks) h := by
  have := o.sel (ks ++ js) hk
  unfold Own at this ⊢
  rwa [pick_append, List.append_assoc] at this

theorem Own.back {J K : List Item} (o : Own ⟨B.h, J ++ B.T⟩ K h) : Own B (K ++ J) h := by
  unfold Own at o ⊢
  rwa [List.append_assoc]

theorem Own.push {c : Array Value} {t : TypeId} (o : Own B L h) : Own B (L ++ [box h.size c.toList t]) (h.push (.cells c t)) := by
  have := OwnR.push (c := c) (t := t) o
  refine this.perm ?_
  rw [List.append_assoc, List.append_assoc]
  exact List.Perm.append_left L List.perm_append_comm

/-- The k-th item's memory has turned, and nothing else that was there. -/
theorem Own.set (o : Own B L h) {k : Nat} {x y : Item} (hk : L[k]? = some x) (hs : h.size ≤ h'.size) (hold : ∀ b, b < h.size → ¬ x.fp b → h'[b]? = h[b]?)
    (hy : y.sat h') (hfp : ∀ b, y.fp b → x.fp b ∨ h.size ≤ b) (hhi : ∀ b, y.fp b → b < h'.size) : Own B (L.set k y) h' := by
  obtain ⟨hk', _⟩ := List.getElem?_eq_some_iff.1 hk
  have := OwnR.set (k := k) (x := x) (y := y) o (by rw [List.getElem?_append_left hk']; exact hk) hs hold hy hfp hhi
  rwa [List.set_append_left _ _ hk'] at this

end
section
variable {h0 : Base} {h h' : Heap} {L L' : List Item}

theorem Own.old (o : Own h0 L h) {a : Addr} {v : Value} (hc : cellAt h0.h a = some v) : cellAt h a = some v := o.ext.cell hc

theorem Own.cellB (o : Own h0 L h) (k : Nat) {b : Nat} {cs : List Value} {t : TypeId} (hk : L[k]? = some (box b cs t)) (i : Nat) : cellAt h ⟨b, i, none⟩ = cs[i]? := by
  have hb : h[b]? = some (.cells cs.toArray t (0, 0)) := o.sat _ (List.mem_of_getElem? hk)
  simp [cellAt, hb]

end

/- SLICES THAT ARE READ: elements of one cell -/
def Arr (h : Heap) (v : Value) (xs : List Value) : Prop :=
  ∃ a cap, v = .slice a xs.length cap ∧ xs.length ≤ cap ∧ (xs = [] ∨ ∃ b o, a = some ⟨b, o, none⟩ ∧ ∀ i, i < xs.length → cellAt h ⟨b, o + i, none⟩ = xs[i]?)

theorem Arr.ext {h h' : Heap} {v : Value} {xs : List Value} (a : Arr h v xs) (e : Ext h h') : Arr h' v xs := by
  obtain ⟨ad, cap, hv, hl, r⟩ := a
  refine ⟨ad, cap, hv, hl, r.imp id fun ⟨b, o, ha, hc⟩ => ⟨b, o, ha, fun i hi => ?_⟩⟩
  have : xs[i]? = some xs[i] := by simp [hi]
  rw [this]; exact e.cell (by rw [hc i hi, this])

theorem Arr.nil (h : Heap) : Arr h (.slice none 0 0) [] := ⟨_, _, rfl, Nat.le_refl _, .inl rfl⟩

theorem rowH.arr {h : Heap} {e : TypeId} {v : Value} {n : Nat} {xs : List Value} (r : rowH h e 1 v n xs) : Arr h v xs := by
  obtain ⟨hl, r⟩ := r
  rcases r with ⟨rfl, rfl⟩ | ⟨g, cap, cur, rfl, hg, hn, _, hs, ht⟩
  · have : xs = [] := List.eq_nil_of_length_eq_zero (by simpa using hl)
    subst this; exact Arr.nil h
  · have hn' : xs.length = n := by simpa using hl
    refine ⟨_, cap, by rw [hn'], by omega, .inr ⟨g, 0, rfl, fun i hi => ?_⟩⟩
    rw [← ht, List.getElem?_take, if_pos (by omega)]
    simp [cellAt, hg]

theorem Own.rowArr {h0 : Base} {h : Heap} {L : List Item} (o : Own h0 L h) (k : Nat) {v : Value} {e : TypeId} {n : Nat} {xs : List Value} (hk : L[k]? = some (row v e 1 n xs)) : Arr h v xs :=
  rowH.arr (o.sat _ (List.mem_of_getElem? hk))

theorem Own.boxArr {h0 : Base} {h : Heap} {L : List Item} (o : Own h0 L h) (k : Nat) {b : Nat} {cs : List Value} {t : TypeId} (hk : L[k]? = some (box b cs t)) {n c : Nat} (hn : cs.length = n) (hc : n ≤ c) : Arr h (.slice (some ⟨b, 0, none⟩) n c) cs := by
  subst hn
  exact ⟨_, _, rfl, hc, .inr ⟨b, 0, rfl, fun i _ => by rw [Nat.zero_add]; exact o.cellB k hk i⟩⟩

/- TYPES -/
def isAggD : TypeDesc → Bool
  | .struct _ => true
  | .array _ _ => true
  | _ => false

structure TyI (P : Program) (t : TypeId) (agg : Bool) (zero : List Value) (bytes : Nat) : Prop where
  und : ∃ d, P.underlying t = some d ∧ isAggD d = agg
  info : ∃ i z, P.info? t = some i ∧ i.size = zero.length ∧ i.zero = some z ∧ z.cells = zero.toArray ∧ i.bytes = bytes

theorem TyI.mk' {P : Program} {t : TypeId} {agg : Bool} {zero : List Value} {bytes : Nat} {d : TypeDesc} {z : Value} (hd : P.underlying t = some d) (ha : isAggD d = agg)
    (hi : (P.info? t).map (fun i => (i.zero, i.size, i.bytes)) = some (some z, zero.length, bytes)) (hz : z.cells = zero.toArray) : TyI P t agg zero bytes := by
  refine ⟨⟨d, hd, ha⟩, ?_⟩
  cases hh : P.info? t with
  | none => simp [hh] at hi
  | some i => simp [hh] at hi; exact ⟨i, z, rfl, hi.2.1, hi.1, hz, hi.2.2⟩

def SliceT (P : Program) (t e : TypeId) : Prop := P.underlying t = some (.slice e)

theorem TyI.isAgg {P : Program} {t : TypeId} {agg : Bool} {zero : List Value} {bytes : Nat} (T : TyI P t agg zero bytes) (w : World) : (isAgg t).run P w = .ok agg w := by
  obtain ⟨d, hd, ha⟩ := T.und
  simp only [Go.isAgg, Sem.run_bind, run_underlying hd, Result.andThen_ok]
  subst ha
  cases d <;> simp [isAggD]

theorem TyI.sizeOf {P : Program} {t : TypeId} {agg : Bool} {zero : List Value} {bytes : Nat} (T : TyI P t agg zero bytes) (w : World) : (sizeOf t).run P w = .ok zero.length w := by
  obtain ⟨i, z, hi, hs, _⟩ := T.info
  simp [Go.sizeOf, typeInfo, hi, hs]

theorem TyI.zeroValue {P : Program} {t : TypeId} {agg : Bool} {zero : List Value} {bytes : Nat} (T : TyI P t agg zero bytes) (w : World) : ∃ z, (zeroValue t).run P w = .ok z w ∧ z.cells = zero.toArray := by
  obtain ⟨i, z, hi, hs, hz, hc, _⟩ := T.info
  exact ⟨z, by simp [Go.zeroValue, typeInfo, hi, hz], hc⟩

section
variable {P : Program} {ty : TypeId} {s : List Value} {h0 : Base} {h : Heap} {L : List Item} {K : KK} {Q : QQ}

/- ADDRESSES -/
def adr (v : Value) (i : Nat) : Value :=
  match v with
  | .slice (some a) _ _ => .pointer (some ⟨a.block, a.off + i, none⟩)
  | _ => undef

theorem StillVC.idx {pr : Bool} {t e : TypeId} {by_ : Nat} {x i : Operand} {xs : List Value} {k : IntKind} {m : Int} {agg : Bool} {z : Value} (hS : SliceT P t e) (hE : TyI P e agg [z] by_) (hA : Arr h (ev s x) xs)
    (hi : ev s i = .int k m) (h1 : 0 ≤ m) (h2 : m < xs.length) (hk : evK s x fun v => K (adr v m.toNat) false h) : StillVC pr P (.indexAddr t x i) ty s h K := by
  rw [evK_eq] at hk
  obtain ⟨a, cap, hv, _, r⟩ := hA
  rcases r with rfl | ⟨b, o, rfl, hc⟩
  · simp at h2; omega
  refine .pure' _ false (fun w => ?_) hk
  have he : P.elem t = e := by unfold SliceT at hS; simp [Program.elem, hS]
  have hS' : P.underlying t = some (.slice (P.elem t)) := by rw [he]; exact hS
  simp [execOp, hi, hv, run_indexAt_slice w t _ _ _ _ _ hS', h1, h2, he, hE.sizeOf, adr, Addr.add_lit]

theorem StillVC.load1 {t : TypeId} {x : Operand} {zero : List Value} {by_ : Nat} {a : Addr} {v : Value} (hT : TyI P t false zero by_) (hx : ev s x = .pointer (some a)) (hc : cellAt h a = some v) (hk : K v false h) : StillVC false P (.load t x) ty s h K :=
  ⟨v, false, [(a, v)], by simp, by simpa using hc, fun w hw => by
    have : w.cell? a = some v := hw (a, v) (by simp)
    simp [execOp, hx, Instr.loadAt, Instr.sureAddr, loadVar, hT.isAgg, run_load, this], hk⟩

theorem StillVC.loadA {t : TypeId} {x : Operand} {zero : List Value} {by_ : Nat} {v u : Value} {xs : List Value} {i : Nat} (hA : Arr h v xs) (hT : TyI P t false zero by_) (hx : ev s x = adr v i) (hu : xs[i]? = some u) (hk : K u false h) : StillVC false P (.load t x) ty s h K := by
  obtain ⟨a, cap, rfl, _, r⟩ := hA
  obtain ⟨hi, _⟩ := List.getElem?_eq_some_iff.1 hu
  rcases r with rfl | ⟨b, o, rfl, hc⟩
  · simp at hi
  exact .load1 hT (by simpa [adr] using hx) (by rw [hc i hi]; exact hu) hk

theorem StillVC.lenA {pr : Bool} {t e : TypeId} {x : Operand} {xs : List Value} (hA : Arr h (ev s x) xs) (hS : SliceT P t e) (hk : K (.int .i64 xs.length) false h) : StillVC pr P (.call ⟨.builtin .len, ⟨[x]⟩, ⟨[t]⟩⟩) ty s h K := by
  obtain ⟨a, cap, hv, _⟩ := hA
  refine .pure' _ false (fun w => ?_) hk
  simp [execOp, resolve, invoke, builtin, hv, Builtin.len_, run_underlying hS, goInt]

theorem StillVC.lenS {pr : Bool} {t : TypeId} {x : Operand} {l : List UInt8} (hx : ev s x = .string ⟨⟨l⟩⟩) (hS : P.underlying t = some .string) (hk : K (.int .i64 l.length) false h) : StillVC pr P (.call ⟨.builtin .len, ⟨[x]⟩, ⟨[t]⟩⟩) ty s h K := by
  refine .pure' _ false (fun w => ?_) hk
  have hz : (⟨⟨l⟩⟩ : ByteArray).size = l.length := rfl
  simp [execOp, resolve, invoke, builtin, hx, Builtin.len_, run_underlying hS, goInt, hz]

theorem StillVC.min2 {pr : Bool} {tys : Array TypeId} {x y : Operand} {k k' : IntKind} {a b : Int} (hx : ev s x = .int k a) (hy : ev s y = .int k' b) (hk : K (.int k (min a b)) false h) : StillVC pr P (.call ⟨.builtin .min, ⟨[x, y]⟩, tys⟩) ty s h K := by
  refine .pure' _ false (fun w => ?_) hk
  have : (if b < a then b else a) = min a b := by split <;> omega
  simp [execOp, resolve, invoke, builtin, hx, hy, Builtin.min_, Builtin.min2, this]

theorem StillVC.max2 {pr : Bool} {tys : Array TypeId} {x y : Operand} {k k' : IntKind} {a b : Int} (hx : ev s x = .int k a) (hy : ev s y = .int k' b) (hk : K (.int k (max a b)) false h) : StillVC pr P (.call ⟨.builtin .max, ⟨[x, y]⟩, tys⟩) ty s h K := by
  refine .pure' _ false (fun w => ?_) hk
  have : (if a < b then b else a) = max a b := by split <;> omega
  simp [execOp, resolve, invoke, builtin, hx, hy, Builtin.max_, Builtin.max2, this]

theorem StillVC.convI {pr : Bool} {src dst : TypeId} {x : Operand} {k k' : IntKind} {a : Int} {d : TypeDesc} (hx : ev s x = .int k a) (hs : P.underlying src = some d) (hd : P.underlying dst = some (.int k')) (hk : Ar k' a fun v => K v false h) : StillVC pr P (.convert src dst x) ty s h K :=
  .pure' (.int k' (k'.wrap a)) false (fun w => by simp [execOp, hx, convert, run_underlying hs, run_underlying hd, Conv.intToInt]) hk.h

theorem StillVC.strIdx {pr : Bool} {t : TypeId} {x i : Operand} {l : List UInt8} {k : IntKind} {m : Int} {c : UInt8} (hx : ev s x = .string ⟨⟨l⟩⟩) (hi : ev s i = .int k m) (hS : P.underlying t = some .string) (h1 : 0 ≤ m) (hc : l[m.toNat]? = some c) (hk : K (.int .u8 c.toNat) false h) : StillVC pr P (.index t x i) ty s h K := by
  refine .pure' _ false (fun w => ?_) hk
  have hc' : (⟨⟨l⟩⟩ : ByteArray)[m.toNat]? = some c := by
    obtain ⟨hl, he⟩ := List.getElem?_eq_some_iff.1 hc
    have : m.toNat < (⟨⟨l⟩⟩ : ByteArray).size := by simpa [ByteArray.size] using hl
    simp only [this, getElem?_pos, Option.some.injEq]
    exact he
  simp [execOp, hx, hi, Instr.index, asIntOf, run_underlying hS, h1, hc']

theorem StillVC.makeFn {pr : Bool} {fn : Fn} {first cap : List Operand} (hk : evsK s first fun a => evsK s cap fun b => K (.func fn ⟨a⟩ ⟨b⟩) false h) : StillVC pr P (.makeFunc fn ⟨first⟩ ⟨cap⟩) ty s h K :=
  .pure' (.func fn ⟨first.map (ev s)⟩ ⟨cap.map (ev s)⟩) false (fun w => by simp [execOp, Instr.makeFunc]) (by simpa only [evsK_eq] using hk)

theorem StillVC.strAdd {pr : Bool} {t t' : TypeId} {x y : Operand} {a b : List UInt8} (hx : ev s x = .string ⟨⟨a⟩⟩) (hy : ev s y = .string ⟨⟨b⟩⟩) (hl : a.length + b.length ≤ 9223372036854775807) (hk : K (.string ⟨⟨a ++ b⟩⟩) false h) : StillVC pr P (.binOp .add t x y t') ty s h K := by
  refine .pure' _ false (fun w => ?_) hk
  have happ : (⟨⟨a⟩⟩ : ByteArray) ++ ⟨⟨b⟩⟩ = ⟨⟨a ++ b⟩⟩ := by
    have : (⟨⟨a⟩⟩ ++ ⟨⟨b⟩⟩ : ByteArray).data = (⟨a⟩ : Array UInt8) ++ ⟨b⟩ := by simp
    cases h : (⟨⟨a⟩⟩ ++ ⟨⟨b⟩⟩ : ByteArray) with
    | mk d => rw [h] at this; simp only at this; subst this; simp
  have hz : ∀ l : List UInt8, (⟨⟨l⟩⟩ : ByteArray).size = l.length := fun _ => rfl
  have hsz : ¬ (9223372036854775807 < (a.length : Int) + (b.length : Int)) := by omega
  simp [execOp, hx, hy, eqGuard_at_string, binOp, Op.stringOp, hz, hsz, happ]

/- MEMORY THAT THE CALL MAKES -/
def lappK (L : List Item) (x : Item) (k : List Item → Prop) : Prop :=
  match L with
  | [] => k [x]
  | y :: L => lappK L x fun L' => k (y :: L')
theorem lappK_eq (L : List Item) (x : Item) (k : List Item → Prop) : lappK L x k = k (L ++ [x]) := by
  induction L generalizing k with
  | nil => rfl
  | cons y L ih => simp [lappK, ih]
def lsetK (L : List Item) (n : Nat) (x : Item) (k : List Item → Prop) : Prop :=
  match L, n with
  | [], _ => k []
  | _ :: L, 0 => k (x :: L)
  | y :: L, n + 1 => lsetK L n x fun L' => k (y :: L')
theorem lsetK_eq (L : List Item) (n : Nat) (x : Item) (k : List Item → Prop) : lsetK L n x k = k (L.set n x) := by
  induction L generalizing n k with
  | nil => simp [lsetK]
  | cons y L ih => cases n with
    | zero => simp [lsetK]
    | succ n => simp [lsetK, ih]

theorem RunVC.alloc {t : TypeId} {agg : Bool} {zero : List Value} {by_ : Nat} (o : Own h0 L h) (hT : TyI P t agg zero by_)
    (hk : ∀ b h', lappK L (box b zero t) fun L' => Own h0 L' h' → K (.pointer (some ⟨b, 0, none⟩)) false h') : RunVC P (.alloc t) ty s h K Q :=
  .of fun w hw => by
    subst hw
    obtain ⟨z, hz, hc⟩ := hT.zeroValue w
    refine ⟨.pointer (some ⟨w.heap.size, 0, none⟩), false, { w with heap := w.heap.push (.cells z.cells t) }, by simp [execOp, Instr.alloc, hz, newVar, newRow], ⟨rfl, rfl, rfl, by simp⟩, ?_⟩
    have := hk w.heap.size (w.heap.push (.cells z.cells t))
    rw [lappK_eq] at this
    refine this ?_
    have o' := o.push (c := z.cells) (t := t)
    rw [hc] at o' ⊢; exact o'

theorem RunVC.boxO {t : TypeId} {x : Operand} {v : Value} (o : Own h0 L h) (hx : ev s x = v)
    (hk : ∀ b h', lappK L (box b v.cells.toList t) fun L' => Own h0 L' h' → K (.pointer (some ⟨b, 0, none⟩)) false h') : RunVC P (.box t x) ty s h K Q :=
  .of fun w hw => by
    subst hw
    refine ⟨.pointer (some ⟨w.heap.size, 0, none⟩), false, { w with heap := w.heap.push (.cells v.cells t) }, by simp [execOp, Instr.box, hx, newVar, newRow], ⟨rfl, rfl, rfl, by simp⟩, ?_⟩
    have := hk w.heap.size (w.heap.push (.cells v.cells t))
    rw [lappK_eq] at this
    exact this o.push

end
end Go.Proofs.YtfjajkgfgigodaaGreatDoor
