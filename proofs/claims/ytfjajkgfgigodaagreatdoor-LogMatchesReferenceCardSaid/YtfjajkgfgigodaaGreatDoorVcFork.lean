/-
  Regions that draw their order, where two operations that act may come in either order.
-/
import Derived.Test.YtfjajkgfgigodaaGreatDoorVcDraw2
namespace Go.Proofs.YtfjajkgfgigodaaGreatDoor
open Go

/-- The orders that are walked: one operation, or one of two. -/
inductive OT where
  | done
  | one (i : Nat) (t : OT)
  | fork (i j : Nat) (t u : OT)

def OT.size : OT → Nat
  | .done => 0
  | .one _ t => t.size + 1
  | .fork _ _ t _ => t.size + 1

def unguarded (ops : Array Oper) (i : Nat) : Bool := match ops[i]? with
  | some o => o.guard.isNone
  | none => false

def ordOkT (ops : Array Oper) (st0 stR : List Nat) : OT → Array Bool → Bool
  | .done, listed => (Region.ready .any ops listed).isEmpty
  | .one i t, listed =>
    ((bif mem st0 i || mem stR i then (Region.ready .any ops listed).contains i && Region.free .any ops listed i else (Region.ready .any ops listed) == [i]) &&
      ordOkT ops st0 stR t (listed.setIfInBounds i true))
  | .fork i j t u, listed =>
    ((Region.ready .any ops listed) == [i, j] && !(mem st0 i || mem stR i) && !(mem st0 j || mem stR j) && unguarded ops i && unguarded ops j && t.size == u.size) &&
      (ordOkT ops st0 stR t (listed.setIfInBounds i true) && ordOkT ops st0 stR u (listed.setIfInBounds j true))

def vordT (E : Heap → Heap → Prop) (A : Addr → Prop) (P : Program) (L : List Oper) (st0 stR tails : List Nat) (t : OT) : List Nat → List Value → Heap → QQ → Prop :=
  OT.rec (motive := fun _ => List Nat → List Value → Heap → QQ → Prop) (fun _ s h Q => Q .normal s h) (fun i _ ih => vostepG E A P L st0 stR tails i ih)
    (fun i j _ _ iht ihu D s h Q => vostepG E A P L st0 stR tails i iht D s h Q ∧ vostepG E A P L st0 stR tails j ihu D s h Q) t

section
variable {E : Heap → Heap → Prop} {A : Addr → Prop} {P : Program} {ops : Array Oper} {Q : QQ} {w0 : World} {ds : List Deferred} {st0 stR tails : List Nat}

theorem one_sound (hE0 : ∀ h, E h h) (hEA : ∀ h h' a v, E h h' → A a → cellAt h a = some v → cellAt h' a = some v) (hp : ∀ c s s' h, Q (.panic c) s h → Q (.panic c) s' h) (hsel : Region.noSelect ops = true) (htails : tailsOk ops stR tails = true)
    {i n : Nat} {next : List Nat → List Value → Heap → QQ → Prop} {D : List Nat} {s : List Value} {w : World} {listed : Array Bool} (hs : Same w0 w) (hcl : Closed ops listed)
    (hok : (bif mem st0 i || mem stR i then (Region.ready .any ops listed).contains i && Region.free .any ops listed i else (Region.ready .any ops listed) == [i]) = true)
    (goOn : ∀ D s (w : World), Same w0 w → next D s w.heap Q → wpEG E P ops (lift w0 ds Q) (fun j => !mem tails j) n (listed.setIfInBounds i true) (act s ds) w)
    (hv : vostepG E A P ops.toList st0 stR tails i next D s w.heap Q) : wpEG E P ops (lift w0 ds Q) (fun j => !mem tails j) (n + 1) listed (act s ds) w := by
  simp only [vostepG] at hv
  cases ho : opAt ops.toList i with
  | none => simp [ho] at hv
  | some o =>
    have hi : ops[i]? = some o := by rw [← ho, ← opAt_eq]; simp
    obtain ⟨dst, op, ty, pos, after, guard⟩ := o
    have run : ∀ D D' s, Region.wanted ⟨dst, op, ty, pos, after, guard⟩ (yielded ops (act s ds).tmps) = true →
        vdopG E A P st0 stR tails i op ty D s w.heap (fun v l h' => ssetO s dst v fun s' => next (updD D' dst l) s' h' Q) Q →
        wpEG E P ops (lift w0 ds Q) (fun j => !mem tails j) (n + 1) listed (act s ds) w := fun D D' s hw hv =>
      step_runG hE0 hEA hp hsel htails hi hw hcl hs hok hv fun v l w' hs' hk => by rw [act_sput]; rw [ssetO_eq] at hk; exact goOn _ _ _ hs' hk
    have skip : ∀ D s, Region.wanted ⟨dst, op, ty, pos, after, guard⟩ (yielded ops (act s ds).tmps) = false →
        (ssetO s dst undef fun s' => next D s' w.heap Q) →
        wpEG E P ops (lift w0 ds Q) (fun j => !mem tails j) (n + 1) listed (act s ds) w := fun D s hw hk =>
      step_skipG hE0 hp hsel hi hw hcl hok (by rw [act_sput]; rw [ssetO_eq] at hk; exact goOn _ _ _ hs hk)
    cases guard with
    | none => simp only [ho] at hv; exact run _ _ _ (by simp [Region.wanted]) hv
    | some gw =>
      obtain ⟨j, want⟩ := gw
      simp only [ho] at hv
      cases hd : dstOf ops.toList j with
      | none => simp [hd] at hv
      | some g =>
        simp only [hd] at hv
        cases hm : mem D g with
        | true =>
          simp only [hm] at hv
          split at hv
          · rename_i hg
            have hy := yielded_of (ds := ds) hd hg
            cases want with
            | true => exact run _ _ _ (by simp [Region.wanted, hy]) hv
            | false => exact skip _ _ (by simp [Region.wanted, hy]) hv
          · rename_i hg
            have hy := yielded_of (ds := ds) hd hg
            cases want with
            | false => exact run _ _ _ (by simp [Region.wanted, hy]) hv
            | true => exact skip _ _ (by simp [Region.wanted, hy]) hv
          · rename_i h1 h2
            have hy := yielded_none (ds := ds) (s := s) hd (fun t e => match t, e with | true, e => h1 e | false, e => h2 e)
            exact skip _ _ (by simp [Region.wanted, hy]) hv
        | false =>
          simp only [hm] at hv
          split at hv
          · rename_i t hg
            have hy := yielded_of (ds := ds) hd hg
            cases t with
            | true =>
              have hv := hv.y rfl
              rw [ssetK_eq, sset_same s g _ hg] at hv
              cases want with
              | true => exact run _ _ _ (by simp [Region.wanted, hy]) hv
              | false => exact skip _ _ (by simp [Region.wanted, hy]) hv
            | false =>
              have hv := hv.n rfl
              rw [ssetK_eq, sset_same s g _ hg] at hv
              cases want with
              | false => exact run _ _ _ (by simp [Region.wanted, hy]) hv
              | true => exact skip _ _ (by simp [Region.wanted, hy]) hv
          · rename_i h1
            have hy := yielded_none (ds := ds) (s := s) hd (fun t e => h1 t e)
            exact skip _ _ (by simp [Region.wanted, hy]) hv


/-- One of two operations that act. -/
theorem act_sound {i n : Nat} {next : List Nat → List Value → Heap → QQ → Prop} {D : List Nat} {s : List Value} {w : World} {listed : Array Bool} (hs : Same w0 w) (hun : unguarded ops i = true) (hst : (mem st0 i || mem stR i) = false)
    (goOn : ∀ D s (w : World), Same w0 w → next D s w.heap Q → wpEG E P ops (lift w0 ds Q) (fun j => !mem tails j) n (listed.setIfInBounds i true) (act s ds) w)
    (hv : vostepG E A P ops.toList st0 stR tails i next D s w.heap Q) :
    wpOp P ops (lift w0 ds Q) i (fun a' w' => ((!mem tails i) = true → E w.heap w'.heap) ∧ wpEG E P ops (lift w0 ds Q) (fun j => !mem tails j) n (listed.setIfInBounds i true) a' w') (act s ds) w := by
  simp only [vostepG] at hv
  cases ho : opAt ops.toList i with
  | none => simp [ho] at hv
  | some o =>
    have hi : ops[i]? = some o := by rw [← ho, ← opAt_eq]; simp
    obtain ⟨dst, op, ty, pos, after, guard⟩ := o
    cases guard with
    | some g => simp [unguarded, hi] at hun
    | none =>
      simp only [ho] at hv
      unfold vdopG at hv
      simp only [Bool.or_eq_false_iff] at hst
      rw [hst.1, hst.2] at hv
      simp only [cond_false] at hv
      have fin : ∀ K' : KK, (∀ v l h', K' v l h' → (mem tails i = false → E w.heap h') ∧ ssetO s dst v fun s' => next (updD D dst l) s' h' Q) → vop P op ty D s w.heap K' Q →
          wpOp P ops (lift w0 ds Q) i (fun a' w' => ((!mem tails i) = true → E w.heap w'.heap) ∧ wpEG E P ops (lift w0 ds Q) (fun j => !mem tails j) n (listed.setIfInBounds i true) a' w') (act s ds) w := by
        intro K' hK' hv'
        unfold wpOp
        simp only [hi, Region.wanted, if_true]
        exact .inl ((vop_sound hv').run w rfl ds dst pos after none _ _
          (fun v l w' hw' hk => ⟨fun hf => (hK' v l _ hk).1 (by simpa using hf), by
            have h2 := (hK' v l _ hk).2
            rw [ssetO_eq] at h2
            rw [act_sput]
            exact goOn _ _ _ (hs.trans hw') h2⟩)
          (fun c w' hw' hq => ⟨s, rfl, hs.trans hw', hq⟩))
      cases ht : mem tails i with
      | true => rw [ht] at hv; exact ht ▸ fin _ (fun v l h' hk => ⟨fun h => (by rw [ht] at h; cases h), hk⟩) hv
      | false => rw [ht] at hv; exact ht ▸ fin _ (fun v l h' hk => ⟨fun _ => hk.1, hk.2⟩) hv

theorem vordT_sound (hE0 : ∀ h, E h h) (hEA : ∀ h h' a v, E h h' → A a → cellAt h a = some v → cellAt h' a = some v) (hp : ∀ c s s' h, Q (.panic c) s h → Q (.panic c) s' h) (hsel : Region.noSelect ops = true) (htails : tailsOk ops stR tails = true) :
    ∀ (t : OT) (D : List Nat) (s : List Value) (w : World) (listed : Array Bool), Same w0 w → Closed ops listed → ordOkT ops st0 stR t listed = true → vordT E A P ops.toList st0 stR tails t D s w.heap Q →
      wpEG E P ops (lift w0 ds Q) (fun j => !mem tails j) t.size listed (act s ds) w := by
  intro t
  induction t with
  | done => intro D s w listed hs _ hok hv; exact ⟨by simpa [ordOkT] using hok, s, rfl, hs, hv⟩
  | one i t ih =>
    intro D s w listed hs hcl hok hv
    simp only [ordOkT, Bool.and_eq_true] at hok
    obtain ⟨hok, hrest⟩ := hok
    have hready : i ∈ Region.ready .any ops listed := by
      cases hc : (mem st0 i || mem stR i) with
      | true => rw [hc] at hok; simp only [cond_true, Bool.and_eq_true] at hok; simpa using hok.1
      | false => rw [hc] at hok; simp only [cond_false, beq_iff_eq] at hok; rw [hok]; simp
    exact one_sound hE0 hEA hp hsel htails hs hcl hok (fun D s w hs hv => ih D s w _ hs (hcl.set hready) hrest hv) hv
  | fork i j t u iht ihu =>
    intro D s w listed hs hcl hok hv
    simp only [ordOkT, Bool.and_eq_true, beq_iff_eq, Bool.not_eq_true'] at hok
    obtain ⟨⟨⟨⟨⟨⟨hr, hi⟩, hj⟩, ui⟩, uj⟩, hsz⟩, h1, h2⟩ := hok
    have ri : i ∈ Region.ready .any ops listed := by rw [hr]; simp
    have rj : j ∈ Region.ready .any ops listed := by rw [hr]; simp
    refine ⟨fun h => (by rw [h] at hr; cases hr), fun k hk => ?_⟩
    rw [hr] at hk
    rcases List.mem_cons.1 hk with rfl | hk
    · exact act_sound hs ui hi (fun D s w hs hv => iht D s w _ hs (hcl.set ri) h1 hv) hv.1
    · simp only [List.mem_singleton] at hk
      subst hk
      exact act_sound hs uj hj (fun D s w hs hv => by have := ihu D s w _ hs (hcl.set rj) h2 hv; rw [← hsz] at this; exact this) hv.2

/-- The loads of one block, while other blocks are written; two operations that act in either order. -/
theorem DrawVC.introBT {id : Nat} {s : List Value} {h : Heap} (b : Nat)
    (st0 stR tails : List Nat) (t : OT) (hm : P.follows .mixedOrders = true) (hok : (Region.noSelect ops && tailsOk ops stR tails && ordOkT ops st0 stR t (Array.replicate ops.size false)) = true) (hlen : t.size = ops.size)
    (hp : ∀ c s s' h, Q (.panic c) s h → Q (.panic c) s' h) (hv : vordT (fun h h' => h'[b]? = h[b]?) (fun a => a.block = b) P ops.toList st0 stR tails t [] s h Q) : DrawVC P id ops s h Q where
  wp w0 w ds hw hs := by
    subst hw
    simp only [Bool.and_eq_true] at hok
    refine wp_region_any hm (wpEG_any (E := fun h h' => h'[b]? = h[b]?) (fl := fun j => !mem tails j) _ _ _ _ ?_)
    have hcl : Closed ops (Array.replicate ops.size false) := by
      intro j hj
      exfalso
      by_cases hlt : j < ops.size <;> simp [hlt] at hj
    have := vordT_sound (P := P) (w0 := w0) (ds := ds) (E := fun h h' => h'[b]? = h[b]?) (A := fun a => a.block = b) (fun _ => rfl) (fun h h' a v he ha hc => by subst ha; rw [cellAt_congr he]; exact hc) hp hok.1.1 hok.1.2 t [] s { w with drawn := w.drawn + 1 } _ (hs.trans ⟨rfl, rfl, rfl, by simp⟩) hcl hok.2 hv
    rw [hlen] at this
    exact this

/-- What a region leaves is said once, and the rest is walked once. -/
theorem DrawVC.join {id : Nat} {N : List Value → Heap → Prop} {s : List Value} {h : Heap} (asg lv : List Nat) (I : List Value → Heap → Prop)
    (hab : DrawVC P id ops s h (onN (fun s' h' => mask asg 0 s' = mask asg 0 s ∧ sgetsK s' lv fun vs => I vs h') Q))
    (hr : ∀ (vs : List Value) (junk : Nat → Value) (h' : Heap), I vs h' → havocK asg lv vs junk 0 s fun s1 => N s1 h') : DrawVC P id ops s h (onN N Q) where
  wp w0 w ds hw hs := by
    have key : ∀ e s' h', onN (fun s' h' => mask asg 0 s' = mask asg 0 s ∧ sgetsK s' lv fun vs => I vs h') Q e s' h' → onN N Q e s' h' := by
      refine onN_mono (fun s' h' ⟨hm, hI⟩ => ?_) (fun _ _ _ x => x)
      rw [sgetsK_eq] at hI
      have := hr (lv.map (sget s')) (sget s') h' hI
      rwa [havocK_eq, havoc_self asg lv s' s s' 0 (by simp) hm] at this
    refine wp_mono (hab.wp w0 w ds hw hs) ?_
    rintro e a w' ⟨s', rfl, hs', hq⟩
    exact ⟨s', rfl, hs', key e s' _ hq⟩

end
end Go.Proofs.YtfjajkgfgigodaaGreatDoor
