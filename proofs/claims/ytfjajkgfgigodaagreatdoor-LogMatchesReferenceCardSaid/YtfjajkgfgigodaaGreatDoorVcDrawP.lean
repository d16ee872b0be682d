/-
  Regions that draw their order, where a panic may come before operations whose slots it does not look at: the rules of XVcDraw2, for conditions that hang on the other slots.
-/
import Derived.Test.YtfjajkgfgigodaaGreatDoorVcDraw2
import Derived.Test.YtfjajkgfgigodaaGreatDoorVcDefer
namespace Go.Proofs.YtfjajkgfgigodaaGreatDoor
open Go

/-- What holds at a panic does not hang on the slots that the operations set. -/
def PanP (Q : QQ) (ops : Array Oper) : Prop := ∀ (i : Nat) (o : Oper) (d : Tmp), ops[i]? = some o → o.dst = some d → ∀ c s v h, Q (.panic c) (s.set d v) h → Q (.panic c) s h

def dstsIn (PD : List Nat) (ops : Array Oper) : Bool := ops.toList.all fun o => match o.dst with | some d => mem PD d | none => true

theorem PanP.of {Q : QQ} {ops : Array Oper} (PD : List Nat) (hd : dstsIn PD ops = true) (hp : ∀ d, mem PD d = true → ∀ c s v h, Q (.panic c) (s.set d v) h → Q (.panic c) s h) : PanP Q ops := by
  intro i o d hi ho c s v h hq
  have hm : o ∈ ops.toList := by
    have : ops.toList[i]? = some o := by simpa using hi
    exact List.mem_of_getElem? this
  have := List.all_eq_true.1 hd o hm
  rw [ho] at this
  exact hp d this c s v h hq

theorem lift_hP {Q : QQ} {ops : Array Oper} {w0 : World} {ds : List Deferred} {i : Nat} {o : Oper} (hp : PanP Q ops) (hi : ops[i]? = some o) (v : Value) : ∀ c a w, lift w0 ds Q (.panic c) (Act.put a o.dst v) w → lift w0 ds Q (.panic c) a w := by
  rintro c a w ⟨s, ha, hs, hq⟩
  cases hd : o.dst with
  | none => rw [hd] at ha; exact ⟨s, ha, hs, hq⟩
  | some d =>
    rw [hd] at ha
    have hds : a.defers = ds := by
      have : (a.put (some d) v).defers = ds := by rw [ha]; rfl
      exact this
    obtain ⟨tm, df⟩ := a
    simp only at hds
    subst hds
    have e : s = tm.toList.set d v := by
      have := congrArg Act.tmps ha
      simp [Act.put, act] at this
      have := congrArg Array.toList this
      simpa using this.symm
    subst e
    exact ⟨tm.toList, by simp [act], hs, hp i o d hi hd c _ v _ hq⟩

theorem sget_set_ne {l : List Value} {d n : Nat} {v : Value} (h : d ≠ n) : sget (l.set d v) n = sget l n := by
  rw [← sget_getD, ← sget_getD, List.getD_eq_getElem?_getD, List.getD_eq_getElem?_getD, List.getElem?_set_ne h]

section
variable {P : Program} {ops : Array Oper} {Q : QQ} {w0 : World} {ds : List Deferred} {st0 stR tails : List Nat} {E : Heap → Heap → Prop} {A : Addr → Prop}

theorem step_skipP {listed : Array Bool} {i n : Nat} {o : Oper} {s : List Value} {w : World} (hE0 : ∀ h, E h h) (hp : PanP Q ops) (hsel : Region.noSelect ops = true)
    (hi : ops[i]? = some o) (hw : Region.wanted o (yielded ops (act s ds).tmps) = false) (hcl : Closed ops listed)
    (hok : (bif mem st0 i || mem stR i then (Region.ready .any ops listed).contains i && Region.free .any ops listed i else (Region.ready .any ops listed) == [i]) = true)
    (ih : wpEG E P ops (lift w0 ds Q) (fun j => !mem tails j) n (listed.setIfInBounds i true) ((act s ds).put o.dst undef) w) :
    wpEG E P ops (lift w0 ds Q) (fun j => !mem tails j) (n + 1) listed (act s ds) w := by
  cases hc : (mem st0 i || mem stR i) with
  | true =>
    rw [hc] at hok
    simp only [cond_true, Bool.and_eq_true] at hok
    exact wpEG_first hi (Region.noSelect_spec hsel) (lift_hP hp hi _) hE0 (by simp) (.inl rfl) n listed _ w hcl (Region.free_spec hi hok.2) (by simpa using hok.1) (.inr ⟨hw, rfl⟩) (by simp) ih
  | false =>
    rw [hc] at hok
    simp only [cond_false, beq_iff_eq] at hok
    refine ⟨fun h => (by rw [h] at hok; cases hok), fun j hj => ?_⟩
    rw [hok] at hj
    simp only [List.mem_singleton] at hj; subst hj
    unfold wpOp
    simp only [hi, hw, Bool.false_eq_true, if_false]
    exact ⟨fun _ => hE0 _, ih⟩

theorem step_runP {listed : Array Bool} {i n : Nat} {dst : Option Tmp} {op : Op} {ty : TypeId} {pos : String} {after : Array Edge} {guard : Option (Nat × Bool)} {D : List Nat} {s : List Value} {w : World} {K : KK}
    (hE0 : ∀ h, E h h) (hEA : ∀ h h' a v, E h h' → A a → cellAt h a = some v → cellAt h' a = some v) (hp : PanP Q ops) (hsel : Region.noSelect ops = true) (htails : tailsOk ops stR tails = true)
    (hi : ops[i]? = some ⟨dst, op, ty, pos, after, guard⟩) (hw : Region.wanted ⟨dst, op, ty, pos, after, guard⟩ (yielded ops (act s ds).tmps) = true) (hcl : Closed ops listed) (hs : Same w0 w)
    (hok : (bif mem st0 i || mem stR i then (Region.ready .any ops listed).contains i && Region.free .any ops listed i else (Region.ready .any ops listed) == [i]) = true)
    (hv : vdopG E A P st0 stR tails i op ty D s w.heap K Q)
    (ih : ∀ v l w', Same w0 w' → K v l w'.heap → wpEG E P ops (lift w0 ds Q) (fun j => !mem tails j) n (listed.setIfInBounds i true) ((act s ds).put dst v) w') :
    wpEG E P ops (lift w0 ds Q) (fun j => !mem tails j) (n + 1) listed (act s ds) w := by
  have still : (mem st0 i || mem stR i) = true → (mem stR i = false → vopS true P op ty D s w.heap K) → (mem stR i = true → StillVCA A P op ty s w.heap K) → wpEG E P ops (lift w0 ds Q) (fun j => !mem tails j) (n + 1) listed (act s ds) w := by
    intro hc hv0 hvR
    rw [hc] at hok
    simp only [cond_true, Bool.and_eq_true] at hok
    cases hm : mem stR i with
    | false =>
      obtain ⟨v, l, reads, hre, hr, hrun, hk⟩ := (vopS_sound (hv0 hm)).ex
      have := hre rfl
      subst this
      exact wpEG_first (oi := ⟨dst, op, ty, pos, after, guard⟩) (v := v) (reads := []) hi (Region.noSelect_spec hsel) (lift_hP hp hi _) hE0 (by simp) (.inl rfl) n listed _ w hcl (Region.free_spec hi hok.2) (by simpa using hok.1) (.inl ⟨hw, fun w hw' => by rw [act_eval, execOp_head]; exact hrun w hw'⟩) (fun r hm => hr r hm) (ih v l w hs hk)
    | true =>
      obtain ⟨v, l, reads, hr, hA, hrun, hk⟩ := (hvR hm).ex
      refine wpEG_first (oi := ⟨dst, op, ty, pos, after, guard⟩) (v := v) (reads := reads) hi (Region.noSelect_spec hsel) (lift_hP hp hi _) hE0 (fun h h' he r hr' hc => hEA h h' r.1 r.2 he (hA r hr') hc) ?_ n listed _ w hcl (Region.free_spec hi hok.2) (by simpa using hok.1) (.inl ⟨hw, fun w hw' => by rw [act_eval, execOp_head]; exact hrun w hw'⟩) (fun r hm => hr r hm) (ih v l w hs hk)
      right
      intro j hne hf
      have hjt : j ∈ tails := by rw [← mem_iff]; simpa using hf
      have := List.all_eq_true.1 (List.all_eq_true.1 htails j hjt) i ((mem_iff _ _).1 hm)
      simp only [Bool.or_eq_true, beq_iff_eq] at this
      rcases this with h | h
      · exact absurd h.symm hne
      · simpa using h
  unfold vdopG at hv
  cases h0 : mem st0 i with
  | true =>
    rw [h0] at hv
    refine still (by simp [h0]) (fun _ => hv) (fun _ => ?_)
    exact (vopS_sound hv).toA
  | false =>
    rw [h0] at hv
    simp only [cond_false] at hv
    cases hR : mem stR i with
    | true => rw [hR] at hv; exact still (by simp [hR]) (fun h => by rw [hR] at h; cases h) (fun _ => vopSA_sound hv)
    | false =>
      rw [hR] at hv
      simp only [cond_false] at hv
      rw [h0, hR] at hok
      simp only [Bool.or_false, cond_false, beq_iff_eq] at hok
      have fin : ∀ K' : KK, (∀ v l h', K' v l h' → (mem tails i = false → E w.heap h') ∧ K v l h') → vop P op ty D s w.heap K' Q → wpEG E P ops (lift w0 ds Q) (fun j => !mem tails j) (n + 1) listed (act s ds) w := by
        intro K' hK' hv'
        refine ⟨fun h => (by rw [h] at hok; cases hok), fun j hj => ?_⟩
        rw [hok] at hj
        simp only [List.mem_singleton] at hj; subst hj
        unfold wpOp
        simp only [hi, hw, if_true]
        exact .inl ((vop_sound hv').run w rfl ds dst pos after guard _ _
          (fun v l w' hw' hk => ⟨fun hf => (hK' v l _ hk).1 (by simpa using hf), ih v l w' (hs.trans hw') (hK' v l _ hk).2⟩)
          (fun c w' hw' hq => ⟨s, rfl, hs.trans hw', hq⟩))
      cases ht : mem tails i with
      | true => rw [ht] at hv; exact fin K (fun v l h' hk => ⟨fun h => (by rw [ht] at h; cases h), hk⟩) hv
      | false => rw [ht] at hv; exact fin _ (fun v l h' hk => ⟨fun _ => hk.1, hk.2⟩) hv

theorem vordP_sound (hE0 : ∀ h, E h h) (hEA : ∀ h h' a v, E h h' → A a → cellAt h a = some v → cellAt h' a = some v) (hp : PanP Q ops) (hsel : Region.noSelect ops = true) (htails : tailsOk ops stR tails = true) :
    ∀ (ord : List Nat) (D : List Nat) (s : List Value) (w : World) (listed : Array Bool), Same w0 w → Closed ops listed → ordOk ops st0 stR ord listed = true → vordG E A P ops.toList st0 stR tails ord D s w.heap Q →
      wpEG E P ops (lift w0 ds Q) (fun j => !mem tails j) ord.length listed (act s ds) w
  | [], D, s, w, listed, hs, _, hok, hv => ⟨by simpa [ordOk] using hok, s, rfl, hs, hv⟩
  | i :: rest, D, s, w, listed, hs, hcl, hok, hv => by
    simp only [ordOk, Bool.and_eq_true] at hok
    obtain ⟨hok, hrest⟩ := hok
    have hready : i ∈ Region.ready .any ops listed := by
      cases hc : (mem st0 i || mem stR i) with
      | true => rw [hc] at hok; simp only [cond_true, Bool.and_eq_true] at hok; simpa using hok.1
      | false => rw [hc] at hok; simp only [cond_false, beq_iff_eq] at hok; rw [hok]; simp
    have hcl' := hcl.set hready
    have goOn : ∀ D s (w : World), Same w0 w → vordG E A P ops.toList st0 stR tails rest D s w.heap Q → wpEG E P ops (lift w0 ds Q) (fun j => !mem tails j) rest.length (listed.setIfInBounds i true) (act s ds) w :=
      fun D s w hs hv => vordP_sound hE0 hEA hp hsel htails rest D s w _ hs hcl' hrest hv
    simp only [vordG_cons, vostepG] at hv
    cases ho : opAt ops.toList i with
    | none => simp [ho] at hv
    | some o =>
      have hi : ops[i]? = some o := by rw [← ho, ← opAt_eq]; simp
      obtain ⟨dst, op, ty, pos, after, guard⟩ := o
      have run : ∀ D D' s, Region.wanted ⟨dst, op, ty, pos, after, guard⟩ (yielded ops (act s ds).tmps) = true →
          vdopG E A P st0 stR tails i op ty D s w.heap (fun v l h' => ssetO s dst v fun s' => vordG E A P ops.toList st0 stR tails rest (updD D' dst l) s' h' Q) Q →
          wpEG E P ops (lift w0 ds Q) (fun j => !mem tails j) (rest.length + 1) listed (act s ds) w := fun D D' s hw hv =>
        step_runP hE0 hEA hp hsel htails hi hw hcl hs hok hv fun v l w' hs' hk => by rw [act_sput]; rw [ssetO_eq] at hk; exact goOn _ _ _ hs' hk
      have skip : ∀ D s, Region.wanted ⟨dst, op, ty, pos, after, guard⟩ (yielded ops (act s ds).tmps) = false →
          (ssetO s dst undef fun s' => vordG E A P ops.toList st0 stR tails rest D s' w.heap Q) →
          wpEG E P ops (lift w0 ds Q) (fun j => !mem tails j) (rest.length + 1) listed (act s ds) w := fun D s hw hk =>
        step_skipP hE0 hp hsel hi hw hcl hok (by rw [act_sput]; rw [ssetO_eq] at hk; exact goOn _ _ _ hs hk)
      cases guard with
      | none => simp only [ho] at hv; exact run _ _ _ (by simp [Region.wanted]) hv
      | some gw =>
        obtain ⟨j, want⟩ := gw
        simp only [ho] at hv
        cases hd : dstOf ops.toList j with
        | none => simp [hd] at hv
        | some g =>
          simp only [hd] at hv
          cases hm : mem D g with
          | true =>
            simp only [hm] at hv
            split at hv
            · rename_i hg
              have hy := yielded_of (ds := ds) hd hg
              cases want with
              | true => exact run _ _ _ (by simp [Region.wanted, hy]) hv
              | false => exact skip _ _ (by simp [Region.wanted, hy]) hv
            · rename_i hg
              have hy := yielded_of (ds := ds) hd hg
              cases want with
              | false => exact run _ _ _ (by simp [Region.wanted, hy]) hv
              | true => exact skip _ _ (by simp [Region.wanted, hy]) hv
            · rename_i h1 h2
              have hy := yielded_none (ds := ds) (s := s) hd (fun t e => match t, e with | true, e => h1 e | false, e => h2 e)
              exact skip _ _ (by simp [Region.wanted, hy]) hv
          | false =>
            simp only [hm] at hv
            split at hv
            · rename_i t hg
              have hy := yielded_of (ds := ds) hd hg
              cases t with
              | true =>
                have hv := hv.y rfl
                rw [ssetK_eq, sset_same s g _ hg] at hv
                cases want with
                | true => exact run _ _ _ (by simp [Region.wanted, hy]) hv
                | false => exact skip _ _ (by simp [Region.wanted, hy]) hv
              | false =>
                have hv := hv.n rfl
                rw [ssetK_eq, sset_same s g _ hg] at hv
                cases want with
                | false => exact run _ _ _ (by simp [Region.wanted, hy]) hv
                | true => exact skip _ _ (by simp [Region.wanted, hy]) hv
            · rename_i h1
              have hy := yielded_none (ds := ds) (s := s) hd (fun t e => h1 t e)
              exact skip _ _ (by simp [Region.wanted, hy]) hv

/-- A region that draws and stores. -/
theorem DrawVC.introP {id : Nat} {s : List Value} {h : Heap} (E : Heap → Heap → Prop) (A : Addr → Prop) (hE0 : ∀ h, E h h) (hEA : ∀ h h' a v, E h h' → A a → cellAt h a = some v → cellAt h' a = some v)
    (st0 stR tails ord : List Nat) (hm : P.follows .mixedOrders = true) (hok : drawOk ops st0 stR tails ord = true) (hlen : ord.length = ops.size)
    (hp : PanP Q ops) (hv : vordG E A P ops.toList st0 stR tails ord [] s h Q) : DrawVC P id ops s h Q where
  wp w0 w ds hw hs := by
    subst hw
    simp only [drawOk, Bool.and_eq_true] at hok
    refine wp_region_any hm (wpEG_any (E := E) (fl := fun j => !mem tails j) _ _ _ _ ?_)
    have hcl : Closed ops (Array.replicate ops.size false) := by
      intro j hj
      exfalso
      by_cases hlt : j < ops.size <;> simp [hlt] at hj
    have := vordP_sound (P := P) (w0 := w0) (ds := ds) (E := E) (A := A) hE0 hEA hp hok.1.1 hok.1.2 ord [] s { w with drawn := w.drawn + 1 } _ (hs.trans ⟨rfl, rfl, rfl, by simp⟩) hcl hok.2 hv
    rw [hlen] at this
    exact this

/-- The loads of one block, while other blocks are written. -/
theorem DrawVC.introBP {id : Nat} {s : List Value} {h : Heap} (b : Nat)
    (st0 stR tails ord : List Nat) (hm : P.follows .mixedOrders = true) (hok : drawOk ops st0 stR tails ord = true) (hlen : ord.length = ops.size)
    (hp : PanP Q ops) (hv : vordG (fun h h' => h'[b]? = h[b]?) (fun a => a.block = b) P ops.toList st0 stR tails ord [] s h Q) : DrawVC P id ops s h Q :=
  DrawVC.introP (fun h h' => h'[b]? = h[b]?) (fun a => a.block = b) (fun _ => rfl) (fun h h' a v he ha hc => by subst ha; rw [cellAt_congr he]; exact hc) st0 stR tails ord hm hok hlen hp hv

end

/-- Another condition at a panic. -/
def panQ (I : List PanicEntry → List Value → Heap → Prop) (Q : QQ) : QQ := fun e s h =>
  match e with
  | .panic c => I c s h
  | e => Q e s h

theorem panQ_le {I : List PanicEntry → List Value → Heap → Prop} {Q : QQ} (hI : ∀ c s h, I c s h → Q (.panic c) s h) (e : Exit) (s : List Value) (h : Heap) (hq : panQ I Q e s h) : Q e s h := by
  cases e <;> first | exact hI _ _ _ hq | exact hq

/-- A region that makes a closure and defers its call; what holds at a panic is said anew. -/
theorem DeferVC.closureP {P : Program} {fn : Func} {id g t : Nat} {rest : Code} {R : Ending → Heap → Prop} {s : List Value} {h : Heap} {caps : List Operand} {ty ty' : TypeId} {pos pos' : String} {after after' : Array Edge} {tys : Array TypeId} (I : List PanicEntry → List Value → Heap → Prop) (ht : t < s.length)
    (hk : evsK s caps fun cap => (∀ c s h, I c s h → LeaveVC P fn ⟨.fn (.func g) ⟨cap⟩, #[]⟩ (.panicking c) s h R) ∧ ssetK s t (.func (.func g) ⟨[]⟩ ⟨cap⟩) fun s1 => vcode P rest (panQ I (ngQ (leaveQ P fn ⟨.fn (.func g) ⟨cap⟩, #[]⟩ R))) s1 h) :
    DeferVC P fn id #[⟨some t, .makeFunc (.func g) ⟨[]⟩ ⟨caps⟩, ty, pos, after, none⟩, ⟨none, .defer ⟨.value (.tmp t), ⟨[]⟩, tys⟩, ty', pos', after', none⟩] rest R s h := by
  refine DeferVC.closure ht ?_
  simp only [evsK_eq, ssetK_eq] at hk ⊢
  exact vcode_mono rest (panQ_le hk.1) _ _ hk.2

end Go.Proofs.YtfjajkgfgigodaaGreatDoor
