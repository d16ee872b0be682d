/-
  Regions that draw their order and store: a store may come before a load of other memory. The loads name what they read (A); between, the heap is only changed elsewhere (E).
-/
import Derived.Test.YtfjajkgfgigodaaGreatDoorVcDraw
import Derived.Test.YtfjajkgfgigodaaGreatDoorVcLex
namespace Go.Proofs.YtfjajkgfgigodaaGreatDoor
open Go

section
variable {P : Program} {ops : Array Oper} {Q : Exit → Act → World → Prop}

/-- As the kit's wpAny, and behind each operation that fl names the heap has at most grown. -/
def wpEG (E : Heap → Heap → Prop) (P : Program) (ops : Array Oper) (Q : Exit → Act → World → Prop) (fl : Nat → Bool) : Nat → Array Bool → Act → World → Prop
  | 0, listed, a, w => Region.ready .any ops listed = [] ∧ Q .normal a w
  | n + 1, listed, a, w =>
    (Region.ready .any ops listed = [] → Q .normal a w) ∧
    ∀ i ∈ Region.ready .any ops listed, wpOp P ops Q i (fun a' w' => (fl i = true → E w.heap w'.heap) ∧ wpEG E P ops Q fl n (listed.setIfInBounds i true) a' w') a w

theorem wpEG_any {E : Heap → Heap → Prop} {fl : Nat → Bool} : ∀ (n : Nat) (listed : Array Bool) (a : Act) (w : World), wpEG E P ops Q fl n listed a w → wpAny P .any ops Q n listed a w
  | 0, _, _, _, h => h
  | n + 1, _, _, _, h => ⟨h.1, fun i hi => wpOp_mono (fun a w h => wpEG_any n _ a w h.2) (h.2 i hi)⟩

/-- An operation that only reads may be taken first. -/
theorem wpEG_first {E : Heap → Heap → Prop} {fl : Nat → Bool} {i : Nat} {oi : Oper} {v : Value} {reads : List (Addr × Value)} (hi : ops[i]? = some oi) (hsel : ∀ (j : Nat) (o : Oper) cs b, ops[j]? = some o → o.op ≠ .select cs b)
    (hQ : ∀ c a w, Q (.panic c) (a.put oi.dst v) w → Q (.panic c) a w)
    (hE0 : ∀ h, E h h) (hEA : ∀ h h', E h h' → ∀ r ∈ reads, cellAt h r.1 = some r.2 → cellAt h' r.1 = some r.2)
    (hfl : reads = [] ∨ ∀ j, j ≠ i → fl j = false → i ∈ clo ops ops.size (edges ops j)) :
    ∀ (n : Nat) (listed : Array Bool) (a : Act) (w : World), Closed ops listed →
      (∀ j oj, ops[j]? = some oj → j ≠ i → listed.getD j true = false → (∀ e ∈ oj.after, Region.binds .any e = true → e.on ≠ i) → oi.apart ops oj = true) →
      i ∈ Region.ready .any ops listed → YieldsR P ops oi v reads a → (∀ r ∈ reads, w.cell? r.1 = some r.2) →
      wpEG E P ops Q fl n (listed.setIfInBounds i true) (a.put oi.dst v) w → wpEG E P ops Q fl (n + 1) listed a w := by
  intro n
  have first : ∀ (n : Nat) (listed : Array Bool) (a : Act) (w : World), YieldsR P ops oi v reads a → (∀ r ∈ reads, w.cell? r.1 = some r.2) → wpEG E P ops Q fl n (listed.setIfInBounds i true) (a.put oi.dst v) w →
      wpOp P ops Q i (fun a' w' => (fl i = true → E w.heap w'.heap) ∧ wpEG E P ops Q fl n (listed.setIfInBounds i true) a' w') a w := fun n listed a w hy hr H =>
    hy.wpOp hi hr ⟨fun _ => hE0 _, H⟩
  induction n with
  | zero =>
    intro listed a w _ _ hr hy hrd H
    refine ⟨fun h => (by rw [h] at hr; cases hr), fun j hj => ?_⟩
    by_cases hji : j = i
    · subst hji; exact first 0 listed a w hy hrd H
    · have := ready_mono hj hji
      rw [H.1] at this
      cases this
  | succ n ih =>
    intro listed a w hcl hfree hr hy hrd H
    refine ⟨fun h => (by rw [h] at hr; cases hr), fun j hj => ?_⟩
    by_cases hji : j = i
    · subst hji; exact first (n + 1) listed a w hy hrd H
    · have h1 := H.2 j (ready_mono hj hji)
      obtain ⟨hjun, oj, hoj, hall⟩ := mem_ready.1 hj
      have hiun : listed.getD i false = false := by
        have h0 := (mem_ready.1 hr).1
        rcases Nat.lt_or_ge i listed.size with h' | h'
        · simp [h'] at h0 ⊢; exact h0
        · simp [Array.getElem?_eq_none h']
      have hnot : ∀ e ∈ oj.after, Region.binds .any e = true → e.on ≠ i := fun e he hb heq => by
        have h1 := hall e he hb
        rw [heq, hiun] at h1; cases h1
      have hflj : reads = [] ∨ fl j = true := by
        rcases hfl with h | h
        · exact .inl h
        · right
          cases hf : fl j with
          | true => rfl
          | false =>
            have := clo_listed hcl _ _ (ready_edges hj) i (h j hji hf)
            rw [hiun] at this; cases this
      have h2 := wpOp_putR hoj (hfree j oj hoj hji hjun hnot) (fun cs b => hsel i oi cs b hi) (fun cs b => hsel j oj cs b hoj) hQ hy h1
      have hfree' : ∀ k ok, ops[k]? = some ok → k ≠ i → (listed.setIfInBounds j true).getD k true = false →
          (∀ e ∈ ok.after, Region.binds .any e = true → e.on ≠ i) → oi.apart ops ok = true := fun k ok hk hki hun hno => by
        refine hfree k ok hk hki ?_ hno
        by_cases hjk : j = k
        · subst hjk; exact hjun
        · rw [getD_set_ne true hjk] at hun; exact hun
      refine wpOp_mono (fun a' w' h3 => ⟨h3.2.1, ih (listed.setIfInBounds j true) a' w' (hcl.set hj) hfree' (ready_mono hr (Ne.symm hji)) h3.1 ?_ ?_⟩) h2
      · rcases hflj with rfl | hflj
        · simp
        · intro r hr'
          exact hEA _ _ (h3.2.1 hflj) r hr' (hrd r hr')
      · rw [Array.setIfInBounds_comm _ _ hji]
        exact h3.2.2
end

/-- An operation that reads, and what it reads lies in A. -/
structure StillVCA (A : Addr → Prop) (P : Program) (op : Op) (ty : TypeId) (s : List Value) (h : Heap) (K : KK) : Prop where
  ex : ∃ (v : Value) (l : Bool) (reads : List (Addr × Value)), (∀ r ∈ reads, cellAt h r.1 = some r.2) ∧ (∀ r ∈ reads, A r.1) ∧
    (∀ w : World, (∀ r ∈ reads, w.cell? r.1 = some r.2) → (execOp (ev s) ⟨none, op, ty, "", #[], none⟩).run P w = .ok (.value v) w) ∧ K v l h

theorem StillVC.toA {A : Addr → Prop} {P : Program} {op : Op} {ty : TypeId} {s : List Value} {h : Heap} {K : KK} (r : StillVC true P op ty s h K) : StillVCA A P op ty s h K := by
  obtain ⟨v, l, reads, he, hr, hw, hk⟩ := r.ex
  have := he rfl
  subst this
  exact ⟨v, l, [], hr, by simp, hw, hk⟩

def vopSA (A : Addr → Prop) (P : Program) (op : Op) (ty : TypeId) (D : List Nat) (s : List Value) (h : Heap) (K : KK) : Prop :=
  vopF (StillVCA A P op ty s h K) (fun _ _ => False) op D s h K

theorem vopSA_sound {A : Addr → Prop} {P : Program} {op : Op} {ty : TypeId} {D : List Nat} {s : List Value} {h : Heap} {K : KK} (hv : vopSA A P op ty D s h K) : StillVCA A P op ty s h K := by
  rcases vopF_sound (pr := true) (P := P) (ty := ty) hv with h | h | ⟨f, args, tys, g, first, cap, _, _, h⟩
  · exact h
  · exact h.toA
  · exact h.elim

theorem StillVCA.load1 {A : Addr → Prop} {P : Program} {ty : TypeId} {s : List Value} {h : Heap} {K : KK} {t : TypeId} {x : Operand} {zero : List Value} {by_ : Nat} {a : Addr} {v : Value} (hT : TyI P t false zero by_) (hx : ev s x = .pointer (some a)) (hA : A a) (hc : cellAt h a = some v) (hk : K v false h) : StillVCA A P (.load t x) ty s h K :=
  ⟨v, false, [(a, v)], by simpa using hc, by simpa using hA, fun w hw => by
    have : w.cell? a = some v := hw (a, v) (by simp)
    simp [execOp, hx, Instr.loadAt, Instr.sureAddr, loadVar, hT.isAgg, run_load, this], hk⟩

/-- One operation in the walk of a region that draws: pure, reading, or acting. -/
def vdopG (E : Heap → Heap → Prop) (A : Addr → Prop) (P : Program) (st0 stR tails : List Nat) (i : Nat) (op : Op) (ty : TypeId) (D : List Nat) (s : List Value) (h : Heap) (K : KK) (Q : QQ) : Prop :=
  bif mem st0 i then vopS true P op ty D s h K
  else bif mem stR i then vopSA A P op ty D s h K
  else bif mem tails i then vop P op ty D s h K Q
  else vop P op ty D s h (fun v l h' => E h h' ∧ K v l h') Q

def vostepG (E : Heap → Heap → Prop) (A : Addr → Prop) (P : Program) (L : List Oper) (st0 stR tails : List Nat) (i : Nat) (ih : List Nat → List Value → Heap → QQ → Prop) (D : List Nat) (s : List Value) (h : Heap) (Q : QQ) : Prop :=
    match opAt L i with
    | none => False
    | some ⟨dst, op, ty, _, _, none⟩ =>
      vdopG E A P st0 stR tails i op ty D s h (fun v l h' => ssetO s dst v fun s' => ih (updD D dst l) s' h' Q) Q
    | some ⟨dst, op, ty, _, _, some (j, want)⟩ =>
      match dstOf L j with
      | none => False
      | some g =>
        match mem D g with
        | true =>
          (match sget s g with
          | .bool true =>
            (match want with
            | true => vdopG E A P st0 stR tails i op ty D s h (fun v l h' => ssetO s dst v fun s' => ih (updD D dst l) s' h' Q) Q
            | false => ssetO s dst undef fun s' => ih (updD D dst false) s' h Q)
          | .bool false =>
            (match want with
            | true => ssetO s dst undef fun s' => ih (updD D dst false) s' h Q
            | false => vdopG E A P st0 stR tails i op ty D s h (fun v l h' => ssetO s dst v fun s' => ih (updD D dst l) s' h' Q) Q)
          | _ => ssetO s dst undef fun s' => ih (updD D dst false) s' h Q)
        | false =>
          (match sget s g with
          | .bool t =>
            Br t
              (ssetK s g (.bool true) fun s =>
                match want with
                | true => vdopG E A P st0 stR tails i op ty (g :: D) s h (fun v l h' => ssetO s dst v fun s' => ih (updD (g :: D) dst l) s' h' Q) Q
                | false => ssetO s dst undef fun s' => ih (updD (g :: D) dst false) s' h Q)
              (ssetK s g (.bool false) fun s =>
                match want with
                | true => ssetO s dst undef fun s' => ih (updD (g :: D) dst false) s' h Q
                | false => vdopG E A P st0 stR tails i op ty (g :: D) s h (fun v l h' => ssetO s dst v fun s' => ih (updD (g :: D) dst l) s' h' Q) Q)
          | _ => ssetO s dst undef fun s' => ih (updD D dst false) s' h Q)

def vordG (E : Heap → Heap → Prop) (A : Addr → Prop) (P : Program) (L : List Oper) (st0 stR tails : List Nat) (l : List Nat) : List Nat → List Value → Heap → QQ → Prop :=
  List.rec (motive := fun _ => List Nat → List Value → Heap → QQ → Prop) (fun _ s h Q => Q .normal s h) (fun i _ ih => vostepG E A P L st0 stR tails i ih) l

theorem vordG_cons (E : Heap → Heap → Prop) (A : Addr → Prop) (P : Program) (L : List Oper) (st0 stR tails : List Nat) (i : Nat) (rest D : List Nat) (s : List Value) (h : Heap) (Q : QQ) : vordG E A P L st0 stR tails (i :: rest) D s h Q = vostepG E A P L st0 stR tails i (vordG E A P L st0 stR tails rest) D s h Q := rfl

section
variable {P : Program} {ops : Array Oper} {Q : QQ} {w0 : World} {ds : List Deferred} {st0 stR tails : List Nat} {E : Heap → Heap → Prop} {A : Addr → Prop}

theorem step_skipG {listed : Array Bool} {i n : Nat} {o : Oper} {s : List Value} {w : World} (hE0 : ∀ h, E h h) (hp : ∀ c s s' h, Q (.panic c) s h → Q (.panic c) s' h) (hsel : Region.noSelect ops = true)
    (hi : ops[i]? = some o) (hw : Region.wanted o (yielded ops (act s ds).tmps) = false) (hcl : Closed ops listed)
    (hok : (bif mem st0 i || mem stR i then (Region.ready .any ops listed).contains i && Region.free .any ops listed i else (Region.ready .any ops listed) == [i]) = true)
    (ih : wpEG E P ops (lift w0 ds Q) (fun j => !mem tails j) n (listed.setIfInBounds i true) ((act s ds).put o.dst undef) w) :
    wpEG E P ops (lift w0 ds Q) (fun j => !mem tails j) (n + 1) listed (act s ds) w := by
  cases hc : (mem st0 i || mem stR i) with
  | true =>
    rw [hc] at hok
    simp only [cond_true, Bool.and_eq_true] at hok
    exact wpEG_first hi (Region.noSelect_spec hsel) (lift_hQ hp _ _) hE0 (by simp) (.inl rfl) n listed _ w hcl (Region.free_spec hi hok.2) (by simpa using hok.1) (.inr ⟨hw, rfl⟩) (by simp) ih
  | false =>
    rw [hc] at hok
    simp only [cond_false, beq_iff_eq] at hok
    refine ⟨fun h => (by rw [h] at hok; cases hok), fun j hj => ?_⟩
    rw [hok] at hj
    simp only [List.mem_singleton] at hj; subst hj
    unfold wpOp
    simp only [hi, hw, Bool.false_eq_true, if_false]
    exact ⟨fun _ => hE0 _, ih⟩

theorem step_runG {listed : Array Bool} {i n : Nat} {dst : Option Tmp} {op : Op} {ty : TypeId} {pos : String} {after : Array Edge} {guard : Option (Nat × Bool)} {D : List Nat} {s : List Value} {w : World} {K : KK}
    (hE0 : ∀ h, E h h) (hEA : ∀ h h' a v, E h h' → A a → cellAt h a = some v → cellAt h' a = some v) (hp : ∀ c s s' h, Q (.panic c) s h → Q (.panic c) s' h) (hsel : Region.noSelect ops = true) (htails : tailsOk ops stR tails = true)
    (hi : ops[i]? = some ⟨dst, op, ty, pos, after, guard⟩) (hw : Region.wanted ⟨dst, op, ty, pos, after, guard⟩ (yielded ops (act s ds).tmps) = true) (hcl : Closed ops listed) (hs : Same w0 w)
    (hok : (bif mem st0 i || mem stR i then (Region.ready .any ops listed).contains i && Region.free .any ops listed i else (Region.ready .any ops listed) == [i]) = true)
    (hv : vdopG E A P st0 stR tails i op ty D s w.heap K Q)
    (ih : ∀ v l w', Same w0 w' → K v l w'.heap → wpEG E P ops (lift w0 ds Q) (fun j => !mem tails j) n (listed.setIfInBounds i true) ((act s ds).put dst v) w') :
    wpEG E P ops (lift w0 ds Q) (fun j => !mem tails j) (n + 1) listed (act s ds) w := by
  have still : (mem st0 i || mem stR i) = true → (mem stR i = false → vopS true P op ty D s w.heap K) → (mem stR i = true → StillVCA A P op ty s w.heap K) → wpEG E P ops (lift w0 ds Q) (fun j => !mem tails j) (n + 1) listed (act s ds) w := by
    intro hc hv0 hvR
    rw [hc] at hok
    simp only [cond_true, Bool.and_eq_true] at hok
    cases hm : mem stR i with
    | false =>
      obtain ⟨v, l, reads, hre, hr, hrun, hk⟩ := (vopS_sound (hv0 hm)).ex
      have := hre rfl
      subst this
      exact wpEG_first (oi := ⟨dst, op, ty, pos, after, guard⟩) (v := v) (reads := []) hi (Region.noSelect_spec hsel) (lift_hQ hp _ _) hE0 (by simp) (.inl rfl) n listed _ w hcl (Region.free_spec hi hok.2) (by simpa using hok.1) (.inl ⟨hw, fun w hw' => by rw [act_eval, execOp_head]; exact hrun w hw'⟩) (fun r hm => hr r hm) (ih v l w hs hk)
    | true =>
      obtain ⟨v, l, reads, hr, hA, hrun, hk⟩ := (hvR hm).ex
      refine wpEG_first (oi := ⟨dst, op, ty, pos, after, guard⟩) (v := v) (reads := reads) hi (Region.noSelect_spec hsel) (lift_hQ hp _ _) hE0 (fun h h' he r hr' hc => hEA h h' r.1 r.2 he (hA r hr') hc) ?_ n listed _ w hcl (Region.free_spec hi hok.2) (by simpa using hok.1) (.inl ⟨hw, fun w hw' => by rw [act_eval, execOp_head]; exact hrun w hw'⟩) (fun r hm => hr r hm) (ih v l w hs hk)
      right
      intro j hne hf
      have hjt : j ∈ tails := by rw [← mem_iff]; simpa using hf
      have := List.all_eq_true.1 (List.all_eq_true.1 htails j hjt) i ((mem_iff _ _).1 hm)
      simp only [Bool.or_eq_true, beq_iff_eq] at this
      rcases this with h | h
      · exact absurd h.symm hne
      · simpa using h
  unfold vdopG at hv
  cases h0 : mem st0 i with
  | true =>
    rw [h0] at hv
    refine still (by simp [h0]) (fun _ => hv) (fun _ => ?_)
    exact (vopS_sound hv).toA
  | false =>
    rw [h0] at hv
    simp only [cond_false] at hv
    cases hR : mem stR i with
    | true => rw [hR] at hv; exact still (by simp [hR]) (fun h => by rw [hR] at h; cases h) (fun _ => vopSA_sound hv)
    | false =>
      rw [hR] at hv
      simp only [cond_false] at hv
      rw [h0, hR] at hok
      simp only [Bool.or_false, cond_false, beq_iff_eq] at hok
      have fin : ∀ K' : KK, (∀ v l h', K' v l h' → (mem tails i = false → E w.heap h') ∧ K v l h') → vop P op ty D s w.heap K' Q → wpEG E P ops (lift w0 ds Q) (fun j => !mem tails j) (n + 1) listed (act s ds) w := by
        intro K' hK' hv'
        refine ⟨fun h => (by rw [h] at hok; cases hok), fun j hj => ?_⟩
        rw [hok] at hj
        simp only [List.mem_singleton] at hj; subst hj
        unfold wpOp
        simp only [hi, hw, if_true]
        exact .inl ((vop_sound hv').run w rfl ds dst pos after guard _ _
          (fun v l w' hw' hk => ⟨fun hf => (hK' v l _ hk).1 (by simpa using hf), ih v l w' (hs.trans hw') (hK' v l _ hk).2⟩)
          (fun c w' hw' hq => ⟨s, rfl, hs.trans hw', hq⟩))
      cases ht : mem tails i with
      | true => rw [ht] at hv; exact fin K (fun v l h' hk => ⟨fun h => (by rw [ht] at h; cases h), hk⟩) hv
      | false => rw [ht] at hv; exact fin _ (fun v l h' hk => ⟨fun _ => hk.1, hk.2⟩) hv

theorem vordG_sound (hE0 : ∀ h, E h h) (hEA : ∀ h h' a v, E h h' → A a → cellAt h a = some v → cellAt h' a = some v) (hp : ∀ c s s' h, Q (.panic c) s h → Q (.panic c) s' h) (hsel : Region.noSelect ops = true) (htails : tailsOk ops stR tails = true) :
    ∀ (ord : List Nat) (D : List Nat) (s : List Value) (w : World) (listed : Array Bool), Same w0 w → Closed ops listed → ordOk ops st0 stR ord listed = true → vordG E A P ops.toList st0 stR tails ord D s w.heap Q →
      wpEG E P ops (lift w0 ds Q) (fun j => !mem tails j) ord.length listed (act s ds) w
  | [], D, s, w, listed, hs, _, hok, hv => ⟨by simpa [ordOk] using hok, s, rfl, hs, hv⟩
  | i :: rest, D, s, w, listed, hs, hcl, hok, hv => by
    simp only [ordOk, Bool.and_eq_true] at hok
    obtain ⟨hok, hrest⟩ := hok
    have hready : i ∈ Region.ready .any ops listed := by
      cases hc : (mem st0 i || mem stR i) with
      | true => rw [hc] at hok; simp only [cond_true, Bool.and_eq_true] at hok; simpa using hok.1
      | false => rw [hc] at hok; simp only [cond_false, beq_iff_eq] at hok; rw [hok]; simp
    have hcl' := hcl.set hready
    have goOn : ∀ D s (w : World), Same w0 w → vordG E A P ops.toList st0 stR tails rest D s w.heap Q → wpEG E P ops (lift w0 ds Q) (fun j => !mem tails j) rest.length (listed.setIfInBounds i true) (act s ds) w :=
      fun D s w hs hv => vordG_sound hE0 hEA hp hsel htails rest D s w _ hs hcl' hrest hv
    simp only [vordG_cons, vostepG] at hv
    cases ho : opAt ops.toList i with
    | none => simp [ho] at hv
    | some o =>
      have hi : ops[i]? = some o := by rw [← ho, ← opAt_eq]; simp
      obtain ⟨dst, op, ty, pos, after, guard⟩ := o
      have run : ∀ D D' s, Region.wanted ⟨dst, op, ty, pos, after, guard⟩ (yielded ops (act s ds).tmps) = true →
          vdopG E A P st0 stR tails i op ty D s w.heap (fun v l h' => ssetO s dst v fun s' => vordG E A P ops.toList st0 stR tails rest (updD D' dst l) s' h' Q) Q →
          wpEG E P ops (lift w0 ds Q) (fun j => !mem tails j) (rest.length + 1) listed (act s ds) w := fun D D' s hw hv =>
        step_runG hE0 hEA hp hsel htails hi hw hcl hs hok hv fun v l w' hs' hk => by rw [act_sput]; rw [ssetO_eq] at hk; exact goOn _ _ _ hs' hk
      have skip : ∀ D s, Region.wanted ⟨dst, op, ty, pos, after, guard⟩ (yielded ops (act s ds).tmps) = false →
          (ssetO s dst undef fun s' => vordG E A P ops.toList st0 stR tails rest D s' w.heap Q) →
          wpEG E P ops (lift w0 ds Q) (fun j => !mem tails j) (rest.length + 1) listed (act s ds) w := fun D s hw hk =>
        step_skipG hE0 hp hsel hi hw hcl hok (by rw [act_sput]; rw [ssetO_eq] at hk; exact goOn _ _ _ hs hk)
      cases guard with
      | none => simp only [ho] at hv; exact run _ _ _ (by simp [Region.wanted]) hv
      | some gw =>
        obtain ⟨j, want⟩ := gw
        simp only [ho] at hv
        cases hd : dstOf ops.toList j with
        | none => simp [hd] at hv
        | some g =>
          simp only [hd] at hv
          cases hm : mem D g with
          | true =>
            simp only [hm] at hv
            split at hv
            · rename_i hg
              have hy := yielded_of (ds := ds) hd hg
              cases want with
              | true => exact run _ _ _ (by simp [Region.wanted, hy]) hv
              | false => exact skip _ _ (by simp [Region.wanted, hy]) hv
            · rename_i hg
              have hy := yielded_of (ds := ds) hd hg
              cases want with
              | false => exact run _ _ _ (by simp [Region.wanted, hy]) hv
              | true => exact skip _ _ (by simp [Region.wanted, hy]) hv
            · rename_i h1 h2
              have hy := yielded_none (ds := ds) (s := s) hd (fun t e => match t, e with | true, e => h1 e | false, e => h2 e)
              exact skip _ _ (by simp [Region.wanted, hy]) hv
          | false =>
            simp only [hm] at hv
            split at hv
            · rename_i t hg
              have hy := yielded_of (ds := ds) hd hg
              cases t with
              | true =>
                have hv := hv.y rfl
                rw [ssetK_eq, sset_same s g _ hg] at hv
                cases want with
                | true => exact run _ _ _ (by simp [Region.wanted, hy]) hv
                | false => exact skip _ _ (by simp [Region.wanted, hy]) hv
              | false =>
                have hv := hv.n rfl
                rw [ssetK_eq, sset_same s g _ hg] at hv
                cases want with
                | false => exact run _ _ _ (by simp [Region.wanted, hy]) hv
                | true => exact skip _ _ (by simp [Region.wanted, hy]) hv
            · rename_i h1
              have hy := yielded_none (ds := ds) (s := s) hd (fun t e => h1 t e)
              exact skip _ _ (by simp [Region.wanted, hy]) hv

/-- A region that draws and stores. -/
theorem DrawVC.introG {id : Nat} {s : List Value} {h : Heap} (E : Heap → Heap → Prop) (A : Addr → Prop) (hE0 : ∀ h, E h h) (hEA : ∀ h h' a v, E h h' → A a → cellAt h a = some v → cellAt h' a = some v)
    (st0 stR tails ord : List Nat) (hm : P.follows .mixedOrders = true) (hok : drawOk ops st0 stR tails ord = true) (hlen : ord.length = ops.size)
    (hp : ∀ c s s' h, Q (.panic c) s h → Q (.panic c) s' h) (hv : vordG E A P ops.toList st0 stR tails ord [] s h Q) : DrawVC P id ops s h Q where
  wp w0 w ds hw hs := by
    subst hw
    simp only [drawOk, Bool.and_eq_true] at hok
    refine wp_region_any hm (wpEG_any (E := E) (fl := fun j => !mem tails j) _ _ _ _ ?_)
    have hcl : Closed ops (Array.replicate ops.size false) := by
      intro j hj
      exfalso
      by_cases hlt : j < ops.size <;> simp [hlt] at hj
    have := vordG_sound (P := P) (w0 := w0) (ds := ds) (E := E) (A := A) hE0 hEA hp hok.1.1 hok.1.2 ord [] s { w with drawn := w.drawn + 1 } _ (hs.trans ⟨rfl, rfl, rfl, by simp⟩) hcl hok.2 hv
    rw [hlen] at this
    exact this

/-- The loads of one block, while other blocks are written. -/
theorem DrawVC.introB {id : Nat} {s : List Value} {h : Heap} (b : Nat)
    (st0 stR tails ord : List Nat) (hm : P.follows .mixedOrders = true) (hok : drawOk ops st0 stR tails ord = true) (hlen : ord.length = ops.size)
    (hp : ∀ c s s' h, Q (.panic c) s h → Q (.panic c) s' h) (hv : vordG (fun h h' => h'[b]? = h[b]?) (fun a => a.block = b) P ops.toList st0 stR tails ord [] s h Q) : DrawVC P id ops s h Q :=
  DrawVC.introG (fun h h' => h'[b]? = h[b]?) (fun a => a.block = b) (fun _ => rfl) (fun h h' a v he ha hc => by subst ha; rw [cellAt_congr he]; exact hc) st0 stR tails ord hm hok hlen hp hv

end
theorem results_cell_tt {P : Program} {s : List Value} {h : Heap} {h0 : Base} {L : List Item} {fn : Func} {a t : TypeId} {u x : Tmp} (hf : fn.results = #[.cell a t, .tmp u, .tmp x]) {zero : List Value} {by_ : Nat} {b : Nat} {vs : List Value} {t' : TypeId} (o : Own h0 L h) (k : Nat) (hk : L[k]? = some (box b vs t'))
    (hT : TyI P t true zero by_) (hl : vs.length = zero.length) (ha : sget s a = .pointer (some ⟨b, 0, none⟩)) (w : World) (hw : w.heap = h) :
    (results fn s.toArray).run P w = .ok (.tuple ⟨[.agg ⟨vs⟩, sget s u, sget s x]⟩) w := by
  have hc := run_loadCellsFrom (P := P) (w := w) (a := ⟨b, 0, none⟩) vs 0 #[] (fun j hj => by
    rw [Nat.zero_add, Addr.add_lit, Nat.zero_add, cellAt_eq, hw]; exact o.cellB k hk j)
  have e1 : s.toArray.getD a undef = .pointer (some ⟨b, 0, none⟩) := by rw [← ha, ← sget_getD]; simp
  have e2 : s.toArray.getD u undef = sget s u := by rw [← sget_getD]; simp
  have e3 : s.toArray.getD x undef = sget s x := by rw [← sget_getD]; simp
  simp only [Array.getD_eq_getD_getElem?, List.getElem?_toArray] at e1 e2 e3
  simp [results, hf, e1, e2, e3, asAddr, loadVar, hT.isAgg, hT.sizeOf, ← hl, loadCells, hc]

/-- A struct result that lies in a box of the call's own, and two more results. -/
theorem RetVC.cellTT {P : Program} {s : List Value} {h : Heap} {h0 : Base} {L : List Item} {fn : Func} {a t : TypeId} {u x : Tmp} {R : Value → Heap → Prop} (hf : fn.results = #[.cell a t, .tmp u, .tmp x]) {zero : List Value} {by_ : Nat} {b : Nat} {vs : List Value} {t' : TypeId} (o : Own h0 L h) (k : Nat) (hk : L[k]? = some (box b vs t'))
    (hT : TyI P t true zero by_) (hl : vs.length = zero.length) (ha : sget s a = .pointer (some ⟨b, 0, none⟩)) (hr : R (.tuple ⟨[.agg ⟨vs⟩, sget s u, sget s x]⟩) h) : RetVC P fn s h R where
  ex := ⟨_, fun w hw => results_cell_tt hf o k hk hT hl ha w hw, hr⟩

theorem StillVC.loadFT {P : Program} {ty : TypeId} {s : List Value} {h : Heap} {K : KK} {α : Type} {t : TypeId} {x : Operand} {zero : List Value} {by_ n i : Nat} {v : Value} {f : α → List Value} {ys : List α} {y : α} (hT : TyI P t true zero by_) (hA : ArrN zero.length h v n (ys.flatMap f)) (hf : ∀ y, (f y).length = zero.length) (hz : 0 < zero.length)
    (hx : ev s x = adr v (i * zero.length)) (hy : ys[i]? = some y) (hk : K (.agg ⟨f y⟩) false h) : StillVC false P (.load t x) ty s h K :=
  .loadF hA hT hf hz hx hy hk

/- SLICES OF STRUCTS THAT ARE CUT -/
theorem StillVC.sliceFN {pr : Bool} {P : Program} {ty : TypeId} {s : List Value} {h : Heap} {K : KK} {t e : TypeId} {by_ n : Nat} {x l : Operand} {agg : Bool} {zero xs : List Value} {k : IntKind} {i : Int} (hS : SliceT P t e) (hE : TyI P e agg zero by_) (hA : ArrN zero.length h (ev s x) n xs)
    (hl : ev s l = .int k i) (h0 : 0 ≤ i) (h1 : i ≤ n) (hk : ∀ v, ArrN zero.length h v (n - i.toNat) (xs.drop (i.toNat * zero.length)) → K v false h) : StillVC pr P (.slice t x (some l) none none) ty s h K := by
  obtain ⟨hxl, a, cap, hv, hcl, r⟩ := hA
  have he : P.elem t = e := by unfold SliceT at hS; simp [Program.elem, hS]
  have hS' : P.underlying t = some (.slice (P.elem t)) := by rw [he]; exact hS
  refine .pure' (sliced a i.toNat n cap zero.length) false (fun w => ?_) (hk _ ?_)
  · simp [execOp, hv, hl, run_sliceAt_slice w t _ _ _ _ hS', run_slice_l w t a n cap hS' k i h0 h1, he, hE.sizeOf]
  · have hlen : (xs.drop (i.toNat * zero.length)).length = (n - i.toNat) * zero.length := by rw [List.length_drop, hxl, Nat.sub_mul]
    refine ⟨hlen, if cap = i.toNat then a else a.map (·.add (i.toNat * zero.length)), cap - i.toNat, rfl, by omega, ?_⟩
    by_cases hz : n ≤ i.toNat
    · left; omega
    · rcases r with rfl | ⟨b, o, rfl, hc⟩
      · omega
      · refine .inr ⟨b, o + i.toNat * zero.length, by rw [if_neg (by omega)]; simp [Addr.add_lit], fun j hj => ?_⟩
        rw [hlen] at hj
        rw [Nat.add_assoc, hc (i.toNat * zero.length + j) (by rw [hxl]; rw [Nat.sub_mul] at hj; omega), List.getElem?_drop]

theorem StillVC.sliceHN {pr : Bool} {P : Program} {ty : TypeId} {s : List Value} {h : Heap} {K : KK} {t e : TypeId} {by_ n : Nat} {x m : Operand} {agg : Bool} {zero xs : List Value} {k' : IntKind} {j : Int} (hS : SliceT P t e) (hE : TyI P e agg zero by_) (hA : ArrN zero.length h (ev s x) n xs)
    (hm : ev s m = .int k' j) (h1 : 0 ≤ j) (h2 : j ≤ n) (hk : ∀ v, ArrN zero.length h v j.toNat (xs.take (j.toNat * zero.length)) → K v false h) : StillVC pr P (.slice t x none (some m) none) ty s h K := by
  obtain ⟨hxl, a, cap, hv, hcl, r⟩ := hA
  have he : P.elem t = e := by unfold SliceT at hS; simp [Program.elem, hS]
  have hS' : P.underlying t = some (.slice (P.elem t)) := by rw [he]; exact hS
  refine .pure' (sliced a 0 j.toNat cap zero.length) false (fun w => ?_) (hk _ ?_)
  · simp [execOp, hv, hm, run_sliceAt_slice w t _ _ _ _ hS', run_slice_h w t a n cap hS' k' j h1 (by omega), he, hE.sizeOf]
  · have hjn : j.toNat * zero.length ≤ n * zero.length := Nat.mul_le_mul_right _ (by omega)
    have hlen : (xs.take (j.toNat * zero.length)).length = j.toNat * zero.length := by rw [List.length_take, hxl]; omega
    refine ⟨hlen, if cap = 0 then a else a.map (·.add (0 * zero.length)), cap - 0, rfl, by omega, ?_⟩
    by_cases hz : j.toNat = 0
    · exact .inl hz
    · rcases r with rfl | ⟨b, o, rfl, hc⟩
      · omega
      · refine .inr ⟨b, o, by rw [if_neg (by omega)]; simp [Addr.add_lit], fun q hq => ?_⟩
        rw [hlen] at hq
        rw [hc q (by omega), List.getElem?_take, if_pos hq]

end Go.Proofs.YtfjajkgfgigodaaGreatDoor
