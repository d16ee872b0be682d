/-
  More rules: stores, structs, slices that the call makes, append, slice expressions, conversions, results in memory.
-/
import Derived.Test.YtfjajkgfgigodaaGreatDoorVcMem
namespace Go.Proofs.YtfjajkgfgigodaaGreatDoor
open Go

section
variable {P : Program} {ty : TypeId} {s : List Value} {h0 : Base} {h : Heap} {L : List Item} {K : KK} {Q : QQ}

theorem Own.boxBlk (o : Own h0 L h) (k : Nat) {b : Nat} {cs : List Value} {t : TypeId} (hk : L[k]? = some (box b cs t)) :
    h[b]? = some (.cells cs.toArray t (0, 0)) := o.sat _ (List.mem_of_getElem? hk)

def wsets (w : World) (b off : Nat) : List Value → World
  | [] => w
  | v :: vs => wsets (w.setCell ⟨b, off, none⟩ v) b (off + 1) vs

theorem setCell_blk {w : World} {b off : Nat} {cs : List Value} {t : TypeId} {lo hi : Nat} {v : Value} (hb : w.heap[b]? = some (.cells cs.toArray t (lo, hi))) :
    (w.setCell ⟨b, off, none⟩ v).heap[b]? = some (.cells (cs.set off v).toArray t (lo, hi)) := by
  simp [World.setCell, Array.getElem?_modify, hb]

def lset (cs : List Value) (off : Nat) : List Value → List Value
  | [] => cs
  | v :: vs => lset (cs.set off v) (off + 1) vs

theorem lset_length (cs : List Value) (off : Nat) (vs : List Value) : (lset cs off vs).length = cs.length := by
  induction vs generalizing cs off with
  | nil => rfl
  | cons v vs ih => simp [lset, ih]

theorem run_storeCells {b off : Nat} (vs : List Value) : ∀ (i : Nat) (w : World) (cs : List Value) (t : TypeId) (lo hi : Nat),
    w.heap[b]? = some (.cells cs.toArray t (lo, hi)) → (lo = hi ∨ cs.length ≤ lo) → off + i + vs.length ≤ cs.length → (∀ v ∈ vs, v.oneCell' = true) →
    (storeCells ⟨b, off, none⟩ vs i).run P w = .ok () (wsets w b (off + i) vs) := by
  induction vs with
  | nil => intro i w cs t lo hi _ _ _ _; simp [storeCells, wsets]
  | cons v vs ih =>
    intro i w cs t lo hi hb hfr hl h1
    simp only [List.length_cons] at hl
    have hv := h1 v (by simp)
    have hcell : w.cell? ⟨b, off + i, none⟩ = some cs[off + i] := by
      simp only [World.cell?, hb]; simp
    have hfz : w.frozen? ⟨b, off + i, none⟩ = false := by
      simp only [World.frozen?, hb]; simp; omega
    have hb' := setCell_blk (off := off + i) (v := v) hb
    simp only [storeCells, Sem.run_bind, Addr.add_lit, run_store P w _ v _ hv, hcell, hfz, Result.andThen_ok, Bool.false_eq_true, if_false]
    have := ih (i + 1) (w.setCell ⟨b, off + i, none⟩ v) (cs.set (off + i) v) t lo hi hb' (by simpa using hfr) (by simp; omega) (fun u hu => h1 u (by simp [hu]))
    exact this

theorem sets_blk (vs : List Value) : ∀ (w : World) (b off : Nat) (cs : List Value) (t : TypeId) (lo hi : Nat), w.heap[b]? = some (.cells cs.toArray t (lo, hi)) →
    (wsets w b off vs).heap[b]? = some (.cells (lset cs off vs).toArray t (lo, hi)) := by
  induction vs with
  | nil => intro w b off cs t lo hi hb; exact hb
  | cons v vs ih => intro w b off cs t lo hi hb; exact ih _ _ _ _ _ _ _ (setCell_blk hb)

theorem sets_other (vs : List Value) : ∀ (w : World) (b off : Nat), (wsets w b off vs).heap.size = w.heap.size ∧ (∀ x, x ≠ b → (wsets w b off vs).heap[x]? = w.heap[x]?) ∧ Same w (wsets w b off vs) := by
  induction vs with
  | nil => intro w b off; exact ⟨rfl, fun _ _ => rfl, .refl w⟩
  | cons v vs ih =>
    intro w b off
    obtain ⟨h1, h2, h3⟩ := ih (w.setCell ⟨b, off, none⟩ v) b (off + 1)
    refine ⟨by rw [wsets, h1]; simp, fun x hx => ?_, Same.trans (b := w.setCell ⟨b, off, none⟩ v) ⟨rfl, rfl, rfl, by simp⟩ h3⟩
    rw [wsets, h2 x hx]
    simp only [World.setCell, Array.getElem?_modify]
    rw [if_neg (by simpa using fun e => hx e.symm)]

def cellsK (v : Value) (k : List Value → Prop) : Prop :=
  match v with
  | .agg ⟨cs⟩ => k cs
  | v => k [v]
theorem cellsK_eq (v : Value) (k : List Value → Prop) : cellsK v k = k v.cells.toList := by
  cases v <;> rfl

def lsetsK (cs : List Value) (off : Nat) (vs : List Value) (k : List Value → Prop) : Prop :=
  match vs with
  | [] => k cs
  | v :: vs => lsetsK (cs.set off v) (off + 1) vs k
theorem lsetsK_eq (cs : List Value) (off : Nat) (vs : List Value) (k : List Value → Prop) : lsetsK cs off vs k = k (lset cs off vs) := by
  induction vs generalizing cs off with
  | nil => rfl
  | cons v vs ih => exact ih _ _

/-- A store into a box of the call's own: of one cell or of a whole struct. -/
theorem RunVC.store {t : TypeId} {a x : Operand} {zero : List Value} {by_ : Nat} {agg : Bool} {b off : Nat} {cs : List Value} {t' : TypeId} (o : Own h0 L h) (k : Nat) (hk : L[k]? = some (box b cs t')) (hT : TyI P t agg zero by_)
    (ha : ev s a = .pointer (some ⟨b, off, none⟩)) (hl : off + zero.length ≤ cs.length)
    (hK : evK s x fun v => cellsK v fun vs => (vs.length = zero.length ∧ vs.all (fun u => u.oneCell') = true) ∧ ∀ h', lsetsK cs off vs fun cs' => lsetK L k (box b cs' t') fun L' => Own h0 L' h' → K undef false h') : RunVC P (.store t a x) ty s h K Q :=
  .of_skip fun w hw => by
    subst hw
    have hb := o.boxBlk k hk
    have hfr : (0 : Nat) = 0 ∨ cs.length ≤ 0 := .inl rfl
    rw [evK_eq, cellsK_eq] at hK
    generalize hx : ev s x = v at hK
    obtain ⟨⟨hsz', h1'⟩, hK⟩ := hK
    have hsz : v.cells.size = zero.length := by simpa using hsz'
    have h1 : ∀ u ∈ v.cells.toList, u.oneCell' = true := List.all_eq_true.1 h1'
    have hrun := run_storeCells (P := P) (b := b) (off := off) v.cells.toList 0 w cs t' 0 0 hb hfr (by simp [hsz]; omega) h1
    refine ⟨wsets w b off v.cells.toList, ?_, (sets_other _ w b off).2.2, ?_⟩
    · simp [execOp, ha, hx, Instr.storeAt, Instr.sureAddr, storeVar, hT.sizeOf, hsz, hrun]
    · have := hK (wsets w b off v.cells.toList).heap
      rw [lsetsK_eq, lsetK_eq] at this
      refine this (o.set hk (Nat.le_of_eq (sets_other _ w b off).1.symm) (fun x _ hx => (sets_other _ w b off).2.1 x hx) ?_ (fun x hx => .inl hx) (fun x hx => ?_))
      · exact sets_blk _ _ _ _ _ _ _ _ hb
      · rw [(sets_other _ w b off).1]; exact o.hi _ (List.mem_of_getElem? hk) x hx

/-- A load out of a box of the call's own. -/
theorem StillVC.loadO {t : TypeId} {x : Operand} {zero : List Value} {by_ : Nat} {b off : Nat} {cs : List Value} {t' : TypeId} {v : Value} (o : Own h0 L h) (k : Nat) (hk : L[k]? = some (box b cs t')) (hT : TyI P t false zero by_)
    (hx : ev s x = .pointer (some ⟨b, off, none⟩)) (hv : cs[off]? = some v) (hK : K v false h) : StillVC false P (.load t x) ty s h K :=
  .load1 hT hx (by rw [o.cellB k hk]; exact hv) hK

theorem run_loadCellsFrom {w : World} {a : Addr} (vs : List Value) : ∀ (i : Nat) (acc : Array Value), (∀ j, j < vs.length → w.cell? (a.add (i + j)) = vs[j]?) →
    (loadCellsFrom a i vs.length acc).run P w = .ok (acc ++ vs.toArray) w := by
  induction vs with
  | nil => intro i acc _; simp [loadCellsFrom]
  | cons v vs ih =>
    intro i acc hc
    have h0 : w.cell? (a.add i) = some v := by simpa using hc 0 (by simp)
    have ht := ih (i + 1) (acc.push v) (fun j hj => by have := hc (j + 1) (by simpa using hj); simpa [Nat.add_assoc, Nat.add_comm 1 j] using this)
    simp only [List.length_cons, loadCellsFrom, Sem.run_bind, run_load, h0, Result.andThen_ok, ht]
    simp

theorem StillVC.loadN {t : TypeId} {x : Operand} {zero : List Value} {by_ : Nat} {a : Addr} {vs : List Value} (hT : TyI P t true zero by_) (hx : ev s x = .pointer (some a)) (hl : vs.length = zero.length)
    (hc : ∀ j, j < vs.length → cellAt h (a.add j) = vs[j]?) (hK : K (.agg ⟨vs⟩) false h) : StillVC false P (.load t x) ty s h K :=
  ⟨.agg ⟨vs⟩, false, (List.range vs.length).map (fun j => (a.add j, vs.getD j undef)), by simp, by
    intro r hr
    obtain ⟨j, hj, rfl⟩ := List.mem_map.1 hr
    have hj' : j < vs.length := by simpa using hj
    simp only
    rw [hc j hj']; simp [hj'], fun w hw => by
    have := run_loadCellsFrom (P := P) (w := w) (a := a) vs 0 #[] (fun j hj => by
      rw [Nat.zero_add]
      have := hw (a.add j, vs.getD j undef) (List.mem_map.2 ⟨j, by simpa using hj, rfl⟩)
      simp only at this
      rw [this]; simp [hj])
    simp [execOp, hx, Instr.loadAt, Instr.sureAddr, loadVar, hT.isAgg, hT.sizeOf, ← hl, loadCells, this], hK⟩

theorem StillVC.loadON {t : TypeId} {x : Operand} {zero : List Value} {by_ : Nat} {b off : Nat} {cs : List Value} {t' : TypeId} {vs : List Value} (o : Own h0 L h) (k : Nat) (hk : L[k]? = some (box b cs t')) (hT : TyI P t true zero by_)
    (hx : ev s x = .pointer (some ⟨b, off, none⟩)) (hv' : (cs.drop off).take zero.length = vs) (hl : vs.length = zero.length) (hK : K (.agg ⟨vs⟩) false h) : StillVC false P (.load t x) ty s h K :=
  have hv : (cs.drop off).take vs.length = vs := by rw [hl]; exact hv'
  .loadN hT hx hl (fun j hj => by
    rw [Addr.add_lit, o.cellB k hk]
    conv => rhs; rw [← hv]
    rw [List.getElem?_take, if_pos hj, List.getElem?_drop]) hK

/- make, buildSlice -/
theorem RunVC.make {t e : TypeId} {l c : Operand} {z : Value} {by_ : Nat} {n : Int} {k1 k2 : IntKind} (o : Own h0 L h) (hS : SliceT P t e) (hE : TyI P e false [z] by_) (hl : ev s l = .int k1 n) (hc : ev s c = .int k2 n)
    (h1 : 0 ≤ n) (h2 : n ≤ 9223372036854775807) (h3 : by_ * n ≤ 281474976710656)
    (hK : ∀ b h', lappK L (box b (List.replicate n.toNat z) e) fun L' => Own h0 L' h' → K (.slice (some ⟨b, 0, none⟩) n.toNat n.toNat) false h') : RunVC P (.makeSlice t l c) ty s h K Q :=
  .of fun w hw => by
    subst hw
    obtain ⟨i, z', hi, hs, hz, hzc, hb⟩ := hE.info
    have hs1 : i.size = 1 := by simpa using hs
    have hzc1 : z'.cells = #[z] := hzc
    have hr := run_make (P := P) w t e i z' hS hi hz k1 k2 n n h1 (Int.le_refl _) (by rw [hb]; exact h3) h2
    have hm : madeCells z'.cells (n.toNat * i.size) = (List.replicate n.toNat z).toArray := by
      apply Array.toList_inj.1
      rw [hs1, Nat.mul_one, hzc1, toList_madeCells_one]
    rw [hm] at hr
    refine ⟨.slice (some ⟨w.heap.size, 0, none⟩) n.toNat n.toNat, false, { w with heap := w.heap.push (.cells (List.replicate n.toNat z).toArray e) }, by simp [execOp, hl, hc, hr], ⟨rfl, rfl, rfl, by simp⟩, ?_⟩
    have := hK w.heap.size (w.heap.push (.cells (List.replicate n.toNat z).toArray e))
    rw [lappK_eq] at this
    exact this (by have := o.push (c := (List.replicate n.toNat z).toArray) (t := e); simpa using this)

/-- make with a length of 0 and a capacity: a row of the call's own, still empty. -/
theorem RunVC.make0 {t e : TypeId} {l c : Operand} {agg : Bool} {zero : List Value} {by_ : Nat} {n : Int} {k1 k2 : IntKind} (o : Own h0 L h) (hS : SliceT P t e) (hE : TyI P e agg zero by_) (hl : ev s l = .int k1 0) (hc : ev s c = .int k2 n)
    (h1 : 0 ≤ n) (h2 : n ≤ 9223372036854775807) (h3 : by_ * n ≤ 281474976710656)
    (hK : ∀ v h', lappK L (row v e zero.length 0 []) fun L' => Own h0 L' h' → K v false h') : RunVC P (.makeSlice t l c) ty s h K Q :=
  .of fun w hw => by
    subst hw
    obtain ⟨i, z', hi, hs, hz, hzc, hb⟩ := hE.info
    have hr := run_make (P := P) w t e i z' hS hi hz k1 k2 0 n (Int.le_refl _) h1 (by rw [hb]; exact h3) h2
    refine ⟨.slice (some ⟨w.heap.size, 0, none⟩) 0 n.toNat, false, { w with heap := w.heap.push (.cells (madeCells z'.cells (n.toNat * i.size)) e) }, by simp [execOp, hl, hc, hr], ⟨rfl, rfl, rfl, by simp⟩, ?_⟩
    have := hK (.slice (some ⟨w.heap.size, 0, none⟩) 0 n.toNat) (w.heap.push (.cells (madeCells z'.cells (n.toNat * i.size)) e))
    rw [lappK_eq] at this
    refine this (o.callR ⟨⟨by simp, fun b hb => by rw [Array.getElem?_push, if_neg (by omega)]⟩, ?_, ?_, ?_, List.pairwise_singleton _ _⟩)
    · intro x hx; simp only [List.mem_singleton] at hx; subst hx
      refine ⟨by simp, .inr ⟨w.heap.size, n.toNat, madeCells z'.cells (n.toNat * i.size), rfl, by simp, Nat.zero_le _, by simp only [maxLen]; omega, by rw [size_madeCells, hs], by simp⟩⟩
    · intro x hx b hb; simp only [List.mem_singleton] at hx; subst hx; simp [row, Value.ownBlock] at hb; omega
    · intro x hx b hb; simp only [List.mem_singleton] at hx; subst hx; simp [row, Value.ownBlock] at hb; simp; omega

/-- A literal of a slice of one-cell elements, all of whose places are given in order. -/
theorem RunVC.litA {t e : TypeId} {n : Nat} {parts : Array (Nat × Operand)} {z : Value} {by_ : Nat} {vs : List Value} (o : Own h0 L h) (hS : SliceT P t e) (hE : TyI P e false [z] by_)
    (hp : parts.toList.map (fun p => (p.1, ev s p.2)) = vs.zipIdx.map (fun p => (p.2, p.1))) (hn : vs.length = n) (h1 : vs.all (fun u => u.oneCell') = true) (hsm : n ≤ 16777216)
    (hK : ∀ b h', lappK L (box b vs e) fun L' => Own h0 L' h' → K (.slice (some ⟨b, 0, none⟩) n n) false h') : RunVC P (.buildSlice t n parts) ty s h K Q :=
  .of fun w hw => by
    subst hw
    obtain ⟨i, z', hi, hs, hz, hzc, hb⟩ := hE.info
    have hs1 : i.size = 1 := by simpa using hs
    have hzc1 : z'.cells = #[z] := hzc
    have fillK : ∀ (us : List Value) (k : Nat) (cells : Array Value), us.all (fun u => u.oneCell') = true → k + us.length ≤ cells.size →
        ∃ cells', Instr.fill (fun i => some (i * 1, 1)) cells ((us.zipIdx k).map (fun p => (p.2, p.1))) = some cells' ∧ cells'.size = cells.size ∧ (∀ j, j < k → cells'[j]? = cells[j]?) ∧ (∀ j, j < us.length → cells'[k + j]? = us[j]?) ∧ (∀ j, k + us.length ≤ j → cells'[j]? = cells[j]?) := by
      intro us
      induction us with
      | nil => intro k cells _ _; exact ⟨cells, by simp [Instr.fill], rfl, fun _ _ => rfl, by simp, fun _ _ => rfl⟩
      | cons u us ih =>
        intro k cells h1 hl
        simp only [List.all_cons, Bool.and_eq_true] at h1
        simp only [List.length_cons] at hl
        have hu : u.cells = #[u] := by cases u <;> simp [Value.oneCell'] at h1 <;> rfl
        obtain ⟨c', hc', hsz, hlo, hmid, hhi⟩ := ih (k + 1) (cells.setIfInBounds k u) h1.2 (by simp; omega)
        refine ⟨c', ?_, by rw [hsz]; simp, fun j hj => by rw [hlo j (by omega)]; simp [Array.getElem?_setIfInBounds]; omega, fun j hj => ?_, fun j hj => ?_⟩
        · simp only [List.zipIdx_cons, List.map_cons, Instr.fill, hu]
          have : ¬ (cells.size < k * 1 + 1) := by omega
          simp 
          have e1 : (cells.setIfInBounds k u) = (cells.setIfInBounds (k + 0) u) := rfl
          simpa [e1, show k + 1 ≤ cells.size by omega] using hc'
        · cases j with
          | zero => rw [Nat.add_zero, hlo k (by omega)]; simp [Array.getElem?_setIfInBounds]; omega
          | succ j =>
            have := hmid j (by simpa using hj)
            rw [show k + (j + 1) = k + 1 + j from by omega, this]; simp
        · simp only [List.length_cons] at hj
          rw [hhi j (by omega)]; simp [Array.getElem?_setIfInBounds]; omega
    have hzero : (parts.map fun x => match x with | (i, x) => (i, ev s x)).toList = vs.zipIdx.map (fun p => (p.2, p.1)) := by
      rw [← hp]; simp
    obtain ⟨c', hc', hsz, _, hmid, _⟩ := fillK vs 0 ((Array.range (n * 1)).map (fun j => (if n * 1 = 0 then (#[] : Array Value) else z'.cells)[j % (if n * 1 = 0 then (#[] : Array Value) else z'.cells).size]!)) h1 (by simp [hn])
    have hc : c' = vs.toArray := by
      apply Array.ext_getElem?
      intro j
      by_cases hj : j < vs.length
      · have := hmid j hj; rw [Nat.zero_add] at this; rw [this]; simp
      · have e1 : c'.size = n := by rw [hsz]; simp
        rw [Array.getElem?_eq_none (by omega)]
        simp; omega
    subst hc
    refine ⟨.slice (some ⟨w.heap.size, 0, none⟩) n n, false, { w with heap := w.heap.push (.cells vs.toArray e) }, ?_, ⟨rfl, rfl, rfl, by simp⟩, ?_⟩
    · have hle : ¬ (16777216 < n) := by omega
      by_cases h0 : n = 0
      · subst h0
        simp only [Nat.zero_mul, if_true] at hc'
        simp only [Nat.mul_one] at hc'
        simp [execOp, Instr.buildSlice, run_underlying hS, sizeOf, typeInfo, hi, hs1, newRow]
        simp at hc'
        rw [hp, hc']; simp
      · simp only [Nat.mul_one, h0, if_false] at hc'
        simp [execOp, Instr.buildSlice, run_underlying hS, sizeOf, typeInfo, zeroValue, hz, hi, hs1, newRow, hle, h0]
        rw [hp, hc']; simp
    · have := hK w.heap.size (w.heap.push (.cells vs.toArray e))
      rw [lappK_eq] at this
      exact this (by have := o.push (c := vs.toArray) (t := e); simpa using this)


theorem zipIdx_of_range (parts : List (Nat × Operand)) (s : List Value) : ∀ k, parts.map (·.1) = List.range' k parts.length → parts.map (fun p => (p.1, ev s p.2)) = (((parts.map (·.2)).map (ev s)).zipIdx k).map (fun p => (p.2, p.1)) := by
  induction parts with
  | nil => intro k _; rfl
  | cons p parts ih =>
    intro k h
    simp only [List.map_cons, List.length_cons, List.range'_succ, List.cons.injEq] at h
    simp only [List.map_cons, List.zipIdx_cons, List.cons.injEq]
    exact ⟨by rw [h.1], ih (k + 1) h.2⟩

/-- A literal of a slice of one-cell elements, all of whose places are given in order. -/
theorem RunVC.lit {t e : TypeId} {n : Nat} {parts : List (Nat × Operand)} {z : Value} {by_ : Nat} (o : Own h0 L h) (hS : SliceT P t e) (hE : TyI P e false [z] by_)
    (hp : parts.map (·.1) = List.range' 0 parts.length) (hn : parts.length = n) (hsm : n ≤ 16777216)
    (hK : evsK s (parts.map (·.2)) fun vs => vs.all (fun u => u.oneCell') = true ∧ ∀ b h', lappK L (box b vs e) fun L' => Own h0 L' h' → K (.slice (some ⟨b, 0, none⟩) n n) false h') : RunVC P (.buildSlice t n ⟨parts⟩) ty s h K Q := by
  rw [evsK_eq] at hK
  exact .litA (vs := (parts.map (·.2)).map (ev s)) o hS hE (zipIdx_of_range parts s 0 hp) (by simpa using hn) hK.1 hsm hK.2

/- append -/
theorem rowH_owns {w : World} {e : TypeId} {sz : Nat} {v : Value} {n : Nat} {xs : List Value} (r : rowH w.heap e sz v n xs) : w.ownsRow 0 e sz v n xs :=
  ⟨r.1, r.2.imp id fun ⟨g, cap, cur, a, b, c⟩ => ⟨g, cap, cur, a, Nat.zero_le _, b, c⟩⟩
theorem owns_rowH {w : World} {e : TypeId} {sz : Nat} {v : Value} {n : Nat} {xs : List Value} (r : w.ownsRow 0 e sz v n xs) : rowH w.heap e sz v n xs :=
  ⟨r.1, r.2.imp id fun ⟨g, cap, cur, a, _, b, c⟩ => ⟨g, cap, cur, a, b, c⟩⟩

/-- What is read of a slice whose elements have sz cells. -/
def ArrN (sz : Nat) (h : Heap) (v : Value) (n : Nat) (xs : List Value) : Prop :=
  xs.length = n * sz ∧ ∃ a cap, v = .slice a n cap ∧ n ≤ cap ∧ (n = 0 ∨ ∃ b o, a = some ⟨b, o, none⟩ ∧ ∀ i, i < xs.length → cellAt h ⟨b, o + i, none⟩ = xs[i]?)

theorem Arr.toN {h : Heap} {v : Value} {xs : List Value} (a : Arr h v xs) : ArrN 1 h v xs.length xs := by
  obtain ⟨ad, cap, hv, hl, r⟩ := a
  exact ⟨by simp, ad, cap, hv, hl, r.imp (fun e => by simp [e]) id⟩

theorem ArrN.to1 {h : Heap} {v : Value} {n : Nat} {xs : List Value} (a : ArrN 1 h v n xs) : Arr h v xs := by
  obtain ⟨hl, ad, cap, hv, hc, r⟩ := a
  have : n = xs.length := by omega
  subst this
  exact ⟨ad, cap, hv, hc, r.imp (fun e => List.eq_nil_of_length_eq_zero e) id⟩

theorem ArrN.ext {sz : Nat} {h h' : Heap} {v : Value} {n : Nat} {xs : List Value} (a : ArrN sz h v n xs) (e : Ext h h') : ArrN sz h' v n xs := by
  obtain ⟨hl, ad, cap, hv, hc, r⟩ := a
  refine ⟨hl, ad, cap, hv, hc, r.imp id fun ⟨b, o, ha, hc⟩ => ⟨b, o, ha, fun i hi => ?_⟩⟩
  have : xs[i]? = some xs[i] := by simp [hi]
  rw [this]; exact e.cell (by rw [hc i hi, this])

theorem ArrN.nil (sz : Nat) (h : Heap) : ArrN sz h (.slice none 0 0) 0 [] := ⟨by simp, _, _, rfl, Nat.le_refl _, .inl rfl⟩

theorem rowH.arrN {h : Heap} {e : TypeId} {sz : Nat} {v : Value} {n : Nat} {xs : List Value} (r : rowH h e sz v n xs) : ArrN sz h v n xs := by
  obtain ⟨hl, r⟩ := r
  rcases r with ⟨rfl, rfl⟩ | ⟨g, cap, cur, rfl, hg, hn, _, hs, ht⟩
  · exact ⟨hl, _, _, rfl, Nat.le_refl _, .inl rfl⟩
  · refine ⟨hl, _, cap, rfl, hn, .inr ⟨g, 0, rfl, fun i hi => ?_⟩⟩
    rw [← ht, List.getElem?_take, if_pos (by omega)]
    simp [cellAt, hg]

theorem Own.rowArrN {h0 : Base} {h : Heap} {L : List Item} (o : Own h0 L h) (k : Nat) {v : Value} {e : TypeId} {sz n : Nat} {xs : List Value} (hk : L[k]? = some (row v e sz n xs)) : ArrN sz h v n xs :=
  rowH.arrN (o.sat _ (List.mem_of_getElem? hk))

theorem Own.boxRow {h0 : Base} {h : Heap} {L : List Item} (o : Own h0 L h) (k : Nat) {b : Nat} {cs : List Value} {t : TypeId} (hk : L[k]? = some (box b cs t)) (sz n cap : Nat) (hc : cs.length = cap * sz) (hn : n ≤ cap) (hm : cap ≤ maxLen) :
    Own h0 (L.set k (row (.slice (some ⟨b, 0, none⟩) n cap) t sz n (cs.take (n * sz)))) h := by
  have hb : h[b]? = some (.cells cs.toArray t (0, 0)) := o.boxBlk k hk
  refine o.set hk (Nat.le_refl _) (fun _ _ _ => rfl) ⟨?_, .inr ⟨b, cap, cs.toArray, rfl, hb, hn, hm, by simpa using hc, by simp⟩⟩ (fun x hx => .inl ?_) (fun x hx => ?_)
  · rw [List.length_take, hc]; exact Nat.min_eq_left (Nat.mul_le_mul_right _ hn)
  · simp [row, Value.ownBlock] at hx; exact hx.symm
  · simp [row, Value.ownBlock] at hx; subst hx; exact (Array.getElem?_eq_some_iff.1 hb).1

theorem Own.nilRow {h0 : Base} {h : Heap} {L : List Item} (o : Own h0 L h) (e : TypeId) (sz : Nat) : Own h0 (L ++ [row (.slice none 0 0) e sz 0 []]) h := by
  refine o.callR ⟨.refl h, ?_, ?_, ?_, List.pairwise_singleton _ _⟩
  · intro x hx; simp only [List.mem_singleton] at hx; subst hx; exact ⟨by simp, .inl ⟨rfl, rfl⟩⟩
  · intro x hx b hb; simp only [List.mem_singleton] at hx; subst hx; simp [row, Value.ownBlock] at hb
  · intro x hx b hb; simp only [List.mem_singleton] at hx; subst hx; simp [row, Value.ownBlock] at hb

/-- append to a row of the call's own. -/
theorem RunVC.append {t e : TypeId} {x y : Operand} {agg : Bool} {zero : List Value} {by_ : Nat} {n m : Nat} {xs ys : List Value} (o : Own h0 L h) (k : Nat) (hk : L[k]? = some (row (ev s x) e zero.length n xs))
    (hS : SliceT P t e) (hE : TyI P e agg zero by_) (hz : 0 < zero.length) (hA : ArrN zero.length h (ev s y) m ys) (h1 : ∀ u ∈ ys, u.oneCell' = true)
    (h63 : n + m ≤ maxLen) (hb : (n + m) * by_ ≤ 140737488355328)
    (hK : ∀ v' h', lsetK L k (row v' e zero.length (n + m) (xs ++ ys)) fun L' => Own h0 L' h' → K v' false h') : RunVC P (.call ⟨.builtin .append, ⟨[x, y]⟩, ⟨[t, t]⟩⟩) ty s h K Q :=
  .of fun w hw => by
    subst hw
    obtain ⟨i, z', hi, hs, hz', hzc, hby⟩ := hE.info
    have hrow : rowH w.heap e zero.length (ev s x) n xs := o.sat _ (List.mem_of_getElem? hk)
    have hlt : ∀ b, (row (ev s x) e zero.length n xs).fp b → b < w.heap.size := o.hi _ (List.mem_of_getElem? hk)
    obtain ⟨hyl, a, c, hv, _, hc⟩ := hA
    have fin : ∀ (v' : Value) (w' : World), w'.ownsRow 0 e zero.length v' (n + m) (xs ++ ys) → w.grownBy w' (ev s x).ownBlock → (∀ b, v'.ownBlock = some b → (ev s x).ownBlock = some b ∨ w.heap.size ≤ b) → K v' false w'.heap := by
      intro v' w' hown hg hfp
      have := hK v' w'.heap
      rw [lsetK_eq] at this
      refine this (o.set hk hg.size (fun b hb hnb => hg.block b hb (fun e => hnb e.symm)) (owns_rowH hown) hfp (fun b hb => (hown.lt b hb).2))
    rcases Nat.eq_zero_or_pos m with rfl | hm
    · have hy : ys = [] := List.eq_nil_of_length_eq_zero (by simpa using hyl)
      subst hy
      refine ⟨ev s x, false, w, ?_, .refl w, ?_⟩
      · obtain ⟨hxl, r⟩ := hrow
        have hz0 : i.size ≠ 0 := by omega
        rcases r with ⟨hx, rfl⟩ | ⟨g, cap, cur, hx, hg, hnc, hcm, hcs, ht⟩
        · cases a with
          | none => simp [execOp, resolve, invoke, builtin, hx, hv, Builtin.append_, run_underlying hS, sizeOf, typeInfo, hi, Builtin.lenOf, Builtin.firstCells]
          | some a => simp [execOp, resolve, invoke, builtin, hx, hv, Builtin.append_, run_underlying hS, sizeOf, typeInfo, hi, Builtin.lenOf, Builtin.firstCells, loadCells, loadCellsFrom]
        · cases a with
          | none => simp [execOp, resolve, invoke, builtin, hx, hv, Builtin.append_, run_underlying hS, sizeOf, typeInfo, hi, Builtin.lenOf, Builtin.firstCells, hnc, storeCells]
          | some a => simp [execOp, resolve, invoke, builtin, hx, hv, Builtin.append_, run_underlying hS, sizeOf, typeInfo, hi, Builtin.lenOf, Builtin.firstCells, loadCells, loadCellsFrom, hnc, storeCells]
      · have := fin (ev s x) w (by simpa using rowH_owns hrow) ⟨rfl, rfl, rfl, Nat.le_refl _, fun _ _ _ => rfl⟩ (fun b hb => .inl hb)
        exact this
    · rcases hc with rfl | ⟨b, off, rfl, hc⟩
      · omega
      · obtain ⟨v', w', hr, hown, hg, hnil⟩ := run_append_own (P := P) w 0 t ty e i z' zero.length by_ hS hi hz' hs hby (by rw [hzc]; simp) hz (ev s x) n xs (rowH_owns hrow) ⟨b, off, none⟩ m c ys hyl
          (fun j u hu => by
            rw [Addr.add_lit]
            obtain ⟨hj, _⟩ := List.getElem?_eq_some_iff.1 hu
            exact (hc j hj).trans hu) h1 h63 hb (Nat.zero_le _)
        refine ⟨v', false, w', ?_, ⟨hg.os, hg.tape, hg.output, hg.size⟩, fin v' w' hown hg ?_⟩
        · simp [execOp, resolve, invoke, builtin, hv, hr]
        · intro b' hb'
          have hnews : ∀ j u, ys[j]? = some u → w.cell? ((⟨b, off, none⟩ : Addr).add j) = some u := fun j u hu => by
            rw [Addr.add_lit]
            obtain ⟨hj, _⟩ := List.getElem?_eq_some_iff.1 hu
            exact (hc j hj).trans hu
          rw [← hs] at hyl
          rw [← hby] at hb
          have h63i : ((n + m : Nat) : Int) ≤ 9223372036854775807 := by simp only [maxLen] at h63; omega
          rcases hrow.2 with ⟨hx, hn0⟩ | ⟨g, cap, cur, hx, hgg, hnc, hcm, hcs, ht⟩
          · subst hn0
            have hr2 := run_append_nil (P := P) w t ty e i z' hS hi hz' ⟨b, off, none⟩ m c ys hyl hnews hm (by simpa using h63i) (by have := hb; simp only [Nat.zero_add] at this; omega)
            rw [hx, hr2] at hr
            injection hr with e1 e2
            subst e1
            simp [Value.ownBlock] at hb'
            right; omega
          · by_cases hroom : n + m ≤ cap
            · have hr2 := run_append_room (P := P) w t ty e i hS hi g n cap cur hgg ⟨b, off, none⟩ m c ys hyl hnews h1 hroom (by rw [hyl, hcs, ← hs, ← Nat.add_mul]; exact Nat.mul_le_mul_right _ hroom)
              rw [hx, hr2] at hr
              injection hr with e1 e2
              subst e1
              left; rw [hx]; exact hb'
            · have holds : ∀ j u, xs[j]? = some u → w.cell? ((⟨g, 0, none⟩ : Addr).add j) = some u := World.ownsRow.cells (rowH_owns hrow) (by rw [hx]; rfl)
              have hr2 := run_append_grow (P := P) w t ty e i z' hS hi hz' ⟨g, 0, none⟩ n cap xs (by rw [hrow.1, hs]) holds ⟨b, off, none⟩ m c ys hyl hnews (by omega) h63i (growslice_fits (by omega) hb)
              rw [hx, hr2] at hr
              injection hr with e1 e2
              subst e1
              simp [Value.ownBlock] at hb'
              right; omega


/-- The address of an element of a box of the call's own. -/
theorem StillVC.idxB {pr : Bool} {t e : TypeId} {by_ : Nat} {x i : Operand} {agg : Bool} {z : Value} {k' : IntKind} {m : Int} {b n c : Nat} {cs : List Value} {t' : TypeId} (_o : Own h0 L h) (k : Nat) (_hk : L[k]? = some (box b cs t')) (hS : SliceT P t e) (hE : TyI P e agg [z] by_)
    (hx : ev s x = .slice (some ⟨b, 0, none⟩) n c) (hi : ev s i = .int k' m) (h1 : 0 ≤ m) (h2 : m < n) (hk : K (.pointer (some ⟨b, m.toNat, none⟩)) false h) : StillVC pr P (.indexAddr t x i) ty s h K := by
  refine .pure' _ false (fun w => ?_) hk
  have he : P.elem t = e := by unfold SliceT at hS; simp [Program.elem, hS]
  have hS' : P.underlying t = some (.slice (P.elem t)) := by rw [he]; exact hS
  simp [execOp, hi, hx, run_indexAt_slice w t _ _ _ _ _ hS', h1, h2, he, hE.sizeOf, Addr.add_lit]

end
end Go.Proofs.YtfjajkgfgigodaaGreatDoor
