/-
  More rules: structs, their fields, their equality; slice expressions; strings and bytes; results in memory; elements by a map.
-/
import Derived.Test.YtfjajkgfgigodaaGreatDoorVcDraw
import Derived.Laws.StructEq
import Derived.Laws.BytesArg
namespace Go.Proofs.YtfjajkgfgigodaaGreatDoor
open Go

abbrev ints (zs : List Int) : List Value := zs.map (Value.int .i64)
abbrev strs (ss : List (List UInt8)) : List Value := ss.map fun l => Value.string ⟨⟨l⟩⟩
abbrev bytes (bs : List UInt8) : List Value := bs.map fun b => Value.int .u8 b.toNat

theorem getx {α : Type} {l : List α} {i : Nat} (h : i < l.length) : ∃ x, l[i]? = some x := ⟨l[i], by simp [h]⟩

section
variable {P : Program} {ty : TypeId} {s : List Value} {h0 : Base} {h : Heap} {L : List Item} {K : KK} {Q : QQ} {pr : Bool}

theorem StillVC.lenAn {t e : TypeId} {x : Operand} {xs : List Value} {n : Nat} (hA : Arr h (ev s x) xs) (hn : xs.length = n) (hS : SliceT P t e) (hk : K (.int .i64 n) false h) : StillVC pr P (.call ⟨.builtin .len, ⟨[x]⟩, ⟨[t]⟩⟩) ty s h K :=
  .lenA hA hS (by rw [hn]; exact hk)

theorem StillVC.lenN {t e : TypeId} {x : Operand} {sz n : Nat} {xs : List Value} (hA : ArrN sz h (ev s x) n xs) (hS : SliceT P t e) (hk : K (.int .i64 n) false h) : StillVC pr P (.call ⟨.builtin .len, ⟨[x]⟩, ⟨[t]⟩⟩) ty s h K := by
  obtain ⟨_, a, cap, hv, _, _⟩ := hA
  refine .pure' _ false (fun w => ?_) hk
  simp [execOp, resolve, invoke, builtin, hv, Builtin.len_, run_underlying hS, goInt]

theorem StillVC.lenV {t e : TypeId} {x : Operand} {a : Option Addr} {n c : Nat} (hx : ev s x = .slice a n c) (hS : SliceT P t e) (hk : K (.int .i64 n) false h) : StillVC pr P (.call ⟨.builtin .len, ⟨[x]⟩, ⟨[t]⟩⟩) ty s h K := by
  refine .pure' _ false (fun w => ?_) hk
  simp [execOp, resolve, invoke, builtin, hx, Builtin.len_, run_underlying hS, goInt]

theorem StillVC.loadM {α : Type} {t : TypeId} {x : Operand} {zero : List Value} {by_ : Nat} {v : Value} {f : α → Value} {ys : List α} {y : α} {i : Nat} (hA : Arr h v (ys.map f)) (hT : TyI P t false zero by_) (hx : ev s x = adr v i) (hy : ys[i]? = some y) (hk : K (f y) false h) : StillVC false P (.load t x) ty s h K :=
  .loadA hA hT hx (by simp [hy]) hk

/- EQUALITY -/
theorem StillVC.eqB {t t' : TypeId} {x y : Operand} {a b : Bool} (hu : P.underlying t = some .bool) (hx : ev s x = .bool a) (hy : ev s y = .bool b) (hk : K (.bool (decide (a = b))) false h) : StillVC pr P (.binOp .eql t x y t') ty s h K :=
  .pure' _ false (fun w => by simp [execOp, hx, hy, eqGuard_at_bool, binOp, run_equal_bool w t a b hu, beq_dec]) hk
theorem StillVC.neB {t t' : TypeId} {x y : Operand} {a b : Bool} (hu : P.underlying t = some .bool) (hx : ev s x = .bool a) (hy : ev s y = .bool b) (hk : K (.bool (!decide (a = b))) false h) : StillVC pr P (.binOp .neq t x y t') ty s h K :=
  .pure' _ false (fun w => by simp [execOp, hx, hy, eqGuard_at_bool, binOp, run_equal_bool w t a b hu, beq_dec]) hk
theorem run_eqNil {t e : TypeId} {a : Option Addr} {n c : Nat} (hS : SliceT P t e) (w : World) : (Op.equal t (.slice a n c) (.slice none 0 0)).run P w = .ok a.isNone w := by
  show (Op.equalIn (9999 + 1) t (.slice a n c) (.slice none 0 0)).run P w = _
  generalize 9999 = d
  cases a <;> simp [Op.equalIn, run_underlying hS]
theorem StillVC.eqNil {t t' e : TypeId} {x y : Operand} {a : Option Addr} {n c : Nat} (hS : SliceT P t e) (hx : ev s x = .slice a n c) (hy : ev s y = .slice none 0 0) (hk : K (.bool a.isNone) false h) : StillVC pr P (.binOp .eql t x y t') ty s h K :=
  .pure' _ false (fun w => by simp [execOp, hx, hy, eqGuard_at_slice, binOp, run_eqNil hS]) hk
theorem StillVC.neNil {t t' e : TypeId} {x y : Operand} {a : Option Addr} {n c : Nat} (hS : SliceT P t e) (hx : ev s x = .slice a n c) (hy : ev s y = .slice none 0 0) (hk : K (.bool (!a.isNone)) false h) : StillVC pr P (.binOp .neq t x y t') ty s h K :=
  .pure' _ false (fun w => by simp [execOp, hx, hy, eqGuard_at_slice, binOp, run_eqNil hS]) hk

/- the equality of structs of plain fields -/
def scEq : Value → Value → Option Bool
  | .int k a, .int k' b => bif Nat.beq (kn k) (kn k') then some (decide (a = b)) else none
  | .string ⟨⟨a⟩⟩, .string ⟨⟨b⟩⟩ => some (decide (a = b))
  | .bool a, .bool b => some (decide (a = b))
  | _, _ => none

/-- The fields at these offsets, one after the other. -/
def cellsEq (xs ys : List Value) : List Nat → Option Bool
  | [] => some true
  | o :: os =>
    match xs[o]?, ys[o]? with
    | some a, some b => (match scEq a b, cellsEq xs ys os with
      | some p, some q => some (p && q)
      | _, _ => none)
    | _, _ => none

def plainD : Option TypeDesc → Nat
  | some .bool => 1
  | some (.int _) => 2
  | some .string => 3
  | _ => 0

def scKind : Value → Nat
  | .bool _ => 1
  | .int _ _ => 2
  | .string _ => 3
  | _ => 0

/-- A struct of plain fields: their offsets and kinds. -/
def plainB (P : Program) (t : TypeId) (os : List (Nat × Nat)) : Bool :=
  (match P.underlying t with
  | some (.struct fields) => fields.toList.map (fun f => (f.offset, plainD (P.underlying f.type))) == os && fields.toList.all (fun f => f.name != "_" && !isAggD ((P.underlying f.type).getD .bool) )
  | _ => false) && !P.stoodInHeld t && !P.eqGuardType P.depth t && os.all (fun o => o.2 != 0)

theorem run_eqScalar {d : Nat} {t : TypeId} {a b : Value} {r : Bool} (w : World) (hk : plainD (P.underlying t) = scKind a) (h0 : scKind a ≠ 0) (he : scEq a b = some r) : (Op.equalIn (d + 1) t a b).run P w = .ok r w := by
  unfold scEq at he
  split at he
  · rename_i k x k' y
    cases hu : P.underlying t with
    | none => rw [hu] at hk; exact absurd hk.symm h0
    | some u =>
      rw [hu] at hk
      cases hb : Nat.beq (kn k) (kn k') with
      | false => rw [hb] at he; cases he
      | true =>
        rw [hb] at he; simp only [cond_true, Option.some.injEq] at he; subst he
        have := kn_inj hb; subst this
        cases u <;> simp [plainD, scKind] at hk
        rw [run_equalIn_int w d t k _ x y hu, beq_dec]
  · rename_i x y
    simp only [Option.some.injEq] at he; subst he
    cases hu : P.underlying t with
    | none => rw [hu] at hk; exact absurd hk.symm h0
    | some u =>
      rw [hu] at hk
      cases u <;> simp [plainD, scKind] at hk
      rw [run_equalIn_string w d t _ _ hu, toList_mk, toList_mk, beq_dec]
  · rename_i x y
    simp only [Option.some.injEq] at he; subst he
    cases hu : P.underlying t with
    | none => rw [hu] at hk; exact absurd hk.symm h0
    | some u =>
      rw [hu] at hk
      cases u <;> simp [plainD, scKind] at hk
      rw [run_equalIn_bool w d t x y hu, beq_dec]
  · cases he

theorem run_eqFields {d : Nat} {xs ys : List Value} (w : World) : ∀ (fs : List Field) (os : List (Nat × Nat)) (r : Bool), fs.map (fun f => (f.offset, plainD (P.underlying f.type))) = os → (∀ f ∈ fs, f.name ≠ "_" ∧ ∃ u, P.underlying f.type = some u ∧ isAggD u = false) →
    (∀ o ∈ os, o.2 ≠ 0) → (∀ o ∈ os, ∀ a, xs[o.1]? = some a → scKind a = o.2) → cellsEq xs ys (os.map (·.1)) = some r → (Op.eqFields (d + 1) ⟨xs⟩ ⟨ys⟩ fs).run P w = .ok r w := by
  intro fs
  induction fs with
  | nil => intro os r h _ _ _ he; subst h; simp [cellsEq] at he; subst he; simp [Op.eqFields]
  | cons f fs ih =>
    intro os r h hf ho hx he
    subst h
    simp only [List.map_cons, cellsEq] at he
    split at he
    · rename_i a b ha hb
      split at he
      · rename_i p q hp hq
        simp only [Option.some.injEq] at he; subst he
        obtain ⟨hn, u, hu, hagg⟩ := hf f (by simp)
        have hka := hx (f.offset, plainD (P.underlying f.type)) (by simp) a ha
        have h0 := ho (f.offset, plainD (P.underlying f.type)) (by simp)
        have hr := run_eqScalar (P := P) (d := d) (t := f.type) (a := a) (b := b) w hka.symm (by rw [hka]; exact h0) hp
        have hIs : (isAgg f.type).run P w = .ok false w := by
          simp only [isAgg, Sem.run_bind, run_underlying hu, Result.andThen_ok]
          revert hagg; cases u <;> simp [isAggD]
        have ih' := ih _ q rfl (fun g hg => hf g (by simp [hg])) (fun o hm => ho o (by simp only [List.map_cons, List.mem_cons]; exact .inr hm)) (fun o hm => hx o (by simp only [List.map_cons, List.mem_cons]; exact .inr hm)) hq
        have ea : (part f.type (⟨xs⟩ : Array Value) f.offset).run P w = .ok a w := by simp [part, hIs, ha]
        have eb : (part f.type (⟨ys⟩ : Array Value) f.offset).run P w = .ok b w := by simp [part, hIs, hb]
        simp only [Op.eqFields, Sem.run_bind, Sem.run_ite]
        rw [if_pos hn, ea]
        simp only [Result.andThen_ok]
        rw [eb]
        simp only [Result.andThen_ok]
        rw [hr]
        simp only [Result.andThen_ok]
        cases p
        · simp
        · simpa using ih'
      · cases he
    · cases he

theorem run_eqS {t : TypeId} {xs ys : List Value} {os : List (Nat × Nat)} {r : Bool} (hp : plainB P t os = true)
    (hk : os.all (fun o => match xs[o.1]? with | some a => scKind a == o.2 | none => true) = true) (he : cellsEq xs ys (os.map (·.1)) = some r) (w : World) :
    P.eqGuardType P.depth t = false ∧ (Op.equalIn 10000 t (.agg ⟨xs⟩) (.agg ⟨ys⟩)).run P w = .ok r w := by
  simp only [plainB, Bool.and_eq_true] at hp
  obtain ⟨⟨⟨hp, h1⟩, h2⟩, h3⟩ := hp
  refine ⟨by simpa using h2, ?_⟩
  split at hp
  · rename_i fields hf
    simp only [Bool.and_eq_true, beq_iff_eq] at hp
    have hfo : P.fieldsOf t = fields := by simp [Program.fieldsOf, hf]
    have hst : P.stoodInHeld t = false := by simpa using h1
    have e0 := run_equalIn_struct (P := P) w 9999 t ⟨xs⟩ ⟨ys⟩ (by rw [hfo]; exact hf) hst
    rw [e0, hfo]
    refine run_eqFields (d := 9998) w fields.toList os r hp.1 (fun f hm => ?_) (fun o hm => ?_) (fun o hm a ha => ?_) he
    · have := List.all_eq_true.1 hp.2 f hm
      simp only [Bool.and_eq_true, bne_iff_ne, ne_eq, Bool.not_eq_true'] at this
      refine ⟨this.1, ?_⟩
      have hz := List.all_eq_true.1 h3 (f.offset, plainD (P.underlying f.type)) (by rw [← hp.1]; exact List.mem_map.2 ⟨f, hm, rfl⟩)
      cases hu : P.underlying f.type with
      | none => rw [hu] at hz; simp [plainD] at hz
      | some u => refine ⟨u, rfl, ?_⟩; have h5 := this.2; rw [hu] at h5; exact h5
    · have := List.all_eq_true.1 h3 o hm; simpa using this
    · have := List.all_eq_true.1 hk o hm; rw [ha] at this; simpa using this
  · simp at hp

theorem StillVC.eqS {t t' : TypeId} {x y : Operand} {xs ys : List Value} {os : List (Nat × Nat)} {r : Bool} (hp : plainB P t os = true) (hx : ev s x = .agg ⟨xs⟩) (hy : ev s y = .agg ⟨ys⟩)
    (hk : os.all (fun o => match xs[o.1]? with | some a => scKind a == o.2 | none => true) = true) (he : cellsEq xs ys (os.map (·.1)) = some r) (hK : K (.bool r) false h) : StillVC pr P (.binOp .eql t x y t') ty s h K :=
  .pure' _ false (fun w => by
    obtain ⟨hg, hr⟩ := run_eqS (P := P) hp hk he w
    simp only [execOp, hx, hy, Sem.run_bind, run_eqGuard_agg w .eql t x y _ _ hg, Result.andThen_ok, run_eql_struct, hr, Sem.run_pure]) hK

theorem StillVC.neS {t t' : TypeId} {x y : Operand} {xs ys : List Value} {os : List (Nat × Nat)} {r : Bool} (hp : plainB P t os = true) (hx : ev s x = .agg ⟨xs⟩) (hy : ev s y = .agg ⟨ys⟩)
    (hk : os.all (fun o => match xs[o.1]? with | some a => scKind a == o.2 | none => true) = true) (he : cellsEq xs ys (os.map (·.1)) = some r) (hK : K (.bool (!r)) false h) : StillVC pr P (.binOp .neq t x y t') ty s h K :=
  .pure' _ false (fun w => by
    obtain ⟨hg, hr⟩ := run_eqS (P := P) hp hk he w
    simp only [execOp, hx, hy, Sem.run_bind, run_eqGuard_agg w .neq t x y _ _ hg, Result.andThen_ok, run_neq_struct, hr, Sem.run_pure]) hK

/- SLICE EXPRESSIONS -/
theorem StillVC.sliceF {t e : TypeId} {by_ : Nat} {x l : Operand} {agg : Bool} {z : Value} {xs : List Value} {k : IntKind} {i : Int} (hS : SliceT P t e) (hE : TyI P e agg [z] by_) (hA : Arr h (ev s x) xs)
    (hl : ev s l = .int k i) (h0 : 0 ≤ i) (h1 : i ≤ xs.length) (hk : ∀ v, Arr h v (xs.drop i.toNat) → K v false h) : StillVC pr P (.slice t x (some l) none none) ty s h K := by
  obtain ⟨a, cap, hv, hcl, r⟩ := hA
  have he : P.elem t = e := by unfold SliceT at hS; simp [Program.elem, hS]
  have hS' : P.underlying t = some (.slice (P.elem t)) := by rw [he]; exact hS
  refine .pure' (sliced a i.toNat xs.length cap 1) false (fun w => ?_) (hk _ ?_)
  · simp [execOp, hv, hl, run_sliceAt_slice w t _ _ _ _ hS', run_slice_l w t a xs.length cap hS' k i h0 h1, he, hE.sizeOf]
  · have hlen : (xs.drop i.toNat).length = xs.length - i.toNat := by simp
    refine ⟨if cap = i.toNat then a else a.map (·.add (i.toNat * 1)), cap - i.toNat, by rw [hlen]; rfl, by rw [hlen]; omega, ?_⟩
    by_cases hz : xs.length ≤ i.toNat
    · exact .inl (List.drop_eq_nil_of_le hz)
    · rcases r with rfl | ⟨b, o, rfl, hc⟩
      · simp at hz
      · by_cases hcap : cap = i.toNat
        · omega
        · refine .inr ⟨b, o + i.toNat, by simp [hcap, Addr.add_lit], fun j hj => ?_⟩
          rw [hlen] at hj
          rw [Nat.add_assoc, hc (i.toNat + j) (by omega), List.getElem?_drop]


theorem StillVC.sliceLH {t e : TypeId} {by_ : Nat} {x l m : Operand} {agg : Bool} {z : Value} {xs : List Value} {k k' : IntKind} {i j : Int} (hS : SliceT P t e) (hE : TyI P e agg [z] by_) (hA : Arr h (ev s x) xs)
    (hl : ev s l = .int k i) (hm : ev s m = .int k' j) (h0 : 0 ≤ i) (h1 : i ≤ j) (h2 : j ≤ xs.length) (hk : ∀ v, Arr h v ((xs.drop i.toNat).take (j.toNat - i.toNat)) → K v false h) : StillVC pr P (.slice t x (some l) (some m) none) ty s h K := by
  obtain ⟨a, cap, hv, hcl, r⟩ := hA
  have he : P.elem t = e := by unfold SliceT at hS; simp [Program.elem, hS]
  have hS' : P.underlying t = some (.slice (P.elem t)) := by rw [he]; exact hS
  refine .pure' (sliced a i.toNat j.toNat cap 1) false (fun w => ?_) (hk _ ?_)
  · simp [execOp, hv, hl, hm, run_sliceAt_slice w t _ _ _ _ hS', run_slice_lh w t a xs.length cap hS' k k' i j h0 h1 (by omega), he, hE.sizeOf]
  · have hlen : ((xs.drop i.toNat).take (j.toNat - i.toNat)).length = j.toNat - i.toNat := by simp; omega
    refine ⟨if cap = i.toNat then a else a.map (·.add (i.toNat * 1)), cap - i.toNat, by rw [hlen]; rfl, by rw [hlen]; omega, ?_⟩
    by_cases hz : j.toNat ≤ i.toNat
    · left; rw [show j.toNat - i.toNat = 0 by omega]; rfl
    · rcases r with rfl | ⟨b, o, rfl, hc⟩
      · simp at h2; omega
      · refine .inr ⟨b, o + i.toNat, by rw [if_neg (by omega)]; simp [Addr.add_lit], fun q hq => ?_⟩
        rw [hlen] at hq
        rw [Nat.add_assoc, hc (i.toNat + q) (by omega), List.getElem?_take, if_pos hq, List.getElem?_drop]

theorem StillVC.sliceH {t e : TypeId} {by_ : Nat} {x m : Operand} {agg : Bool} {z : Value} {xs : List Value} {k' : IntKind} {j : Int} (hS : SliceT P t e) (hE : TyI P e agg [z] by_) (hA : Arr h (ev s x) xs)
    (hm : ev s m = .int k' j) (h1 : 0 ≤ j) (h2 : j ≤ xs.length) (hk : ∀ v, Arr h v (xs.take j.toNat) → K v false h) : StillVC pr P (.slice t x none (some m) none) ty s h K := by
  obtain ⟨a, cap, hv, hcl, r⟩ := hA
  have he : P.elem t = e := by unfold SliceT at hS; simp [Program.elem, hS]
  have hS' : P.underlying t = some (.slice (P.elem t)) := by rw [he]; exact hS
  refine .pure' (sliced a 0 j.toNat cap 1) false (fun w => ?_) (hk _ ?_)
  · simp [execOp, hv, hm, run_sliceAt_slice w t _ _ _ _ hS', run_slice_h w t a xs.length cap hS' k' j h1 (by omega), he, hE.sizeOf]
  · have hlen : (xs.take j.toNat).length = j.toNat := by simp; omega
    refine ⟨if cap = 0 then a else a.map (·.add (0 * 1)), cap - 0, by rw [hlen]; rfl, by rw [hlen]; omega, ?_⟩
    by_cases hz : j.toNat = 0
    · left; rw [hz]; rfl
    · rcases r with rfl | ⟨b, o, rfl, hc⟩
      · simp at h2; omega
      · refine .inr ⟨b, o, by rw [if_neg (by omega)]; simp [Addr.add_lit], fun q hq => ?_⟩
        rw [hlen] at hq
        rw [hc q (by omega), List.getElem?_take, if_pos hq]

theorem StillVC.sliceS {t : TypeId} {x : Operand} {lo hi : Option Operand} {cs : List UInt8} {i j : Int} (hS : P.underlying t = some .string) (hx : ev s x = .string ⟨⟨cs⟩⟩)
    (hl : match lo with | none => i = 0 | some l => ∃ k, ev s l = .int k i) (hm : match hi with | none => j = cs.length | some m => ∃ k, ev s m = .int k j) (h0 : 0 ≤ i) (h1 : i ≤ j) (h2 : j ≤ cs.length)
    (hk : K (.string ⟨⟨(cs.take j.toNat).drop i.toNat⟩⟩) false h) : StillVC pr P (.slice t x lo hi none) ty s h K := by
  refine .pure' _ false (fun w => ?_) hk
  have hz : (⟨⟨cs⟩⟩ : ByteArray).size = cs.length := rfl
  have hex : ∀ p q : Nat, (⟨⟨cs⟩⟩ : ByteArray).extract p q = ⟨⟨(cs.take q).drop p⟩⟩ := by
    intro p q
    have : ((⟨⟨cs⟩⟩ : ByteArray).extract p q).data = (⟨cs⟩ : Array UInt8).extract p q := by simp
    cases hh : (⟨⟨cs⟩⟩ : ByteArray).extract p q with
    | mk d =>
      rw [hh] at this
      simp only at this
      rw [this]
      simp [List.extract_eq_take_drop, List.drop_take]
  have bound : ∀ (k : IntKind) (n : Int) (y : Nat) (c : BoundsCode), 0 ≤ n → n ≤ y → (Instr.sliceBound (.int k n) y c).run P w = .ok n.toNat w := fun k n y c a b => run_sliceBound w k n y c a b
  have hjn : ((j.toNat : Nat) : Int) = j := Int.toNat_of_nonneg (by omega)
  cases lo with
  | none =>
    simp only at hl; subst hl
    cases hi with
    | none => simp only at hm; subst hm; simp [execOp, hx, Instr.sliceAt, Instr.slice, run_underlying hS, Instr.sliceBounds]
    | some m => obtain ⟨k, hm⟩ := hm; simp [execOp, hx, hm, Instr.sliceAt, Instr.slice, run_underlying hS, Instr.sliceBounds, hz, hex, bound _ _ _ _ (by omega : 0 ≤ j) h2]
  | some l =>
    obtain ⟨k, hl⟩ := hl
    cases hi with
    | none => simp only at hm; subst hm; simp [execOp, hx, hl, Instr.sliceAt, Instr.slice, run_underlying hS, Instr.sliceBounds, hz, hex, bound _ _ _ _ h0 h1]
    | some m => obtain ⟨k', hm⟩ := hm; simp [execOp, hx, hl, hm, Instr.sliceAt, Instr.slice, run_underlying hS, Instr.sliceBounds, hz, hex, bound _ _ _ _ (by omega : 0 ≤ j) h2, bound _ _ _ _ h0 (show i ≤ (j.toNat : Nat) by omega)]

/- MEMORY THAT IS ONLY READ -/
/-- A store of one cell into a row of the call's own. -/
theorem RunVC.storeR {t : TypeId} {a x : Operand} {zero : List Value} {by_ : Nat} {v : Value} {e : TypeId} {n : Nat} {xs : List Value} {i : Nat} (o : Own h0 L h) (k : Nat) (hk : L[k]? = some (row v e 1 n xs)) (hT : TyI P t false zero by_)
    (hz1 : zero.length = 1) (ha : ev s a = adr v i) (hil : i < xs.length)
    (hK : evK s x fun u => (u.cells = #[u] ∧ u.oneCell' = true) ∧ ∀ h', lsetK L k (row v e 1 n (xs.set i u)) fun L' => Own h0 L' h' → K undef false h') : RunVC P (.store t a x) ty s h K Q :=
  .of_skip fun w hw => by
    subst hw
    rw [evK_eq] at hK
    generalize hx : ev s x = u at hK
    obtain ⟨hu, hK⟩ := hK
    have hr : rowH w.heap e 1 v n xs := o.sat _ (List.mem_of_getElem? hk)
    obtain ⟨hl, hr⟩ := hr
    rcases hr with ⟨rfl, rfl⟩ | ⟨g, cap, cur, rfl, hg, hn, hm, hs, ht⟩
    · exfalso; simp at hl; subst hl; simp at hil
    · have hb : w.heap[g]? = some (.cells cur.toList.toArray e (0, 0)) := by simpa using hg
      have hrun := run_storeCells (P := P) (b := g) (off := i) [u] 0 w cur.toList e 0 0 hb (.inl rfl) (by simp; omega) (by simpa using hu.2)
      refine ⟨wsets w g i [u], ?_, (sets_other _ w g i).2.2, ?_⟩
      · rw [adr] at ha
        simp [execOp, ha, hx, Instr.storeAt, Instr.sureAddr, storeVar, hT.sizeOf, hz1, hu.1, hrun]
      · have := hK (wsets w g i [u]).heap
        rw [lsetK_eq] at this
        refine this (o.set hk (Nat.le_of_eq (sets_other _ w g i).1.symm) (fun x _ hx => (sets_other _ w g i).2.1 x (fun e => hx (by subst e; rfl))) ?_ (fun x hx => .inl hx) (fun x hx => ?_))
        · refine ⟨by simpa using hl, .inr ⟨g, cap, (cur.toList.set i u).toArray, rfl, sets_blk _ _ _ _ _ _ _ _ hb, hn, hm, by simpa using hs, ?_⟩⟩
          rw [← ht, List.take_set]
        · rw [(sets_other _ w g i).1]; exact o.hi _ (List.mem_of_getElem? hk) x hx

def ro (v : Value) (xs : List Value) : Item where
  fp x := v.ownBlock = some x
  sat h := Arr h v xs
  loc h h' e := fun ⟨a, cap, hv, hl, r⟩ => ⟨a, cap, hv, hl, r.imp id fun ⟨b, o, ha, hc⟩ => ⟨b, o, ha, fun i hi => by
    rw [cellAt_congr (e b (by rw [hv, ha]; rfl))]; exact hc i hi⟩⟩

theorem Own.roArr (o : Own h0 L h) (k : Nat) {v : Value} {xs : List Value} (hk : L[k]? = some (ro v xs)) : Arr h v xs := o.sat _ (List.mem_of_getElem? hk)

theorem Own.nilRo (o : Own h0 L h) : Own h0 (L ++ [ro (.slice none 0 0) []]) h := by
  refine o.callR ⟨.refl h, ?_, ?_, ?_, List.pairwise_singleton _ _⟩
  · intro x hx; simp only [List.mem_singleton] at hx; subst hx; exact Arr.nil h
  · intro x hx b hb; simp only [List.mem_singleton] at hx; subst hx; simp [ro, Value.ownBlock] at hb
  · intro x hx b hb; simp only [List.mem_singleton] at hx; subst hx; simp [ro, Value.ownBlock] at hb

theorem Own.toRo (o : Own h0 L h) {k : Nat} {x : Item} {v : Value} {xs : List Value} (hk : L[k]? = some x) (ha : Arr h v xs) (hfp : ∀ b, v.ownBlock = some b → x.fp b) : Own h0 (L.set k (ro v xs)) h :=
  o.set hk (Nat.le_refl _) (fun _ _ _ => rfl) ha (fun b hb => .inl (hfp b hb)) (fun b hb => o.hi _ (List.mem_of_getElem? hk) b (hfp b hb))

theorem Own.rowRo (o : Own h0 L h) (k : Nat) {v : Value} {e : TypeId} {n : Nat} {xs : List Value} (hk : L[k]? = some (row v e 1 n xs)) : Own h0 (L.set k (ro v xs)) h :=
  o.toRo hk (o.rowArr k hk) (fun _ hb => hb)

theorem Own.boxRo (o : Own h0 L h) (k : Nat) {b : Nat} {cs : List Value} {t : TypeId} (hk : L[k]? = some (box b cs t)) {n c : Nat} (hn : cs.length = n) (hc : n ≤ c) : Own h0 (L.set k (ro (.slice (some ⟨b, 0, none⟩) n c) cs)) h :=
  o.toRo hk (o.boxArr k hk hn hc) (fun b' hb => by simp [Value.ownBlock] at hb; exact hb.symm)

/- STRINGS AND BYTES -/
theorem RunVC.strBytes {src dst e : TypeId} {x : Operand} {l : List UInt8} (o : Own h0 L h) (hs : P.underlying src = some .string) (hd : SliceT P dst e) (he : P.underlying e = some (.int .u8)) (hx : ev s x = .string ⟨⟨l⟩⟩)
    (hK : ∀ v h', lappK L (ro v (bytes l)) fun L' => Own h0 L' h' → K v false h') : RunVC P (.convert src dst x) ty s h K Q :=
  .of fun w hw => by
    subst hw
    generalize hc : (Question.appendCap l.length 0 e).cut (w.tape w.drawn (.appendCap l.length 0 e)) = c
    have hcl : l.length ≤ c := by rw [← hc]; simp [Question.cut]
    let cells : Array Value := (bytes l).toArray ++ Array.replicate (c - l.length) (.int .u8 0)
    have hcs : cells.size = c := by simp [cells]; omega
    let w1 : World := { w with heap := w.heap.push (.cells cells e), drawn := w.drawn + 1 }
    have hheap : (w1.freeze { block := w.heap.size, off := cells.size } 1).heap = w.heap.push (.cells cells e (cells.size, cells.size + 1)) := by
      simp only [World.freeze, w1]
      apply Array.ext_getElem?
      intro i
      simp only [Nat.one_ne_zero, if_false, Array.getElem?_modify, Array.getElem?_push]
      by_cases hi : w.heap.size = i
      · subst hi; simp
      · simp [hi, Ne.symm hi]
    refine ⟨.slice (some ⟨w.heap.size, 0, none⟩) l.length c, false, w1.freeze { block := w.heap.size, off := cells.size } 1, ?_, ⟨rfl, rfl, rfl, by rw [hheap]; simp⟩, ?_⟩
    · have hz : (⟨⟨l⟩⟩ : ByteArray).size = l.length := rfl
      have hsh : w1.shape? w.heap.size = some (e, cells.size) := by simp [World.shape?, w1]
      have hmap : ((⟨⟨l⟩⟩ : ByteArray).data.map fun b => Value.int .u8 b.toNat) = (bytes l).toArray := by simp
      simp only [execOp, convert, hx, Sem.run_bind, run_underlying hs, run_underlying hd, run_underlying he, Result.andThen_ok, Conv.stringToBytes, run_choose, Question.forced, hz, Bool.false_eq_true, if_false, hc, hmap, newRow, run_newObj, markStringish, Sem.run_pure]
      have e1 : ({ w with drawn := w.drawn + 1, heap := w.heap.push (.cells cells e) } : World) = w1 := rfl
      simp only [cells] at hsh e1 ⊢
      simp [e1, hsh]
    · have := hK (.slice (some ⟨w.heap.size, 0, none⟩) l.length c) (w1.freeze { block := w.heap.size, off := cells.size } 1).heap
      rw [lappK_eq] at this
      refine this (o.callR ⟨?_, ?_, ?_, ?_, List.pairwise_singleton _ _⟩)
      · rw [hheap]; exact ⟨by simp, fun b hb => by rw [Array.getElem?_push, if_neg (by omega)]⟩
      · intro x hx; simp only [List.mem_singleton] at hx; subst hx
        refine ⟨_, c, by simp, by simpa using hcl, .inr ⟨w.heap.size, 0, rfl, fun i hi => ?_⟩⟩
        rw [Nat.zero_add, hheap]
        simp only [List.length_map] at hi
        simp [cellAt, cells, Array.getElem?_append, hi]
      · intro x hx b hb; simp only [List.mem_singleton] at hx; subst hx; simp [ro, Value.ownBlock] at hb; omega
      · intro x hx b hb; simp only [List.mem_singleton] at hx; subst hx; rw [hheap]; simp [ro, Value.ownBlock] at hb; simp; omega

/- RESULTS IN MEMORY -/
theorem results_cell_tmp {fn : Func} {a t : TypeId} {u : Tmp} (hf : fn.results = #[.cell a t, .tmp u]) {zero : List Value} {by_ : Nat} {b : Nat} {vs : List Value} {t' : TypeId} (o : Own h0 L h) (k : Nat) (hk : L[k]? = some (box b vs t'))
    (hT : TyI P t true zero by_) (hl : vs.length = zero.length) (ha : sget s a = .pointer (some ⟨b, 0, none⟩)) (w : World) (hw : w.heap = h) :
    (results fn s.toArray).run P w = .ok (.tuple ⟨[.agg ⟨vs⟩, sget s u]⟩) w := by
  have hc := run_loadCellsFrom (P := P) (w := w) (a := ⟨b, 0, none⟩) vs 0 #[] (fun j hj => by
    rw [Nat.zero_add, Addr.add_lit, Nat.zero_add, cellAt_eq, hw]; exact o.cellB k hk j)
  have e1 : s.toArray.getD a undef = .pointer (some ⟨b, 0, none⟩) := by rw [← ha, ← sget_getD]; simp
  have e2 : s.toArray.getD u undef = sget s u := by rw [← sget_getD]; simp
  simp only [Array.getD_eq_getD_getElem?, List.getElem?_toArray] at e1 e2
  simp [results, hf, e1, e2, asAddr, loadVar, hT.isAgg, hT.sizeOf, ← hl, loadCells, hc]

/-- A struct result that lies in a box of the call's own, and a second result. -/
theorem RetVC.cell2 {fn : Func} {a t : TypeId} {u : Tmp} {R : Value → Heap → Prop} (hf : fn.results = #[.cell a t, .tmp u]) {zero : List Value} {by_ : Nat} {b : Nat} {vs : List Value} {t' : TypeId} (o : Own h0 L h) (k : Nat) (hk : L[k]? = some (box b vs t'))
    (hT : TyI P t true zero by_) (hl : vs.length = zero.length) (ha : sget s a = .pointer (some ⟨b, 0, none⟩)) (hr : sgetK s u fun v => R (.tuple ⟨[.agg ⟨vs⟩, v]⟩) h) : RetVC P fn s h R where
  ex := ⟨_, fun w hw => results_cell_tmp hf o k hk hT hl ha w hw, by simpa only [sgetK_eq] using hr⟩

/- STRUCTS -/
def fillL (places : List (Nat × Nat)) (cells : List Value) : List (Nat × Value) → Option (List Value)
  | [] => some cells
  | (i, v) :: rest =>
    match places[i]? with
    | none => none
    | some (off, size) => bif Nat.beq v.cells.size size && Nat.ble (off + size) cells.length then fillL places (lset cells off v.cells.toList) rest else none

structure StructT (P : Program) (t : TypeId) (places : List (Nat × Nat)) (aggs : List Bool) (zero : List Value) : Prop where
  ex : ∃ fields : Array Field, P.underlying t = some (.struct fields) ∧ fields.size = places.length ∧ places.length = aggs.length ∧
    ∀ (i : Nat) (f : Field), fields[i]? = some f → ∃ (p : Nat × Nat) (b : Bool) (d : TypeDesc) (inf : TypeInfo), places[i]? = some p ∧ aggs[i]? = some b ∧ f.offset = p.1 ∧ P.info? f.type = some inf ∧ inf.size = p.2 ∧ P.underlying f.type = some d ∧ isAggD d = b
  zero : ∃ (i : TypeInfo) (z : Value), P.info? t = some i ∧ i.zero = some z ∧ z.cells = zero.toArray

/-- What a computation checks of a struct's type. -/
def structB (P : Program) (t : TypeId) (places : List (Nat × Nat)) (aggs : List Bool) : Bool :=
  match P.underlying t with
  | some (.struct fields) => fields.toList.map (fun f => (f.offset, (P.info? f.type).map (·.size), (P.underlying f.type).map isAggD)) == (places.zip aggs).map (fun x => (x.1.1, some x.1.2, some x.2)) && places.length == aggs.length
  | _ => false

theorem StructT.mk' {t : TypeId} {places : List (Nat × Nat)} {aggs : List Bool} {zero : List Value} {agg : Bool} {by_ : Nat} (hb : structB P t places aggs = true) (hT : TyI P t agg zero by_) : StructT P t places aggs zero := by
  refine ⟨?_, by obtain ⟨i, z, hi, _, hz, hc, _⟩ := hT.info; exact ⟨i, z, hi, hz, hc⟩⟩
  unfold structB at hb
  split at hb
  · rename_i fields hf
    simp only [Bool.and_eq_true, beq_iff_eq] at hb
    obtain ⟨hb, hl⟩ := hb
    have hlen : fields.size = places.length := by
      have := congrArg List.length hb
      simp only [List.length_map, Array.length_toList, List.length_zip] at this
      omega
    refine ⟨fields, hf, hlen, hl, fun i f hi => ?_⟩
    have hi' : i < fields.size := (Array.getElem?_eq_some_iff.1 hi).1
    have h1 : i < places.length := by omega
    have h2 : i < aggs.length := by omega
    have := congrArg (fun l => l[i]?) hb
    simp only [List.getElem?_map, Array.getElem?_toList, hi, Option.map_some] at this
    have e1 : places[i]? = some places[i] := by simp [h1]
    have e2 : aggs[i]? = some aggs[i] := by simp [h2]
    have ez : (places.zip aggs)[i]? = some (places[i], aggs[i]) := List.getElem?_zip_eq_some.2 ⟨e1, e2⟩
    rw [show (Option.map (fun x => (x.1.1, some x.1.2, some x.2)) (places.zip aggs)[i]? : Option _) = some (places[i].1, some places[i].2, some aggs[i]) by rw [ez]; rfl] at this
    injection this with this
    injection this with o1 o2
    injection o2 with o2 o3
    obtain ⟨inf, hinf, hsz⟩ := Option.map_eq_some_iff.1 o2
    obtain ⟨d, hd, ha⟩ := Option.map_eq_some_iff.1 o3
    exact ⟨places[i], aggs[i], d, inf, e1, e2, o1, hinf, hsz, hd, ha⟩
  · cases hb

theorem foldl_lset (vs : List Value) (off : Nat) (cs : List Value) : ∀ k, (vs.zipIdx k).foldl (fun (cs : Array Value) (x : Value × Nat) => cs.setIfInBounds (off + x.2) x.1) cs.toArray = (lset cs (off + k) vs).toArray := by
  induction vs generalizing cs with
  | nil => intro k; rfl
  | cons v vs ih => intro k; simp only [List.zipIdx_cons, List.foldl_cons, lset]; rw [show cs.toArray.setIfInBounds (off + k) v = (cs.set (off + k) v).toArray by simp]; exact ih _ (k + 1)

theorem fill_eq (place : Nat → Option (Nat × Nat)) (places : List (Nat × Nat)) (hp : ∀ i, place i = places[i]?) : ∀ (parts : List (Nat × Value)) (cells : List Value) (r : List Value), fillL places cells parts = some r → Instr.fill place cells.toArray parts = some r.toArray := by
  intro parts
  induction parts with
  | nil => intro cells r h; simp [fillL] at h; subst h; rfl
  | cons q parts ih =>
    obtain ⟨i, v⟩ := q
    intro cells r h
    simp only [fillL] at h
    simp only [Instr.fill, hp]
    cases hi : places[i]? with
    | none => simp [hi] at h
    | some p =>
      obtain ⟨off, size⟩ := p
      simp only [hi] at h
      cases hb : (Nat.beq v.cells.size size && Nat.ble (off + size) cells.length) with
      | false => rw [hb] at h; cases h
      | true =>
        rw [hb] at h
        simp only [cond_true] at h
        simp only [Bool.and_eq_true] at hb
        have h1 := Nat.eq_of_beq_eq_true hb.1
        have h2 := Nat.le_of_ble_eq_true hb.2
        have := ih _ _ h
        simp only [List.size_toArray]
        rw [if_neg (by simp [h1]; omega)]
        rw [← this]
        congr 1
        have := foldl_lset v.cells.toList off cells 0
        rw [Nat.add_zero] at this
        rw [← this, ← Array.foldl_toList]
        simp

theorem run_mapM_ok {α β : Type} (F : α → Sem β) : ∀ (fs : List α) (ps : List β), (∀ (i : Nat) (f : α), fs[i]? = some f → ∃ p, ps[i]? = some p ∧ ∀ w, (F f).run P w = .ok p w) → fs.length = ps.length →
    ∀ w, (fs.mapM F).run P w = .ok ps w
  | [], [], _, _, w => by simp
  | [], _ :: _, _, hl, _ => by simp at hl
  | _ :: _, [], _, hl, _ => by simp at hl
  | f :: fs, p :: ps, hp, hl, w => by
    obtain ⟨p', e1, e2⟩ := hp 0 f (by simp)
    simp only [List.getElem?_cons_zero, Option.some.injEq] at e1; subst e1
    have := run_mapM_ok F fs ps (fun i g hg => by have := hp (i + 1) g (by simpa using hg); simpa using this) (by simpa using hl) w
    simp only [List.mapM_cons, Sem.run_bind, e2, Result.andThen_ok, this, Sem.run_pure]

theorem StillVC.build {t : TypeId} {parts : List (Nat × Operand)} {places : List (Nat × Nat)} {aggs : List Bool} {zero vs : List Value} (hT : StructT P t places aggs zero)
    (hf : fillL places zero (parts.map fun p => (p.1, ev s p.2)) = some vs) (hk : K (.agg ⟨vs⟩) false h) : StillVC pr P (.build t ⟨parts⟩) ty s h K := by
  obtain ⟨fields, hu, hsz, hl, hfs⟩ := hT.ex
  obtain ⟨inf, z, hi, hz, hc⟩ := hT.zero
  refine .pure' _ false (fun w => ?_) hk
  have hm := run_mapM_ok (P := P) (fun f : Field => do pure (f.offset, ← sizeOf f.type)) fields.toList places (fun i f hf => by
    obtain ⟨p, b, d, inf, a1, _, a3, a4, a5, _⟩ := hfs i f (by simpa using hf)
    exact ⟨p, a1, fun w => by simp [sizeOf, typeInfo, a4, a5, a3]⟩) (by simpa using hsz) w
  have hfill := fill_eq (fun i => places[i]?) places (fun i => rfl) _ _ _ hf
  have hmA : (fields.mapM (fun f : Field => do pure (f.offset, ← sizeOf f.type))).run P w = .ok places.toArray w := by
    rw [Array.mapM_eq_mapM_toList, Sem.run_map, hm]; rfl
  simp only [execOp, Instr.build, Sem.run_bind, run_underlying hu, Result.andThen_ok, zeroValue, typeInfo, run_program, hi, hz, Sem.run_pure, hc, hmA]
  simp [hfill]

theorem StillVC.fieldV {t : TypeId} {x : Operand} {f : Nat} {places : List (Nat × Nat)} {aggs : List Bool} {zero vs : List Value} {off sz : Nat} {v : Value} (hT : StructT P t places aggs zero) (hx : ev s x = .agg ⟨vs⟩)
    (hp : places[f]? = some (off, sz)) (ha : aggs[f]? = some false) (hv : vs[off]? = some v) (hk : K v false h) : StillVC pr P (.field t x f) ty s h K := by
  obtain ⟨fields, hu, hsz, hl, hfs⟩ := hT.ex
  refine .pure' _ false (fun w => ?_) hk
  have hlt : f < fields.size := by rw [hsz]; exact (List.getElem?_eq_some_iff.1 hp).1
  obtain ⟨p, b, d, inf, a1, a2, a3, a4, a5, a6, a7⟩ := hfs f fields[f] (by simp [hlt])
  rw [hp] at a1; injection a1 with a1; subst a1
  rw [ha] at a2; injection a2 with a2; subst a2
  have hagg : (isAgg fields[f].type).run P w = .ok false w := by
    simp only [isAgg, Sem.run_bind, run_underlying a6, Result.andThen_ok]
    revert a7; cases d <;> simp [isAggD]
  simp [execOp, hx, Instr.field, run_underlying hu, hlt, part, hagg, asAgg, a3, hv]

theorem StillVC.fieldA {t : TypeId} {x : Operand} {f : Nat} {places : List (Nat × Nat)} {aggs : List Bool} {zero vs : List Value} {off sz : Nat} (hT : StructT P t places aggs zero) (hx : ev s x = .agg ⟨vs⟩)
    (hp : places[f]? = some (off, sz)) (ha : aggs[f]? = some true) (hk : K (.agg ⟨(vs.drop off).take sz⟩) false h) : StillVC pr P (.field t x f) ty s h K := by
  obtain ⟨fields, hu, hsz, hl, hfs⟩ := hT.ex
  refine .pure' _ false (fun w => ?_) hk
  have hlt : f < fields.size := by rw [hsz]; exact (List.getElem?_eq_some_iff.1 hp).1
  obtain ⟨p, b, d, inf, a1, a2, a3, a4, a5, a6, a7⟩ := hfs f fields[f] (by simp [hlt])
  rw [hp] at a1; injection a1 with a1; subst a1
  rw [ha] at a2; injection a2 with a2; subst a2
  have hagg : (isAgg fields[f].type).run P w = .ok true w := by
    simp only [isAgg, Sem.run_bind, run_underlying a6, Result.andThen_ok]
    revert a7; cases d <;> simp [isAggD]
  simp [execOp, hx, Instr.field, run_underlying hu, hlt, part, hagg, asAgg, a3, sizeOf, typeInfo, a4, a5, List.extract_eq_take_drop]

theorem StillVC.fieldAddr {t : TypeId} {x : Operand} {f : Nat} {places : List (Nat × Nat)} {aggs : List Bool} {zero : List Value} {off sz b o : Nat} (hT : StructT P t places aggs zero) (hx : ev s x = .pointer (some ⟨b, o, none⟩))
    (hp : places[f]? = some (off, sz)) (hz : Nat.beq sz 0 = false) (hk : K (.pointer (some ⟨b, o + off, none⟩)) false h) : StillVC pr P (.fieldAddr t x f) ty s h K := by
  obtain ⟨fields, hu, hsz, hl, hfs⟩ := hT.ex
  refine .pure' _ false (fun w => ?_) hk
  have hlt : f < fields.size := by rw [hsz]; exact (List.getElem?_eq_some_iff.1 hp).1
  obtain ⟨p, b, d, inf, a1, a2, a3, a4, a5, a6, a7⟩ := hfs f fields[f] (by simp [hlt])
  rw [hp] at a1; injection a1 with a1; subst a1
  have hsz0 : sz ≠ 0 := Nat.ne_of_beq_eq_false hz
  simp [execOp, hx, Instr.fieldAt, run_underlying hu, hlt, Instr.sureAddr, fieldPlace, sizeOf, typeInfo, a4, a5, hsz0, a3, Addr.add_lit]

/- THE SAME RULES WITH THE NEW CELLS WRITTEN OUT -/
def lsetsKK (cs : List Value) (off : Nat) (vs : List Value) (k : List Value → Prop) : Prop :=
  match vs with
  | [] => k cs
  | v :: vs => ssetK cs off v fun cs => lsetsKK cs (off + 1) vs k
theorem lsetsKK_eq (cs : List Value) (off : Nat) (vs : List Value) (k : List Value → Prop) : lsetsKK cs off vs k = k (lset cs off vs) := by
  induction vs generalizing cs off with
  | nil => rfl
  | cons v vs ih => simp only [lsetsKK, ssetK_eq, ih, lset]

theorem RunVC.storeL {t : TypeId} {a x : Operand} {zero : List Value} {by_ : Nat} {agg : Bool} {b off : Nat} {cs : List Value} {t' : TypeId} (o : Own h0 L h) (k : Nat) (hk : L[k]? = some (box b cs t')) (hT : TyI P t agg zero by_)
    (ha : ev s a = .pointer (some ⟨b, off, none⟩)) (hl : off + zero.length ≤ cs.length)
    (hK : evK s x fun v => cellsK v fun vs => (vs.length = zero.length ∧ vs.all (fun u => u.oneCell') = true) ∧ ∀ h', lsetsKK cs off vs fun cs' => lsetK L k (box b cs' t') fun L' => Own h0 L' h' → K undef false h') : RunVC P (.store t a x) ty s h K Q :=
  .store o k hk hT ha hl (by simpa only [lsetsKK_eq, lsetsK_eq] using hK)

def fillLK (s : List Value) (places : List (Nat × Nat)) (cells : List Value) (parts : List (Nat × Operand)) (k : List Value → Prop) : Prop :=
  match parts with
  | [] => k cells
  | (i, x) :: rest => evK s x fun v => match places[i]? with
    | none => False
    | some (off, size) => cellsK v fun vs => (Nat.beq vs.length size && Nat.ble (off + size) cells.length) = true ∧ lsetsKK cells off vs fun cells' => fillLK s places cells' rest k

theorem fillLK_eq (places : List (Nat × Nat)) : ∀ (parts : List (Nat × Operand)) (cells : List Value) (k : List Value → Prop), fillLK s places cells parts k → ∃ vs, fillL places cells (parts.map fun p => (p.1, ev s p.2)) = some vs ∧ k vs
  | [], cells, k, h => ⟨cells, rfl, h⟩
  | (i, x) :: rest, cells, k, h => by
    simp only [fillLK, evK_eq] at h
    simp only [List.map_cons, fillL]
    cases hp : places[i]? with
    | none => rw [hp] at h; exact h.elim
    | some p =>
      obtain ⟨off, size⟩ := p
      rw [hp] at h
      simp only [cellsK_eq, lsetsKK_eq] at h
      simp only [Array.length_toList] at h
      simp only [h.1, cond_true]
      exact fillLK_eq places rest _ k h.2

theorem StillVC.buildK {t : TypeId} {parts : List (Nat × Operand)} {places : List (Nat × Nat)} {aggs : List Bool} {zero : List Value} (hT : StructT P t places aggs zero)
    (hk : fillLK s places zero parts fun vs => K (.agg ⟨vs⟩) false h) : StillVC pr P (.build t ⟨parts⟩) ty s h K := by
  obtain ⟨vs, hf, hk⟩ := fillLK_eq places parts zero _ hk
  exact .build hT hf hk

end
theorem Br.ttE {b : Bool} {A B : Prop} {c d : Code} (hb : b = true) (h : A) : Br b A B c d := ⟨fun _ => h, fun e => by rw [hb] at e; cases e⟩
theorem Br.ffE {b : Bool} {A B : Prop} {c d : Code} (hb : b = false) (h : B) : Br b A B c d := ⟨fun e => (by rw [hb] at e; cases e), fun _ => h⟩
end Go.Proofs.YtfjajkgfgigodaaGreatDoor
