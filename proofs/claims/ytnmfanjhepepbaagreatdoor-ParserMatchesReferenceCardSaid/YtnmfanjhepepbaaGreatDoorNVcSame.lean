/-
  Structs of plain fields, also one in another, that are compared with themselves.
-/
import Derived.Test.YtnmfanjhepepbaaGreatDoorNVcTree
namespace Go.Proofs.YtnmfanjhepepbaaGreatDoor
open Go

/-- The kinds of the cells of the fields, one behind the other. -/
def goF (P : Program) (rec_ : TypeId → Option (Bool × List Nat)) : List Field → Nat → Option (List Nat)
  | [], _ => some []
  | f :: fs, o =>
    if f.name != "_" && f.offset == o then
      match rec_ f.type with
      | none => none
      | some (_, ks) => if (P.info? f.type).map (·.size) == some ks.length then (goF P rec_ fs (o + ks.length)).map (ks ++ ·) else none
    else none

/-- Whether a type is a struct, and the kinds of its cells. -/
def deepP (P : Program) : Nat → TypeId → Option (Bool × List Nat)
  | 0, _ => none
  | d + 1, t => match P.underlying t with
    | some .bool => some (false, [1])
    | some (.int _) => some (false, [2])
    | some .string => some (false, [3])
    | some (.struct fs) => if P.stoodInHeld t then none else (goF P (deepP P d) fs.toList 0).map fun ks => (true, ks)
    | _ => none

section
variable {P : Program}

theorem deepP_und {d : Nat} {t : TypeId} {b : Bool} {ks : List Nat} (h : deepP P d t = some (b, ks)) : ∃ u, P.underlying t = some u ∧ isAggD u = b := by
  cases d with
  | zero => cases h
  | succ d =>
    unfold deepP at h
    split at h
    · rename_i hu; cases h; exact ⟨_, hu, rfl⟩
    · rename_i hu; cases h; exact ⟨_, hu, rfl⟩
    · rename_i hu; cases h; exact ⟨_, hu, rfl⟩
    · rename_i hu
      split at h
      · cases h
      · obtain ⟨ks', _, h2⟩ := Option.map_eq_some_iff.1 h
        cases h2
        exact ⟨_, hu, rfl⟩
    · cases h

/-- A value that fits: a struct's cells, or one cell. -/
def FitsD (b : Bool) (ks : List Nat) (v : Value) : Prop := match b with
  | true => ∃ xs, v = .agg ⟨xs⟩ ∧ xs.map scKind = ks
  | false => [scKind v] = ks

theorem part_fits {t : TypeId} {b : Bool} {ks : List Nat} {xs : List Value} {o : Nat} {u : TypeDesc} (hu : P.underlying t = some u) (hb : isAggD u = b) (hs : (P.info? t).map (·.size) = some ks.length) (hk : ((xs.drop o).take ks.length).map scKind = ks) (h1 : b = false → ks.length = 1) (w : World) :
    ∃ v, (part t (⟨xs⟩ : Array Value) o).run P w = .ok v w ∧ FitsD b ks v := by
  have hI : (isAgg t).run P w = .ok b w := by
    simp only [isAgg, Sem.run_bind, run_underlying hu, Result.andThen_ok]
    subst hb
    cases u <;> simp [isAggD]
  cases b with
  | true =>
    obtain ⟨i, hi, hsz⟩ := Option.map_eq_some_iff.1 hs
    have hS : (sizeOf t).run P w = .ok ks.length w := by simp [sizeOf, typeInfo, hi, hsz]
    refine ⟨.agg ((⟨xs⟩ : Array Value).extract o (o + ks.length)), by simp [part, hI, hS], ?_⟩
    refine ⟨(xs.drop o).take ks.length, ?_, hk⟩
    congr 1
    apply Array.toList_inj.1
    simp [List.take_drop]
  | false =>
    have hl := h1 rfl
    match ks, hl with
    | [k], _ =>
      have : ∃ v, xs[o]? = some v ∧ scKind v = k := by
        cases hx : xs.drop o with
        | nil => rw [hx] at hk; simp at hk
        | cons y ys =>
          rw [hx] at hk
          refine ⟨y, ?_, by simpa using hk⟩
          have := congrArg (·[0]?) hx
          simpa using this
      obtain ⟨v, hv, hkv⟩ := this
      exact ⟨v, by simp [part, hI, hv], by simp [FitsD, hkv]⟩

theorem deepP_one {d : Nat} {t : TypeId} {ks : List Nat} (h : deepP P d t = some (false, ks)) : ks.length = 1 := by
  cases d with
  | zero => cases h
  | succ d =>
    unfold deepP at h
    split at h
    · cases h; rfl
    · cases h; rfl
    · cases h; rfl
    · split at h
      · cases h
      · obtain ⟨ks', _, h2⟩ := Option.map_eq_some_iff.1 h
        cases h2
    · cases h

theorem fields_self {D : Nat} {rec_ : TypeId → Option (Bool × List Nat)} {xs : List Value} (w : World)
    (hu : ∀ t b ks, rec_ t = some (b, ks) → (∃ u, P.underlying t = some u ∧ isAggD u = b) ∧ (b = false → ks.length = 1))
    (hr : ∀ t b ks v, rec_ t = some (b, ks) → FitsD b ks v → (Op.equalIn D t v v).run P w = .ok true w) :
    ∀ (fs : List Field) (o : Nat) (ks : List Nat), goF P rec_ fs o = some ks → (xs.drop o).map scKind = ks → (Op.eqFields D ⟨xs⟩ ⟨xs⟩ fs).run P w = .ok true w
  | [], _, _, _, _ => by simp [Op.eqFields]
  | f :: fs, o, ks, h, hk => by
    unfold goF at h
    split at h
    · rename_i hn
      simp only [Bool.and_eq_true, bne_iff_ne, ne_eq, beq_iff_eq] at hn
      obtain ⟨hn, rfl⟩ := hn
      split at h
      · cases h
      · rename_i b k1 hrec
        split at h
        · rename_i hsz
          simp only [beq_iff_eq] at hsz
          obtain ⟨k2, h2, h3⟩ := Option.map_eq_some_iff.1 h
          subst h3
          obtain ⟨⟨u, hu1, hu2⟩, h1⟩ := hu _ _ _ hrec
          have hka : ((xs.drop f.offset).take k1.length).map scKind = k1 := by
            have := congrArg (List.take k1.length) hk
            rw [← List.map_take] at this
            simpa using this
          have hkb : (xs.drop (f.offset + k1.length)).map scKind = k2 := by
            have := congrArg (List.drop k1.length) hk
            rw [← List.map_drop, List.drop_drop] at this
            simpa using this
          obtain ⟨v, hp, hf⟩ := part_fits (P := P) hu1 hu2 hsz hka h1 w
          have ih := fields_self (xs := xs) w hu hr fs _ k2 h2 hkb
          simp only [Op.eqFields, Sem.run_bind, Sem.run_ite]
          rw [if_pos hn, hp]
          simp only [Result.andThen_ok]
          rw [hp]
          simp only [Result.andThen_ok]
          rw [hr _ _ _ _ hrec hf]
          simpa using ih
        · cases h
    · cases h

theorem deep_self (w : World) : ∀ (d e : Nat) (t : TypeId) (b : Bool) (ks : List Nat) (v : Value), deepP P d t = some (b, ks) → FitsD b ks v → (Op.equalIn (d + e) t v v).run P w = .ok true w
  | 0, _, _, _, _, _, h, _ => by cases h
  | d + 1, e, t, b, ks, v, h, hf => by
    rw [show d + 1 + e = (d + e) + 1 by omega]
    unfold deepP at h
    split at h
    · rename_i hu
      cases h
      cases v <;> simp [FitsD, scKind] at hf
      rw [run_equalIn_bool w _ t _ _ hu]; simp
    · rename_i hu
      cases h
      cases v <;> simp [FitsD, scKind] at hf
      rw [run_equalIn_int w _ t _ _ _ _ hu]; simp
    · rename_i hu
      cases h
      cases v <;> simp [FitsD, scKind] at hf
      rw [run_equalIn_string w _ t _ _ hu]; simp
    · rename_i fs hu
      split at h
      · cases h
      · rename_i hst
        obtain ⟨k', h1, h2⟩ := Option.map_eq_some_iff.1 h
        cases h2
        obtain ⟨xs, rfl, hk⟩ := hf
        have hfo : P.fieldsOf t = fs := by simp [Program.fieldsOf, hu]
        rw [run_equalIn_struct w _ t ⟨xs⟩ ⟨xs⟩ (by rw [hfo]; exact hu) (by simpa using hst), hfo]
        exact fields_self w (fun t b ks h => ⟨deepP_und h, fun hb => by subst hb; exact deepP_one h⟩) (fun t b ks v h hf => deep_self w d e t b ks v h hf) fs.toList 0 _ h1 (by simpa using hk)
    · cases h

variable {ty : TypeId} {s : List Value} {h : Heap} {K : KK} {Q : QQ}

theorem StillVC.neSelf {pr : Bool} {t t' : TypeId} {x y : Operand} {xs : List Value} {ks : List Nat} (hp : deepP P 5 t = some (true, ks)) (hg : P.eqGuardType P.depth t = false) (hx : ev s x = .agg ⟨xs⟩) (hy : ev s y = .agg ⟨xs⟩) (hk : xs.map scKind = ks)
    (hK : K (.bool false) false h) : StillVC pr P (.binOp .neq t x y t') ty s h K :=
  .pure' _ false (fun w => by
    have hr : (Op.equalIn 10000 t (.agg ⟨xs⟩) (.agg ⟨xs⟩)).run P w = .ok true w := deep_self w 5 9995 t true ks _ hp ⟨xs, rfl, hk⟩
    simp only [execOp, hx, hy, Sem.run_bind, run_eqGuard_agg w .neq t x y _ _ hg, Result.andThen_ok, run_neq_struct, hr, Sem.run_pure]
    rfl) hK

theorem StillVC.eqSelf {pr : Bool} {t t' : TypeId} {x y : Operand} {xs : List Value} {ks : List Nat} (hp : deepP P 5 t = some (true, ks)) (hg : P.eqGuardType P.depth t = false) (hx : ev s x = .agg ⟨xs⟩) (hy : ev s y = .agg ⟨xs⟩) (hk : xs.map scKind = ks)
    (hK : K (.bool true) false h) : StillVC pr P (.binOp .eql t x y t') ty s h K :=
  .pure' _ false (fun w => by
    have hr : (Op.equalIn 10000 t (.agg ⟨xs⟩) (.agg ⟨xs⟩)).run P w = .ok true w := deep_self w 5 9995 t true ks _ hp ⟨xs, rfl, hk⟩
    simp only [execOp, hx, hy, Sem.run_bind, run_eqGuard_agg w .eql t x y _ _ hg, Result.andThen_ok, run_eql_struct, hr, Sem.run_pure]) hK

theorem RunVC.eqSelf {t t' : TypeId} {x y : Operand} {xs : List Value} {ks : List Nat} (hp : deepP P 5 t = some (true, ks)) (hg : P.eqGuardType P.depth t = false) (hx : ev s x = .agg ⟨xs⟩) (hy : ev s y = .agg ⟨xs⟩) (hk : xs.map scKind = ks)
    (hK : K (.bool true) false h) : RunVC P (.binOp .eql t x y t') ty s h K Q := (StillVC.eqSelf hp hg hx hy hk hK).run

end
end Go.Proofs.YtnmfanjhepepbaaGreatDoor
