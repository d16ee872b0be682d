/-
 The reference's reader, plainly: what it reads is what the parser reads, and after an error it stays as it is. The reference's reader, plainly: expressions, items and programs.
-/
import Derived.Test.YtnmfanjhepepbaaGreatDoorNStructs
import Derived.Test.YtnmfanjhepepbaaGreatDoorNMPd
import Derived.Test.YtnmfanjhepepbaaGreatDoorNMPl
set_option linter.all false
/- The reference's reader, plainly: what it reads is what the parser reads, and after an error it stays as it is. -/
namespace Go.Proofs.YtnmfanjhepepbaaGreatDoor
open Go StillVC

/-- The reader's place, its error and the error's offset. -/
structure RS where
 i : Nat
 e : Int
 a : Int

def RM (α : Type) := RS → α × RS

instance : Monad RM where
 pure a := fun s => (a, s)
 bind m f := fun s => f (m s).1 (m s).2

theorem RM.bind_of {α β : Type} {m : RM α} {f : α → RM β} {s s' : RS} {a : α} (h : m s = (a, s')) : (m >>= f) s = f a s' := by
 show f (m s).1 (m s).2 = _
 rw [h]

theorem RM.pure_eq {α : Type} (a : α) (s : RS) : (pure a : RM α) s = (a, s) := rfl

def ifR {α : Type} (c : Bool) (m : RM α) (d : α) : RM α := if c = true then m else pure d
theorem ifR_yes {α : Type} {c : Bool} {m : RM α} {d : α} (h : c = true) : ifR c m d = m := if_pos h
theorem ifR_no {α : Type} {c : Bool} {m : RM α} {d : α} (h : c = false) : ifR c m d = pure d := if_neg (by rw [h]; decide)

def tok0 : Tok := ⟨0, [], 0, 0⟩

section
variable (L : List Tok) (z : Nat)

def failS (e : Int) (s : RS) : RS :=
 if s.e ≠ 0 then s else match L[s.i]? with
  | some t => ⟨s.i, e, t.off⟩
  | none => ⟨s.i, if e = 4 then 7 else e, z⟩

def failR (e : Int) : RM Unit := fun s => ((), failS L z e s)

def seesR (text : List UInt8) (s : RS) : Bool := decide (s.e = 0) && (match L[s.i]? with
 | some t => wordB t text
 | none => false)

def hasR (text : List UInt8) : RM Bool := fun s => if seesR L text s = true then (true, ⟨s.i + 1, s.e, s.a⟩) else (false, s)

def mustR (text : List UInt8) : RM Unit := hasR L text >>= fun b => if b = true then pure () else failR L z 4

def tokenR (k : Int) : RM Tok := fun s => match L[s.i]? with
 | some t => if s.e = 0 ∧ t.kind = k then (t, ⟨s.i + 1, s.e, s.a⟩) else (tok0, failS L z 4 s)
 | none => (tok0, failS L z 4 s)

def rnameR : RM (List UInt8) := tokenR L z 1 >>= fun t => pure t.text
def rnumR : RM Int := tokenR L z 2 >>= fun t => pure t.num

def oneR : List (List UInt8) → Int → RM Int
 | [], _ => failR L z 4 >>= fun _ => pure 0
 | w :: r, i => hasR L w >>= fun b => if b = true then pure i else oneR r (i + 1)

def listAR {α : Type} (sep : List UInt8) (one : RM α) : Nat → List α → RM (List α)
 | 0, acc => pure acc
 | f + 1, acc => hasR L sep >>= fun b => if b = true then one >>= fun a => listAR sep one f (acc ++ [a]) else pure acc

def listR {α : Type} (sep : List UInt8) (one : RM α) : RM (List α) := one >>= fun a => fun s => listAR L sep one (L.length - s.i + 1) [a] s

def namesR : RM (List (List UInt8)) := listR L [44] (rnameR L z)

/-- A number or a text that is next. -/
def valueL : RM (Option Vl) := fun s => match L[s.i]? with
 | some t => if s.e = 0 ∧ t.kind = 2 then (some ⟨2, t.num, []⟩, ⟨s.i + 1, s.e, s.a⟩) else if s.e = 0 ∧ t.kind = 3 then (some ⟨1, 0, t.text⟩, ⟨s.i + 1, s.e, s.a⟩) else (none, s)
 | none => (none, s)

def rvalueK (k : RM (Option Vl)) : RM (Option Vl) := hasR L [45] >>= fun b => if b = true then rnumR L z >>= fun n => pure (some ⟨2, -n, []⟩) else
 hasR L [64] >>= fun b => if b = true then rnumR L z >>= fun n => pure (some ⟨3, n, []⟩) else
 hasR L [116, 114, 117, 101] >>= fun b => if b = true then pure (some ⟨4, 1, []⟩) else
 hasR L [102, 97, 108, 115, 101] >>= fun b => if b = true then pure (some ⟨4, 0, []⟩) else
 hasR L [110, 117, 108, 108] >>= fun b => if b = true then pure (some vl0) else k

def rvalueR : RM (Option Vl) := rvalueK L z (valueL L)

def constR : RM Vl := rvalueR L z >>= fun o => match o with
 | some v => pure v
 | none => failR L z 4 >>= fun _ => pure vl0

def sideR : RM Opd := rvalueR L z >>= fun o => match o with
 | some v => pure ⟨[], [], true, v⟩
 | none => rnameR L z >>= fun a => hasR L [46] >>= fun b => if b = true then rnameR L z >>= fun c => pure ⟨a, c, false, vl0⟩ else pure ⟨[], a, false, vl0⟩

def condR : RM Cnd := sideR L z >>= fun l => oneR L z [[61], [33, 61], [60], [60, 61]] 1 >>= fun op => sideR L z >>= fun r =>
 hasR L [43] >>= fun b => if b = true then rnumR L z >>= fun n => pure ⟨l, op, r, n⟩ else
 hasR L [45] >>= fun b => if b = true then rnumR L z >>= fun n => pure ⟨l, op, r, -n⟩ else pure ⟨l, op, r, 0⟩

def condsR : RM (List Cnd) := listR L [97, 110, 100] (condR L z)

def opB (s : RS) (i : Nat) : Bool := seesR L (opNames.getD i []) s && (match L[s.i + 1]? with
 | some t => decide (t.kind = 4 ∧ t.text = [40])
 | none => false)

def opIdxR (s : RS) : Option Nat := (List.range 7).find? (opB L s)

def headR (s : RS) : Nat := if s.e = 0 then (match L[s.i]? with
 | some t => t.off
 | none => 0) else 0

/-- Names, unless this comes next. -/
def namesUR (w : List UInt8) : RM (List (List UInt8)) := fun s => if seesR L w s = true then ([], s) else namesR L z s

def opRestR (i : Nat) (off : Nat) (kids : List Ex) : RM Ex :=
 match i with
 | 0 => mustR L z [119, 104, 101, 114, 101] >>= fun _ => condsR L z >>= fun c => pure (.mk 2 [] kids c [] [] [] 0 off)
 | 1 => mustR L z [111, 110] >>= fun _ => namesUR L z [41] >>= fun l => pure (.mk 3 [] kids [] l [] [] 0 off)
 | 5 => mustR L z [44] >>= fun _ => rnameR L z >>= fun a => mustR L z [97, 115] >>= fun _ => rnameR L z >>= fun b => pure (.mk 7 [] kids [] [] a b 0 off)
 | 6 => mustR L z [111, 110] >>= fun _ => namesUR L z [119, 105, 116, 104] >>= fun l => mustR L z [119, 105, 116, 104] >>= fun _ => oneR L z [[99, 111, 117, 110, 116], [115, 117, 109], [108, 101, 97, 115, 116], [103, 114, 101, 97, 116, 101, 115, 116]] 1 >>= fun g =>
  ifR (decide (1 < g)) (rnameR L z) [] >>= fun a => mustR L z [97, 115] >>= fun _ => rnameR L z >>= fun b => pure (.mk 8 [] kids [] l a b g off)
 | i => pure (.mk (2 + i) [] kids [] [] [] [] 0 off)

def limitS (s : RS) : RS := if s.e = 0 ∧ s.i < L.length then failS L z 3 s else s

def exprR : Nat → RM Ex
 | 0 => fun s => (rnameR L z >>= fun t => (pure (exTable 0 t) : RM Ex)) (limitS L z s)
 | n + 1 => fun s => match opIdxR L s with
  | none => (rnameR L z >>= fun t => (pure (exTable (headR L s) t) : RM Ex)) s
  | some i => (rnameR L z >>= fun _ => mustR L z [40] >>= fun _ => exprR n >>= fun a =>
    ifR (twoB i) (mustR L z [44] >>= fun _ => exprR n >>= fun b => pure [a, b]) [a] >>= fun kids =>
    opRestR L z i (headR L s) kids >>= fun x => mustR L z [41] >>= fun _ => (pure x : RM Ex)) s

def columnR : RM Col := rnameR L z >>= fun a => oneR L z [[116, 101, 120, 116], [110, 117, 109, 98, 101, 114], [100, 97, 121], [102, 108, 97, 103]] 1 >>= fun k =>
 hasR L [61] >>= fun b => if b = true then constR L z >>= fun v => pure ⟨a, k, v⟩ else pure ⟨a, k, vl0⟩

def optNumR (w : List UInt8) (d : Int) : RM Int := hasR L w >>= fun b => if b = true then rnumR L z else pure d

def termR : RM Trm := rnameR L z >>= fun a => oneR L z [[101, 113, 117, 97, 108], [101, 100, 105, 116], [106, 97, 99, 99, 97, 114, 100], [106, 97, 114, 111], [110, 101, 97, 114]] 1 >>= fun m =>
 ifR (m == 5) (rnumR L z) 0 >>= fun tol => mustR L z [108, 101, 97, 115, 116] >>= fun _ => rnumR L z >>= fun num => optNumR L z [47] 1 >>= fun den =>
 mustR L z [103, 105, 118, 101, 115] >>= fun _ => rnumR L z >>= fun g => optNumR L z [116, 97, 107, 101, 115] 0 >>= fun tk => mustR L z [59] >>= fun _ => pure ⟨a, m, tol, num, den, g, tk⟩

def termsAR : Nat → List Trm → RM (List Trm)
 | 0, acc => pure acc
 | f + 1, acc => fun s => if s.e = 0 ∧ seesR L [125] s = false then (termR L z >>= fun a => termsAR f (acc ++ [a])) s else (acc, s)

def placeR : RM (List UInt8 × List UInt8) := rnameR L z >>= fun t => mustR L z [46] >>= fun _ => rnameR L z >>= fun a => pure (t, a)
def onR : RM (List UInt8) := mustR L z [111, 110] >>= fun _ => rnameR L z
def listNR : RM (List (List UInt8)) := mustR L z [40] >>= fun _ => namesR L z >>= fun l => mustR L z [41] >>= fun _ => pure l
def fixedR : RM Nmd := rnameR L z >>= fun n => mustR L z [61] >>= fun _ => constR L z >>= fun v => pure ⟨n, v⟩
def varR : RM Vr := rnameR L z >>= fun t => rnameR L z >>= fun n => pure ⟨n, t⟩

def tableR (x : It) : RM It := mustR L z [40] >>= fun _ => listR L [44] (columnR L z) >>= fun c => mustR L z [41] >>= fun _ => mustR L z [107, 101, 121] >>= fun _ => namesR L z >>= fun l => pure { x with cols := c, names := l }
def sourceR (x : It) : RM It := mustR L z [116, 114, 117, 115, 116] >>= fun _ => rnumR L z >>= fun n => pure { x with n := n }
def blockR (x : It) : RM It := mustR L z [111, 110] >>= fun _ => placeR L z >>= fun p => mustR L z [98, 121] >>= fun _ => oneR L z [[101, 120, 97, 99, 116], [116, 111, 107, 101, 110], [112, 114, 101, 102, 105, 120], [115, 107, 101, 116, 99, 104]] 1 >>= fun b =>
 ifR (decide (3 ≤ b)) (rnumR L z) 0 >>= fun n => ifR (decide (b = 4)) (rnumR L z) 0 >>= fun m => pure { x with table := p.1, attr := p.2, by_ := b, n := n, m := m }
def matchR (x : It) : RM It := onR L z >>= fun t => mustR L z [97, 116] >>= fun _ => rnumR L z >>= fun n => mustR L z [123] >>= fun _ => (fun s => termsAR L z (L.length - s.i + 1) [] s : RM (List Trm)) >>= fun l => pure { x with table := t, n := n, terms := l }
def keepR (x : It) : RM It := placeR L z >>= fun p => mustR L z [98, 121] >>= fun _ => oneR L z [[108, 97, 116, 101, 115, 116], [109, 111, 115, 116], [116, 114, 117, 115, 116, 101, 100], [108, 111, 110, 103, 101, 115, 116], [108, 101, 97, 115, 116], [103, 114, 101, 97, 116, 101, 115, 116]] 1 >>= fun b => pure { x with table := p.1, attr := p.2, by_ := b }
def uniqueR (x : It) : RM It := onR L z >>= fun t => listNR L z >>= fun l => pure { x with table := t, names := l }
def dependR (x : It) : RM It := uniqueR L z x >>= fun y => mustR L z [116, 111] >>= fun _ => rnameR L z >>= fun a => hasR L [119, 104, 101, 114, 101] >>= fun b => if b = true then listR L [44] (fixedR L z) >>= fun f => pure { y with attr := a, fixed := f } else pure { y with attr := a }
def includeR (x : It) : RM It := placeR L z >>= fun p => mustR L z [105, 110] >>= fun _ => placeR L z >>= fun q => pure { x with table := p.1, attr := p.2, other := q.1, oattr := q.2 }
def denyR (x : It) : RM It := listR L [44] (varR L z) >>= fun v => mustR L z [119, 104, 101, 114, 101] >>= fun _ => condsR L z >>= fun c => pure { x with vars := v, conds := c }
def queryR (x : It) : RM It := mustR L z [61] >>= fun _ => exprR L z 12 >>= fun e => pure { x with expr := e }

def partR (k : Int) (x : It) : RM It :=
 if k = 1 then tableR L z x else if k = 2 then sourceR L z x else if k = 3 then blockR L z x else if k = 4 then matchR L z x else if k = 5 then keepR L z x
 else if k = 6 then uniqueR L z x else if k = 7 then dependR L z x else if k = 8 then includeR L z x else if k = 9 then denyR L z x else if k = 10 then queryR L z x else pure x

def ritemR : RM It := fun s => (oneR L z itWords 1 >>= fun k => ifR (k != 5) (rnameR L z) [] >>= fun nm => partR L z k (x0 k nm (match L[s.i]? with | some t => t.off | none => 0)) >>= fun x =>
 mustR L z (if k = 4 then [125] else [59]) >>= fun _ => (pure x : RM It)) s

def itemsR : Nat → List It → RM (List It)
 | 0, acc => pure acc
 | f + 1, acc => fun s => if s.e = 0 ∧ s.i < L.length then (if 200 ≤ acc.length then (acc, failS L z 3 s) else (ritemR L z >>= fun x => itemsR f (acc ++ [x])) s) else (acc, s)

/- WHAT IS READ -/
def Stay {α : Type} (r : RM α) : Prop := ∀ i e a, e ≠ 0 → ∃ x, r ⟨i, e, a⟩ = (x, ⟨i, e, a⟩)

def Sim {α : Type} (m : PM α) (r : RM α) : Prop :=
 Stay r ∧ ∀ i, i ≤ L.length → (∀ a q, m (L.drop i) = .ok (a, q) → ∃ j, j ≤ L.length ∧ q = L.drop j ∧ r ⟨i, 0, 0⟩ = (a, ⟨j, 0, 0⟩)) ∧
  (∀ e k, m (L.drop i) = .error (e, k) → e ≠ 0 ∧ ∃ a j, r ⟨i, 0, 0⟩ = (a, ⟨j, e, k⟩))

end

theorem Stay.ret {α : Type} (a : α) : Stay (pure a : RM α) := fun _ _ _ _ => ⟨a, rfl⟩
theorem Stay.bind {α β : Type} {r : RM α} {f : α → RM β} (h : Stay r) (hf : ∀ a, Stay (f a)) : Stay (r >>= f) := fun i e a he => by
 obtain ⟨x, hx⟩ := h i e a he
 rw [RM.bind_of hx]
 exact hf x i e a he
theorem Stay.ite {α : Type} {p : Prop} [Decidable p] {m n : RM α} (h : Stay m) (k : Stay n) : Stay (if p then m else n) := by
 split
 ·exact h
 ·exact k

section
variable {L : List Tok} {z : Nat}

theorem Sim.ret {α : Type} (a : α) : Sim L (pure a : PM α) (pure a : RM α) :=
 ⟨Stay.ret a, fun i hi => ⟨fun b q h => by cases h; exact ⟨i, hi, rfl, rfl⟩, fun e k h => by cases h⟩⟩

theorem Sim.bind {α β : Type} {m : PM α} {f : α → PM β} {r : RM α} {g : α → RM β} (h : Sim L m r) (hf : ∀ a, Sim L (f a) (g a)) : Sim L (m >>= f) (r >>= g) := by
 refine ⟨h.1.bind fun a => (hf a).1, fun i hi => ⟨fun b q hb => ?_, fun e k hb => ?_⟩⟩
 ·cases hq : m (L.drop i) with
  | error e => rw [PM.bind_err hq] at hb; cases hb
  | ok p =>
   obtain ⟨a, q'⟩ := p
   rw [PM.bind_ok hq] at hb
   obtain ⟨j, hj, rfl, hr⟩ := (h.2 i hi).1 _ _ hq
   obtain ⟨j2, hj2, e2, hr2⟩ := ((hf a).2 j hj).1 _ _ hb
   exact ⟨j2, hj2, e2, by rw [RM.bind_of hr, hr2]⟩
 ·cases hq : m (L.drop i) with
  | error y =>
   obtain ⟨e', k'⟩ := y
   rw [PM.bind_err hq] at hb
   cases hb
   obtain ⟨he, a, j, hr⟩ := (h.2 i hi).2 _ _ hq
   obtain ⟨b, hb⟩ := (hf a).1 j e k he
   exact ⟨he, b, j, by rw [RM.bind_of hr, hb]⟩
  | ok p =>
   obtain ⟨a, q'⟩ := p
   rw [PM.bind_ok hq] at hb
   obtain ⟨j, hj, rfl, hr⟩ := (h.2 i hi).1 _ _ hq
   obtain ⟨he, b, j2, hr2⟩ := ((hf a).2 j hj).2 _ _ hb
   exact ⟨he, b, j2, by rw [RM.bind_of hr, hr2]⟩

theorem Sim.ite {α : Type} {p : Prop} [Decidable p] {m n : PM α} {r t : RM α} (h : p → Sim L m r) (k : ¬ p → Sim L n t) : Sim L (if p then m else n) (if p then r else t) := by
 by_cases hp : p
 ·rw [if_pos hp, if_pos hp]; exact h hp
 ·rw [if_neg hp, if_neg hp]; exact k hp

theorem Sim.ifP {α : Type} {c : Bool} {m : PM α} {r : RM α} {d : α} (h : Sim L m r) : Sim L (ifP c m d) (ifR c r d) := Sim.ite (fun _ => h) fun _ => Sim.ret d

theorem Sim.at_ {α : Type} {m : PM α} {r : RM α} (hs : Stay r) (h : ∀ i, i ≤ L.length → ∃ n u, m (L.drop i) = n (L.drop i) ∧ r ⟨i, 0, 0⟩ = u ⟨i, 0, 0⟩ ∧ Sim L n u) : Sim L m r :=
 ⟨hs, fun i hi => by
  obtain ⟨n, u, h1, h2, h3⟩ := h i hi
  rw [h1, h2]
  exact h3.2 i hi⟩

theorem drop_none {i : Nat} (hi : i ≤ L.length) (h : L[i]? = none) : L.drop i = [] := List.drop_of_length_le (by simpa using h)
theorem drop_some {i : Nat} {t : Tok} (h : L[i]? = some t) : L.drop i = t :: L.drop (i + 1) := by
 obtain ⟨h1, rfl⟩ := List.getElem?_eq_some_iff.1 h
 rw [List.drop_eq_getElem_cons h1]
theorem drop_lt {i : Nat} {t : Tok} (h : L[i]? = some t) : i + 1 ≤ L.length := (List.getElem?_eq_some_iff.1 h).1

theorem Stay.fail (e : Int) : Stay (failR L z e) := fun i e' a he => ⟨(), by unfold failR failS; rw [if_pos he]⟩

theorem Sim.fail4 {α : Type} {f : Unit → RM α} (hf : ∀ u, Stay (f u)) : Sim L (failP z 4 : PM α) (failR L z 4 >>= f) := by
 refine ⟨(Stay.fail 4).bind hf, fun i hi => ⟨fun a q h => (by cases h), fun e k h => ?_⟩⟩
 have hq : failR L z 4 ⟨i, 0, 0⟩ = ((), ⟨i, e, k⟩) ∧ e ≠ 0 := by
  unfold failR failS
  rw [if_neg (fun h => h rfl)]
  cases hx : L[i]? with
  | none => rw [drop_none hi hx] at h; cases h; exact ⟨by simp only [hx]; rfl, by decide⟩
  | some t => rw [drop_some hx] at h; cases h; exact ⟨by simp only [hx], by decide⟩
 obtain ⟨b, hb⟩ := hf () i e k hq.2
 exact ⟨hq.2, b, i, by rw [RM.bind_of hq.1, hb]⟩

theorem sees_err {w : List UInt8} {i : Nat} {e a : Int} (he : e ≠ 0) : seesR L w ⟨i, e, a⟩ = false := by
 unfold seesR; rw [decide_eq_false he, Bool.false_and]

theorem sees_ok {w : List UInt8} {i : Nat} (hi : i ≤ L.length) : seesR L w ⟨i, 0, 0⟩ = seesB [w] (L.drop i) := by
 unfold seesR
 rw [decide_eq_true rfl, Bool.true_and]
 cases hx : L[i]? with
 | none => rw [drop_none hi hx]; rfl
 | some t => rw [drop_some hx]; simp [seesB]

theorem Stay.has (w : List UInt8) : Stay (hasR L w) := fun i e a he => ⟨false, by unfold hasR; rw [sees_err he]; rfl⟩

theorem Sim.has (w : List UInt8) : Sim L (takeB w) (hasR L w) := by
 refine ⟨Stay.has w, fun i hi => ⟨fun b q h => ?_, fun e k h => absurd h (takeB_ok _ _ _)⟩⟩
 unfold takeB at h
 unfold hasR
 rw [sees_ok hi]
 cases hb : seesB [w] (L.drop i) with
 | false => rw [hb] at h; cases h; exact ⟨i, hi, rfl, rfl⟩
 | true =>
  rw [hb] at h
  cases h
  cases hx : L[i]? with
  | none => rw [drop_none hi hx] at hb; cases hb
  | some t => exact ⟨i + 1, drop_lt hx, by rw [drop_some hx]; rfl, rfl⟩

theorem Sim.opt {α : Type} {w : List UInt8} {m n : PM α} {r t : RM α} (h : Sim L m r) (k : Sim L n t) : Sim L (takeB w >>= fun b => if b = true then m else n) (hasR L w >>= fun b => if b = true then r else t) :=
 (Sim.has w).bind fun _ => Sim.ite (fun _ => h) fun _ => k

theorem Sim.need1 (w : List UInt8) : Sim L (need1 z w) (mustR L z w) := Sim.opt (Sim.ret ()) (by
 have h := Sim.fail4 (α := Unit) (L := L) (z := z) (f := fun _ => (pure () : RM Unit)) fun _ => Stay.ret _
 exact h)

theorem PM.bind_pure' {α : Type} (m : PM α) : (m >>= fun a => (pure a : PM α)) = m := by
 funext ts
 show (match m ts with | Except.error e => Except.error e | Except.ok (a, r) => Except.ok (a, r)) = _
 cases m ts <;> rfl

theorem Sim.must1 (w : List UInt8) : Sim L (needP z [w]) (mustR L z w) := by
 have e : needP z [w] = Go.Proofs.YtnmfanjhepepbaaGreatDoor.need1 z w := by
  show (Go.Proofs.YtnmfanjhepepbaaGreatDoor.need1 z w >>= fun _ => (pure () : PM Unit)) = _
  exact PM.bind_pure' _
 rw [e]
 exact Sim.need1 w

/-- Something that must come next, and what follows. -/
theorem Sim.must {β : Type} {w : List UInt8} {f : Unit → PM β} {g : Unit → RM β} (hf : ∀ u, Sim L (f u) (g u)) : Sim L (needP z [w] >>= f) (mustR L z w >>= g) := (Sim.must1 w).bind hf

theorem Sim.must2 {β : Type} {w v : List UInt8} {f : Unit → PM β} {g : Unit → RM β} (hf : ∀ u, Sim L (f u) (g u)) : Sim L (needP z [w, v] >>= f) (mustR L z w >>= fun _ => mustR L z v >>= g) := by
 have e : (needP z [w, v] >>= f) = (Go.Proofs.YtnmfanjhepepbaaGreatDoor.need1 z w >>= fun _ => (needP z [v] >>= f)) := PM.assoc _ _ _
 rw [e]
 exact (Sim.need1 w).bind fun _ => Sim.must hf

theorem Stay.token (k : Int) : Stay (tokenR L z k) := fun i e a he => ⟨tok0, by
 unfold tokenR failS
 cases hx : L[i]? with
 | none => simp only [hx, if_pos he]
 | some t => simp only [hx, if_neg (show ¬ (e = 0 ∧ t.kind = k) from fun h => he h.1), if_pos he]⟩

theorem Sim.kind (k : Int) : Sim L (kindP z k) (tokenR L z k) := by
 refine ⟨Stay.token k, fun i hi => ⟨fun b q h => ?_, fun e a h => ?_⟩⟩
 ·cases hx : L[i]? with
  | none => rw [drop_none hi hx] at h; cases h
  | some t =>
   rw [drop_some hx] at h
   unfold kindP at h
   dsimp only at h
   by_cases hk : t.kind = k
   ·rw [if_pos hk] at h
    cases h
    exact ⟨i + 1, drop_lt hx, rfl, by unfold tokenR; simp only [hx]; rw [if_pos ⟨trivial, hk⟩]⟩
   ·rw [if_neg hk] at h; cases h
 ·cases hx : L[i]? with
  | none =>
   rw [drop_none hi hx] at h
   cases h
   exact ⟨by decide, tok0, i, by unfold tokenR failS; simp only [hx]; rfl⟩
  | some t =>
   rw [drop_some hx] at h
   unfold kindP at h
   dsimp only at h
   by_cases hk : t.kind = k
   ·rw [if_pos hk] at h; cases h
   ·rw [if_neg hk] at h
    cases h
    exact ⟨by decide, tok0, i, by unfold tokenR failS; simp only [hx]; rw [if_neg (fun h => hk h.2)]; rfl⟩

theorem Sim.name : Sim L (nameP z) (rnameR L z) := (Sim.kind 1).bind fun t => Sim.ret t.text
theorem Sim.num : Sim L (numP z) (rnumR L z) := (Sim.kind 2).bind fun t => Sim.ret t.num

theorem Sim.one : ∀ (ss : List (List UInt8)) (i : Int), Sim L (wordP z ss i) (oneR L z ss i)
 | [], i => Sim.fail4 fun _ => Stay.ret _
 | w :: r, i => Sim.opt (Sim.ret i) (Sim.one r (i + 1))

theorem Stay.listA {α : Type} {sep : List UInt8} {r : RM α} (h : Stay r) : ∀ (f : Nat) (acc : List α), Stay (listAR L sep r f acc)
 | 0, _ => Stay.ret _
 | f + 1, acc => (Stay.has sep).bind fun _ => Stay.ite (h.bind fun a => Stay.listA h f (acc ++ [a])) (Stay.ret _)

theorem Sim.listA {α : Type} {sep : List UInt8} {m : PM α} {r : RM α} (h : Sim L m r) : ∀ (f : Nat) (acc : List α), Sim L (listA sep m f acc) (listAR L sep r f acc)
 | 0, _ => Sim.ret _
 | f + 1, acc => Sim.opt (h.bind fun a => Sim.listA h f (acc ++ [a])) (Sim.ret _)

theorem Sim.list {α : Type} {sep : List UInt8} {m : PM α} {r : RM α} (h : Sim L m r) : Sim L (listP sep m) (listR L sep r) := by
 refine h.bind fun a => Sim.at_ (fun i e a' he => Stay.listA h.1 _ _ i e a' he) fun i hi => ⟨_, _, rfl, rfl, ?_⟩
 rw [List.length_drop]
 exact Sim.listA h _ _

theorem Sim.names : Sim L (namesP z) (namesR L z) := Sim.list Sim.name

theorem Sim.namesU (w : List UInt8) : Sim L (namesU z w) (namesUR L z w) := by
 refine Sim.at_ (fun i e a he => ?_) fun i hi => ?_
 ·obtain ⟨x, hx⟩ := (Sim.names (L := L) (z := z)).1 i e a he
  refine ⟨x, ?_⟩
  unfold namesUR
  rw [sees_err he]
  exact hx
 ·cases hb : seesB [w] (L.drop i) with
  | true => exact ⟨_, _, namesU_yes hb, by unfold namesUR; rw [sees_ok hi, hb]; exact if_pos rfl, Sim.ret []⟩
  | false => exact ⟨_, _, namesU_no hb, by unfold namesUR; rw [sees_ok hi, hb]; exact if_neg (by decide), Sim.names⟩

theorem Stay.valueL : Stay (valueL L) := fun i e a he => ⟨none, by
 unfold Go.Proofs.YtnmfanjhepepbaaGreatDoor.valueL
 cases hx : L[i]? with
 | none => simp only [hx]
 | some t => simp only [hx]; rw [if_neg (fun h => he h.1), if_neg (fun h => he h.1)]⟩

end
end Go.Proofs.YtnmfanjhepepbaaGreatDoor

/- The reference's reader, plainly: expressions, items and programs. -/
namespace Go.Proofs.YtnmfanjhepepbaaGreatDoor
open Go StillVC

section
variable {L : List Tok} {z : Nat}

theorem has_no {α : Type} {w : List UInt8} {m n : RM α} {s : RS} (h : seesR L w s = false) : (hasR L w >>= fun b => if b = true then m else n) s = n s := by
 have e : hasR L w s = (false, s) := by unfold hasR; rw [h]; rfl
 rw [RM.bind_of e]
 rfl

theorem has_congr {α : Type} {w : List UInt8} {m n n' : RM α} {s : RS} (h : n s = n' s) : (hasR L w >>= fun b => if b = true then m else n) s = (hasR L w >>= fun b => if b = true then m else n') s := by
 cases hb : seesR L w s with
 | false => rw [has_no hb, has_no hb, h]
 | true =>
  have e : hasR L w s = (true, ⟨s.i + 1, s.e, s.a⟩) := by unfold hasR; rw [hb]; rfl
  rw [RM.bind_of e, RM.bind_of e]
  rfl

theorem valueK_congr {k k' : RM (Option Vl)} {s : RS} (h : k s = k' s) : rvalueK L z k s = rvalueK L z k' s :=
 has_congr (has_congr (has_congr (has_congr (has_congr h))))

theorem valueK_none {k : RM (Option Vl)} {s : RS} (h : ∀ w, seesR L w s = false) : rvalueK L z k s = k s := by
 unfold rvalueK
 rw [has_no (h _), has_no (h _), has_no (h _), has_no (h _), has_no (h _)]

theorem Stay.num : Stay (rnumR L z) := Sim.num.1
theorem Stay.name : Stay (rnameR L z) := Sim.name.1

theorem Stay.valueK {k : RM (Option Vl)} (h : Stay k) : Stay (rvalueK L z k) :=
 (Stay.has _).bind fun _ => Stay.ite (Stay.num.bind fun _ => Stay.ret _) <| (Stay.has _).bind fun _ => Stay.ite (Stay.num.bind fun _ => Stay.ret _) <|
  (Stay.has _).bind fun _ => Stay.ite (Stay.ret _) <| (Stay.has _).bind fun _ => Stay.ite (Stay.ret _) <| (Stay.has _).bind fun _ => Stay.ite (Stay.ret _) h

theorem Sim.lit : Sim L (litE z) (rvalueK L z (pure none)) :=
 Sim.opt (Sim.num.bind fun _ => Sim.ret _) <| Sim.opt (Sim.num.bind fun _ => Sim.ret _) <| Sim.opt (Sim.ret _) <| Sim.opt (Sim.ret _) <| Sim.opt (Sim.ret _) (Sim.ret _)

theorem Sim.value : Sim L (literalP z) (rvalueR L z) := by
 refine Sim.at_ (Stay.valueK Stay.valueL) fun i hi => ?_
 have no : ∀ t, L[i]? = some t → t.kind ≠ 1 → t.kind ≠ 4 → ∀ w, seesR L w ⟨i, 0, 0⟩ = false := fun t hx h1 h4 w => by
  unfold seesR
  simp only [hx]
  rw [show wordB t w = false from decide_eq_false fun h => h.2.elim h1 h4, Bool.and_false]
 cases hx : L[i]? with
 | none =>
  refine ⟨pure none, pure none, by rw [drop_none hi hx]; rfl, ?_, Sim.ret _⟩
  unfold rvalueR
  rw [valueK_none fun w => by unfold seesR; simp only [hx]; exact Bool.and_false _]
  unfold valueL
  simp only [hx]
  rfl
 | some t =>
  by_cases h3 : t.kind = 3
  ·refine ⟨kindP z 3 >>= fun t => pure (some ⟨1, 0, t.text⟩), tokenR L z 3 >>= fun t => pure (some ⟨1, 0, t.text⟩), ?_, ?_, (Sim.kind 3).bind fun t => Sim.ret _⟩
   ·rw [drop_some hx]
    have e : kindP z 3 (t :: L.drop (i + 1)) = .ok (t, L.drop (i + 1)) := if_pos h3
    rw [PM.bind_ok e]
    exact if_pos h3
   ·have e : tokenR L z 3 ⟨i, 0, 0⟩ = (t, ⟨i + 1, 0, 0⟩) := by unfold tokenR; simp only [hx]; rw [if_pos ⟨trivial, h3⟩]
    rw [RM.bind_of e]
    unfold rvalueR
    rw [valueK_none (no t hx (by omega) (by omega))]
    unfold valueL
    simp only [hx]
    rw [if_neg (fun h => by have := h.2; omega), if_pos ⟨trivial, h3⟩]
    rfl
  ·by_cases h2 : t.kind = 2
   ·refine ⟨numP z >>= fun n => pure (some ⟨2, n, []⟩), rnumR L z >>= fun n => pure (some ⟨2, n, []⟩), ?_, ?_, Sim.num.bind fun t => Sim.ret _⟩
    ·rw [drop_some hx]
     have e : kindP z 2 (t :: L.drop (i + 1)) = .ok (t, L.drop (i + 1)) := if_pos h2
     have e : numP z (t :: L.drop (i + 1)) = .ok (t.num, L.drop (i + 1)) := PM.bind_ok e
     rw [PM.bind_ok e]
     exact (if_neg h3).trans (if_pos h2)
    ·have e : tokenR L z 2 ⟨i, 0, 0⟩ = (t, ⟨i + 1, 0, 0⟩) := by unfold tokenR; simp only [hx]; rw [if_pos ⟨trivial, h2⟩]
     have e : rnumR L z ⟨i, 0, 0⟩ = (t.num, ⟨i + 1, 0, 0⟩) := RM.bind_of e
     rw [RM.bind_of e]
     unfold rvalueR
     rw [valueK_none (no t hx (by omega) (by omega))]
     unfold valueL
     simp only [hx]
     rw [if_pos ⟨trivial, h2⟩]
     rfl
   ·refine ⟨litE z, rvalueK L z (pure none), ?_, valueK_congr ?_, Sim.lit⟩
    ·rw [drop_some hx]
     exact (if_neg h3).trans (if_neg h2)
    ·unfold valueL
     simp only [hx]
     rw [if_neg (fun h => h2 h.2), if_neg (fun h => h3 h.2)]
     rfl

theorem Sim.const : Sim L (valueP z) (constR L z) := Sim.value.bind fun o => by
 cases o with
 | some v => exact Sim.ret v
 | none => exact Sim.fail4 fun _ => Stay.ret _

theorem Sim.side : Sim L (sideP z) (sideR L z) := Sim.value.bind fun o => by
 cases o with
 | some v => exact Sim.ret _
 | none => exact Sim.name.bind fun a => Sim.opt (Sim.name.bind fun _ => Sim.ret _) (Sim.ret _)

theorem Sim.cond : Sim L (condP z) (condR L z) :=
 Sim.side.bind fun _ => (Sim.one _ _).bind fun _ => Sim.side.bind fun _ => Sim.opt (Sim.num.bind fun _ => Sim.ret _) (Sim.opt (Sim.num.bind fun _ => Sim.ret _) (Sim.ret _))

theorem Sim.conds : Sim L (condsP z) (mustR L z [119, 104, 101, 114, 101] >>= fun _ => condsR L z) := Sim.must fun _ => Sim.list Sim.cond

theorem Sim.congr {α : Type} {m m' : PM α} {r r' : RM α} (h : Sim L m r) (e : m' = m) (e' : r' = r) : Sim L m' r' := by subst e e'; exact h

theorem RM.assoc {α β γ : Type} (m : RM α) (f : α → RM β) (g : β → RM γ) : ((m >>= f) >>= g) = (m >>= fun a => f a >>= g) := rfl

theorem wordP_agg {ss : List (List UInt8)} {ts r : List Tok} {g : Int} (h : wordP z ss 1 ts = .ok (g, r)) : 1 ≤ g ∧ g < 1 + (ss.length : Int) := ⟨(wordP_pos _ _ _ h).1, (wordP_pos _ _ _ h).2.1⟩

theorem Stay.ifR {α : Type} {c : Bool} {m : RM α} {d : α} (h : Stay m) : Stay (ifR c m d) := Stay.ite h (Stay.ret _)
theorem Stay.must (w : List UInt8) : Stay (mustR L z w) := (Sim.must1 w).1

/-- A word's place is at least one: a test for the first place can be put either way. -/
theorem Sim.oneB {α : Type} {ss : List (List UInt8)} {f : Int → PM α} {g : Int → RM α} (h : ∀ k : Int, 1 ≤ k → k < 1 + (ss.length : Int) → Sim L (f k) (g k)) (hs : ∀ k, Stay (g k)) : Sim L (wordP z ss 1 >>= f) (oneR L z ss 1 >>= g) := by
 refine ⟨(Sim.one ss 1).1.bind hs, fun i hi => ?_⟩
 cases hq : wordP z ss 1 (L.drop i) with
 | error y =>
  obtain ⟨e', k'⟩ := y
  obtain ⟨he, a, j, hr⟩ := ((Sim.one (z := z) ss 1).2 i hi).2 _ _ hq
  obtain ⟨b, hb⟩ := hs a j e' k' he
  refine ⟨fun a q h => (by rw [PM.bind_err hq] at h; cases h), fun e k h => ?_⟩
  rw [PM.bind_err hq] at h
  cases h
  exact ⟨he, b, j, by rw [RM.bind_of hr, hb]⟩
 | ok p =>
  obtain ⟨k, q⟩ := p
  obtain ⟨j, hj, rfl, hr⟩ := ((Sim.one (z := z) ss 1).2 i hi).1 _ _ hq
  rw [PM.bind_ok hq, RM.bind_of hr]
  exact (h k (wordP_agg hq).1 (wordP_agg hq).2).2 j hj

theorem Sim.rest (i off : Nat) (kids : List Ex) : Sim L (opRest z i off kids) (opRestR L z i off kids) := by
 match i with
 | 0 => exact (Sim.conds.bind fun _ => Sim.ret _).congr rfl rfl
 | 1 => exact Sim.must fun _ => (Sim.namesU _).bind fun _ => Sim.ret _
 | 2 => exact Sim.ret _
 | 3 => exact Sim.ret _
 | 4 => exact Sim.ret _
 | 5 => exact Sim.must fun _ => Sim.name.bind fun _ => Sim.must fun _ => Sim.name.bind fun _ => Sim.ret _
 | 6 =>
  refine Sim.must fun _ => (Sim.namesU _).bind fun _ => Sim.must fun _ => Sim.oneB (fun g hg _ => ?_) fun g => ?_
  ·have e : decide (1 < g) = (g != 1) := by
    by_cases h1 : g = 1
    ·subst h1; rfl
    ·rw [decide_eq_true (by omega)]; simp [h1]
   rw [e]
   exact (Sim.ifP Sim.name).bind fun _ => Sim.must fun _ => Sim.name.bind fun _ => Sim.ret _
  ·have hn : Stay (rnameR L z) := Sim.name.1
   refine Stay.bind (Stay.ite hn (Stay.ret _)) fun _ => (Sim.must1 (L := L) (z := z) _).1.bind fun _ => hn.bind fun _ => Stay.ret _
 | n + 7 => exact Sim.ret _

/-- Tokens as the lexer makes them: no operation's name is a symbol, and no name is a parenthesis. -/
def OpT (L : List Tok) : Prop := ∀ t ∈ L, (t.kind = 4 → ∀ i, i < 7 → t.text ≠ opNames.getD i []) ∧ (t.kind = 1 → t.text ≠ [40])

theorem opB_eq (hS : OpT L) {i : Nat} (hi : i ≤ L.length) (k : Nat) : opB L ⟨i, 0, 0⟩ k = seesB [opNames.getD k [], [40]] (L.drop i) := by
 unfold opB
 rw [sees_ok hi]
 cases hx : L[i]? with
 | none => rw [drop_none hi hx]; rfl
 | some t =>
  rw [drop_some hx]
  cases hy : L[i + 1]? with
  | none => simp only [hy]; rw [drop_none (drop_lt hx) hy]; simp [seesB]
  | some u =>
   simp only [hy]
   rw [drop_some hy]
   simp only [seesB, Bool.and_true]
   congr 1
   have hu : u ∈ L := List.mem_of_getElem? hy
   unfold wordB
   rw [decide_eq_decide]
   constructor
   ·rintro ⟨h1, h2⟩; exact ⟨h2, .inr h1⟩
   ·rintro ⟨h1, h2 | h2⟩
    ·exact absurd h1 ((hS u hu).2 h2)
    ·exact ⟨h2, h1⟩

theorem ropIdx_eq (hS : OpT L) {i : Nat} (hi : i ≤ L.length) : opIdxR L ⟨i, 0, 0⟩ = opIdx (L.drop i) := by
 unfold opIdxR opIdx
 congr 1
 funext k
 exact opB_eq hS hi k

theorem opIdxR_err {i : Nat} {e a : Int} (he : e ≠ 0) : opIdxR L ⟨i, e, a⟩ = none := by
 unfold opIdxR
 rw [List.find?_eq_none]
 intro k _
 unfold opB
 rw [sees_err he]
 simp

theorem head_eq {i : Nat} (hi : i ≤ L.length) : headR L ⟨i, 0, 0⟩ = headOff (L.drop i) := by
 unfold headR
 rw [if_pos rfl]
 cases hx : L[i]? with
 | none => rw [drop_none hi hx]; rfl
 | some t => rw [drop_some hx]; rfl

theorem exprR_zero (s : RS) : exprR L z 0 s = (rnameR L z >>= fun t => (pure (exTable 0 t) : RM Ex)) (limitS L z s) := rfl

theorem Stay.expr (n : Nat) : Stay (exprR L z n) := fun i e a he => by
 cases n with
 | zero =>
  have hl : limitS L z ⟨i, e, a⟩ = ⟨i, e, a⟩ := if_neg fun h => he h.1
  rw [exprR_zero, hl]
  exact (Stay.name.bind fun _ => Stay.ret _) i e a he
 | succ n =>
  rw [exprR]
  simp only [opIdxR_err he]
  exact (Stay.name.bind fun _ => Stay.ret _) i e a he

theorem Sim.name_must {α : Type} {w : List UInt8} {k : List UInt8} {f : PM α} {g : RM α} {i : Nat} {t : Tok} (hx : L[i]? = some t) (ht : wordB t k = true) (hk : t.kind = 1) (h : Sim L f g) :
  ∃ n u, (needP z [k, w] >>= fun _ => f) (L.drop i) = n (L.drop i) ∧ (rnameR L z >>= fun _ => mustR L z w >>= fun _ => g) ⟨i, 0, 0⟩ = u ⟨i, 0, 0⟩ ∧ Sim L n u := by
 refine ⟨nameP z >>= fun _ => needP z [w] >>= fun _ => f, _, ?_, rfl, Sim.name.bind fun _ => Sim.must fun _ => h⟩
 have e : (needP z [k, w] >>= fun _ => f) = (Go.Proofs.YtnmfanjhepepbaaGreatDoor.need1 z k >>= fun _ => (needP z [w] >>= fun _ => f)) := PM.assoc _ _ _
 rw [e, drop_some hx]
 have e1 : Go.Proofs.YtnmfanjhepepbaaGreatDoor.need1 z k (t :: L.drop (i + 1)) = .ok ((), L.drop (i + 1)) := need1_yes z (takeB_yes (ts := t :: L.drop (i + 1)) (by show (wordB t _ && true) = true; rw [ht]; rfl))
 have e2 : kindP z 1 (t :: L.drop (i + 1)) = .ok (t, L.drop (i + 1)) := if_pos hk
 have e3 : nameP z (t :: L.drop (i + 1)) = .ok (t.text, L.drop (i + 1)) := PM.bind_ok e2
 rw [PM.bind_ok e1, PM.bind_ok e3]

theorem Sim.expr (hS : OpT L) : ∀ n, Sim L (exprP z n) (exprR L z n)
 | 0 => by
  refine ⟨Stay.expr 0, fun i hi => ⟨fun a q h => (by cases h), fun e k h => ?_⟩⟩
  cases hx : L[i]? with
  | none =>
   rw [drop_none hi hx] at h
   cases h
   have hl : limitS L z ⟨i, 0, 0⟩ = ⟨i, 0, 0⟩ := if_neg fun h => by simp at hx; exact absurd h.2 (by simp; omega)
   rw [exprR_zero, hl]
   obtain ⟨h1, a, j, h2⟩ := ((Sim.name (L := L) (z := z)).2 i hi).2 7 z (by rw [drop_none hi hx]; rfl)
   exact ⟨h1, exTable 0 a, j, by rw [RM.bind_of h2]; rfl⟩
  | some t =>
   rw [drop_some hx] at h
   cases h
   have hl : limitS L z ⟨i, 0, 0⟩ = ⟨i, 3, t.off⟩ := by
    unfold limitS
    rw [if_pos ⟨rfl, drop_lt hx⟩]
    unfold failS
    rw [if_neg (fun h => h rfl)]
    simp only [hx]
   rw [exprR_zero, hl]
   obtain ⟨x, h2⟩ := (Stay.name (L := L) (z := z)) i 3 t.off (by decide)
   exact ⟨by decide, exTable 0 x, i, by rw [RM.bind_of h2]; rfl⟩
 | n + 1 => by
  refine Sim.at_ (Stay.expr (n + 1)) fun i hi => ?_
  have hE := congrFun (exprP.eq_2 z n) (L.drop i)
  have hR := congrFun (exprR.eq_2 L z n) ⟨i, 0, 0⟩
  have ho := ropIdx_eq hS hi
  cases hop : opIdx (L.drop i) with
  | none =>
   rw [hop] at ho
   simp only [hop] at hE
   simp only [ho] at hR
   rw [head_eq hi] at hR
   exact ⟨_, _, hE, hR, Sim.name.bind fun _ => Sim.ret _⟩
  | some k =>
   rw [hop] at ho
   simp only [hop] at hE
   simp only [ho] at hR
   rw [head_eq hi] at hR
   obtain ⟨hk7, t, t2, q, e, w1, w2⟩ := opIdx_is hop
   cases hx : L[i]? with
   | none => rw [drop_none hi hx] at e; cases e
   | some t' =>
    have e' := drop_some hx
    rw [e] at e'
    injection e' with e1 e2
    subst e1
    have hk1 : t.kind = 1 := by
     have := of_decide_eq_true w1
     rcases this.2 with h | h
     ·exact h
     ·exact absurd this.1 ((hS t (List.mem_of_getElem? hx)).1 h k hk7)
    obtain ⟨m, u, h1, h2, h3⟩ := Sim.name_must (z := z) (w := [40]) hx w1 hk1 ((Sim.expr hS n).bind fun a => (Sim.ifP (c := twoB k) (d := [a]) (Sim.must fun _ => (Sim.expr hS n).bind fun b => Sim.ret [a, b])).bind fun kids => (Sim.rest k (headOff (L.drop i)) kids).bind fun x => Sim.must (w := [41]) fun _ => Sim.ret x)
    exact ⟨m, u, hE.trans h1, hR.trans h2, h3⟩

/- ITEMS -/
theorem Sim.column : Sim L (columnP z) (columnR L z) := Sim.name.bind fun _ => (Sim.one _ _).bind fun _ => Sim.opt (Sim.const.bind fun _ => Sim.ret _) (Sim.ret _)

theorem Sim.optNum (w : List UInt8) (d : Int) : Sim L (takeB w >>= fun b => if b = true then numP z else pure d) (optNumR L z w d) := Sim.opt Sim.num (Sim.ret d)

theorem Sim.term : Sim L (termP z) (termR L z) :=
 Sim.name.bind fun _ => (Sim.one _ _).bind fun _ => (Sim.ifP Sim.num).bind fun _ => Sim.must fun _ => Sim.num.bind fun _ => (Sim.optNum _ _).bind fun _ => Sim.must fun _ => Sim.num.bind fun _ => (Sim.optNum _ _).bind fun _ => Sim.must fun _ => Sim.ret _

theorem Stay.termsA : ∀ (f : Nat) (acc : List Trm), Stay (termsAR L z f acc)
 | 0, _ => Stay.ret _
 | f + 1, acc => fun i e a he => ⟨acc, by rw [termsAR]; exact if_neg fun h => he h.1⟩

theorem Sim.termsA : ∀ (f : Nat) (acc : List Trm), Sim L (termsA z f acc) (termsAR L z f acc)
 | 0, _ => Sim.ret _
 | f + 1, acc => by
  refine Sim.at_ (Stay.termsA _ _) fun i hi => ?_
  have hs := sees_ok (L := L) (w := [125]) hi
  cases hb : seesB [[125]] (L.drop i) with
  | true =>
   rw [hb] at hs
   exact ⟨pure acc, pure acc, termsA_yes hb, by rw [termsAR]; exact if_neg fun h => by rw [hs] at h; exact absurd h.2 (by decide), Sim.ret _⟩
  | false =>
   rw [hb] at hs
   exact ⟨_, _, termsA_no hb, by rw [termsAR]; exact if_pos ⟨rfl, hs⟩, Sim.term.bind fun _ => Sim.termsA f _⟩

theorem Sim.terms : Sim L (fun ts => Go.Proofs.YtnmfanjhepepbaaGreatDoor.termsA z (ts.length + 1) [] ts) (fun s => termsAR L z (L.length - s.i + 1) [] s) := by
 refine Sim.at_ (fun i e a he => Stay.termsA _ _ i e a he) fun i hi => ⟨_, _, rfl, rfl, ?_⟩
 rw [List.length_drop]
 exact Sim.termsA _ _

theorem Sim.place : Sim L (placeP z) (placeR L z) := Sim.name.bind fun _ => Sim.must fun _ => Sim.name.bind fun _ => Sim.ret _
theorem Sim.fixed : Sim L (fixedP z) (fixedR L z) := Sim.name.bind fun _ => Sim.must fun _ => Sim.const.bind fun _ => Sim.ret _
theorem Sim.var : Sim L (varP z) (varR L z) := Sim.name.bind fun _ => Sim.name.bind fun _ => Sim.ret _

theorem Sim.unique (x : It) : Sim L (uniqueP z x) (uniqueR L z x) := by
 have h : Sim L (uniqueP z x) (mustR L z [111, 110] >>= fun _ => rnameR L z >>= fun t => mustR L z [40] >>= fun _ => namesR L z >>= fun l => mustR L z [41] >>= fun _ => pure { x with table := t, names := l }) :=
  Sim.must fun _ => Sim.name.bind fun _ => Sim.must fun _ => Sim.names.bind fun _ => Sim.must fun _ => Sim.ret _
 exact h

theorem Sim.block (x : It) (hn : x.n = 0) (hm : x.m = 0) : Sim L (blockP z x) (blockR L z x) := by
 refine Sim.must fun _ => Sim.place.bind fun p => Sim.must fun _ => Sim.oneB (fun b hb1 hb2 => ?_) fun b => (Stay.ifR Stay.num).bind fun _ => (Stay.ifR Stay.num).bind fun _ => Stay.ret _
 simp only [List.length_cons, List.length_nil] at hb2
 by_cases h3 : b = 3
 ·subst h3
  have h : Sim L (numP z >>= fun n => (pure { x with table := p.1, attr := p.2, by_ := 3, n := n } : PM It)) (rnumR L z >>= fun n => pure { x with table := p.1, attr := p.2, by_ := 3, n := n, m := 0 }) := Sim.num.bind fun n => by
   have e : ({ x with table := p.1, attr := p.2, by_ := 3, n := n } : It) = { x with table := p.1, attr := p.2, by_ := 3, n := n, m := 0 } := by rw [← hm]
   rw [e]; exact Sim.ret _
  exact h
 ·rw [if_neg h3]
  by_cases h4 : b = 4
  ·subst h4
   have h : Sim L (numP z >>= fun n => numP z >>= fun m => (pure { x with table := p.1, attr := p.2, by_ := 4, n := n, m := m } : PM It)) (rnumR L z >>= fun n => rnumR L z >>= fun m => pure { x with table := p.1, attr := p.2, by_ := 4, n := n, m := m }) := Sim.num.bind fun n => Sim.num.bind fun m => Sim.ret _
   exact h
  ·rw [if_neg h4]
   ·have h5 : ¬ 3 ≤ b := by omega
    have e1 : decide (3 ≤ b) = false := decide_eq_false h5
    have e2 : decide (b = 4) = false := decide_eq_false h4
    rw [e1, e2]
    have e : ({ x with table := p.1, attr := p.2, by_ := b } : It) = { x with table := p.1, attr := p.2, by_ := b, n := 0, m := 0 } := by rw [← hn]; congr 1; rw [hm, hn]
    rw [e]
    exact Sim.ret _

theorem Sim.part (hS : OpT L) (k : Int) (h1 : 1 ≤ k) (h2 : k < 11) (x : It) (hn : x.n = 0) (hm : x.m = 0) : Sim L (partP z k x) (partR L z k x) := by
 unfold partP partR
 refine Sim.ite (fun _ => ?_) fun g1 => Sim.ite (fun _ => ?_) fun g2 => Sim.ite (fun _ => ?_) fun g3 => Sim.ite (fun _ => ?_) fun g4 => Sim.ite (fun _ => ?_) fun g5 => Sim.ite (fun _ => ?_) fun g6 => Sim.ite (fun _ => ?_) fun g7 => Sim.ite (fun _ => ?_) fun g8 => Sim.ite (fun _ => ?_) fun g9 => ?_
 ·exact Sim.must fun _ => (Sim.list Sim.column).bind fun _ => Sim.must2 fun _ => Sim.names.bind fun _ => Sim.ret _
 ·exact Sim.must fun _ => Sim.num.bind fun _ => Sim.ret _
 ·exact Sim.block x hn hm
 ·have h : Sim L (matchP z x) (mustR L z [111, 110] >>= fun _ => rnameR L z >>= fun t => mustR L z [97, 116] >>= fun _ => rnumR L z >>= fun n => mustR L z [123] >>= fun _ => (fun s => termsAR L z (L.length - s.i + 1) [] s : RM (List Trm)) >>= fun l => pure { x with table := t, n := n, terms := l }) :=
   Sim.must fun _ => Sim.name.bind fun _ => Sim.must fun _ => Sim.num.bind fun _ => Sim.must fun _ => Sim.terms.bind fun _ => Sim.ret _
  exact h
 ·exact Sim.place.bind fun _ => Sim.must fun _ => (Sim.one _ _).bind fun _ => Sim.ret _
 ·exact Sim.unique x
 ·exact (Sim.unique x).bind fun y => Sim.must fun _ => Sim.name.bind fun _ => Sim.opt ((Sim.list Sim.fixed).bind fun _ => Sim.ret _) (Sim.ret _)
 ·exact Sim.place.bind fun _ => Sim.must fun _ => Sim.place.bind fun _ => Sim.ret _
 ·exact (Sim.list Sim.var).bind fun _ => Sim.conds.bind fun _ => Sim.ret _
 ·have h10 : k = 10 := by omega
  rw [if_pos h10]
  exact Sim.must fun _ => (Sim.expr hS 12).bind fun _ => Sim.ret _

theorem Stay.list {α : Type} {sep : List UInt8} {r : RM α} (h : Stay r) : Stay (listR L sep r) := h.bind fun _ => fun i e a he => Stay.listA h _ _ i e a he
theorem Stay.unique (x : It) : Stay (uniqueR L z x) := (Sim.unique x).1

theorem Stay.part (k : Int) (x : It) : Stay (partR L z k x) := by
 have hn := Stay.name (L := L) (z := z)
 have hd := Stay.num (L := L) (z := z)
 have hm := Stay.must (L := L) (z := z)
 have hp : Stay (placeR L z) := Sim.place.1
 have ho : ∀ ss i, Stay (oneR L z ss i) := fun ss i => (Sim.one ss i).1
 have hc : Stay (condsR L z) := Stay.list Sim.cond.1
 unfold partR
 refine Stay.ite ?_ (Stay.ite ?_ (Stay.ite ?_ (Stay.ite ?_ (Stay.ite ?_ (Stay.ite ?_ (Stay.ite ?_ (Stay.ite ?_ (Stay.ite ?_ (Stay.ite ?_ (Stay.ret _))))))))))
 ·exact (hm _).bind fun _ => (Stay.list Sim.column.1).bind fun _ => (hm _).bind fun _ => (hm _).bind fun _ => (Stay.list hn).bind fun _ => Stay.ret _
 ·exact (hm _).bind fun _ => hd.bind fun _ => Stay.ret _
 ·exact (hm _).bind fun _ => hp.bind fun _ => (hm _).bind fun _ => (ho _ _).bind fun _ => (Stay.ifR hd).bind fun _ => (Stay.ifR hd).bind fun _ => Stay.ret _
 ·exact Stay.bind ((hm _).bind fun _ => hn) fun _ => (hm _).bind fun _ => hd.bind fun _ => (hm _).bind fun _ => Stay.bind (Sim.terms (L := L) (z := z)).1 fun _ => Stay.ret _
 ·exact hp.bind fun _ => (hm _).bind fun _ => (ho _ _).bind fun _ => Stay.ret _
 ·exact Stay.unique x
 ·exact (Stay.unique x).bind fun _ => (hm _).bind fun _ => hn.bind fun _ => (Stay.has _).bind fun _ => Stay.ite ((Stay.list Sim.fixed.1).bind fun _ => Stay.ret _) (Stay.ret _)
 ·exact hp.bind fun _ => (hm _).bind fun _ => hp.bind fun _ => Stay.ret _
 ·exact (Stay.list Sim.var.1).bind fun _ => (hm _).bind fun _ => hc.bind fun _ => Stay.ret _
 ·exact (hm _).bind fun _ => (Stay.expr 12).bind fun _ => Stay.ret _

theorem Sim.item (hS : OpT L) {i : Nat} {t : Tok} (hx : L[i]? = some t) : ∃ r, ritemR L z ⟨i, 0, 0⟩ = r ⟨i, 0, 0⟩ ∧ Sim L (itemG t.off z) r := by
 refine ⟨oneR L z itWords 1 >>= fun k => ifR (k != 5) (rnameR L z) [] >>= fun nm => partR L z k (x0 k nm t.off) >>= fun x => mustR L z (if k = 4 then [125] else [59]) >>= fun _ => pure x, ?_, ?_⟩
 ·unfold ritemR
  simp only [hx]
 ·refine Sim.oneB (fun k h1 h2 => ?_) fun k => (Stay.ifR Stay.name).bind fun _ => (Stay.part _ _).bind fun _ => (Stay.must _).bind fun _ => Stay.ret _
  have h11 : itWords.length = 10 := rfl
  exact (Sim.ifP Sim.name).bind fun nm => (Sim.part hS k h1 (by omega) (x0 k nm t.off) rfl rfl).bind fun x => Sim.must fun _ => Sim.ret x

theorem items_err (f : Nat) (acc : List It) {i : Nat} {e a : Int} (he : e ≠ 0) : itemsR L z f acc ⟨i, e, a⟩ = (acc, ⟨i, e, a⟩) := by
 cases f with
 | zero => rfl
 | succ f => rw [itemsR]; exact if_neg fun h => he h.1

end
end Go.Proofs.YtnmfanjhepepbaaGreatDoor
