/-
 What the parts of items leave as it was. Reading is local: what the plain parser makes of tokens hangs on the tokens that it reads and on the next one, and on their offsets only where a tree keeps them. Reading is local: expressions and items. The lists of a tree are no longer than its tokens. The parser's errors are never the number 0.
-/
import Derived.Test.YtnmfanjhepepbaaGreatDoorNStructs
import Derived.Test.YtnmfanjhepepbaaGreatDoorNMPc
set_option linter.all false
/- What the parts of items leave as it was. -/
namespace Go.Proofs.YtnmfanjhepepbaaGreatDoor
open Go StillVC

/-- What holds of every result. -/
def Post {α : Type} (m : PM α) (φ : α → Prop) : Prop := ∀ ts a r, m ts = .ok (a, r) → φ a

theorem post_pure {α : Type} {φ : α → Prop} {a : α} (h : φ a) : Post (pure a : PM α) φ := by
 intro ts x r e
 cases e
 exact h

theorem post_bind {α β : Type} {m : PM α} {f : α → PM β} {φ : β → Prop} (hf : ∀ a, Post (f a) φ) : Post (m >>= f) φ := by
 intro ts b r h
 cases hq : m ts with
 | error e => rw [PM.bind_err hq] at h; cases h
 | ok p =>
  obtain ⟨a, q⟩ := p
  rw [PM.bind_ok hq] at h
  exact hf a _ _ _ h

theorem post_from {α β : Type} {m : PM α} {f : α → PM β} {ψ : α → Prop} {φ : β → Prop} (hm : Post m ψ) (hf : ∀ a, ψ a → Post (f a) φ) : Post (m >>= f) φ := by
 intro ts b r h
 cases hq : m ts with
 | error e => rw [PM.bind_err hq] at h; cases h
 | ok p =>
  obtain ⟨a, q⟩ := p
  rw [PM.bind_ok hq] at h
  exact hf a (hm _ _ _ hq) _ _ _ h

theorem post_ite {α : Type} {p : Prop} [Decidable p] {m n : PM α} {φ : α → Prop} (hm : Post m φ) (hn : Post n φ) : Post (if p then m else n) φ := by
 split
 ·exact hm
 ·exact hn

/-- An item that is as it was, apart from what its part sets. -/
def Kept (x y : It) : Prop := y.kind = x.kind ∧ y.name = x.name ∧ y.off = x.off

theorem kept_unique (z : Nat) (x : It) : Post (uniqueP z x) (Kept x) := post_bind fun _ => post_bind fun _ => post_bind fun _ => post_bind fun _ => post_bind fun _ => post_pure ⟨rfl, rfl, rfl⟩

theorem kept_part (z : Nat) (k : Int) (x : It) : Post (partP z k x) (Kept x) := by
 unfold partP
 refine post_ite ?_ (post_ite ?_ (post_ite ?_ (post_ite ?_ (post_ite ?_ (post_ite ?_ (post_ite ?_ (post_ite ?_ (post_ite ?_ ?_))))))))
 ·exact post_bind fun _ => post_bind fun _ => post_bind fun _ => post_bind fun _ => post_pure ⟨rfl, rfl, rfl⟩
 ·exact post_bind fun _ => post_bind fun _ => post_pure ⟨rfl, rfl, rfl⟩
 ·exact post_bind fun _ => post_bind fun _ => post_bind fun _ => post_bind fun _ => post_ite (post_bind fun _ => post_pure ⟨rfl, rfl, rfl⟩) (post_ite (post_bind fun _ => post_bind fun _ => post_pure ⟨rfl, rfl, rfl⟩) (post_pure ⟨rfl, rfl, rfl⟩))
 ·exact post_bind fun _ => post_bind fun _ => post_bind fun _ => post_bind fun _ => post_bind fun _ => post_bind fun _ => post_pure ⟨rfl, rfl, rfl⟩
 ·exact post_bind fun _ => post_bind fun _ => post_bind fun _ => post_pure ⟨rfl, rfl, rfl⟩
 ·exact kept_unique z x
 ·refine post_from (kept_unique z x) fun y hy => post_bind fun _ => post_bind fun _ => post_bind fun _ => post_ite (post_bind fun _ => post_pure ?_) (post_pure ?_)
  ·exact hy
  ·exact hy
 ·exact post_bind fun _ => post_bind fun _ => post_bind fun _ => post_pure ⟨rfl, rfl, rfl⟩
 ·exact post_bind fun _ => post_bind fun _ => post_pure ⟨rfl, rfl, rfl⟩
 ·exact post_bind fun _ => post_bind fun _ => post_pure ⟨rfl, rfl, rfl⟩

/- READINGS THAT LEAVE AT MOST AS MANY TOKENS -/
theorem Dec.lit (z : Nat) : Dec (litE z) :=
 Dec.opt (Dec.bind (Dec.num z) fun _ => Dec.pure _) (Dec.opt (Dec.bind (Dec.num z) fun _ => Dec.pure _) (Dec.opt (Dec.pure _) (Dec.opt (Dec.pure _) (Dec.opt (Dec.pure _) (Dec.pure _)))))

theorem Dec.literal (z : Nat) : Dec (literalP z) := by
 intro ts a r h
 cases ts with
 | nil => cases h; exact Nat.le_refl _
 | cons t q =>
  unfold literalP at h
  dsimp only at h
  split at h
  ·cases h; simp
  ·split at h
   ·cases h; simp
   ·exact Dec.lit z _ _ _ h

theorem Dec.value (z : Nat) : Dec (valueP z) := Dec.bind (Dec.literal z) fun o => by cases o <;> first | exact Dec.fail _ _ | exact Dec.pure _

theorem Dec.side (z : Nat) : Dec (sideP z) := Dec.bind (Dec.literal z) fun o => by
 cases o with
 | some v => exact Dec.pure _
 | none => exact Dec.bind (Dec.name z) fun _ => Dec.opt (Dec.bind (Dec.name z) fun _ => Dec.pure _) (Dec.pure _)

theorem Dec.cond (z : Nat) : Dec (condP z) :=
 Dec.bind (Dec.side z) fun _ => Dec.bind (Dec.word _ _ _) fun _ => Dec.bind (Dec.side z) fun _ => Dec.opt (Dec.bind (Dec.num z) fun _ => Dec.pure _) (Dec.opt (Dec.bind (Dec.num z) fun _ => Dec.pure _) (Dec.pure _))

theorem Dec.column (z : Nat) : Dec (columnP z) :=
 Dec.bind (Dec.name z) fun _ => Dec.bind (Dec.word _ _ _) fun _ => Dec.opt (Dec.bind (Dec.value z) fun _ => Dec.pure _) (Dec.pure _)

theorem Dec.fixed (z : Nat) : Dec (fixedP z) := Dec.bind (Dec.name z) fun _ => Dec.bind (Dec.need _ _) fun _ => Dec.bind (Dec.value z) fun _ => Dec.pure _
theorem Dec.var (z : Nat) : Dec (varP z) := Dec.bind (Dec.name z) fun _ => Dec.bind (Dec.name z) fun _ => Dec.pure _
theorem Dec.term (z : Nat) : Dec (termP z) := fun _ _ _ h => by have := termP_lt h; omega

theorem Dec.listA {α : Type} {sep : List UInt8} {one : PM α} (h : Dec one) : ∀ (n : Nat) (acc : List α), Dec (Go.Proofs.YtnmfanjhepepbaaGreatDoor.listA sep one n acc)
 | 0, _ => Dec.pure _
 | n + 1, acc => Dec.opt (Dec.bind h fun _ => Dec.listA h n _) (Dec.pure _)

theorem Dec.list {α : Type} {sep : List UInt8} {one : PM α} (h : Dec one) : Dec (listP sep one) := Dec.bind h fun _ ts a r e => Dec.listA h _ _ ts a r e
theorem Dec.names (z : Nat) : Dec (namesP z) := Dec.list (Dec.name z)
theorem Dec.namesU (z : Nat) (s : List UInt8) : Dec (Go.Proofs.YtnmfanjhepepbaaGreatDoor.namesU z s) := by
 intro ts a r h
 cases hb : seesB [s] ts with
 | true => rw [namesU_yes hb] at h; cases h; exact Nat.le_refl _
 | false => rw [namesU_no hb] at h; exact Dec.names z _ _ _ h
theorem Dec.conds (z : Nat) : Dec (condsP z) := Dec.bind (Dec.need _ _) fun _ => Dec.list (Dec.cond z)
theorem Dec.place (z : Nat) : Dec (placeP z) := Dec.bind (Dec.name z) fun _ => Dec.bind (Dec.need _ _) fun _ => Dec.bind (Dec.name z) fun _ => Dec.pure _
theorem Dec.termsA (z : Nat) : ∀ (n : Nat) (acc : List Trm), Dec (Go.Proofs.YtnmfanjhepepbaaGreatDoor.termsA z n acc)
 | 0, _ => Dec.pure _
 | n + 1, acc => by
  intro ts a r h
  cases hb : seesB [[125]] ts with
  | true => rw [termsA_yes hb] at h; cases h; exact Nat.le_refl _
  | false => rw [termsA_no hb] at h; exact (Dec.bind (Dec.term z) fun _ => Dec.termsA z n _) _ _ _ h

theorem Dec.rest (z i off : Nat) (kids : List Ex) : Dec (opRest z i off kids) := by
 match i with
 | 0 => exact Dec.bind (Dec.conds z) fun _ => Dec.pure _
 | 1 => exact Dec.bind (Dec.need _ _) fun _ => Dec.bind (Dec.namesU _ _) fun _ => Dec.pure _
 | 2 => exact Dec.pure _
 | 3 => exact Dec.pure _
 | 4 => exact Dec.pure _
 | 5 => exact Dec.bind (Dec.need _ _) fun _ => Dec.bind (Dec.name z) fun _ => Dec.bind (Dec.need _ _) fun _ => Dec.bind (Dec.name z) fun _ => Dec.pure _
 | 6 => exact Dec.bind (Dec.need _ _) fun _ => Dec.bind (Dec.namesU _ _) fun _ => Dec.bind (Dec.need _ _) fun _ => Dec.bind (Dec.word _ _ _) fun _ => Dec.bind (Dec.ifP (Dec.name z)) fun _ => Dec.bind (Dec.need _ _) fun _ => Dec.bind (Dec.name z) fun _ => Dec.pure _
 | n + 7 => exact Dec.pure _

theorem Dec.expr (z : Nat) : ∀ (n : Nat), Dec (exprP z n)
 | 0 => Dec.fail z 3
 | n + 1 => by
  intro ts a r h
  rw [exprP] at h
  cases ho : opIdx ts with
  | none =>
   simp only [ho] at h
   exact (Dec.bind (Dec.name z) fun _ => Dec.pure _) _ _ _ h
  | some i =>
   simp only [ho] at h
   exact (Dec.bind (Dec.need _ _) fun _ => Dec.bind (Dec.expr z n) fun _ => Dec.bind (Dec.ifP (Dec.bind (Dec.need _ _) fun _ => Dec.bind (Dec.expr z n) fun _ => Dec.pure _)) fun _ => Dec.bind (Dec.rest _ _ _ _) fun _ => Dec.bind (Dec.need _ _) fun _ => Dec.pure _) _ _ _ h

theorem Dec.ite {α : Type} {p : Prop} [Decidable p] {m n : PM α} (hm : Dec m) (hn : Dec n) : Dec (if p then m else n) := by
 split
 ·exact hm
 ·exact hn

theorem Dec.unique (z : Nat) (x : It) : Dec (uniqueP z x) := Dec.bind (Dec.need _ _) fun _ => Dec.bind (Dec.name z) fun _ => Dec.bind (Dec.need _ _) fun _ => Dec.bind (Dec.names z) fun _ => Dec.bind (Dec.need _ _) fun _ => Dec.pure _

theorem Dec.part (z : Nat) (k : Int) (x : It) : Dec (partP z k x) := by
 unfold partP
 refine Dec.ite ?_ (Dec.ite ?_ (Dec.ite ?_ (Dec.ite ?_ (Dec.ite ?_ (Dec.ite ?_ (Dec.ite ?_ (Dec.ite ?_ (Dec.ite ?_ ?_))))))))
 ·exact Dec.bind (Dec.need _ _) fun _ => Dec.bind (Dec.list (Dec.column z)) fun _ => Dec.bind (Dec.need _ _) fun _ => Dec.bind (Dec.names z) fun _ => Dec.pure _
 ·exact Dec.bind (Dec.need _ _) fun _ => Dec.bind (Dec.num z) fun _ => Dec.pure _
 ·exact Dec.bind (Dec.need _ _) fun _ => Dec.bind (Dec.place z) fun _ => Dec.bind (Dec.need _ _) fun _ => Dec.bind (Dec.word _ _ _) fun _ => Dec.ite (Dec.bind (Dec.num z) fun _ => Dec.pure _) (Dec.ite (Dec.bind (Dec.num z) fun _ => Dec.bind (Dec.num z) fun _ => Dec.pure _) (Dec.pure _))
 ·exact Dec.bind (Dec.need _ _) fun _ => Dec.bind (Dec.name z) fun _ => Dec.bind (Dec.need _ _) fun _ => Dec.bind (Dec.num z) fun _ => Dec.bind (Dec.need _ _) fun _ => Dec.bind (fun ts a r e => Dec.termsA z _ _ ts a r e) fun _ => Dec.pure _
 ·exact Dec.bind (Dec.place z) fun _ => Dec.bind (Dec.need _ _) fun _ => Dec.bind (Dec.word _ _ _) fun _ => Dec.pure _
 ·exact Dec.unique z x
 ·exact Dec.bind (Dec.unique z x) fun _ => Dec.bind (Dec.need _ _) fun _ => Dec.bind (Dec.name z) fun _ => Dec.opt (Dec.bind (Dec.list (Dec.fixed z)) fun _ => Dec.pure _) (Dec.pure _)
 ·exact Dec.bind (Dec.place z) fun _ => Dec.bind (Dec.need _ _) fun _ => Dec.bind (Dec.place z) fun _ => Dec.pure _
 ·exact Dec.bind (Dec.list (Dec.var z)) fun _ => Dec.bind (Dec.conds z) fun _ => Dec.pure _
 ·exact Dec.bind (Dec.need _ _) fun _ => Dec.bind (Dec.expr z 12) fun _ => Dec.pure _

end Go.Proofs.YtnmfanjhepepbaaGreatDoor

/- Reading is local: what the plain parser makes of tokens hangs on the tokens that it reads and on the next one, and on their offsets only where a tree keeps them. -/
namespace Go.Proofs.YtnmfanjhepepbaaGreatDoor
open Go StillVC

/-- A symbol is no word. -/
def TW (t : Tok) : Prop := t.kind = 4 → ∀ c, t.text[0]? = some c → letterB c = false
def TWs (ts : List Tok) : Prop := ∀ t ∈ ts, TW t

theorem TWs.left {a b : List Tok} (h : TWs (a ++ b)) : TWs a := fun t ht => h t (List.mem_append_left _ ht)
theorem TWs.right {a b : List Tok} (h : TWs (a ++ b)) : TWs b := fun t ht => h t (List.mem_append_right _ ht)
theorem TWs.append {a b : List Tok} (h : TWs a) (k : TWs b) : TWs (a ++ b) := fun t ht => (List.mem_append.1 ht).elim (h t) (k t)
/-- Tokens as the lexer makes them. -/
def LW (ts : List Tok) : Prop := TWs ts ∧ ts.Pairwise fun a b => a.off ≠ b.off

theorem LW.right {a b : List Tok} (h : LW (a ++ b)) : LW b := ⟨fun t ht => h.1 t (List.mem_append_right _ ht), (List.pairwise_append.1 h.2).2.1⟩
theorem LW.left {a b : List Tok} (h : LW (a ++ b)) : LW a := ⟨fun t ht => h.1 t (List.mem_append_left _ ht), (List.pairwise_append.1 h.2).1⟩
theorem LW.tail {t : Tok} {b : List Tok} (h : LW (t :: b)) : LW b := LW.right (a := [t]) h

theorem TWs.tail {t : Tok} {b : List Tok} (h : TWs (t :: b)) : TWs b := fun x hx => h x (List.mem_cons_of_mem _ hx)

/-- Tokens that are alike, with offsets that are related. -/
def tokQ (Q : Nat → Nat → Prop) (t t' : Tok) : Prop := t.kind = t'.kind ∧ t.text = t'.text ∧ t.num = t'.num ∧ Q t.off t'.off

inductive TE (Q : Nat → Nat → Prop) : List Tok → List Tok → Prop
 | nil : TE Q [] []
 | cons {t t' : Tok} {ts ts' : List Tok} : tokQ Q t t' → TE Q ts ts' → TE Q (t :: ts) (t' :: ts')

def HE (Q : Nat → Nat → Prop) : List Tok → List Tok → Prop
 | [], [] => True
 | t :: _, t' :: _ => tokQ Q t t'
 | _, _ => False

section
variable {Q : Nat → Nat → Prop}

theorem TE.he {a b : List Tok} (h : TE Q a b) : HE Q a b := by
 cases h with
 | nil => trivial
 | cons h _ => exact h

theorem TE.split {a b c' : List Tok} (h : TE Q (a ++ b) c') : ∃ a' b', c' = a' ++ b' ∧ TE Q a a' ∧ TE Q b b' := by
 induction a generalizing c' with
 | nil => exact ⟨[], c', rfl, .nil, h⟩
 | cons t a ih =>
  cases h with
  | cons h1 h2 =>
   obtain ⟨a', b', rfl, h3, h4⟩ := ih h2
   exact ⟨_ :: a', b', rfl, .cons h1 h3, h4⟩

theorem TE.len {a b : List Tok} (h : TE Q a b) : a.length = b.length := by
 induction h with
 | nil => rfl
 | cons _ _ ih => simp [ih]

theorem TE.refl (hq : ∀ n, Q n n) : ∀ (a : List Tok), TE Q a a
 | [] => .nil
 | _ :: a => .cons ⟨rfl, rfl, rfl, hq _⟩ (TE.refl hq a)

theorem HE.append {p p' r r' : List Tok} (h : TE Q p p') (k : HE Q r r') : HE Q (p ++ r) (p' ++ r') := by
 cases h with
 | nil => exact k
 | cons h _ => exact h

theorem HE.cons {t t' : Tok} {r r' : List Tok} (h : tokQ Q t t') : HE Q (t :: r) (t' :: r') := h

/-- Two readings that are alike: m of some tokens, m' of tokens that are alike as far as m reads, and one further. -/
structure Par {α β : Type} (Q : Nat → Nat → Prop) (R : α → β → Prop) (m : Nat → PM α) (m' : Nat → PM β) : Prop where
 ok : ∀ z ts a r, LW ts → m z ts = .ok (a, r) → ∃ p, ts = p ++ r ∧ ∀ z' p' r', TWs p' → TWs r' → TE Q p p' → HE Q r r' → ∃ a', m' z' (p' ++ r') = .ok (a', r') ∧ R a a'
 err : ∀ z ts e o, LW ts → m z ts = .error (e, o) →
  (e = 7 ∧ o = z ∧ ∀ z' ts', TWs ts' → TE Q ts ts' → m' z' ts' = .error (7, z')) ∨
  (e ≠ 7 ∧ ∃ p t r, ts = p ++ t :: r ∧ o = t.off ∧ ∀ z' p' t' r', TWs p' → TW t' → TWs r' → TE Q p p' → tokQ Q t t' → m' z' (p' ++ t' :: r') = .error (e, t'.off))

class QT (Q : Nat → Nat → Prop) : Prop where
 tot : ∀ n, ∃ n', Q n n'
 zero : Q 0 0

instance : QT Eq := ⟨fun n => ⟨n, rfl⟩, rfl⟩
instance : QT fun _ _ => True := ⟨fun n => ⟨n, trivial⟩, trivial⟩

/- READINGS OF ONE TOKEN -/
theorem TWs.cons {t : Tok} {ts : List Tok} (k : TWs ts) (h : TW t) : TWs (t :: ts) := fun x hx => (List.mem_cons.1 hx).elim (fun e => e ▸ h) (k x)

/-- Two readings of nothing. -/
structure Par0 {α β : Type} (R : α → β → Prop) (m : Nat → PM α) (m' : Nat → PM β) : Prop where
 ok : ∀ z a r, m z [] = .ok (a, r) → r = [] ∧ ∀ z', ∃ a', m' z' [] = .ok (a', []) ∧ R a a'
 err : ∀ z e o, m z [] = .error (e, o) → e = 7 ∧ o = z ∧ ∀ z', m' z' [] = .error (7, z')

theorem LW.nil : LW [] := ⟨(fun _ h => by cases h), .nil⟩

/- LISTS -/
end
end Go.Proofs.YtnmfanjhepepbaaGreatDoor

/- Reading is local: expressions and items. -/
namespace Go.Proofs.YtnmfanjhepepbaaGreatDoor
open Go StillVC

mutual
/-- Expressions that are equal but for their offsets, which are related. -/
def ExQ (Q : Nat → Nat → Prop) : Ex → Ex → Prop
 | .mk k t ks c n a s g o, .mk k' t' ks' c' n' a' s' g' o' => k = k' ∧ t = t' ∧ c = c' ∧ n = n' ∧ a = a' ∧ s = s' ∧ g = g' ∧ Q o o' ∧ ExsQ Q ks ks'
def ExsQ (Q : Nat → Nat → Prop) : List Ex → List Ex → Prop
 | [], [] => True
 | x :: xs, y :: ys => ExQ Q x y ∧ ExsQ Q xs ys
 | _, _ => False
end

/-- Items that are equal but for their offsets, which are related. -/
def ItQ (Q : Nat → Nat → Prop) (x y : It) : Prop := ∃ o' e', y = { x with off := o', expr := e' } ∧ Q x.off o' ∧ ExQ Q x.expr e'

section
variable {Q : Nat → Nat → Prop}

theorem opIdx_is {ts : List Tok} {i : Nat} (h : opIdx ts = some i) : i < 7 ∧ ∃ t t2 q, ts = t :: t2 :: q ∧ wordB t (opNames.getD i []) = true ∧ wordB t2 [40] = true := by
 unfold opIdx at h
 have h1 := List.find?_some h
 have h2 := List.mem_of_find?_eq_some h
 refine ⟨by simpa using h2, ?_⟩
 cases ts with
 | nil => cases h1
 | cons t r =>
  cases r with
  | nil => simp [seesB] at h1
  | cons t2 q =>
   refine ⟨t, t2, q, rfl, ?_⟩
   simpa [seesB, Bool.and_eq_true] using h1

theorem ExsQ.one {a b : Ex} (h : ExQ Q a b) : ExsQ Q [a] [b] := ⟨h, trivial⟩

/- ITEMS -/
variable [QT Q] {x x' : It} (h : ItQ Q x x')
include h

end
end Go.Proofs.YtnmfanjhepepbaaGreatDoor

/- The lists of a tree are no longer than its tokens. -/
namespace Go.Proofs.YtnmfanjhepepbaaGreatDoor
open Go StillVC

/-- What holds of every result of at most N tokens. -/
def BPost {α : Type} (N : Nat) (m : PM α) (φ : α → Prop) : Prop := ∀ ts a r, ts.length ≤ N → m ts = .ok (a, r) → φ a

section
variable {N : Nat}

theorem bpost_pure {α : Type} {φ : α → Prop} {a : α} (h : φ a) : BPost N (pure a : PM α) φ := by
 intro ts x r _ e
 cases e
 exact h

theorem bpost_bind {α β : Type} {m : PM α} {f : α → PM β} {φ : β → Prop} (hd : Dec m) (hf : ∀ a, BPost N (f a) φ) : BPost N (m >>= f) φ := by
 intro ts b r hl h
 cases hq : m ts with
 | error e => rw [PM.bind_err hq] at h; cases h
 | ok p =>
  obtain ⟨a, q⟩ := p
  rw [PM.bind_ok hq] at h
  exact hf a _ _ _ (Nat.le_trans (hd _ _ _ hq) hl) h

theorem bpost_from {α β : Type} {m : PM α} {f : α → PM β} {ψ : α → Prop} {φ : β → Prop} (hd : Dec m) (hm : BPost N m ψ) (hf : ∀ a, ψ a → BPost N (f a) φ) : BPost N (m >>= f) φ := by
 intro ts b r hl h
 cases hq : m ts with
 | error e => rw [PM.bind_err hq] at h; cases h
 | ok p =>
  obtain ⟨a, q⟩ := p
  rw [PM.bind_ok hq] at h
  exact hf a (hm _ _ _ hl hq) _ _ _ (Nat.le_trans (hd _ _ _ hq) hl) h

theorem bpost_ite {α : Type} {p : Prop} [Decidable p] {m n : PM α} {φ : α → Prop} (hm : BPost N m φ) (hn : BPost N n φ) : BPost N (if p then m else n) φ := by
 split
 ·exact hm
 ·exact hn

theorem bpost_opt {α : Type} {s : List UInt8} {m n : PM α} {φ : α → Prop} (h1 : BPost N m φ) (h2 : BPost N n φ) : BPost N (takeB s >>= fun b => if b = true then m else n) φ :=
 bpost_bind (Dec.take s) fun b => by cases b <;> assumption

theorem listA_len {α : Type} {sep : List UInt8} {one : PM α} (hd : Dec one) : ∀ (n : Nat) (acc : List α) (ts : List Tok) (l : List α) (r : List Tok), listA sep one n acc ts = .ok (l, r) → l.length + r.length ≤ acc.length + ts.length
 | 0, acc, ts, l, r, h => by cases h; exact Nat.le_refl _
 | n + 1, acc, ts, l, r, h => by
  cases hq : takeB sep ts with
  | error e => exact absurd hq (takeB_ok _ _ _)
  | ok x =>
   obtain ⟨b, q⟩ := x
   cases b with
   | false => rw [listA_no hq] at h; cases h; have := takeB_same hq; subst this; exact Nat.le_refl _
   | true =>
    rw [listA_yes hq] at h
    have hl := takeB_lt hq
    cases h3 : one q with
    | error e => rw [PM.bind_err h3] at h; cases h
    | ok y =>
     obtain ⟨a, w⟩ := y
     have := hd _ _ _ h3
     rw [PM.bind_ok h3] at h
     have ih := listA_len hd n (acc ++ [a]) w l r h
     simp at ih
     omega

theorem bpost_list {α : Type} {sep : List UInt8} {one : PM α} (hd : Dec one) : BPost N (listP sep one) fun l => l.length ≤ N + 1 := by
 intro ts l r hl h
 cases h3 : one ts with
 | error e => exact absurd ((PM.bind_err (f := fun a => (fun ts => listA sep one (ts.length + 1) [a] ts : PM (List α))) h3).symm.trans h) (by simp)
 | ok y =>
  obtain ⟨a, w⟩ := y
  have := hd _ _ _ h3
  have h' := (PM.bind_ok (f := fun a => (fun ts => listA sep one (ts.length + 1) [a] ts : PM (List α))) h3).symm.trans h
  have := listA_len hd _ _ _ _ _ h'
  simp at this
  omega

theorem bpost_names (z : Nat) : BPost N (namesP z) fun l => l.length ≤ N + 1 := bpost_list (Dec.name z)
theorem bpost_namesU (z : Nat) (s : List UInt8) : BPost N (namesU z s) fun l => l.length ≤ N + 1 := by
 intro ts a r hl h
 cases hb : seesB [s] ts with
 | true => rw [namesU_yes hb] at h; cases h; simp
 | false => rw [namesU_no hb] at h; exact bpost_names z _ _ _ hl h
theorem bpost_conds (z : Nat) : BPost N (condsP z) fun l => l.length ≤ N + 1 := bpost_bind (Dec.need _ _) fun _ => bpost_list (Dec.cond z)

theorem termsA_len (z : Nat) : ∀ (n : Nat) (acc : List Trm) (ts : List Tok) (l : List Trm) (r : List Tok), termsA z n acc ts = .ok (l, r) → l.length + r.length ≤ acc.length + ts.length
 | 0, acc, ts, l, r, h => by cases h; exact Nat.le_refl _
 | n + 1, acc, ts, l, r, h => by
  cases hb : seesB [[125]] ts with
  | true => rw [termsA_yes hb] at h; cases h; exact Nat.le_refl _
  | false =>
   rw [termsA_no hb] at h
   cases h3 : termP z ts with
   | error e => rw [PM.bind_err h3] at h; cases h
   | ok y =>
    obtain ⟨a, w⟩ := y
    have := termP_lt h3
    rw [PM.bind_ok h3] at h
    have ih := termsA_len z n (acc ++ [a]) w l r h
    simp at ih
    omega

theorem bpost_terms (z : Nat) : BPost N (fun ts => termsA z (ts.length + 1) [] ts) fun l => l.length ≤ N + 1 := by
 intro ts l r hl h
 have := termsA_len z _ _ _ _ _ h
 simp at this
 omega

mutual
def ExB (N : Nat) : Ex → Prop
 | .mk _ _ ks c n _ _ _ _ => ks.length ≤ N ∧ c.length ≤ N ∧ n.length ≤ N ∧ ExsB N ks
def ExsB (N : Nat) : List Ex → Prop
 | [] => True
 | x :: xs => ExB N x ∧ ExsB N xs
end

/-- The lists of an item have at most N elements. -/
structure ItB (N : Nat) (x : It) : Prop where
 cols : x.cols.length ≤ N
 names : x.names.length ≤ N
 terms : x.terms.length ≤ N
 fixed : x.fixed.length ≤ N
 vars : x.vars.length ≤ N
 conds : x.conds.length ≤ N
 expr : ExB N x.expr

theorem exB_mk {k : Int} {t : List UInt8} {ks : List Ex} {c : List Cnd} {n : List (List UInt8)} {a s : List UInt8} {g : Int} {o : Nat} {M : Nat} (h1 : ks.length ≤ M) (h2 : c.length ≤ M) (h3 : n.length ≤ M) (h4 : ExsB M ks) : ExB M (.mk k t ks c n a s g o) := by
 rw [ExB]; exact ⟨h1, h2, h3, h4⟩

theorem bpost_rest (z i off : Nat) {kids : List Ex} (hk : kids.length ≤ 2) (hN : 1 ≤ N) (hks : ExsB (N + 1) kids) : BPost N (opRest z i off kids) (ExB (N + 1)) := by
 have h0 : kids.length ≤ N + 1 := by omega
 match i with
 | 0 => exact bpost_from (Dec.conds z) (bpost_conds z) fun c hc => bpost_pure (exB_mk h0 hc (by simp) hks)
 | 1 => exact bpost_bind (Dec.need _ _) fun _ => bpost_from (Dec.namesU _ _) (bpost_namesU _ _) fun l hl => bpost_pure (exB_mk h0 (by simp) hl hks)
 | 2 => exact bpost_pure (exB_mk h0 (by simp) (by simp) hks)
 | 3 => exact bpost_pure (exB_mk h0 (by simp) (by simp) hks)
 | 4 => exact bpost_pure (exB_mk h0 (by simp) (by simp) hks)
 | 5 => exact bpost_bind (Dec.need _ _) fun _ => bpost_bind (Dec.name z) fun _ => bpost_bind (Dec.need _ _) fun _ => bpost_bind (Dec.name z) fun _ => bpost_pure (exB_mk h0 (by simp) (by simp) hks)
 | 6 => exact bpost_bind (Dec.need _ _) fun _ => bpost_from (Dec.namesU _ _) (bpost_namesU _ _) fun l hl => bpost_bind (Dec.need _ _) fun _ => bpost_bind (Dec.word _ _ _) fun _ => bpost_bind (Dec.ifP (Dec.name z)) fun _ => bpost_bind (Dec.need _ _) fun _ => bpost_bind (Dec.name z) fun _ => bpost_pure (exB_mk h0 (by simp) hl hks)
 | n + 7 => exact bpost_pure (exB_mk h0 (by simp) (by simp) hks)

theorem bpost_expr (z : Nat) (hN : 1 ≤ N) : ∀ (n : Nat), BPost N (exprP z n) (ExB (N + 1))
 | 0 => fun ts a r _ h => by cases h
 | n + 1 => by
  intro ts a r hl h
  rw [exprP] at h
  cases ho : opIdx ts with
  | none =>
   simp only [ho] at h
   refine (bpost_bind (N := N) (φ := ExB (N + 1)) (Dec.name z) fun t => bpost_pure ?_) _ _ _ hl h
   exact exB_mk (by simp) (by simp) (by simp) trivial
  | some i =>
   simp only [ho] at h
   refine (bpost_bind (N := N) (φ := ExB (N + 1)) (Dec.need _ _) fun _ => bpost_from (ψ := ExB (N + 1)) (Dec.expr z n) (bpost_expr z hN n) fun a ha => ?_) _ _ _ hl h
   refine bpost_from (ψ := fun ks => ks.length ≤ 2 ∧ ExsB (N + 1) ks) (Dec.ifP (Dec.bind (Dec.need _ _) fun _ => Dec.bind (Dec.expr z n) fun _ => Dec.pure _)) ?_ fun ks hks => ?_
   ·unfold ifP
    exact bpost_ite (bpost_bind (Dec.need _ _) fun _ => bpost_from (ψ := ExB (N + 1)) (Dec.expr z n) (bpost_expr z hN n) fun b hb => bpost_pure ⟨by simp, ha, hb, trivial⟩) (bpost_pure ⟨by simp, ha, trivial⟩)
   ·exact bpost_from (Dec.rest _ _ _ _) (bpost_rest z i _ hks.1 hN hks.2) fun x hx => bpost_bind (Dec.need _ _) fun _ => bpost_pure hx

theorem bpost_unique (z : Nat) {x : It} (h : ItB (N + 1) x) : BPost N (uniqueP z x) (ItB (N + 1)) :=
 bpost_bind (Dec.need _ _) fun _ => bpost_bind (Dec.name z) fun _ => bpost_bind (Dec.need _ _) fun _ => bpost_from (Dec.names z) (bpost_names z) fun l hl => bpost_bind (Dec.need _ _) fun _ => bpost_pure { h with names := hl }

theorem bpost_part (z : Nat) (hN : 1 ≤ N) (k : Int) {x : It} (h : ItB (N + 1) x) : BPost N (partP z k x) (ItB (N + 1)) := by
 unfold partP
 refine bpost_ite ?_ (bpost_ite ?_ (bpost_ite ?_ (bpost_ite ?_ (bpost_ite ?_ (bpost_ite ?_ (bpost_ite ?_ (bpost_ite ?_ (bpost_ite ?_ ?_))))))))
 ·exact bpost_bind (Dec.need _ _) fun _ => bpost_from (Dec.list (Dec.column z)) (bpost_list (Dec.column z)) fun c hc => bpost_bind (Dec.need _ _) fun _ => bpost_from (Dec.names z) (bpost_names z) fun l hl => bpost_pure { h with cols := hc, names := hl }
 ·exact bpost_bind (Dec.need _ _) fun _ => bpost_bind (Dec.num z) fun _ => bpost_pure { h with }
 ·exact bpost_bind (Dec.need _ _) fun _ => bpost_bind (Dec.place z) fun _ => bpost_bind (Dec.need _ _) fun _ => bpost_bind (Dec.word _ _ _) fun _ => bpost_ite (bpost_bind (Dec.num z) fun _ => bpost_pure { h with }) (bpost_ite (bpost_bind (Dec.num z) fun _ => bpost_bind (Dec.num z) fun _ => bpost_pure { h with }) (bpost_pure { h with }))
 ·exact bpost_bind (Dec.need _ _) fun _ => bpost_bind (Dec.name z) fun _ => bpost_bind (Dec.need _ _) fun _ => bpost_bind (Dec.num z) fun _ => bpost_bind (Dec.need _ _) fun _ => bpost_from (fun ts a r e => Dec.termsA z _ _ ts a r e) (bpost_terms z) fun l hl => bpost_pure { h with terms := hl }
 ·exact bpost_bind (Dec.place z) fun _ => bpost_bind (Dec.need _ _) fun _ => bpost_bind (Dec.word _ _ _) fun _ => bpost_pure { h with }
 ·exact bpost_unique z h
 ·exact bpost_from (Dec.unique z x) (bpost_unique z h) fun y hy => bpost_bind (Dec.need _ _) fun _ => bpost_bind (Dec.name z) fun _ => bpost_opt (bpost_from (Dec.list (Dec.fixed z)) (bpost_list (Dec.fixed z)) fun l hl => bpost_pure { hy with fixed := hl }) (bpost_pure { hy with })
 ·exact bpost_bind (Dec.place z) fun _ => bpost_bind (Dec.need _ _) fun _ => bpost_bind (Dec.place z) fun _ => bpost_pure { h with }
 ·exact bpost_from (Dec.list (Dec.var z)) (bpost_list (Dec.var z)) fun v hv => bpost_from (Dec.conds z) (bpost_conds z) fun c hc => bpost_pure { h with vars := hv, conds := hc }
 ·exact bpost_bind (Dec.need _ _) fun _ => bpost_from (Dec.expr z 12) (bpost_expr z hN 12) fun x hx => bpost_pure { h with expr := hx }

end
end Go.Proofs.YtnmfanjhepepbaaGreatDoor

/- The parser's errors are never the number 0. -/
namespace Go.Proofs.YtnmfanjhepepbaaGreatDoor
open Go StillVC

def ErrN {α : Type} (m : PM α) : Prop := ∀ ts e o, m ts = .error (e, o) → e ≠ 0

theorem ErrN.pure {α : Type} (a : α) : ErrN (Pure.pure a : PM α) := by
 intro ts e o h
 cases h

theorem ErrN.bind {α β : Type} {m : PM α} {f : α → PM β} (hm : ErrN m) (hf : ∀ a, ErrN (f a)) : ErrN (m >>= f) := by
 intro ts e o h
 cases hq : m ts with
 | error y => rw [PM.bind_err hq] at h; cases h; exact hm _ _ _ hq
 | ok p =>
  obtain ⟨a, q⟩ := p
  rw [PM.bind_ok hq] at h
  exact hf a _ _ _ h

theorem ErrN.take (s : List UInt8) : ErrN (takeB s) := fun ts e o h => absurd h (takeB_ok _ _ _)

theorem stopE_ne (z : Nat) {e : Int} (he : e ≠ 0) (ts : List Tok) : (stopE z e ts).1 ≠ 0 := by
 cases ts with
 | nil => show (7 : Int) ≠ 0; decide
 | cons t r => exact he

theorem ErrN.fail {α : Type} (z : Nat) (e : Int) (he : e ≠ 0) : ErrN (failP z e : PM α) := by
 intro ts e' o h
 have h' : (Except.error (stopE z e ts) : Except (Int × Nat) (α × List Tok)) = .error (e', o) := h
 have := stopE_ne z he ts
 injection h' with h'
 rw [h'] at this
 exact this

theorem ErrN.kind (z : Nat) (k : Int) : ErrN (kindP z k) := by
 intro ts e o h
 cases ts with
 | nil => cases h; decide
 | cons t r =>
  unfold kindP at h
  dsimp only at h
  split at h
  ·cases h
  ·cases h; decide

theorem ErrN.name (z : Nat) : ErrN (nameP z) := ErrN.bind (ErrN.kind z 1) fun _ => ErrN.pure _
theorem ErrN.num (z : Nat) : ErrN (numP z) := ErrN.bind (ErrN.kind z 2) fun _ => ErrN.pure _

theorem ErrN.need : ∀ (z : Nat) (ss : List (List UInt8)), ErrN (needP z ss)
 | _, [] => ErrN.pure _
 | z, s :: ss => ErrN.bind (ErrN.bind (ErrN.take s) fun b => by cases b <;> first | exact ErrN.fail _ _ (by decide) | exact ErrN.pure _) fun _ => ErrN.need z ss

theorem ErrN.word : ∀ (z : Nat) (ss : List (List UInt8)) (i : Int), ErrN (wordP z ss i)
 | z, [], _ => ErrN.fail z 4 (by decide)
 | z, s :: ss, i => ErrN.bind (ErrN.take s) fun b => by cases b <;> first | exact ErrN.word z ss (i + 1) | exact ErrN.pure _

theorem ErrN.ifP {α : Type} {c : Bool} {m : PM α} {d : α} (h : ErrN m) : ErrN (ifP c m d) := by
 unfold Go.Proofs.YtnmfanjhepepbaaGreatDoor.ifP
 split
 ·exact h
 ·exact ErrN.pure _

theorem ErrN.opt {α : Type} {s : List UInt8} {m n : PM α} (h1 : ErrN m) (h2 : ErrN n) : ErrN (takeB s >>= fun b => if b = true then m else n) := ErrN.bind (ErrN.take s) fun b => by cases b <;> assumption

theorem ErrN.lit (z : Nat) : ErrN (litE z) :=
 ErrN.opt (ErrN.bind (ErrN.num z) fun _ => ErrN.pure _) (ErrN.opt (ErrN.bind (ErrN.num z) fun _ => ErrN.pure _) (ErrN.opt (ErrN.pure _) (ErrN.opt (ErrN.pure _) (ErrN.opt (ErrN.pure _) (ErrN.pure _)))))

theorem ErrN.literal (z : Nat) : ErrN (literalP z) := by
 intro ts e o h
 cases ts with
 | nil => cases h
 | cons t q =>
  unfold literalP at h
  dsimp only at h
  split at h
  ·cases h
  ·split at h
   ·cases h
   ·exact ErrN.lit z _ _ _ h

theorem ErrN.value (z : Nat) : ErrN (valueP z) := ErrN.bind (ErrN.literal z) fun o => by cases o <;> first | exact ErrN.fail _ _ (by decide) | exact ErrN.pure _

theorem ErrN.side (z : Nat) : ErrN (sideP z) := ErrN.bind (ErrN.literal z) fun o => by
 cases o with
 | some v => exact ErrN.pure _
 | none => exact ErrN.bind (ErrN.name z) fun _ => ErrN.opt (ErrN.bind (ErrN.name z) fun _ => ErrN.pure _) (ErrN.pure _)

theorem ErrN.cond (z : Nat) : ErrN (condP z) :=
 ErrN.bind (ErrN.side z) fun _ => ErrN.bind (ErrN.word _ _ _) fun _ => ErrN.bind (ErrN.side z) fun _ => ErrN.opt (ErrN.bind (ErrN.num z) fun _ => ErrN.pure _) (ErrN.opt (ErrN.bind (ErrN.num z) fun _ => ErrN.pure _) (ErrN.pure _))

theorem ErrN.column (z : Nat) : ErrN (columnP z) :=
 ErrN.bind (ErrN.name z) fun _ => ErrN.bind (ErrN.word _ _ _) fun _ => ErrN.opt (ErrN.bind (ErrN.value z) fun _ => ErrN.pure _) (ErrN.pure _)

theorem ErrN.fixed (z : Nat) : ErrN (fixedP z) := ErrN.bind (ErrN.name z) fun _ => ErrN.bind (ErrN.need _ _) fun _ => ErrN.bind (ErrN.value z) fun _ => ErrN.pure _
theorem ErrN.var (z : Nat) : ErrN (varP z) := ErrN.bind (ErrN.name z) fun _ => ErrN.bind (ErrN.name z) fun _ => ErrN.pure _
theorem ErrN.term (z : Nat) : ErrN (termP z) :=
 ErrN.bind (ErrN.name z) fun _ => ErrN.bind (ErrN.word _ _ _) fun _ => ErrN.bind (ErrN.ifP (ErrN.num z)) fun _ => ErrN.bind (ErrN.need _ _) fun _ => ErrN.bind (ErrN.num z) fun _ => ErrN.bind (ErrN.opt (ErrN.num z) (ErrN.pure _)) fun _ => ErrN.bind (ErrN.need _ _) fun _ => ErrN.bind (ErrN.num z) fun _ =>
  ErrN.bind (ErrN.opt (ErrN.num z) (ErrN.pure _)) fun _ => ErrN.bind (ErrN.need _ _) fun _ => ErrN.pure _

theorem ErrN.listA {α : Type} {sep : List UInt8} {one : PM α} (h : ErrN one) : ∀ (n : Nat) (acc : List α), ErrN (Go.Proofs.YtnmfanjhepepbaaGreatDoor.listA sep one n acc)
 | 0, _ => ErrN.pure _
 | n + 1, acc => ErrN.opt (ErrN.bind h fun _ => ErrN.listA h n _) (ErrN.pure _)

theorem ErrN.list {α : Type} {sep : List UInt8} {one : PM α} (h : ErrN one) : ErrN (listP sep one) := ErrN.bind h fun _ ts e o h' => ErrN.listA h _ _ ts e o h'
theorem ErrN.names (z : Nat) : ErrN (namesP z) := ErrN.list (ErrN.name z)
theorem ErrN.namesU (z : Nat) (s : List UInt8) : ErrN (Go.Proofs.YtnmfanjhepepbaaGreatDoor.namesU z s) := by
 intro ts e o h
 cases hb : seesB [s] ts with
 | true => rw [namesU_yes hb] at h; cases h
 | false => rw [namesU_no hb] at h; exact ErrN.names z _ _ _ h
theorem ErrN.conds (z : Nat) : ErrN (condsP z) := ErrN.bind (ErrN.need _ _) fun _ => ErrN.list (ErrN.cond z)
theorem ErrN.place (z : Nat) : ErrN (placeP z) := ErrN.bind (ErrN.name z) fun _ => ErrN.bind (ErrN.need _ _) fun _ => ErrN.bind (ErrN.name z) fun _ => ErrN.pure _
theorem ErrN.termsA (z : Nat) : ∀ (n : Nat) (acc : List Trm), ErrN (Go.Proofs.YtnmfanjhepepbaaGreatDoor.termsA z n acc)
 | 0, _ => ErrN.pure _
 | n + 1, acc => by
  intro ts e o h
  cases hb : seesB [[125]] ts with
  | true => rw [termsA_yes hb] at h; cases h
  | false => rw [termsA_no hb] at h; exact (ErrN.bind (ErrN.term z) fun _ => ErrN.termsA z n _) _ _ _ h

theorem ErrN.rest (z i off : Nat) (kids : List Ex) : ErrN (opRest z i off kids) := by
 match i with
 | 0 => exact ErrN.bind (ErrN.conds z) fun _ => ErrN.pure _
 | 1 => exact ErrN.bind (ErrN.need _ _) fun _ => ErrN.bind (ErrN.namesU _ _) fun _ => ErrN.pure _
 | 2 => exact ErrN.pure _
 | 3 => exact ErrN.pure _
 | 4 => exact ErrN.pure _
 | 5 => exact ErrN.bind (ErrN.need _ _) fun _ => ErrN.bind (ErrN.name z) fun _ => ErrN.bind (ErrN.need _ _) fun _ => ErrN.bind (ErrN.name z) fun _ => ErrN.pure _
 | 6 => exact ErrN.bind (ErrN.need _ _) fun _ => ErrN.bind (ErrN.namesU _ _) fun _ => ErrN.bind (ErrN.need _ _) fun _ => ErrN.bind (ErrN.word _ _ _) fun _ => ErrN.bind (ErrN.ifP (ErrN.name z)) fun _ => ErrN.bind (ErrN.need _ _) fun _ => ErrN.bind (ErrN.name z) fun _ => ErrN.pure _
 | n + 7 => exact ErrN.pure _

theorem ErrN.expr (z : Nat) : ∀ (n : Nat), ErrN (exprP z n)
 | 0 => ErrN.fail z 3 (by decide)
 | n + 1 => by
  intro ts e o h
  rw [exprP] at h
  cases ho : opIdx ts with
  | none =>
   simp only [ho] at h
   exact (ErrN.bind (ErrN.name z) fun _ => ErrN.pure _) _ _ _ h
  | some i =>
   simp only [ho] at h
   exact (ErrN.bind (ErrN.need _ _) fun _ => ErrN.bind (ErrN.expr z n) fun _ => ErrN.bind (ErrN.ifP (ErrN.bind (ErrN.need _ _) fun _ => ErrN.bind (ErrN.expr z n) fun _ => ErrN.pure _)) fun _ => ErrN.bind (ErrN.rest _ _ _ _) fun _ => ErrN.bind (ErrN.need _ _) fun _ => ErrN.pure _) _ _ _ h

theorem ErrN.ite {α : Type} {p : Prop} [Decidable p] {m n : PM α} (hm : ErrN m) (hn : ErrN n) : ErrN (if p then m else n) := by
 split
 ·exact hm
 ·exact hn

theorem ErrN.unique (z : Nat) (x : It) : ErrN (uniqueP z x) := ErrN.bind (ErrN.need _ _) fun _ => ErrN.bind (ErrN.name z) fun _ => ErrN.bind (ErrN.need _ _) fun _ => ErrN.bind (ErrN.names z) fun _ => ErrN.bind (ErrN.need _ _) fun _ => ErrN.pure _

theorem ErrN.part (z : Nat) (k : Int) (x : It) : ErrN (partP z k x) := by
 unfold partP
 refine ErrN.ite ?_ (ErrN.ite ?_ (ErrN.ite ?_ (ErrN.ite ?_ (ErrN.ite ?_ (ErrN.ite ?_ (ErrN.ite ?_ (ErrN.ite ?_ (ErrN.ite ?_ ?_))))))))
 ·exact ErrN.bind (ErrN.need _ _) fun _ => ErrN.bind (ErrN.list (ErrN.column z)) fun _ => ErrN.bind (ErrN.need _ _) fun _ => ErrN.bind (ErrN.names z) fun _ => ErrN.pure _
 ·exact ErrN.bind (ErrN.need _ _) fun _ => ErrN.bind (ErrN.num z) fun _ => ErrN.pure _
 ·exact ErrN.bind (ErrN.need _ _) fun _ => ErrN.bind (ErrN.place z) fun _ => ErrN.bind (ErrN.need _ _) fun _ => ErrN.bind (ErrN.word _ _ _) fun _ => ErrN.ite (ErrN.bind (ErrN.num z) fun _ => ErrN.pure _) (ErrN.ite (ErrN.bind (ErrN.num z) fun _ => ErrN.bind (ErrN.num z) fun _ => ErrN.pure _) (ErrN.pure _))
 ·exact ErrN.bind (ErrN.need _ _) fun _ => ErrN.bind (ErrN.name z) fun _ => ErrN.bind (ErrN.need _ _) fun _ => ErrN.bind (ErrN.num z) fun _ => ErrN.bind (ErrN.need _ _) fun _ => ErrN.bind (fun ts e o h => ErrN.termsA z _ _ ts e o h) fun _ => ErrN.pure _
 ·exact ErrN.bind (ErrN.place z) fun _ => ErrN.bind (ErrN.need _ _) fun _ => ErrN.bind (ErrN.word _ _ _) fun _ => ErrN.pure _
 ·exact ErrN.unique z x
 ·exact ErrN.bind (ErrN.unique z x) fun _ => ErrN.bind (ErrN.need _ _) fun _ => ErrN.bind (ErrN.name z) fun _ => ErrN.opt (ErrN.bind (ErrN.list (ErrN.fixed z)) fun _ => ErrN.pure _) (ErrN.pure _)
 ·exact ErrN.bind (ErrN.place z) fun _ => ErrN.bind (ErrN.need _ _) fun _ => ErrN.bind (ErrN.place z) fun _ => ErrN.pure _
 ·exact ErrN.bind (ErrN.list (ErrN.var z)) fun _ => ErrN.bind (ErrN.conds z) fun _ => ErrN.pure _
 ·exact ErrN.bind (ErrN.need _ _) fun _ => ErrN.bind (ErrN.expr z 12) fun _ => ErrN.pure _

end Go.Proofs.YtnmfanjhepepbaaGreatDoor
