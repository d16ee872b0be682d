/-
  What the parts of items leave as it was. Reading is local: what the plain parser makes of tokens hangs on the tokens that it reads and on the next one, and on their offsets only where a tree keeps them. Reading is local: expressions and items. The lists of a tree are no longer than its tokens. The parser's errors are never the number 0.
-/
import Derived.Test.YtnmfanjhepepbaaGreatDoorStructs
import Derived.Test.YtnmfanjhepepbaaGreatDoorMPc
set_option linter.all false
/- What the parts of items leave as it was. -/
namespace Go.Proofs.YtnmfanjhepepbaaGreatDoor
open Go

/-- What holds of every result. -/
def Post {α : Type} (m : PM α) (φ : α → Prop) : Prop := ∀ ts a r, m ts = .ok (a, r) → φ a

theorem post_pure {α : Type} {φ : α → Prop} {a : α} (h : φ a) : Post (pure a : PM α) φ := by
  intro ts x r e
  cases e
  exact h

theorem post_bind {α β : Type} {m : PM α} {f : α → PM β} {φ : β → Prop} (hf : ∀ a, Post (f a) φ) : Post (m >>= f) φ := by
  intro ts b r h
  cases hq : m ts with
  | error e => rw [PM.bind_err hq] at h; cases h
  | ok p =>
    obtain ⟨a, q⟩ := p
    rw [PM.bind_ok hq] at h
    exact hf a _ _ _ h

theorem post_from {α β : Type} {m : PM α} {f : α → PM β} {ψ : α → Prop} {φ : β → Prop} (hm : Post m ψ) (hf : ∀ a, ψ a → Post (f a) φ) : Post (m >>= f) φ := by
  intro ts b r h
  cases hq : m ts with
  | error e => rw [PM.bind_err hq] at h; cases h
  | ok p =>
    obtain ⟨a, q⟩ := p
    rw [PM.bind_ok hq] at h
    exact hf a (hm _ _ _ hq) _ _ _ h

theorem post_ite {α : Type} {p : Prop} [Decidable p] {m n : PM α} {φ : α → Prop} (hm : Post m φ) (hn : Post n φ) : Post (if p then m else n) φ := by
  split
  · exact hm
  · exact hn

/-- An item that is as it was, apart from what its part sets. -/
def Kept (x y : It) : Prop := y.kind = x.kind ∧ y.name = x.name ∧ y.off = x.off

theorem kept_unique (z : Nat) (x : It) : Post (uniqueP z x) (Kept x) := post_bind fun _ => post_bind fun _ => post_bind fun _ => post_bind fun _ => post_bind fun _ => post_pure ⟨rfl, rfl, rfl⟩

theorem kept_part (z : Nat) (k : Int) (x : It) : Post (partP z k x) (Kept x) := by
  unfold partP
  refine post_ite ?_ (post_ite ?_ (post_ite ?_ (post_ite ?_ (post_ite ?_ (post_ite ?_ (post_ite ?_ (post_ite ?_ (post_ite ?_ ?_))))))))
  · exact post_bind fun _ => post_bind fun _ => post_bind fun _ => post_bind fun _ => post_pure ⟨rfl, rfl, rfl⟩
  · exact post_bind fun _ => post_bind fun _ => post_pure ⟨rfl, rfl, rfl⟩
  · exact post_bind fun _ => post_bind fun _ => post_bind fun _ => post_bind fun _ => post_ite (post_bind fun _ => post_pure ⟨rfl, rfl, rfl⟩) (post_ite (post_bind fun _ => post_bind fun _ => post_pure ⟨rfl, rfl, rfl⟩) (post_pure ⟨rfl, rfl, rfl⟩))
  · exact post_bind fun _ => post_bind fun _ => post_bind fun _ => post_bind fun _ => post_bind fun _ => post_bind fun _ => post_pure ⟨rfl, rfl, rfl⟩
  · exact post_bind fun _ => post_bind fun _ => post_bind fun _ => post_pure ⟨rfl, rfl, rfl⟩
  · exact kept_unique z x
  · refine post_from (kept_unique z x) fun y hy => post_bind fun _ => post_bind fun _ => post_bind fun _ => post_ite (post_bind fun _ => post_pure ?_) (post_pure ?_)
    · exact hy
    · exact hy
  · exact post_bind fun _ => post_bind fun _ => post_bind fun _ => post_pure ⟨rfl, rfl, rfl⟩
  · exact post_bind fun _ => post_bind fun _ => post_pure ⟨rfl, rfl, rfl⟩
  · exact post_bind fun _ => post_bind fun _ => post_pure ⟨rfl, rfl, rfl⟩

/- READINGS THAT LEAVE AT MOST AS MANY TOKENS -/
theorem Dec.lit (z : Nat) : Dec (litE z) :=
  Dec.opt (Dec.bind (Dec.num z) fun _ => Dec.pure _) (Dec.opt (Dec.bind (Dec.num z) fun _ => Dec.pure _) (Dec.opt (Dec.pure _) (Dec.opt (Dec.pure _) (Dec.opt (Dec.pure _) (Dec.pure _)))))

theorem Dec.literal (z : Nat) : Dec (literalP z) := by
  intro ts a r h
  cases ts with
  | nil => cases h; exact Nat.le_refl _
  | cons t q =>
    unfold literalP at h
    dsimp only at h
    split at h
    · cases h; simp
    · split at h
      · cases h; simp
      · exact Dec.lit z _ _ _ h

theorem Dec.value (z : Nat) : Dec (valueP z) := Dec.bind (Dec.literal z) fun o => by cases o <;> first | exact Dec.fail _ _ | exact Dec.pure _

theorem Dec.side (z : Nat) : Dec (sideP z) := Dec.bind (Dec.literal z) fun o => by
  cases o with
  | some v => exact Dec.pure _
  | none => exact Dec.bind (Dec.name z) fun _ => Dec.opt (Dec.bind (Dec.name z) fun _ => Dec.pure _) (Dec.pure _)

theorem Dec.cond (z : Nat) : Dec (condP z) :=
  Dec.bind (Dec.side z) fun _ => Dec.bind (Dec.word _ _ _) fun _ => Dec.bind (Dec.side z) fun _ => Dec.opt (Dec.bind (Dec.num z) fun _ => Dec.pure _) (Dec.opt (Dec.bind (Dec.num z) fun _ => Dec.pure _) (Dec.pure _))

theorem Dec.column (z : Nat) : Dec (columnP z) :=
  Dec.bind (Dec.name z) fun _ => Dec.bind (Dec.word _ _ _) fun _ => Dec.opt (Dec.bind (Dec.value z) fun _ => Dec.pure _) (Dec.pure _)

theorem Dec.fixed (z : Nat) : Dec (fixedP z) := Dec.bind (Dec.name z) fun _ => Dec.bind (Dec.need _ _) fun _ => Dec.bind (Dec.value z) fun _ => Dec.pure _
theorem Dec.var (z : Nat) : Dec (varP z) := Dec.bind (Dec.name z) fun _ => Dec.bind (Dec.name z) fun _ => Dec.pure _
theorem Dec.term (z : Nat) : Dec (termP z) := fun _ _ _ h => by have := termP_lt h; omega

theorem Dec.listA {α : Type} {sep : List UInt8} {one : PM α} (h : Dec one) : ∀ (n : Nat) (acc : List α), Dec (Go.Proofs.YtnmfanjhepepbaaGreatDoor.listA sep one n acc)
  | 0, _ => Dec.pure _
  | n + 1, acc => Dec.opt (Dec.bind h fun _ => Dec.listA h n _) (Dec.pure _)

theorem Dec.list {α : Type} {sep : List UInt8} {one : PM α} (h : Dec one) : Dec (listP sep one) := Dec.bind h fun _ ts a r e => Dec.listA h _ _ ts a r e
theorem Dec.names (z : Nat) : Dec (namesP z) := Dec.list (Dec.name z)
theorem Dec.namesU (z : Nat) (s : List UInt8) : Dec (Go.Proofs.YtnmfanjhepepbaaGreatDoor.namesU z s) := by
  intro ts a r h
  cases hb : seesB [s] ts with
  | true => rw [namesU_yes hb] at h; cases h; exact Nat.le_refl _
  | false => rw [namesU_no hb] at h; exact Dec.names z _ _ _ h
theorem Dec.conds (z : Nat) : Dec (condsP z) := Dec.bind (Dec.need _ _) fun _ => Dec.list (Dec.cond z)
theorem Dec.place (z : Nat) : Dec (placeP z) := Dec.bind (Dec.name z) fun _ => Dec.bind (Dec.need _ _) fun _ => Dec.bind (Dec.name z) fun _ => Dec.pure _
theorem Dec.termsA (z : Nat) : ∀ (n : Nat) (acc : List Trm), Dec (Go.Proofs.YtnmfanjhepepbaaGreatDoor.termsA z n acc)
  | 0, _ => Dec.pure _
  | n + 1, acc => by
    intro ts a r h
    cases hb : seesB [[125]] ts with
    | true => rw [termsA_yes hb] at h; cases h; exact Nat.le_refl _
    | false => rw [termsA_no hb] at h; exact (Dec.bind (Dec.term z) fun _ => Dec.termsA z n _) _ _ _ h

theorem Dec.rest (z i off : Nat) (kids : List Ex) : Dec (opRest z i off kids) := by
  match i with
  | 0 => exact Dec.bind (Dec.conds z) fun _ => Dec.pure _
  | 1 => exact Dec.bind (Dec.need _ _) fun _ => Dec.bind (Dec.namesU _ _) fun _ => Dec.pure _
  | 2 => exact Dec.pure _
  | 3 => exact Dec.pure _
  | 4 => exact Dec.pure _
  | 5 => exact Dec.bind (Dec.need _ _) fun _ => Dec.bind (Dec.name z) fun _ => Dec.bind (Dec.need _ _) fun _ => Dec.bind (Dec.name z) fun _ => Dec.pure _
  | 6 => exact Dec.bind (Dec.need _ _) fun _ => Dec.bind (Dec.namesU _ _) fun _ => Dec.bind (Dec.need _ _) fun _ => Dec.bind (Dec.word _ _ _) fun _ => Dec.bind (Dec.ifP (Dec.name z)) fun _ => Dec.bind (Dec.need _ _) fun _ => Dec.bind (Dec.name z) fun _ => Dec.pure _
  | n + 7 => exact Dec.pure _

theorem Dec.expr (z : Nat) : ∀ (n : Nat), Dec (exprP z n)
  | 0 => Dec.fail z 3
  | n + 1 => by
    intro ts a r h
    rw [exprP] at h
    cases ho : opIdx ts with
    | none =>
      simp only [ho] at h
      exact (Dec.bind (Dec.name z) fun _ => Dec.pure _) _ _ _ h
    | some i =>
      simp only [ho] at h
      exact (Dec.bind (Dec.need _ _) fun _ => Dec.bind (Dec.expr z n) fun _ => Dec.bind (Dec.ifP (Dec.bind (Dec.need _ _) fun _ => Dec.bind (Dec.expr z n) fun _ => Dec.pure _)) fun _ => Dec.bind (Dec.rest _ _ _ _) fun _ => Dec.bind (Dec.need _ _) fun _ => Dec.pure _) _ _ _ h

theorem Dec.ite {α : Type} {p : Prop} [Decidable p] {m n : PM α} (hm : Dec m) (hn : Dec n) : Dec (if p then m else n) := by
  split
  · exact hm
  · exact hn

theorem Dec.unique (z : Nat) (x : It) : Dec (uniqueP z x) := Dec.bind (Dec.need _ _) fun _ => Dec.bind (Dec.name z) fun _ => Dec.bind (Dec.need _ _) fun _ => Dec.bind (Dec.names z) fun _ => Dec.bind (Dec.need _ _) fun _ => Dec.pure _

theorem Dec.part (z : Nat) (k : Int) (x : It) : Dec (partP z k x) := by
  unfold partP
  refine Dec.ite ?_ (Dec.ite ?_ (Dec.ite ?_ (Dec.ite ?_ (Dec.ite ?_ (Dec.ite ?_ (Dec.ite ?_ (Dec.ite ?_ (Dec.ite ?_ ?_))))))))
  · exact Dec.bind (Dec.need _ _) fun _ => Dec.bind (Dec.list (Dec.column z)) fun _ => Dec.bind (Dec.need _ _) fun _ => Dec.bind (Dec.names z) fun _ => Dec.pure _
  · exact Dec.bind (Dec.need _ _) fun _ => Dec.bind (Dec.num z) fun _ => Dec.pure _
  · exact Dec.bind (Dec.need _ _) fun _ => Dec.bind (Dec.place z) fun _ => Dec.bind (Dec.need _ _) fun _ => Dec.bind (Dec.word _ _ _) fun _ => Dec.ite (Dec.bind (Dec.num z) fun _ => Dec.pure _) (Dec.ite (Dec.bind (Dec.num z) fun _ => Dec.bind (Dec.num z) fun _ => Dec.pure _) (Dec.pure _))
  · exact Dec.bind (Dec.need _ _) fun _ => Dec.bind (Dec.name z) fun _ => Dec.bind (Dec.need _ _) fun _ => Dec.bind (Dec.num z) fun _ => Dec.bind (Dec.need _ _) fun _ => Dec.bind (fun ts a r e => Dec.termsA z _ _ ts a r e) fun _ => Dec.pure _
  · exact Dec.bind (Dec.place z) fun _ => Dec.bind (Dec.need _ _) fun _ => Dec.bind (Dec.word _ _ _) fun _ => Dec.pure _
  · exact Dec.unique z x
  · exact Dec.bind (Dec.unique z x) fun _ => Dec.bind (Dec.need _ _) fun _ => Dec.bind (Dec.name z) fun _ => Dec.opt (Dec.bind (Dec.list (Dec.fixed z)) fun _ => Dec.pure _) (Dec.pure _)
  · exact Dec.bind (Dec.place z) fun _ => Dec.bind (Dec.need _ _) fun _ => Dec.bind (Dec.place z) fun _ => Dec.pure _
  · exact Dec.bind (Dec.list (Dec.var z)) fun _ => Dec.bind (Dec.conds z) fun _ => Dec.pure _
  · exact Dec.bind (Dec.need _ _) fun _ => Dec.bind (Dec.expr z 12) fun _ => Dec.pure _

end Go.Proofs.YtnmfanjhepepbaaGreatDoor

/- Reading is local: what the plain parser makes of tokens hangs on the tokens that it reads and on the next one, and on their offsets only where a tree keeps them. -/
namespace Go.Proofs.YtnmfanjhepepbaaGreatDoor
open Go

/-- A symbol is no word. -/
def TW (t : Tok) : Prop := t.kind = 4 → ∀ c, t.text[0]? = some c → letterB c = false
def TWs (ts : List Tok) : Prop := ∀ t ∈ ts, TW t

theorem TWs.left {a b : List Tok} (h : TWs (a ++ b)) : TWs a := fun t ht => h t (List.mem_append_left _ ht)
theorem TWs.right {a b : List Tok} (h : TWs (a ++ b)) : TWs b := fun t ht => h t (List.mem_append_right _ ht)
theorem TWs.append {a b : List Tok} (h : TWs a) (k : TWs b) : TWs (a ++ b) := fun t ht => (List.mem_append.1 ht).elim (h t) (k t)
/-- Tokens as the lexer makes them. -/
def LW (ts : List Tok) : Prop := TWs ts ∧ ts.Pairwise fun a b => a.off ≠ b.off

theorem LW.right {a b : List Tok} (h : LW (a ++ b)) : LW b := ⟨fun t ht => h.1 t (List.mem_append_right _ ht), (List.pairwise_append.1 h.2).2.1⟩
theorem LW.left {a b : List Tok} (h : LW (a ++ b)) : LW a := ⟨fun t ht => h.1 t (List.mem_append_left _ ht), (List.pairwise_append.1 h.2).1⟩
theorem LW.tail {t : Tok} {b : List Tok} (h : LW (t :: b)) : LW b := LW.right (a := [t]) h

theorem LW.same {p p' r r' : List Tok} {t t' : Tok} (h : LW (p ++ t :: r)) (e : p ++ t :: r = p' ++ t' :: r') (ho : t.off = t'.off) : p = p' ∧ t = t' ∧ r = r' := by
  induction p generalizing p' with
  | nil =>
    cases p' with
    | nil => simp at e; exact ⟨rfl, e.1, e.2⟩
    | cons x p' =>
      simp only [List.nil_append, List.cons_append, List.cons.injEq] at e
      obtain ⟨rfl, rfl⟩ := e
      have := h.2
      simp only [List.nil_append, List.pairwise_cons] at this
      exact absurd ho (this.1 t' (by simp))
  | cons y p ih =>
    cases p' with
    | nil =>
      simp only [List.nil_append, List.cons_append, List.cons.injEq] at e
      obtain ⟨rfl, rfl⟩ := e
      have := h.2
      simp only [List.cons_append, List.pairwise_cons] at this
      exact absurd ho.symm (this.1 t (by simp))
    | cons x p' =>
      simp only [List.cons_append, List.cons.injEq] at e
      obtain ⟨rfl, e⟩ := e
      obtain ⟨rfl, h2⟩ := ih (LW.tail h) e
      exact ⟨rfl, h2⟩

theorem TWs.tail {t : Tok} {b : List Tok} (h : TWs (t :: b)) : TWs b := fun x hx => h x (List.mem_cons_of_mem _ hx)

/-- Tokens that are alike, with offsets that are related. -/
def tokQ (Q : Nat → Nat → Prop) (t t' : Tok) : Prop := t.kind = t'.kind ∧ t.text = t'.text ∧ t.num = t'.num ∧ Q t.off t'.off

inductive TE (Q : Nat → Nat → Prop) : List Tok → List Tok → Prop
  | nil : TE Q [] []
  | cons {t t' : Tok} {ts ts' : List Tok} : tokQ Q t t' → TE Q ts ts' → TE Q (t :: ts) (t' :: ts')

def HE (Q : Nat → Nat → Prop) : List Tok → List Tok → Prop
  | [], [] => True
  | t :: _, t' :: _ => tokQ Q t t'
  | _, _ => False

section
variable {Q : Nat → Nat → Prop}

theorem TE.he {a b : List Tok} (h : TE Q a b) : HE Q a b := by
  cases h with
  | nil => trivial
  | cons h _ => exact h

theorem TE.app {a a' b b' : List Tok} (h : TE Q a a') (k : TE Q b b') : TE Q (a ++ b) (a' ++ b') := by
  induction h with
  | nil => exact k
  | cons h _ ih => exact .cons h ih

theorem TE.split {a b c' : List Tok} (h : TE Q (a ++ b) c') : ∃ a' b', c' = a' ++ b' ∧ TE Q a a' ∧ TE Q b b' := by
  induction a generalizing c' with
  | nil => exact ⟨[], c', rfl, .nil, h⟩
  | cons t a ih =>
    cases h with
    | cons h1 h2 =>
      obtain ⟨a', b', rfl, h3, h4⟩ := ih h2
      exact ⟨_ :: a', b', rfl, .cons h1 h3, h4⟩

theorem TE.len {a b : List Tok} (h : TE Q a b) : a.length = b.length := by
  induction h with
  | nil => rfl
  | cons _ _ ih => simp [ih]

theorem TE.get {a b : List Tok} (h : TE Q a b) {k : Nat} {t : Tok} (ht : a[k]? = some t) : ∃ t', b[k]? = some t' ∧ tokQ Q t t' := by
  induction h generalizing k with
  | nil => simp at ht
  | cons h1 _ ih => cases k with
    | zero => simp only [List.getElem?_cons_zero, Option.some.injEq] at ht; subst ht; exact ⟨_, rfl, h1⟩
    | succ k => simp only [List.getElem?_cons_succ] at ht ⊢; exact ih ht

theorem TE.refl (hq : ∀ n, Q n n) : ∀ (a : List Tok), TE Q a a
  | [] => .nil
  | _ :: a => .cons ⟨rfl, rfl, rfl, hq _⟩ (TE.refl hq a)

theorem HE.append {p p' r r' : List Tok} (h : TE Q p p') (k : HE Q r r') : HE Q (p ++ r) (p' ++ r') := by
  cases h with
  | nil => exact k
  | cons h _ => exact h

theorem HE.cons {t t' : Tok} {r r' : List Tok} (h : tokQ Q t t') : HE Q (t :: r) (t' :: r') := h

theorem HE.nil_left {r' : List Tok} (h : HE Q [] r') : r' = [] := by
  cases r' with
  | nil => rfl
  | cons => exact h.elim

theorem HE.cons_left {t : Tok} {r r' : List Tok} (h : HE Q (t :: r) r') : ∃ t' q, r' = t' :: q ∧ tokQ Q t t' := by
  cases r' with
  | nil => exact h.elim
  | cons t' q => exact ⟨t', q, rfl, h⟩

theorem wordB_eq {t t' : Tok} (h : tokQ Q t t') (s : List UInt8) : wordB t s = wordB t' s := by
  obtain ⟨h1, h2, _⟩ := h
  unfold wordB
  rw [h1, h2]

theorem sees1_eq {r r' : List Tok} (h : HE Q r r') (s : List UInt8) : seesB [s] r = seesB [s] r' := by
  cases r with
  | nil => rw [h.nil_left]
  | cons t r =>
    obtain ⟨t', q, rfl, ht⟩ := h.cons_left
    simp only [seesB, wordB_eq ht]

/-- Two readings that are alike: m of some tokens, m' of tokens that are alike as far as m reads, and one further. -/
structure Par {α β : Type} (Q : Nat → Nat → Prop) (R : α → β → Prop) (m : Nat → PM α) (m' : Nat → PM β) : Prop where
  ok : ∀ z ts a r, LW ts → m z ts = .ok (a, r) → ∃ p, ts = p ++ r ∧ ∀ z' p' r', TWs p' → TWs r' → TE Q p p' → HE Q r r' → ∃ a', m' z' (p' ++ r') = .ok (a', r') ∧ R a a'
  err : ∀ z ts e o, LW ts → m z ts = .error (e, o) →
    (e = 7 ∧ o = z ∧ ∀ z' ts', TWs ts' → TE Q ts ts' → m' z' ts' = .error (7, z')) ∨
    (e ≠ 7 ∧ ∃ p t r, ts = p ++ t :: r ∧ o = t.off ∧ ∀ z' p' t' r', TWs p' → TW t' → TWs r' → TE Q p p' → tokQ Q t t' → m' z' (p' ++ t' :: r') = .error (e, t'.off))

theorem par_pure {α β : Type} {R : α → β → Prop} {a : α} {b : β} (h : R a b) : Par Q R (fun _ => (pure a : PM α)) (fun _ => (pure b : PM β)) where
  ok z ts a' r _ hm := by
    cases hm
    refine ⟨[], rfl, fun z' p' r' _ _ hp _ => ?_⟩
    cases hp
    exact ⟨b, rfl, h⟩
  err z ts e o _ hm := by cases hm

class QT (Q : Nat → Nat → Prop) : Prop where
  tot : ∀ n, ∃ n', Q n n'
  zero : Q 0 0

instance : QT Eq := ⟨fun n => ⟨n, rfl⟩, rfl⟩
instance : QT fun _ _ => True := ⟨fun n => ⟨n, trivial⟩, trivial⟩

theorem TE.partner [hq : QT Q] : ∀ {a : List Tok}, TWs a → ∃ a', TE Q a a' ∧ TWs a'
  | [], _ => ⟨[], .nil, fun _ h => by cases h⟩
  | t :: a, h => by
    obtain ⟨a', h1, h2⟩ := TE.partner h.tail
    obtain ⟨n, hn⟩ := hq.tot t.off
    refine ⟨⟨t.kind, t.text, t.num, n⟩ :: a', .cons ⟨rfl, rfl, rfl, hn⟩ h1, fun x hx => ?_⟩
    rcases List.mem_cons.1 hx with rfl | hx
    · exact h t (by simp)
    · exact h2 x hx

theorem par_bind {α β γ δ : Type} [QT Q] {R : α → β → Prop} {S : γ → δ → Prop} {m : Nat → PM α} {m' : Nat → PM β} {f : Nat → α → PM γ} {f' : Nat → β → PM δ} (hm : Par Q R m m') (hf : ∀ a b, R a b → Par Q S (fun z => f z a) (fun z => f' z b)) :
    Par Q S (fun z => m z >>= f z) (fun z => m' z >>= f' z) where
  ok z ts c r htw h := by
    cases h1 : m z ts with
    | error e => rw [PM.bind_err h1] at h; cases h
    | ok x =>
      obtain ⟨a, r1⟩ := x
      rw [PM.bind_ok h1] at h
      obtain ⟨p1, rfl, k1⟩ := hm.ok z ts a r1 htw h1
      obtain ⟨b, hb⟩ : ∃ b, R a b := by
        obtain ⟨p', e1, w1⟩ := TE.partner (Q := Q) htw.left.1
        obtain ⟨r', e2, w2⟩ := TE.partner (Q := Q) htw.right.1
        obtain ⟨b, _, hb⟩ := k1 z p' r' w1 w2 e1 e2.he
        exact ⟨b, hb⟩
      obtain ⟨p2, rfl, _⟩ := (hf a b hb).ok z r1 c r htw.right h
      refine ⟨p1 ++ p2, by simp, fun z' p' r' hp' hr' hp hr => ?_⟩
      obtain ⟨q1, q2, rfl, hq1, hq2⟩ := hp.split
      obtain ⟨a', e1, ra⟩ := k1 z' q1 (q2 ++ r') hp'.left (hp'.right.append hr') hq1 (HE.append hq2 hr)
      obtain ⟨p3, e3, k3⟩ := (hf a a' ra).ok z _ c r htw.right h
      have : p3 = p2 := (List.append_cancel_right e3).symm
      subst this
      obtain ⟨c', e2, rc⟩ := k3 z' q2 r' hp'.right hr' hq2 hr
      exact ⟨c', by rw [List.append_assoc, PM.bind_ok e1, e2], rc⟩
  err z ts e o htw h := by
    cases h1 : m z ts with
    | error y =>
      rw [PM.bind_err h1] at h
      injection h with h
      subst h
      rcases hm.err z ts e o htw h1 with ⟨he, ho, k⟩ | ⟨he, p, t, r, hts, ho, k⟩
      · exact .inl ⟨he, ho, fun z' ts' hw ht => PM.bind_err (k z' ts' hw ht)⟩
      · exact .inr ⟨he, p, t, r, hts, ho, fun z' p' t' r' a1 a2 a3 a4 a5 => PM.bind_err (k z' p' t' r' a1 a2 a3 a4 a5)⟩
    | ok x =>
      obtain ⟨a, r1⟩ := x
      rw [PM.bind_ok h1] at h
      obtain ⟨p1, rfl, k1⟩ := hm.ok z ts a r1 htw h1
      obtain ⟨b, hb⟩ : ∃ b, R a b := by
        obtain ⟨p', e1, w1⟩ := TE.partner (Q := Q) htw.left.1
        obtain ⟨r', e2, w2⟩ := TE.partner (Q := Q) htw.right.1
        obtain ⟨b, _, hb⟩ := k1 z p' r' w1 w2 e1 e2.he
        exact ⟨b, hb⟩
      rcases (hf a b hb).err z r1 e o htw.right h with ⟨he, ho, _⟩ | ⟨he, p, t, r, rfl, ho, _⟩
      · refine .inl ⟨he, ho, fun z' ts' hw ht => ?_⟩
        obtain ⟨q1, q2, rfl, hq1, hq2⟩ := ht.split
        obtain ⟨a', e1, ra⟩ := k1 z' q1 q2 hw.left hw.right hq1 hq2.he
        rw [PM.bind_ok e1]
        rcases (hf a a' ra).err z r1 e o htw.right h with ⟨_, _, k⟩ | ⟨he', _⟩
        · exact k z' q2 hw.right hq2
        · exact absurd he he'
      · refine .inr ⟨he, p1 ++ p, t, r, by simp, ho, fun z' p' t' r' a1 a2 a3 a4 a5 => ?_⟩
        obtain ⟨q1, q2, rfl, hq1, hq2⟩ := a4.split
        obtain ⟨a', e1, ra⟩ := k1 z' q1 (q2 ++ t' :: r') a1.left (a1.right.append (fun x hx => (List.mem_cons.1 hx).elim (fun e => e ▸ a2) (a3 x))) hq1 (HE.append hq2 (HE.cons a5))
        rw [List.append_assoc, PM.bind_ok e1]
        rcases (hf a a' ra).err z _ e o htw.right h with ⟨he', _⟩ | ⟨_, p3, t3, r3, e3, ho3, k⟩
        · exact absurd he' he
        · obtain ⟨rfl, rfl, rfl⟩ := htw.right.same e3 (ho.symm.trans ho3)
          exact k z' q2 t' r' a1.right a2 a3 hq2 a5

/- READINGS OF ONE TOKEN -/
theorem TWs.cons {t : Tok} {ts : List Tok} (k : TWs ts) (h : TW t) : TWs (t :: ts) := fun x hx => (List.mem_cons.1 hx).elim (fun e => e ▸ h) (k x)

theorem par_fail {α β : Type} {R : α → β → Prop} (e : Int) (he : e ≠ 7) : Par Q R (fun z => failP z e) (fun z => failP z e) where
  ok z ts a r _ h := by cases h
  err z ts e' o _ h := by
    injection h with h
    cases ts with
    | nil =>
      injection h with h1 h2
      subst h1 h2
      refine .inl ⟨rfl, rfl, fun z' ts' _ ht => ?_⟩
      cases ht
      rfl
    | cons t r =>
      injection h with h1 h2
      subst h1 h2
      refine .inr ⟨he, [], t, r, rfl, rfl, fun z' p' t' r' _ _ _ hp _ => ?_⟩
      cases hp
      rfl

theorem par_take (s : List UInt8) : Par Q Eq (fun _ => takeB s) (fun _ => takeB s) where
  ok z ts a r _ h := by
    cases hb : seesB [s] ts with
    | false =>
      rw [takeB_no hb] at h
      injection h with h
      injection h with h1 h2
      subst h1 h2
      refine ⟨[], rfl, fun z' p' r' _ _ hp hr => ⟨false, ?_, rfl⟩⟩
      cases hp
      exact takeB_no ((sees1_eq hr s).symm.trans hb)
    | true =>
      rw [takeB_yes hb] at h
      injection h with h
      injection h with h1 h2
      subst h1 h2
      cases ts with
      | nil => cases hb
      | cons t r =>
        refine ⟨[t], rfl, fun z' p' r' _ _ hp hr => ⟨true, ?_, rfl⟩⟩
        cases hp with
        | cons h1 h2 =>
          cases h2
          exact takeB_yes ((sees1_eq (HE.cons h1) s).symm.trans hb)
  err z ts e o _ h := by
    unfold takeB at h
    split at h <;> cases h

theorem par_kind (k : Int) : Par Q (tokQ Q) (fun z => kindP z k) (fun z => kindP z k) where
  ok z ts a r _ h := by
    cases ts with
    | nil => cases h
    | cons t q =>
      unfold kindP at h
      simp only at h
      split at h
      · rename_i hkd
        injection h with h
        injection h with h1 h2
        subst h1 h2
        refine ⟨[t], rfl, fun z' p' r' _ _ hp hr => ?_⟩
        cases hp with
        | @cons _ t' _ _ h1 h2 =>
          cases h2
          refine ⟨t', ?_, h1⟩
          unfold kindP
          simp only [List.cons_append, List.nil_append]
          rw [if_pos (h1.1 ▸ hkd)]
      · cases h
  err z ts e o _ h := by
    cases ts with
    | nil =>
      injection h with h
      injection h with h1 h2
      subst h1 h2
      refine .inl ⟨rfl, rfl, fun z' ts' _ ht => ?_⟩
      cases ht
      rfl
    | cons t q =>
      unfold kindP at h
      simp only at h
      split at h
      · cases h
      · rename_i hkd
        injection h with h
        injection h with h1 h2
        subst h1 h2
        refine .inr ⟨by decide, [], t, q, rfl, rfl, fun z' p' t' r' _ _ _ hp ht => ?_⟩
        cases hp
        unfold kindP
        simp only [List.nil_append]
        rw [if_neg (fun e => hkd (ht.1.trans e))]

theorem par_name [QT Q] : Par Q Eq (fun z => nameP z) (fun z => nameP z) :=
  par_bind (f := fun _ t => pure t.text) (f' := fun _ t => pure t.text) (par_kind 1) fun _ _ h => par_pure h.2.1
theorem par_num [QT Q] : Par Q Eq (fun z => numP z) (fun z => numP z) :=
  par_bind (f := fun _ t => pure t.num) (f' := fun _ t => pure t.num) (par_kind 2) fun _ _ h => par_pure h.2.2.1

theorem par_ite {α β : Type} {R : α → β → Prop} {m n : Nat → PM α} {m' n' : Nat → PM β} {p : Prop} [Decidable p] (hm : Par Q R m m') (hn : Par Q R n n') : Par Q R (fun z => if p then m z else n z) (fun z => if p then m' z else n' z) := by
  by_cases h : p
  · simp only [if_pos h]; exact hm
  · simp only [if_neg h]; exact hn

/-- Two readings of nothing. -/
structure Par0 {α β : Type} (R : α → β → Prop) (m : Nat → PM α) (m' : Nat → PM β) : Prop where
  ok : ∀ z a r, m z [] = .ok (a, r) → r = [] ∧ ∀ z', ∃ a', m' z' [] = .ok (a', []) ∧ R a a'
  err : ∀ z e o, m z [] = .error (e, o) → e = 7 ∧ o = z ∧ ∀ z', m' z' [] = .error (7, z')

theorem LW.nil : LW [] := ⟨(fun _ h => by cases h), .nil⟩

theorem par_zero {α β : Type} {R : α → β → Prop} {m : Nat → PM α} {m' : Nat → PM β} (h : Par Q R m m') : Par0 R m m' where
  ok z a r hm := by
    obtain ⟨p, e, k⟩ := h.ok z [] a r LW.nil hm
    obtain ⟨rfl, rfl⟩ := List.append_eq_nil_iff.1 e.symm
    exact ⟨rfl, fun z' => k z' [] [] LW.nil.1 LW.nil.1 .nil trivial⟩
  err z e o hm := by
    rcases h.err z [] e o LW.nil hm with ⟨he, ho, k⟩ | ⟨_, p, t, r, e1, _⟩
    · exact ⟨he, ho, fun z' => k z' [] LW.nil.1 .nil⟩
    · exact absurd e1.symm (by simp)

/-- What hangs on the next token. -/
theorem par_head {α β : Type} [hq : QT Q] {R : α → β → Prop} {g : Option Tok → Nat → PM α} {g' : Option Tok → Nat → PM β} (h0 : Par0 R (g none) (g' none)) (h1 : ∀ t t', tokQ Q t t' → Par Q R (g (some t)) (g' (some t'))) :
    Par Q R (fun z ts => g ts.head? z ts) (fun z ts => g' ts.head? z ts) where
  ok z ts a r htw h := by
    cases ts with
    | nil =>
      obtain ⟨rfl, k⟩ := h0.ok z a r h
      refine ⟨[], rfl, fun z' p' r' a1 a2 a3 a4 => ?_⟩
      cases a3
      obtain rfl := a4.nil_left
      exact k z'
    | cons t q =>
      obtain ⟨n, hn⟩ := hq.tot t.off
      obtain ⟨p, e, _⟩ := (h1 t ⟨t.kind, t.text, t.num, n⟩ ⟨rfl, rfl, rfl, hn⟩).ok z _ a r htw h
      refine ⟨p, e, fun z' p' r' a1 a2 a3 a4 => ?_⟩
      have hh : HE Q (t :: q) (p' ++ r') := by rw [e]; exact HE.append a3 a4
      obtain ⟨t', q', e', ht⟩ := hh.cons_left
      obtain ⟨p1, e1, k⟩ := (h1 t t' ht).ok z _ a r htw h
      have : p1 = p := List.append_cancel_right (e1.symm.trans e)
      subst this
      obtain ⟨a', ea, ra⟩ := k z' p' r' a1 a2 a3 a4
      refine ⟨a', ?_, ra⟩
      show g' (p' ++ r').head? z' (p' ++ r') = _
      rw [show (p' ++ r').head? = some t' by rw [e']; rfl]
      exact ea
  err z ts e o htw h := by
    cases ts with
    | nil =>
      obtain ⟨he, ho, k⟩ := h0.err z e o h
      refine .inl ⟨he, ho, fun z' ts' a1 a2 => ?_⟩
      cases a2
      exact k z'
    | cons t q =>
      obtain ⟨n, hn⟩ := hq.tot t.off
      rcases (h1 t ⟨t.kind, t.text, t.num, n⟩ ⟨rfl, rfl, rfl, hn⟩).err z _ e o htw h with ⟨he, ho, _⟩ | ⟨he, p, t1, r, e1, ho, _⟩
      · refine .inl ⟨he, ho, fun z' ts' a1 a2 => ?_⟩
        obtain ⟨t', q', rfl, ht⟩ := a2.he.cons_left
        rcases (h1 t t' ht).err z _ e o htw h with ⟨_, _, k⟩ | ⟨he', _⟩
        · exact k z' _ a1 a2
        · exact absurd he he'
      · refine .inr ⟨he, p, t1, r, e1, ho, fun z' p' t' r' a1 a2 a3 a4 a5 => ?_⟩
        have hh : HE Q (t :: q) (p' ++ t' :: r') := by rw [e1]; exact HE.append a4 (HE.cons a5)
        obtain ⟨t2, q', e', ht⟩ := hh.cons_left
        rcases (h1 t t2 ht).err z _ e o htw h with ⟨he', _⟩ | ⟨_, p3, t3, r3, e3, ho3, k⟩
        · exact absurd he' he
        · obtain ⟨rfl, rfl, rfl⟩ := (e1 ▸ htw : LW (p ++ t1 :: r)).same (e1.symm.trans e3) (ho.symm.trans ho3)
          have := k z' p' t' r' a1 a2 a3 a4 a5
          show g' (p' ++ t' :: r').head? z' (p' ++ t' :: r') = _
          rw [show (p' ++ t' :: r').head? = some t2 by rw [e']; rfl]
          exact this

def headB (s : List UInt8) : Option Tok → Bool
  | none => false
  | some t => wordB t s

theorem seesB_head (s : List UInt8) (ts : List Tok) : seesB [s] ts = headB s ts.head? := by
  cases ts with
  | nil => rfl
  | cons t r => simp [seesB, headB]

theorem par_sees {α β : Type} [QT Q] {R : α → β → Prop} {s : List UInt8} {m n : Nat → PM α} {m' n' : Nat → PM β} (hm : Par Q R m m') (hn : Par Q R n n') :
    Par Q R (fun z ts => if seesB [s] ts = true then m z ts else n z ts) (fun z ts => if seesB [s] ts = true then m' z ts else n' z ts) := by
  have := par_head (Q := Q) (R := R) (g := fun o z ts => if headB s o = true then m z ts else n z ts) (g' := fun o z ts => if headB s o = true then m' z ts else n' z ts)
    (by simpa [headB] using (par_zero hn)) (fun t t' ht => by
      show Par Q R (fun z ts => if wordB t s = true then m z ts else n z ts) (fun z ts => if wordB t' s = true then m' z ts else n' z ts)
      have e := wordB_eq ht s
      by_cases hw : wordB t' s = true
      · simp only [if_pos hw, if_pos (e.trans hw)]; exact hm
      · simp only [if_neg hw, if_neg (fun k => hw (e.symm.trans k))]; exact hn)
  simpa only [seesB_head] using this

theorem par_need1 [QT Q] (s : List UInt8) : Par Q Eq (fun z => need1 z s) (fun z => need1 z s) :=
  par_bind (f := fun z b => if b = true then pure () else failP z 4) (f' := fun z b => if b = true then pure () else failP z 4) (par_take s) fun a b h => by
    subst h
    exact par_ite (par_pure rfl) (par_fail 4 (by decide))

theorem par_need [QT Q] : ∀ (ss : List (List UInt8)), Par Q Eq (fun z => needP z ss) (fun z => needP z ss)
  | [] => par_pure rfl
  | s :: r => par_bind (f := fun z _ => needP z r) (f' := fun z _ => needP z r) (par_need1 s) fun _ _ _ => par_need r

theorem par_word [QT Q] : ∀ (ss : List (List UInt8)) (i : Int), Par Q Eq (fun z => wordP z ss i) (fun z => wordP z ss i)
  | [], _ => par_fail 4 (by decide)
  | s :: r, i => par_bind (f := fun z b => if b = true then pure i else wordP z r (i + 1)) (f' := fun z b => if b = true then pure i else wordP z r (i + 1)) (par_take s) fun a b h => by
    subst h
    exact par_ite (par_pure rfl) (par_word r (i + 1))

theorem par_ifP [QT Q] {α : Type} {c : Bool} {m : Nat → PM α} {d : α} (h : Par Q Eq m m) : Par Q Eq (fun z => ifP c (m z) d) (fun z => ifP c (m z) d) := by
  unfold ifP
  exact par_ite h (par_pure rfl)

/-- Fuel that is enough. -/
theorem par_fuel {α β : Type} {R : α → β → Prop} {g : Nat → Nat → PM α} {g' : Nat → Nat → PM β} (h : ∀ n, Par Q R (g n) (g' n)) (he : ∀ z ts n m, ts.length < n → ts.length < m → g n z ts = g m z ts) (he' : ∀ z ts n m, ts.length < n → ts.length < m → g' n z ts = g' m z ts) :
    Par Q R (fun z ts => g (ts.length + 1) z ts) (fun z ts => g' (ts.length + 1) z ts) where
  ok z ts a r htw hm := by
    obtain ⟨p, e, k⟩ := (h (ts.length + 1)).ok z ts a r htw hm
    refine ⟨p, e, fun z' p' r' a1 a2 a3 a4 => ?_⟩
    let N := ts.length + (p' ++ r').length + 1
    have hm' : g N z ts = .ok (a, r) := (he z ts N (ts.length + 1) (by omega) (by omega)).trans hm
    obtain ⟨p1, e1, k1⟩ := (h N).ok z ts a r htw hm'
    have : p1 = p := List.append_cancel_right (e1.symm.trans e)
    subst this
    obtain ⟨a', ea, ra⟩ := k1 z' p' r' a1 a2 a3 a4
    exact ⟨a', (he' z' _ _ N (by omega) (by omega)).trans ea, ra⟩
  err z ts e o htw hm := by
    rcases (h (ts.length + 1)).err z ts e o htw hm with ⟨h1, h2, _⟩ | ⟨h1, p, t, r, e1, ho, _⟩
    · refine .inl ⟨h1, h2, fun z' ts' a1 a2 => ?_⟩
      let N := ts.length + ts'.length + 1
      have hm' : g N z ts = .error (e, o) := (he z ts N (ts.length + 1) (by omega) (by omega)).trans hm
      rcases (h N).err z ts e o htw hm' with ⟨_, _, k⟩ | ⟨h1', _⟩
      · exact (he' z' _ _ N (by omega) (by omega)).trans (k z' ts' a1 a2)
      · exact absurd h1 h1'
    · refine .inr ⟨h1, p, t, r, e1, ho, fun z' p' t' r' a1 a2 a3 a4 a5 => ?_⟩
      let N := ts.length + (p' ++ t' :: r').length + 1
      have hm' : g N z ts = .error (e, o) := (he z ts N (ts.length + 1) (by omega) (by omega)).trans hm
      rcases (h N).err z ts e o htw hm' with ⟨h1', _⟩ | ⟨_, p3, t3, r3, e3, ho3, k⟩
      · exact absurd h1' h1
      · obtain ⟨rfl, rfl, rfl⟩ := (e1 ▸ htw : LW (p ++ t :: r)).same (e1.symm.trans e3) (ho.symm.trans ho3)
        exact (he' z' _ _ N (by omega) (by omega)).trans (k z' p' t' r' a1 a2 a3 a4 a5)

/- LISTS -/
theorem listA_fuel {α : Type} {sep : List UInt8} {one : PM α} (hd : Dec one) : ∀ (n m : Nat) (acc : List α) (ts : List Tok), ts.length < n → ts.length < m → listA sep one n acc ts = listA sep one m acc ts
  | 0, _, _, _, h, _ => absurd h (Nat.not_lt_zero _)
  | _ + 1, 0, _, _, _, h => absurd h (Nat.not_lt_zero _)
  | n + 1, m + 1, acc, ts, h1, h2 => by
    cases hq : takeB sep ts with
    | error e => exact absurd hq (takeB_ok _ _ _)
    | ok x =>
      obtain ⟨b, r⟩ := x
      cases b with
      | false => rw [listA_no hq, listA_no hq]
      | true =>
        rw [listA_yes hq, listA_yes hq]
        have hl := takeB_lt hq
        cases h3 : one r with
        | error e => rw [PM.bind_err h3, PM.bind_err h3]
        | ok y =>
          obtain ⟨a, q⟩ := y
          have := hd _ _ _ h3
          rw [PM.bind_ok h3, PM.bind_ok h3]
          exact listA_fuel hd n m _ q (by omega) (by omega)

theorem par_listA [QT Q] {α : Type} {sep : List UInt8} {one : Nat → PM α} (h : Par Q Eq one one) : ∀ (n : Nat) (acc : List α), Par Q Eq (fun z => listA sep (one z) n acc) (fun z => listA sep (one z) n acc)
  | 0, _ => par_pure rfl
  | n + 1, acc => par_bind (f := fun z b => if b = true then one z >>= fun a => listA sep (one z) n (acc ++ [a]) else pure acc) (f' := fun z b => if b = true then one z >>= fun a => listA sep (one z) n (acc ++ [a]) else pure acc) (par_take sep) fun a b hab => by
    subst hab
    exact par_ite (par_bind (f := fun z a => listA sep (one z) n (acc ++ [a])) (f' := fun z a => listA sep (one z) n (acc ++ [a])) h fun x y hxy => by subst hxy; exact par_listA h n _) (par_pure rfl)

theorem par_list [QT Q] {α : Type} {sep : List UInt8} {one : Nat → PM α} (h : Par Q Eq one one) (hd : ∀ z, Dec (one z)) : Par Q Eq (fun z => listP sep (one z)) (fun z => listP sep (one z)) :=
  par_bind (f := fun z a ts => listA sep (one z) (ts.length + 1) [a] ts) (f' := fun z a ts => listA sep (one z) (ts.length + 1) [a] ts) h fun a b hab => by
    subst hab
    exact par_fuel (g := fun n z => listA sep (one z) n [a]) (g' := fun n z => listA sep (one z) n [a]) (fun n => par_listA h n _) (fun z ts n m => listA_fuel (hd z) n m _ ts) (fun z ts n m => listA_fuel (hd z) n m _ ts)

theorem par_names [QT Q] : Par Q Eq (fun z => namesP z) (fun z => namesP z) := par_list par_name fun z => Dec.name z

theorem par_namesU [QT Q] (s : List UInt8) : Par Q Eq (fun z => namesU z s) (fun z => namesU z s) :=
  par_sees (s := s) (m := fun _ => pure []) (m' := fun _ => pure []) (par_pure rfl) par_names

/-- If a word is next. -/
theorem par_opt [QT Q] {α β : Type} {R : α → β → Prop} (s : List UInt8) {m n : Nat → PM α} {m' n' : Nat → PM β} (hm : Par Q R m m') (hn : Par Q R n n') :
    Par Q R (fun z => takeB s >>= fun b => if b = true then m z else n z) (fun z => takeB s >>= fun b => if b = true then m' z else n' z) :=
  par_bind (f := fun z b => if b = true then m z else n z) (f' := fun z b => if b = true then m' z else n' z) (par_take s) fun a b h => by
    subst h
    exact par_ite hm hn

/-- A step whose result is the same on both sides. -/
theorem par_andq [QT Q] {α γ δ : Type} {S : γ → δ → Prop} {m m' : Nat → PM α} {f : Nat → α → PM γ} {f' : Nat → α → PM δ} (hm : Par Q Eq m m') (hf : ∀ a, Par Q S (fun z => f z a) (fun z => f' z a)) : Par Q S (fun z => m z >>= f z) (fun z => m' z >>= f' z) :=
  par_bind hm fun a b h => by subst h; exact hf a

theorem par_lit [QT Q] : Par Q Eq (fun z => litE z) (fun z => litE z) :=
  par_opt _ (par_andq par_num fun _ => par_pure rfl) (par_opt _ (par_andq par_num fun _ => par_pure rfl) (par_opt _ (par_pure rfl) (par_opt _ (par_pure rfl) (par_opt _ (par_pure rfl) (par_pure rfl)))))

def litT (k : Int) (z : Nat) : PM (Option Vl) := if k = 3 then kindP z 3 >>= fun t => pure (some ⟨1, 0, t.text⟩) else if k = 2 then kindP z 2 >>= fun t => pure (some ⟨2, t.num, []⟩) else litE z

def litG : Option Tok → Nat → PM (Option Vl)
  | none, _ => pure none
  | some t, z => litT t.kind z

theorem literal_head (z : Nat) (ts : List Tok) : literalP z ts = litG ts.head? z ts := by
  cases ts with
  | nil => rfl
  | cons t r =>
    unfold literalP litG litT
    dsimp only [List.head?_cons]
    split
    · rename_i h
      rw [PM.bind_ok (show kindP z 3 (t :: r) = .ok (t, r) from if_pos h)]
      rfl
    · split
      · rename_i h
        rw [PM.bind_ok (show kindP z 2 (t :: r) = .ok (t, r) from if_pos h)]
        rfl
      · rfl

theorem par_literal [QT Q] : Par Q Eq (fun z => literalP z) (fun z => literalP z) := by
  have := par_head (Q := Q) (R := Eq) (g := litG) (g' := litG) (par_zero (Q := Q) (par_pure rfl)) (fun t t' ht => by
    show Par Q Eq (litT t.kind) (litT t'.kind)
    rw [← ht.1]
    unfold litT
    exact par_ite (par_bind (S := Eq) (f := fun _ (t : Tok) => (pure (some ⟨1, 0, t.text⟩) : PM (Option Vl))) (f' := fun _ (t : Tok) => (pure (some ⟨1, 0, t.text⟩) : PM (Option Vl))) (par_kind 3) fun a b h => par_pure (by rw [h.2.1]))
      (par_ite (par_bind (S := Eq) (f := fun _ (t : Tok) => (pure (some ⟨2, t.num, []⟩) : PM (Option Vl))) (f' := fun _ (t : Tok) => (pure (some ⟨2, t.num, []⟩) : PM (Option Vl))) (par_kind 2) fun a b h => par_pure (by rw [h.2.2.1])) par_lit))
  have e : (fun z => literalP z) = fun z ts => litG ts.head? z ts := by funext z ts; exact literal_head z ts
  rw [e]
  exact this

def valT' (z : Nat) : Option Vl → PM Vl
  | some v => pure v
  | none => failP z 4

theorem par_value [QT Q] : Par Q Eq (fun z => valueP z) (fun z => valueP z) := by
  have e : (fun z => valueP z) = fun z => literalP z >>= valT' z := by
    funext z
    unfold valueP
    congr 1
  rw [e]
  refine par_andq par_literal fun o => ?_
  cases o with
  | some v => exact par_pure rfl
  | none => exact par_fail 4 (by decide)

def sideT (z : Nat) : Option Vl → PM Opd
  | some v => pure ⟨[], [], true, v⟩
  | none => nameP z >>= fun first => takeB [46] >>= fun b => if b = true then nameP z >>= fun a => pure ⟨first, a, false, vl0⟩ else pure ⟨[], first, false, vl0⟩

theorem par_side [QT Q] : Par Q Eq (fun z => sideP z) (fun z => sideP z) := by
  have e : (fun z => sideP z) = fun z => literalP z >>= sideT z := by
    funext z
    unfold sideP
    congr 1
  rw [e]
  refine par_andq par_literal fun o => ?_
  cases o with
  | some v => exact par_pure rfl
  | none => exact par_andq par_name fun first => par_opt _ (par_andq par_name fun _ => par_pure rfl) (par_pure rfl)

theorem par_cond [QT Q] : Par Q Eq (fun z => condP z) (fun z => condP z) :=
  par_andq par_side fun _ => par_andq (par_word _ _) fun _ => par_andq par_side fun _ => par_opt _ (par_andq par_num fun _ => par_pure rfl) (par_opt _ (par_andq par_num fun _ => par_pure rfl) (par_pure rfl))

theorem par_conds [QT Q] : Par Q Eq (fun z => condsP z) (fun z => condsP z) :=
  par_andq (par_need _) fun _ => par_list par_cond fun z => Dec.cond z

theorem par_column [QT Q] : Par Q Eq (fun z => columnP z) (fun z => columnP z) :=
  par_andq par_name fun _ => par_andq (par_word _ _) fun _ => par_opt _ (par_andq par_value fun _ => par_pure rfl) (par_pure rfl)

theorem par_term [QT Q] : Par Q Eq (fun z => termP z) (fun z => termP z) :=
  par_andq par_name fun _ => par_andq (par_word _ _) fun _ => par_andq (par_ifP par_num) fun _ => par_andq (par_need _) fun _ => par_andq par_num fun _ => par_andq (par_opt _ par_num (par_pure rfl)) fun _ =>
    par_andq (par_need _) fun _ => par_andq par_num fun _ => par_andq (par_opt _ par_num (par_pure rfl)) fun _ => par_andq (par_need _) fun _ => par_pure rfl

theorem par_place [QT Q] : Par Q Eq (fun z => placeP z) (fun z => placeP z) :=
  par_andq par_name fun _ => par_andq (par_need _) fun _ => par_andq par_name fun _ => par_pure rfl
theorem par_fixed [QT Q] : Par Q Eq (fun z => fixedP z) (fun z => fixedP z) :=
  par_andq par_name fun _ => par_andq (par_need _) fun _ => par_andq par_value fun _ => par_pure rfl
theorem par_var [QT Q] : Par Q Eq (fun z => varP z) (fun z => varP z) :=
  par_andq par_name fun _ => par_andq par_name fun _ => par_pure rfl

theorem termsA_fuel : ∀ (z n m : Nat) (acc : List Trm) (ts : List Tok), ts.length < n → ts.length < m → termsA z n acc ts = termsA z m acc ts
  | _, 0, _, _, _, h, _ => absurd h (Nat.not_lt_zero _)
  | _, _ + 1, 0, _, _, _, h => absurd h (Nat.not_lt_zero _)
  | z, n + 1, m + 1, acc, ts, h1, h2 => by
    cases hb : seesB [[125]] ts with
    | true => rw [termsA_yes hb, termsA_yes hb]
    | false =>
      rw [termsA_no hb, termsA_no hb]
      cases h3 : termP z ts with
      | error e => rw [PM.bind_err h3, PM.bind_err h3]
      | ok y =>
        obtain ⟨a, q⟩ := y
        have := termP_lt h3
        rw [PM.bind_ok h3, PM.bind_ok h3]
        exact termsA_fuel z n m _ q (by omega) (by omega)

theorem par_termsA [QT Q] : ∀ (n : Nat) (acc : List Trm), Par Q Eq (fun z => termsA z n acc) (fun z => termsA z n acc)
  | 0, _ => par_pure rfl
  | n + 1, acc => by
    have e : (fun z => termsA z (n + 1) acc) = fun z ts => if seesB [[125]] ts = true then (pure acc : PM (List Trm)) ts else (termP z >>= fun a => termsA z n (acc ++ [a])) ts := by
      funext z ts
      cases hb : seesB [[125]] ts with
      | true => rw [termsA_yes hb]; rfl
      | false => rw [termsA_no hb]; rfl
    rw [e]
    exact par_sees (m := fun _ => pure acc) (m' := fun _ => pure acc) (n := fun z => termP z >>= fun a => termsA z n (acc ++ [a])) (n' := fun z => termP z >>= fun a => termsA z n (acc ++ [a])) (par_pure rfl) (par_andq par_term fun _ => par_termsA n _)

theorem par_terms [QT Q] : Par Q Eq (fun z ts => termsA z (ts.length + 1) [] ts) (fun z ts => termsA z (ts.length + 1) [] ts) :=
  par_fuel (g := fun n z => termsA z n []) (g' := fun n z => termsA z n []) (fun n => par_termsA n _) (fun z ts n m => termsA_fuel z n m _ ts) (fun z ts n m => termsA_fuel z n m _ ts)

end
end Go.Proofs.YtnmfanjhepepbaaGreatDoor

/- Reading is local: expressions and items. -/
namespace Go.Proofs.YtnmfanjhepepbaaGreatDoor
open Go

mutual
/-- Expressions that are equal but for their offsets, which are related. -/
def ExQ (Q : Nat → Nat → Prop) : Ex → Ex → Prop
  | .mk k t ks c n a s g o, .mk k' t' ks' c' n' a' s' g' o' => k = k' ∧ t = t' ∧ c = c' ∧ n = n' ∧ a = a' ∧ s = s' ∧ g = g' ∧ Q o o' ∧ ExsQ Q ks ks'
def ExsQ (Q : Nat → Nat → Prop) : List Ex → List Ex → Prop
  | [], [] => True
  | x :: xs, y :: ys => ExQ Q x y ∧ ExsQ Q xs ys
  | _, _ => False
end

/-- Items that are equal but for their offsets, which are related. -/
def ItQ (Q : Nat → Nat → Prop) (x y : It) : Prop := ∃ o' e', y = { x with off := o', expr := e' } ∧ Q x.off o' ∧ ExQ Q x.expr e'

section
variable {Q : Nat → Nat → Prop}

theorem opIdx_eq {t t' : Tok} {r r' : List Tok} (h : tokQ Q t t') (k : HE Q r r') : opIdx (t :: r) = opIdx (t' :: r') := by
  unfold opIdx
  congr 1
  funext i
  simp only [seesB.eq_3]
  rw [wordB_eq h]
  have := sees1_eq k [40]
  rw [this]

theorem opIdx_is {ts : List Tok} {i : Nat} (h : opIdx ts = some i) : i < 7 ∧ ∃ t t2 q, ts = t :: t2 :: q ∧ wordB t (opNames.getD i []) = true ∧ wordB t2 [40] = true := by
  unfold opIdx at h
  have h1 := List.find?_some h
  have h2 := List.mem_of_find?_eq_some h
  refine ⟨by simpa using h2, ?_⟩
  cases ts with
  | nil => cases h1
  | cons t r =>
    cases r with
    | nil => simp [seesB] at h1
    | cons t2 q =>
      refine ⟨t, t2, q, rfl, ?_⟩
      simpa [seesB, Bool.and_eq_true] using h1

theorem opNames_letter : ∀ i, i < 7 → ∃ c, (opNames.getD i [])[0]? = some c ∧ letterB c = true
  | 0, _ => ⟨_, rfl, by decide⟩
  | 1, _ => ⟨_, rfl, by decide⟩
  | 2, _ => ⟨_, rfl, by decide⟩
  | 3, _ => ⟨_, rfl, by decide⟩
  | 4, _ => ⟨_, rfl, by decide⟩
  | 5, _ => ⟨_, rfl, by decide⟩
  | 6, _ => ⟨_, rfl, by decide⟩
  | n + 7, h => absurd h (by omega)

theorem opIdx_kind {t : Tok} {r : List Tok} (ht : TW t) (hk : t.kind ≠ 1) : opIdx (t :: r) = none := by
  cases h : opIdx (t :: r) with
  | none => rfl
  | some i =>
    obtain ⟨hi, t1, t2, q, e, hw, _⟩ := opIdx_is h
    cases e
    obtain ⟨hx, hk'⟩ := of_decide_eq_true hw
    obtain ⟨c, hc, hl⟩ := opNames_letter i hi
    rcases hk' with hk' | hk'
    · exact absurd hk' hk
    · rw [← hx] at hc
      rw [ht hk' c hc] at hl
      cases hl

/-- What follows an operation's name and parenthesis. -/
def exTail (i n off : Nat) (z : Nat) : PM Ex :=
  exprP z n >>= fun a => ifP (twoB i) (needP z [[44]] >>= fun _ => exprP z n >>= fun b => pure [a, b]) [a] >>= fun kids => opRest z i off kids >>= fun x => needP z [[41]] >>= fun _ => pure x

theorem exprP_tab {z n : Nat} {ts : List Tok} (h : opIdx ts = none) : exprP z (n + 1) ts = (nameP z >>= fun t => (pure (exTable (headOff ts) t) : PM Ex)) ts := by
  rw [exprP]
  simp only [h]

theorem exprP_op {z n : Nat} {t t2 : Tok} {q : List Tok} {i : Nat} (h : opIdx (t :: t2 :: q) = some i) (h1 : wordB t (opNames.getD i []) = true) (h2 : wordB t2 [40] = true) : exprP z (n + 1) (t :: t2 :: q) = exTail i n t.off z q := by
  rw [exprP]
  simp only [h]
  have e1 : need1 z (opNames.getD i []) (t :: t2 :: q) = .ok ((), t2 :: q) := need1_yes z (takeB_yes (ts := t :: t2 :: q) (by show (wordB t _ && true) = true; rw [h1]; rfl))
  have e2 : need1 z [40] (t2 :: q) = .ok ((), q) := need1_yes z (takeB_yes (ts := t2 :: q) (by show (wordB t2 _ && true) = true; rw [h2]; rfl))
  have e : needP z [opNames.getD i [], [40]] (t :: t2 :: q) = .ok ((), q) := by
    show (need1 z _ >>= fun _ => need1 z _ >>= fun _ => pure ()) _ = _
    rw [PM.bind_ok e1, PM.bind_ok e2]
    rfl
  show (needP z [opNames.getD i [], [40]] >>= fun _ => exTail i n t.off z) _ = _
  rw [PM.bind_ok e]

theorem ExsQ.one {a b : Ex} (h : ExQ Q a b) : ExsQ Q [a] [b] := ⟨h, trivial⟩

theorem par_rest [QT Q] (i : Nat) {off off' : Nat} (ho : Q off off') {kids kids' : List Ex} (hk : ExsQ Q kids kids') : Par Q (ExQ Q) (fun z => opRest z i off kids) (fun z => opRest z i off' kids') := by
  have mk : ∀ (k : Int) (t : List UInt8) (c : List Cnd) (n : List (List UInt8)) (a s : List UInt8) (g : Int), ExQ Q (.mk k t kids c n a s g off) (.mk k t kids' c n a s g off') := fun k t c n a s g => by
    rw [ExQ]; exact ⟨rfl, rfl, rfl, rfl, rfl, rfl, rfl, ho, hk⟩
  match i with
  | 0 => exact par_andq par_conds fun _ => par_pure (mk _ _ _ _ _ _ _)
  | 1 => exact par_andq (par_need _) fun _ => par_andq (par_namesU _) fun _ => par_pure (mk _ _ _ _ _ _ _)
  | 2 => exact par_pure (mk _ _ _ _ _ _ _)
  | 3 => exact par_pure (mk _ _ _ _ _ _ _)
  | 4 => exact par_pure (mk _ _ _ _ _ _ _)
  | 5 => exact par_andq (par_need _) fun _ => par_andq par_name fun _ => par_andq (par_need _) fun _ => par_andq par_name fun _ => par_pure (mk _ _ _ _ _ _ _)
  | 6 => exact par_andq (par_need _) fun _ => par_andq (par_namesU _) fun _ => par_andq (par_need _) fun _ => par_andq (par_word _ _) fun _ => par_andq (par_ifP par_name) fun _ => par_andq (par_need _) fun _ => par_andq par_name fun _ => par_pure (mk _ _ _ _ _ _ _)
  | n + 7 => exact par_pure (mk _ _ _ _ _ _ _)

theorem par_tail [QT Q] {i n : Nat} (ih : Par Q (ExQ Q) (fun z => exprP z n) (fun z => exprP z n)) {off off' : Nat} (ho : Q off off') : Par Q (ExQ Q) (fun z => exTail i n off z) (fun z => exTail i n off' z) := by
  refine par_bind (f := fun z a => ifP (twoB i) (needP z [[44]] >>= fun _ => exprP z n >>= fun b => pure [a, b]) [a] >>= fun kids => opRest z i off kids >>= fun x => needP z [[41]] >>= fun _ => pure x)
    (f' := fun z a => ifP (twoB i) (needP z [[44]] >>= fun _ => exprP z n >>= fun b => pure [a, b]) [a] >>= fun kids => opRest z i off' kids >>= fun x => needP z [[41]] >>= fun _ => pure x) ih fun a b hab => ?_
  refine par_bind (R := ExsQ Q) (f := fun z kids => opRest z i off kids >>= fun x => needP z [[41]] >>= fun _ => pure x) (f' := fun z kids => opRest z i off' kids >>= fun x => needP z [[41]] >>= fun _ => pure x) ?_ fun ks ks' hk => ?_
  · unfold ifP
    refine par_ite (par_andq (par_need _) fun _ => par_bind (f := fun z x => pure [a, x]) (f' := fun z x => pure [b, x]) ih fun x y hxy => par_pure ⟨hab, hxy, trivial⟩) (par_pure (ExsQ.one hab))
  · exact par_bind (f := fun z x => needP z [[41]] >>= fun _ => pure x) (f' := fun z x => needP z [[41]] >>= fun _ => pure x) (par_rest i ho hk) fun _ _ hxy => par_andq (par_need _) fun _ => par_pure hxy

theorem nameP_is {z : Nat} {ts : List Tok} {a : List UInt8} {r : List Tok} (h : nameP z ts = .ok (a, r)) : ∃ t, ts = t :: r ∧ t.kind = 1 ∧ a = t.text := by
  unfold nameP at h
  cases hq : kindP z 1 ts with
  | error e => rw [PM.bind_err hq] at h; cases h
  | ok p =>
    obtain ⟨t, q⟩ := p
    rw [PM.bind_ok hq] at h
    cases h
    cases ts with
    | nil => cases hq
    | cons x w =>
      unfold kindP at hq
      dsimp only at hq
      split at hq
      · cases hq
        rename_i hk
        exact ⟨t, rfl, hk, rfl⟩
      · cases hq

theorem nameP_of {z : Nat} {t : Tok} {r : List Tok} (h : t.kind = 1) : nameP z (t :: r) = .ok (t.text, r) := PM.bind_ok (show kindP z 1 (t :: r) = .ok (t, r) from if_pos h)
theorem nameP_not {z : Nat} {t : Tok} {r : List Tok} (h : t.kind ≠ 1) : nameP z (t :: r) = .error (4, t.off) := PM.bind_err (show kindP z 1 (t :: r) = .error (4, t.off) from if_neg h)

theorem par_expr [QT Q] : ∀ (n : Nat), Par Q (ExQ Q) (fun z => exprP z n) (fun z => exprP z n)
  | 0 => par_fail 3 (by decide)
  | n + 1 => by
    have hT : ∀ i {off off' : Nat}, Q off off' → Par Q (ExQ Q) (fun z => exTail i n off z) (fun z => exTail i n off' z) := fun i _ _ ho => par_tail (par_expr n) ho
    have part : ∀ o, ∃ o', Q o o' := QT.tot
    constructor
    · intro z ts a r htw h
      change exprP z (n + 1) ts = .ok (a, r) at h
      show ∃ p, ts = p ++ r ∧ ∀ z' p' r', TWs p' → TWs r' → TE Q p p' → HE Q r r' → ∃ a', exprP z' (n + 1) (p' ++ r') = .ok (a', r') ∧ ExQ Q a a'
      cases ho : opIdx ts with
      | none =>
        rw [exprP_tab ho] at h
        cases hq : nameP z ts with
        | error e => rw [PM.bind_err hq] at h; cases h
        | ok x =>
          obtain ⟨nm, q⟩ := x
          obtain ⟨t, rfl, hk, rfl⟩ := nameP_is hq
          rw [PM.bind_ok hq] at h
          cases h
          refine ⟨[t], rfl, fun z' p' r' a1 a2 a3 a4 => ?_⟩
          cases a3 with
          | @cons _ t' _ _ h1 h2 =>
            cases h2
            refine ⟨exTable t'.off t.text, ?_, ?_⟩
            · rw [List.cons_append, List.nil_append, exprP_tab ((opIdx_eq h1 a4).symm.trans ho), PM.bind_ok (nameP_of (h1.1 ▸ hk)), ← h1.2.1]
              rfl
            · unfold exTable
              rw [ExQ]
              exact ⟨rfl, rfl, rfl, rfl, rfl, rfl, rfl, h1.2.2.2, trivial⟩
      | some i =>
        obtain ⟨_, t, t2, q, rfl, w1, w2⟩ := opIdx_is ho
        rw [exprP_op ho w1 w2] at h
        obtain ⟨o', hoo⟩ := part t.off
        obtain ⟨p, rfl, _⟩ := (hT i hoo).ok z q a r htw.tail.tail h
        refine ⟨t :: t2 :: p, rfl, fun z' p' r' a1 a2 a3 a4 => ?_⟩
        cases a3 with
        | @cons _ t' _ _ h1 h2 => cases h2 with
          | @cons _ t2' _ p' h3 h4 =>
            obtain ⟨p1, e1, k⟩ := (hT i h1.2.2.2).ok z _ a r htw.tail.tail h
            have : p1 = p := List.append_cancel_right e1.symm
            subst this
            obtain ⟨a', ea, ra⟩ := k z' p' r' a1.tail.tail a2 h4 a4
            refine ⟨a', ?_, ra⟩
            rw [List.cons_append, List.cons_append, exprP_op ((opIdx_eq h1 (HE.cons h3)).symm.trans ho) ((wordB_eq h1 _).symm.trans w1) ((wordB_eq h3 _).symm.trans w2)]
            exact ea
    · intro z ts e o htw h
      change exprP z (n + 1) ts = .error (e, o) at h
      show (e = 7 ∧ o = z ∧ ∀ z' ts', TWs ts' → TE Q ts ts' → exprP z' (n + 1) ts' = .error (7, z')) ∨
        (e ≠ 7 ∧ ∃ p t r, ts = p ++ t :: r ∧ o = t.off ∧ ∀ z' p' t' r', TWs p' → TW t' → TWs r' → TE Q p p' → tokQ Q t t' → exprP z' (n + 1) (p' ++ t' :: r') = .error (e, t'.off))
      cases ho : opIdx ts with
      | none =>
        rw [exprP_tab ho] at h
        cases ts with
        | nil =>
          have : (e, o) = ((7 : Int), z) := by
            have h' : (Except.error ((7 : Int), z) : Except (Int × Nat) (Ex × List Tok)) = .error (e, o) := h
            injection h' with h'; exact h'.symm
          cases this
          refine .inl ⟨rfl, rfl, fun z' ts' _ ht => ?_⟩
          cases ht
          rfl
        | cons t q =>
          by_cases hk : t.kind = 1
          · rw [PM.bind_ok (nameP_of hk)] at h; cases h
          · rw [PM.bind_err (nameP_not hk)] at h
            cases h
            refine .inr ⟨by decide, [], t, q, rfl, rfl, fun z' p' t' r' _ ht _ hp hq => ?_⟩
            cases hp
            have hk' : t'.kind ≠ 1 := fun e => hk (hq.1.trans e)
            rw [List.nil_append, exprP_tab (opIdx_kind ht hk'), PM.bind_err (nameP_not hk')]
      | some i =>
        obtain ⟨_, t, t2, q, rfl, w1, w2⟩ := opIdx_is ho
        rw [exprP_op ho w1 w2] at h
        obtain ⟨o', hoo⟩ := part t.off
        rcases (hT i hoo).err z q e o htw.tail.tail h with ⟨he, hz, _⟩ | ⟨he, p, t3, r, rfl, hz, _⟩
        · refine .inl ⟨he, hz, fun z' ts' a1 a3 => ?_⟩
          cases a3 with
          | cons h1 h2 => cases h2 with
            | cons h3 h4 =>
              rcases (hT i h1.2.2.2).err z q e o htw.tail.tail h with ⟨_, _, k⟩ | ⟨he', _⟩
              · rw [exprP_op ((opIdx_eq h1 (HE.cons h3)).symm.trans ho) ((wordB_eq h1 _).symm.trans w1) ((wordB_eq h3 _).symm.trans w2)]
                exact k z' _ a1.tail.tail h4
              · exact absurd he he'
        · refine .inr ⟨he, t :: t2 :: p, t3, r, rfl, hz, fun z' p' t' r' a1 a2 a3 a4 a5 => ?_⟩
          cases a4 with
          | cons h1 h2 => cases h2 with
            | cons h3 h4 =>
              rcases (hT i h1.2.2.2).err z _ e o htw.tail.tail h with ⟨he', _⟩ | ⟨_, p5, t5, r5, e5, ho5, k⟩
              · exact absurd he' he
              · obtain ⟨rfl, rfl, rfl⟩ := htw.tail.tail.same e5 (hz.symm.trans ho5)
                rw [List.cons_append, List.cons_append, exprP_op ((opIdx_eq h1 (HE.cons h3)).symm.trans ho) ((wordB_eq h1 _).symm.trans w1) ((wordB_eq h3 _).symm.trans w2)]
                exact k z' _ t' r' a1.tail.tail a2 a3 h4 a5

/- ITEMS -/
theorem ItQ.same {x : It} {x' : It} (h : ItQ Q x x') (f : It → It) (hf : ∀ o e, f { x with off := o, expr := e } = { f x with off := o, expr := e }) (ho : (f x).off = x.off) (he : (f x).expr = x.expr) : ItQ Q (f x) (f x') := by
  obtain ⟨o', e', rfl, h1, h2⟩ := h
  exact ⟨o', e', hf _ _, ho ▸ h1, he ▸ h2⟩

theorem par_pureI {x x' : It} (h : ItQ Q x x') (f : It → It) (hf : ∀ o e, f { x with off := o, expr := e } = { f x with off := o, expr := e }) (ho : (f x).off = x.off) (he : (f x).expr = x.expr) : Par Q (ItQ Q) (fun _ => pure (f x)) (fun _ => pure (f x')) := par_pure (h.same f hf ho he)

variable [QT Q] {x x' : It} (h : ItQ Q x x')
include h

theorem par_tableI : Par Q (ItQ Q) (fun z => tableP z x) (fun z => tableP z x') :=
  par_andq (par_need _) fun _ => par_andq (par_list par_column fun z => Dec.column z) fun c => par_andq (par_need _) fun _ => par_andq par_names fun l =>
    par_pureI h (fun x => { x with cols := c, names := l }) (fun _ _ => rfl) rfl rfl
theorem par_sourceI : Par Q (ItQ Q) (fun z => sourceP z x) (fun z => sourceP z x') :=
  par_andq (par_need _) fun _ => par_andq par_num fun n => par_pureI h (fun x => { x with n := n }) (fun _ _ => rfl) rfl rfl
theorem par_blockI : Par Q (ItQ Q) (fun z => blockP z x) (fun z => blockP z x') :=
  par_andq (par_need _) fun _ => par_andq par_place fun p => par_andq (par_need _) fun _ => par_andq (par_word _ _) fun b => par_ite
    (par_andq par_num fun n => par_pureI h (fun x => { x with table := p.1, attr := p.2, by_ := b, n := n }) (fun _ _ => rfl) rfl rfl)
    (par_ite (par_andq par_num fun n => par_andq par_num fun m => par_pureI h (fun x => { x with table := p.1, attr := p.2, by_ := b, n := n, m := m }) (fun _ _ => rfl) rfl rfl)
      (par_pureI h (fun x => { x with table := p.1, attr := p.2, by_ := b }) (fun _ _ => rfl) rfl rfl))
theorem par_matchI : Par Q (ItQ Q) (fun z => matchP z x) (fun z => matchP z x') :=
  par_andq (par_need _) fun _ => par_andq par_name fun t => par_andq (par_need _) fun _ => par_andq par_num fun n => par_andq (par_need _) fun _ => par_andq par_terms fun l =>
    par_pureI h (fun x => { x with table := t, n := n, terms := l }) (fun _ _ => rfl) rfl rfl
theorem par_keepI : Par Q (ItQ Q) (fun z => keepP z x) (fun z => keepP z x') :=
  par_andq par_place fun p => par_andq (par_need _) fun _ => par_andq (par_word _ _) fun b => par_pureI h (fun x => { x with table := p.1, attr := p.2, by_ := b }) (fun _ _ => rfl) rfl rfl
theorem par_uniqueI : Par Q (ItQ Q) (fun z => uniqueP z x) (fun z => uniqueP z x') :=
  par_andq (par_need _) fun _ => par_andq par_name fun t => par_andq (par_need _) fun _ => par_andq par_names fun l => par_andq (par_need _) fun _ => par_pureI h (fun x => { x with table := t, names := l }) (fun _ _ => rfl) rfl rfl
theorem par_dependI : Par Q (ItQ Q) (fun z => dependP z x) (fun z => dependP z x') :=
  par_bind (f := fun z y => needP z [[116, 111]] >>= fun _ => nameP z >>= fun a => takeB [119, 104, 101, 114, 101] >>= fun b => if b = true then listP [44] (fixedP z) >>= fun f => pure { y with attr := a, fixed := f } else pure { y with attr := a })
    (f' := fun z y => needP z [[116, 111]] >>= fun _ => nameP z >>= fun a => takeB [119, 104, 101, 114, 101] >>= fun b => if b = true then listP [44] (fixedP z) >>= fun f => pure { y with attr := a, fixed := f } else pure { y with attr := a })
    (par_uniqueI h) fun y y' hy => par_andq (par_need _) fun _ => par_andq par_name fun a => par_opt _ (par_andq (par_list par_fixed fun z => Dec.fixed z) fun f => par_pureI hy (fun x => { x with attr := a, fixed := f }) (fun _ _ => rfl) rfl rfl)
      (par_pureI hy (fun x => { x with attr := a }) (fun _ _ => rfl) rfl rfl)
theorem par_includeI : Par Q (ItQ Q) (fun z => includeP z x) (fun z => includeP z x') :=
  par_andq par_place fun p => par_andq (par_need _) fun _ => par_andq par_place fun q => par_pureI h (fun x => { x with table := p.1, attr := p.2, other := q.1, oattr := q.2 }) (fun _ _ => rfl) rfl rfl
theorem par_denyI : Par Q (ItQ Q) (fun z => denyP z x) (fun z => denyP z x') :=
  par_andq (par_list par_var fun z => Dec.var z) fun v => par_andq par_conds fun c => par_pureI h (fun x => { x with vars := v, conds := c }) (fun _ _ => rfl) rfl rfl
theorem par_queryI : Par Q (ItQ Q) (fun z => queryP z x) (fun z => queryP z x') :=
  par_andq (par_need _) fun _ => par_bind (f := fun z e => pure { x with expr := e }) (f' := fun z e => pure { x' with expr := e }) (par_expr 12) fun a b hab => par_pure (by
    obtain ⟨o', e', rfl, h1, h2⟩ := h
    exact ⟨o', b, rfl, h1, hab⟩)

theorem par_partI (k : Int) : Par Q (ItQ Q) (fun z => partP z k x) (fun z => partP z k x') := by
  unfold partP
  exact par_ite (par_tableI h) (par_ite (par_sourceI h) (par_ite (par_blockI h) (par_ite (par_matchI h) (par_ite (par_keepI h) (par_ite (par_uniqueI h) (par_ite (par_dependI h) (par_ite (par_includeI h) (par_ite (par_denyI h) (par_queryI h)))))))))

end
end Go.Proofs.YtnmfanjhepepbaaGreatDoor

/- The lists of a tree are no longer than its tokens. -/
namespace Go.Proofs.YtnmfanjhepepbaaGreatDoor
open Go

/-- What holds of every result of at most N tokens. -/
def BPost {α : Type} (N : Nat) (m : PM α) (φ : α → Prop) : Prop := ∀ ts a r, ts.length ≤ N → m ts = .ok (a, r) → φ a

section
variable {N : Nat}

theorem bpost_pure {α : Type} {φ : α → Prop} {a : α} (h : φ a) : BPost N (pure a : PM α) φ := by
  intro ts x r _ e
  cases e
  exact h

theorem bpost_bind {α β : Type} {m : PM α} {f : α → PM β} {φ : β → Prop} (hd : Dec m) (hf : ∀ a, BPost N (f a) φ) : BPost N (m >>= f) φ := by
  intro ts b r hl h
  cases hq : m ts with
  | error e => rw [PM.bind_err hq] at h; cases h
  | ok p =>
    obtain ⟨a, q⟩ := p
    rw [PM.bind_ok hq] at h
    exact hf a _ _ _ (Nat.le_trans (hd _ _ _ hq) hl) h

theorem bpost_from {α β : Type} {m : PM α} {f : α → PM β} {ψ : α → Prop} {φ : β → Prop} (hd : Dec m) (hm : BPost N m ψ) (hf : ∀ a, ψ a → BPost N (f a) φ) : BPost N (m >>= f) φ := by
  intro ts b r hl h
  cases hq : m ts with
  | error e => rw [PM.bind_err hq] at h; cases h
  | ok p =>
    obtain ⟨a, q⟩ := p
    rw [PM.bind_ok hq] at h
    exact hf a (hm _ _ _ hl hq) _ _ _ (Nat.le_trans (hd _ _ _ hq) hl) h

theorem bpost_ite {α : Type} {p : Prop} [Decidable p] {m n : PM α} {φ : α → Prop} (hm : BPost N m φ) (hn : BPost N n φ) : BPost N (if p then m else n) φ := by
  split
  · exact hm
  · exact hn

theorem bpost_opt {α : Type} {s : List UInt8} {m n : PM α} {φ : α → Prop} (h1 : BPost N m φ) (h2 : BPost N n φ) : BPost N (takeB s >>= fun b => if b = true then m else n) φ :=
  bpost_bind (Dec.take s) fun b => by cases b <;> assumption

theorem listA_len {α : Type} {sep : List UInt8} {one : PM α} (hd : Dec one) : ∀ (n : Nat) (acc : List α) (ts : List Tok) (l : List α) (r : List Tok), listA sep one n acc ts = .ok (l, r) → l.length + r.length ≤ acc.length + ts.length
  | 0, acc, ts, l, r, h => by cases h; exact Nat.le_refl _
  | n + 1, acc, ts, l, r, h => by
    cases hq : takeB sep ts with
    | error e => exact absurd hq (takeB_ok _ _ _)
    | ok x =>
      obtain ⟨b, q⟩ := x
      cases b with
      | false => rw [listA_no hq] at h; cases h; have := takeB_same hq; subst this; exact Nat.le_refl _
      | true =>
        rw [listA_yes hq] at h
        have hl := takeB_lt hq
        cases h3 : one q with
        | error e => rw [PM.bind_err h3] at h; cases h
        | ok y =>
          obtain ⟨a, w⟩ := y
          have := hd _ _ _ h3
          rw [PM.bind_ok h3] at h
          have ih := listA_len hd n (acc ++ [a]) w l r h
          simp at ih
          omega

theorem bpost_list {α : Type} {sep : List UInt8} {one : PM α} (hd : Dec one) : BPost N (listP sep one) fun l => l.length ≤ N + 1 := by
  intro ts l r hl h
  cases h3 : one ts with
  | error e => exact absurd ((PM.bind_err (f := fun a => (fun ts => listA sep one (ts.length + 1) [a] ts : PM (List α))) h3).symm.trans h) (by simp)
  | ok y =>
    obtain ⟨a, w⟩ := y
    have := hd _ _ _ h3
    have h' := (PM.bind_ok (f := fun a => (fun ts => listA sep one (ts.length + 1) [a] ts : PM (List α))) h3).symm.trans h
    have := listA_len hd _ _ _ _ _ h'
    simp at this
    omega

theorem bpost_names (z : Nat) : BPost N (namesP z) fun l => l.length ≤ N + 1 := bpost_list (Dec.name z)
theorem bpost_namesU (z : Nat) (s : List UInt8) : BPost N (namesU z s) fun l => l.length ≤ N + 1 := by
  intro ts a r hl h
  cases hb : seesB [s] ts with
  | true => rw [namesU_yes hb] at h; cases h; simp
  | false => rw [namesU_no hb] at h; exact bpost_names z _ _ _ hl h
theorem bpost_conds (z : Nat) : BPost N (condsP z) fun l => l.length ≤ N + 1 := bpost_bind (Dec.need _ _) fun _ => bpost_list (Dec.cond z)

theorem termsA_len (z : Nat) : ∀ (n : Nat) (acc : List Trm) (ts : List Tok) (l : List Trm) (r : List Tok), termsA z n acc ts = .ok (l, r) → l.length + r.length ≤ acc.length + ts.length
  | 0, acc, ts, l, r, h => by cases h; exact Nat.le_refl _
  | n + 1, acc, ts, l, r, h => by
    cases hb : seesB [[125]] ts with
    | true => rw [termsA_yes hb] at h; cases h; exact Nat.le_refl _
    | false =>
      rw [termsA_no hb] at h
      cases h3 : termP z ts with
      | error e => rw [PM.bind_err h3] at h; cases h
      | ok y =>
        obtain ⟨a, w⟩ := y
        have := termP_lt h3
        rw [PM.bind_ok h3] at h
        have ih := termsA_len z n (acc ++ [a]) w l r h
        simp at ih
        omega

theorem bpost_terms (z : Nat) : BPost N (fun ts => termsA z (ts.length + 1) [] ts) fun l => l.length ≤ N + 1 := by
  intro ts l r hl h
  have := termsA_len z _ _ _ _ _ h
  simp at this
  omega

mutual
def ExB (N : Nat) : Ex → Prop
  | .mk _ _ ks c n _ _ _ _ => ks.length ≤ N ∧ c.length ≤ N ∧ n.length ≤ N ∧ ExsB N ks
def ExsB (N : Nat) : List Ex → Prop
  | [] => True
  | x :: xs => ExB N x ∧ ExsB N xs
end

/-- The lists of an item have at most N elements. -/
structure ItB (N : Nat) (x : It) : Prop where
  cols : x.cols.length ≤ N
  names : x.names.length ≤ N
  terms : x.terms.length ≤ N
  fixed : x.fixed.length ≤ N
  vars : x.vars.length ≤ N
  conds : x.conds.length ≤ N
  expr : ExB N x.expr

theorem exB_mk {k : Int} {t : List UInt8} {ks : List Ex} {c : List Cnd} {n : List (List UInt8)} {a s : List UInt8} {g : Int} {o : Nat} {M : Nat} (h1 : ks.length ≤ M) (h2 : c.length ≤ M) (h3 : n.length ≤ M) (h4 : ExsB M ks) : ExB M (.mk k t ks c n a s g o) := by
  rw [ExB]; exact ⟨h1, h2, h3, h4⟩

theorem bpost_rest (z i off : Nat) {kids : List Ex} (hk : kids.length ≤ 2) (hN : 1 ≤ N) (hks : ExsB (N + 1) kids) : BPost N (opRest z i off kids) (ExB (N + 1)) := by
  have h0 : kids.length ≤ N + 1 := by omega
  match i with
  | 0 => exact bpost_from (Dec.conds z) (bpost_conds z) fun c hc => bpost_pure (exB_mk h0 hc (by simp) hks)
  | 1 => exact bpost_bind (Dec.need _ _) fun _ => bpost_from (Dec.namesU _ _) (bpost_namesU _ _) fun l hl => bpost_pure (exB_mk h0 (by simp) hl hks)
  | 2 => exact bpost_pure (exB_mk h0 (by simp) (by simp) hks)
  | 3 => exact bpost_pure (exB_mk h0 (by simp) (by simp) hks)
  | 4 => exact bpost_pure (exB_mk h0 (by simp) (by simp) hks)
  | 5 => exact bpost_bind (Dec.need _ _) fun _ => bpost_bind (Dec.name z) fun _ => bpost_bind (Dec.need _ _) fun _ => bpost_bind (Dec.name z) fun _ => bpost_pure (exB_mk h0 (by simp) (by simp) hks)
  | 6 => exact bpost_bind (Dec.need _ _) fun _ => bpost_from (Dec.namesU _ _) (bpost_namesU _ _) fun l hl => bpost_bind (Dec.need _ _) fun _ => bpost_bind (Dec.word _ _ _) fun _ => bpost_bind (Dec.ifP (Dec.name z)) fun _ => bpost_bind (Dec.need _ _) fun _ => bpost_bind (Dec.name z) fun _ => bpost_pure (exB_mk h0 (by simp) hl hks)
  | n + 7 => exact bpost_pure (exB_mk h0 (by simp) (by simp) hks)

theorem bpost_expr (z : Nat) (hN : 1 ≤ N) : ∀ (n : Nat), BPost N (exprP z n) (ExB (N + 1))
  | 0 => fun ts a r _ h => by cases h
  | n + 1 => by
    intro ts a r hl h
    rw [exprP] at h
    cases ho : opIdx ts with
    | none =>
      simp only [ho] at h
      refine (bpost_bind (N := N) (φ := ExB (N + 1)) (Dec.name z) fun t => bpost_pure ?_) _ _ _ hl h
      exact exB_mk (by simp) (by simp) (by simp) trivial
    | some i =>
      simp only [ho] at h
      refine (bpost_bind (N := N) (φ := ExB (N + 1)) (Dec.need _ _) fun _ => bpost_from (ψ := ExB (N + 1)) (Dec.expr z n) (bpost_expr z hN n) fun a ha => ?_) _ _ _ hl h
      refine bpost_from (ψ := fun ks => ks.length ≤ 2 ∧ ExsB (N + 1) ks) (Dec.ifP (Dec.bind (Dec.need _ _) fun _ => Dec.bind (Dec.expr z n) fun _ => Dec.pure _)) ?_ fun ks hks => ?_
      · unfold ifP
        exact bpost_ite (bpost_bind (Dec.need _ _) fun _ => bpost_from (ψ := ExB (N + 1)) (Dec.expr z n) (bpost_expr z hN n) fun b hb => bpost_pure ⟨by simp, ha, hb, trivial⟩) (bpost_pure ⟨by simp, ha, trivial⟩)
      · exact bpost_from (Dec.rest _ _ _ _) (bpost_rest z i _ hks.1 hN hks.2) fun x hx => bpost_bind (Dec.need _ _) fun _ => bpost_pure hx

theorem bpost_unique (z : Nat) {x : It} (h : ItB (N + 1) x) : BPost N (uniqueP z x) (ItB (N + 1)) :=
  bpost_bind (Dec.need _ _) fun _ => bpost_bind (Dec.name z) fun _ => bpost_bind (Dec.need _ _) fun _ => bpost_from (Dec.names z) (bpost_names z) fun l hl => bpost_bind (Dec.need _ _) fun _ => bpost_pure { h with names := hl }

theorem bpost_part (z : Nat) (hN : 1 ≤ N) (k : Int) {x : It} (h : ItB (N + 1) x) : BPost N (partP z k x) (ItB (N + 1)) := by
  unfold partP
  refine bpost_ite ?_ (bpost_ite ?_ (bpost_ite ?_ (bpost_ite ?_ (bpost_ite ?_ (bpost_ite ?_ (bpost_ite ?_ (bpost_ite ?_ (bpost_ite ?_ ?_))))))))
  · exact bpost_bind (Dec.need _ _) fun _ => bpost_from (Dec.list (Dec.column z)) (bpost_list (Dec.column z)) fun c hc => bpost_bind (Dec.need _ _) fun _ => bpost_from (Dec.names z) (bpost_names z) fun l hl => bpost_pure { h with cols := hc, names := hl }
  · exact bpost_bind (Dec.need _ _) fun _ => bpost_bind (Dec.num z) fun _ => bpost_pure { h with }
  · exact bpost_bind (Dec.need _ _) fun _ => bpost_bind (Dec.place z) fun _ => bpost_bind (Dec.need _ _) fun _ => bpost_bind (Dec.word _ _ _) fun _ => bpost_ite (bpost_bind (Dec.num z) fun _ => bpost_pure { h with }) (bpost_ite (bpost_bind (Dec.num z) fun _ => bpost_bind (Dec.num z) fun _ => bpost_pure { h with }) (bpost_pure { h with }))
  · exact bpost_bind (Dec.need _ _) fun _ => bpost_bind (Dec.name z) fun _ => bpost_bind (Dec.need _ _) fun _ => bpost_bind (Dec.num z) fun _ => bpost_bind (Dec.need _ _) fun _ => bpost_from (fun ts a r e => Dec.termsA z _ _ ts a r e) (bpost_terms z) fun l hl => bpost_pure { h with terms := hl }
  · exact bpost_bind (Dec.place z) fun _ => bpost_bind (Dec.need _ _) fun _ => bpost_bind (Dec.word _ _ _) fun _ => bpost_pure { h with }
  · exact bpost_unique z h
  · exact bpost_from (Dec.unique z x) (bpost_unique z h) fun y hy => bpost_bind (Dec.need _ _) fun _ => bpost_bind (Dec.name z) fun _ => bpost_opt (bpost_from (Dec.list (Dec.fixed z)) (bpost_list (Dec.fixed z)) fun l hl => bpost_pure { hy with fixed := hl }) (bpost_pure { hy with })
  · exact bpost_bind (Dec.place z) fun _ => bpost_bind (Dec.need _ _) fun _ => bpost_bind (Dec.place z) fun _ => bpost_pure { h with }
  · exact bpost_from (Dec.list (Dec.var z)) (bpost_list (Dec.var z)) fun v hv => bpost_from (Dec.conds z) (bpost_conds z) fun c hc => bpost_pure { h with vars := hv, conds := hc }
  · exact bpost_bind (Dec.need _ _) fun _ => bpost_from (Dec.expr z 12) (bpost_expr z hN 12) fun x hx => bpost_pure { h with expr := hx }

end
end Go.Proofs.YtnmfanjhepepbaaGreatDoor

/- The parser's errors are never the number 0. -/
namespace Go.Proofs.YtnmfanjhepepbaaGreatDoor
open Go

def ErrN {α : Type} (m : PM α) : Prop := ∀ ts e o, m ts = .error (e, o) → e ≠ 0

theorem ErrN.pure {α : Type} (a : α) : ErrN (Pure.pure a : PM α) := by
  intro ts e o h
  cases h

theorem ErrN.bind {α β : Type} {m : PM α} {f : α → PM β} (hm : ErrN m) (hf : ∀ a, ErrN (f a)) : ErrN (m >>= f) := by
  intro ts e o h
  cases hq : m ts with
  | error y => rw [PM.bind_err hq] at h; cases h; exact hm _ _ _ hq
  | ok p =>
    obtain ⟨a, q⟩ := p
    rw [PM.bind_ok hq] at h
    exact hf a _ _ _ h

theorem ErrN.take (s : List UInt8) : ErrN (takeB s) := fun ts e o h => absurd h (takeB_ok _ _ _)

theorem stopE_ne (z : Nat) {e : Int} (he : e ≠ 0) (ts : List Tok) : (stopE z e ts).1 ≠ 0 := by
  cases ts with
  | nil => show (7 : Int) ≠ 0; decide
  | cons t r => exact he

theorem ErrN.fail {α : Type} (z : Nat) (e : Int) (he : e ≠ 0) : ErrN (failP z e : PM α) := by
  intro ts e' o h
  have h' : (Except.error (stopE z e ts) : Except (Int × Nat) (α × List Tok)) = .error (e', o) := h
  have := stopE_ne z he ts
  injection h' with h'
  rw [h'] at this
  exact this

theorem ErrN.kind (z : Nat) (k : Int) : ErrN (kindP z k) := by
  intro ts e o h
  cases ts with
  | nil => cases h; decide
  | cons t r =>
    unfold kindP at h
    dsimp only at h
    split at h
    · cases h
    · cases h; decide

theorem ErrN.name (z : Nat) : ErrN (nameP z) := ErrN.bind (ErrN.kind z 1) fun _ => ErrN.pure _
theorem ErrN.num (z : Nat) : ErrN (numP z) := ErrN.bind (ErrN.kind z 2) fun _ => ErrN.pure _

theorem ErrN.need : ∀ (z : Nat) (ss : List (List UInt8)), ErrN (needP z ss)
  | _, [] => ErrN.pure _
  | z, s :: ss => ErrN.bind (ErrN.bind (ErrN.take s) fun b => by cases b <;> first | exact ErrN.fail _ _ (by decide) | exact ErrN.pure _) fun _ => ErrN.need z ss

theorem ErrN.word : ∀ (z : Nat) (ss : List (List UInt8)) (i : Int), ErrN (wordP z ss i)
  | z, [], _ => ErrN.fail z 4 (by decide)
  | z, s :: ss, i => ErrN.bind (ErrN.take s) fun b => by cases b <;> first | exact ErrN.word z ss (i + 1) | exact ErrN.pure _

theorem ErrN.ifP {α : Type} {c : Bool} {m : PM α} {d : α} (h : ErrN m) : ErrN (ifP c m d) := by
  unfold Go.Proofs.YtnmfanjhepepbaaGreatDoor.ifP
  split
  · exact h
  · exact ErrN.pure _

theorem ErrN.opt {α : Type} {s : List UInt8} {m n : PM α} (h1 : ErrN m) (h2 : ErrN n) : ErrN (takeB s >>= fun b => if b = true then m else n) := ErrN.bind (ErrN.take s) fun b => by cases b <;> assumption

theorem ErrN.lit (z : Nat) : ErrN (litE z) :=
  ErrN.opt (ErrN.bind (ErrN.num z) fun _ => ErrN.pure _) (ErrN.opt (ErrN.bind (ErrN.num z) fun _ => ErrN.pure _) (ErrN.opt (ErrN.pure _) (ErrN.opt (ErrN.pure _) (ErrN.opt (ErrN.pure _) (ErrN.pure _)))))

theorem ErrN.literal (z : Nat) : ErrN (literalP z) := by
  intro ts e o h
  cases ts with
  | nil => cases h
  | cons t q =>
    unfold literalP at h
    dsimp only at h
    split at h
    · cases h
    · split at h
      · cases h
      · exact ErrN.lit z _ _ _ h

theorem ErrN.value (z : Nat) : ErrN (valueP z) := ErrN.bind (ErrN.literal z) fun o => by cases o <;> first | exact ErrN.fail _ _ (by decide) | exact ErrN.pure _

theorem ErrN.side (z : Nat) : ErrN (sideP z) := ErrN.bind (ErrN.literal z) fun o => by
  cases o with
  | some v => exact ErrN.pure _
  | none => exact ErrN.bind (ErrN.name z) fun _ => ErrN.opt (ErrN.bind (ErrN.name z) fun _ => ErrN.pure _) (ErrN.pure _)

theorem ErrN.cond (z : Nat) : ErrN (condP z) :=
  ErrN.bind (ErrN.side z) fun _ => ErrN.bind (ErrN.word _ _ _) fun _ => ErrN.bind (ErrN.side z) fun _ => ErrN.opt (ErrN.bind (ErrN.num z) fun _ => ErrN.pure _) (ErrN.opt (ErrN.bind (ErrN.num z) fun _ => ErrN.pure _) (ErrN.pure _))

theorem ErrN.column (z : Nat) : ErrN (columnP z) :=
  ErrN.bind (ErrN.name z) fun _ => ErrN.bind (ErrN.word _ _ _) fun _ => ErrN.opt (ErrN.bind (ErrN.value z) fun _ => ErrN.pure _) (ErrN.pure _)

theorem ErrN.fixed (z : Nat) : ErrN (fixedP z) := ErrN.bind (ErrN.name z) fun _ => ErrN.bind (ErrN.need _ _) fun _ => ErrN.bind (ErrN.value z) fun _ => ErrN.pure _
theorem ErrN.var (z : Nat) : ErrN (varP z) := ErrN.bind (ErrN.name z) fun _ => ErrN.bind (ErrN.name z) fun _ => ErrN.pure _
theorem ErrN.term (z : Nat) : ErrN (termP z) :=
  ErrN.bind (ErrN.name z) fun _ => ErrN.bind (ErrN.word _ _ _) fun _ => ErrN.bind (ErrN.ifP (ErrN.num z)) fun _ => ErrN.bind (ErrN.need _ _) fun _ => ErrN.bind (ErrN.num z) fun _ => ErrN.bind (ErrN.opt (ErrN.num z) (ErrN.pure _)) fun _ => ErrN.bind (ErrN.need _ _) fun _ => ErrN.bind (ErrN.num z) fun _ =>
    ErrN.bind (ErrN.opt (ErrN.num z) (ErrN.pure _)) fun _ => ErrN.bind (ErrN.need _ _) fun _ => ErrN.pure _

theorem ErrN.listA {α : Type} {sep : List UInt8} {one : PM α} (h : ErrN one) : ∀ (n : Nat) (acc : List α), ErrN (Go.Proofs.YtnmfanjhepepbaaGreatDoor.listA sep one n acc)
  | 0, _ => ErrN.pure _
  | n + 1, acc => ErrN.opt (ErrN.bind h fun _ => ErrN.listA h n _) (ErrN.pure _)

theorem ErrN.list {α : Type} {sep : List UInt8} {one : PM α} (h : ErrN one) : ErrN (listP sep one) := ErrN.bind h fun _ ts e o h' => ErrN.listA h _ _ ts e o h'
theorem ErrN.names (z : Nat) : ErrN (namesP z) := ErrN.list (ErrN.name z)
theorem ErrN.namesU (z : Nat) (s : List UInt8) : ErrN (Go.Proofs.YtnmfanjhepepbaaGreatDoor.namesU z s) := by
  intro ts e o h
  cases hb : seesB [s] ts with
  | true => rw [namesU_yes hb] at h; cases h
  | false => rw [namesU_no hb] at h; exact ErrN.names z _ _ _ h
theorem ErrN.conds (z : Nat) : ErrN (condsP z) := ErrN.bind (ErrN.need _ _) fun _ => ErrN.list (ErrN.cond z)
theorem ErrN.place (z : Nat) : ErrN (placeP z) := ErrN.bind (ErrN.name z) fun _ => ErrN.bind (ErrN.need _ _) fun _ => ErrN.bind (ErrN.name z) fun _ => ErrN.pure _
theorem ErrN.termsA (z : Nat) : ∀ (n : Nat) (acc : List Trm), ErrN (Go.Proofs.YtnmfanjhepepbaaGreatDoor.termsA z n acc)
  | 0, _ => ErrN.pure _
  | n + 1, acc => by
    intro ts e o h
    cases hb : seesB [[125]] ts with
    | true => rw [termsA_yes hb] at h; cases h
    | false => rw [termsA_no hb] at h; exact (ErrN.bind (ErrN.term z) fun _ => ErrN.termsA z n _) _ _ _ h

theorem ErrN.rest (z i off : Nat) (kids : List Ex) : ErrN (opRest z i off kids) := by
  match i with
  | 0 => exact ErrN.bind (ErrN.conds z) fun _ => ErrN.pure _
  | 1 => exact ErrN.bind (ErrN.need _ _) fun _ => ErrN.bind (ErrN.namesU _ _) fun _ => ErrN.pure _
  | 2 => exact ErrN.pure _
  | 3 => exact ErrN.pure _
  | 4 => exact ErrN.pure _
  | 5 => exact ErrN.bind (ErrN.need _ _) fun _ => ErrN.bind (ErrN.name z) fun _ => ErrN.bind (ErrN.need _ _) fun _ => ErrN.bind (ErrN.name z) fun _ => ErrN.pure _
  | 6 => exact ErrN.bind (ErrN.need _ _) fun _ => ErrN.bind (ErrN.namesU _ _) fun _ => ErrN.bind (ErrN.need _ _) fun _ => ErrN.bind (ErrN.word _ _ _) fun _ => ErrN.bind (ErrN.ifP (ErrN.name z)) fun _ => ErrN.bind (ErrN.need _ _) fun _ => ErrN.bind (ErrN.name z) fun _ => ErrN.pure _
  | n + 7 => exact ErrN.pure _

theorem ErrN.expr (z : Nat) : ∀ (n : Nat), ErrN (exprP z n)
  | 0 => ErrN.fail z 3 (by decide)
  | n + 1 => by
    intro ts e o h
    rw [exprP] at h
    cases ho : opIdx ts with
    | none =>
      simp only [ho] at h
      exact (ErrN.bind (ErrN.name z) fun _ => ErrN.pure _) _ _ _ h
    | some i =>
      simp only [ho] at h
      exact (ErrN.bind (ErrN.need _ _) fun _ => ErrN.bind (ErrN.expr z n) fun _ => ErrN.bind (ErrN.ifP (ErrN.bind (ErrN.need _ _) fun _ => ErrN.bind (ErrN.expr z n) fun _ => ErrN.pure _)) fun _ => ErrN.bind (ErrN.rest _ _ _ _) fun _ => ErrN.bind (ErrN.need _ _) fun _ => ErrN.pure _) _ _ _ h

theorem ErrN.ite {α : Type} {p : Prop} [Decidable p] {m n : PM α} (hm : ErrN m) (hn : ErrN n) : ErrN (if p then m else n) := by
  split
  · exact hm
  · exact hn

theorem ErrN.unique (z : Nat) (x : It) : ErrN (uniqueP z x) := ErrN.bind (ErrN.need _ _) fun _ => ErrN.bind (ErrN.name z) fun _ => ErrN.bind (ErrN.need _ _) fun _ => ErrN.bind (ErrN.names z) fun _ => ErrN.bind (ErrN.need _ _) fun _ => ErrN.pure _

theorem ErrN.part (z : Nat) (k : Int) (x : It) : ErrN (partP z k x) := by
  unfold partP
  refine ErrN.ite ?_ (ErrN.ite ?_ (ErrN.ite ?_ (ErrN.ite ?_ (ErrN.ite ?_ (ErrN.ite ?_ (ErrN.ite ?_ (ErrN.ite ?_ (ErrN.ite ?_ ?_))))))))
  · exact ErrN.bind (ErrN.need _ _) fun _ => ErrN.bind (ErrN.list (ErrN.column z)) fun _ => ErrN.bind (ErrN.need _ _) fun _ => ErrN.bind (ErrN.names z) fun _ => ErrN.pure _
  · exact ErrN.bind (ErrN.need _ _) fun _ => ErrN.bind (ErrN.num z) fun _ => ErrN.pure _
  · exact ErrN.bind (ErrN.need _ _) fun _ => ErrN.bind (ErrN.place z) fun _ => ErrN.bind (ErrN.need _ _) fun _ => ErrN.bind (ErrN.word _ _ _) fun _ => ErrN.ite (ErrN.bind (ErrN.num z) fun _ => ErrN.pure _) (ErrN.ite (ErrN.bind (ErrN.num z) fun _ => ErrN.bind (ErrN.num z) fun _ => ErrN.pure _) (ErrN.pure _))
  · exact ErrN.bind (ErrN.need _ _) fun _ => ErrN.bind (ErrN.name z) fun _ => ErrN.bind (ErrN.need _ _) fun _ => ErrN.bind (ErrN.num z) fun _ => ErrN.bind (ErrN.need _ _) fun _ => ErrN.bind (fun ts e o h => ErrN.termsA z _ _ ts e o h) fun _ => ErrN.pure _
  · exact ErrN.bind (ErrN.place z) fun _ => ErrN.bind (ErrN.need _ _) fun _ => ErrN.bind (ErrN.word _ _ _) fun _ => ErrN.pure _
  · exact ErrN.unique z x
  · exact ErrN.bind (ErrN.unique z x) fun _ => ErrN.bind (ErrN.need _ _) fun _ => ErrN.bind (ErrN.name z) fun _ => ErrN.opt (ErrN.bind (ErrN.list (ErrN.fixed z)) fun _ => ErrN.pure _) (ErrN.pure _)
  · exact ErrN.bind (ErrN.place z) fun _ => ErrN.bind (ErrN.need _ _) fun _ => ErrN.bind (ErrN.place z) fun _ => ErrN.pure _
  · exact ErrN.bind (ErrN.list (ErrN.var z)) fun _ => ErrN.bind (ErrN.conds z) fun _ => ErrN.pure _
  · exact ErrN.bind (ErrN.need _ _) fun _ => ErrN.bind (ErrN.expr z 12) fun _ => ErrN.pure _

theorem ErrN.item (z : Nat) : ErrN (itemP z) := by
  intro ts e o h
  cases ts with
  | nil => cases h; decide
  | cons t r =>
    unfold itemP at h
    refine (ErrN.bind (ErrN.word z itWords 1) fun k => ErrN.bind (ErrN.ifP (ErrN.name z)) fun nm => ErrN.bind (ErrN.part z k _) fun x => ?_) _ _ _ h
    by_cases hk : k = 4
    · simp only [if_pos hk]
      exact ErrN.bind (ErrN.need _ _) fun _ => ErrN.pure _
    · simp only [if_neg hk]
      exact ErrN.bind (ErrN.need _ _) fun _ => ErrN.pure _

theorem itemsA_errN (z : Nat) : ∀ (f : Nat) (acc : List It) (ts : List Tok) (e : Int) (o : Nat), itemsA z f acc ts = .error (e, o) → e ≠ 0
  | 0, _, _, _, _, h => by cases h
  | f + 1, acc, [], _, _, h => by cases h
  | f + 1, acc, t :: q, e, o, h => by
    by_cases hfull : acc.length = 200
    · rw [itemsA, if_pos hfull] at h; cases h; decide
    · rw [itemsA, if_neg hfull] at h
      cases hp : itemP z (t :: q) with
      | error y => rw [hp] at h; cases h; exact ErrN.item z _ _ _ hp
      | ok y =>
        obtain ⟨x, r⟩ := y
        rw [hp] at h
        exact itemsA_errN z f _ r e o h

end Go.Proofs.YtnmfanjhepepbaaGreatDoor
