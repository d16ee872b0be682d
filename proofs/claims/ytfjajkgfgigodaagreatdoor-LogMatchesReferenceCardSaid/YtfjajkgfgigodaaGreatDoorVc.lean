/-
  A small program logic over the model's code, for this claim's proofs: verification conditions over the slots (a list of values) and the heap alone, and the proof that they imply the kit's Code.wp. It holds of every program.
-/
import Derived.WalkKit
import Derived.Scope
namespace Go.Proofs.YtfjajkgfgigodaaGreatDoor
open Go

abbrev Heap := Array Obj

def cellAt (h : Heap) (a : Addr) : Option Value :=
  match h[a.block]? with
  | some (.cells c _ _) => if a.spot.isSome then none else c[a.off]?
  | _ => none

theorem cellAt_eq (w : World) (a : Addr) : w.cell? a = cellAt w.heap a := rfl

/- THE SLOTS -/
def sget : List Value → Nat → Value
  | [], _ => undef
  | v :: _, 0 => v
  | _ :: l, n + 1 => sget l n

def ssetK (l : List Value) (n : Nat) (v : Value) (k : List Value → Prop) : Prop :=
  match l, n with
  | [], _ => k []
  | _ :: l, 0 => k (v :: l)
  | x :: l, n + 1 => ssetK l n v (fun l' => k (x :: l'))

theorem ssetK_eq (l : List Value) (n : Nat) (v : Value) (k : List Value → Prop) : ssetK l n v k = k (l.set n v) := by
  induction l generalizing n k with
  | nil => simp [ssetK]
  | cons x l ih => cases n with
    | zero => simp [ssetK]
    | succ n => simp [ssetK, ih]

theorem sget_getD (l : List Value) (n : Nat) : l.getD n undef = sget l n := by
  induction l generalizing n with
  | nil => simp [sget]
  | cons x l ih => cases n with
    | zero => simp [sget]
    | succ n => simpa [sget] using ih n

def ev (s : List Value) : Operand → Value
  | .tmp t => sget s t
  | .const v => v
  | .global g => .pointer (some ⟨g, 0, none⟩)
  | .func f => .func (.func f) #[] #[]

def sgetK (l : List Value) (n : Nat) (k : Value → Prop) : Prop :=
  match l, n with
  | [], _ => k undef
  | v :: _, 0 => k v
  | _ :: l, n + 1 => sgetK l n k

theorem sgetK_eq (l : List Value) (n : Nat) (k : Value → Prop) : sgetK l n k = k (sget l n) := by
  induction l generalizing n with
  | nil => simp [sgetK, sget]
  | cons x l ih => cases n with
    | zero => simp [sgetK, sget]
    | succ n => simpa [sgetK, sget] using ih n

def evK (s : List Value) (x : Operand) (k : Value → Prop) : Prop :=
  match x with
  | .tmp t => sgetK s t k
  | .const v => k v
  | .global g => k (.pointer (some ⟨g, 0, none⟩))
  | .func f => k (.func (.func f) #[] #[])

theorem evK_eq (s : List Value) (x : Operand) (k : Value → Prop) : evK s x k = k (ev s x) := by
  cases x <;> simp [evK, ev, sgetK_eq]

def evsK (s : List Value) (xs : List Operand) (k : List Value → Prop) : Prop :=
  match xs with
  | [] => k []
  | x :: xs => evK s x fun v => evsK s xs fun vs => k (v :: vs)

theorem evsK_eq (s : List Value) (xs : List Operand) (k : List Value → Prop) : evsK s xs k = k (xs.map (ev s)) := by
  induction xs generalizing k with
  | nil => rfl
  | cons x xs ih => simp [evsK, evK_eq, ih]

def sgetsK (s : List Value) (ts : List Nat) (k : List Value → Prop) : Prop :=
  match ts with
  | [] => k []
  | t :: ts => sgetK s t fun v => sgetsK s ts fun vs => k (v :: vs)

theorem sgetsK_eq (s : List Value) (ts : List Nat) (k : List Value → Prop) : sgetsK s ts k = k (ts.map (sget s)) := by
  induction ts generalizing k with
  | nil => rfl
  | cons x xs ih => simp [sgetsK, sgetK_eq, ih]

def act (s : List Value) (ds : List Deferred) : Act := ⟨s.toArray, ds⟩

theorem act_eval (s : List Value) (ds : List Deferred) : (act s ds).eval = ev s := by
  funext x
  cases x with
  | tmp t => simp only [Act.eval, act, ev, ← sget_getD]; simp
  | _ => rfl

theorem act_put (s : List Value) (ds : List Deferred) (d : Tmp) (v : Value) : (act s ds).put (some d) v = act (s.set d v) ds := by
  simp [act, Act.put]

structure Same (w w' : World) : Prop where
  os : w'.os = w.os
  tape : w'.tape = w.tape
  output : w'.output = w.output
  size : w.heap.size ≤ w'.heap.size

theorem Same.refl (w : World) : Same w w := ⟨rfl, rfl, rfl, Nat.le_refl _⟩
theorem Same.trans {a b c : World} (h : Same a b) (k : Same b c) : Same a c := ⟨k.os.trans h.os, k.tape.trans h.tape, k.output.trans h.output, Nat.le_trans h.size k.size⟩

abbrev QQ := Exit → List Value → Heap → Prop
abbrev KK := Value → Bool → Heap → Prop

def lift (w0 : World) (ds : List Deferred) (Q : QQ) : Exit → Act → World → Prop :=
  fun e a w => ∃ s, a = act s ds ∧ Same w0 w ∧ Q e s w.heap

/- CONTRACTS -/
def Spec (P : Program) (f : FuncId) (args : List Value) (h : Heap) (R : Ending → Heap → Prop) : Prop :=
  (∃ fn, P.funcs[f]? = some fn ∧ fn.body.isNone = false ∧ (fn.name == "runtime.NumGoroutine") = false) ∧
  ∀ w : World, w.heap = h → Calls P f args.toArray w fun e w' => Same w w' ∧ R e w'.heap

def Ret (Post : Value → Heap → Prop) : Ending → Heap → Prop
  | .returned v, h => Post v h
  | _, _ => False

abbrev SpecR (P : Program) (f : FuncId) (args : List Value) (h : Heap) (Post : Value → Heap → Prop) : Prop := Spec P f args h (Ret Post)

theorem Spec.mono {P : Program} {f : FuncId} {args : List Value} {h : Heap} {R R' : Ending → Heap → Prop} (s : Spec P f args h R) (hr : ∀ e h', R e h' → R' e h') : Spec P f args h R' :=
  ⟨s.1, fun w hw => (s.2 w hw).mono fun _ _ ⟨a, b⟩ => ⟨a, hr _ _ b⟩⟩

theorem SpecR.mono {P : Program} {f : FuncId} {args : List Value} {h : Heap} {R R' : Value → Heap → Prop} (s : SpecR P f args h R) (hr : ∀ v h', R v h' → R' v h') : SpecR P f args h R' :=
  Spec.mono s fun e h' => by cases e <;> first | exact hr _ _ | exact id

/- THE STOPS -/
structure Ar (k : IntKind) (n : Int) (K : Value → Prop) : Prop where
  h : K (.int k (k.wrap n))

structure Br (t : Bool) (A B : Prop) (_a _b : Code := .skip) : Prop where
  y : t = true → A
  n : t = false → B

structure RunVC (P : Program) (op : Op) (ty : TypeId) (s : List Value) (h : Heap) (K : KK) (Q : QQ) : Prop where
  run : ∀ (w : World), w.heap = h → ∀ (ds : List Deferred) (dst : Option Tmp) (pos : String) (after : Array Edge) (guard : Option (Nat × Bool))
    (next : Act → World → Prop) (Q' : Exit → Act → World → Prop),
    (∀ v l w', Same w w' → K v l w'.heap → next ((act s ds).put dst v) w') →
    (∀ chain w', Same w w' → Q (.panic chain) s w'.heap → Q' (.panic chain) (act s ds) w') →
    Oper.wp P ⟨dst, op, ty, pos, after, guard⟩ (act s ds) w next Q'

/-- An operation that leaves the world alone, and gives the same value wherever some cells read as they do. -/
structure StillVC (pr : Bool) (P : Program) (op : Op) (ty : TypeId) (s : List Value) (h : Heap) (K : KK) : Prop where
  ex : ∃ (v : Value) (l : Bool) (reads : List (Addr × Value)), (pr = true → reads = []) ∧ (∀ r ∈ reads, cellAt h r.1 = some r.2) ∧
    (∀ w : World, (∀ r ∈ reads, w.cell? r.1 = some r.2) → (execOp (ev s) ⟨none, op, ty, "", #[], none⟩).run P w = .ok (.value v) w) ∧ K v l h

/-- A function without a body: what the model itself says that it does. -/
def XSpec (P : Program) (f : FuncId) (args : List Value) (h : Heap) (R : Ending → Heap → Prop) : Prop :=
  ∀ w : World, w.heap = h → ∃ v w', (callFunc f args.toArray).run P w = .ok (.value v) w' ∧ Same w w' ∧ R (.returned v) w'.heap

def CSpec (P : Program) (f : FuncId) (args : List Value) (h : Heap) (R : Ending → Heap → Prop) : Prop := Spec P f args h R ∨ XSpec P f args h R

structure CallVC (P : Program) (g : FuncId) (args : List Value) (s : List Value) (h : Heap) (K : KK) (Q : QQ) : Prop where
  spec : ∃ R : Ending → Heap → Prop, CSpec P g args h R ∧ (∀ v h', R (.returned v) h' → K v false h') ∧ (∀ c h', R (.panicked c) h' → Q (.panic c) s h') ∧ ∀ h', ¬ R .outgrown h'

def onN (N : List Value → Heap → Prop) (Q : QQ) : QQ
  | .normal, s, h => N s h
  | e, s, h => Q e s h

structure LoopVC (B : QQ → List Value → Heap → Prop) (Q : QQ) (s : List Value) (h : Heap) : Prop where
  ex : ∃ (I : List Value → Heap → Prop) (μ : List Value → Heap → Nat), I s h ∧
    ∀ s h, I s h → B (onN (fun s' h' => I s' h' ∧ μ s' h' < μ s h) Q) s h

structure DrawVC (P : Program) (id : Nat) (ops : Array Oper) (s : List Value) (h : Heap) (Q : QQ) : Prop where
  wp : ∀ (w0 w : World) (ds : List Deferred), w.heap = h → Same w0 w → (Code.region id ops true).wp P (lift w0 ds Q) (act s ds) w

/- THE CONDITION OF ONE OPERATION -/
def kn : IntKind → Nat
  | .i8 => 0 | .i16 => 1 | .i32 => 2 | .i64 => 3 | .u8 => 4 | .u16 => 5 | .u32 => 6 | .u64 => 7

theorem kn_inj {a b : IntKind} (h : Nat.beq (kn a) (kn b) = true) : a = b := by
  revert h; cases a <;> cases b <;> decide

def mem : List Nat → Nat → Bool
  | [], _ => false
  | x :: l, n => bif Nat.beq x n then true else mem l n

def lit (D : List Nat) : Operand → Bool
  | .tmp t => mem D t
  | .const (.bool _) => true
  | _ => false

def vbin (op : BinOp) (x y : Value) (K : Value → Prop) (F : Prop) : Prop :=
  match x, y with
  | .int k a, .int k' b =>
    bif Nat.beq (kn k) (kn k') then
      match op with
      | .add => Ar k (a + b) K
      | .sub => Ar k (a - b) K
      | .mul => Ar k (a * b) K
      | .eql => K (.bool (decide (a = b)))
      | .neq => K (.bool (!decide (a = b)))
      | .lss => K (.bool (decide (a < b)))
      | .leq => K (.bool (decide (a ≤ b)))
      | .gtr => K (.bool (decide (b < a)))
      | .geq => K (.bool (decide (b ≤ a)))
      | _ => F
    else F
  | .string ⟨⟨a⟩⟩, .string ⟨⟨b⟩⟩ =>
    match op with
    | .eql => K (.bool (decide (a = b)))
    | .neq => K (.bool (!decide (a = b)))
    | _ => F
  | _, _ => F

/-- F: what is asked where the operation is not one of the plain ones; C: what is asked at a call. -/
def vopF (F : Prop) (C : FuncId → List Value → Prop) (op : Op) (D : List Nat) (s : List Value) (h : Heap) (K : KK) : Prop :=
  match op with
  | .move x => evK s x fun v => K v (lit D x) h
  | .assign x => evK s x fun v => K v (lit D x) h
  | .pick c a b =>
    match lit D c with
    | true => (match ev s c with
      | .bool true => evK s a fun v => K v (lit D a) h
      | .bool false => evK s b fun v => K v (lit D b) h
      | _ => False)
    | false => (match ev s c with
      | .bool t => Br t (evK s a fun v => K v (lit D a) h) (evK s b fun v => K v (lit D b) h)
      | _ => False)
  | .binOp bop _ x y _ => vbin bop (ev s x) (ev s y) (fun v => K v false h) F
  | .unOp .not _ x =>
    match ev s x with
    | .bool b => K (.bool (!b)) (lit D x) h
    | _ => F
  | .unOp .neg _ x =>
    match ev s x with
    | .int k n => Ar k (0 - n) fun v => K v false h
    | _ => F
  | .extract t i =>
    match ev s t with
    | .tuple ⟨vs⟩ => (match vs[i]? with
      | some v => K v false h
      | none => False)
    | _ => False
  | .call ⟨.value f, ⟨args⟩, _⟩ =>
    match ev s f with
    | .func (.func g) ⟨first⟩ ⟨cap⟩ => evsK s args fun vs => C g (first ++ (vs ++ cap))
    | _ => F
  | _ => F

def vop (P : Program) (op : Op) (ty : TypeId) (D : List Nat) (s : List Value) (h : Heap) (K : KK) (Q : QQ) : Prop :=
  vopF (RunVC P op ty s h K Q) (fun g args => CallVC P g args s h K Q) op D s h K

def vopS (pr : Bool) (P : Program) (op : Op) (ty : TypeId) (D : List Nat) (s : List Value) (h : Heap) (K : KK) : Prop :=
  vopF (StillVC pr P op ty s h K) (fun _ _ => False) op D s h K

theorem execOp_head (ρ : Operand → Value) (dst : Option Tmp) (op : Op) (ty : TypeId) (pos : String) (after : Array Edge) (guard : Option (Nat × Bool)) :
    execOp ρ ⟨dst, op, ty, pos, after, guard⟩ = execOp ρ ⟨none, op, ty, "", #[], none⟩ := by
  cases op <;> rfl

theorem RunVC.of {P : Program} {op : Op} {ty : TypeId} {s : List Value} {h : Heap} {K : KK} {Q : QQ}
    (hr : ∀ w : World, w.heap = h → ∃ v l w', (execOp (ev s) ⟨none, op, ty, "", #[], none⟩).run P w = .ok (.value v) w' ∧ Same w w' ∧ K v l w'.heap) : RunVC P op ty s h K Q where
  run w hw ds dst pos after guard next Q' hn _ := by
    obtain ⟨v, l, w', hrun, hs, hk⟩ := hr w hw
    simp only [Oper.wp, act_eval, execOp_head, hrun, Oper.upon]
    exact hn v l w' hs hk

theorem RunVC.of_skip {P : Program} {op : Op} {ty : TypeId} {s : List Value} {h : Heap} {K : KK} {Q : QQ}
    (hr : ∀ w : World, w.heap = h → ∃ w', (execOp (ev s) ⟨none, op, ty, "", #[], none⟩).run P w = .ok .skip w' ∧ Same w w' ∧ K undef false w'.heap) : RunVC P op ty s h K Q where
  run w hw ds dst pos after guard next Q' hn _ := by
    obtain ⟨w', hrun, hs, hk⟩ := hr w hw
    simp only [Oper.wp, act_eval, execOp_head, hrun, Oper.upon]
    exact hn undef false w' hs hk

theorem RunVC.panics {P : Program} {op : Op} {ty : TypeId} {s : List Value} {h : Heap} {K : KK} {Q : QQ}
    (hr : ∀ w : World, w.heap = h → ∃ v w', (execOp (ev s) ⟨none, op, ty, "", #[], none⟩).run P w = .halt (.panic v) w' ∧ Same w w' ∧ Q (.panic [{ v, recovered := false }]) s w'.heap) : RunVC P op ty s h K Q where
  run w hw ds dst pos after guard next Q' _ hp := by
    obtain ⟨v, w', hrun, hs, hk⟩ := hr w hw
    simp only [Oper.wp, act_eval, execOp_head, hrun, Oper.upon]
    exact hp _ w' hs hk

theorem StillVC.run {P : Program} {op : Op} {ty : TypeId} {s : List Value} {h : Heap} {K : KK} {Q : QQ} (r : StillVC false P op ty s h K) : RunVC P op ty s h K Q := by
  obtain ⟨v, l, reads, _, hr, hw, hk⟩ := r.ex
  exact .of fun w e => ⟨v, l, w, hw w (fun x hm => by subst e; exact hr x hm), .refl w, e ▸ hk⟩

theorem StillVC.pure' {pr : Bool} {P : Program} {op : Op} {ty : TypeId} {s : List Value} {h : Heap} {K : KK} (v : Value) (l : Bool)
    (hr : ∀ w : World, (execOp (ev s) ⟨none, op, ty, "", #[], none⟩).run P w = .ok (.value v) w) (hk : K v l h) : StillVC pr P op ty s h K :=
  ⟨v, l, [], fun _ => rfl, by simp, fun w _ => hr w, hk⟩

theorem RunVC.pure' {P : Program} {op : Op} {ty : TypeId} {s : List Value} {h : Heap} {K : KK} {Q : QQ} (v : Value) (l : Bool)
    (hr : ∀ w : World, (execOp (ev s) ⟨none, op, ty, "", #[], none⟩).run P w = .ok (.value v) w) (hk : K v l h) : RunVC P op ty s h K Q :=
  .of fun w hw => ⟨v, l, w, hr w, .refl w, hw ▸ hk⟩

theorem beq_dec {α : Type} [BEq α] [LawfulBEq α] [DecidableEq α] (a b : α) : (a == b) = decide (a = b) := by
  rw [Bool.eq_iff_iff]; simp

theorem toList_mk (a : List UInt8) : (⟨⟨a⟩⟩ : ByteArray).toList = a := by rw [ByteArray.toList_eq]

theorem vbin_sound {pr : Bool} {P : Program} {bop : BinOp} {t ty t' : TypeId} {x y : Operand} {s : List Value} {h : Heap} {K : KK} {F : Prop}
    (hv : vbin bop (ev s x) (ev s y) (fun v => K v false h) F) : F ∨ StillVC pr P (.binOp bop t x y t') ty s h K := by
  unfold vbin at hv
  split at hv
  · rename_i k a k' b hx hy
    cases hk : Nat.beq (kn k) (kn k') with
    | false => rw [hk] at hv; exact .inl hv
    | true =>
      rw [hk] at hv
      have := kn_inj hk; subst this
      simp only [cond_true] at hv
      cases bop <;> simp only at hv <;> first
        | exact .inl hv
        | exact .inr (.pure' (.int k (k.wrap (a + b))) false (fun w => by simp [execOp, hx, hy, eqGuard_add, binOp_add, Op.intArith]) hv.h)
        | exact .inr (.pure' (.int k (k.wrap (a - b))) false (fun w => by simp [execOp, hx, hy, eqGuard_sub, binOp_sub, Op.intArith]) hv.h)
        | exact .inr (.pure' (.int k (k.wrap (a * b))) false (fun w => by simp [execOp, hx, hy, eqGuard_mul, binOp_mul, Op.intArith]) hv.h)
        | exact .inr (.pure' _ false (fun w => by simp [execOp, hx, hy, eqGuard_at_int, binOp_eql, binOp_neq, binOp_lss, binOp_leq, binOp_gtr, binOp_geq, beq_dec, bne]) hv)
  · rename_i a b hx hy
    cases bop <;> simp only at hv <;> first
      | exact .inl hv
      | exact .inr (.pure' _ false (fun w => by simp [execOp, hx, hy, eqGuard_at_string, binOp, Op.stringOp, beq_dec]) hv)
  · exact .inl hv

theorem vopF_sound {pr : Bool} {P : Program} {op : Op} {ty : TypeId} {D : List Nat} {s : List Value} {h : Heap} {K : KK} {F : Prop} {C : FuncId → List Value → Prop}
    (hv : vopF F C op D s h K) : F ∨ StillVC pr P op ty s h K ∨
      ∃ f args tys g first cap, op = .call ⟨.value f, ⟨args⟩, tys⟩ ∧ ev s f = .func (.func g) ⟨first⟩ ⟨cap⟩ ∧ C g (first ++ (args.map (ev s) ++ cap)) := by
  unfold vopF at hv
  simp only [evK_eq, evsK_eq] at hv
  split at hv
  · exact .inr (.inl (.pure' _ _ (fun w => by simp [execOp]) hv))
  · exact .inr (.inl (.pure' _ _ (fun w => by simp [execOp]) hv))
  · rename_i c a b
    cases hl : lit D c with
    | true =>
      rw [hl] at hv; simp only at hv
      split at hv
      · rename_i hc; exact .inr (.inl (.pure' _ _ (fun w => by simp [execOp, hc, asBool]) hv))
      · rename_i hc; exact .inr (.inl (.pure' _ _ (fun w => by simp [execOp, hc, asBool]) hv))
      · exact hv.elim
    | false =>
      rw [hl] at hv; simp only at hv
      split at hv
      · rename_i t hc
        cases t with
        | true => exact .inr (.inl (.pure' _ _ (fun w => by simp [execOp, hc, asBool]) (hv.y rfl)))
        | false => exact .inr (.inl (.pure' _ _ (fun w => by simp [execOp, hc, asBool]) (hv.n rfl)))
      · exact hv.elim
  · rcases vbin_sound (pr := pr) (P := P) hv with h | h
    · exact .inl h
    · exact .inr (.inl h)
  · split at hv
    · rename_i b hx; exact .inr (.inl (.pure' _ _ (fun w => by simp [execOp, hx, Op.unary]) hv))
    · exact .inl hv
  · split at hv
    · rename_i k n hx; exact .inr (.inl (.pure' (.int k (k.wrap (0 - n))) false (fun w => by simp [execOp, hx, Op.unary, Op.intArith]) hv.h))
    · exact .inl hv
  · split at hv
    · rename_i vs hx
      split at hv
      · rename_i v hi; exact .inr (.inl (.pure' _ _ (fun w => by simp [execOp, hx, Instr.extract, hi]) hv))
      · exact hv.elim
    · exact hv.elim
  · rename_i f args tys
    split at hv
    · rename_i g first cap hf
      exact .inr (.inr ⟨f, args, tys, g, first, cap, rfl, hf, hv⟩)
    · exact .inl hv
  · exact .inl hv

theorem vopS_sound {pr : Bool} {P : Program} {op : Op} {ty : TypeId} {D : List Nat} {s : List Value} {h : Heap} {K : KK} (hv : vopS pr P op ty D s h K) : StillVC pr P op ty s h K := by
  rcases vopF_sound (pr := pr) (P := P) (ty := ty) hv with h | h | ⟨_, _, _, _, _, _, _, _, h⟩
  · exact h
  · exact h
  · exact h.elim

theorem vop_sound {P : Program} {op : Op} {ty : TypeId} {D : List Nat} {s : List Value} {h : Heap} {K : KK} {Q : QQ}
    (hv : vop P op ty D s h K Q) : RunVC P op ty s h K Q := by
  rcases vopF_sound (pr := false) (P := P) (ty := ty) hv with h | h | ⟨f, args, tys, g, first, cap, rfl, hf, hv⟩
  · exact h
  · exact h.run
  · obtain ⟨R, hC, hr, hp, ho⟩ := hv.spec
    refine ⟨fun w hw ds dst pos after guard next Q' hn hq => ?_⟩
    rcases hC with ⟨⟨fn, hfn, hbody, hname⟩, hspec⟩ | hX
    case inr =>
      obtain ⟨v, w', hrun, hs, hR⟩ := hX w hw
      have hrun' : (execOp (ev s) ⟨none, .call ⟨.value f, ⟨args⟩, tys⟩, ty, "", #[], none⟩).run P w = .ok (.value v) w' := by
        simpa [execOp, resolve, hf, Deferred.ofValue, invoke] using hrun
      simp only [Oper.wp, act_eval, execOp_head, hrun', Oper.upon]
      exact hn v false w' hs (hr v _ hR)
    have hrun : (execOp (ev s) ⟨none, .call ⟨.value f, ⟨args⟩, tys⟩, ty, "", #[], none⟩).run P w = .ok (.enter g (first ++ (args.map (ev s) ++ cap)).toArray) w := by
      have h1 : ¬ fn.name = "runtime.NumGoroutine" := by simpa using hname
      have h2 : ¬ fn.body = none := by intro e; simp [e] at hbody
      simp [execOp, resolve, hf, Deferred.ofValue, invoke, callFunc, hfn, h1, h2]
    simp only [Oper.wp, act_eval, execOp_head, hrun, Oper.upon]
    refine (hspec w hw).mono fun e w' ⟨hs, hR⟩ => ?_
    cases e with
    | returned v => exact hn v false w' hs (hr v _ hR)
    | panicked c => exact hq c w' hs (hp c _ hR)
    | outgrown => exact (ho _ hR).elim

/- REGIONS -/
def dstOf : List Oper → Nat → Option Tmp
  | [], _ => none
  | o :: _, 0 => o.dst
  | _ :: l, n + 1 => dstOf l n

theorem dstOf_eq (l : List Oper) (j : Nat) : (l[j]?).bind (·.dst) = dstOf l j := by
  induction l generalizing j with
  | nil => simp [dstOf]
  | cons o l ih => cases j with
    | zero => simp [dstOf]
    | succ j => simpa [dstOf] using ih j

def ssetO (s : List Value) (d : Option Tmp) (v : Value) (k : List Value → Prop) : Prop :=
  match d with
  | none => k s
  | some d => ssetK s d v k

def sput (s : List Value) (d : Option Tmp) (v : Value) : List Value :=
  match d with
  | none => s
  | some d => s.set d v

theorem ssetO_eq (s : List Value) (d : Option Tmp) (v : Value) (k : List Value → Prop) : ssetO s d v k = k (sput s d v) := by
  cases d with
  | none => rfl
  | some d => exact ssetK_eq _ _ _ _

theorem act_sput (s : List Value) (ds : List Deferred) (d : Option Tmp) (v : Value) : (act s ds).put d v = act (sput s d v) ds := by
  cases d with
  | none => rfl
  | some d => exact act_put _ _ _ _

def del : List Nat → Nat → List Nat
  | [], _ => []
  | x :: l, n => bif Nat.beq x n then del l n else x :: del l n

def updD (D : List Nat) (d : Option Tmp) (l : Bool) : List Nat :=
  match d with
  | none => D
  | some d => bif l then d :: D else del D d

def vstep (P : Program) (L : List Oper) (o : Oper) (ih : List Nat → List Value → Heap → QQ → Prop) (D : List Nat) (s : List Value) (h : Heap) (Q : QQ) : Prop :=
  match o with
  | ⟨dst, op, ty, _, _, none⟩ =>
    vop P op ty D s h (fun v l h' => ssetO s dst v fun s' => ih (updD D dst l) s' h' Q) Q
  | ⟨dst, op, ty, _, _, some (j, want)⟩ =>
    match dstOf L j with
    | none => False
    | some g =>
      match mem D g with
      | true =>
        (match sget s g with
        | .bool true =>
          (match want with
          | true => vop P op ty D s h (fun v l h' => ssetO s dst v fun s' => ih (updD D dst l) s' h' Q) Q
          | false => ssetO s dst undef fun s' => ih (updD D dst false) s' h Q)
        | .bool false =>
          (match want with
          | true => ssetO s dst undef fun s' => ih (updD D dst false) s' h Q
          | false => vop P op ty D s h (fun v l h' => ssetO s dst v fun s' => ih (updD D dst l) s' h' Q) Q)
        | _ => ssetO s dst undef fun s' => ih (updD D dst false) s' h Q)
      | false =>
        (match sget s g with
        | .bool t =>
          Br t
            (ssetK s g (.bool true) fun s =>
              match want with
              | true => vop P op ty (g :: D) s h (fun v l h' => ssetO s dst v fun s' => ih (updD (g :: D) dst l) s' h' Q) Q
              | false => ssetO s dst undef fun s' => ih (updD (g :: D) dst false) s' h Q)
            (ssetK s g (.bool false) fun s =>
              match want with
              | true => ssetO s dst undef fun s' => ih (updD (g :: D) dst false) s' h Q
              | false => vop P op ty (g :: D) s h (fun v l h' => ssetO s dst v fun s' => ih (updD (g :: D) dst l) s' h' Q) Q)
        | _ => ssetO s dst undef fun s' => ih (updD D dst false) s' h Q)

/- The recursions are written out with the recursors themselves, so that the elaborator and the kernel leave the same rest behind them. -/
def vreg (P : Program) (L : List Oper) (l : List Oper) : List Nat → List Value → Heap → QQ → Prop :=
  List.rec (motive := fun _ => List Nat → List Value → Heap → QQ → Prop) (fun _ s h Q => Q .normal s h) (fun o _ ih => vstep P L o ih) l

theorem vreg_nil (P : Program) (L : List Oper) (D : List Nat) (s : List Value) (h : Heap) (Q : QQ) : vreg P L [] D s h Q = Q .normal s h := rfl
theorem vreg_cons (P : Program) (L : List Oper) (o : Oper) (rest : List Oper) (D : List Nat) (s : List Value) (h : Heap) (Q : QQ) : vreg P L (o :: rest) D s h Q = vstep P L o (vreg P L rest) D s h Q := rfl

theorem sset_same (s : List Value) (g : Nat) (v : Value) (h : sget s g = v) : s.set g v = s := by
  induction s generalizing g with
  | nil => rfl
  | cons x s ih => cases g with
    | zero => simp only [sget] at h; subst h; rfl
    | succ g => simp only [sget] at h; simp [ih g h]

theorem sget_some {s : List Value} {g : Nat} {t : Bool} (h : sget s g = .bool t) : s[g]? = some (.bool t) := by
  induction s generalizing g with
  | nil => simp [sget, undef] at h
  | cons x s ih => cases g with
    | zero => simp only [sget] at h; simp [h]
    | succ g => simp only [sget] at h; simpa using ih h

theorem yielded_of {ops : Array Oper} {s : List Value} {ds : List Deferred} {j g : Nat} {t : Bool} (hd : dstOf ops.toList j = some g) (hs : sget s g = .bool t) :
    yielded ops (act s ds).tmps j = some t := by
  have h1 : (ops[j]?).bind (·.dst) = some g := by rw [← hd, ← dstOf_eq]; simp
  simp [yielded, h1, act, sget_some hs]

theorem yielded_none {ops : Array Oper} {s : List Value} {ds : List Deferred} {j g : Nat} (hd : dstOf ops.toList j = some g) (hs : ∀ t, sget s g = .bool t → False) :
    yielded ops (act s ds).tmps j = none := by
  have h1 : (ops[j]?).bind (·.dst) = some g := by rw [← hd, ← dstOf_eq]; simp
  unfold yielded
  split
  · rename_i b hb
    rw [h1] at hb
    simp only [Option.bind_some, act, List.getElem?_toArray] at hb
    refine (hs b ?_).elim
    rw [← sget_getD, List.getD_eq_getElem?_getD, hb]
    rfl
  · rfl

theorem vreg_run {P : Program} {ops : Array Oper} {Q : QQ} {rest : List Oper} {w0 w : World} {ds : List Deferred} {s : List Value} {D : List Nat}
    {dst : Option Tmp} {op : Op} {ty : TypeId} {pos : String} {after : Array Edge} {guard : Option (Nat × Bool)}
    (ih : ∀ D s w, Same w0 w → vreg P ops.toList rest D s w.heap Q → wpList P ops (lift w0 ds Q) rest (act s ds) w)
    (hs : Same w0 w) (D' : List Nat → Bool → List Nat)
    (hv : vop P op ty D s w.heap (fun v l h' => ssetO s dst v fun s' => vreg P ops.toList rest (D' D l) s' h' Q) Q) :
    Oper.wp P ⟨dst, op, ty, pos, after, guard⟩ (act s ds) w (wpList P ops (lift w0 ds Q) rest) (lift w0 ds Q) :=
  (vop_sound hv).run w rfl ds dst pos after guard _ _
    (fun v l w' hw' hk => by rw [act_sput]; rw [ssetO_eq] at hk; exact ih _ _ _ (hs.trans hw') hk)
    (fun c w' hw' hq => ⟨s, rfl, hs.trans hw', hq⟩)

theorem vreg_sound {P : Program} {ops : Array Oper} {Q : QQ} {w0 : World} {ds : List Deferred} : ∀ (l : List Oper) (D : List Nat) (s : List Value) (w : World),
    Same w0 w → vreg P ops.toList l D s w.heap Q → wpList P ops (lift w0 ds Q) l (act s ds) w
  | [], _, s, w, hs, hv => ⟨s, rfl, hs, hv⟩
  | ⟨dst, op, ty, pos, after, none⟩ :: rest, D, s, w, hs, hv => by
    simp only [vreg_cons, vstep] at hv
    unfold wpList
    rw [if_pos (by simp [Region.wanted])]
    exact .inl (vreg_run (vreg_sound rest) hs (fun D l => updD D dst l) hv)
  | ⟨dst, op, ty, pos, after, some (j, want)⟩ :: rest, D, s, w, hs, hv => by
    simp only [vreg_cons, vstep] at hv
    cases hd : dstOf ops.toList j with
    | none => simp [hd] at hv
    | some g =>
      simp only [hd] at hv
      have skip : ∀ (s : List Value) (D : List Nat), (ssetO s dst undef fun s' => vreg P ops.toList rest D s' w.heap Q) → wpList P ops (lift w0 ds Q) rest ((act s ds).put dst undef) w := fun s D hk => by
        rw [act_sput]; rw [ssetO_eq] at hk; exact vreg_sound rest _ _ _ hs hk
      cases hm : mem D g with
      | true =>
        simp only [hm] at hv
        split at hv
        · rename_i hg
          have hy := yielded_of (ds := ds) hd hg
          unfold wpList
          cases want with
          | true =>
            rw [if_pos (by simp [Region.wanted, hy])]
            exact .inl (vreg_run (vreg_sound rest) hs (fun D l => updD D dst l) hv)
          | false =>
            rw [if_neg (by simp [Region.wanted, hy])]
            exact skip _ _ hv
        · rename_i hg
          have hy := yielded_of (ds := ds) hd hg
          unfold wpList
          cases want with
          | false =>
            rw [if_pos (by simp [Region.wanted, hy])]
            exact .inl (vreg_run (vreg_sound rest) hs (fun D l => updD D dst l) hv)
          | true =>
            rw [if_neg (by simp [Region.wanted, hy])]
            exact skip _ _ hv
        · rename_i h1 h2
          have hy := yielded_none (ds := ds) (s := s) hd (fun t e => match t, e with | true, e => h1 e | false, e => h2 e)
          unfold wpList
          rw [if_neg (by simp [Region.wanted, hy])]
          exact skip _ _ hv
      | false =>
        simp only [hm] at hv
        split at hv
        · rename_i t hg
          have hy := yielded_of (ds := ds) hd hg
          unfold wpList
          cases t with
          | true =>
            have hv := hv.y rfl
            rw [ssetK_eq, sset_same s g _ hg] at hv
            cases want with
            | true =>
              rw [if_pos (by simp [Region.wanted, hy])]
              exact .inl (vreg_run (vreg_sound rest) hs (fun D l => updD D dst l) hv)
            | false =>
              rw [if_neg (by simp [Region.wanted, hy])]
              exact skip _ _ hv
          | false =>
            have hv := hv.n rfl
            rw [ssetK_eq, sset_same s g _ hg] at hv
            cases want with
            | false =>
              rw [if_pos (by simp [Region.wanted, hy])]
              exact .inl (vreg_run (vreg_sound rest) hs (fun D l => updD D dst l) hv)
            | true =>
              rw [if_neg (by simp [Region.wanted, hy])]
              exact skip _ _ hv
        · rename_i h1
          have hy := yielded_none (ds := ds) (s := s) hd (fun t e => h1 t e)
          unfold wpList
          rw [if_neg (by simp [Region.wanted, hy])]
          exact skip _ _ hv

/- CODE -/
/-- A region that calls a function out of a slot: it stops the evaluation, for the function may be a loop's yield. -/
structure RegVC (P : Program) (id : Nat) (ops : Array Oper) (s : List Value) (h : Heap) (Q : QQ) : Prop where
  wp : ∀ (w0 w : World) (ds : List Deferred), w.heap = h → Same w0 w → (Code.region id ops false).wp P (lift w0 ds Q) (act s ds) w

def slotCall : List Oper → Bool
  | [] => false
  | o :: rest => match o.op with
    | .call ⟨.value (.tmp _), _, _⟩ => true
    | _ => slotCall rest

def vregion (P : Program) (id : Nat) (ops : Array Oper) (draw : Bool) (Q : QQ) (s : List Value) (h : Heap) : Prop :=
  match draw with
  | true => DrawVC P id ops s h Q
  | false => match slotCall ops.toList with
    | true => RegVC P id ops s h Q
    | false => vreg P ops.toList ops.toList [] s h Q

theorem RegVC.plain {P : Program} {id : Nat} {ops : Array Oper} {s : List Value} {h : Heap} {Q : QQ} (hv : vreg P ops.toList ops.toList [] s h Q) : RegVC P id ops s h Q where
  wp w0 w ds hw hs := by subst hw; exact wp_region_list (vreg_sound _ _ _ _ hs hv)

def vcond (a b : Code) (c : Operand) (A B : QQ → List Value → Heap → Prop) (Q : QQ) (s : List Value) (h : Heap) : Prop :=
  match ev s c with
  | .bool t => Br t (A Q s h) (B Q s h) a b
  | _ => False

def outQ (id : Nat) (Q : QQ) : QQ := fun e s h =>
  match e with
  | .exit id' => (match Nat.beq id' id with | true => Q .normal s h | false => Q (.exit id') s h)
  | e => Q e s h

/-- A scope through which the run goes without a jump. -/
def ngQ (Q : QQ) : QQ := fun e s h =>
  match e with
  | .goto _ => False
  | e => Q e s h

def vcode (P : Program) (c : Code) : QQ → List Value → Heap → Prop :=
  Code.rec (motive := fun _ => QQ → List Value → Heap → Prop)
    (fun Q s h => Q .normal s h)
    (fun id ops draw => vregion P id ops draw)
    (fun _ _ A B Q s h => A (onN (fun s h => B Q s h) Q) s h)
    (fun c a b A B => vcond a b c A B)
    (fun id _ B Q s h => B (outQ id Q) s h)
    (fun _ B Q s h => LoopVC B Q s h)
    (fun _ _ _ _ _ _ _ _ _ => False)
    (fun id Q s h => Q (.exit id) s h)
    (fun _ B Q s h => B (ngQ Q) s h)
    (fun _ Q s h => Q .normal s h)
    (fun _ _ _ _ => False)
    (fun Q s h => Q .ret s h)
    (fun _ _ _ _ => False) c

theorem vcode_cond (P : Program) (c : Operand) (a b : Code) (Q : QQ) (s : List Value) (h : Heap) : vcode P (.cond c a b) Q s h = vcond a b c (vcode P a) (vcode P b) Q s h := rfl

theorem vcode_sound {P : Program} {w0 : World} {ds : List Deferred} : ∀ (c : Code) (Q : QQ) (s : List Value) (w : World), Same w0 w → vcode P c Q s w.heap →
    c.wp P (lift w0 ds Q) (act s ds) w := by
  intro c
  induction c with
  | skip => intro Q s w hs hv; exact wp_skip ⟨s, rfl, hs, hv⟩
  | region id ops draw =>
    intro Q s w hs hv
    cases draw with
    | true => exact hv.wp w0 w ds rfl hs
    | false =>
      cases hc : slotCall ops.toList with
      | true => exact RegVC.wp (by simpa only [vcode, vregion, hc] using hv) w0 w ds rfl hs
      | false => exact (RegVC.plain (by simpa only [vcode, vregion, hc] using hv)).wp w0 w ds rfl hs
  | seq a b iha ihb =>
    intro Q s w hs hv
    refine wp_seq (wp_mono (iha _ s w hs hv) ?_)
    rintro e a' w' ⟨s', rfl, hs', hq⟩
    cases e with
    | normal => exact ihb Q s' w' hs' hq
    | _ => exact ⟨s', rfl, hs', hq⟩
  | cond c a b iha ihb =>
    intro Q s w hs hv
    simp only [vcode_cond, vcond] at hv
    split at hv
    · rename_i t ht
      refine wp_cond_split (t := t) (by rw [act_eval]; exact ht) (fun h => iha Q s w hs (hv.y h)) (fun h => ihb Q s w hs (hv.n h))
    · exact hv.elim
  | block id b ih =>
    intro Q s w hs hv
    refine wp_block (wp_mono (ih _ s w hs hv) ?_)
    rintro e a' w' ⟨s', rfl, hs', hq⟩
    cases e with
    | exit id' =>
      simp only [Exit.inBlock]
      simp only [outQ] at hq
      cases hb : Nat.beq id' id with
      | true => rw [hb] at hq; rw [if_pos (Nat.eq_of_beq_eq_true hb)]; exact ⟨s', rfl, hs', hq⟩
      | false => rw [hb] at hq; rw [if_neg (Nat.ne_of_beq_eq_false hb)]; exact ⟨s', rfl, hs', hq⟩
    | _ => exact ⟨s', rfl, hs', hq⟩
  | loop b ih =>
    intro Q s w hs hv
    obtain ⟨I, μ, h0, hr⟩ := hv.ex
    refine wp_loop (fun a w' => ∃ s', a = act s' ds ∧ Same w0 w' ∧ I s' w'.heap) (fun a w' => μ a.tmps.toList w'.heap) ⟨s, rfl, hs, h0⟩ ?_
    rintro _ w1 ⟨s1, rfl, hs1, hI⟩
    refine wp_mono (ih _ s1 w1 hs1 (hr s1 _ hI)) ?_
    rintro e a' w' ⟨s', rfl, hs', hq⟩
    cases e with
    | normal => exact ⟨⟨s', rfl, hs', hq.1⟩, by simpa [act] using hq.2⟩
    | _ => exact ⟨s', rfl, hs', hq⟩
  | exit id => intro Q s w hs hv; exact wp_exit ⟨s, rfl, hs, hv⟩
  | scope b ih =>
    intro Q s w hs hv
    refine wp_scope_straight (wp_mono (ih _ s w hs hv) ?_)
    rintro e a' w' ⟨s', rfl, hs', hq⟩
    cases e with
    | goto l => exact hq.elim
    | _ => exact ⟨s', rfl, hs', hq⟩
  | label l => intro Q s w hs hv; exact wp_label ⟨s, rfl, hs, hv⟩
  | ret => intro Q s w hs hv; exact wp_ret ⟨s, rfl, hs, hv⟩
  | _ => intro Q s w hs hv; exact hv.elim

/- THE WHOLE FUNCTION -/
structure RetVC (P : Program) (fn : Func) (s : List Value) (h : Heap) (R : Value → Heap → Prop) : Prop where
  ex : ∃ v, (∀ w : World, w.heap = h → (results fn s.toArray).run P w = .ok v w) ∧ R v h

def endQ (P : Program) (fn : Func) (R : Ending → Heap → Prop) : QQ := fun e s h =>
  match e with
  | .normal => RetVC P fn s h fun v h => R (.returned v) h
  | .ret => RetVC P fn s h fun v h => R (.returned v) h
  | .panic c => R (.panicked c) h
  | _ => False

def padK : Nat → (List Value → Prop) → Prop
  | 0, k => k []
  | n + 1, k => padK n fun l => k (undef :: l)

theorem padK_eq (n : Nat) (k : List Value → Prop) : padK n k = k (List.replicate n undef) := by
  induction n generalizing k with
  | zero => rfl
  | succ n ih => simp [padK, ih, List.replicate_succ]

def entryK (args : List Value) (n : Nat) (k : List Value → Prop) : Prop :=
  match args, n with
  | [], n => padK n k
  | a :: l, n + 1 => entryK l n fun l' => k (a :: l')
  | a :: l, 0 => entryK l 0 fun l' => k (a :: l')

theorem entryK_eq (args : List Value) (n : Nat) (k : List Value → Prop) : entryK args n k = k (args ++ List.replicate (n - args.length) undef) := by
  induction args generalizing n k with
  | nil => simp [entryK, padK_eq]
  | cons a l ih => cases n with
    | zero => simp [entryK, ih]
    | succ n => simp [entryK, ih, Nat.add_sub_add_right]

theorem Spec.enter {P : Program} {f : FuncId} {fn : Func} {c : Code} {n : Nat} {args : List Value} {h : Heap} {R : Ending → Heap → Prop}
    (hf : P.funcs[f]? = some fn) (hb : fn.body = some c) (hn : fn.ntmps = n) (hname : (fn.name == "runtime.NumGoroutine") = false)
    (hv : entryK args n fun s => vcode P c (endQ P fn R) s h) : Spec P f args h R := by
  refine ⟨⟨fn, hf, by simp [hb], hname⟩, fun w hw => ?_⟩
  subst hw
  rw [entryK_eq] at hv
  have hwp := vcode_sound (w0 := w) (ds := []) c _ _ w (.refl w) hv
  have he : act (args ++ List.replicate (n - args.length) undef) [] = { tmps := args.toArray ++ Array.replicate (fn.ntmps - args.toArray.size) undef, defers := [] } := by
    simp [act, hn]
  rw [he] at hwp
  refine calls_of_wp hf hb (wp_mono hwp ?_)
  rintro e a w' ⟨s', rfl, hs', hq⟩
  cases e with
  | normal => obtain ⟨v, hr, hR⟩ := hq.ex; exact ⟨rfl, v, hr w' rfl, hs', hR⟩
  | ret => obtain ⟨v, hr, hR⟩ := hq.ex; exact ⟨rfl, v, hr w' rfl, hs', hR⟩
  | panic c => exact ⟨rfl, hs', hq⟩
  | _ => exact hq.elim

end Go.Proofs.YtfjajkgfgigodaaGreatDoor
