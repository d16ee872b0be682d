/-
  The lexer's bytes: letters, digits, bytes of names; how many bytes of a kind stand at an offset. The lexer's readers: faults, names, numbers. The lexer's readers: numbers and symbols. The lexer's gaps. The lexer's texts in quotes. The lexer's deferred closure: how Lex ends. Lex. Plain facts on the lexer's readers (printed out of the texts of the other seat of this chapter).
-/
import Derived.Test.YtnmfanjhepepbaaGreatDoorStructs
import Derived.Test.YtnmfanjhepepbaaGreatDoorShelf
import Derived.Test.YtnmfanjhepepbaaGreatDoorDec
import Derived.Lib.AtoiErrMem
set_option linter.all false
/- The lexer's bytes: letters, digits, bytes of names; how many bytes of a kind stand at an offset. -/
namespace Go.Proofs.YtnmfanjhepepbaaGreatDoor
open Go

def letterB (c : UInt8) : Bool := decide (97 ≤ c.toNat ∧ c.toNat ≤ 122 ∨ 65 ≤ c.toNat ∧ c.toNat ≤ 90)
def digitB (c : UInt8) : Bool := decide (48 ≤ c.toNat ∧ c.toNat ≤ 57)
def innerB (c : UInt8) : Bool := letterB c || digitB c || decide (c.toNat = 95)

theorem lowered : ∀ n : Fin 256, (97 ≤ bits .or .u8 (n.val : Int) 32 ∧ bits .or .u8 (n.val : Int) 32 ≤ 122) ↔ (97 ≤ n.val ∧ n.val ≤ 122 ∨ 65 ≤ n.val ∧ n.val ≤ 90) := by decide +kernel

theorem letterB_iff (c : UInt8) : letterB c = true ↔ (97 ≤ bits .or .u8 (c.toNat : Int) 32 ∧ bits .or .u8 (c.toNat : Int) 32 ≤ 122) := by
  rw [lowered ⟨c.toNat, c.toNat_lt⟩]
  simp [letterB]

set_option maxRecDepth 100000 in
theorem digit_spec (c : UInt8) (h : Heap) : SpecR Tryz.prog 62 [.int .u8 c.toNat] h fun r h' => r = .bool (digitB c) ∧ Own h [] h' := by
  refine Spec.enter Tryz.func62 rfl Tryz.ntmps62 (by kernel_rfl) ?_
  have o0 := Own.refl h
  refine Br.dec (fun c10 => ?_) (fun c10 => ?_)
  refine RetVC.one rfl ?_
  rotate_left
  refine RetVC.one rfl ?_
  · exact ⟨congrArg Value.bool (decide_eq_false (by omega)).symm, o0⟩
  · exact ⟨congrArg Value.bool (decide_eq_decide.2 (by omega)), o0⟩

set_option maxRecDepth 100000 in
theorem letter_spec (c : UInt8) (h : Heap) : SpecR Tryz.prog 59 [.int .u8 c.toNat] h fun r h' => r = .bool (letterB c) ∧ Own h [] h' := by
  have hl := letterB_iff c
  refine Spec.enter Tryz.func59 rfl Tryz.ntmps59 (by kernel_rfl) ?_
  have o0 := Own.refl h
  refine StillVC.run (StillVC.bit rfl rfl rfl ?_)
  refine Br.dec (fun c11 => ?_) (fun c11 => ?_)
  refine StillVC.run (StillVC.bit rfl rfl rfl ?_)
  refine RetVC.one rfl ?_
  rotate_left
  refine RetVC.one rfl ?_
  · refine ⟨congrArg Value.bool ?_, o0⟩
    cases hb : letterB c with
    | false => rfl
    | true => exact absurd (hl.1 hb).1 (by assumption)
  · refine ⟨congrArg Value.bool ?_, o0⟩
    rw [Bool.eq_iff_iff, hl, decide_eq_true_iff]
    exact ⟨fun e => ⟨by assumption, e⟩, fun e => e.2⟩

set_option maxRecDepth 100000 in
theorem inner_spec (c : UInt8) (h : Heap) : SpecR Tryz.prog 61 [.int .u8 c.toNat] h fun r h' => r = .bool (innerB c) ∧ Own h [] h' := by
  unfold innerB
  refine Spec.enter Tryz.func61 rfl Tryz.ntmps61 (by kernel_rfl) ?_
  have o0 := Own.refl h
  refine CallVC.ret (letter_spec c _) ?_
  rintro _ h1 ⟨rfl, oa⟩
  have o1 := o0.ext' oa
  cases hb : letterB c with
  | true =>
    refine Br.tt ?_
    refine RetVC.one rfl ?_
    exact ⟨rfl, o1⟩
  | false =>
    refine Br.ff ?_
    refine CallVC.ret (digit_spec c _) ?_
    rintro _ h2 ⟨rfl, ob⟩
    have o2 := o1.ext' ob
    cases hd : digitB c with
    | true =>
      refine Br.tt ?_
      refine RetVC.one rfl ?_
      exact ⟨rfl, o2⟩
    | false =>
      refine Br.ff ?_
      refine RetVC.one rfl ?_
      refine ⟨congrArg Value.bool ?_, o2⟩
      simp only [Bool.or_self, Bool.false_or]
      exact decide_eq_decide.2 (by omega)

def notNl (c : UInt8) : Bool := decide (c.toNat ≠ 10)

set_option maxRecDepth 100000 in
theorem skip1_spec (c : UInt8) (h : Heap) : SpecR Tryz.prog 66 [.int .u8 c.toNat] h fun r h' => r = .bool (notNl c) ∧ Own h [] h' := by
  refine Spec.enter Tryz.func66 rfl Tryz.ntmps66 (by kernel_rfl) ?_
  have o0 := Own.refl h
  refine RetVC.one rfl ?_
  refine ⟨congrArg Value.bool ?_, o0⟩
  unfold notNl
  rw [← decide_not]
  exact decide_eq_decide.2 (by omega)

/- HOW MANY BYTES OF A KIND -/
def spanN (p : UInt8 → Bool) (l : List UInt8) : Nat := (l.takeWhile p).length

theorem spanN_le (p : UInt8 → Bool) (l : List UInt8) : spanN p l ≤ l.length := by
  unfold spanN
  exact (List.takeWhile_sublist p).length_le

theorem spanN_end {p : UInt8 → Bool} : ∀ {l : List UInt8} {n : Nat}, (∀ c ∈ l.take n, p c = true) → n ≤ l.length → (∀ c, l[n]? = some c → p c = false) → spanN p l = n
  | [], n, _, hn, _ => by simp at hn; subst hn; rfl
  | c :: l, 0, _, _, h => by
    have := h c rfl
    unfold spanN
    rw [List.takeWhile_cons, this]
    rfl
  | c :: l, n + 1, ha, hn, h => by
    have hc := ha c (by simp)
    have ih := spanN_end (p := p) (l := l) (n := n) (fun d hd => ha d (by simp [hd])) (by simpa using hn) (fun d hd => h d (by simpa using hd))
    unfold spanN at ih ⊢
    rw [List.takeWhile_cons, hc, if_pos rfl, List.length_cons, ih]

/-- The scan's object: its text, and where it stands. -/
def scanL (b : Nat) (t : List UInt8) (at_ : Nat) : Item := box b [.string ⟨⟨t⟩⟩, .int .i64 at_] 79

set_option maxRecDepth 100000 in
theorem run_spec (p : UInt8 → Bool) (g : Nat) (cap : List Value) (b : Nat) (t : List UInt8) (i : Nat) (h : Heap) (hi : i ≤ t.length) (hl : t.length ≤ 1000000)
    (h0 : cellAt h ⟨b, 0, none⟩ = some (.string ⟨⟨t⟩⟩)) (h1 : cellAt h ⟨b, 1, none⟩ = some (.int .i64 i))
    (hp : ∀ (c : UInt8) (h' : Heap), Ext h h' → SpecR Tryz.prog g (.int .u8 c.toNat :: cap) h' fun r h'' => r = .bool (p c) ∧ Own h' [] h'') :
    SpecR Tryz.prog 60 [.pointer (some ⟨b, 0, none⟩), .func (.func g) ⟨[]⟩ ⟨cap⟩] h fun r h' => r = .int .i64 (spanN p (t.drop i)) ∧ Own h [] h' := by
  refine Spec.enter Tryz.func60 rfl Tryz.ntmps60 (by kernel_rfl) ?_
  have o0 := Own.refl h
  refine LoopVC.intro [5, 6, 7, 8, 9, 10, 11, 12, 13, 14, 15, 16, 17, 18, 19, 20, 21, 22, 23, 24, 25, 26, 27, 28, 29, 30, 31, 32, 33, 34] [5] (fun vs hh => ∃ (n : Nat), i + n ≤ t.length ∧ vs = [.int .i64 n] ∧ (∀ c ∈ (t.drop i).take n, p c = true) ∧ Own h [] hh) (fun vs _ => match vs with | [.int _ n] => t.length - n.toNat | _ => 0) ?_ ?_
  · exact ⟨0, by omega, rfl, by simp, o0⟩
  · rintro vs junk hh ⟨n, hn, rfl, ha, oh⟩
    by_cases hlt : i + n < t.length
    · obtain ⟨c, hc⟩ := getx hlt
      have hc' : (t.drop i)[n]? = some c := by rw [List.getElem?_drop]; exact hc
      refine DrawVC.intro [0, 1, 2, 4, 5, 6, 7, 8, 10, 11, 12, 13, 14, 15, 16, 18, 19, 20, 22, 23, 24, 26] [3, 9, 17, 21] [25] [0, 1, 2, 3, 4, 5, 6, 7, 8, 9, 10, 11, 12, 13, 14, 15, 16, 17, 18, 19, 20, 21, 22, 23, 24, 25, 26] mixed (by kernel_rfl) rfl (fun _ _ _ _ h => h) ?_
      refine StillVC.nilCheck rfl ?_
      refine StillVC.fieldAddr st79 rfl rfl rfl ?_
      refine StillVC.load1 ty3 rfl (oh.old h1) ?_
      refine Ar.i64 (by omega) (by omega) ?_
      refine StillVC.nilCheck rfl ?_
      refine StillVC.fieldAddr st79 rfl rfl rfl ?_
      refine StillVC.load1 ty9 rfl (oh.old h0) ?_
      refine StillVC.lenS rfl str9 ?_
      refine Br.dec (fun c27 => ?_) (fun hc => absurd (by omega) hc)
      refine StillVC.nilCheck rfl ?_
      refine StillVC.fieldAddr st79 rfl rfl rfl ?_
      refine StillVC.load1 ty9 rfl (oh.old h0) ?_
      refine StillVC.nilCheck rfl ?_
      refine StillVC.fieldAddr st79 rfl rfl rfl ?_
      refine StillVC.load1 ty3 rfl (oh.old h1) ?_
      refine Ar.i64 (by omega) (by omega) ?_
      refine StillVC.strIdx rfl rfl str9 (by omega) (by assumption) ?_
      refine CallVC.ret (hp c _ (Own.ext (by assumption))) ?_
      rintro _ h2 ⟨rfl, ob⟩
      have o2 := oh.ext' ob
      cases hb : p c with
      | true =>
        refine Br.tt ?_
        refine Ar.i64 (by omega) (by omega) ?_
        refine ⟨rfl, ?_⟩
        refine ⟨⟨n + 1, by omega, rfl, fun d hd => ?_, o2⟩, by simp; omega⟩
        rw [List.take_add_one, hc'] at hd
        rcases List.mem_append.1 hd with hd | hd
        · exact ha d hd
        · simp at hd; subst hd; exact hb
      | false =>
        have : spanN p (t.drop i) = n := spanN_end ha (by simp; omega) (fun d hd => by rw [hc'] at hd; cases hd; exact hb)
        rw [this]
        refine Br.ff ?_
        refine RetVC.one rfl ?_
        exact ⟨rfl, o2⟩
    · have : spanN p (t.drop i) = n := spanN_end ha (by simp; omega) (fun d hd => by
        obtain ⟨hd', _⟩ := List.getElem?_eq_some_iff.1 hd
        simp at hd'
        omega)
      rw [this]
      refine DrawVC.intro [0, 1, 2, 4, 5, 6, 7, 8, 10, 11, 12, 13, 14, 15, 16, 18, 19, 20, 22, 23, 24, 26] [3, 9, 17, 21] [25] [0, 1, 2, 3, 4, 5, 6, 7, 8, 9, 10, 11, 12, 13, 14, 15, 16, 17, 18, 19, 20, 21, 22, 23, 24, 25, 26] mixed (by kernel_rfl) rfl (fun _ _ _ _ h => h) ?_
      refine StillVC.nilCheck rfl ?_
      refine StillVC.fieldAddr st79 rfl rfl rfl ?_
      refine StillVC.load1 ty3 rfl (oh.old h1) ?_
      refine Ar.i64 (by omega) (by omega) ?_
      refine StillVC.nilCheck rfl ?_
      refine StillVC.fieldAddr st79 rfl rfl rfl ?_
      refine StillVC.load1 ty9 rfl (oh.old h0) ?_
      refine StillVC.lenS rfl str9 ?_
      refine Br.dec (fun hc => absurd hc (by omega)) (fun c87 => ?_)
      refine Br.ff ?_
      refine RetVC.one rfl ?_
      exact ⟨rfl, oh⟩

end Go.Proofs.YtnmfanjhepepbaaGreatDoor

/- The lexer's readers: faults, names, numbers. -/
namespace Go.Proofs.YtnmfanjhepepbaaGreatDoor
open Go


/-- How a call ends that may panic. -/
def Ends (Post : Value → Heap → Prop) (Pan : List PanicEntry → Heap → Prop) : Ending → Heap → Prop
  | .returned v, h => Post v h
  | .panicked c, h => Pan c h
  | .outgrown, _ => False

theorem CallVC.ends {P : Program} {g : FuncId} {args s : List Value} {h : Heap} {K : KK} {Q : QQ} {Post : Value → Heap → Prop} {Pan : List PanicEntry → Heap → Prop}
    (sp : Spec P g args h (Ends Post Pan)) (hk : ∀ v h', Post v h' → K v false h') (hq : ∀ c h', Pan c h' → Q (.panic c) s h') : CallVC P g args s h K Q where
  spec := ⟨_, .inl sp, hk, hq, fun _ h => h.elim⟩

/-- The panic by which an error ends a scan. -/
def faultC (e : Int) (i : Nat) : List PanicEntry := [{ v := .iface 75 (.agg ⟨[.int .i64 e, .int .i64 i]⟩), recovered := false }]

/-- What a reader finds at the beginning of a text: a token (its kind, text, number and length), none, or an error. -/
inductive Rd where
  | tok (kind : Int) (text : List UInt8) (num : Int) (len : Nat)
  | none
  | err (e : Int)

def tokV (k : Int) (x : List UInt8) (n a : Int) : Value := .agg ⟨[.int .i64 k, .string ⟨⟨x⟩⟩, .int .i64 n, .int .i64 a]⟩

/-- How a reader ends. -/
def RdE (h : Heap) (i : Nat) (r : Rd) : Ending → Heap → Prop :=
  Ends (fun v h' => (match r with
      | .tok k x n l => v = .tuple ⟨[tokV k x n 0, .int .i64 l]⟩
      | .none => ∃ k x n a, v = .tuple ⟨[tokV k x n a, .int .i64 0]⟩
      | .err _ => False) ∧ Own h [] h')
    (fun c h' => (match r with
      | .err e => c = faultC e i
      | _ => False) ∧ Own h [] h')

set_option maxRecDepth 100000 in
theorem fail_spec (e : Int) (b : Nat) (_ : List UInt8) (i : Nat) (h : Heap) (h1 : cellAt h ⟨b, 1, none⟩ = some (.int .i64 i)) :
    Spec Tryz.prog 26 [.pointer (some ⟨b, 0, none⟩), .int .i64 e] h (Ends (fun _ _ => False) fun c h' => c = faultC e i ∧ Own h [] h') := by
  refine Spec.enter Tryz.func26 rfl Tryz.ntmps26 (by kernel_rfl) ?_
  have o0 := Own.refl h
  refine StillVC.run (StillVC.nilCheck rfl ?_)
  refine StillVC.run (StillVC.fieldAddr st79 rfl rfl rfl ?_)
  refine StillVC.run (StillVC.load1 ty3 rfl (by assumption) ?_)
  refine StillVC.run (StillVC.buildK st75 ?_)
  refine And.intro rfl ?_
  refine And.intro rfl ?_
  refine StillVC.run (StillVC.mkIface con75 rfl ?_)
  refine RunVC.panicI rfl ?_
  exact ⟨rfl, o0⟩

/-- A name at the beginning. -/
def nameR (l : List UInt8) : Rd :=
  match l with
  | [] => .none
  | c :: _ => if letterB c = true then (if 24 < spanN innerB l then .err 3 else .tok 1 (l.take (spanN innerB l)) 0 (spanN innerB l)) else .none

theorem nameR_at {t : List UInt8} {i : Nat} {c : UInt8} (hc : t[i]? = some c) : nameR (t.drop i) = if letterB c = true then (if 24 < spanN innerB (t.drop i) then .err 3 else .tok 1 ((t.drop i).take (spanN innerB (t.drop i))) 0 (spanN innerB (t.drop i))) else .none := by
  obtain ⟨hi, rfl⟩ := List.getElem?_eq_some_iff.1 hc
  rw [List.drop_eq_getElem_cons hi]
  rfl

set_option maxRecDepth 100000 in
theorem name_spec (b : Nat) (t : List UInt8) (i : Nat) (h : Heap) (hi : i < t.length) (hl : t.length ≤ 1000000)
    (h0 : cellAt h ⟨b, 0, none⟩ = some (.string ⟨⟨t⟩⟩)) (h1 : cellAt h ⟨b, 1, none⟩ = some (.int .i64 i)) :
    Spec Tryz.prog 21 [.pointer (some ⟨b, 0, none⟩)] h (RdE h i (nameR (t.drop i))) := by
  obtain ⟨c, hc⟩ := getx hi
  rw [nameR_at hc]
  have hsl := spanN_le innerB (t.drop i)
  have hdl : (t.drop i).length = t.length - i := by simp
  refine Spec.enter Tryz.func21 rfl Tryz.ntmps21 (by kernel_rfl) ?_
  have o0 := Own.refl h
  (refine RunVC.alloc o0 ty38 ?_; intro b10 m10 o10)
  refine DrawVC.intro [0, 1, 2, 4, 5, 6, 8, 10] [3, 7] [9] [0, 1, 2, 3, 4, 5, 6, 7, 8, 9, 10] mixed (by kernel_rfl) rfl (fun _ _ _ _ h => h) ?_
  refine StillVC.nilCheck rfl ?_
  refine StillVC.fieldAddr st79 rfl rfl rfl ?_
  refine StillVC.load1 ty9 rfl (o10.old h0) ?_
  refine StillVC.nilCheck rfl ?_
  refine StillVC.fieldAddr st79 rfl rfl rfl ?_
  refine StillVC.load1 ty3 rfl (o10.old h1) ?_
  refine StillVC.strIdx rfl rfl str9 (by omega) (by assumption) ?_
  refine CallVC.ret (letter_spec c _) ?_
  rintro _ h2 ⟨rfl, oa⟩
  have o2 := oa.thenE (by assumption)
  cases hb : letterB c with
  | false =>
    rw [if_neg (by decide)]
    refine Br.tt ?_
    refine StillVC.run (StillVC.buildK st38 ?_)
    (refine RunVC.storeL o2 0 rfl ty38 rfl (by decide) (And.intro ⟨rfl, rfl⟩ ?_); intro m21 o21)
    first | refine RetVC.cell2 rfl o21 0 rfl ty38 rfl rfl ?_ | refine RetVC.cell1 rfl o21 0 rfl ty38 rfl rfl ?_ | refine RetVC.cellTT rfl o21 0 rfl ty38 rfl rfl ?_
    exact ⟨⟨0, [], 0, 0, rfl⟩, Own.sel (by assumption) [] rfl⟩
  | true =>
    rw [if_pos rfl]
    refine Br.ff ?_
    refine CallVC.ret (run_spec innerB 61 [] b t i _ (by omega) hl (o2.old h0) (o2.old h1) (fun d h' e => inner_spec d h')) ?_
    rintro _ h3 ⟨rfl, ob⟩
    have o3 := ob.thenE (by assumption)
    by_cases hn : 24 < spanN innerB (t.drop i)
    · rw [if_pos hn]
      refine Br.dec (fun c60 => ?_) (fun hc => absurd (by omega) hc)
      exact CallVC.ends (fail_spec 3 b t i _ (o3.old h1)) (fun _ _ h => h.elim) (fun c h' ⟨hc, ho⟩ => ⟨hc, (ho.thenE o3).sel [] rfl⟩)
    · rw [if_neg hn]
      refine Br.dec (fun hc => absurd hc (by omega)) (fun c80 => ?_)
      refine DrawVC.intro [0, 1, 2, 4, 5, 6, 8, 9, 10, 12, 13, 14, 15, 16, 18] [3, 7, 11] [17] [0, 1, 2, 3, 4, 5, 6, 7, 8, 9, 10, 11, 12, 13, 14, 15, 16, 17, 18] mixed (by kernel_rfl) rfl (fun _ _ _ _ h => h) ?_
      refine StillVC.nilCheck rfl ?_
      refine StillVC.fieldAddr st79 rfl rfl rfl ?_
      refine StillVC.load1 ty9 rfl (o3.old h0) ?_
      refine StillVC.nilCheck rfl ?_
      refine StillVC.fieldAddr st79 rfl rfl rfl ?_
      refine StillVC.load1 ty3 rfl (o3.old h1) ?_
      refine StillVC.nilCheck rfl ?_
      refine StillVC.fieldAddr st79 rfl rfl rfl ?_
      refine StillVC.load1 ty3 rfl (o3.old h1) ?_
      refine Ar.i64 (by omega) (by omega) ?_
      refine StillVC.sliceS str9 rfl ⟨_, rfl⟩ ⟨_, rfl⟩ (by omega) (by omega) (by omega) ?_
      refine StillVC.buildK st38 ?_
      refine And.intro rfl ?_
      refine And.intro rfl ?_
      (refine RunVC.storeL o3 0 rfl ty38 rfl (by decide) (And.intro ⟨rfl, rfl⟩ ?_); intro m92 o92)
      first | refine RetVC.cell2 rfl o92 0 rfl ty38 rfl rfl ?_ | refine RetVC.cell1 rfl o92 0 rfl ty38 rfl rfl ?_ | refine RetVC.cellTT rfl o92 0 rfl ty38 rfl rfl ?_
      refine ⟨?_, Own.sel (by assumption) [] rfl⟩
      have e : List.drop (i : Int).toNat (List.take ((i : Int) + (spanN innerB (t.drop i) : Nat)).toNat t) = (t.drop i).take (spanN innerB (t.drop i)) := by
        rw [show ((i : Int) + (spanN innerB (t.drop i) : Nat)).toNat = i + spanN innerB (t.drop i) by omega, Int.toNat_natCast, List.drop_take]
        congr 1
        omega
      show Value.tuple _ = Value.tuple _
      rw [← e]
      rfl

end Go.Proofs.YtnmfanjhepepbaaGreatDoor

/- The lexer's readers: numbers and symbols. -/
namespace Go.Proofs.YtnmfanjhepepbaaGreatDoor
open Go


theorem digitVal_of {c : UInt8} (h : 48 ≤ c.toNat ∧ c.toNat ≤ 57) : Lib.digitVal c = some (c.toNat - 48) := if_pos h

theorem decFrom_digits : ∀ (l : List UInt8) (acc : Nat), (∀ c ∈ l, 48 ≤ c.toNat ∧ c.toNat ≤ 57) → Lib.decFrom acc l = some (l.foldl (fun n c => n * 10 + (c.toNat - 48)) acc)
  | [], acc, _ => rfl
  | c :: l, acc, h => by
    rw [Lib.decFrom, digitVal_of (h c (by simp))]
    exact decFrom_digits l _ (fun d hd => h d (by simp [hd]))

theorem atoi_digits {l : List UInt8} (hl : l ≠ []) (h : ∀ c ∈ l, 48 ≤ c.toNat ∧ c.toNat ≤ 57) : Lib.atoi l = some ((undec l : Nat) : Int) := by
  cases l with
  | nil => exact absurd rfl hl
  | cons b r =>
    have hb := h b (by simp)
    have h45 : (b == 45) = false := by
      rw [beq_eq_false_iff_ne]
      rintro rfl
      simp at hb
    have h43 : (b == 43) = false := by
      rw [beq_eq_false_iff_ne]
      rintro rfl
      simp at hb
    rw [Lib.atoi, h45, h43]
    simp only [Bool.false_eq_true, if_false, Lib.decNat, List.isEmpty_cons]
    rw [decFrom_digits _ _ h]
    rfl

theorem atoi_spec (l : List UInt8) (h : Heap) (hl : l.length ≤ 18) (hne : l ≠ []) (hd : ∀ c ∈ l, 48 ≤ c.toNat ∧ c.toNat ≤ 57) :
    SpecR Tryz.prog 63 [.string ⟨⟨l⟩⟩] h fun r h' => r = .tuple ⟨[.int .i64 (undec l), .nilIface]⟩ ∧ Own h [] h' := by
  refine ⟨⟨_, Tryz.func63, rfl, by kernel_rfl⟩, fun w hw => ?_⟩
  subst hw
  refine (Tryz.strconv_Atoi ⟨⟨l⟩⟩ (undec l) hl (atoi_digits hne hd) w).mono ?_
  rintro e w' ⟨rfl, t, rfl⟩
  have hb := Lib.bytesWorld_below w 5 t
  exact ⟨⟨hb.os, hb.tape, hb.output, hb.size⟩, rfl, Own.of_ext ⟨hb.size, hb.block⟩⟩

theorem indexByte_spec (l : List UInt8) (c : UInt8) (h : Heap) :
    SpecR Tryz.prog 64 [.string ⟨⟨l⟩⟩, .int .u8 c.toNat] h fun r h' => r = .int .i64 (Lib.indexByte l c) ∧ Own h [] h' := by
  refine ⟨⟨_, Tryz.func64, rfl, by kernel_rfl⟩, fun w hw => ?_⟩
  subst hw
  refine (Tryz.strings_IndexByte ⟨⟨l⟩⟩ c.toNat w).mono ?_
  rintro e w' ⟨rfl, rfl⟩
  refine ⟨.refl _, ?_, Own.refl _⟩
  have : ((c.toNat : Int).toNat).toUInt8 = c := by simp
  rw [this]

theorem hasPrefix_spec (l p : List UInt8) (h : Heap) :
    SpecR Tryz.prog 65 [.string ⟨⟨l⟩⟩, .string ⟨⟨p⟩⟩] h fun r h' => r = .bool (Lib.hasPrefix l p) ∧ Own h [] h' := by
  refine ⟨⟨_, Tryz.func65, rfl, by kernel_rfl⟩, fun w hw => ?_⟩
  subst hw
  refine (Tryz.strings_HasPrefix ⟨⟨l⟩⟩ ⟨⟨p⟩⟩ w).mono ?_
  rintro e w' ⟨rfl, rfl⟩
  exact ⟨.refl _, rfl, Own.refl _⟩

/-- A number at the beginning. -/
def numberR (l : List UInt8) : Rd :=
  if spanN digitB l = 0 then .none
  else if 10 < spanN digitB l ∨ spanN digitB l < spanN innerB l then .err 6
  else .tok 2 (l.take (spanN digitB l)) (undec (l.take (spanN digitB l))) (spanN digitB l)

theorem span_take (p : UInt8 → Bool) : ∀ (l : List UInt8), ∀ c ∈ l.take (spanN p l), p c = true
  | [], c, hc => by simp at hc
  | a :: l, c, hc => by
    unfold spanN at hc
    rw [List.takeWhile_cons] at hc
    cases ha : p a with
    | false => rw [ha] at hc; simp at hc
    | true =>
      rw [ha] at hc
      simp only [if_true, List.length_cons, List.take_succ_cons, List.mem_cons] at hc
      rcases hc with rfl | hc
      · exact ha
      · exact span_take p l c hc

theorem digitB_iff {c : UInt8} (h : digitB c = true) : 48 ≤ c.toNat ∧ c.toNat ≤ 57 := of_decide_eq_true h

set_option maxRecDepth 100000 in
theorem number_spec (b : Nat) (t : List UInt8) (i : Nat) (h : Heap) (hi : i < t.length) (hl : t.length ≤ 1000000)
    (h0 : cellAt h ⟨b, 0, none⟩ = some (.string ⟨⟨t⟩⟩)) (h1 : cellAt h ⟨b, 1, none⟩ = some (.int .i64 i)) :
    Spec Tryz.prog 22 [.pointer (some ⟨b, 0, none⟩)] h (RdE h i (numberR (t.drop i))) := by
  have hsl := spanN_le digitB (t.drop i)
  have hsi := spanN_le innerB (t.drop i)
  have hdl : (t.drop i).length = t.length - i := by simp
  have hst := span_take digitB (t.drop i)
  unfold numberR
  refine Spec.enter Tryz.func22 rfl Tryz.ntmps22 (by kernel_rfl) ?_
  have o0 := Own.refl h
  (refine RunVC.alloc o0 ty38 ?_; intro b10 m10 o10)
  refine CallVC.ret (run_spec digitB 62 [] b t i _ (by omega) hl (Own.old (by assumption) h0) (Own.old (by assumption) h1) (fun d h' e => digit_spec d h')) ?_
  rintro _ h2 ⟨rfl, oa⟩
  have o2 := oa.thenE (by assumption)
  by_cases hz : spanN digitB (t.drop i) = 0
  · rw [if_pos hz]
    refine Br.dec (fun c20 => ?_) (fun hc => absurd (by omega) hc)
    refine StillVC.run (StillVC.buildK st38 ?_)
    (refine RunVC.storeL o2 0 rfl ty38 rfl (by decide) (And.intro ⟨rfl, rfl⟩ ?_); intro m22 o22)
    first | refine RetVC.cell2 rfl o22 0 rfl ty38 rfl rfl ?_ | refine RetVC.cell1 rfl o22 0 rfl ty38 rfl rfl ?_ | refine RetVC.cellTT rfl o22 0 rfl ty38 rfl rfl ?_
    exact ⟨⟨0, [], 0, 0, rfl⟩, Own.sel (by assumption) [] rfl⟩
  · rw [if_neg hz]
    by_cases hbig : 10 < spanN digitB (t.drop i)
    · rw [if_pos (.inl hbig)]
      refine Br.dec (fun hc => absurd hc (by omega)) (fun c30 => ?_)
      refine Br.dec (fun c31 => ?_) (fun hc => absurd (by omega) hc)
      refine Br.tt ?_
      exact CallVC.ends (fail_spec 6 b t i _ (o2.old h1)) (fun _ _ h => h.elim) (fun c h' ⟨hc, ho⟩ => ⟨hc, (ho.thenE o2).sel [] rfl⟩)
    · refine Br.dec (fun hc => absurd hc (by omega)) (fun c40 => ?_)
      refine Br.dec (fun hc => absurd hc (by omega)) (fun c41 => ?_)
      refine CallVC.ret (run_spec innerB 61 [] b t i _ (by omega) hl (o2.old h0) (o2.old h1) (fun d h' e => inner_spec d h')) ?_
      rintro _ h3 ⟨rfl, ob⟩
      have o3 := ob.thenE (by assumption)
      by_cases hin : spanN digitB (t.drop i) < spanN innerB (t.drop i)
      · rw [if_pos (.inr hin)]
        refine Br.dec (fun c50 => ?_) (fun hc => absurd (by omega) hc)
        exact CallVC.ends (fail_spec 6 b t i _ (o3.old h1)) (fun _ _ h => h.elim) (fun c h' ⟨hc, ho⟩ => ⟨hc, (ho.thenE o3).sel [] rfl⟩)
      · rw [if_neg (by omega)]
        have e : List.drop (i : Int).toNat (List.take ((i : Int) + (spanN digitB (t.drop i) : Nat)).toNat t) = (t.drop i).take (spanN digitB (t.drop i)) := by
          rw [show ((i : Int) + (spanN digitB (t.drop i) : Nat)).toNat = i + spanN digitB (t.drop i) by omega, Int.toNat_natCast, List.drop_take]
          congr 1
          omega
        refine Br.dec (fun hc => absurd hc (by omega)) (fun c60 => ?_)
        refine DrawVC.intro [0, 1, 2, 4, 5, 6, 8, 9, 10, 12, 13, 14, 15] [3, 7, 11] [] [0, 1, 2, 3, 4, 5, 6, 7, 8, 9, 10, 11, 12, 13, 14, 15] mixed (by kernel_rfl) rfl (fun _ _ _ _ h => h) ?_
        refine StillVC.nilCheck rfl ?_
        refine StillVC.fieldAddr st79 rfl rfl rfl ?_
        refine StillVC.load1 ty9 rfl (o3.old h0) ?_
        refine StillVC.nilCheck rfl ?_
        refine StillVC.fieldAddr st79 rfl rfl rfl ?_
        refine StillVC.load1 ty3 rfl (o3.old h1) ?_
        refine StillVC.nilCheck rfl ?_
        refine StillVC.fieldAddr st79 rfl rfl rfl ?_
        refine StillVC.load1 ty3 rfl (o3.old h1) ?_
        refine Ar.i64 (by omega) (by omega) ?_
        refine StillVC.sliceS str9 rfl ⟨_, rfl⟩ ⟨_, rfl⟩ (by omega) (by omega) (by omega) ?_
        rw [e]
        refine CallVC.ret (atoi_spec ((t.drop i).take (spanN digitB (t.drop i))) _ (by simp; omega) (fun hh => by have := congrArg List.length hh; simp at this; omega) (fun c hc => digitB_iff (hst c hc))) ?_
        rintro _ h4 ⟨rfl, oc⟩
        have o4 := oc.thenE (by assumption)
        refine StillVC.run (StillVC.buildK st38 ?_)
        refine And.intro rfl ?_
        refine And.intro rfl ?_
        refine And.intro rfl ?_
        (refine RunVC.storeL o4 0 rfl ty38 rfl (by decide) (And.intro ⟨rfl, rfl⟩ ?_); intro m81 o81)
        first | refine RetVC.cell2 rfl o81 0 rfl ty38 rfl rfl ?_ | refine RetVC.cell1 rfl o81 0 rfl ty38 rfl rfl ?_ | refine RetVC.cellTT rfl o81 0 rfl ty38 rfl rfl ?_
        refine ⟨?_, Own.sel (by assumption) [] rfl⟩
        rfl

/- SYMBOLS -/
def symB : List UInt8 := [59, 58, 44, 46, 40, 41, 123, 125, 61, 60, 43, 45, 47, 64]

/-- The length of the symbol at the beginning. -/
def symN (l : List UInt8) : Nat := if Lib.hasPrefix l [33, 61] = true ∨ Lib.hasPrefix l [60, 61] = true then 2 else match l with
  | [] => 0
  | c :: _ => if c ∈ symB then 1 else 0

def symbolR (l : List UInt8) : Rd := if symN l = 0 then .none else .tok 4 (l.take (symN l)) 0 (symN l)

theorem indexByte_nonneg : ∀ (l : List UInt8) (c : UInt8), -1 ≤ Lib.indexByte l c ∧ (0 ≤ Lib.indexByte l c ↔ c ∈ l)
  | [], c => by simp [Lib.indexByte]
  | b :: l, c => by
    obtain ⟨h1, h2⟩ := indexByte_nonneg l c
    rw [Lib.indexByte]
    by_cases hb : b = c
    · subst hb
      simp
    · have hbe : (b == c) = false := beq_eq_false_iff_ne.2 hb
      rw [hbe]
      simp only [Bool.false_eq_true, if_false]
      by_cases hm : Lib.indexByte l c = -1
      · have hbm : (Lib.indexByte l c == -1) = true := by rw [hm]; rfl
        rw [hbm]
        have : c ∉ l := fun hc => by have := h2.2 hc; omega
        simp [this, Ne.symm hb]
      · have hbm : (Lib.indexByte l c == -1) = false := beq_eq_false_iff_ne.2 hm
        rw [hbm]
        simp only [Bool.false_eq_true, if_false]
        refine ⟨by omega, ?_⟩
        have : 0 ≤ Lib.indexByte l c := by omega
        simp [h2.1 this, Ne.symm hb]
        omega

theorem symN_at {t : List UInt8} {i : Nat} {c : UInt8} (hc : t[i]? = some c) : symN (t.drop i) = if Lib.hasPrefix (t.drop i) [33, 61] = true ∨ Lib.hasPrefix (t.drop i) [60, 61] = true then 2 else if c ∈ symB then 1 else 0 := by
  obtain ⟨hi, rfl⟩ := List.getElem?_eq_some_iff.1 hc
  rw [List.drop_eq_getElem_cons hi]
  rfl

theorem hasPrefix_len {l p : List UInt8} (h : Lib.hasPrefix l p = true) : p.length ≤ l.length := by
  unfold Lib.hasPrefix at h
  exact (List.isPrefixOf_iff_prefix.1 h).length_le

set_option maxRecDepth 100000 in
theorem symbol_spec (b : Nat) (t : List UInt8) (i : Nat) (h : Heap) (hi : i < t.length) (hl : t.length ≤ 1000000)
    (h0 : cellAt h ⟨b, 0, none⟩ = some (.string ⟨⟨t⟩⟩)) (h1 : cellAt h ⟨b, 1, none⟩ = some (.int .i64 i)) :
    Spec Tryz.prog 24 [.pointer (some ⟨b, 0, none⟩)] h (RdE h i (symbolR (t.drop i))) := by
  obtain ⟨c, hc⟩ := getx hi
  have hs := symN_at hc
  have hdl : (t.drop i).length = t.length - i := by simp
  have hc0 : (t.drop i)[0]? = some c := by rw [List.getElem?_drop]; exact hc
  unfold symbolR
  refine Spec.enter Tryz.func24 rfl Tryz.ntmps24 (by kernel_rfl) ?_
  have o0 := Own.refl h
  have er : List.drop (i : Int).toNat (List.take (Int.toNat (t.length : Nat)) t) = t.drop i := by simp
  (refine RunVC.alloc o0 ty38 ?_; intro b10 m10 o10)
  refine DrawVC.intro [0, 1, 2, 4, 5, 6, 8, 9] [3, 7] [] [0, 1, 2, 3, 4, 5, 6, 7, 8, 9] mixed (by kernel_rfl) rfl (fun _ _ _ _ h => h) ?_
  refine StillVC.nilCheck rfl ?_
  refine StillVC.fieldAddr st79 rfl rfl rfl ?_
  refine StillVC.load1 ty9 rfl (o10.old h0) ?_
  refine StillVC.nilCheck rfl ?_
  refine StillVC.fieldAddr st79 rfl rfl rfl ?_
  refine StillVC.load1 ty3 rfl (o10.old h1) ?_
  refine StillVC.sliceS str9 rfl ⟨_, rfl⟩ rfl (by omega) (by omega) (by omega) ?_
  rw [er]
  refine CallVC.ret (hasPrefix_spec (t.drop i) [33, 61] _) ?_
  rintro _ h2 ⟨rfl, oa⟩
  have o2 := oa.thenE (by assumption)
  cases hp1 : Lib.hasPrefix (t.drop i) [33, 61] with
  | true =>
    have : 2 ≤ (t.drop i).length := hasPrefix_len hp1
    have hn : symN (t.drop i) = 2 := by rw [hs, if_pos (.inl hp1)]
    rw [hn]
    refine Br.tt ?_
    refine Br.tt ?_
    refine StillVC.run (StillVC.sliceS str9 rfl rfl ⟨_, rfl⟩ (by omega) (by omega) (by omega) ?_)
    refine StillVC.run (StillVC.buildK st38 ?_)
    refine And.intro rfl ?_
    refine And.intro rfl ?_
    (refine RunVC.storeL o2 0 rfl ty38 rfl (by decide) (And.intro ⟨rfl, rfl⟩ ?_); intro m22 o22)
    first | refine RetVC.cell2 rfl o22 0 rfl ty38 rfl rfl ?_ | refine RetVC.cell1 rfl o22 0 rfl ty38 rfl rfl ?_ | refine RetVC.cellTT rfl o22 0 rfl ty38 rfl rfl ?_
    exact ⟨rfl, Own.sel (by assumption) [] rfl⟩
  | false =>
    refine Br.ff ?_
    refine CallVC.ret (hasPrefix_spec (t.drop i) [60, 61] _) ?_
    rintro _ h3 ⟨rfl, ob⟩
    have o3 := ob.thenE (by assumption)
    cases hp2 : Lib.hasPrefix (t.drop i) [60, 61] with
    | true =>
      have : 2 ≤ (t.drop i).length := hasPrefix_len hp2
      have hn : symN (t.drop i) = 2 := by rw [hs, if_pos (.inr hp2)]
      rw [hn]
      refine Br.tt ?_
      refine StillVC.run (StillVC.sliceS str9 rfl rfl ⟨_, rfl⟩ (by omega) (by omega) (by omega) ?_)
      refine StillVC.run (StillVC.buildK st38 ?_)
      refine And.intro rfl ?_
      refine And.intro rfl ?_
      (refine RunVC.storeL o3 0 rfl ty38 rfl (by decide) (And.intro ⟨rfl, rfl⟩ ?_); intro m62 o62)
      first | refine RetVC.cell2 rfl o62 0 rfl ty38 rfl rfl ?_ | refine RetVC.cell1 rfl o62 0 rfl ty38 rfl rfl ?_ | refine RetVC.cellTT rfl o62 0 rfl ty38 rfl rfl ?_
      exact ⟨rfl, Own.sel (by assumption) [] rfl⟩
    | false =>
      rw [if_neg (by rw [hp1, hp2]; simp)] at hs
      have hib := indexByte_nonneg symB c
      refine Br.ff ?_
      refine StillVC.run (StillVC.strIdx rfl rfl str9 (by omega) (by assumption) ?_)
      refine CallVC.ret (indexByte_spec symB c _) ?_
      rintro _ h4 ⟨rfl, od⟩
      have o4 := od.thenE (by assumption)
      generalize Lib.indexByte symB c = q at *
      by_cases hm : c ∈ symB
      · have hn : symN (t.drop i) = 1 := by rw [hs, if_pos hm]
        rw [hn]
        have hq := hib.2.2 hm
        refine Br.dec (fun c90 => ?_) (fun hc => absurd (by omega) hc)
        refine StillVC.run (StillVC.sliceS str9 rfl rfl ⟨_, rfl⟩ (by omega) (by omega) (by omega) ?_)
        refine StillVC.run (StillVC.buildK st38 ?_)
        refine And.intro rfl ?_
        refine And.intro rfl ?_
        (refine RunVC.storeL o4 0 rfl ty38 rfl (by decide) (And.intro ⟨rfl, rfl⟩ ?_); intro m93 o93)
        first | refine RetVC.cell2 rfl o93 0 rfl ty38 rfl rfl ?_ | refine RetVC.cell1 rfl o93 0 rfl ty38 rfl rfl ?_ | refine RetVC.cellTT rfl o93 0 rfl ty38 rfl rfl ?_
        exact ⟨rfl, Own.sel (by assumption) [] rfl⟩
      · have hn : symN (t.drop i) = 0 := by rw [hs, if_neg hm]
        rw [hn]
        have hq : ¬ 0 ≤ q := fun e => hm (hib.2.1 e)
        refine Br.dec (fun hc => absurd hc (by omega)) (fun c110 => ?_)
        refine StillVC.run (StillVC.sliceS str9 rfl rfl ⟨_, rfl⟩ (by omega) (by omega) (by omega) ?_)
        refine StillVC.run (StillVC.buildK st38 ?_)
        refine And.intro rfl ?_
        refine And.intro rfl ?_
        (refine RunVC.storeL o4 0 rfl ty38 rfl (by decide) (And.intro ⟨rfl, rfl⟩ ?_); intro m113 o113)
        first | refine RetVC.cell2 rfl o113 0 rfl ty38 rfl rfl ?_ | refine RetVC.cell1 rfl o113 0 rfl ty38 rfl rfl ?_ | refine RetVC.cellTT rfl o113 0 rfl ty38 rfl rfl ?_
        exact ⟨⟨4, [], 0, 0, rfl⟩, Own.sel (by assumption) [] rfl⟩

end Go.Proofs.YtnmfanjhepepbaaGreatDoor

/- The lexer's gaps. -/
namespace Go.Proofs.YtnmfanjhepepbaaGreatDoor
open Go

/-- How many bytes are gaps; within a comment or not. -/
def gapF (comment : Bool) : List UInt8 → Nat
  | [] => 0
  | c :: r => if c.toNat = 10 then 1 + gapF false r else if c.toNat = 35 then 1 + gapF true r else if comment = false ∧ c.toNat ≠ 32 ∧ c.toNat ≠ 9 then 0 else 1 + gapF comment r

theorem gapF_le : ∀ (k : Bool) (l : List UInt8), gapF k l ≤ l.length
  | _, [] => Nat.le_refl _
  | k, c :: r => by
    have h1 := gapF_le false r
    have h2 := gapF_le true r
    have h3 := gapF_le k r
    unfold gapF
    split
    · simp; omega
    · split
      · simp; omega
      · split
        · simp
        · simp; omega

theorem gapF_comment : ∀ (l : List UInt8), gapF true l = spanN notNl l + gapF false (l.drop (spanN notNl l))
  | [] => rfl
  | c :: r => by
    have ih := gapF_comment r
    by_cases hc : c.toNat = 10
    · have hn : notNl c = false := by simp [notNl, hc]
      have hs : spanN notNl (c :: r) = 0 := by unfold spanN; rw [List.takeWhile_cons, hn]; rfl
      rw [hs]
      simp [gapF, hc]
    · have hn : notNl c = true := by simp [notNl, hc]
      have hs : spanN notNl (c :: r) = spanN notNl r + 1 := by unfold spanN; rw [List.takeWhile_cons, hn]; rfl
      rw [hs, List.drop_succ_cons]
      have : gapF true (c :: r) = 1 + gapF true r := by
        rw [gapF, if_neg hc]
        by_cases h35 : c.toNat = 35
        · rw [if_pos h35]
        · rw [if_neg h35, if_neg (by simp)]
      rw [this, ih]
      omega

theorem gapF_hash {c : UInt8} {r : List UInt8} (hc : c.toNat = 35) : gapF false (c :: r) = spanN notNl (c :: r) + gapF false ((c :: r).drop (spanN notNl (c :: r))) := by
  rw [← gapF_comment]
  simp [gapF, hc]

theorem gapF_at {t : List UInt8} {j : Nat} {c : UInt8} (hc : t[j]? = some c) :
    gapF false (t.drop j) = if c.toNat = 10 then 1 + gapF false (t.drop (j + 1)) else if c.toNat = 35 then 1 + gapF true (t.drop (j + 1)) else if c.toNat ≠ 32 ∧ c.toNat ≠ 9 then 0 else 1 + gapF false (t.drop (j + 1)) := by
  obtain ⟨hj, rfl⟩ := List.getElem?_eq_some_iff.1 hc
  rw [List.drop_eq_getElem_cons hj, gapF]
  simp only [true_and]

theorem gapF_hash_at {t : List UInt8} {j : Nat} {c : UInt8} (hc : t[j]? = some c) (h35 : c.toNat = 35) :
    gapF false (t.drop j) = spanN notNl (t.drop j) + gapF false (t.drop (j + spanN notNl (t.drop j))) ∧ 0 < spanN notNl (t.drop j) := by
  obtain ⟨hj, rfl⟩ := List.getElem?_eq_some_iff.1 hc
  constructor
  · have := gapF_hash (r := t.drop (j + 1)) h35
    rw [← List.drop_eq_getElem_cons hj, List.drop_drop] at this
    exact this
  · have hn : notNl t[j] = true := by simp [notNl, h35]
    rw [List.drop_eq_getElem_cons hj]
    unfold spanN
    rw [List.takeWhile_cons, hn]
    simp

/-- What is left ahead of the scan. -/
def leftM (b : Nat) (t : List UInt8) (hh : Heap) : Nat :=
  match cellAt hh ⟨b, 1, none⟩ with
  | some (.int _ n) => t.length - n.toNat
  | _ => 0

theorem leftM_of {B : Base} {b j : Nat} {t : List UInt8} {h : Heap} {ty : TypeId} (o : Own B [box b [.string ⟨⟨t⟩⟩, .int .i64 j] ty] h) : leftM b t h = t.length - j := by
  unfold leftM
  rw [o.cellB 0 rfl 1]
  simp

set_option maxRecDepth 100000 in
theorem skip_spec (B : Base) (b : Nat) (t : List UInt8) (i : Nat) (h : Heap) (hi : i ≤ t.length) (hl : t.length ≤ 1000000)
    (o0 : Own B [box b [.string ⟨⟨t⟩⟩, .int .i64 i] 79] h) :
    SpecR Tryz.prog 25 [.pointer (some ⟨b, 0, none⟩)] h fun r h' => r = .tuple #[] ∧ Own B [box b [.string ⟨⟨t⟩⟩, .int .i64 (i + gapF false (t.drop i) : Nat)] 79] h' := by
  refine Spec.enter Tryz.func25 rfl Tryz.ntmps25 (by kernel_rfl) ?_
  refine LoopVC.intro [2, 3, 4, 5, 6, 7, 8, 9, 10, 11, 12, 13, 14, 15, 16, 17, 18, 19, 20, 21, 22, 23, 24, 25, 26, 27, 28, 29, 30, 31, 32, 33, 34, 35, 36, 37, 38, 39, 40, 41, 42] [] (fun vs hh => vs = [] ∧ ∃ (j : Nat), j ≤ t.length ∧ j + gapF false (t.drop j) = i + gapF false (t.drop i) ∧ Own B [box b [.string ⟨⟨t⟩⟩, .int .i64 j] 79] hh) (fun _ hh => leftM b t hh) ?_ ?_
  · exact ⟨rfl, i, hi, rfl, o0⟩
  · rintro vs junk hh ⟨rfl, j, hj, hg, oh⟩
    have hm := leftM_of oh
    by_cases hlt : j < t.length
    · obtain ⟨c, hc⟩ := getx hlt
      have ha := gapF_at hc
      have h1 := gapF_le false (t.drop (j + 1))
      have h35' := fun h => gapF_hash_at hc h
      by_cases h10 : c.toNat = 32 ∨ c.toNat = 9 ∨ c.toNat = 10
      · have hstep : gapF false (t.drop j) = 1 + gapF false (t.drop (j + 1)) := by
          rw [ha]
          by_cases h1 : c.toNat = 10
          · rw [if_pos h1]
          · rw [if_neg h1, if_neg (by omega), if_neg (by omega)]
        refine DrawVC.intro [0, 1, 2, 4, 5, 6, 8, 9] [3, 7] [] [0, 1, 2, 3, 4, 5, 6, 7, 8, 9] mixed (by kernel_rfl) rfl (fun _ _ _ _ h => h) ?_
        refine StillVC.nilCheck rfl ?_
        refine StillVC.fieldAddr st79 rfl rfl rfl ?_
        refine StillVC.loadO oh 0 rfl ty3 rfl rfl ?_
        refine StillVC.nilCheck rfl ?_
        refine StillVC.fieldAddr st79 rfl rfl rfl ?_
        refine StillVC.loadO oh 0 rfl ty9 rfl rfl ?_
        refine StillVC.lenS rfl str9 ?_
        refine Br.dec (fun c27 => ?_) (fun hc => absurd (by omega) hc)
        refine DrawVC.intro [0, 1, 2, 4, 5, 6, 8] [3, 7] [] [0, 1, 2, 3, 4, 5, 6, 7, 8] mixed (by kernel_rfl) rfl (fun _ _ _ _ h => h) ?_
        refine StillVC.nilCheck rfl ?_
        refine StillVC.fieldAddr st79 rfl rfl rfl ?_
        refine StillVC.loadO oh 0 rfl ty9 rfl rfl ?_
        refine StillVC.nilCheck rfl ?_
        refine StillVC.fieldAddr st79 rfl rfl rfl ?_
        refine StillVC.loadO oh 0 rfl ty3 rfl rfl ?_
        refine StillVC.strIdx rfl rfl str9 (by omega) (by assumption) ?_
        refine Br.dec (fun c35 => ?_) (fun c35 => ?_)
        refine Br.dec (fun c36 => ?_) (fun hc => absurd (by omega) hc)
        refine StillVC.run (StillVC.nilCheck rfl ?_)
        refine StillVC.run (StillVC.fieldAddr st79 rfl rfl rfl ?_)
        refine StillVC.run (StillVC.loadO oh 0 rfl ty3 rfl rfl ?_)
        refine Ar.i64 (by omega) (by omega) ?_
        refine StillVC.run (StillVC.nilCheck rfl ?_)
        refine StillVC.run (StillVC.fieldAddr st79 rfl rfl rfl ?_)
        (refine RunVC.store oh 0 rfl ty3 rfl (by simp) (And.intro ⟨rfl, rfl⟩ ?_); intro m42 o42)
        refine ⟨rfl, ?_⟩
        rotate_left
        refine Br.dec (fun c43 => ?_) (fun c43 => ?_)
        refine Br.dec (fun c44 => ?_) (fun hc => absurd (by omega) hc)
        refine StillVC.run (StillVC.nilCheck rfl ?_)
        refine StillVC.run (StillVC.fieldAddr st79 rfl rfl rfl ?_)
        refine StillVC.run (StillVC.loadO oh 0 rfl ty3 rfl rfl ?_)
        refine Ar.i64 (by omega) (by omega) ?_
        refine StillVC.run (StillVC.nilCheck rfl ?_)
        refine StillVC.run (StillVC.fieldAddr st79 rfl rfl rfl ?_)
        (refine RunVC.store oh 0 rfl ty3 rfl (by simp) (And.intro ⟨rfl, rfl⟩ ?_); intro m50 o50)
        refine ⟨rfl, ?_⟩
        rotate_left
        refine Br.dec (fun c51 => ?_) (fun hc => absurd (by omega) hc)
        refine StillVC.run (StillVC.nilCheck rfl ?_)
        refine StillVC.run (StillVC.fieldAddr st79 rfl rfl rfl ?_)
        refine StillVC.run (StillVC.loadO oh 0 rfl ty3 rfl rfl ?_)
        refine Ar.i64 (by omega) (by omega) ?_
        refine StillVC.run (StillVC.nilCheck rfl ?_)
        refine StillVC.run (StillVC.fieldAddr st79 rfl rfl rfl ?_)
        (refine RunVC.store oh 0 rfl ty3 rfl (by simp) (And.intro ⟨rfl, rfl⟩ ?_); intro m57 o57)
        refine ⟨rfl, ?_⟩
        all_goals
          refine ⟨⟨rfl, j + 1, by omega, by omega, by assumption⟩, ?_⟩
          rw [hm, leftM_of (j := j + 1) (ty := 79) (by assumption)]
          omega
      · by_cases h35 : c.toNat = 35
        · obtain ⟨hs1, hs2⟩ := h35' h35
          have hsl := spanN_le notNl (t.drop j)
          have hdl : (t.drop j).length = t.length - j := by simp
          refine DrawVC.intro [0, 1, 2, 4, 5, 6, 8, 9] [3, 7] [] [0, 1, 2, 3, 4, 5, 6, 7, 8, 9] mixed (by kernel_rfl) rfl (fun _ _ _ _ h => h) ?_
          refine StillVC.nilCheck rfl ?_
          refine StillVC.fieldAddr st79 rfl rfl rfl ?_
          refine StillVC.loadO oh 0 rfl ty3 rfl rfl ?_
          refine StillVC.nilCheck rfl ?_
          refine StillVC.fieldAddr st79 rfl rfl rfl ?_
          refine StillVC.loadO oh 0 rfl ty9 rfl rfl ?_
          refine StillVC.lenS rfl str9 ?_
          refine Br.dec (fun c47 => ?_) (fun hc => absurd (by omega) hc)
          refine DrawVC.intro [0, 1, 2, 4, 5, 6, 8] [3, 7] [] [0, 1, 2, 3, 4, 5, 6, 7, 8] mixed (by kernel_rfl) rfl (fun _ _ _ _ h => h) ?_
          refine StillVC.nilCheck rfl ?_
          refine StillVC.fieldAddr st79 rfl rfl rfl ?_
          refine StillVC.loadO oh 0 rfl ty9 rfl rfl ?_
          refine StillVC.nilCheck rfl ?_
          refine StillVC.fieldAddr st79 rfl rfl rfl ?_
          refine StillVC.loadO oh 0 rfl ty3 rfl rfl ?_
          refine StillVC.strIdx rfl rfl str9 (by omega) (by assumption) ?_
          refine Br.dec (fun hc => absurd hc (by omega)) (fun c55 => ?_)
          refine Br.dec (fun hc => absurd hc (by omega)) (fun c56 => ?_)
          refine Br.dec (fun hc => absurd hc (by omega)) (fun c57 => ?_)
          refine Br.dec (fun c58 => ?_) (fun hc => absurd (by omega) hc)
          refine DrawVC.intro [0, 1, 2, 4, 6, 7, 8] [3] [9] [0, 1, 2, 3, 4, 5, 6, 7, 8, 9] mixed (by kernel_rfl) rfl (fun _ _ _ _ h => h) ?_
          refine StillVC.nilCheck rfl ?_
          refine StillVC.fieldAddr st79 rfl rfl rfl ?_
          refine StillVC.loadO oh 0 rfl ty3 rfl rfl ?_
          refine CallVC.ret (run_spec notNl 66 [] b t j _ hj hl (oh.cellB 0 rfl 0) (oh.cellB 0 rfl 1) (fun d h' e => skip1_spec d h')) ?_
          rintro _ h2 ⟨rfl, ob⟩
          have o2 := ob.thenE (by assumption)
          generalize spanN notNl (t.drop j) = n at *
          refine And.intro ob.ext ?_
          refine Ar.i64 (by omega) (by omega) ?_
          refine StillVC.nilCheck rfl ?_
          refine StillVC.fieldAddr st79 rfl rfl rfl ?_
          (refine RunVC.store o2 0 rfl ty3 rfl (by simp) (And.intro ⟨rfl, rfl⟩ ?_); intro m72 o72)
          refine ⟨rfl, ?_⟩
          all_goals
            refine ⟨⟨rfl, j + n, by omega, by omega, by assumption⟩, ?_⟩
            rw [hm, leftM_of (j := j + n) (ty := 79) (by assumption)]
            omega
        · have hz : gapF false (t.drop j) = 0 := by rw [ha, if_neg (by omega), if_neg h35, if_pos (by omega)]
          rw [← hg, hz, Nat.add_zero]
          refine DrawVC.intro [0, 1, 2, 4, 5, 6, 8, 9] [3, 7] [] [0, 1, 2, 3, 4, 5, 6, 7, 8, 9] mixed (by kernel_rfl) rfl (fun _ _ _ _ h => h) ?_
          refine StillVC.nilCheck rfl ?_
          refine StillVC.fieldAddr st79 rfl rfl rfl ?_
          refine StillVC.loadO oh 0 rfl ty3 rfl rfl ?_
          refine StillVC.nilCheck rfl ?_
          refine StillVC.fieldAddr st79 rfl rfl rfl ?_
          refine StillVC.loadO oh 0 rfl ty9 rfl rfl ?_
          refine StillVC.lenS rfl str9 ?_
          refine Br.dec (fun c87 => ?_) (fun hc => absurd (by omega) hc)
          refine DrawVC.intro [0, 1, 2, 4, 5, 6, 8] [3, 7] [] [0, 1, 2, 3, 4, 5, 6, 7, 8] mixed (by kernel_rfl) rfl (fun _ _ _ _ h => h) ?_
          refine StillVC.nilCheck rfl ?_
          refine StillVC.fieldAddr st79 rfl rfl rfl ?_
          refine StillVC.loadO oh 0 rfl ty9 rfl rfl ?_
          refine StillVC.nilCheck rfl ?_
          refine StillVC.fieldAddr st79 rfl rfl rfl ?_
          refine StillVC.loadO oh 0 rfl ty3 rfl rfl ?_
          refine StillVC.strIdx rfl rfl str9 (by omega) (by assumption) ?_
          refine Br.dec (fun hc => absurd hc (by omega)) (fun c95 => ?_)
          refine Br.dec (fun hc => absurd hc (by omega)) (fun c96 => ?_)
          refine Br.dec (fun hc => absurd hc (by omega)) (fun c97 => ?_)
          refine Br.dec (fun hc => absurd hc (by omega)) (fun c98 => ?_)
          refine RetVC.zero rfl ?_
          exact ⟨rfl, oh⟩
    · have hz : gapF false (t.drop j) = 0 := by rw [List.drop_of_length_le (by omega)]; rfl
      rw [← hg, hz, Nat.add_zero]
      refine DrawVC.intro [0, 1, 2, 4, 5, 6, 8, 9] [3, 7] [] [0, 1, 2, 3, 4, 5, 6, 7, 8, 9] mixed (by kernel_rfl) rfl (fun _ _ _ _ h => h) ?_
      refine StillVC.nilCheck rfl ?_
      refine StillVC.fieldAddr st79 rfl rfl rfl ?_
      refine StillVC.loadO oh 0 rfl ty3 rfl rfl ?_
      refine StillVC.nilCheck rfl ?_
      refine StillVC.fieldAddr st79 rfl rfl rfl ?_
      refine StillVC.loadO oh 0 rfl ty9 rfl rfl ?_
      refine StillVC.lenS rfl str9 ?_
      refine Br.dec (fun hc => absurd hc (by omega)) (fun c97 => ?_)
      refine RetVC.zero rfl ?_
      exact ⟨rfl, oh⟩

end Go.Proofs.YtnmfanjhepepbaaGreatDoor

/- The lexer's texts in quotes. -/
namespace Go.Proofs.YtnmfanjhepepbaaGreatDoor
open Go

/-- What stands for an escaped byte. -/
def escB (d : UInt8) : Option UInt8 := if d.toNat = 34 then some 34 else if d.toNat = 92 then some 92 else if d.toNat = 110 then some 10 else none

/-- The content of a text behind its first quote: what was read so far, and how many bytes that were. -/
def quoF : List UInt8 → List UInt8 → Nat → Rd
  | [], _, _ => .err 7
  | [c], acc, k => if c.toNat = 34 then (if 200 < acc.length then .err 3 else .tok 3 acc 0 (k + 2)) else if c.toNat = 10 then .err 5 else .err 7
  | c :: d :: r, acc, k =>
    if c.toNat = 34 then (if 200 < acc.length then .err 3 else .tok 3 acc 0 (k + 2))
    else if c.toNat = 10 then .err 5
    else if c.toNat = 92 then (match escB d with
      | none => .err 5
      | some x => quoF r (acc ++ [x]) (k + 2))
    else quoF (d :: r) (acc ++ [c]) (k + 1)

def quotedR (l : List UInt8) : Rd :=
  match l with
  | [] => .none
  | c :: r => if c.toNat = 34 then quoF r [] 0 else .none

theorem quotedR_at {t : List UInt8} {i : Nat} {c : UInt8} (hc : t[i]? = some c) : quotedR (t.drop i) = if c.toNat = 34 then quoF (t.drop (i + 1)) [] 0 else .none := by
  obtain ⟨hi, rfl⟩ := List.getElem?_eq_some_iff.1 hc
  rw [List.drop_eq_getElem_cons hi]
  rfl

theorem quoF_quote {l acc : List UInt8} {j : Nat} {x : UInt8} (hx : l[j]? = some x) (h : x.toNat = 34) : quoF (l.drop j) acc j = if 200 < acc.length then .err 3 else .tok 3 acc 0 (j + 2) := by
  obtain ⟨hj, rfl⟩ := List.getElem?_eq_some_iff.1 hx
  rw [List.drop_eq_getElem_cons hj]
  generalize l[j] = x at *
  cases l.drop (j + 1) with
  | nil => rw [quoF, if_pos h]
  | cons d r => rw [quoF, if_pos h]

theorem quoF_nl {l acc : List UInt8} {j : Nat} {x : UInt8} (hx : l[j]? = some x) (h : x.toNat = 10) : quoF (l.drop j) acc j = .err 5 := by
  obtain ⟨hj, rfl⟩ := List.getElem?_eq_some_iff.1 hx
  rw [List.drop_eq_getElem_cons hj]
  generalize l[j] = x at *
  cases l.drop (j + 1) with
  | nil => rw [quoF, if_neg (by omega), if_pos h]
  | cons d r => rw [quoF, if_neg (by omega), if_pos h]

theorem quoF_other {l acc : List UInt8} {j : Nat} {x : UInt8} (hx : l[j]? = some x) (h1 : x.toNat ≠ 34) (h2 : x.toNat ≠ 10) (h3 : x.toNat ≠ 92) : quoF (l.drop j) acc j = quoF (l.drop (j + 1)) (acc ++ [x]) (j + 1) := by
  obtain ⟨hj, rfl⟩ := List.getElem?_eq_some_iff.1 hx
  rw [List.drop_eq_getElem_cons hj]
  generalize l[j] = x at *
  cases l.drop (j + 1) with
  | nil => simp only [quoF, if_neg h1, if_neg h2]
  | cons d r => rw [quoF, if_neg h1, if_neg h2, if_neg h3]

theorem quoF_esc {l acc : List UInt8} {j : Nat} {x d : UInt8} (hx : l[j]? = some x) (h : x.toNat = 92) (hd : l[j + 1]? = some d) : quoF (l.drop j) acc j = match escB d with
    | none => .err 5
    | some y => quoF (l.drop (j + 2)) (acc ++ [y]) (j + 2) := by
  obtain ⟨hj, rfl⟩ := List.getElem?_eq_some_iff.1 hx
  obtain ⟨hj1, rfl⟩ := List.getElem?_eq_some_iff.1 hd
  rw [List.drop_eq_getElem_cons hj, List.drop_eq_getElem_cons hj1, quoF, if_neg (by omega), if_neg (by omega), if_pos h]

theorem quoF_end {l acc : List UInt8} {j : Nat} {x : UInt8} (hx : l[j]? = some x) (h : x.toNat = 92) (hd : l.length = j + 1) : quoF (l.drop j) acc j = .err 7 := by
  obtain ⟨hj, rfl⟩ := List.getElem?_eq_some_iff.1 hx
  rw [List.drop_eq_getElem_cons hj, List.drop_of_length_le (by omega), quoF, if_neg (by omega), if_neg (by omega)]

set_option maxHeartbeats 4000000 in
set_option maxRecDepth 100000 in
theorem quoted_spec (b : Nat) (t : List UInt8) (i : Nat) (h : Heap) (hi : i < t.length) (hl : t.length ≤ 1000000)
    (h0 : cellAt h ⟨b, 0, none⟩ = some (.string ⟨⟨t⟩⟩)) (h1 : cellAt h ⟨b, 1, none⟩ = some (.int .i64 i)) :
    Spec Tryz.prog 23 [.pointer (some ⟨b, 0, none⟩)] h (RdE h i (quotedR (t.drop i))) := by
  obtain ⟨c, hc⟩ := getx hi
  rw [quotedR_at hc]
  refine Spec.enter Tryz.func23 rfl Tryz.ntmps23 (by kernel_rfl) ?_
  have o0 := Own.refl h
  by_cases hq : c.toNat = 34
  · rw [if_pos hq]
    (refine RunVC.alloc o0 ty38 ?_; intro b10 m10 o10)
    refine DrawVC.intro [0, 1, 2, 4, 5, 6, 8, 9] [3, 7] [] [0, 1, 2, 3, 4, 5, 6, 7, 8, 9] mixed (by kernel_rfl) rfl (fun _ _ _ _ h => h) ?_
    refine StillVC.nilCheck rfl ?_
    refine StillVC.fieldAddr st79 rfl rfl rfl ?_
    refine StillVC.load1 ty9 rfl (o10.old h0) ?_
    refine StillVC.nilCheck rfl ?_
    refine StillVC.fieldAddr st79 rfl rfl rfl ?_
    refine StillVC.load1 ty3 rfl (o10.old h1) ?_
    refine StillVC.strIdx rfl rfl str9 (by omega) (by assumption) ?_
    refine Br.ndec (fun hc => absurd (by first | omega | assumption | decide | exact rfl) hc) (fun c18 => ?_)
    refine DrawVC.intro [0, 1, 2, 4, 5, 6, 8, 9, 10] [3, 7] [] [0, 1, 2, 3, 4, 5, 6, 7, 8, 9, 10] mixed (by kernel_rfl) rfl (fun _ _ _ _ h => h) ?_
    refine StillVC.nilCheck rfl ?_
    refine StillVC.fieldAddr st79 rfl rfl rfl ?_
    refine StillVC.load1 ty9 rfl (o10.old h0) ?_
    refine StillVC.nilCheck rfl ?_
    refine StillVC.fieldAddr st79 rfl rfl rfl ?_
    refine StillVC.load1 ty3 rfl (o10.old h1) ?_
    refine Ar.i64 (by omega) (by omega) ?_
    refine StillVC.sliceS str9 rfl ⟨_, rfl⟩ rfl (by omega) (by omega) (by omega) ?_
    have er : List.drop ((i : Int) + 1).toNat (List.take (Int.toNat (t.length : Nat)) t) = t.drop (i + 1) := by
      rw [show ((i : Int) + 1).toNat = i + 1 by omega]
      simp
    rw [er]
    have hrl : (t.drop (i + 1)).length ≤ 1000000 := by simp; omega
    generalize t.drop (i + 1) = rest at *
    generalize hR : quoF rest [] 0 = R
    have on := o10.nilRow 5 1
    refine LoopVC.intro [3, 4, 6, 7, 8, 30, 31, 32, 33, 34, 35, 36, 37, 38, 39, 40, 41, 42, 43, 44, 45, 46, 47, 48, 49, 50, 51, 52, 53, 54, 55, 56, 57, 58, 59, 60, 61, 62, 63, 64, 65, 66, 67, 68, 69, 70, 71, 72, 73, 74, 75, 76, 77, 78, 79, 80, 81, 82, 83, 84, 85, 86] [4, 6] (fun vs hh => ∃ (j : Nat) (acc : List UInt8) (v : Value), j ≤ rest.length ∧ acc.length ≤ j ∧ vs = [v, .int .i64 j] ∧ quoF (rest.drop j) acc j = R ∧ Own h [box b10 [.int .i64 0, .string ⟨⟨[]⟩⟩, .int .i64 0, .int .i64 0] 38, row v 5 1 acc.length (bytes acc)] hh) (fun vs _ => match vs with | [_, .int _ j] => rest.length - j.toNat | _ => 0) ?_ ?_
    · exact ⟨0, [], _, by omega, by simp, rfl, hR, on⟩
    · rintro vs junk hh ⟨j, acc, v, hj, hal, rfl, hQ, oh⟩
      by_cases hlt : j < rest.length
      · obtain ⟨x, hx⟩ := getx hlt
        by_cases hx34 : x.toNat = 34
        · rw [quoF_quote hx hx34] at hQ
          by_cases hbig : 200 < acc.length
          · rw [if_pos hbig] at hQ
            subst hQ
            refine StillVC.run (StillVC.lenS rfl str9 ?_)
            refine Br.dec (fun c41 => ?_) (fun hc => absurd (by omega) hc)
            refine StillVC.run (StillVC.strIdx rfl rfl str9 (by omega) (by assumption) ?_)
            refine Br.dec (fun c43 => ?_) (fun hc => absurd (by omega) hc)
            refine StillVC.run (StillVC.lenN (oh.rowArrN 1 rfl) sl117 ?_)
            refine Br.dec (fun c45 => ?_) (fun hc => absurd (by omega) hc)
            exact CallVC.ends (fail_spec 3 b t i _ (oh.old h1)) (fun _ _ h => h.elim) (fun c h' ⟨hc, ho⟩ => ⟨hc, (ho.thenE oh).sel [] rfl⟩)
          · rw [if_neg hbig] at hQ
            subst hQ
            refine StillVC.run (StillVC.lenS rfl str9 ?_)
            refine Br.dec (fun c61 => ?_) (fun hc => absurd (by omega) hc)
            refine StillVC.run (StillVC.strIdx rfl rfl str9 (by omega) (by assumption) ?_)
            refine Br.dec (fun c63 => ?_) (fun hc => absurd (by omega) hc)
            refine StillVC.run (StillVC.lenN (oh.rowArrN 1 rfl) sl117 ?_)
            refine Br.dec (fun hc => absurd hc (by omega)) (fun c65 => ?_)
            refine Br.dec (fun c66 => ?_) (fun hc => absurd (by omega) hc)
            refine StillVC.run (StillVC.bytesStr (oh.rowArr 1 rfl) sl117 int5 str9 ?_)
            refine StillVC.run (StillVC.buildK st38 ?_)
            refine And.intro rfl ?_
            refine And.intro rfl ?_
            refine Ar.i64 (by omega) (by omega) ?_
            (refine RunVC.storeL oh 0 rfl ty38 rfl (by decide) (And.intro ⟨rfl, rfl⟩ ?_); intro m69 o69)
            first | refine RetVC.cell2 rfl o69 0 rfl ty38 rfl rfl ?_ | refine RetVC.cell1 rfl o69 0 rfl ty38 rfl rfl ?_ | refine RetVC.cellTT rfl o69 0 rfl ty38 rfl rfl ?_
            exact ⟨by first | rfl | (simp; omega), Own.sel (by assumption) [] rfl⟩
        · by_cases hx10 : x.toNat = 10
          · rw [quoF_nl hx hx10] at hQ
            subst hQ
            refine StillVC.run (StillVC.lenS rfl str9 ?_)
            refine Br.dec (fun c81 => ?_) (fun hc => absurd (by omega) hc)
            refine StillVC.run (StillVC.strIdx rfl rfl str9 (by omega) (by assumption) ?_)
            refine Br.dec (fun hc => absurd hc (by omega)) (fun c83 => ?_)
            refine Br.ff ?_
            refine Br.dec (fun hc => absurd hc (by omega)) (fun c84 => ?_)
            refine Br.dec (fun c85 => ?_) (fun hc => absurd (by omega) hc)
            exact CallVC.ends (fail_spec 5 b t i _ (oh.old h1)) (fun _ _ h => h.elim) (fun c h' ⟨hc, ho⟩ => ⟨hc, (ho.thenE oh).sel [] rfl⟩)
          · by_cases hx92 : x.toNat = 92
            · by_cases hlast : rest.length = j + 1
              · rw [quoF_end hx hx92 hlast] at hQ
                subst hQ
                refine StillVC.run (StillVC.lenS rfl str9 ?_)
                refine Br.dec (fun c101 => ?_) (fun hc => absurd (by omega) hc)
                refine StillVC.run (StillVC.strIdx rfl rfl str9 (by omega) (by assumption) ?_)
                refine Br.dec (fun hc => absurd hc (by omega)) (fun c103 => ?_)
                refine Br.ff ?_
                refine Br.dec (fun hc => absurd hc (by omega)) (fun c104 => ?_)
                refine Br.dec (fun hc => absurd hc (by omega)) (fun c105 => ?_)
                refine Br.dec (fun c106 => ?_) (fun hc => absurd (by omega) hc)
                refine Ar.i64 (by omega) (by omega) ?_
                refine StillVC.run (StillVC.lenS rfl str9 ?_)
                refine Br.dec (fun c108 => ?_) (fun hc => absurd (by omega) hc)
                exact CallVC.ends (fail_spec 7 b t i _ (oh.old h1)) (fun _ _ h => h.elim) (fun c h' ⟨hc, ho⟩ => ⟨hc, (ho.thenE oh).sel [] rfl⟩)
              · obtain ⟨d, hd⟩ := getx (show j + 1 < rest.length by omega)
                have hE := quoF_esc (acc := acc) hx hx92 hd
                have hd' : rest[((j : Int) + 1).toNat]? = some d := by rw [show ((j : Int) + 1).toNat = j + 1 by omega]; exact hd
                refine StillVC.run (StillVC.lenS rfl str9 ?_)
                refine Br.dec (fun c121 => ?_) (fun hc => absurd (by omega) hc)
                refine StillVC.run (StillVC.strIdx rfl rfl str9 (by omega) (by assumption) ?_)
                refine Br.dec (fun hc => absurd hc (by omega)) (fun c123 => ?_)
                refine Br.ff ?_
                refine Br.dec (fun hc => absurd hc (by omega)) (fun c124 => ?_)
                refine Br.dec (fun hc => absurd hc (by omega)) (fun c125 => ?_)
                refine Br.dec (fun c126 => ?_) (fun hc => absurd (by omega) hc)
                refine Ar.i64 (by omega) (by omega) ?_
                refine StillVC.run (StillVC.lenS rfl str9 ?_)
                refine Br.dec (fun hc => absurd hc (by omega)) (fun c128 => ?_)
                refine StillVC.run (StillVC.strIdx rfl rfl str9 (by omega) (by assumption) ?_)
                refine CallVC.ret (indexByte_spec [34, 92, 110] d _) ?_
                rintro _ h5 ⟨rfl, oi⟩
                have o5 := oh.ext' oi
                by_cases hd34 : d = 34
                · have hk : Lib.indexByte [34, 92, 110] d = 0 := by rw [hd34]; decide
                  rw [hE, hd34] at hQ
                  rw [hk]
                  rw [show escB 34 = some 34 by decide] at hQ
                  simp only at hQ
                  have hy : ([34, 92, 10] : List UInt8)[((0 : Int)).toNat]? = some 34 := rfl
                  refine Br.ff ?_
                  refine StillVC.run (StillVC.strIdx rfl rfl str9 (by omega) (by assumption) ?_)
                  (refine RunVC.lit o5 sl117 ty5 rfl rfl (by decide) (And.intro rfl ?_); intro b131 m131 o131)
                  (refine RunVC.append o131 1 rfl sl117 ty5 (by decide) (o131.boxArr 2 rfl (by simp) (by simp)).toN (by simp [Value.oneCell']) (by simp only [maxLen]; first | omega | (simp; omega)) (by first | omega | (simp; omega)) ?_; intro v132 m132 o132)
                  refine Ar.i64 (by omega) (by omega) ?_
                  refine ⟨rfl, ?_⟩
                  refine ⟨⟨j + 2, acc ++ [34], _, by omega, by simp; omega, rfl, hQ, ?_⟩, by simp; omega⟩
                  have q := o132.sel [0, 1] rfl
                  simpa [pick] using q
                · by_cases hd92 : d = 92
                  · have hk : Lib.indexByte [34, 92, 110] d = 1 := by rw [hd92]; decide
                    rw [hE, hd92] at hQ
                    rw [hk]
                    rw [show escB 92 = some 92 by decide] at hQ
                    simp only at hQ
                    have hy : ([34, 92, 10] : List UInt8)[((1 : Int)).toNat]? = some 92 := rfl
                    refine Br.ff ?_
                    refine StillVC.run (StillVC.strIdx rfl rfl str9 (by omega) (by assumption) ?_)
                    (refine RunVC.lit o5 sl117 ty5 rfl rfl (by decide) (And.intro rfl ?_); intro b141 m141 o141)
                    (refine RunVC.append o141 1 rfl sl117 ty5 (by decide) (o141.boxArr 2 rfl (by simp) (by simp)).toN (by simp [Value.oneCell']) (by simp only [maxLen]; first | omega | (simp; omega)) (by first | omega | (simp; omega)) ?_; intro v142 m142 o142)
                    refine Ar.i64 (by omega) (by omega) ?_
                    refine ⟨rfl, ?_⟩
                    refine ⟨⟨j + 2, acc ++ [92], _, by omega, by simp; omega, rfl, hQ, ?_⟩, by simp; omega⟩
                    have q := o142.sel [0, 1] rfl
                    simpa [pick] using q
                  · by_cases hd110 : d = 110
                    · have hk : Lib.indexByte [34, 92, 110] d = 2 := by rw [hd110]; decide
                      rw [hE, hd110] at hQ
                      rw [hk]
                      rw [show escB 110 = some 10 by decide] at hQ
                      simp only at hQ
                      have hy : ([34, 92, 10] : List UInt8)[((2 : Int)).toNat]? = some 10 := rfl
                      refine Br.ff ?_
                      refine StillVC.run (StillVC.strIdx rfl rfl str9 (by omega) (by assumption) ?_)
                      (refine RunVC.lit o5 sl117 ty5 rfl rfl (by decide) (And.intro rfl ?_); intro b151 m151 o151)
                      (refine RunVC.append o151 1 rfl sl117 ty5 (by decide) (o151.boxArr 2 rfl (by simp) (by simp)).toN (by simp [Value.oneCell']) (by simp only [maxLen]; first | omega | (simp; omega)) (by first | omega | (simp; omega)) ?_; intro v152 m152 o152)
                      refine Ar.i64 (by omega) (by omega) ?_
                      refine ⟨rfl, ?_⟩
                      refine ⟨⟨j + 2, acc ++ [10], _, by omega, by simp; omega, rfl, hQ, ?_⟩, by simp; omega⟩
                      have q := o152.sel [0, 1] rfl
                      simpa [pick] using q
                    · have hk : ¬ 0 ≤ Lib.indexByte [34, 92, 110] d := fun e => by
                        have := (indexByte_nonneg [34, 92, 110] d).2.1 e
                        simp [hd34, hd92, hd110] at this
                      have hk2 := (indexByte_nonneg [34, 92, 110] d).1
                      have hn : escB d = none := by
                        have e1 : d.toNat ≠ 34 := fun e => hd34 (UInt8.toNat_inj.1 e)
                        have e2 : d.toNat ≠ 92 := fun e => hd92 (UInt8.toNat_inj.1 e)
                        have e3 : d.toNat ≠ 110 := fun e => hd110 (UInt8.toNat_inj.1 e)
                        simp [escB, e1, e2, e3]
                      rw [hE, hn] at hQ
                      simp only at hQ
                      subst hQ
                      generalize Lib.indexByte [34, 92, 110] d = q at *
                      refine Br.dec (fun c155 => ?_) (fun hc => absurd (by omega) hc)
                      exact CallVC.ends (fail_spec 5 b t i _ (o5.old h1)) (fun _ _ h => h.elim) (fun c h' ⟨hc, ho⟩ => ⟨hc, (ho.thenE o5).sel [] rfl⟩)
            · rw [quoF_other hx hx34 hx10 hx92] at hQ
              refine StillVC.run (StillVC.lenS rfl str9 ?_)
              refine Br.dec (fun c161 => ?_) (fun hc => absurd (by omega) hc)
              refine StillVC.run (StillVC.strIdx rfl rfl str9 (by omega) (by assumption) ?_)
              refine Br.dec (fun hc => absurd hc (by omega)) (fun c163 => ?_)
              refine Br.ff ?_
              refine Br.dec (fun hc => absurd hc (by omega)) (fun c164 => ?_)
              refine Br.dec (fun hc => absurd hc (by omega)) (fun c165 => ?_)
              refine Br.dec (fun hc => absurd hc (by omega)) (fun c166 => ?_)
              (refine RunVC.lit oh sl117 ty5 rfl rfl (by decide) (And.intro rfl ?_); intro b167 m167 o167)
              (refine RunVC.append o167 1 rfl sl117 ty5 (by decide) (o167.boxArr 2 rfl (by simp) (by simp)).toN (by simp [Value.oneCell']) (by simp only [maxLen]; first | omega | (simp; omega)) (by first | omega | (simp; omega)) ?_; intro v168 m168 o168)
              refine Ar.i64 (by omega) (by omega) ?_
              refine ⟨rfl, ?_⟩
              refine ⟨⟨j + 1, acc ++ [x], _, by omega, by simp; omega, rfl, hQ, ?_⟩, by simp; omega⟩
              have q := o168.sel [0, 1] rfl
              simpa [pick] using q
      · have : rest.drop j = [] := List.drop_of_length_le (by omega)
        rw [this] at hQ
        subst hQ
        refine StillVC.run (StillVC.lenS rfl str9 ?_)
        refine Br.dec (fun hc => absurd hc (by omega)) (fun c191 => ?_)
        exact CallVC.ends (fail_spec 7 b t i _ (oh.old h1)) (fun _ _ h => h.elim) (fun c h' ⟨hc, ho⟩ => ⟨hc, (ho.thenE oh).sel [] rfl⟩)
  · rw [if_neg hq]
    (refine RunVC.alloc o0 ty38 ?_; intro b200 m200 o200)
    refine DrawVC.intro [0, 1, 2, 4, 5, 6, 8, 9] [3, 7] [] [0, 1, 2, 3, 4, 5, 6, 7, 8, 9] mixed (by kernel_rfl) rfl (fun _ _ _ _ h => h) ?_
    refine StillVC.nilCheck rfl ?_
    refine StillVC.fieldAddr st79 rfl rfl rfl ?_
    refine StillVC.load1 ty9 rfl (o200.old h0) ?_
    refine StillVC.nilCheck rfl ?_
    refine StillVC.fieldAddr st79 rfl rfl rfl ?_
    refine StillVC.load1 ty3 rfl (o200.old h1) ?_
    refine StillVC.strIdx rfl rfl str9 (by omega) (by assumption) ?_
    refine Br.ndec (fun c208 => ?_) (fun hc => absurd hc (by first | omega | assumption | decide | exact rfl))
    refine StillVC.run (StillVC.buildK st38 ?_)
    (refine RunVC.storeL o200 0 rfl ty38 rfl (by decide) (And.intro ⟨rfl, rfl⟩ ?_); intro m210 o210)
    first | refine RetVC.cell2 rfl o210 0 rfl ty38 rfl rfl ?_ | refine RetVC.cell1 rfl o210 0 rfl ty38 rfl rfl ?_ | refine RetVC.cellTT rfl o210 0 rfl ty38 rfl rfl ?_
    exact ⟨⟨0, [], 0, 0, rfl⟩, Own.sel (by assumption) [] rfl⟩

end Go.Proofs.YtnmfanjhepepbaaGreatDoor

/- The lexer's deferred closure: how Lex ends. -/
namespace Go.Proofs.YtnmfanjhepepbaaGreatDoor
open Go

def recSlots (p q r v : Value) : List Value := [p, q, r, v, undef, undef, v, undef, undef, undef, undef, undef, undef, undef, undef, undef, undef, undef, undef, undef, undef]

set_option maxRecDepth 100000 in
theorem lex_recovers (p q r : Value) : Recovers Tryz.prog (match Tryz.f20.body with | some (.seq (.region _ ops _) _) => ops | _ => #[]) ([p, q, r] ++ List.replicate (21 - [p, q, r].length) undef) (recSlots p q r) := by
  intro cs w Q hQ
  unfold wpOpsS
  simp [Tryz.f20, List.range, List.range.loop, wpOpsS, Region.wanted, yielded, execOp, resolve, invoke, builtin, act, Act.put]
  cases hrec : recoverD cs with
  | none => exact hQ _ _ (.inr ⟨hrec, rfl, rfl⟩)
  | some x => exact hQ _ _ (.inl hrec)

set_option maxRecDepth 100000 in
/-- No error: the results stay as they are. -/
theorem leave_ok (s : List Value) (h : Heap) (R : Ending → Heap → Prop) (p q r : Value)
    (hr : RetVC Tryz.prog Tryz.f11 s h fun v h => R (.returned v) h) :
    LeaveVC Tryz.prog Tryz.f11 ⟨.fn (.func 20) ⟨[p, q, r]⟩, #[]⟩ .returning s h R := by
  refine LeaveVC.recovers (f := recSlots p q r) .nilIface Tryz.func20 rfl (n := 21) (by kernel_rfl) (by kernel_rfl) rfl (.inl ⟨rfl, rfl⟩) (lex_recovers p q r) ?_
  refine StillVC.run (StillVC.neI ifc20 (by first | assumption | rfl) ?_)
  refine Br.ff ?_
  exact hr

set_option maxRecDepth 100000 in
/-- An error: the results are set. -/
theorem leave_err (s : List Value) (h : Heap) (R : Ending → Heap → Prop) (B : Base) (b2 b3 b4 : Nat) (x y z : Value) (e : Int) (i : Nat)
    (o0 : Own B [box b2 [x] 31, box b3 [y] 26, box b4 [z] 3] h)
    (h2 : sget s 2 = .pointer (some ⟨b2, 0, none⟩)) (h3 : sget s 3 = .pointer (some ⟨b3, 0, none⟩)) (h4 : sget s 4 = .pointer (some ⟨b4, 0, none⟩))
    (hR : ∀ h', Own B [] h' → R (.returned (.tuple ⟨[.slice none 0 0, .int .i64 e, .int .i64 i]⟩)) h') :
    LeaveVC Tryz.prog Tryz.f11 ⟨.fn (.func 20) ⟨[.pointer (some ⟨b2, 0, none⟩), .pointer (some ⟨b3, 0, none⟩), .pointer (some ⟨b4, 0, none⟩)]⟩, #[]⟩ (.panicking (faultC e i)) s h R := by
  refine LeaveVC.recovers (f := recSlots (.pointer (some ⟨b2, 0, none⟩)) (.pointer (some ⟨b3, 0, none⟩)) (.pointer (some ⟨b4, 0, none⟩))) (.iface 75 (.agg ⟨[.int .i64 e, .int .i64 i]⟩)) Tryz.func20 rfl (n := 21) (by kernel_rfl) (by kernel_rfl) rfl (.inr rfl) (lex_recovers _ _ _) ?_
  refine StillVC.run (StillVC.neI ifc20 (by first | assumption | rfl) ?_)
  refine Br.tt ?_
  refine StillVC.run (StillVC.assertOk con75 rfl ?_)
  (refine RunVC.alloc o0 ty75 ?_; intro b12 m12 o12)
  (refine RunVC.storeL o12 3 rfl ty75 rfl (by decide) (And.intro ⟨rfl, rfl⟩ ?_); intro m13 o13)
  refine Br.ff ?_
  refine DrawVC.introB b12 [0, 2] [1, 3] [6] [0, 1, 2, 3, 4, 5, 6] mixed (by kernel_rfl) rfl (fun _ _ _ _ h => h) ?_
  refine StillVC.fieldAddr st75 rfl rfl rfl ?_
  refine StillVCA.load1 ty26 rfl rfl ((o13.cellB 3 rfl _).trans rfl) ?_
  refine StillVC.fieldAddr st75 rfl rfl rfl ?_
  refine StillVCA.load1 ty3 rfl rfl ((o13.cellB 3 rfl _).trans rfl) ?_
  (refine RunVC.store o13 0 rfl ty31 rfl (by simp) (And.intro ⟨rfl, rfl⟩ ?_); intro m24 o24)
  refine And.intro ((o24.boxBlk 3 rfl).trans (o13.boxBlk 3 rfl).symm) ?_
  (refine RunVC.store o24 1 rfl ty26 rfl (by simp) (And.intro ⟨rfl, rfl⟩ ?_); intro m25 o25)
  refine And.intro ((o25.boxBlk 3 rfl).trans (o24.boxBlk 3 rfl).symm) ?_
  (refine RunVC.store o25 2 rfl ty3 rfl (by simp) (And.intro ⟨rfl, rfl⟩ ?_); intro m26 o26)
  exact RetVC.cell3 rfl ty31 ty26 ty3 h2 h3 h4 (o26.cellB 0 rfl 0) (o26.cellB 1 rfl 0) (o26.cellB 2 rfl 0) (hR _ (o26.sel [] rfl))

end Go.Proofs.YtnmfanjhepepbaaGreatDoor

/- Lex. -/
namespace Go.Proofs.YtnmfanjhepepbaaGreatDoor
open Go

/-- A token with its offset. -/
structure Tok where
  kind : Int
  text : List UInt8
  num : Int
  off : Nat

def tokC (t : Tok) : List Value := [.int .i64 t.kind, .string ⟨⟨t.text⟩⟩, .int .i64 t.num, .int .i64 t.off]

/-- The first reader that finds something. -/
def readN : List (List UInt8 → Rd) → List UInt8 → Rd
  | [], _ => .err 5
  | r :: rs, l => match r l with
    | .none => readN rs l
    | x => x

def readers : List (List UInt8 → Rd) := [nameR, numberR, quotedR, symbolR]
def readR (l : List UInt8) : Rd := readN readers l

/-- The tokens of a text from an offset on, when there are k already. -/
def lexGo : Nat → List UInt8 → Nat → Nat → Except (Int × Nat) (List Tok)
  | 0, _, _, _ => .ok []
  | f + 1, l, i, k => match l with
    | [] => .ok []
    | c :: r => match readR (c :: r) with
      | .err e => .error (e, i)
      | .none => .error (5, i)
      | .tok kd x n len => if k = 5000 then .error (3, i) else
        match lexGo f ((c :: r).drop (len + gapF false ((c :: r).drop len))) (i + (len + gapF false ((c :: r).drop len))) (k + 1) with
        | .error e => .error e
        | .ok ts => .ok (⟨kd, x, n, i⟩ :: ts)

/-- The tokens of a text without its first gaps. -/
def lexM (t : List UInt8) : Except (Int × Nat) (List Tok) := lexGo t.length (t.drop (gapF false t)) (gapF false t) 0

def consR (acc : List Tok) : Except (Int × Nat) (List Tok) → Except (Int × Nat) (List Tok)
  | .error e => .error e
  | .ok ts => .ok (acc ++ ts)

theorem lexGo_tok {f : Nat} {l : List UInt8} {i k len : Nat} {kd n : Int} {x : List UInt8} (hl : l ≠ []) (hr : readR l = .tok kd x n len) (hk : k ≠ 5000) (acc : List Tok) :
    consR acc (lexGo (f + 1) l i k) = consR (acc ++ [⟨kd, x, n, i⟩]) (lexGo f (l.drop (len + gapF false (l.drop len))) (i + (len + gapF false (l.drop len))) (k + 1)) := by
  cases l with
  | nil => exact absurd rfl hl
  | cons c r =>
    rw [lexGo, hr]
    simp only [if_neg hk]
    cases lexGo f _ _ _ with
    | error e => rfl
    | ok ts => simp [consR]

theorem lexGo_full {f : Nat} {l : List UInt8} {i len : Nat} {kd n : Int} {x : List UInt8} (hl : l ≠ []) (hr : readR l = .tok kd x n len) :
    lexGo (f + 1) l i 5000 = .error (3, i) := by
  cases l with
  | nil => exact absurd rfl hl
  | cons c r => rw [lexGo, hr]; rfl

theorem lexGo_err {f : Nat} {l : List UInt8} {i k : Nat} {e : Int} (hl : l ≠ []) (hr : readR l = .err e) :
    lexGo (f + 1) l i k = .error (e, i) := by
  cases l with
  | nil => exact absurd rfl hl
  | cons c r => rw [lexGo, hr]

theorem lexGo_nil (f i k : Nat) : lexGo f [] i k = .ok [] := by
  cases f <;> rfl

theorem quoF_len : ∀ (l acc : List UInt8) (k : Nat) {kd n : Int} {x : List UInt8} {len : Nat}, quoF l acc k = .tok kd x n len → k + 2 ≤ len ∧ len ≤ k + 1 + l.length
  | [], _, _, _, _, _, _, h => by cases h
  | [c], acc, k, _, _, _, _, h => by
    rw [quoF] at h
    split at h
    · split at h
      · cases h
      · injection h with _ _ _ e; subst e; simp
    · split at h <;> cases h
  | c :: d :: r, acc, k, _, _, _, _, h => by
    rw [quoF] at h
    split at h
    · split at h
      · cases h
      · injection h with _ _ _ e; subst e; simp; omega
    · split at h
      · cases h
      · split at h
        · split at h
          · cases h
          · have := quoF_len r _ _ h; simp; omega
        · have := quoF_len (d :: r) _ _ h; simp at this ⊢; omega

theorem spanN_pos {p : UInt8 → Bool} {c : UInt8} {r : List UInt8} (h : p c = true) : 1 ≤ spanN p (c :: r) := by
  unfold spanN; rw [List.takeWhile_cons, h]; simp

theorem readR_len {l : List UInt8} {kd n : Int} {x : List UInt8} {len : Nat} (h : readR l = .tok kd x n len) : 1 ≤ len ∧ len ≤ l.length := by
  have h1 := spanN_le innerB l
  have h2 := spanN_le digitB l
  unfold readR readers readN at h
  split at h
  · unfold readN at h
    split at h
    · unfold readN at h
      split at h
      · unfold readN at h
        split at h
        · cases h
        · unfold symbolR at h
          split at h
          · cases h
          · rename_i hs
            injection h with _ _ _ e
            subst e
            refine ⟨by omega, ?_⟩
            unfold symN
            split
            · rename_i hh
              rcases hh with hh | hh
              · exact hasPrefix_len hh
              · exact hasPrefix_len hh
            · split
              · simp
              · split <;> simp
      · unfold quotedR at h
        split at h
        · cases h
        · split at h
          · have := quoF_len _ _ _ h
            simp; omega
          · cases h
    · unfold numberR at h
      split at h
      · cases h
      · split at h
        · cases h
        · injection h with _ _ _ e
          omega
  · cases l with
    | nil => cases h
    | cons c r =>
      simp only [nameR] at h
      split at h
      · rename_i hc
        split at h
        · cases h
        · injection h with _ _ _ e
          have := spanN_pos (p := innerB) (c := c) (r := r) (by unfold innerB; rw [hc]; rfl)
          omega
      · cases h

/-- What Lex returns. -/
def LexPost (h : Heap) (t : List UInt8) (v : Value) (h' : Heap) : Prop :=
  if 20000 < t.length then v = .tuple ⟨[.slice none 0 0, .int .i64 3, .int .i64 (-1)]⟩ ∧ Own h [] h'
  else match lexM t with
    | .error (e, i) => v = .tuple ⟨[.slice none 0 0, .int .i64 e, .int .i64 i]⟩ ∧ Own h [] h'
    | .ok ts => ∃ u, v = .tuple ⟨[u, .int .i64 0, .int .i64 0]⟩ ∧ Own h [row u 38 4 ts.length (ts.flatMap tokC)] h'

def fnV (b : Nat) (f : FuncId) : Value := .func (.func f) ⟨[.pointer (some ⟨b, 0, none⟩)]⟩ ⟨[]⟩

def fnsV (b : Nat) : List Value := [fnV b 21, fnV b 22, fnV b 23, fnV b 24]

theorem reader_at (b : Nat) (t : List UInt8) (q : Nat) (hq : q < 4) : ∃ g r, (fnsV b)[q]? = some (fnV b g) ∧ readers.drop q = r :: readers.drop (q + 1) ∧
    ∀ (i : Nat) (h : Heap), i < t.length → t.length ≤ 1000000 → cellAt h ⟨b, 0, none⟩ = some (.string ⟨⟨t⟩⟩) → cellAt h ⟨b, 1, none⟩ = some (.int .i64 i) → Spec Tryz.prog g [.pointer (some ⟨b, 0, none⟩)] h (RdE h i (r (t.drop i))) := by
  match q, hq with
  | 0, _ => exact ⟨_, _, rfl, rfl, fun i h hi hl h0 h1 => name_spec b t i h hi hl h0 h1⟩
  | 1, _ => exact ⟨_, _, rfl, rfl, fun i h hi hl h0 h1 => number_spec b t i h hi hl h0 h1⟩
  | 2, _ => exact ⟨_, _, rfl, rfl, fun i h hi hl h0 h1 => quoted_spec b t i h hi hl h0 h1⟩
  | 3, _ => exact ⟨_, _, rfl, rfl, fun i h hi hl h0 h1 => symbol_spec b t i h hi hl h0 h1⟩

set_option maxHeartbeats 4000000 in
set_option maxRecDepth 100000 in
theorem lex_spec (t : List UInt8) (h : Heap) (hl : t.length ≤ 9223372036854775807) :
    SpecR Tryz.prog 11 [.string ⟨⟨t⟩⟩] h (LexPost h t) := by
  refine Spec.enterD Tryz.func11 rfl (n := 77) (by kernel_rfl) (by kernel_rfl) ?_
  have o0 := Own.refl h
  by_cases hbig : 20000 < t.length
  · (refine RunVC.alloc o0 ty31 ?_; intro b10 m10 o10)
    (refine RunVC.alloc o10 ty26 ?_; intro b11 m11 o11)
    (refine RunVC.alloc o11 ty3 ?_; intro b12 m12 o12)
    refine StillVC.run (StillVC.lenS rfl str9 ?_)
    refine Br.dec (fun c14 => ?_) (fun hc => absurd (by omega) hc)
    (refine RunVC.storeL o12 0 rfl ty31 rfl (by decide) (And.intro ⟨rfl, rfl⟩ ?_); intro m15 o15)
    (refine RunVC.storeL o15 1 rfl ty26 rfl (by decide) (And.intro ⟨rfl, rfl⟩ ?_); intro m16 o16)
    (refine RunVC.storeL o16 2 rfl ty3 rfl (by decide) (And.intro ⟨rfl, rfl⟩ ?_); intro m17 o17)
    refine RetVC.cell3 rfl ty31 ty26 ty3 rfl rfl rfl (o17.cellB 0 rfl 0) (o17.cellB 1 rfl 0) (o17.cellB 2 rfl 0) ?_
    show LexPost h t _ _
    rw [LexPost, if_pos hbig]
    exact ⟨rfl, o17.sel [] rfl⟩
  · have hP : ∀ v h', LexPost h t v h' = _ := fun v h' => by rw [LexPost, if_neg hbig]
    (refine RunVC.alloc o0 ty31 ?_; intro b20 m20 o20)
    (refine RunVC.alloc o20 ty26 ?_; intro b21 m21 o21)
    (refine RunVC.alloc o21 ty3 ?_; intro b22 m22 o22)
    refine StillVC.run (StillVC.lenS rfl str9 ?_)
    refine Br.dec (fun hc => absurd hc (by omega)) (fun c24 => ?_)
    refine DeferVC.closure (by simp) ?_
    refine StillVC.run (StillVC.buildK st79 ?_)
    refine And.intro rfl ?_
    (refine RunVC.boxO o22 rfl ?_; intro b31 m31 o31)
    refine StillVC.run (StillVC.makeFn ?_)
    refine StillVC.run (StillVC.makeFn ?_)
    refine StillVC.run (StillVC.makeFn ?_)
    refine StillVC.run (StillVC.makeFn ?_)
    refine StillVC.run (StillVC.buildA arr81 ty81 rfl rfl rfl (And.intro rfl ?_))
    refine StillVC.run (StillVC.buildK st83 ?_)
    refine And.intro rfl ?_
    (refine RunVC.alloc o31 ty83 ?_; intro b38 m38 o38)
    (refine RunVC.storeL o38 4 rfl ty83 rfl (by decide) (And.intro ⟨rfl, rfl⟩ ?_); intro m39 o39)
    have ol := o39.lend [3] [0, 1, 2, 4] rfl
    refine CallVC.ret (skip_spec _ b31 t 0 _ (by omega) (by omega) ol) ?_
    rintro _ m40 ⟨rfl, os⟩
    have o40 : Own h [box b20 [.slice none 0 0] 31, box b21 [.int .i64 0] 26, box b22 [.int .i64 0] 3, box b31 [.string ⟨⟨t⟩⟩, .int .i64 (0 + gapF false (t.drop 0) : Nat)] 79, box b38 (fnsV b31) 83] m40 := os.back.sel [1, 2, 3, 0, 4] rfl
    have hgle := gapF_le false t
    simp only [Nat.zero_add, List.drop_zero] at o40
    generalize hT : lexM t = T at hP
    have hT0 : consR [] (lexGo (t.length) (t.drop (gapF false t)) (gapF false t) 0) = T := by
      rw [← hT, lexM]
      cases lexGo t.length (t.drop (gapF false t)) (gapF false t) 0 <;> rfl
    have on := o40.nilRow 38 4
    refine LoopVC.intro [8, 9, 10, 30, 31, 32, 33, 34, 35, 36, 37, 38, 39, 40, 41, 42, 43, 44, 45, 46, 47, 48, 49, 50, 51, 52, 53, 54, 55, 56, 57, 58, 59, 60, 61, 62, 63, 64, 65, 66, 67, 68, 69, 70, 71, 72, 73, 74, 75] [] (fun _ hh => ∃ (f j : Nat) (acc : List Tok) (v : Value), j ≤ t.length ∧ t.length ≤ j + f ∧ acc.length ≤ j ∧ acc.length ≤ 5000 ∧ consR acc (lexGo f (t.drop j) j acc.length) = T ∧ Own h [box b20 [v] 31, box b21 [.int .i64 0] 26, box b22 [.int .i64 0] 3, box b31 [.string ⟨⟨t⟩⟩, .int .i64 (j : Nat)] 79, box b38 (fnsV b31) 83, row v 38 4 acc.length (acc.flatMap tokC)] hh) (fun _ hh => leftM b31 t hh) ?_ ?_
    · exact ⟨t.length, gapF false t, [], _, hgle, by omega, by simp, by simp, hT0, on⟩
    · rintro vs junk hh ⟨f, j, acc, v, hj, hf, haj, hac, hQ, oh⟩
      obtain ⟨va, vc, rfl⟩ := oh.rowIs 5 rfl
      by_cases hlt : j < t.length
      · have hdn : t.drop j ≠ [] := fun e => by have := congrArg List.length e; simp at this; omega
        obtain ⟨f, rfl⟩ : ∃ f', f = f' + 1 := ⟨f - 1, by omega⟩
        refine StillVC.run (StillVC.nilCheck rfl ?_)
        refine StillVC.run (StillVC.fieldAddr st79 rfl rfl rfl ?_)
        refine StillVC.run (StillVC.loadO oh 3 rfl ty3 rfl rfl ?_)
        refine StillVC.run (StillVC.lenS rfl str9 ?_)
        refine Br.dec (fun c64 => ?_) (fun hc => absurd (by omega) hc)
        refine StillVC.run (StillVC.fieldAddr st83 rfl rfl rfl ?_)
        refine StillVC.run (StillVC.loadON oh 4 rfl ty81 rfl rfl rfl ?_)
        refine LoopVC.intro [8, 9, 10, 39, 40, 41, 42, 43, 44, 45, 46, 47, 48, 49, 50, 51, 52, 53, 54, 55, 56, 57, 58, 59, 60, 61, 62, 63, 64, 65, 66, 67, 68, 69, 70, 71, 72, 73] [39] (fun vs h2 => ∃ q, q ≤ 4 ∧ vs = [.int .i64 (q : Nat)] ∧ readN (readers.drop q) (t.drop j) = readR (t.drop j) ∧ Own h [box b20 [.slice va acc.length vc] 31, box b21 [.int .i64 0] 26, box b22 [.int .i64 0] 3, box b31 [.string ⟨⟨t⟩⟩, .int .i64 (j : Nat)] 79, box b38 (fnsV b31) 83, row (.slice va acc.length vc) 38 4 acc.length (acc.flatMap tokC)] h2) (fun vs _ => match vs with | [.int _ q] => 4 - q.toNat | _ => 0) ?_ ?_
        · exact ⟨0, by omega, rfl, rfl, oh⟩
        · rintro vs junk h2 ⟨q, hq, rfl, hR, oq⟩
          by_cases hq4 : q < 4
          · obtain ⟨g, r, hg, hd, hsp⟩ := reader_at b31 t q hq4
            rw [hd] at hR
            refine Br.dec (fun c70 => ?_) (fun hc => absurd (by omega) hc)
            refine StillVC.run (StillVC.indexA arr81 rfl rfl (by omega) (by omega) (by first | rfl | assumption) ?_)
            refine RegVC.plain ?_
            refine CallVC.ends (hsp j _ hlt (by omega) (oq.cellB 3 rfl 0) (oq.cellB 3 rfl 1)) ?_ ?_
            · rintro v h3 ⟨hv, oe⟩
              have o3 := oq.ext' oe
              cases hr : r (t.drop j) with
              | err e => rw [hr] at hv; exact hv.elim
              | none =>
                rw [hr] at hv
                obtain ⟨k', x', n', a', rfl⟩ := hv
                have hR' : readN (readers.drop (q + 1)) (t.drop j) = readR (t.drop j) := by rw [← hR, readN, hr]
                (refine RunVC.alloc o3 ty38 ?_; intro b100 m100 o100)
                (refine RunVC.storeL o100 6 rfl ty38 rfl (by decide) (And.intro ⟨rfl, rfl⟩ ?_); intro m101 o101)
                refine Br.tt ?_
                refine Ar.i64 (by omega) (by omega) ?_
                refine ⟨rfl, ?_⟩
                exact ⟨⟨q + 1, by omega, rfl, hR', Own.sel (by assumption) [0, 1, 2, 3, 4, 5] rfl⟩, by simp; omega⟩
              | tok k' x' n' len =>
                rw [hr] at hv
                obtain rfl := hv
                have hR' : readR (t.drop j) = .tok k' x' n' len := by rw [← hR, readN, hr]
                obtain ⟨hl1, hl2⟩ := readR_len hR'
                rw [List.length_drop] at hl2
                by_cases hfull : acc.length = 5000
                · rw [hfull, lexGo_full hdn hR'] at hQ
                  (refine RunVC.alloc o3 ty38 ?_; intro b120 m120 o120)
                  (refine RunVC.storeL o120 6 rfl ty38 rfl (by decide) (And.intro ⟨rfl, rfl⟩ ?_); intro m121 o121)
                  refine Br.dec (fun hc => absurd hc (by omega)) (fun c122 => ?_)
                  refine StillVC.run (StillVC.loadO o121 0 rfl ty31 rfl rfl ?_)
                  refine StillVC.run (StillVC.lenV rfl sl31 ?_)
                  refine Br.dec (fun c125 => ?_) (fun hc => absurd (by omega) hc)
                  refine CallVC.ends (fail_spec 3 b31 t j _ (Own.cellB (by assumption) 3 rfl 1)) (fun _ _ h => h.elim) (fun c h4 ⟨hc, ho⟩ => ?_)
                  subst hc
                  have o5 : Own h [box b20 [.slice va acc.length vc] 31, box b21 [.int .i64 0] 26, box b22 [.int .i64 0] 3] _ := (Own.ext' (by assumption) ho).sel [0, 1, 2] rfl
                  refine leave_err _ _ _ _ b20 b21 b22 _ _ _ 3 j o5 rfl rfl rfl fun h' o' => ?_
                  show LexPost h t _ _
                  rw [hP, ← hQ]
                  exact ⟨rfl, o'⟩
                · rw [lexGo_tok hdn hR' hfull] at hQ
                  (refine RunVC.alloc o3 ty38 ?_; intro b140 m140 o140)
                  (refine RunVC.storeL o140 6 rfl ty38 rfl (by decide) (And.intro ⟨rfl, rfl⟩ ?_); intro m141 o141)
                  refine Br.dec (fun hc => absurd hc (by omega)) (fun c142 => ?_)
                  refine StillVC.run (StillVC.loadO o141 0 rfl ty31 rfl rfl ?_)
                  refine StillVC.run (StillVC.lenV rfl sl31 ?_)
                  refine Br.dec (fun hc => absurd hc (by omega)) (fun c145 => ?_)
                  refine StillVC.run (StillVC.nilCheck rfl ?_)
                  refine StillVC.run (StillVC.fieldAddr st79 rfl rfl rfl ?_)
                  refine StillVC.run (StillVC.loadO o141 3 rfl ty3 rfl rfl ?_)
                  refine StillVC.run (StillVC.fieldAddr st38 rfl rfl rfl ?_)
                  (refine RunVC.store o141 6 rfl ty3 rfl (by simp) (And.intro ⟨rfl, rfl⟩ ?_); intro m150 o150)
                  refine StillVC.run (StillVC.loadO o150 0 rfl ty31 rfl rfl ?_)
                  refine StillVC.run (StillVC.loadON o150 6 rfl ty38 rfl rfl rfl ?_)
                  (refine RunVC.litN o150 sl31 ty38 rfl rfl (by decide) ?_)
                  refine And.intro rfl ?_
                  intro b154 m154 o154
                  refine RunVC.append (by assumption) 5 rfl sl31 ty38 (by decide) (Own.boxArrN (by assumption) 7 rfl (n := 1) rfl (by omega)) (by simp [Value.oneCell']) (by simp only [maxLen]; omega) (by omega) ?_
                  intro v155 m155 o155
                  obtain ⟨ua, uc, rfl⟩ := o155.rowIs 5 rfl
                  (refine RunVC.store o155 0 rfl ty31 rfl (by simp) (And.intro ⟨rfl, rfl⟩ ?_); intro m160 o160)
                  refine StillVC.run (StillVC.nilCheck rfl ?_)
                  refine StillVC.run (StillVC.fieldAddr st79 rfl rfl rfl ?_)
                  refine StillVC.run (StillVC.loadO o160 3 rfl ty3 rfl rfl ?_)
                  refine Ar.i64 (by omega) (by omega) ?_
                  refine StillVC.run (StillVC.nilCheck rfl ?_)
                  refine StillVC.run (StillVC.fieldAddr st79 rfl rfl rfl ?_)
                  (refine RunVC.store o160 3 rfl ty3 rfl (by simp) (And.intro ⟨rfl, rfl⟩ ?_); intro m166 o166)
                  refine CallVC.ret (skip_spec _ b31 t (j + len) _ (by omega) (by omega) (Own.lend (by assumption) [3] [0, 1, 2, 4, 5] rfl)) ?_
                  rintro _ m170 ⟨rfl, os⟩
                  have o170 : Own h [box b20 [.slice ua (acc.length + 1) uc] 31, box b21 [.int .i64 0] 26, box b22 [.int .i64 0] 3, box b31 [.string ⟨⟨t⟩⟩, .int .i64 (j + len + gapF false (t.drop (j + len)) : Nat)] 79, box b38 (fnsV b31) 83, row (.slice ua (acc.length + 1) uc) 38 4 (acc.length + 1) (acc.flatMap tokC ++ tokC ⟨k', x', n', j⟩)] m170 := os.back.sel [1, 2, 3, 0, 4, 5] rfl
                  have hgl := gapF_le false (t.drop (j + len))
                  rw [List.length_drop] at hgl
                  simp only [List.drop_drop] at hQ
                  generalize gapF false (t.drop (j + len)) = gg at *
                  refine ⟨rfl, ?_⟩
                  have hm1 := leftM_of (b := b31) (j := j) (t := t) (ty := 79) (oh.lend [3] [0, 1, 2, 4, 5] rfl)
                  have hm2 := leftM_of (b := b31) (j := j + len + gg) (t := t) (ty := 79) (o170.lend [3] [0, 1, 2, 4, 5] rfl)
                  refine ⟨⟨f, j + len + gg, acc ++ [⟨k', x', n', j⟩], .slice ua (acc.length + 1) uc, by omega, by omega, by simp; omega, by simp; omega, ?_, ?_⟩, ?_⟩
                  · rw [← hQ, List.length_append]
                    simp only [List.length_cons, List.length_nil, Nat.zero_add, Nat.add_assoc]
                  · have e1 : (acc ++ [(⟨k', x', n', j⟩ : Tok)]).length = acc.length + 1 := by simp
                    have e2 : (acc ++ [(⟨k', x', n', j⟩ : Tok)]).flatMap tokC = acc.flatMap tokC ++ tokC ⟨k', x', n', j⟩ := by simp
                    rw [e1, e2]
                    exact o170
                  · rw [hm1, hm2]
                    omega
            · rintro c h3 ⟨hc, oe⟩
              cases hr : r (t.drop j) with
              | err e =>
                rw [hr] at hc
                subst hc
                have hR' : readR (t.drop j) = .err e := by rw [← hR, readN, hr]
                rw [lexGo_err hdn hR'] at hQ
                refine leave_err _ _ _ _ b20 b21 b22 _ _ _ e j ((oq.ext' oe).sel [0, 1, 2] rfl) rfl rfl rfl fun h' o' => ?_
                show LexPost h t _ _
                rw [hP, ← hQ]
                exact ⟨rfl, o'⟩
              | none => rw [hr] at hc; exact hc.elim
              | tok _ _ _ _ => rw [hr] at hc; exact hc.elim
          · obtain rfl : q = 4 := by omega
            refine Br.ff ?_
            refine CallVC.ends (fail_spec 5 b31 t j _ (oq.cellB 3 rfl 1)) (fun _ _ h => h.elim) (fun c h4 ⟨hc, ho⟩ => ?_)
            subst hc
            rw [lexGo_err hdn hR.symm] at hQ
            refine leave_err _ _ _ _ b20 b21 b22 _ _ _ 5 j ((oq.ext' ho).sel [0, 1, 2] rfl) rfl rfl rfl fun h' o' => ?_
            show LexPost h t _ _
            rw [hP, ← hQ]
            exact ⟨rfl, o'⟩
      · have hd : t.drop j = [] := List.drop_of_length_le (by omega)
        rw [hd, lexGo_nil] at hQ
        simp only [consR, List.append_nil] at hQ
        refine StillVC.run (StillVC.nilCheck rfl ?_)
        refine StillVC.run (StillVC.fieldAddr st79 rfl rfl rfl ?_)
        refine StillVC.run (StillVC.loadO oh 3 rfl ty3 rfl rfl ?_)
        refine StillVC.run (StillVC.lenS rfl str9 ?_)
        refine Br.dec (fun hc => absurd hc (by omega)) (fun c84 => ?_)
        refine StillVC.run (StillVC.loadO oh 0 rfl ty31 rfl rfl ?_)
        (refine RunVC.store oh 0 rfl ty31 rfl (by simp) (And.intro ⟨rfl, rfl⟩ ?_); intro m86 o86)
        (refine RunVC.storeL o86 1 rfl ty26 rfl (by decide) (And.intro ⟨rfl, rfl⟩ ?_); intro m87 o87)
        (refine RunVC.storeL o87 2 rfl ty3 rfl (by decide) (And.intro ⟨rfl, rfl⟩ ?_); intro m88 o88)
        refine leave_ok _ _ _ _ _ _ ?_
        refine RetVC.cell3 rfl ty31 ty26 ty3 rfl rfl rfl (o88.cellB 0 rfl 0) (o88.cellB 1 rfl 0) (o88.cellB 2 rfl 0) ?_
        show LexPost h t _ _
        rw [hP, ← hQ]
        exact ⟨_, rfl, o88.sel [5] rfl⟩

end Go.Proofs.YtnmfanjhepepbaaGreatDoor

/- Plain facts on the lexer's readers (printed out of the texts of the other seat of this chapter). -/
namespace Go.Proofs.YtnmfanjhepepbaaGreatDoor
open Go



theorem gapF_step {t : List UInt8} {j : Nat} {c : UInt8} (k : Bool) (hc : t[j]? = some c) :
    gapF k (t.drop j) = if c.toNat = 10 then 1 + gapF false (t.drop (j + 1)) else if c.toNat = 35 then 1 + gapF true (t.drop (j + 1)) else if k = false ∧ c.toNat ≠ 32 ∧ c.toNat ≠ 9 then 0 else 1 + gapF k (t.drop (j + 1)) := by
  obtain ⟨hj, rfl⟩ := List.getElem?_eq_some_iff.1 hc
  rw [List.drop_eq_getElem_cons hj, gapF]


theorem prefix2_iff {t : List UInt8} {i : Nat} {a b : UInt8} : Lib.hasPrefix (t.drop i) [a, b] = true ↔ t[i]? = some a ∧ t[i + 1]? = some b := by
  have h1 : (t.drop i)[0]? = t[i]? := by rw [List.getElem?_drop]; rfl
  have h2 : (t.drop i)[1]? = t[i + 1]? := by rw [List.getElem?_drop]
  rw [← h1, ← h2]
  generalize t.drop i = l
  unfold Lib.hasPrefix
  match l with
  | [] => simp
  | [x] => simp [List.isPrefixOf]
  | x :: y :: r =>
    rw [List.isPrefixOf_iff_prefix, List.cons_prefix_cons, List.cons_prefix_cons]
    simp only [List.nil_prefix, and_true, List.getElem?_cons_zero, List.getElem?_cons_succ, Option.some.injEq]
    exact ⟨fun h => ⟨h.1.symm, h.2.symm⟩, fun h => ⟨h.1.symm, h.2.symm⟩⟩




/- WHICH READER FINDS SOMETHING -/
theorem quoF_some : ∀ (l acc : List UInt8) (k : Nat), quoF l acc k ≠ .none
  | [], _, _ => by simp [quoF]
  | [c], acc, k => by
    rw [quoF]
    split
    · split <;> simp
    · split <;> simp
  | c :: d :: r, acc, k => by
    rw [quoF]
    split
    · split <;> simp
    · split
      · simp
      · split
        · split
          · simp
          · exact quoF_some r _ _
        · exact quoF_some (d :: r) _ _


theorem quoF_err : ∀ (l acc : List UInt8) (k : Nat) {e : Int}, quoF l acc k = .err e → e = 3 ∨ e = 5 ∨ e = 7
  | [], _, _, _, h => by cases h; omega
  | [c], acc, k, _, h => by
    rw [quoF] at h
    split at h
    · split at h <;> cases h
      omega
    · split at h <;> cases h <;> omega
  | c :: d :: r, acc, k, _, h => by
    rw [quoF] at h
    split at h
    · split at h <;> cases h
      omega
    · split at h
      · cases h; omega
      · split at h
        · split at h
          · cases h; omega
          · exact quoF_err r _ _ h
        · exact quoF_err (d :: r) _ _ h


theorem quoF_tok : ∀ (l acc : List UInt8) (k : Nat) {kd n : Int} {x : List UInt8} {len : Nat}, quoF l acc k = .tok kd x n len → kd = 3 ∧ n = 0
  | [], _, _, _, _, _, _, h => by cases h
  | [c], acc, k, _, _, _, _, h => by
    rw [quoF] at h
    split at h
    · split at h <;> cases h
      exact ⟨rfl, rfl⟩
    · split at h <;> cases h
  | c :: d :: r, acc, k, _, _, _, _, h => by
    rw [quoF] at h
    split at h
    · split at h <;> cases h
      exact ⟨rfl, rfl⟩
    · split at h
      · cases h
      · split at h
        · split at h
          · cases h
          · exact quoF_tok r _ _ h
        · exact quoF_tok (d :: r) _ _ h


theorem letter_not {c : UInt8} (h : letterB c = true) : digitB c = false ∧ c.toNat ≠ 34 := by
  simp only [letterB, digitB, decide_eq_true_eq, decide_eq_false_iff_not] at *
  omega

theorem digit_not {c : UInt8} (h : digitB c = true) : c.toNat ≠ 34 := by
  simp only [digitB, decide_eq_true_eq] at *
  omega


theorem readR_letter {c : UInt8} {r : List UInt8} (hc : letterB c = true) : readR (c :: r) = if 24 < spanN innerB (c :: r) then .err 3 else .tok 1 ((c :: r).take (spanN innerB (c :: r))) 0 (spanN innerB (c :: r)) := by
  have : nameR (c :: r) = if 24 < spanN innerB (c :: r) then .err 3 else .tok 1 ((c :: r).take (spanN innerB (c :: r))) 0 (spanN innerB (c :: r)) := by rw [nameR, if_pos hc]
  unfold readR readers readN
  rw [this]
  by_cases h : 24 < spanN innerB (c :: r)
  · simp only [if_pos h]
  · simp only [if_neg h]


theorem name_none {c : UInt8} {r : List UInt8} (hc : letterB c = false) : nameR (c :: r) = .none := by
  rw [nameR, if_neg (by rw [hc]; simp)]


theorem span_zero {p : UInt8 → Bool} {c : UInt8} {r : List UInt8} (hc : p c = false) : spanN p (c :: r) = 0 := by
  unfold spanN; rw [List.takeWhile_cons, hc]; rfl


theorem readR_digit {c : UInt8} {r : List UInt8} (hl : letterB c = false) (hc : digitB c = true) : readR (c :: r) = if 10 < spanN digitB (c :: r) ∨ spanN digitB (c :: r) < spanN innerB (c :: r) then .err 6 else .tok 2 ((c :: r).take (spanN digitB (c :: r))) (undec ((c :: r).take (spanN digitB (c :: r)))) (spanN digitB (c :: r)) := by
  have h0 : ¬ spanN digitB (c :: r) = 0 := by have := spanN_pos (r := r) hc; omega
  unfold readR readers readN
  rw [name_none hl]
  simp only [readN, numberR, if_neg h0]
  by_cases h : 10 < spanN digitB (c :: r) ∨ spanN digitB (c :: r) < spanN innerB (c :: r)
  · simp only [if_pos h]
  · simp only [if_neg h]


theorem number_none {c : UInt8} {r : List UInt8} (hc : digitB c = false) : numberR (c :: r) = .none := by
  rw [numberR, if_pos (span_zero hc)]


theorem readR_quote {c : UInt8} {r : List UInt8} (hl : letterB c = false) (hd : digitB c = false) (hc : c.toNat = 34) : readR (c :: r) = quoF r [] 0 := by
  unfold readR readers readN
  rw [name_none hl]
  simp only [readN, number_none hd, quotedR, if_pos hc]
  cases h : quoF r [] 0 with
  | none => exact absurd h (quoF_some _ _ _)
  | _ => rfl


theorem readR_symbol {c : UInt8} {r : List UInt8} (hl : letterB c = false) (hd : digitB c = false) (hc : c.toNat ≠ 34) : readR (c :: r) = if symN (c :: r) = 0 then .err 5 else .tok 4 ((c :: r).take (symN (c :: r))) 0 (symN (c :: r)) := by
  unfold readR readers readN
  rw [name_none hl]
  simp only [readN, number_none hd, quotedR, if_neg hc, symbolR]
  by_cases h : symN (c :: r) = 0
  · simp only [if_pos h]
  · simp only [if_neg h]


theorem undec_snoc (l : List UInt8) (c : UInt8) : undec (l ++ [c]) = undec l * 10 + (c.toNat - 48) := by
  simp [undec, List.foldl_append]


/-- The bytes of a kind go on as long as the next byte is of it. -/
theorem span_lt {p q : UInt8 → Bool} (hpq : ∀ c, p c = true → q c = true) : ∀ (l : List UInt8), spanN p l < spanN q l ↔ ∃ c, l[spanN p l]? = some c ∧ q c = true
  | [] => by simp [spanN]
  | a :: l => by
    have ih := span_lt hpq l
    unfold spanN at ih ⊢
    rw [List.takeWhile_cons, List.takeWhile_cons]
    cases hp : p a with
    | false =>
      simp only [Bool.false_eq_true, if_false, List.length_nil]
      cases hq : q a with
      | false => simp [hq]
      | true => simp [hq]
    | true =>
      rw [hpq a hp]
      simp only [if_true, List.length_cons, Nat.add_lt_add_iff_right, List.getElem?_cons_succ]
      exact ih


theorem digit_inner {c : UInt8} (h : digitB c = true) : innerB c = true := by simp [innerB, h]


theorem slice_at (t : List UInt8) (i n : Nat) : List.drop (i : Int).toNat (List.take ((i : Int) + (n : Nat)).toNat t) = (t.drop i).take n := by
  rw [show ((i : Int) + (n : Nat)).toNat = i + n by omega, Int.toNat_natCast, List.drop_take]
  congr 1
  omega


theorem undec_lt (l : List UInt8) (h : ∀ c ∈ l, digitB c = true) : undec l < 10 ^ l.length := by
  have key : ∀ (r : List UInt8), (∀ c ∈ r, digitB c = true) → undec r.reverse < 10 ^ r.length := by
    intro r
    induction r with
    | nil => intro _; simp [undec]
    | cons c r ih =>
      intro h
      have h1 := ih (fun d hd => h d (by simp [hd]))
      have h2 := digitB_iff (h c (by simp))
      rw [List.reverse_cons, undec_snoc, List.length_cons, Nat.pow_succ]
      omega
  have := key l.reverse (fun c hc => h c (by simpa using hc))
  simpa using this




theorem readR_err {l : List UInt8} {e : Int} (h : readR l = .err e) : e = 3 ∨ e = 5 ∨ e = 6 ∨ e = 7 := by
  cases l with
  | nil =>
    have : readR [] = .err 5 := rfl
    rw [this] at h
    cases h; omega
  | cons c r =>
    cases hl : letterB c with
    | true =>
      rw [readR_letter hl] at h
      split at h <;> cases h
      omega
    | false =>
      cases hd : digitB c with
      | true =>
        rw [readR_digit hl hd] at h
        split at h <;> cases h
        omega
      | false =>
        by_cases h34 : c.toNat = 34
        · rw [readR_quote hl hd h34] at h
          have := quoF_err _ _ _ h
          omega
        · rw [readR_symbol hl hd h34] at h
          split at h <;> cases h
          omega


theorem readR_some (l : List UInt8) : readR l ≠ .none := by
  have key : ∀ rs, readN rs l ≠ .none := by
    intro rs
    induction rs with
    | nil => simp [readN]
    | cons r rs ih =>
      rw [readN]
      split
      · exact ih
      · assumption
  exact key _




theorem lexGo_bound : ∀ (f : Nat) (l : List UInt8) (i k : Nat) {ts : List Tok}, lexGo f l i k = .ok ts → ts.length ≤ l.length ∧ ∀ x ∈ ts, i ≤ x.off ∧ x.off < i + l.length
  | 0, l, i, k, ts, h => by cases h; simp
  | f + 1, l, i, k, ts, h => by
    cases l with
    | nil => rw [lexGo_nil] at h; cases h; simp
    | cons c r =>
      rw [lexGo] at h
      cases hR : readR (c :: r) with
      | none => rw [hR] at h; cases h
      | err e => rw [hR] at h; cases h
      | tok kd x n len =>
        rw [hR] at h
        simp only at h
        obtain ⟨h1, h2⟩ := readR_len hR
        split at h
        · cases h
        · have hg := gapF_le false ((c :: r).drop len)
          generalize hg' : gapF false ((c :: r).drop len) = g at *
          cases hrest : lexGo f ((c :: r).drop (len + g)) (i + (len + g)) (k + 1) with
          | error e => rw [hrest] at h; cases h
          | ok us =>
            rw [hrest] at h
            cases h
            obtain ⟨q1, q2⟩ := lexGo_bound f _ _ _ hrest
            simp only [List.length_drop] at q1 q2 hg
            refine ⟨by simp at *; omega, fun y hy => ?_⟩
            rcases List.mem_cons.1 hy with rfl | hy
            · simp
            · have := q2 y hy
              simp at *
              omega


theorem lexM_bound {t : List UInt8} {ts : List Tok} (h : lexM t = .ok ts) : ts.length ≤ t.length ∧ ∀ x ∈ ts, x.off < t.length := by
  obtain ⟨h1, h2⟩ := lexGo_bound _ _ _ _ h
  have hg := gapF_le false t
  simp only [List.length_drop] at h1 h2
  exact ⟨by omega, fun x hx => by have := h2 x hx; omega⟩


end Go.Proofs.YtnmfanjhepepbaaGreatDoor
