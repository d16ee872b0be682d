/-
  The lexer's readers: faults, names, numbers.
-/
import Derived.Test.YtofbiladpmcjgaaGreatDoorStructs
import Derived.Test.YtofbiladpmcjgaaGreatDoorFnLexB
namespace Go.Proofs.YtofbiladpmcjgaaGreatDoor
open Go


/-- How a call ends that may panic. -/
def Ends (Post : Value → Heap → Prop) (Pan : List PanicEntry → Heap → Prop) : Ending → Heap → Prop
  | .returned v, h => Post v h
  | .panicked c, h => Pan c h
  | .outgrown, _ => False

theorem CallVC.ends {P : Program} {g : FuncId} {args s : List Value} {h : Heap} {K : KK} {Q : QQ} {Post : Value → Heap → Prop} {Pan : List PanicEntry → Heap → Prop}
    (sp : Spec P g args h (Ends Post Pan)) (hk : ∀ v h', Post v h' → K v false h') (hq : ∀ c h', Pan c h' → Q (.panic c) s h') : CallVC P g args s h K Q where
  spec := ⟨_, .inl sp, hk, hq, fun _ h => h.elim⟩

/-- The panic by which an error ends a scan. -/
def faultC (e : Int) (i : Nat) : List PanicEntry := [{ v := .iface 38 (.agg ⟨[.int .i64 e, .int .i64 i]⟩), recovered := false }]

/-- What a reader finds at the beginning of a text: a token (its kind, text, number and length), none, or an error. -/
inductive Rd where
  | tok (kind : Int) (text : List UInt8) (num : Int) (len : Nat)
  | none
  | err (e : Int)

def tokV (k : Int) (x : List UInt8) (n a : Int) : Value := .agg ⟨[.int .i64 k, .string ⟨⟨x⟩⟩, .int .i64 n, .int .i64 a]⟩

/-- How a reader ends. -/
def RdE (h : Heap) (i : Nat) (r : Rd) : Ending → Heap → Prop :=
  Ends (fun v h' => (match r with
      | .tok k x n l => v = .tuple ⟨[tokV k x n 0, .int .i64 l]⟩
      | .none => ∃ k x n a, v = .tuple ⟨[tokV k x n a, .int .i64 0]⟩
      | .err _ => False) ∧ Own h [] h')
    (fun c h' => (match r with
      | .err e => c = faultC e i
      | _ => False) ∧ Own h [] h')

set_option maxRecDepth 100000 in
theorem fail_spec (e : Int) (b : Nat) (t : List UInt8) (i : Nat) (h : Heap) (h1 : cellAt h ⟨b, 1, none⟩ = some (.int .i64 i)) :
    Spec Tryz.prog 16 [.pointer (some ⟨b, 0, none⟩), .int .i64 e] h (Ends (fun _ _ => False) fun c h' => c = faultC e i ∧ Own h [] h') := by
  refine Spec.enter Tryz.func16 rfl Tryz.ntmps16 (by kernel_rfl) ?_
  have o0 := Own.refl h
  refine StillVC.run (StillVC.nilCheck rfl ?_)
  refine StillVC.run (StillVC.fieldAddr st42 rfl rfl rfl ?_)
  refine StillVC.run (StillVC.load1 ty3 rfl (by assumption) ?_)
  refine StillVC.run (StillVC.buildK st38 ?_)
  refine And.intro rfl ?_
  refine And.intro rfl ?_
  refine StillVC.run (StillVC.mkIface con38 rfl ?_)
  refine RunVC.panicI rfl ?_
  exact ⟨rfl, o0⟩

/-- A name at the beginning. -/
def nameR (l : List UInt8) : Rd :=
  match l with
  | [] => .none
  | c :: _ => if letterB c = true then (if 24 < spanN innerB l then .err 3 else .tok 1 (l.take (spanN innerB l)) 0 (spanN innerB l)) else .none

theorem nameR_at {t : List UInt8} {i : Nat} {c : UInt8} (hc : t[i]? = some c) : nameR (t.drop i) = if letterB c = true then (if 24 < spanN innerB (t.drop i) then .err 3 else .tok 1 ((t.drop i).take (spanN innerB (t.drop i))) 0 (spanN innerB (t.drop i))) else .none := by
  obtain ⟨hi, rfl⟩ := List.getElem?_eq_some_iff.1 hc
  rw [List.drop_eq_getElem_cons hi]
  rfl

set_option maxRecDepth 100000 in
theorem name_spec (b : Nat) (t : List UInt8) (i : Nat) (h : Heap) (hi : i < t.length) (hl : t.length ≤ 1000000)
    (h0 : cellAt h ⟨b, 0, none⟩ = some (.string ⟨⟨t⟩⟩)) (h1 : cellAt h ⟨b, 1, none⟩ = some (.int .i64 i)) :
    Spec Tryz.prog 11 [.pointer (some ⟨b, 0, none⟩)] h (RdE h i (nameR (t.drop i))) := by
  obtain ⟨c, hc⟩ := getx hi
  rw [nameR_at hc]
  have hsl := spanN_le innerB (t.drop i)
  have hdl : (t.drop i).length = t.length - i := by simp
  refine Spec.enter Tryz.func11 rfl Tryz.ntmps11 (by kernel_rfl) ?_
  have o0 := Own.refl h
  (refine RunVC.alloc o0 ty35 ?_; intro b10 m10 o10)
  refine DrawVC.intro [0, 1, 2, 4, 5, 6, 8, 10] [3, 7] [9] [0, 1, 2, 3, 4, 5, 6, 7, 8, 9, 10] mixed (by kernel_rfl) rfl (fun _ _ _ _ h => h) ?_
  refine StillVC.nilCheck rfl ?_
  refine StillVC.fieldAddr st42 rfl rfl rfl ?_
  refine StillVC.load1 ty9 rfl (o10.old h0) ?_
  refine StillVC.nilCheck rfl ?_
  refine StillVC.fieldAddr st42 rfl rfl rfl ?_
  refine StillVC.load1 ty3 rfl (o10.old h1) ?_
  refine StillVC.strIdx rfl rfl str9 (by omega) (by assumption) ?_
  refine CallVC.ret (letter_spec c _) ?_
  rintro _ h2 ⟨rfl, oa⟩
  have o2 := oa.thenE (by assumption)
  cases hb : letterB c with
  | false =>
    rw [if_neg (by decide)]
    refine Br.tt ?_
    refine StillVC.run (StillVC.buildK st35 ?_)
    (refine RunVC.storeL o2 0 rfl ty35 rfl (by decide) (And.intro ⟨rfl, rfl⟩ ?_); intro m21 o21)
    first | refine RetVC.cell2 rfl o21 0 rfl ty35 rfl rfl ?_ | refine RetVC.cell1 rfl o21 0 rfl ty35 rfl rfl ?_ | refine RetVC.cellTT rfl o21 0 rfl ty35 rfl rfl ?_
    exact ⟨⟨0, [], 0, 0, rfl⟩, Own.sel (by assumption) [] rfl⟩
  | true =>
    rw [if_pos rfl]
    refine Br.ff ?_
    refine CallVC.ret (run_spec innerB 24 [] b t i _ (by omega) hl (o2.old h0) (o2.old h1) (fun d h' e => inner_spec d h')) ?_
    rintro _ h3 ⟨rfl, ob⟩
    have o3 := ob.thenE (by assumption)
    by_cases hn : 24 < spanN innerB (t.drop i)
    · rw [if_pos hn]
      refine Br.dec (fun c60 => ?_) (fun hc => absurd (by omega) hc)
      exact CallVC.ends (fail_spec 3 b t i _ (o3.old h1)) (fun _ _ h => h.elim) (fun c h' ⟨hc, ho⟩ => ⟨hc, (ho.thenE o3).sel [] rfl⟩)
    · rw [if_neg hn]
      refine Br.dec (fun hc => absurd hc (by omega)) (fun c80 => ?_)
      refine DrawVC.intro [0, 1, 2, 4, 5, 6, 8, 9, 10, 12, 13, 14, 15, 16, 18] [3, 7, 11] [17] [0, 1, 2, 3, 4, 5, 6, 7, 8, 9, 10, 11, 12, 13, 14, 15, 16, 17, 18] mixed (by kernel_rfl) rfl (fun _ _ _ _ h => h) ?_
      refine StillVC.nilCheck rfl ?_
      refine StillVC.fieldAddr st42 rfl rfl rfl ?_
      refine StillVC.load1 ty9 rfl (o3.old h0) ?_
      refine StillVC.nilCheck rfl ?_
      refine StillVC.fieldAddr st42 rfl rfl rfl ?_
      refine StillVC.load1 ty3 rfl (o3.old h1) ?_
      refine StillVC.nilCheck rfl ?_
      refine StillVC.fieldAddr st42 rfl rfl rfl ?_
      refine StillVC.load1 ty3 rfl (o3.old h1) ?_
      refine Ar.i64 (by omega) (by omega) ?_
      refine StillVC.sliceS str9 rfl ⟨_, rfl⟩ ⟨_, rfl⟩ (by omega) (by omega) (by omega) ?_
      refine StillVC.buildK st35 ?_
      refine And.intro rfl ?_
      refine And.intro rfl ?_
      (refine RunVC.storeL o3 0 rfl ty35 rfl (by decide) (And.intro ⟨rfl, rfl⟩ ?_); intro m92 o92)
      first | refine RetVC.cell2 rfl o92 0 rfl ty35 rfl rfl ?_ | refine RetVC.cell1 rfl o92 0 rfl ty35 rfl rfl ?_ | refine RetVC.cellTT rfl o92 0 rfl ty35 rfl rfl ?_
      refine ⟨?_, Own.sel (by assumption) [] rfl⟩
      have e : List.drop (i : Int).toNat (List.take ((i : Int) + (spanN innerB (t.drop i) : Nat)).toNat t) = (t.drop i).take (spanN innerB (t.drop i)) := by
        rw [show ((i : Int) + (spanN innerB (t.drop i) : Nat)).toNat = i + spanN innerB (t.drop i) by omega, Int.toNat_natCast, List.drop_take]
        congr 1
        omega
      show Value.tuple _ = Value.tuple _
      rw [← e]
      rfl

end Go.Proofs.YtofbiladpmcjgaaGreatDoor
