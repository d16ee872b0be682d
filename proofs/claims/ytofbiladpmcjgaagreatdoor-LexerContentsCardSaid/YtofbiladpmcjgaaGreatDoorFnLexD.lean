/-
  The lexer's deferred closure: how Lex ends.
-/
import Derived.Test.YtofbiladpmcjgaaGreatDoorStructs
import Derived.Test.YtofbiladpmcjgaaGreatDoorFnLexQ
namespace Go.Proofs.YtofbiladpmcjgaaGreatDoor
open Go

def recSlots (p q r v : Value) : List Value := [p, q, r, v, undef, undef, v, undef, undef, undef, undef, undef, undef, undef, undef, undef, undef, undef, undef, undef, undef]

set_option maxRecDepth 100000 in
theorem lex_recovers (p q r : Value) : Recovers Tryz.prog (match Tryz.f10.body with | some (.seq (.region _ ops _) _) => ops | _ => #[]) ([p, q, r] ++ List.replicate (21 - [p, q, r].length) undef) (recSlots p q r) := by
  intro cs w Q hQ
  unfold wpOpsS
  simp [Tryz.f10, List.range, List.range.loop, wpOpsS, Region.wanted, yielded, execOp, resolve, invoke, builtin, act, Act.put]
  cases hrec : recoverD cs with
  | none => exact hQ _ _ (.inr ⟨hrec, rfl, rfl⟩)
  | some x => exact hQ _ _ (.inl hrec)

set_option maxRecDepth 100000 in
/-- No error: the results stay as they are. -/
theorem leave_ok (s : List Value) (h : Heap) (R : Ending → Heap → Prop) (p q r : Value)
    (hr : RetVC Tryz.prog Tryz.f6 s h fun v h => R (.returned v) h) :
    LeaveVC Tryz.prog Tryz.f6 ⟨.fn (.func 10) ⟨[p, q, r]⟩, #[]⟩ .returning s h R := by
  refine LeaveVC.recovers (f := recSlots p q r) .nilIface Tryz.func10 rfl (n := 21) (by kernel_rfl) (by kernel_rfl) rfl (.inl ⟨rfl, rfl⟩) (lex_recovers p q r) ?_
  refine StillVC.run (StillVC.neI ifc20 (by first | assumption | rfl) ?_)
  refine Br.ff ?_
  exact hr

set_option maxRecDepth 100000 in
/-- An error: the results are set. -/
theorem leave_err (s : List Value) (h : Heap) (R : Ending → Heap → Prop) (B : Base) (b2 b3 b4 : Nat) (x y z : Value) (e : Int) (i : Nat)
    (o0 : Own B [box b2 [x] 23, box b3 [y] 24, box b4 [z] 3] h)
    (h2 : sget s 2 = .pointer (some ⟨b2, 0, none⟩)) (h3 : sget s 3 = .pointer (some ⟨b3, 0, none⟩)) (h4 : sget s 4 = .pointer (some ⟨b4, 0, none⟩))
    (hR : ∀ h', Own B [] h' → R (.returned (.tuple ⟨[.slice none 0 0, .int .i64 e, .int .i64 i]⟩)) h') :
    LeaveVC Tryz.prog Tryz.f6 ⟨.fn (.func 10) ⟨[.pointer (some ⟨b2, 0, none⟩), .pointer (some ⟨b3, 0, none⟩), .pointer (some ⟨b4, 0, none⟩)]⟩, #[]⟩ (.panicking (faultC e i)) s h R := by
  refine LeaveVC.recovers (f := recSlots (.pointer (some ⟨b2, 0, none⟩)) (.pointer (some ⟨b3, 0, none⟩)) (.pointer (some ⟨b4, 0, none⟩))) (.iface 38 (.agg ⟨[.int .i64 e, .int .i64 i]⟩)) Tryz.func10 rfl (n := 21) (by kernel_rfl) (by kernel_rfl) rfl (.inr rfl) (lex_recovers _ _ _) ?_
  refine StillVC.run (StillVC.neI ifc20 (by first | assumption | rfl) ?_)
  refine Br.tt ?_
  refine StillVC.run (StillVC.assertOk con38 rfl ?_)
  (refine RunVC.alloc o0 ty38 ?_; intro b12 m12 o12)
  (refine RunVC.storeL o12 3 rfl ty38 rfl (by decide) (And.intro ⟨rfl, rfl⟩ ?_); intro m13 o13)
  refine Br.ff ?_
  refine DrawVC.introB b12 [0, 2] [1, 3] [6] [0, 1, 2, 3, 4, 5, 6] mixed (by kernel_rfl) rfl (fun _ _ _ _ h => h) ?_
  refine StillVC.fieldAddr st38 rfl rfl rfl ?_
  refine StillVCA.load1 ty24 rfl rfl ((o13.cellB 3 rfl _).trans rfl) ?_
  refine StillVC.fieldAddr st38 rfl rfl rfl ?_
  refine StillVCA.load1 ty3 rfl rfl ((o13.cellB 3 rfl _).trans rfl) ?_
  (refine RunVC.store o13 0 rfl ty23 rfl (by simp) (And.intro ⟨rfl, rfl⟩ ?_); intro m24 o24)
  refine And.intro ((o24.boxBlk 3 rfl).trans (o13.boxBlk 3 rfl).symm) ?_
  (refine RunVC.store o24 1 rfl ty24 rfl (by simp) (And.intro ⟨rfl, rfl⟩ ?_); intro m25 o25)
  refine And.intro ((o25.boxBlk 3 rfl).trans (o24.boxBlk 3 rfl).symm) ?_
  (refine RunVC.store o25 2 rfl ty3 rfl (by simp) (And.intro ⟨rfl, rfl⟩ ?_); intro m26 o26)
  exact RetVC.cell3 rfl ty23 ty24 ty3 h2 h3 h4 (o26.cellB 0 rfl 0) (o26.cellB 1 rfl 0) (o26.cellB 2 rfl 0) (hR _ (o26.sel [] rfl))

end Go.Proofs.YtofbiladpmcjgaaGreatDoor
