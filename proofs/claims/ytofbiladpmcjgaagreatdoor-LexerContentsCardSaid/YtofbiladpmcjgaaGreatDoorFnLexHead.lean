/-
  The check of the examples.
-/
import Derived.Test.YtofbiladpmcjgaaGreatDoorStructs
import Derived.Test.YtofbiladpmcjgaaGreatDoorFnLexV
namespace Go.Proofs.YtofbiladpmcjgaaGreatDoor
open Go

/-- Lex at a text without an error. -/
theorem lex_ok {t : List UInt8} {ts : List Tok} (hl : t.length ≤ 20000) (hM : lexM t = .ok ts) (h : Heap) :
    SpecR Tryz.prog 6 [.string ⟨⟨t⟩⟩] h fun v h' => ∃ u, v = .tuple ⟨[u, .int .i64 0, .int .i64 0]⟩ ∧ Own h [row u 35 4 ts.length (ts.flatMap tokC)] h' := by
  refine (lex_spec t h (by omega)).mono fun v h' hp => ?_
  rw [LexPost, if_neg (by omega), hM] at hp
  exact hp

theorem lex_err {t : List UInt8} {e : Int} {i : Nat} (hl : t.length ≤ 20000) (hM : lexM t = .error (e, i)) (h : Heap) :
    SpecR Tryz.prog 6 [.string ⟨⟨t⟩⟩] h fun v h' => v = .tuple ⟨[.slice none 0 0, .int .i64 e, .int .i64 i]⟩ ∧ Own h [] h' := by
  refine (lex_spec t h (by omega)).mono fun v h' hp => ?_
  rw [LexPost, if_neg (by omega), hM] at hp
  exact hp

theorem ex1 : lexM [107, 101, 121, 32, 97, 95, 49, 59] = .ok [⟨1, [107, 101, 121], 0, 0⟩, ⟨1, [97, 95, 49], 0, 4⟩, ⟨4, [59], 0, 7⟩] := by kernel_rfl
theorem ex2 : lexM [120, 60, 61, 49, 50, 32, 35, 32, 51] = .ok [⟨1, [120], 0, 0⟩, ⟨4, [60, 61], 0, 1⟩, ⟨2, [49, 50], 12, 3⟩] := by kernel_rfl
theorem ex3 : lexM [34, 97, 92, 34, 98, 34] = .ok [⟨3, [97, 34, 98], 0, 0⟩] := by kernel_rfl
theorem ex4 : lexM [97, 32, 34, 98] = .error (7, 2) := by kernel_rfl
theorem ex5 : lexM [55, 120] = .error (6, 0) := by kernel_rfl
theorem ex6 : lexM [97, 32, 33, 98] = .error (5, 2) := by kernel_rfl

set_option maxHeartbeats 4000000 in
set_option maxRecDepth 100000 in
theorem head_spec (h : Heap) : SpecR Tryz.prog 5 [] h fun v h' => v = .bool true ∧ Own h [] h' := by
  refine Spec.enter Tryz.func5 rfl Tryz.ntmps5 (by kernel_rfl) ?_
  have o0 := Own.refl h
  refine CallVC.ret (lex_ok (by decide) ex1 _) ?_
  rintro _ h1 ⟨u1, rfl, oa⟩
  obtain ⟨a1, c1, rfl⟩ := oa.rowIs 0 rfl
  have o1 := o0.call oa
  refine CallVC.ret (lex_ok (by decide) ex2 _) ?_
  rintro _ h2 ⟨u2, rfl, ob⟩
  obtain ⟨a2, c2, rfl⟩ := ob.rowIs 0 rfl
  have o2 := o1.call ob
  refine CallVC.ret (lex_ok (by decide) ex3 _) ?_
  rintro _ h3 ⟨u3, rfl, oc⟩
  obtain ⟨a3, c3, rfl⟩ := oc.rowIs 0 rfl
  have o3 := o2.call oc
  refine CallVC.ret (lex_err (by decide) ex4 _) ?_
  rintro _ h4 ⟨rfl, od⟩
  have o4 := o3.ext' od
  refine CallVC.ret (lex_err (by decide) ex5 _) ?_
  rintro _ h5 ⟨rfl, oe⟩
  have o5 := o4.ext' oe
  refine CallVC.ret (lex_err (by decide) ex6 _) ?_
  rintro _ h6 ⟨rfl, of⟩
  have o6 := o5.ext' of
  have t1 : ArrN 4 h6 (.slice a1 3 c1) 3 ([⟨1, [107, 101, 121], 0, 0⟩, ⟨1, [97, 95, 49], 0, 4⟩, ⟨4, [59], 0, 7⟩].flatMap tokC) := (oa.rowArrN 0 rfl).ext (ob.ext.trans (oc.ext.trans (od.ext.trans (oe.ext.trans of.ext))))
  have t2 : ArrN 4 h6 (.slice a2 3 c2) 3 ([⟨1, [120], 0, 0⟩, ⟨4, [60, 61], 0, 1⟩, ⟨2, [49, 50], 12, 3⟩].flatMap tokC) := (ob.rowArrN 0 rfl).ext (oc.ext.trans (od.ext.trans (oe.ext.trans of.ext)))
  have t3 : ArrN 4 h6 (.slice a3 1 c3) 1 ([⟨3, [97, 34, 98], 0, 0⟩].flatMap tokC) := (oc.rowArrN 0 rfl).ext (od.ext.trans (oe.ext.trans of.ext))
  have p11 : ([⟨1, [107, 101, 121], 0, 0⟩, ⟨1, [97, 95, 49], 0, 4⟩, ⟨4, [59], 0, 7⟩] : List Tok)[1]? = some ⟨1, [97, 95, 49], 0, 4⟩ := rfl
  have p21 : ([⟨1, [120], 0, 0⟩, ⟨4, [60, 61], 0, 1⟩, ⟨2, [49, 50], 12, 3⟩] : List Tok)[1]? = some ⟨4, [60, 61], 0, 1⟩ := rfl
  have p22 : ([⟨1, [120], 0, 0⟩, ⟨4, [60, 61], 0, 1⟩, ⟨2, [49, 50], 12, 3⟩] : List Tok)[2]? = some ⟨2, [49, 50], 12, 3⟩ := rfl
  have p30 : ([⟨3, [97, 34, 98], 0, 0⟩] : List Tok)[0]? = some ⟨3, [97, 34, 98], 0, 0⟩ := rfl
  refine Br.ff ?_
  refine StillVC.run (StillVC.lenV rfl sl23 ?_)
  refine Br.ff ?_
  refine Br.ff ?_
  refine StillVC.run (StillVC.lenV rfl sl23 ?_)
  refine Br.ff ?_
  refine Br.ff ?_
  refine StillVC.run (StillVC.lenV rfl sl23 ?_)
  refine Br.ff ?_
  refine StillVC.run (StillVC.idxN sl23 ty35 t1 rfl (by omega) (by omega) ?_)
  refine StillVC.run (StillVC.loadFT ty35 t1 (fun _ => rfl) (by decide) rfl (by assumption) ?_)
  refine StillVC.run (StillVC.buildK st35 ?_)
  refine And.intro rfl ?_
  refine And.intro rfl ?_
  refine And.intro rfl ?_
  refine StillVC.run (StillVC.eqS pl35 rfl rfl rfl rfl ?_)
  refine Br.tt ?_
  refine StillVC.run (StillVC.idxN sl23 ty35 t2 rfl (by omega) (by omega) ?_)
  refine StillVC.run (StillVC.loadFT ty35 t2 (fun _ => rfl) (by decide) rfl (by assumption) ?_)
  refine StillVC.run (StillVC.buildK st35 ?_)
  refine And.intro rfl ?_
  refine And.intro rfl ?_
  refine And.intro rfl ?_
  refine StillVC.run (StillVC.eqS pl35 rfl rfl rfl rfl ?_)
  refine Br.tt ?_
  refine StillVC.run (StillVC.idxN sl23 ty35 t2 rfl (by omega) (by omega) ?_)
  refine StillVC.run (StillVC.loadFT ty35 t2 (fun _ => rfl) (by decide) rfl (by assumption) ?_)
  refine StillVC.run (StillVC.buildK st35 ?_)
  refine And.intro rfl ?_
  refine And.intro rfl ?_
  refine And.intro rfl ?_
  refine And.intro rfl ?_
  refine StillVC.run (StillVC.eqS pl35 rfl rfl rfl rfl ?_)
  refine Br.tt ?_
  refine StillVC.run (StillVC.idxN sl23 ty35 t3 rfl (by omega) (by omega) ?_)
  refine StillVC.run (StillVC.loadFT ty35 t3 (fun _ => rfl) (by decide) rfl (by assumption) ?_)
  refine StillVC.run (StillVC.buildK st35 ?_)
  refine And.intro rfl ?_
  refine And.intro rfl ?_
  refine StillVC.run (StillVC.eqS pl35 rfl rfl rfl rfl ?_)
  refine Br.tt ?_
  refine Br.tt ?_
  refine Br.tt ?_
  refine Br.tt ?_
  refine Br.tt ?_
  refine Br.tt ?_
  refine RetVC.one rfl ?_
  exact ⟨rfl, o6.sel [] rfl⟩

end Go.Proofs.YtofbiladpmcjgaaGreatDoor
