/-
  The walk of LexerBeginnings.
-/
import Derived.Test.YtofbiladpmcjgaaDoorStructs
import Derived.Test.YtofbiladpmcjgaaDoorFnLexP
namespace Go.Proofs.YtofbiladpmcjgaaDoor
open Go

theorem LexR.err_ne {l : List UInt8} {i : Nat} {r : Except (Int × Nat) (List Tok)} (h : LexR l i r) : ∀ e j, r = .error (e, j) → e ≠ 0 := by
  induction h with
  | nil i => intro e j h; cases h
  | err hl h =>
    intro e j h'
    cases h'
    have := readR_err h
    omega
  | tok hl h hr ih =>
    intro e j h'
    rename_i r
    cases r with
    | error y => exact ih e j h'
    | ok ts => cases h'

set_option maxHeartbeats 4000000 in
set_option maxRecDepth 100000 in
theorem beginnings_spec (t : List UInt8) (h : Heap) (hl : t.length ≤ 140737488351232) :
    SpecR Tryd.prog 6 [.string ⟨⟨t⟩⟩] h fun v h' => v = .bool true ∧ Own h [] h' := by
  refine Spec.enter Tryd.func6 rfl Tryd.ntmps6 (by kernel_rfl) ?_
  have o0 := Own.refl h
  refine CallVC.ret (head_spec _) ?_
  rintro _ h1 ⟨rfl, oa⟩
  have o1 := o0.ext' oa
  by_cases hbig : 3000 < t.length
  · refine StillVC.run (StillVC.lenS rfl str9 ?_)
    refine Br.dec (fun c21 => ?_) (fun hc => absurd (by omega) hc)
    refine RetVC.one rfl ?_
    exact ⟨rfl, o1⟩
  · refine StillVC.run (StillVC.lenS rfl str9 ?_)
    refine Br.dec (fun hc => absurd hc (by omega)) (fun c31 => ?_)
    cases hM : lexM t with
    | ok ts =>
      refine CallVC.ret (lex_ok (by omega) hM _) ?_
      rintro _ h2 ⟨u, rfl, ob⟩
      have o2 := o1.call ob
      refine Br.tt ?_
      refine Br.tt ?_
      refine RetVC.one rfl ?_
      exact ⟨rfl, o2.sel [] rfl⟩
    | error y =>
      obtain ⟨e, j⟩ := y
      have hG := lexM_G (t := t) (by omega)
      rw [hM] at hG
      obtain ⟨q, hq, hlt, ⟨ts, hts⟩, hd⟩ := hG.cut_err t.length t 0 e j (Nat.le_refl _)
      obtain rfl : q = j := by omega
      have he : e ≠ 0 := LexR.err_ne hG e q rfl
      have e1 : List.drop (Int.toNat 0) (List.take (q : Int).toNat t) = t.take q := by simp
      have e2 : List.drop (q : Int).toNat (List.take (Int.toNat (t.length : Nat)) t) = t.drop q := by simp
      refine CallVC.ret (lex_err (by omega) hM _) ?_
      rintro _ h2 ⟨rfl, ob⟩
      have o2 := o1.ext' ob
      refine Br.dec (fun hc => absurd hc (by omega)) (fun c60 => ?_)
      refine Br.dec (fun hc => absurd hc (by omega)) (fun c61 => ?_)
      refine StillVC.run (StillVC.lenS rfl str9 ?_)
      refine Br.dec (fun hc => absurd hc (by omega)) (fun c63 => ?_)
      refine StillVC.run (StillVC.sliceS str9 rfl rfl ⟨_, rfl⟩ (by omega) (by omega) (by omega) ?_)
      rw [e1]
      refine CallVC.ret (lex_ok (by simp; omega) (lexM_eq (by simp; omega) hts) _) ?_
      rintro _ h3 ⟨u, rfl, oc⟩
      have o3 := o2.call oc
      refine StillVC.run (StillVC.sliceS str9 rfl ⟨_, rfl⟩ rfl (by omega) (by omega) (by omega) ?_)
      rw [e2]
      refine CallVC.ret (lex_err (by simp; omega) (lexM_eq (by simp; omega) hd) _) ?_
      rintro _ h4 ⟨rfl, od⟩
      have o4 := o3.ext' od
      refine Br.tt ?_
      refine Br.tt ?_
      refine Br.dec (fun c90 => ?_) (fun hc => absurd (by omega) hc)
      refine RetVC.one rfl ?_
      exact ⟨rfl, o4.sel [] rfl⟩

end Go.Proofs.YtofbiladpmcjgaaDoor
