/-
  The lexer and its reference: one answer.
-/
import Derived.Test.YtofbiladpmcjgaaDoorStructs
import Derived.Test.YtofbiladpmcjgaaDoorFnLexHead
namespace Go.Proofs.YtofbiladpmcjgaaDoor
open Go

theorem lexGo_bound : ∀ (f : Nat) (l : List UInt8) (i k : Nat) {ts : List Tok}, lexGo f l i k = .ok ts → ts.length ≤ l.length ∧ ∀ x ∈ ts, i ≤ x.off ∧ x.off < i + l.length
  | 0, l, i, k, ts, h => by cases h; simp
  | f + 1, l, i, k, ts, h => by
    cases l with
    | nil => rw [lexGo_nil] at h; cases h; simp
    | cons c r =>
      rw [lexGo] at h
      cases hR : readR (c :: r) with
      | none => rw [hR] at h; cases h
      | err e => rw [hR] at h; cases h
      | tok kd x n len =>
        rw [hR] at h
        simp only at h
        obtain ⟨h1, h2⟩ := readR_len hR
        split at h
        · cases h
        · have hg := gapF_le false ((c :: r).drop len)
          generalize hg' : gapF false ((c :: r).drop len) = g at *
          cases hrest : lexGo f ((c :: r).drop (len + g)) (i + (len + g)) (k + 1) with
          | error e => rw [hrest] at h; cases h
          | ok us =>
            rw [hrest] at h
            cases h
            obtain ⟨q1, q2⟩ := lexGo_bound f _ _ _ hrest
            simp only [List.length_drop] at q1 q2 hg
            refine ⟨by simp at *; omega, fun y hy => ?_⟩
            rcases List.mem_cons.1 hy with rfl | hy
            · simp
            · have := q2 y hy
              simp at *
              omega

theorem lexM_bound {t : List UInt8} {ts : List Tok} (h : lexM t = .ok ts) : ts.length ≤ t.length ∧ ∀ x ∈ ts, x.off < t.length := by
  obtain ⟨h1, h2⟩ := lexGo_bound _ _ _ _ h
  have hg := gapF_le false t
  simp only [List.length_drop] at h1 h2
  exact ⟨by omega, fun x hx => by have := h2 x hx; omega⟩

set_option maxHeartbeats 4000000 in
set_option maxRecDepth 100000 in
theorem matches_spec (t : List UInt8) (h : Heap) (hl : t.length ≤ 9223372036854775807) :
    SpecR Tryd.prog 3 [.string ⟨⟨t⟩⟩] h fun v h' => v = .bool true ∧ Own h [] h' := by
  refine Spec.enter Tryd.func3 rfl Tryd.ntmps3 (by kernel_rfl) ?_
  have o0 := Own.refl h
  refine CallVC.ret (head_spec _) ?_
  rintro _ h1 ⟨rfl, oa⟩
  have o1 := o0.ext' oa
  by_cases hbig : 21000 < t.length
  · refine StillVC.run (StillVC.lenS rfl str9 ?_)
    refine Br.dec (fun c21 => ?_) (fun hc => absurd (by omega) hc)
    refine RetVC.one rfl ?_
    exact ⟨rfl, o1⟩
  · refine StillVC.run (StillVC.lenS rfl str9 ?_)
    refine Br.dec (fun hc => absurd hc (by omega)) (fun c31 => ?_)
    refine CallVC.ret (lex_spec t _ hl) ?_
    intro v2 h2 hp2
    by_cases h20 : 20000 < t.length
    · rw [LexPost, if_pos h20] at hp2
      obtain ⟨rfl, ob⟩ := hp2
      have o2 := o1.ext' ob
      refine CallVC.ret (rlex_spec t _ hl) ?_
      intro v3 h3 hp3
      rw [LexPost, if_pos h20] at hp3
      obtain ⟨rfl, oc⟩ := hp3
      have o3 := o2.ext' oc
      refine Br.tt ?_
      refine Br.tt ?_
      refine Br.tt ?_
      refine CallVC.ret (same_spec [] [] _ _ 0 _ (ArrN.nil 4 _) (ArrN.nil 4 _) (by simp) (by simp) (by simp)) ?_
      rintro _ h4 ⟨rfl, od⟩
      have o4 := o3.ext' od
      refine RetVC.one rfl ?_
      exact ⟨rfl, o4⟩
    · rw [LexPost, if_neg h20] at hp2
      cases hM : lexM t with
      | error x =>
        obtain ⟨e, i⟩ := x
        rw [hM] at hp2
        obtain ⟨rfl, ob⟩ := hp2
        have o2 := o1.ext' ob
        refine CallVC.ret (rlex_spec t _ hl) ?_
        intro v3 h3 hp3
        rw [LexPost, if_neg h20, hM] at hp3
        obtain ⟨rfl, oc⟩ := hp3
        have o3 := o2.ext' oc
        refine Br.tt ?_
        refine Br.dec (fun c90 => ?_) (fun hc => absurd (by omega) hc)
        refine Br.dec (fun c91 => ?_) (fun hc => absurd (by omega) hc)
        refine CallVC.ret (same_spec [] [] _ _ 0 _ (ArrN.nil 4 _) (ArrN.nil 4 _) (by simp) (by simp) (by simp)) ?_
        rintro _ h4 ⟨rfl, od⟩
        have o4 := o3.ext' od
        refine RetVC.one rfl ?_
        exact ⟨rfl, o4⟩
      | ok ts =>
        obtain ⟨b1, b2⟩ := lexM_bound hM
        rw [hM] at hp2
        obtain ⟨u2, rfl, ob⟩ := hp2
        have o2 := o1.call ob
        refine CallVC.ret (rlex_spec t _ hl) ?_
        intro v3 h3 hp3
        rw [LexPost, if_neg h20, hM] at hp3
        obtain ⟨u3, rfl, oc⟩ := hp3
        have o3 := o2.call oc
        refine Br.tt ?_
        refine Br.tt ?_
        refine Br.tt ?_
        refine CallVC.ret (same_spec ts ts _ _ 0 _ ((ob.rowArrN 0 rfl).ext oc.ext) (oc.rowArrN 0 rfl) (by omega) (by simp) (fun x hx => by have := b2 x hx; omega)) ?_
        rintro _ h4 ⟨rfl, od⟩
        have o4 := o3.ext' od
        refine RetVC.one rfl ?_
        refine ⟨congrArg Value.bool (decide_eq_true ⟨rfl, ?_⟩), o4.sel [] rfl⟩
        rfl

end Go.Proofs.YtofbiladpmcjgaaDoor
