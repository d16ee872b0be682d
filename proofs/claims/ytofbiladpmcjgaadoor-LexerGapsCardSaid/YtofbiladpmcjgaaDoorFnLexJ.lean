/-
  The walk of LexerParts.
-/
import Derived.Test.YtofbiladpmcjgaaDoorStructs
import Derived.Test.YtofbiladpmcjgaaDoorFnLexI
namespace Go.Proofs.YtofbiladpmcjgaaDoor
open Go

set_option maxHeartbeats 4000000 in
set_option maxRecDepth 100000 in
theorem parts_spec (s t : List UInt8) (h : Heap) (hs : s.length ≤ 140737488351232) (ht : t.length ≤ 140737488351232) :
    SpecR Tryd.prog 5 [.string ⟨⟨s⟩⟩, .string ⟨⟨t⟩⟩] h fun v h' => v = .bool true ∧ Own h [] h' := by
  refine Spec.enter Tryd.func5 rfl Tryd.ntmps5 (by kernel_rfl) ?_
  have o0 := Own.refl h
  refine CallVC.ret (head_spec _) ?_
  rintro _ h1 ⟨rfl, oa⟩
  have o1 := o0.ext' oa
  by_cases hbig : 1500 < s.length
  · refine StillVC.run (StillVC.lenS rfl str9 ?_)
    refine Br.dec (fun c21 => ?_) (fun hc => absurd (by omega) hc)
    refine Br.tt ?_
    refine RetVC.one rfl ?_
    exact ⟨rfl, o1⟩
  by_cases hbig2 : 1500 < t.length
  · refine StillVC.run (StillVC.lenS rfl str9 ?_)
    refine Br.dec (fun hc => absurd hc (by omega)) (fun c31 => ?_)
    refine StillVC.run (StillVC.lenS rfl str9 ?_)
    refine Br.dec (fun c33 => ?_) (fun hc => absurd (by omega) hc)
    refine RetVC.one rfl ?_
    exact ⟨rfl, o1⟩
  refine StillVC.run (StillVC.lenS rfl str9 ?_)
  refine Br.dec (fun hc => absurd hc (by omega)) (fun c41 => ?_)
  refine StillVC.run (StillVC.lenS rfl str9 ?_)
  refine Br.dec (fun hc => absurd hc (by omega)) (fun c43 => ?_)
  have hGs := lexM_G (t := s) (by omega)
  have hGt := lexM_G (t := t) (by omega)
  have hcat : s ++ [10] ++ t = s ++ 10 :: t := by simp
  cases hMs : lexM s with
  | error y =>
    obtain ⟨e, j⟩ := y
    rw [hMs] at hGs
    have he := LexR.err_ne hGs e j rfl
    obtain ⟨⟨e2, j2⟩, hz⟩ := hGs.err_nl t s.length s 0 (e, j) (Nat.le_refl _)
    have he2 := LexR.err_ne hz e2 j2 rfl
    refine CallVC.ret (lex_err (by omega) hMs _) ?_
    rintro _ h2 ⟨rfl, ob⟩
    have o2 := o1.ext' ob
    cases hMt : lexM t with
    | error y =>
      obtain ⟨e3, j3⟩ := y
      refine CallVC.ret (lex_err (by omega) hMt _) ?_
      rintro _ h3 ⟨rfl, oc⟩
      have o3 := o2.ext' oc
      refine StillVC.run (StillVC.strAdd rfl rfl (by first | omega | (simp; omega)) ?_)
      refine StillVC.run (StillVC.strAdd rfl rfl (by first | omega | (simp; omega)) ?_)
      rw [hcat]
      refine CallVC.ret (lex_err (by simp; omega) (lexM_eq (by simp; omega) hz) _) ?_
      rintro _ h4 ⟨rfl, od⟩
      have o4 := o3.ext' od
      refine Br.ndec (fun c80 => ?_) (fun hc => absurd hc (by first | omega | assumption | decide | exact rfl))
      refine Br.tt ?_
      refine RetVC.one rfl ?_
      exact ⟨congrArg Value.bool (by simpa using he2), o4⟩
    | ok ts =>
      refine CallVC.ret (lex_ok (by omega) hMt _) ?_
      rintro _ h3 ⟨u, rfl, oc⟩
      have o3 := o2.call oc
      refine StillVC.run (StillVC.strAdd rfl rfl (by first | omega | (simp; omega)) ?_)
      refine StillVC.run (StillVC.strAdd rfl rfl (by first | omega | (simp; omega)) ?_)
      rw [hcat]
      refine CallVC.ret (lex_err (by simp; omega) (lexM_eq (by simp; omega) hz) _) ?_
      rintro _ h4 ⟨rfl, od⟩
      have o4 := o3.ext' od
      refine Br.ndec (fun c110 => ?_) (fun hc => absurd hc (by first | omega | assumption | decide | exact rfl))
      refine Br.tt ?_
      refine RetVC.one rfl ?_
      exact ⟨congrArg Value.bool (by simpa using he2), o4.sel [] rfl⟩
  | ok us =>
    rw [hMs] at hGs
    have hJ := hGs.join_nl hGt
    rw [Nat.zero_add] at hJ
    refine CallVC.ret (lex_ok (by omega) hMs _) ?_
    rintro _ h2 ⟨u2, rfl, ob⟩
    have o2 := o1.call ob
    cases hMt : lexM t with
    | error y =>
      obtain ⟨e3, j3⟩ := y
      rw [hMt] at hJ hGt
      have he3 := LexR.err_ne hGt e3 j3 rfl
      obtain ⟨_, hj3, hj4, _⟩ := hGt.cut_err t.length t 0 e3 j3 (Nat.le_refl _)
      refine CallVC.ret (lex_err (by omega) hMt _) ?_
      rintro _ h3 ⟨rfl, oc⟩
      have o3 := o2.ext' oc
      refine StillVC.run (StillVC.strAdd rfl rfl (by first | omega | (simp; omega)) ?_)
      refine StillVC.run (StillVC.strAdd rfl rfl (by first | omega | (simp; omega)) ?_)
      rw [hcat]
      refine CallVC.ret (lex_err (by simp; omega) (lexM_eq (by simp; omega) hJ) _) ?_
      rintro _ h4 ⟨rfl, od⟩
      have o4 := o3.ext' od
      refine Br.ff ?_
      refine Br.ndec (fun c150 => ?_) (fun hc => absurd hc (by first | omega | assumption | decide | exact rfl))
      refine Br.tt ?_
      refine Br.dec (fun c151 => ?_) (fun hc => absurd (by omega) hc)
      refine StillVC.run (StillVC.lenS rfl str9 ?_)
      refine Ar.i64 (by omega) (by omega) ?_
      refine Ar.i64 (by omega) (by omega) ?_
      refine RetVC.one rfl ?_
      exact ⟨congrArg Value.bool (decide_eq_true (by omega)), o4.sel [] rfl⟩
    | ok ws =>
      rw [hMt] at hJ
      obtain ⟨a1, a2⟩ := lexM_bound hMs
      obtain ⟨b1, b2⟩ := lexM_bound hMt
      refine CallVC.ret (lex_ok (by omega) hMt _) ?_
      rintro _ h3 ⟨u3, rfl, oc⟩
      have o3 := o2.call oc
      refine StillVC.run (StillVC.strAdd rfl rfl (by first | omega | (simp; omega)) ?_)
      refine StillVC.run (StillVC.strAdd rfl rfl (by first | omega | (simp; omega)) ?_)
      rw [hcat]
      refine CallVC.ret (lex_ok (by simp; omega) (lexM_eq (by simp; omega) hJ) _) ?_
      rintro _ h4 ⟨u4, rfl, od⟩
      have o4 := o3.call od
      have tA : ArrN 4 h4 u2 us.length (us.flatMap tokC) := (ob.rowArrN 0 rfl).ext (oc.ext.trans od.ext)
      have tB : ArrN 4 h4 u3 ws.length (ws.flatMap tokC) := (oc.rowArrN 0 rfl).ext od.ext
      have hcl : (us ++ ws.map fun x => (⟨x.kind, x.text, x.num, x.off + (s.length + 1)⟩ : Tok)).length = us.length + ws.length := by simp
      generalize hcs : (us ++ ws.map fun x => (⟨x.kind, x.text, x.num, x.off + (s.length + 1)⟩ : Tok)) = cs at *
      have tC : ArrN 4 h4 u4 cs.length (cs.flatMap tokC) := od.rowArrN 0 rfl
      have e4 : (cs.flatMap tokC).take (((us.length : Nat) : Int).toNat * 4) = us.flatMap tokC := by
        rw [Int.toNat_natCast, flat_take (f := tokC) (sz := 4) (fun _ => rfl), ← hcs, List.take_left]
      have e5 : (cs.flatMap tokC).drop (((us.length : Nat) : Int).toNat * 4) = (ws.map fun x => (⟨x.kind, x.text, x.num, x.off + (s.length + 1)⟩ : Tok)).flatMap tokC := by
        rw [Int.toNat_natCast, flat_drop (f := tokC) (sz := 4) (fun _ => rfl), ← hcs, List.drop_left]
      have e6 : cs.length - ((us.length : Nat) : Int).toNat = (ws.map fun x => (⟨x.kind, x.text, x.num, x.off + (s.length + 1)⟩ : Tok)).length := by
        rw [Int.toNat_natCast, List.length_map]; omega
      refine Br.ff ?_
      refine Br.ff ?_
      refine Br.ff ?_
      refine StillVC.run (StillVC.lenN (od.rowArrN 0 rfl) sl23 ?_)
      refine StillVC.run (StillVC.lenN tA sl23 ?_)
      refine StillVC.run (StillVC.lenN tB sl23 ?_)
      refine Ar.i64 (by omega) (by omega) ?_
      refine Br.ndec (fun hc => absurd (by first | omega | assumption | decide | exact rfl) hc) (fun c193 => ?_)
      refine Br.tt ?_
      refine StillVC.run (StillVC.lenN tA sl23 ?_)
      (refine StillVC.run (StillVC.sliceHN sl23 ty30 tC rfl (by omega) (by omega) ?_); intro v195 a195)
      have tP : ArrN 4 h4 v195 us.length (us.flatMap tokC) := by
        rw [← e4]; exact a195
      refine CallVC.ret (same_spec us us _ _ 0 _ tA tP (by omega) (by simp) (fun x hx => by have := a2 x hx; omega)) ?_
      rintro _ h5 ⟨rfl, oe⟩
      have o5 := o4.ext' oe
      have tC5 : ArrN 4 h5 u4 cs.length (cs.flatMap tokC) := tC.ext oe.ext
      rw [decide_eq_true (show us.map Tok.key = us.map Tok.key ∧ us.map (fun x => x.off + 0) = us.map Tok.off from ⟨rfl, rfl⟩)]
      refine Br.tt ?_
      refine StillVC.run (StillVC.lenS rfl str9 ?_)
      refine Ar.i64 (by omega) (by omega) ?_
      refine StillVC.run (StillVC.lenN (tA.ext oe.ext) sl23 ?_)
      (refine StillVC.run (StillVC.sliceFN sl23 ty30 tC5 rfl (by omega) (by omega) ?_); intro v202 a202)
      have tQ : ArrN 4 h5 v202 (ws.map fun x => (⟨x.kind, x.text, x.num, x.off + (s.length + 1)⟩ : Tok)).length ((ws.map fun x => (⟨x.kind, x.text, x.num, x.off + (s.length + 1)⟩ : Tok)).flatMap tokC) := by
        rw [← e5, ← e6]; exact a202
      refine CallVC.ret (same_spec ws (ws.map fun x => (⟨x.kind, x.text, x.num, x.off + (s.length + 1)⟩ : Tok)) _ _ (s.length + 1) _ (tB.ext oe.ext) tQ (by omega) (by omega) (fun x hx => by have := b2 x hx; omega)) ?_
      rintro _ h6 ⟨rfl, of⟩
      have o6 := o5.ext' of
      refine RetVC.one rfl ?_
      refine ⟨congrArg Value.bool (decide_eq_true ⟨?_, ?_⟩), o6.sel [] rfl⟩
      · rw [List.map_map]; rfl
      · rw [List.map_map]; rfl

end Go.Proofs.YtofbiladpmcjgaaDoor
