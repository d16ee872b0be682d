/-
  The walk of LexerGaps.
-/
import Derived.Test.YtofbiladpmcjgaaDoorStructs
import Derived.Test.YtofbiladpmcjgaaDoorFnLexW
namespace Go.Proofs.YtofbiladpmcjgaaDoor
open Go

theorem gap_pre (st : Bool) {g : List UInt8} (hg : gapF false g = g.length) (X : List UInt8) : gapF st (g ++ 10 :: X) = g.length + 1 + gapF false X := by
  rw [gapF_all_append st g _ (gapF_all st hg), gapF_nl]
  omega

theorem drop_pre (g X : List UInt8) (n : Nat) : (g ++ 10 :: X).drop (g.length + 1 + n) = X.drop n := by
  rw [List.drop_append, List.drop_of_length_le (by omega), List.nil_append, show g.length + 1 + n - g.length = n + 1 by omega, List.drop_succ_cons]

theorem shift_keys {d : Nat} {us : List Tok} : (us.map fun x => (⟨x.kind, x.text, x.num, x.off + d⟩ : Tok)).map Tok.key = us.map Tok.key := by
  rw [List.map_map]; rfl

theorem gaps_plain {t g : List UInt8} {A B : List Tok} {m : Nat} (hA : LexG (t.take m) 0 (.ok A)) (hB : LexG (t.drop m) m (.ok B)) (hg : gapF false g = g.length) :
    ∃ us, LexG (g ++ [10] ++ t.take m ++ [32] ++ (g ++ [10]) ++ t.drop m ++ [32] ++ [10] ++ g) 0 (.ok us) ∧ us.map Tok.key = (A ++ B).map Tok.key := by
  have h1 : LexG (t.drop m ++ 32 :: 10 :: g) m (.ok B) := by
    have hw : ∀ st, gapF st (32 :: 10 :: g) = (32 :: 10 :: g : List UInt8).length := fun st => by
      rw [gapF_blank, gapF_nl, hg]; simp; omega
    have := LexG.append (W := fun _ => .ok []) (blank_ok (10 :: g)) (fun st j => by
      rw [hw, List.drop_length]; exact .nil _) (t.drop m).length (t.drop m) m B (Nat.le_refl _) hB
    simpa [appE] using this
  generalize hT : t.drop m ++ 32 :: 10 :: g = T2 at h1
  have h2 : ∃ C, LexG (t.take m ++ 32 :: (g ++ 10 :: T2)) 0 (.ok C) ∧ C.map Tok.key = (A ++ B).map Tok.key := by
    have key : ∀ j, LexG T2 (m + j) (.ok (B.map fun x => (⟨x.kind, x.text, x.num, x.off + j⟩ : Tok))) := fun j => h1.shift j
    have hm : (t.take m).length ≤ m := by simp; omega
    rcases Nat.lt_or_ge t.length m with hlt | hge
    · -- nothing is left behind the cut
      have hd : t.drop m = [] := List.drop_of_length_le (by omega)
      have hB0 : B = [] := by
        rw [hd] at hB
        rcases hB.inv_ok with ⟨h, _⟩ | ⟨_, _, _, _, _, _, h, _⟩
        · exact h
        · simp at h
      subst hB0
      have hT2 : ∀ j, LexG T2 j (.ok []) := fun j => by
        refine LexG.all ?_ j
        rw [← hT, hd, List.nil_append, gapF_blank, gapF_nl, hg]; simp; omega
      have := LexG.append (W := fun _ => .ok []) (blank_ok (g ++ 10 :: T2)) (fun st j => by
        have hh := hT2 (j + 1 + g.length + 1)
        unfold LexG at hh
        rw [gapF_blank, gap_pre st hg, show 1 + (g.length + 1 + gapF false T2) = (g.length + 1 + gapF false T2) + 1 by omega, List.drop_succ_cons, drop_pre]
        rwa [show j + (g.length + 1 + gapF false T2 + 1) = j + 1 + g.length + 1 + gapF false T2 by omega]) (t.take m).length (t.take m) 0 A (Nat.le_refl _) hA
      exact ⟨A ++ [], this, rfl⟩
    · have hml : (t.take m).length = m := by simp; omega
      have := LexG.appendJ (J := m) (R := .ok (B.map fun x => (⟨x.kind, x.text, x.num, x.off + (1 + g.length + 1)⟩ : Tok))) (blank_ok (g ++ 10 :: T2)) (fun st => ?_) (t.take m).length (t.take m) 0 A (Nat.le_refl _) (by omega) hA
      · exact ⟨_, this, by simp only [List.map_append, shift_keys]⟩
      · have hh := key (1 + g.length + 1)
        unfold LexG at hh
        rw [gapF_blank, gap_pre st hg, show 1 + (g.length + 1 + gapF false T2) = (g.length + 1 + gapF false T2) + 1 by omega, List.drop_succ_cons, drop_pre]
        rwa [show m + (g.length + 1 + gapF false T2 + 1) = m + (1 + g.length + 1) + gapF false T2 by omega]
  obtain ⟨C, hC, hk⟩ := h2
  refine ⟨C.map fun x => (⟨x.kind, x.text, x.num, x.off + (g.length + 1)⟩ : Tok), ?_, by rw [shift_keys, hk]⟩
  have hh := hC.shift (g.length + 1)
  have e : g ++ [10] ++ t.take m ++ [32] ++ (g ++ [10]) ++ t.drop m ++ [32] ++ [10] ++ g = g ++ 10 :: (t.take m ++ 32 :: (g ++ 10 :: T2)) := by
    rw [← hT]; simp
  rw [e]
  unfold LexG at hh ⊢
  rw [gap_pre false hg, drop_pre]
  rwa [show 0 + (g.length + 1) + gapF false (t.take m ++ 32 :: (g ++ 10 :: T2)) = 0 + (g.length + 1 + gapF false (t.take m ++ 32 :: (g ++ 10 :: T2))) by omega] at hh

set_option maxHeartbeats 4000000 in
set_option maxRecDepth 100000 in
theorem gaps_spec (t g : List UInt8) (after : Int) (h : Heap) (hl : t.length ≤ 140737488351232) (hgl : g.length ≤ 140737488351232) (ha0 : 0 ≤ after) (ha1 : after ≤ 65535) :
    SpecR Tryd.prog 7 [.string ⟨⟨t⟩⟩, .string ⟨⟨g⟩⟩, .int .u16 after] h fun v h' => v = .bool true ∧ Own h [] h' := by
  refine Spec.enter Tryd.func7 rfl Tryd.ntmps7 (by kernel_rfl) ?_
  have o0 := Own.refl h
  refine CallVC.ret (head_spec _) ?_
  rintro _ h1 ⟨rfl, oa⟩
  have o1 := o0.ext' oa
  by_cases hbig : 1500 < t.length
  · refine StillVC.run (StillVC.lenS rfl str9 ?_)
    refine Br.dec (fun c21 => ?_) (fun hc => absurd (by omega) hc)
    refine Br.tt ?_
    refine RetVC.one rfl ?_
    exact ⟨rfl, o1⟩
  by_cases hbig2 : 300 < g.length
  · refine StillVC.run (StillVC.lenS rfl str9 ?_)
    refine Br.dec (fun hc => absurd hc (by omega)) (fun c31 => ?_)
    refine StillVC.run (StillVC.lenS rfl str9 ?_)
    refine Br.dec (fun c33 => ?_) (fun hc => absurd (by omega) hc)
    refine Br.tt ?_
    refine RetVC.one rfl ?_
    exact ⟨rfl, o1⟩
  refine StillVC.run (StillVC.lenS rfl str9 ?_)
  refine Br.dec (fun hc => absurd hc (by omega)) (fun c41 => ?_)
  refine StillVC.run (StillVC.lenS rfl str9 ?_)
  refine Br.dec (fun hc => absurd hc (by omega)) (fun c43 => ?_)
  refine CallVC.ret (rgaps_spec g _ (by omega)) ?_
  rintro _ h2 ⟨rfl, ob⟩
  have o2 := o1.ext' ob
  by_cases hg : gapF false g = g.length
  · rw [decide_eq_true hg]
    refine Br.ff ?_
    have hG := lexM_G (t := t) (by omega)
    cases hM : lexM t with
    | error y =>
      obtain ⟨e, j⟩ := y
      rw [hM] at hG
      have he := LexR.err_ne hG e j rfl
      refine CallVC.ret (lex_err (by omega) hM _) ?_
      rintro _ h3 ⟨rfl, oc⟩
      have o3 := o2.ext' oc
      refine Br.ndec (fun c60 => ?_) (fun hc => absurd hc (by first | omega | assumption | decide | exact rfl))
      refine RetVC.one rfl ?_
      exact ⟨rfl, o3⟩
    | ok ts =>
      rw [hM] at hG
      obtain ⟨b1, b2⟩ := lexM_bound hM
      refine CallVC.ret (lex_ok (by omega) hM _) ?_
      rintro _ h3 ⟨u, rfl, oc⟩
      have o3 : Own h [row u 30 4 ts.length (ts.flatMap tokC)] h3 := o2.call oc
      refine Br.ff ?_
      refine StillVC.run (StillVC.lenN (o3.rowArrN 0 rfl) sl23 ?_)
      refine Br.join [11, 12, 44, 45, 46, 47, 48, 49, 50, 51, 52, 53, 54, 55, 56, 57, 58, 59, 60] [11] (fun vs hh => ∃ (m : Nat) (A B : List Tok), m ≤ t.length ∧ vs = [.int .i64 m] ∧ LexG (t.take m) 0 (.ok A) ∧ LexG (t.drop m) m (.ok B) ∧ A ++ B = ts ∧ Own h [row u 30 4 ts.length (ts.flatMap tokC)] hh) rfl rfl ?_ ?_
      · by_cases hpos : 0 < ts.length
        · have hq0 : 0 ≤ after % (ts.length : Int) := Int.emod_nonneg _ (by omega)
          have hq1 : after % (ts.length : Int) < ts.length := Int.emod_lt_of_pos _ (by omega)
          obtain ⟨y, hy⟩ := getx (show (after % (ts.length : Int)).toNat < ts.length by omega)
          have hyb := b2 y (List.mem_of_getElem? hy)
          by_cases hk : y.kind = 3
          · refine Br.dec (fun c90 => ?_) (fun hc => absurd (by omega) hc)
            refine StillVC.run (StillVC.convI rfl int32 int3 ?_)
            refine Ar.i64 (by omega) (by omega) ?_
            refine StillVC.run (StillVC.lenN (o3.rowArrN 0 rfl) sl23 ?_)
            refine StillVC.run (StillVC.remE rfl rfl (by omega) (by omega) ?_)
            refine StillVC.run (StillVC.idxN sl23 ty30 (o3.rowArrN 0 rfl) rfl (by omega) (by omega) ?_)
            refine StillVC.run (StillVC.loadFT ty30 (o3.rowArrN 0 rfl) (fun _ => rfl) (by decide) rfl (by assumption) ?_)
            (refine RunVC.alloc o3 ty30 ?_; intro b96 m96 o96)
            (refine RunVC.storeL o96 1 rfl ty30 rfl (by decide) (And.intro ⟨rfl, rfl⟩ ?_); intro m97 o97)
            refine StillVC.run (StillVC.fieldAddr st30 rfl rfl rfl ?_)
            refine StillVC.run (StillVC.loadO o97 1 rfl ty3 rfl rfl ?_)
            refine Br.ndec (fun hc => absurd (by first | omega | assumption | decide | exact rfl) hc) (fun c100 => ?_)
            refine ⟨rfl, ?_⟩
            exact ⟨0, [], ts, by omega, rfl, LexG.all (by simp [gapF]) 0, hG, rfl, Own.sel (by assumption) [0] rfl⟩
          · obtain ⟨m, hm, hml, hA, hB⟩ := hG.split t.length t 0 ts (after % (ts.length : Int)).toNat y (Nat.le_refl _) hy hk
            rw [Nat.zero_add] at hm hB
            refine Br.dec (fun c110 => ?_) (fun hc => absurd (by omega) hc)
            refine StillVC.run (StillVC.convI rfl int32 int3 ?_)
            refine Ar.i64 (by omega) (by omega) ?_
            refine StillVC.run (StillVC.lenN (o3.rowArrN 0 rfl) sl23 ?_)
            refine StillVC.run (StillVC.remE rfl rfl (by omega) (by omega) ?_)
            refine StillVC.run (StillVC.idxN sl23 ty30 (o3.rowArrN 0 rfl) rfl (by omega) (by omega) ?_)
            refine StillVC.run (StillVC.loadFT ty30 (o3.rowArrN 0 rfl) (fun _ => rfl) (by decide) rfl (by assumption) ?_)
            (refine RunVC.alloc o3 ty30 ?_; intro b116 m116 o116)
            (refine RunVC.storeL o116 1 rfl ty30 rfl (by decide) (And.intro ⟨rfl, rfl⟩ ?_); intro m117 o117)
            refine StillVC.run (StillVC.fieldAddr st30 rfl rfl rfl ?_)
            refine StillVC.run (StillVC.loadO o117 1 rfl ty3 rfl rfl ?_)
            refine Br.ndec (fun c120 => ?_) (fun hc => absurd hc (by first | omega | assumption | decide | exact rfl))
            refine StillVC.run (StillVC.fieldAddr st30 rfl rfl rfl ?_)
            refine StillVC.run (StillVC.loadO o117 1 rfl ty3 rfl rfl ?_)
            refine StillVC.run (StillVC.fieldAddr st30 rfl rfl rfl ?_)
            refine StillVC.run (StillVC.loadO o117 1 rfl ty9 rfl rfl ?_)
            refine StillVC.run (StillVC.lenS rfl str9 ?_)
            refine Ar.i64 (by omega) (by omega) ?_
            refine ⟨rfl, ?_⟩
            exact ⟨m, _, _, hml, by rw [← hm]; rfl, hA, hB, List.take_append_drop _ _, Own.sel (by assumption) [0] rfl⟩
        · refine Br.dec (fun hc => absurd hc (by omega)) (fun c130 => ?_)
          refine ⟨rfl, ?_⟩
          exact ⟨0, [], ts, by omega, rfl, LexG.all (by simp [gapF]) 0, hG, rfl, o3⟩
      · rintro vs junk h4 ⟨m, A, B, hm, rfl, hA, hB, hAB, o4⟩
        refine StillVC.run (StillVC.lenS rfl str9 ?_)
        refine Br.dec (fun hc => absurd hc (by omega)) (fun c151 => ?_)
        refine StillVC.run (StillVC.strAdd rfl rfl (by first | omega | (simp; omega)) ?_)
        refine DrawVC.intro [0, 1, 2, 3, 4, 5, 6, 7, 8, 9, 10, 11, 12, 13, 14, 15, 17, 18, 19, 20, 21, 22, 23] [] [16] [0, 1, 2, 3, 4, 5, 6, 7, 8, 9, 10, 11, 12, 13, 14, 15, 16, 17, 18, 19, 20, 21, 22, 23] mixed (by kernel_rfl) rfl (fun _ _ _ _ h => h) ?_
        refine StillVC.sliceS str9 rfl rfl ⟨_, rfl⟩ (by omega) (by omega) (by omega) ?_
        refine StillVC.strAdd rfl rfl (by first | omega | (simp; omega)) ?_
        refine StillVC.strAdd rfl rfl (by first | omega | (simp; omega)) ?_
        refine StillVC.strAdd rfl rfl (by first | omega | (simp; omega)) ?_
        refine StillVC.sliceS str9 rfl ⟨_, rfl⟩ rfl (by omega) (by omega) (by omega) ?_
        refine StillVC.strAdd rfl rfl (by first | omega | (simp; omega)) ?_
        refine StillVC.strAdd rfl rfl (by first | omega | (simp; omega)) ?_
        refine StillVC.strAdd rfl rfl (by first | omega | (simp; omega)) ?_
        refine StillVC.strAdd rfl rfl (by first | omega | (simp; omega)) ?_
        have e1 : List.drop (Int.toNat 0) (List.take (m : Int).toNat t) = t.take m := by simp
        have e2 : List.drop (m : Int).toNat (List.take (Int.toNat (t.length : Nat)) t) = t.drop m := by simp
        rw [e1, e2]
        obtain ⟨us, hus, hkeys⟩ := gaps_plain hA hB hg
        rw [hAB] at hkeys
        have hbl : (g ++ [10] ++ t.take m ++ [32] ++ (g ++ [10]) ++ t.drop m ++ [32] ++ [10] ++ g).length ≤ 5000 := by simp; omega
        refine CallVC.ret (lex_ok (by omega) (lexM_eq hbl hus) _) ?_
        rintro _ h5 ⟨u5, rfl, oe⟩
        have o5 := o4.call oe
        refine Br.tt ?_
        refine Br.tt ?_
        refine CallVC.ret (alike_spec ts us _ _ _ ((o4.rowArrN 0 rfl).ext oe.ext) (oe.rowArrN 0 rfl) (by omega)) ?_
        rintro _ h6 ⟨rfl, of⟩
        have o6 := o5.ext' of
        refine RetVC.one rfl ?_
        exact ⟨congrArg Value.bool (decide_eq_true hkeys.symm), o6.sel [] rfl⟩
  · rw [decide_eq_false hg]
    refine Br.tt ?_
    refine RetVC.one rfl ?_
    exact ⟨rfl, o2⟩

end Go.Proofs.YtofbiladpmcjgaaDoor
