/-
  The reference lexer; lists of tokens that are compared.
-/
import Derived.Test.YtofbiladpmcjgaaDoorStructs
import Derived.Test.YtofbiladpmcjgaaDoorFnLexT
namespace Go.Proofs.YtofbiladpmcjgaaDoor
open Go

theorem readR_err {l : List UInt8} {e : Int} (h : readR l = .err e) : e = 3 ∨ e = 5 ∨ e = 6 ∨ e = 7 := by
  cases l with
  | nil =>
    have : readR [] = .err 5 := rfl
    rw [this] at h
    cases h; omega
  | cons c r =>
    cases hl : letterB c with
    | true =>
      rw [readR_letter hl] at h
      split at h <;> cases h
      omega
    | false =>
      cases hd : digitB c with
      | true =>
        rw [readR_digit hl hd] at h
        split at h <;> cases h
        omega
      | false =>
        by_cases h34 : c.toNat = 34
        · rw [readR_quote hl hd h34] at h
          have := quoF_err _ _ _ h
          omega
        · rw [readR_symbol hl hd h34] at h
          split at h <;> cases h
          omega

theorem readR_some (l : List UInt8) : readR l ≠ .none := by
  have key : ∀ rs, readN rs l ≠ .none := by
    intro rs
    induction rs with
    | nil => simp [readN]
    | cons r rs ih =>
      rw [readN]
      split
      · exact ih
      · assumption
  exact key _

set_option maxHeartbeats 4000000 in
set_option maxRecDepth 100000 in
theorem rlex_spec (t : List UInt8) (h : Heap) (hl : t.length ≤ 9223372036854775807) :
    SpecR Tryd.prog 10 [.string ⟨⟨t⟩⟩] h (LexPost h t) := by
  refine Spec.enter Tryd.func10 rfl Tryd.ntmps10 (by kernel_rfl) ?_
  have o0 := Own.refl h
  by_cases hbig : 20000 < t.length
  · refine StillVC.run (StillVC.lenS rfl str9 ?_)
    refine Br.dec (fun c11 => ?_) (fun hc => absurd (by omega) hc)
    refine RetVC.three rfl ?_
    show LexPost h t _ _
    rw [LexPost, if_pos hbig]
    exact ⟨rfl, o0⟩
  · have hP : ∀ v h', LexPost h t v h' = _ := fun v h' => by rw [LexPost, if_neg hbig]
    refine StillVC.run (StillVC.lenS rfl str9 ?_)
    refine Br.dec (fun hc => absurd hc (by omega)) (fun c21 => ?_)
    refine CallVC.ret (rgap_spec t 0 _ (by omega) (by omega)) ?_
    rintro _ h1 ⟨rfl, oa⟩
    have o1 := o0.ext' oa
    have hgle := gapF_le false t
    rw [List.drop_zero]
    generalize hT : lexM t = T at hP
    have hT0 : consR [] (lexGo (t.length) (t.drop (gapF false t)) (gapF false t) 0) = T := by
      rw [← hT, lexM]
      cases lexGo t.length (t.drop (gapF false t)) (gapF false t) 0 <;> rfl
    have on := o1.nilRow 30 4
    refine LoopVC.intro [2, 3, 4, 5, 6, 7, 8, 9, 15, 16, 17, 18, 19, 20, 21, 22, 23, 24, 25, 26, 27, 28, 29, 30, 31, 32, 33, 34, 35, 36, 37, 38, 39, 40, 41, 42, 43, 44, 45] [5, 6] (fun vs hh => ∃ (f j : Nat) (acc : List Tok) (v : Value), j ≤ t.length ∧ t.length ≤ j + f ∧ acc.length ≤ j ∧ acc.length ≤ 5000 ∧ vs = [v, .int .i64 j] ∧ consR acc (lexGo f (t.drop j) j acc.length) = T ∧ Own h [row v 30 4 acc.length (acc.flatMap tokC)] hh) (fun vs _ => match vs with | [_, .int _ j] => t.length - j.toNat | _ => 0) ?_ ?_
    · exact ⟨t.length, gapF false t, [], _, hgle, by omega, by simp, by simp, rfl, hT0, on⟩
    · rintro vs junk hh ⟨f, j, acc, v, hj, hf, haj, hac, rfl, hQ, oh⟩
      obtain ⟨va, vc, rfl⟩ := oh.rowIs 0 rfl
      by_cases hlt : j < t.length
      · have hdn : t.drop j ≠ [] := fun e => by have := congrArg List.length e; simp at this; omega
        obtain ⟨f, rfl⟩ : ∃ f', f = f' + 1 := ⟨f - 1, by omega⟩
        refine StillVC.run (StillVC.lenS rfl str9 ?_)
        refine Br.dec (fun c41 => ?_) (fun hc => absurd (by omega) hc)
        refine CallVC.ret (rtoken_spec t j _ hlt (by omega)) ?_
        rintro _ h2 ⟨rfl, ob⟩
        have o2 := oh.ext' ob
        cases hR : readR (t.drop j) with
        | none => exact absurd hR (readR_some _)
        | err e =>
          have he := readR_err hR
          rw [lexGo_err hdn hR] at hQ
          (refine RunVC.alloc o2 ty30 ?_; intro b50 m50 o50)
          (refine RunVC.storeL o50 1 rfl ty30 rfl (by decide) (And.intro ⟨rfl, rfl⟩ ?_); intro m51 o51)
          refine Br.ndec (fun c52 => ?_) (fun hc => absurd hc (by first | omega | assumption | decide | exact rfl))
          refine RetVC.three rfl ?_
          show LexPost h t _ _
          rw [hP, ← hQ]
          exact ⟨rfl, Own.sel (by assumption) [] rfl⟩
        | tok k x n len =>
          obtain ⟨hl1, hl2⟩ := readR_len hR
          rw [List.length_drop] at hl2
          by_cases hfull : acc.length = 5000
          · rw [hfull, lexGo_full hdn hR] at hQ
            (refine RunVC.alloc o2 ty30 ?_; intro b70 m70 o70)
            (refine RunVC.storeL o70 1 rfl ty30 rfl (by decide) (And.intro ⟨rfl, rfl⟩ ?_); intro m71 o71)
            refine Br.ff ?_
            refine StillVC.run (StillVC.lenV rfl sl23 ?_)
            refine Br.dec (fun c73 => ?_) (fun hc => absurd (by omega) hc)
            refine RetVC.three rfl ?_
            show LexPost h t _ _
            rw [hP, ← hQ]
            exact ⟨rfl, Own.sel (by assumption) [] rfl⟩
          · rw [lexGo_tok hdn hR hfull] at hQ
            (refine RunVC.alloc o2 ty30 ?_; intro b100 m100 o100)
            (refine RunVC.storeL o100 1 rfl ty30 rfl (by decide) (And.intro ⟨rfl, rfl⟩ ?_); intro m101 o101)
            refine Br.ff ?_
            refine StillVC.run (StillVC.lenV rfl sl23 ?_)
            refine Br.dec (fun hc => absurd hc (by omega)) (fun c103 => ?_)
            refine StillVC.run (StillVC.loadON o101 1 rfl ty30 rfl rfl rfl ?_)
            (refine RunVC.litN o101 sl23 ty30 rfl rfl (by decide) ?_)
            refine And.intro rfl ?_
            intro b106 m106 o106
            refine RunVC.append (by assumption) 0 rfl sl23 ty30 (by decide) (Own.boxArrN (by assumption) 2 rfl (n := 1) rfl (by omega)) (by simp [Value.oneCell']) (by simp only [maxLen]; omega) (by omega) ?_
            intro v155 m155 o155
            obtain ⟨ua, uc, rfl⟩ := o155.rowIs 0 rfl
            refine Ar.i64 (by omega) (by omega) ?_
            refine CallVC.ret (rgap_spec t (j + len) _ (by omega) (by omega)) ?_
            rintro _ h3 ⟨rfl, oc⟩
            have o3 := o155.ext' oc
            have hgl := gapF_le false (t.drop (j + len))
            rw [List.length_drop] at hgl
            simp only [List.drop_drop] at hQ
            generalize gapF false (t.drop (j + len)) = gg at *
            refine Ar.i64 (by omega) (by omega) ?_
            refine ⟨rfl, ?_⟩
            refine ⟨⟨f, j + len + gg, acc ++ [⟨k, x, n, j⟩], .slice ua (acc.length + 1) uc, by omega, by omega, by simp; omega, by simp; omega, rfl, ?_, ?_⟩, ?_⟩
            · rw [← hQ, List.length_append]
              simp only [List.length_cons, List.length_nil, Nat.zero_add, Nat.add_assoc]
            · have e1 : (acc ++ [(⟨k, x, n, j⟩ : Tok)]).length = acc.length + 1 := by simp
              have e2 : (acc ++ [(⟨k, x, n, j⟩ : Tok)]).flatMap tokC = acc.flatMap tokC ++ tokC ⟨k, x, n, j⟩ := by simp
              rw [e1, e2]
              have q := o3.sel [0] rfl
              simpa [pick, tokC] using q
            · simp
              omega
      · have hd : t.drop j = [] := List.drop_of_length_le (by omega)
        rw [hd, lexGo_nil] at hQ
        simp only [consR, List.append_nil] at hQ
        refine StillVC.run (StillVC.lenS rfl str9 ?_)
        refine Br.dec (fun hc => absurd hc (by omega)) (fun c181 => ?_)
        refine RetVC.three rfl ?_
        show LexPost h t _ _
        rw [hP, ← hQ]
        exact ⟨_, rfl, oh.sel [0] rfl⟩

end Go.Proofs.YtofbiladpmcjgaaDoor
