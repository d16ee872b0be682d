/-
  value.Parse: what it returns, and that this is the value with the text.
-/
import Derived.Test.YtffpaippmfafjaaGreatDoorStructs
import Derived.Test.YtffpaippmfafjaaGreatDoorFnCon
namespace Go.Proofs.YtffpaippmfafjaaGreatDoor
open Go

theorem parseR_of {s : List UInt8} {k n : Int} {t : List UInt8} (hv : validP k n t) (he : valT k n t = s) : ParseR s k n t 0 := .inl ⟨hv, he, rfl⟩

theorem valT_num {n : Int} (h : validP 2 n []) : valT 2 n [] = Lib.itoa n := by
  rcases valT_cases h with ⟨e, _⟩ | ⟨e, _⟩ | ⟨_, _, _, _, e⟩ | ⟨e, _⟩ | ⟨e, _⟩ | ⟨e, _⟩ <;> first | exact e | omega

theorem valT_day {n : Int} (h : validP 3 n []) : valT 3 n [] = [64] ++ Lib.itoa n := by
  rcases valT_cases h with ⟨e, _⟩ | ⟨e, _⟩ | ⟨e, _⟩ | ⟨_, _, _, _, e⟩ | ⟨e, _⟩ | ⟨e, _⟩ <;> first | exact e | omega

theorem valT_text {t : List UInt8} (h : validP 1 0 t) : valT 1 0 t = [34] ++ escS t ++ [34] := by
  rcases valT_cases h with ⟨e, _⟩ | ⟨_, _, _, e⟩ | ⟨e, _⟩ | ⟨e, _⟩ | ⟨e, _⟩ | ⟨e, _⟩ <;> first | exact e | omega

/-- A text that begins as a number's. -/
theorem parse_num {s : List UInt8} (h0 : s ≠ [110, 117, 108, 108]) (h1 : s ≠ [116, 114, 117, 101]) (h2 : s ≠ [102, 97, 108, 115, 101]) (h3 : ∀ r, s ≠ 64 :: r) (h4 : ∀ r, s ≠ 34 :: r) :
    if decR s = true ∧ validP 2 (atoiR s).1 [] then ParseR s 2 (atoiR s).1 [] 0 else ParseR s 0 0 [] 4 := by
  split
  · rename_i h
    exact parseR_of h.2 ((valT_num h.2).trans (decR_iff h.1))
  · rename_i h
    refine .inr ⟨rfl, rfl, rfl, rfl, fun k' n' t' hv he => ?_⟩
    rcases valT_cases hv with ⟨rfl, _, _, e⟩ | ⟨rfl, _, _, e⟩ | ⟨rfl, a, b, rfl, e⟩ | ⟨rfl, _, _, _, e⟩ | ⟨rfl, _, _, e⟩ | ⟨rfl, _, _, e⟩
    · exact h0 (he.symm.trans e)
    · exact h4 (escS t' ++ [34]) ((he.symm.trans e).trans (by simp))
    · rw [e] at he
      subst he
      obtain ⟨d1, d2⟩ := decR_itoa (n := n') (by omega) (by omega)
      exact h ⟨d1, by rw [d2]; exact hv⟩
    · exact h3 (Lib.itoa n') (he.symm.trans e)
    · exact h2 (he.symm.trans e)
    · exact h1 (he.symm.trans e)

theorem parse_day {s : List UInt8} :
    if decR s = true ∧ validP 3 (atoiR s).1 [] then ParseR (64 :: s) 3 (atoiR s).1 [] 0 else ParseR (64 :: s) 0 0 [] 4 := by
  split
  · rename_i h
    exact parseR_of h.2 ((valT_day h.2).trans (by rw [decR_iff h.1]; rfl))
  · rename_i h
    refine .inr ⟨rfl, rfl, rfl, rfl, fun k' n' t' hv he => ?_⟩
    obtain ⟨c, r, e1, hc⟩ := valT_head hv
    rw [he] at e1
    obtain ⟨rfl, _⟩ := List.cons.inj e1
    obtain rfl : k' = 3 := hc.symm
    rcases valT_cases hv with ⟨e, _⟩ | ⟨e, _⟩ | ⟨e, _⟩ | ⟨_, a, b, rfl, e⟩ | ⟨e, _⟩ | ⟨e, _⟩ <;> try omega
    rw [e] at he
    obtain rfl : Lib.itoa n' = s := (List.cons.inj he).2
    obtain ⟨d1, d2⟩ := decR_itoa (n := n') (by omega) (by omega)
    exact h ⟨d1, by rw [d2]; exact hv⟩

theorem contentR_iff (s t : List UInt8) : contentR s = some t ↔ s = [34] ++ escS t ++ [34] := by
  constructor
  · intro h
    unfold contentR at h
    split at h
    · rename_i r
      split at h
      · rename_i hl
        have hr : r ≠ [] := by rintro rfl; simp at hl
        have := (contF_iff _ _).1 h
        rw [this, List.getLast?_eq_some_getLast hr] at *
        have e := List.dropLast_concat_getLast hr
        rw [Option.some.inj hl] at e
        simp [e]
      · cases h
    · cases h
  · rintro rfl
    show contentR (34 :: (escS t ++ [34])) = _
    unfold contentR
    simp [contF_escS]

theorem parse_text {s : List UInt8} {u : List UInt8} {b : Bool} (hc : contentR (34 :: s) = if b then some u else none) :
    if b = true ∧ validP 1 0 u then ParseR (34 :: s) 1 0 u 0 else ParseR (34 :: s) 0 0 [] 4 := by
  split
  · rename_i h
    rw [if_pos h.1] at hc
    exact parseR_of h.2 ((valT_text h.2).trans ((contentR_iff _ _).1 hc).symm)
  · rename_i h
    refine .inr ⟨rfl, rfl, rfl, rfl, fun k' n' t' hv he => ?_⟩
    obtain ⟨c, r, e1, hk⟩ := valT_head hv
    rw [he] at e1
    obtain ⟨rfl, _⟩ := List.cons.inj e1
    obtain rfl : k' = 1 := hk.symm
    rcases valT_cases hv with ⟨e, _⟩ | ⟨_, rfl, _, e⟩ | ⟨e, _⟩ | ⟨e, _⟩ | ⟨e, _⟩ | ⟨e, _⟩ <;> try omega
    rw [(contentR_iff _ _).2 (he.symm.trans e)] at hc
    cases b with
    | false => cases hc
    | true => cases hc; exact h ⟨rfl, hv⟩

theorem hasPrefix_spec (l p : List UInt8) (h : Heap) :
    SpecR Tryz.prog 30 [.string ⟨⟨l⟩⟩, .string ⟨⟨p⟩⟩] h fun r h' => r = .bool (Lib.hasPrefix l p) ∧ Own h [] h' := by
  refine ⟨⟨_, Tryz.func30, rfl, by kernel_rfl⟩, fun w hw => ?_⟩
  subst hw
  refine (Tryz.strings_HasPrefix ⟨⟨l⟩⟩ ⟨⟨p⟩⟩ w).mono ?_
  rintro e w' ⟨rfl, rfl⟩
  exact ⟨.refl _, rfl, Own.refl _⟩

theorem escS_ge : ∀ u : List UInt8, u.length ≤ (escS u).length
  | [] => Nat.le_refl _
  | c :: u => by
    have ih := escS_ge u
    have e : escS (c :: u) = esc1 c ++ escS u := by simp [escS]
    have : 1 ≤ (esc1 c).length := by
      unfold esc1
      split
      · simp
      · split
        · simp
        · split <;> simp
    rw [e, List.length_append, List.length_cons]
    omega

theorem pre_no {x : UInt8} {s : List UInt8} (h : ¬ ∃ r, s = x :: r) : Lib.hasPrefix s [x] = false := by
  cases s with
  | nil => rfl
  | cons c r =>
    have : (x == c) = false := by rw [beq_eq_false_iff_ne]; exact fun e => h ⟨r, by rw [e]⟩
    simp only [Lib.hasPrefix, List.isPrefixOf, this, Bool.false_and]

theorem pre_yes (x : UInt8) (r : List UInt8) : Lib.hasPrefix (x :: r) [x] = true := by
  simp [Lib.hasPrefix]

set_option maxHeartbeats 4000000 in
set_option maxRecDepth 100000 in
theorem parse_spec (s : List UInt8) (h : Heap) (hl : s.length ≤ 500000) (hV : VarH h) (hT : TabH h) :
    SpecR Tryz.prog 13 [.string ⟨⟨s⟩⟩] h fun r h' => (∃ k n t e, r = .tuple ⟨[valV k n t, .int .i64 e]⟩ ∧ ParseR s k n t e) ∧ Own h [] h' := by
  have o0 := Own.refl h
  refine Spec.enter Tryz.func13 rfl Tryz.ntmps13 (by kernel_rfl) ?_
  by_cases h0 : s = [110, 117, 108, 108]
  · subst h0
    (refine RunVC.alloc o0 ty23 ?_; intro b10 m10 o10)
    (refine RunVC.alloc o10 ty23 ?_; intro b11 m11 o11)
    refine Br.tt ?_
    refine Br.ff ?_
    refine StillVC.run (StillVC.loadON o11 1 rfl ty23 rfl rfl rfl ?_)
    refine CallVC.ret (valid_spec 0 0 [] _ (by decide)) ?_
    rintro _ m16 ⟨rfl, ov⟩
    have o16 := ov.thenE (by assumption)
    rw [show decide (validP 0 0 []) = true by decide]
    refine Br.ff ?_
    refine StillVC.run (StillVC.loadON o16 1 rfl ty23 rfl rfl rfl ?_)
    (refine RunVC.storeL o16 0 rfl ty23 rfl (by decide) (And.intro ⟨rfl, rfl⟩ ?_); intro m18 o18)
    first | refine RetVC.cell2 rfl o18 0 rfl ty23 rfl rfl ?_ | refine RetVC.cell1 rfl o18 0 rfl ty23 rfl rfl ?_ | refine RetVC.cellTT rfl o18 0 rfl ty23 rfl rfl ?_
    exact ⟨⟨0, 0, [], 0, rfl, parseR_of (by decide) (by decide)⟩, Own.sel (by assumption) [] rfl⟩
  by_cases h1 : s = [116, 114, 117, 101]
  · subst h1
    (refine RunVC.alloc o0 ty23 ?_; intro b30 m30 o30)
    (refine RunVC.alloc o30 ty23 ?_; intro b31 m31 o31)
    refine Br.ff ?_
    refine Br.tt ?_
    refine StillVC.run (StillVC.buildK st23 ?_)
    refine And.intro rfl ?_
    refine And.intro rfl ?_
    (refine RunVC.storeL o31 1 rfl ty23 rfl (by decide) (And.intro ⟨rfl, rfl⟩ ?_); intro m33 o33)
    refine Br.ff ?_
    refine StillVC.run (StillVC.loadON o33 1 rfl ty23 rfl rfl rfl ?_)
    refine CallVC.ret (valid_spec 4 1 [] _ (by decide)) ?_
    rintro _ m36 ⟨rfl, ov⟩
    have o36 := ov.thenE (by assumption)
    rw [show decide (validP 4 1 []) = true by decide]
    refine Br.ff ?_
    refine StillVC.run (StillVC.loadON o36 1 rfl ty23 rfl rfl rfl ?_)
    (refine RunVC.storeL o36 0 rfl ty23 rfl (by decide) (And.intro ⟨rfl, rfl⟩ ?_); intro m38 o38)
    first | refine RetVC.cell2 rfl o38 0 rfl ty23 rfl rfl ?_ | refine RetVC.cell1 rfl o38 0 rfl ty23 rfl rfl ?_ | refine RetVC.cellTT rfl o38 0 rfl ty23 rfl rfl ?_
    exact ⟨⟨4, 1, [], 0, rfl, parseR_of (by decide) (by decide)⟩, Own.sel (by assumption) [] rfl⟩
  by_cases h2 : s = [102, 97, 108, 115, 101]
  · subst h2
    (refine RunVC.alloc o0 ty23 ?_; intro b50 m50 o50)
    (refine RunVC.alloc o50 ty23 ?_; intro b51 m51 o51)
    refine Br.ff ?_
    refine Br.ff ?_
    refine Br.tt ?_
    refine StillVC.run (StillVC.buildK st23 ?_)
    refine And.intro rfl ?_
    (refine RunVC.storeL o51 1 rfl ty23 rfl (by decide) (And.intro ⟨rfl, rfl⟩ ?_); intro m53 o53)
    refine Br.ff ?_
    refine StillVC.run (StillVC.loadON o53 1 rfl ty23 rfl rfl rfl ?_)
    refine CallVC.ret (valid_spec 4 0 [] _ (by decide)) ?_
    rintro _ m56 ⟨rfl, ov⟩
    have o56 := ov.thenE (by assumption)
    rw [show decide (validP 4 0 []) = true by decide]
    refine Br.ff ?_
    refine StillVC.run (StillVC.loadON o56 1 rfl ty23 rfl rfl rfl ?_)
    (refine RunVC.storeL o56 0 rfl ty23 rfl (by decide) (And.intro ⟨rfl, rfl⟩ ?_); intro m58 o58)
    first | refine RetVC.cell2 rfl o58 0 rfl ty23 rfl rfl ?_ | refine RetVC.cell1 rfl o58 0 rfl ty23 rfl rfl ?_ | refine RetVC.cellTT rfl o58 0 rfl ty23 rfl rfl ?_
    exact ⟨⟨4, 0, [], 0, rfl, parseR_of (by decide) (by decide)⟩, Own.sel (by assumption) [] rfl⟩
  (refine RunVC.alloc o0 ty23 ?_; intro b70 m70 o70)
  (refine RunVC.alloc o70 ty23 ?_; intro b71 m71 o71)
  refine Br.dec (fun hc => absurd hc (by omega)) (fun c72 => ?_)
  refine Br.dec (fun hc => absurd hc (by omega)) (fun c73 => ?_)
  refine Br.dec (fun hc => absurd hc (by omega)) (fun c74 => ?_)
  refine CallVC.ret (hasPrefix_spec _ _ _) ?_
  rintro _ m76 ⟨rfl, op⟩
  have o76 := op.thenE (by assumption)
  clear op
  by_cases h3 : ∃ r, s = 64 :: r
  · obtain ⟨r, hs⟩ := h3
    have hP := parse_day (s := r)
    rw [← hs] at hP
    rw [show Lib.hasPrefix s [64] = true by rw [hs]; exact pre_yes 64 r]
    have hlen : s.length = r.length + 1 := by rw [hs]; rfl
    have hdr : (s.take (s.length : Int).toNat).drop (Int.toNat 1) = r := by rw [hs]; simp
    refine Br.tt ?_
    refine StillVC.run (StillVC.fieldAddr st23 rfl rfl rfl ?_)
    (refine RunVC.storeL o76 1 rfl ty3 rfl (by decide) (And.intro ⟨rfl, rfl⟩ ?_); intro m81 o81)
    refine StillVC.run (StillVC.sliceS str9 rfl ⟨_, rfl⟩ rfl (by omega) (by omega) (by omega) ?_)
    rw [hdr]
    refine CallVC.ret (decimal_spec r _ (by omega) (hV.ext o81.ext) (hT.ext o81.ext)) ?_
    rintro _ m86 ⟨rfl, od⟩
    have o86 := od.thenE (by assumption)
    clear od
    by_cases hb : decR r = true
    case neg =>
      rw [Bool.eq_false_iff.2 hb]
      rw [if_neg (fun h => hb h.1)] at hP
      refine StillVC.run (StillVC.fieldAddr st23 rfl rfl rfl ?_)
      (refine RunVC.storeL o86 1 rfl ty3 rfl (by decide) (And.intro ⟨rfl, rfl⟩ ?_); intro m91 o91)
      refine Br.tt ?_
      refine Br.tt ?_
      refine StillVC.run (StillVC.buildK st23 ?_)
      (refine RunVC.storeL o91 0 rfl ty23 rfl (by decide) (And.intro ⟨rfl, rfl⟩ ?_); intro m93 o93)
      first | refine RetVC.cell2 rfl o93 0 rfl ty23 rfl rfl ?_ | refine RetVC.cell1 rfl o93 0 rfl ty23 rfl rfl ?_ | refine RetVC.cellTT rfl o93 0 rfl ty23 rfl rfl ?_
      exact ⟨⟨0, 0, [], 4, rfl, hP⟩, Own.sel (by assumption) [] rfl⟩
    rw [hb]
    refine StillVC.run (StillVC.fieldAddr st23 rfl rfl rfl ?_)
    (refine RunVC.storeL o86 1 rfl ty3 rfl (by decide) (And.intro ⟨rfl, rfl⟩ ?_); intro m94 o94)
    refine Br.ff ?_
    refine StillVC.run (StillVC.loadON o94 1 rfl ty23 rfl rfl rfl ?_)
    refine CallVC.ret (valid_spec 3 (atoiR r).1 [] _ (by first | decide | omega)) ?_
    rintro _ m98 ⟨rfl, ov⟩
    have o98 := ov.thenE (by assumption)
    by_cases hv : validP 3 (atoiR r).1 []
    · rw [decide_eq_true hv]
      rw [if_pos ⟨hb, hv⟩] at hP
      refine Br.ff ?_
      refine StillVC.run (StillVC.loadON o98 1 rfl ty23 rfl rfl rfl ?_)
      (refine RunVC.storeL o98 0 rfl ty23 rfl (by decide) (And.intro ⟨rfl, rfl⟩ ?_); intro m101 o101)
      first | refine RetVC.cell2 rfl o101 0 rfl ty23 rfl rfl ?_ | refine RetVC.cell1 rfl o101 0 rfl ty23 rfl rfl ?_ | refine RetVC.cellTT rfl o101 0 rfl ty23 rfl rfl ?_
      exact ⟨⟨3, (atoiR r).1, [], 0, rfl, hP⟩, Own.sel (by assumption) [] rfl⟩
    · rw [decide_eq_false hv]
      rw [if_neg (fun h => hv h.2)] at hP
      refine Br.tt ?_
      refine StillVC.run (StillVC.buildK st23 ?_)
      (refine RunVC.storeL o98 0 rfl ty23 rfl (by decide) (And.intro ⟨rfl, rfl⟩ ?_); intro m105 o105)
      first | refine RetVC.cell2 rfl o105 0 rfl ty23 rfl rfl ?_ | refine RetVC.cell1 rfl o105 0 rfl ty23 rfl rfl ?_ | refine RetVC.cellTT rfl o105 0 rfl ty23 rfl rfl ?_
      exact ⟨⟨0, 0, [], 4, rfl, hP⟩, Own.sel (by assumption) [] rfl⟩
  rw [pre_no h3]
  refine Br.ff ?_
  refine CallVC.ret (hasPrefix_spec _ _ _) ?_
  rintro _ m126 ⟨rfl, op⟩
  have o126 := op.thenE (by assumption)
  clear op
  by_cases h4 : ∃ r, s = 34 :: r
  · obtain ⟨r, hs⟩ := h4
    rw [show Lib.hasPrefix s [34] = true by rw [hs]; exact pre_yes 34 r]
    refine Br.tt ?_
    refine StillVC.run (StillVC.fieldAddr st23 rfl rfl rfl ?_)
    (refine RunVC.storeL o126 1 rfl ty3 rfl (by decide) (And.intro ⟨rfl, rfl⟩ ?_); intro m131 o131)
    refine CallVC.ret (content_spec s _ (by omega)) ?_
    rintro _ m136 ⟨⟨u, b, rfl, hc⟩, od⟩
    have o136 := od.thenE (by assumption)
    clear od
    rw [hs] at hc
    have hP := parse_text hc
    rw [← hs] at hP
    by_cases hb : b = true
    case neg =>
      rw [Bool.eq_false_iff.2 hb]
      rw [if_neg (fun h => hb h.1)] at hP
      refine StillVC.run (StillVC.fieldAddr st23 rfl rfl rfl ?_)
      (refine RunVC.storeL o136 1 rfl ty9 rfl (by decide) (And.intro ⟨rfl, rfl⟩ ?_); intro m141 o141)
      refine Br.tt ?_
      refine Br.tt ?_
      refine StillVC.run (StillVC.buildK st23 ?_)
      (refine RunVC.storeL o141 0 rfl ty23 rfl (by decide) (And.intro ⟨rfl, rfl⟩ ?_); intro m143 o143)
      first | refine RetVC.cell2 rfl o143 0 rfl ty23 rfl rfl ?_ | refine RetVC.cell1 rfl o143 0 rfl ty23 rfl rfl ?_ | refine RetVC.cellTT rfl o143 0 rfl ty23 rfl rfl ?_
      exact ⟨⟨0, 0, [], 4, rfl, hP⟩, Own.sel (by assumption) [] rfl⟩
    rw [hb]
    have hul : b = true → u.length ≤ 1000000 := fun _ => by
      rw [hb, if_pos rfl] at hc
      have e := (contentR_iff _ _).1 hc
      have e2 := congrArg List.length (hs.trans e)
      have e3 := escS_ge u
      simp at e2
      omega
    have hul := hul hb
    refine StillVC.run (StillVC.fieldAddr st23 rfl rfl rfl ?_)
    (refine RunVC.storeL o136 1 rfl ty9 rfl (by decide) (And.intro ⟨rfl, rfl⟩ ?_); intro m144 o144)
    refine Br.ff ?_
    refine StillVC.run (StillVC.loadON o144 1 rfl ty23 rfl rfl rfl ?_)
    refine CallVC.ret (valid_spec 1 0 u _ (by omega)) ?_
    rintro _ m148 ⟨rfl, ov⟩
    have o148 := ov.thenE (by assumption)
    by_cases hv : validP 1 0 u
    · rw [decide_eq_true hv]
      rw [if_pos ⟨hb, hv⟩] at hP
      refine Br.ff ?_
      refine StillVC.run (StillVC.loadON o148 1 rfl ty23 rfl rfl rfl ?_)
      (refine RunVC.storeL o148 0 rfl ty23 rfl (by decide) (And.intro ⟨rfl, rfl⟩ ?_); intro m151 o151)
      first | refine RetVC.cell2 rfl o151 0 rfl ty23 rfl rfl ?_ | refine RetVC.cell1 rfl o151 0 rfl ty23 rfl rfl ?_ | refine RetVC.cellTT rfl o151 0 rfl ty23 rfl rfl ?_
      exact ⟨⟨1, 0, u, 0, rfl, hP⟩, Own.sel (by assumption) [] rfl⟩
    · rw [decide_eq_false hv]
      rw [if_neg (fun h => hv h.2)] at hP
      refine Br.tt ?_
      refine StillVC.run (StillVC.buildK st23 ?_)
      (refine RunVC.storeL o148 0 rfl ty23 rfl (by decide) (And.intro ⟨rfl, rfl⟩ ?_); intro m155 o155)
      first | refine RetVC.cell2 rfl o155 0 rfl ty23 rfl rfl ?_ | refine RetVC.cell1 rfl o155 0 rfl ty23 rfl rfl ?_ | refine RetVC.cellTT rfl o155 0 rfl ty23 rfl rfl ?_
      exact ⟨⟨0, 0, [], 4, rfl, hP⟩, Own.sel (by assumption) [] rfl⟩
  rw [pre_no h4]
  have hP := parse_num h0 h1 h2 (fun r e => h3 ⟨r, e⟩) (fun r e => h4 ⟨r, e⟩)
  refine Br.ff ?_
  refine StillVC.run (StillVC.fieldAddr st23 rfl rfl rfl ?_)
  (refine RunVC.storeL o126 1 rfl ty3 rfl (by decide) (And.intro ⟨rfl, rfl⟩ ?_); intro m161 o161)
  refine CallVC.ret (decimal_spec s _ (by omega) (hV.ext o161.ext) (hT.ext o161.ext)) ?_
  rintro _ m166 ⟨rfl, od⟩
  have o166 := od.thenE (by assumption)
  clear od
  by_cases hb : decR s = true
  case neg =>
    rw [Bool.eq_false_iff.2 hb]
    rw [if_neg (fun h => hb h.1)] at hP
    refine StillVC.run (StillVC.fieldAddr st23 rfl rfl rfl ?_)
    (refine RunVC.storeL o166 1 rfl ty3 rfl (by decide) (And.intro ⟨rfl, rfl⟩ ?_); intro m171 o171)
    refine Br.tt ?_
    refine Br.tt ?_
    refine StillVC.run (StillVC.buildK st23 ?_)
    (refine RunVC.storeL o171 0 rfl ty23 rfl (by decide) (And.intro ⟨rfl, rfl⟩ ?_); intro m173 o173)
    first | refine RetVC.cell2 rfl o173 0 rfl ty23 rfl rfl ?_ | refine RetVC.cell1 rfl o173 0 rfl ty23 rfl rfl ?_ | refine RetVC.cellTT rfl o173 0 rfl ty23 rfl rfl ?_
    exact ⟨⟨0, 0, [], 4, rfl, hP⟩, Own.sel (by assumption) [] rfl⟩
  rw [hb]
  refine StillVC.run (StillVC.fieldAddr st23 rfl rfl rfl ?_)
  (refine RunVC.storeL o166 1 rfl ty3 rfl (by decide) (And.intro ⟨rfl, rfl⟩ ?_); intro m174 o174)
  refine Br.ff ?_
  refine StillVC.run (StillVC.loadON o174 1 rfl ty23 rfl rfl rfl ?_)
  refine CallVC.ret (valid_spec 2 (atoiR s).1 [] _ (by first | decide | omega)) ?_
  rintro _ m178 ⟨rfl, ov⟩
  have o178 := ov.thenE (by assumption)
  by_cases hv : validP 2 (atoiR s).1 []
  · rw [decide_eq_true hv]
    rw [if_pos ⟨hb, hv⟩] at hP
    refine Br.ff ?_
    refine StillVC.run (StillVC.loadON o178 1 rfl ty23 rfl rfl rfl ?_)
    (refine RunVC.storeL o178 0 rfl ty23 rfl (by decide) (And.intro ⟨rfl, rfl⟩ ?_); intro m181 o181)
    first | refine RetVC.cell2 rfl o181 0 rfl ty23 rfl rfl ?_ | refine RetVC.cell1 rfl o181 0 rfl ty23 rfl rfl ?_ | refine RetVC.cellTT rfl o181 0 rfl ty23 rfl rfl ?_
    exact ⟨⟨2, (atoiR s).1, [], 0, rfl, hP⟩, Own.sel (by assumption) [] rfl⟩
  · rw [decide_eq_false hv]
    rw [if_neg (fun h => hv h.2)] at hP
    refine Br.tt ?_
    refine StillVC.run (StillVC.buildK st23 ?_)
    (refine RunVC.storeL o178 0 rfl ty23 rfl (by decide) (And.intro ⟨rfl, rfl⟩ ?_); intro m185 o185)
    first | refine RetVC.cell2 rfl o185 0 rfl ty23 rfl rfl ?_ | refine RetVC.cell1 rfl o185 0 rfl ty23 rfl rfl ?_ | refine RetVC.cellTT rfl o185 0 rfl ty23 rfl rfl ?_
    exact ⟨⟨0, 0, [], 4, rfl, hP⟩, Own.sel (by assumption) [] rfl⟩

end Go.Proofs.YtffpaippmfafjaaGreatDoor
