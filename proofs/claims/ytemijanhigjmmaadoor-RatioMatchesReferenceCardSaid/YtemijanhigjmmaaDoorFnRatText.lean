/-
  The texts of ratios, and their parsing.
-/
import Derived.Test.YtemijanhigjmmaaDoorStructs
import Derived.Test.YtemijanhigjmmaaDoorDec
import Derived.Test.YtemijanhigjmmaaDoorFnNum
import Derived.Test.YtemijanhigjmmaaDoorFnRatOps
namespace Go.Proofs.YtemijanhigjmmaaDoor
open Go

/- CUTS -/
theorem index_split {c : UInt8} : ∀ (x r : List UInt8), c ∉ x → Lib.index (x ++ c :: r) [c] = x.length
  | [], r, _ => by simp [Lib.index]
  | b :: x, r, h => by
    have hb : ¬ c = b := fun e => h (by simp [e])
    have ih := index_split x r (fun m => h (List.mem_cons_of_mem _ m))
    simp only [List.cons_append, Lib.index, List.isPrefixOf, ih]
    simp [hb]

theorem index_no {c : UInt8} : ∀ (x : List UInt8), c ∉ x → Lib.index x [c] = -1
  | [], _ => by simp [Lib.index]
  | b :: x, h => by
    have hb : ¬ c = b := fun e => h (by simp [e])
    have ih := index_no x (fun m => h (List.mem_cons_of_mem _ m))
    simp only [Lib.index, List.isPrefixOf, ih]
    simp [hb]

theorem cut_split {c : UInt8} (x r : List UInt8) (h : c ∉ x) : Lib.cut (x ++ c :: r) [c] = (x, r, true) := by
  unfold Lib.cut
  rw [index_split x r h, if_pos (by omega)]
  simp

theorem cut_no {c : UInt8} (x : List UInt8) (h : c ∉ x) : Lib.cut x [c] = (x, [], false) := by
  unfold Lib.cut
  rw [index_no x h, if_neg (by omega)]

/- NUMERALS -/
theorem undec_mono : ∀ (l : List UInt8) (acc : Nat), acc ≤ l.foldl (fun n c => n * 10 + (c.toNat - 48)) acc
  | [], acc => Nat.le_refl _
  | c :: l, acc => Nat.le_trans (by omega) (undec_mono l (acc * 10 + (c.toNat - 48)))

theorem parseUintM_digits {M : Nat} (hM : 1000000000000000000 ≤ M) : ∀ (l : List UInt8) (acc : Nat), (∀ c ∈ l, 48 ≤ c.toNat ∧ c.toNat ≤ 57) → l.foldl (fun n c => n * 10 + (c.toNat - 48)) acc ≤ 1000000000000000000 →
    Lib.parseUintM M acc l = .ok (l.foldl (fun n c => n * 10 + (c.toNat - 48)) acc)
  | [], acc, _, _ => rfl
  | c :: l, acc, h, hb => by
    have hc := h c (by simp)
    have hm := undec_mono l (acc * 10 + (c.toNat - 48))
    rw [List.foldl_cons] at hb ⊢
    rw [Lib.parseUintM, if_pos hc, if_neg (by omega), if_neg (by omega)]
    exact parseUintM_digits hM l _ (fun d hd => h d (by simp [hd])) hb

theorem parseUintB_dec (u : Nat) (h : u ≤ 1000000000000000000) : Lib.parseUintB 64 (Lib.decDigits u) = .ok u := by
  have e := undec_dec u
  unfold undec at e
  unfold Lib.parseUintB
  rw [if_neg (dec_ne_nil u), parseUintM_digits (by decide) _ _ (dec_digits u) (by rw [e]; exact h), e]

theorem parseR_itoa (n : Int) (h0 : -1000000000000000000 ≤ n) (h1 : n ≤ 1000000000000000000) : parseR (Lib.itoa n) = (n, true) := by
  have key : Lib.parseIntB 64 (Lib.itoa n) = .ok n := by
    unfold Lib.itoa
    by_cases hn : n < 0
    · rw [if_pos hn, Lib.parseIntB_minus, parseUintB_dec _ (by omega)]
      show (if 2 ^ (64 - 1) < n.natAbs then Lib.NumEnd.range else Lib.NumEnd.ok (-(n.natAbs : Int))) = _
      rw [if_neg (by simp; omega)]
      congr 1
      omega
    · rw [if_neg hn]
      have hd := dec_digits n.toNat
      have hp := parseUintB_dec n.toNat (by omega)
      cases hl : Lib.decDigits n.toNat with
      | nil => exact absurd hl (dec_ne_nil _)
      | cons c r =>
        rw [hl] at hd hp
        have hc := hd c (by simp)
        rw [Lib.parseIntB_plain 64 c r (by omega) (by omega), hp]
        show (if 2 ^ (64 - 1) ≤ n.toNat then Lib.NumEnd.range else Lib.NumEnd.ok ((n.toNat : Nat) : Int)) = _
        rw [if_neg (by simp; omega)]
        congr 1
        omega
  unfold parseR
  rw [key]

/- TEXTS -/
def textR (a : Int × Int) : List UInt8 := if okP a = true then (if 1 < a.2 then Lib.itoa a.1 ++ 47 :: Lib.itoa a.2 else Lib.itoa a.1) else []

theorem notMem_itoa (n : Int) : (47 : UInt8) ∉ Lib.itoa n := by
  unfold Lib.itoa
  split
  · intro h
    rcases List.mem_cons.1 h with h | h
    · exact absurd h (by decide)
    · exact notMem_dec (.inl (by decide)) _ h
  · exact notMem_dec (.inl (by decide)) _

theorem itoa_ne (n : Int) : Lib.itoa n ≠ [] := by
  unfold Lib.itoa
  split
  · simp
  · exact dec_ne_nil _

theorem textR_nil (a : Int × Int) : textR a = [] ↔ okP a = false := by
  unfold textR
  cases ha : okP a with
  | false => simp
  | true =>
    rw [if_pos rfl]
    split
    · simp
    · simp [itoa_ne]

/-- What the parts of a text seem to mean, and whether both are numbers. -/
def seemR (t : List UInt8) : (Int × Int) × Bool :=
  match Lib.cut t [47] with
  | (n, d, is) => match parseR n with
    | (x, ok) => if is && ok then ((x, (parseR d).1), (parseR d).2) else ((x, 1), ok)

def parseP (t : List UInt8) : (Int × Int) × Int := if (seemR t).2 = true ∧ textR (seemR t).1 = t then ((seemR t).1, 0) else ((0, 0), 6)

theorem seemR_text {a : Int × Int} (h : okP a = true) : seemR (textR a) = (a, true) := by
  obtain ⟨q0, q1, p0, p1⟩ := okP_rng h
  unfold textR
  rw [if_pos h]
  by_cases hd : 1 < a.2
  · rw [if_pos hd]
    unfold seemR
    rw [cut_split _ _ (notMem_itoa _)]
    simp only [parseR_itoa a.1 (by omega) (by omega), parseR_itoa a.2 (by omega) (by omega), Bool.and_self, if_true]
  · rw [if_neg hd]
    unfold seemR
    rw [cut_no _ (notMem_itoa _)]
    simp only [parseR_itoa a.1 (by omega) (by omega), Bool.false_and, Bool.false_eq_true, if_false]
    obtain ⟨x, y⟩ := a
    simp only at hd q0 ⊢
    rw [show y = 1 by omega]

theorem parseP_text {a : Int × Int} (h : okP a = true) : parseP (textR a) = (a, 0) := by
  unfold parseP
  rw [seemR_text h, if_pos ⟨rfl, rfl⟩]

theorem parseP_cases (t : List UInt8) : (∃ a, okP a = true ∧ textR a = t ∧ parseP t = (a, 0)) ∨ (parseP t = ((0, 0), 6) ∧ ∀ a, okP a = true → textR a ≠ t) := by
  by_cases h : (seemR t).2 = true ∧ textR (seemR t).1 = t
  · have hp : parseP t = ((seemR t).1, 0) := if_pos h
    cases ha : okP (seemR t).1 with
    | true => exact .inl ⟨_, ha, h.2, hp⟩
    | false =>
      have h2 := (textR_nil _).2 ha
      rw [h.2] at h2
      subst h2
      exact absurd h.1 (by decide)
  · refine .inr ⟨if_neg h, fun a ha e => h ?_⟩
    rw [← e, seemR_text ha]
    exact ⟨rfl, rfl⟩

theorem seemR_rng (t : List UInt8) : i64P (seemR t).1 := by
  unfold seemR
  split
  rename_i n d is _
  have h1 := parseR_rng n
  have h2 := parseR_rng d
  split
  rename_i x ok hx
  rw [hx] at h1
  simp only at h1
  split
  · exact ⟨h1, h2⟩
  · exact ⟨h1, by simp⟩

set_option maxRecDepth 100000 in
theorem text_spec (a : Int × Int) (h : Heap) (ha : i64P a) (ht : TabH h) :
    SpecR Tryd.prog 17 [ratV a] h fun v h' => v = .string ⟨⟨textR a⟩⟩ ∧ Own h [] h' := by
  obtain ⟨a1, a2⟩ := a
  unfold textR
  show SpecR Tryd.prog 17 [.agg ⟨[.int .i64 a1, .int .i64 a2]⟩] h _
  refine Spec.enter Tryd.func17 rfl Tryd.ntmps17 (by kernel_rfl) ?_
  have o0 := Own.refl h
  (refine RunVC.boxO o0 rfl ?_; intro b10 m10 o10)
  refine StillVC.run (StillVC.loadON o10 0 rfl ty24 rfl rfl rfl ?_)
  refine CallVC.ret (valid_spec (a1, a2) _ ha) ?_
  rintro _ h1 ⟨rfl, oa⟩
  have o1 := o10.ext' oa
  cases ka : okP (a1, a2) with
  | false =>
    rw [if_neg (by decide)]
    refine Br.tt ?_
    refine RetVC.one rfl ?_
    exact ⟨rfl, Own.sel (by assumption) [] rfl⟩
  | true =>
    obtain ⟨q0, q1, p0, p1⟩ := okP_rng ka
    simp only at q0 q1 p0 p1
    rw [if_pos rfl]
    refine Br.ff ?_
    refine StillVC.run (StillVC.fieldAddr st24 rfl rfl rfl ?_)
    refine StillVC.run (StillVC.loadO o1 0 rfl ty3 rfl rfl ?_)
    refine CallVC.ret (itoa_spec a1 _ (by omega) (by omega) (ht.ext o1.ext)) ?_
    rintro _ h2 ⟨rfl, ob⟩
    have o2 := o1.ext' ob
    have l1 := itoa_short a1 (by omega) (by omega)
    have l2 := itoa_short a2 (by omega) (by omega)
    by_cases hd : 1 < a2
    · rw [if_pos hd]
      refine StillVC.run (StillVC.fieldAddr st24 rfl rfl rfl ?_)
      refine StillVC.run (StillVC.loadO o2 0 rfl ty3 rfl rfl ?_)
      refine Br.dec (fun c42 => ?_) (fun hc => absurd (by omega) hc)
      refine StillVC.run (StillVC.fieldAddr st24 rfl rfl rfl ?_)
      refine StillVC.run (StillVC.loadO o2 0 rfl ty3 rfl rfl ?_)
      refine CallVC.ret (itoa_spec a2 _ (by omega) (by omega) (ht.ext o2.ext)) ?_
      rintro _ h3 ⟨rfl, oc⟩
      have o3 := o2.ext' oc
      refine StillVC.run (StillVC.strAdd rfl rfl (by first | omega | (simp; omega)) ?_)
      refine StillVC.run (StillVC.strAdd rfl rfl (by first | omega | (simp; omega)) ?_)
      refine RetVC.one rfl ?_
      exact ⟨rfl, Own.sel (by assumption) [] rfl⟩
    · rw [if_neg hd]
      refine StillVC.run (StillVC.fieldAddr st24 rfl rfl rfl ?_)
      refine StillVC.run (StillVC.loadO o2 0 rfl ty3 rfl rfl ?_)
      refine Br.dec (fun hc => absurd hc (by omega)) (fun c62 => ?_)
      refine RetVC.one rfl ?_
      exact ⟨rfl, Own.sel (by assumption) [] rfl⟩

theorem cut_len (t : List UInt8) : (Lib.cut t [47]).1.length ≤ t.length ∧ (Lib.cut t [47]).2.1.length ≤ t.length := by
  unfold Lib.cut
  split
  · simp only [List.length_take, List.length_drop]
    omega
  · simp

theorem nilI_true {e : Value} (h : nilI e = some true) : e = .nilIface := by
  unfold nilI at h
  split at h
  · rfl
  · cases h
  · cases h

theorem nilI_false {e : Value} (h : nilI e = some false) : ∃ d u, e = .iface d u := by
  unfold nilI at h
  split at h
  · cases h
  · exact ⟨_, _, rfl⟩
  · cases h

theorem ar_min {K : Value → Prop} (h : K (.int .i64 (-9223372036854775808))) : Ar .i64 (0 - -9223372036854775808) K :=
  ⟨by have e : IntKind.i64.wrap (0 - -9223372036854775808) = -9223372036854775808 := by decide
      rw [e]; exact h⟩

theorem seemR_eq {t n d : List UInt8} {is ok : Bool} {x : Int} (hC : Lib.cut t [47] = (n, d, is)) (hN : parseR n = (x, ok)) : seemR t = if is && ok then ((x, (parseR d).1), (parseR d).2) else ((x, 1), ok) := by
  unfold seemR
  rw [hC]
  simp only [hN]

theorem parseP_of {t : List UInt8} {a : Int × Int} {ok : Bool} (h : seemR t = (a, ok)) : parseP t = if ok = true ∧ textR a = t then (a, 0) else ((0, 0), 6) := by
  unfold parseP
  rw [h]

set_option maxRecDepth 100000 in
theorem parse_spec (t : List UInt8) (h : Heap) (hl : t.length ≤ 1000000) (ht : TabH h) (hv : VarH h) :
    SpecR Tryd.prog 18 [.string ⟨⟨t⟩⟩] h fun v h' => v = ratE (parseP t) ∧ Own h [] h' := by
  have hs := seemR_rng t
  have hcl := cut_len t
  refine Spec.enter Tryd.func18 rfl Tryd.ntmps18 (by kernel_rfl) ?_
  have o0 := Own.refl h
  (refine RunVC.alloc o0 ty24 ?_; intro b10 m10 o10)
  refine CallVC.ret (cut_spec t [47] _ (by omega) (hv.ext o10.ext)) ?_
  rintro _ h1 ⟨rfl, oa⟩
  have o1 := o10.ext' oa
  generalize hC : Lib.cut t [47] = C at hcl ⊢
  obtain ⟨n, d, is⟩ := C
  simp only at hcl
  refine CallVC.ret (parseInt_spec n _ (by omega) (hv.ext o1.ext)) ?_
  rintro _ h2 ⟨⟨e1, rfl, he1⟩, ob⟩
  have o2 := o1.ext' ob
  generalize hN : parseR n = N at he1 ⊢
  obtain ⟨x, ok⟩ := N
  have hS := seemR_eq hC hN
  simp only at he1
  cases is with
  | false =>
    simp only [Bool.false_and, Bool.false_eq_true, if_false] at hS
    rw [hS] at hs
    rw [parseP_of hS]
    cases ok with
    | false =>
      obtain ⟨d1, u1, rfl⟩ := nilI_false he1
      rw [if_neg (fun hc => Bool.noConfusion hc.1)]
      refine Br.ndec (fun hc => absurd (by first | omega | assumption | decide | exact rfl) hc) (fun c30 => ?_)
      refine Br.ff ?_
      refine StillVC.run (StillVC.buildK st24 ?_)
      refine And.intro rfl ?_
      refine And.intro rfl ?_
      (refine RunVC.alloc o2 ty24 ?_; intro b32 m32 o32)
      (refine RunVC.storeL o32 1 rfl ty24 rfl (by decide) (And.intro ⟨rfl, rfl⟩ ?_); intro m33 o33)
      refine StillVC.run (StillVC.neI ifc53 (by first | assumption | rfl) ?_)
      refine Br.tt ?_
      refine Br.tt ?_
      refine StillVC.run (StillVC.buildK st24 ?_)
      (refine RunVC.storeL o33 0 rfl ty24 rfl (by decide) (And.intro ⟨rfl, rfl⟩ ?_); intro m36 o36)
      refine RetVC.cell2 rfl o36 0 rfl ty24 rfl rfl ?_
      exact ⟨rfl, Own.sel (by assumption) [] rfl⟩
    | true =>
      obtain rfl := nilI_true he1
      refine Br.ndec (fun hc => absurd (by first | omega | assumption | decide | exact rfl) hc) (fun c40 => ?_)
      refine Br.ff ?_
      refine StillVC.run (StillVC.buildK st24 ?_)
      refine And.intro rfl ?_
      refine And.intro rfl ?_
      (refine RunVC.alloc o2 ty24 ?_; intro b42 m42 o42)
      (refine RunVC.storeL o42 1 rfl ty24 rfl (by decide) (And.intro ⟨rfl, rfl⟩ ?_); intro m43 o43)
      refine StillVC.run (StillVC.neI ifc53 (by first | assumption | rfl) ?_)
      refine Br.ff ?_
      refine StillVC.run (StillVC.loadON o43 1 rfl ty24 rfl rfl rfl ?_)
      refine CallVC.ret (text_spec (x, 1) _ hs (ht.ext o43.ext)) ?_
      rintro _ h3 ⟨rfl, oc⟩
      have o3 := o43.ext' oc
      simp only [true_and]
      by_cases he : textR (x, 1) = t
      · rw [if_pos he]
        refine Br.ndec (fun hc => absurd (by first | omega | assumption | decide | exact rfl) hc) (fun c46 => ?_)
        refine StillVC.run (StillVC.loadON o3 1 rfl ty24 rfl rfl rfl ?_)
        (refine RunVC.storeL o3 0 rfl ty24 rfl (by decide) (And.intro ⟨rfl, rfl⟩ ?_); intro m48 o48)
        refine RetVC.cell2 rfl o48 0 rfl ty24 rfl rfl ?_
        exact ⟨rfl, Own.sel (by assumption) [] rfl⟩
      · rw [if_neg he]
        refine Br.ndec (fun c48 => ?_) (fun hc => absurd hc (by first | omega | assumption | decide | exact rfl))
        refine StillVC.run (StillVC.buildK st24 ?_)
        (refine RunVC.storeL o3 0 rfl ty24 rfl (by decide) (And.intro ⟨rfl, rfl⟩ ?_); intro m50 o50)
        refine RetVC.cell2 rfl o50 0 rfl ty24 rfl rfl ?_
        exact ⟨rfl, Own.sel (by assumption) [] rfl⟩
  | true =>
    cases ok with
    | false =>
      obtain ⟨d1, u1, rfl⟩ := nilI_false he1
      simp only [Bool.true_and, Bool.false_eq_true, if_false] at hS
      rw [parseP_of hS]
      rw [if_neg (fun hc => Bool.noConfusion hc.1)]
      refine Br.ttE (by simp; done) ?_
      refine StillVC.run (StillVC.eqI ifc53 (by first | assumption | rfl) ?_)
      refine Br.ff ?_
      refine StillVC.run (StillVC.buildK st24 ?_)
      refine And.intro rfl ?_
      refine And.intro rfl ?_
      (refine RunVC.alloc o2 ty24 ?_; intro b53 m53 o53)
      (refine RunVC.storeL o53 1 rfl ty24 rfl (by decide) (And.intro ⟨rfl, rfl⟩ ?_); intro m54 o54)
      refine StillVC.run (StillVC.neI ifc53 (by first | assumption | rfl) ?_)
      refine Br.tt ?_
      refine Br.tt ?_
      refine StillVC.run (StillVC.buildK st24 ?_)
      (refine RunVC.storeL o54 0 rfl ty24 rfl (by decide) (And.intro ⟨rfl, rfl⟩ ?_); intro m57 o57)
      refine RetVC.cell2 rfl o57 0 rfl ty24 rfl rfl ?_
      exact ⟨rfl, Own.sel (by assumption) [] rfl⟩
    | true =>
      obtain rfl := nilI_true he1
      simp only [Bool.true_and, if_true] at hS
      refine Br.ttE (by simp; done) ?_
      refine StillVC.run (StillVC.eqI ifc53 (by first | assumption | rfl) ?_)
      refine Br.tt ?_
      refine CallVC.ret (parseInt_spec d _ (by omega) (hv.ext o2.ext)) ?_
      rintro _ h3 ⟨⟨e2, rfl, he2⟩, oc⟩
      have o3 := o2.ext' oc
      generalize parseR d = M at *
      obtain ⟨y, ok2⟩ := M
      simp only at he2 hS
      rw [hS] at hs
      rw [parseP_of hS]
      cases ok2 with
      | false =>
        obtain ⟨d2, u2, rfl⟩ := nilI_false he2
        rw [if_neg (fun hc => Bool.noConfusion hc.1)]
        refine StillVC.run (StillVC.buildK st24 ?_)
        refine And.intro rfl ?_
        refine And.intro rfl ?_
        (refine RunVC.alloc o3 ty24 ?_; intro b71 m71 o71)
        (refine RunVC.storeL o71 1 rfl ty24 rfl (by decide) (And.intro ⟨rfl, rfl⟩ ?_); intro m72 o72)
        refine StillVC.run (StillVC.neI ifc53 (by first | assumption | rfl) ?_)
        refine Br.tt ?_
        refine Br.tt ?_
        refine StillVC.run (StillVC.buildK st24 ?_)
        (refine RunVC.storeL o72 0 rfl ty24 rfl (by decide) (And.intro ⟨rfl, rfl⟩ ?_); intro m75 o75)
        refine RetVC.cell2 rfl o75 0 rfl ty24 rfl rfl ?_
        exact ⟨rfl, Own.sel (by assumption) [] rfl⟩
      | true =>
        obtain rfl := nilI_true he2
        refine StillVC.run (StillVC.buildK st24 ?_)
        refine And.intro rfl ?_
        refine And.intro rfl ?_
        (refine RunVC.alloc o3 ty24 ?_; intro b81 m81 o81)
        (refine RunVC.storeL o81 1 rfl ty24 rfl (by decide) (And.intro ⟨rfl, rfl⟩ ?_); intro m82 o82)
        refine StillVC.run (StillVC.neI ifc53 (by first | assumption | rfl) ?_)
        refine Br.ff ?_
        refine StillVC.run (StillVC.loadON o82 1 rfl ty24 rfl rfl rfl ?_)
        refine CallVC.ret (text_spec (x, y) _ hs (ht.ext o82.ext)) ?_
        rintro _ h4 ⟨rfl, od⟩
        have o4 := o82.ext' od
        simp only [true_and]
        by_cases he : textR (x, y) = t
        · rw [if_pos he]
          refine Br.ndec (fun hc => absurd (by first | omega | assumption | decide | exact rfl) hc) (fun c86 => ?_)
          refine StillVC.run (StillVC.loadON o4 1 rfl ty24 rfl rfl rfl ?_)
          (refine RunVC.storeL o4 0 rfl ty24 rfl (by decide) (And.intro ⟨rfl, rfl⟩ ?_); intro m88 o88)
          refine RetVC.cell2 rfl o88 0 rfl ty24 rfl rfl ?_
          exact ⟨rfl, Own.sel (by assumption) [] rfl⟩
        · rw [if_neg he]
          refine Br.ndec (fun c88 => ?_) (fun hc => absurd hc (by first | omega | assumption | decide | exact rfl))
          refine StillVC.run (StillVC.buildK st24 ?_)
          (refine RunVC.storeL o4 0 rfl ty24 rfl (by decide) (And.intro ⟨rfl, rfl⟩ ?_); intro m90 o90)
          refine RetVC.cell2 rfl o90 0 rfl ty24 rfl rfl ?_
          exact ⟨rfl, Own.sel (by assumption) [] rfl⟩

set_option maxRecDepth 100000 in
theorem sub_spec (a b : Int × Int) (h : Heap) (ha : i64P a) (hb : i64P b) :
    SpecR Tryd.prog 24 [ratV a, ratV b] h fun v h' => v = ratE (subR a b) ∧ Own h [] h' := by
  have hR : ∀ c : Int × Int, c = (0 - b.1, b.2) → addR a c = subR a b := by
    rintro c rfl
    rw [Int.zero_sub]
    unfold addR subR onR
    rw [okP_neg, ofP_neg, Rat.sub_eq_add_neg]
  have hR2 : b.1 = -9223372036854775808 → addR a b = subR a b := by
    intro e
    have : okP b = false := by
      cases hb : okP b with
      | false => rfl
      | true => have := okP_rng hb; omega
    unfold addR subR onR
    rw [this]
    simp
  obtain ⟨a1, a2⟩ := a
  obtain ⟨b1, b2⟩ := b
  obtain ⟨hb1, hb2⟩ := hb
  simp only at hb1 hb2 hR2 hR
  show SpecR Tryd.prog 24 [.agg ⟨[.int .i64 a1, .int .i64 a2]⟩, .agg ⟨[.int .i64 b1, .int .i64 b2]⟩] h _
  refine Spec.enter Tryd.func24 rfl Tryd.ntmps24 (by kernel_rfl) ?_
  have o0 := Own.refl h
  by_cases hm : b1 = -9223372036854775808
  · subst hm
    (refine RunVC.boxO o0 rfl ?_; intro b10 m10 o10)
    (refine RunVC.boxO o10 rfl ?_; intro b11 m11 o11)
    (refine RunVC.alloc o11 ty24 ?_; intro b12 m12 o12)
    refine StillVC.run (StillVC.loadON o12 0 rfl ty24 rfl rfl rfl ?_)
    refine StillVC.run (StillVC.fieldAddr st24 rfl rfl rfl ?_)
    refine StillVC.run (StillVC.loadO o12 1 rfl ty3 rfl rfl ?_)
    refine ar_min ?_
    refine StillVC.run (StillVC.fieldAddr st24 rfl rfl rfl ?_)
    refine StillVC.run (StillVC.loadO o12 1 rfl ty3 rfl rfl ?_)
    refine StillVC.run (StillVC.buildK st24 ?_)
    refine And.intro rfl ?_
    refine And.intro rfl ?_
    refine CallVC.ret (add_spec (a1, a2) (-9223372036854775808, b2) _ ha ⟨by simp, hb2⟩) ?_
    rintro _ h1 ⟨rfl, oa⟩
    have o1 := o12.ext' oa
    rw [hR2 rfl]
    generalize subR (a1, a2) _ = R
    obtain ⟨⟨x, y⟩, z⟩ := R
    (refine RunVC.storeL o1 2 rfl ty24 rfl (by decide) (And.intro ⟨rfl, rfl⟩ ?_); intro m30 o30)
    refine RetVC.cell2 rfl o30 2 rfl ty24 rfl rfl ?_
    exact ⟨rfl, Own.sel (by assumption) [] rfl⟩
  · (refine RunVC.boxO o0 rfl ?_; intro b40 m40 o40)
    (refine RunVC.boxO o40 rfl ?_; intro b41 m41 o41)
    (refine RunVC.alloc o41 ty24 ?_; intro b42 m42 o42)
    refine StillVC.run (StillVC.loadON o42 0 rfl ty24 rfl rfl rfl ?_)
    refine StillVC.run (StillVC.fieldAddr st24 rfl rfl rfl ?_)
    refine StillVC.run (StillVC.loadO o42 1 rfl ty3 rfl rfl ?_)
    refine Ar.i64 (by omega) (by omega) ?_
    refine StillVC.run (StillVC.fieldAddr st24 rfl rfl rfl ?_)
    refine StillVC.run (StillVC.loadO o42 1 rfl ty3 rfl rfl ?_)
    refine StillVC.run (StillVC.buildK st24 ?_)
    refine And.intro rfl ?_
    refine And.intro rfl ?_
    refine CallVC.ret (add_spec (a1, a2) (0 - b1, b2) _ ha ⟨by simp only; omega, hb2⟩) ?_
    rintro _ h1 ⟨rfl, oa⟩
    have o1 := o42.ext' oa
    rw [hR _ rfl]
    generalize subR (a1, a2) _ = R
    obtain ⟨⟨x, y⟩, z⟩ := R
    (refine RunVC.storeL o1 2 rfl ty24 rfl (by decide) (And.intro ⟨rfl, rfl⟩ ?_); intro m50 o50)
    refine RetVC.cell2 rfl o50 2 rfl ty24 rfl rfl ?_
    exact ⟨rfl, Own.sel (by assumption) [] rfl⟩

set_option maxRecDepth 100000 in
theorem cmp_spec (a b : Int × Int) (h : Heap) (ha : i64P a) (hb : i64P b) :
    SpecR Tryd.prog 14 [ratV a, ratV b] h fun v h' => v = .int .i64 (cmpR a b) ∧ Own h [] h' := by
  have hlt := fun ka kb => ofP_lt (a := a) (b := b) ka kb
  have hgt := fun ka kb => ofP_lt (a := b) (b := a) kb ka
  obtain ⟨a1, a2⟩ := a
  obtain ⟨b1, b2⟩ := b
  unfold cmpR
  show SpecR Tryd.prog 14 [.agg ⟨[.int .i64 a1, .int .i64 a2]⟩, .agg ⟨[.int .i64 b1, .int .i64 b2]⟩] h _
  refine Spec.enter Tryd.func14 rfl Tryd.ntmps14 (by kernel_rfl) ?_
  have o0 := Own.refl h
  (refine RunVC.boxO o0 rfl ?_; intro b10 m10 o10)
  (refine RunVC.boxO o10 rfl ?_; intro b11 m11 o11)
  refine StillVC.run (StillVC.loadON o11 0 rfl ty24 rfl rfl rfl ?_)
  refine CallVC.ret (valid_spec (a1, a2) _ ha) ?_
  rintro _ h1 ⟨rfl, oa⟩
  have o1 := o11.ext' oa
  cases ka : okP (a1, a2) with
  | false =>
    rw [if_neg (fun hc => Bool.noConfusion hc.1)]
    refine Br.tt ?_
    refine Br.tt ?_
    refine RetVC.one rfl ?_
    exact ⟨rfl, Own.sel (by assumption) [] rfl⟩
  | true =>
    refine Br.ff ?_
    refine StillVC.run (StillVC.loadON o1 1 rfl ty24 rfl rfl rfl ?_)
    refine CallVC.ret (valid_spec (b1, b2) _ hb) ?_
    rintro _ h2 ⟨rfl, ob⟩
    have o2 := o1.ext' ob
    cases kb : okP (b1, b2) with
    | false =>
      rw [if_neg (fun hc => Bool.noConfusion hc.2)]
      refine Br.tt ?_
      refine RetVC.one rfl ?_
      exact ⟨rfl, Own.sel (by assumption) [] rfl⟩
    | true =>
      obtain ⟨r1, r2, r3, r4⟩ := okP_rng ka
      obtain ⟨s1, s2, s3, s4⟩ := okP_rng kb
      simp only at r1 r2 r3 r4 s1 s2 s3 s4
      have m1 := mul_abs_le (A := 1000000000) (B := 1000000000) ⟨r3, r4⟩ ⟨Int.le_of_lt s1, s2⟩
      have m2 := mul_abs_le (A := 1000000000) (B := 1000000000) ⟨s3, s4⟩ ⟨Int.le_of_lt r1, r2⟩
      have hlt' := hlt ka kb
      have hgt' := hgt ka kb
      simp only at hlt' hgt'
      rw [if_pos ⟨rfl, rfl⟩]
      by_cases c1 : ofP (a1, a2) < ofP (b1, b2)
      · rw [if_pos c1]
        have := hlt'.1 c1
        refine Br.ff ?_
        refine StillVC.run (StillVC.fieldAddr st24 rfl rfl rfl ?_)
        refine StillVC.run (StillVC.loadO o2 0 rfl ty3 rfl rfl ?_)
        refine StillVC.run (StillVC.fieldAddr st24 rfl rfl rfl ?_)
        refine StillVC.run (StillVC.loadO o2 1 rfl ty3 rfl rfl ?_)
        refine Ar.i64 (by omega) (by omega) ?_
        refine StillVC.run (StillVC.fieldAddr st24 rfl rfl rfl ?_)
        refine StillVC.run (StillVC.loadO o2 1 rfl ty3 rfl rfl ?_)
        refine StillVC.run (StillVC.fieldAddr st24 rfl rfl rfl ?_)
        refine StillVC.run (StillVC.loadO o2 0 rfl ty3 rfl rfl ?_)
        refine Ar.i64 (by omega) (by omega) ?_
        refine Ar.i64 (by omega) (by omega) ?_
        refine Br.dec (fun c58 => ?_) (fun hc => absurd (by omega) hc)
        refine RetVC.one rfl ?_
        exact ⟨rfl, Own.sel (by assumption) [] rfl⟩
      · rw [if_neg c1]
        have c1' : ¬ a1 * b2 < b1 * a2 := fun e => c1 (hlt'.2 e)
        by_cases c2 : ofP (b1, b2) < ofP (a1, a2)
        · rw [if_pos c2]
          have := hgt'.1 c2
          refine Br.ff ?_
          refine StillVC.run (StillVC.fieldAddr st24 rfl rfl rfl ?_)
          refine StillVC.run (StillVC.loadO o2 0 rfl ty3 rfl rfl ?_)
          refine StillVC.run (StillVC.fieldAddr st24 rfl rfl rfl ?_)
          refine StillVC.run (StillVC.loadO o2 1 rfl ty3 rfl rfl ?_)
          refine Ar.i64 (by omega) (by omega) ?_
          refine StillVC.run (StillVC.fieldAddr st24 rfl rfl rfl ?_)
          refine StillVC.run (StillVC.loadO o2 1 rfl ty3 rfl rfl ?_)
          refine StillVC.run (StillVC.fieldAddr st24 rfl rfl rfl ?_)
          refine StillVC.run (StillVC.loadO o2 0 rfl ty3 rfl rfl ?_)
          refine Ar.i64 (by omega) (by omega) ?_
          refine Ar.i64 (by omega) (by omega) ?_
          refine Br.dec (fun hc => absurd hc (by omega)) (fun c68 => ?_)
          refine Br.dec (fun c69 => ?_) (fun hc => absurd (by omega) hc)
          refine RetVC.one rfl ?_
          exact ⟨rfl, Own.sel (by assumption) [] rfl⟩
        · rw [if_neg c2]
          have c2' : ¬ b1 * a2 < a1 * b2 := fun e => c2 (hgt'.2 e)
          refine Br.ff ?_
          refine StillVC.run (StillVC.fieldAddr st24 rfl rfl rfl ?_)
          refine StillVC.run (StillVC.loadO o2 0 rfl ty3 rfl rfl ?_)
          refine StillVC.run (StillVC.fieldAddr st24 rfl rfl rfl ?_)
          refine StillVC.run (StillVC.loadO o2 1 rfl ty3 rfl rfl ?_)
          refine Ar.i64 (by omega) (by omega) ?_
          refine StillVC.run (StillVC.fieldAddr st24 rfl rfl rfl ?_)
          refine StillVC.run (StillVC.loadO o2 1 rfl ty3 rfl rfl ?_)
          refine StillVC.run (StillVC.fieldAddr st24 rfl rfl rfl ?_)
          refine StillVC.run (StillVC.loadO o2 0 rfl ty3 rfl rfl ?_)
          refine Ar.i64 (by omega) (by omega) ?_
          refine Ar.i64 (by omega) (by omega) ?_
          refine Br.dec (fun hc => absurd hc (by omega)) (fun c78 => ?_)
          refine Br.dec (fun hc => absurd hc (by omega)) (fun c79 => ?_)
          refine RetVC.one rfl ?_
          exact ⟨rfl, Own.sel (by assumption) [] rfl⟩

end Go.Proofs.YtemijanhigjmmaaDoor
