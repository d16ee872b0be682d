/-
  Rules for the stops of the small program logic: arithmetic, tests, loops, results.
-/
import Derived.Test.YtnmfanjhepepbaaGreatDoorVc
namespace Go.Proofs.YtnmfanjhepepbaaGreatDoor
open Go

theorem Br.tt {A B : Prop} {a b : Code} (h : A) : Br true A B a b := ⟨fun _ => h, fun e => by cases e⟩
theorem Br.ff {A B : Prop} {a b : Code} (h : B) : Br false A B a b := ⟨fun e => (by cases e), fun _ => h⟩
theorem Br.dec {p : Prop} [Decidable p] {A B : Prop} {a b : Code} (y : p → A) (n : ¬ p → B) : Br (decide p) A B a b :=
  ⟨fun e => y (of_decide_eq_true e), fun e => n (of_decide_eq_false e)⟩
theorem Br.ndec {p : Prop} [Decidable p] {A B : Prop} {a b : Code} (n : ¬ p → A) (y : p → B) : Br (!decide p) A B a b :=
  ⟨fun e => n (by simpa using e), fun e => y (by simpa using e)⟩

theorem Ar.fit {k : IntKind} {n : Int} {K : Value → Prop} (lo : k.min ≤ n) (hi : n ≤ k.max) (h : K (.int k n)) : Ar k n K := by
  refine ⟨?_⟩
  have : k.wrap n = n := by
    revert lo hi
    cases k <;> simp only [IntKind.min, IntKind.max, IntKind.wrap, IntKind.bits, IntKind.signed] <;> intro lo hi <;> simp at * <;> omega
  rw [this]; exact h
theorem Ar.i64 {n : Int} {K : Value → Prop} (lo : -9223372036854775808 ≤ n) (hi : n ≤ 9223372036854775807) (h : K (.int .i64 n)) : Ar .i64 n K :=
  Ar.fit lo hi h

theorem Ar.u64 {n : Int} {K : Value → Prop} (lo : 0 ≤ n) (hi : n ≤ 18446744073709551615) (h : K (.int .u64 n)) : Ar .u64 n K :=
  Ar.fit lo hi h
theorem Ar.u8 {n : Int} {K : Value → Prop} (lo : 0 ≤ n) (hi : n ≤ 255) (h : K (.int .u8 n)) : Ar .u8 n K :=
  Ar.fit lo hi h
theorem Ar.i32 {n : Int} {K : Value → Prop} (lo : -2147483648 ≤ n) (hi : n ≤ 2147483647) (h : K (.int .i32 n)) : Ar .i32 n K :=
  Ar.fit lo hi h
theorem Ar.u32 {n : Int} {K : Value → Prop} (lo : 0 ≤ n) (hi : n ≤ 4294967295) (h : K (.int .u32 n)) : Ar .u32 n K :=
  Ar.fit lo hi h
theorem Ar.u64w {n : Int} {K : Value → Prop} (h : K (.int .u64 (n % 18446744073709551616))) : Ar .u64 n K := ⟨h⟩
theorem Ar.u8w {n : Int} {K : Value → Prop} (h : K (.int .u8 (n % 256))) : Ar .u8 n K := ⟨h⟩
theorem Ar.i64n {n m : Int} {K : Value → Prop} (lo : -9223372036854775808 ≤ m) (hi : m ≤ 9223372036854775807) (e : (n - m) % 18446744073709551616 = 0) (h : K (.int .i64 m)) : Ar .i64 n K := by
  refine ⟨?_⟩
  have : IntKind.i64.wrap n = m := by
    simp only [IntKind.wrap, IntKind.bits, IntKind.signed]
    simp
    split <;> omega
  rw [this]; exact h

/- LOOPS -/
def mask (asg : List Nat) : Nat → List Value → List Value
  | _, [] => []
  | k, v :: l => (bif mem asg k then undef else v) :: mask asg (k + 1) l

def live1 : List Nat → List Value → Nat → Option Value
  | n :: ns, v :: vs, k => bif Nat.beq n k then some v else live1 ns vs k
  | _, _, _ => none

def havocK (asg lv : List Nat) (vs : List Value) (junk : Nat → Value) : Nat → List Value → (List Value → Prop) → Prop
  | _, [], c => c []
  | k, v :: l, c => havocK asg lv vs junk (k + 1) l fun l' =>
      match live1 lv vs k with
      | some u => c (u :: l')
      | none => bif mem asg k then c (junk k :: l') else c (v :: l')

def havoc (asg lv : List Nat) (vs : List Value) (junk : Nat → Value) : Nat → List Value → List Value
  | _, [] => []
  | k, v :: l =>
      (match live1 lv vs k with
      | some u => u
      | none => bif mem asg k then junk k else v) :: havoc asg lv vs junk (k + 1) l

theorem havocK_eq (asg lv : List Nat) (vs : List Value) (junk : Nat → Value) (k : Nat) (l : List Value) (c : List Value → Prop) :
    havocK asg lv vs junk k l c = c (havoc asg lv vs junk k l) := by
  induction l generalizing k c with
  | nil => rfl
  | cons v l ih =>
    simp only [havocK, havoc, ih]
    cases live1 lv vs k with
    | some u => rfl
    | none => cases mem asg k <;> rfl

theorem live1_map (lv : List Nat) (f : Nat → Value) (k : Nat) (u : Value) (h : live1 lv (lv.map f) k = some u) : u = f k := by
  induction lv with
  | nil => simp [live1] at h
  | cons n ns ih =>
    simp only [List.map_cons, live1] at h
    cases hb : Nat.beq n k with
    | true => rw [hb] at h; have := Nat.eq_of_beq_eq_true hb; subst this; simpa using h.symm
    | false => rw [hb] at h; exact ih h

theorem havoc_self (asg lv : List Nat) (s1 : List Value) : ∀ (l l1 : List Value) (k : Nat), (∀ i, l1[i]? = s1[k + i]?) → mask asg k l1 = mask asg k l →
    havoc asg lv (lv.map (sget s1)) (sget s1) k l = l1
  | [], [], _, _, _ => rfl
  | [], _ :: _, _, _, hm => by simp [mask] at hm
  | _ :: _, [], _, _, hm => by simp [mask] at hm
  | v :: l, v1 :: l1, k, hk, hm => by
    simp only [mask, List.cons.injEq] at hm
    have h0 : sget s1 k = v1 := by
      have := hk 0
      simp only [List.getElem?_cons_zero, Nat.add_zero] at this
      rw [← sget_getD]; simp [← this]
    have ht := havoc_self asg lv s1 l l1 (k + 1) (fun i => by have := hk (i + 1); simpa [Nat.add_assoc, Nat.add_comm 1 i] using this) hm.2
    simp only [havoc, ht, List.cons.injEq, and_true]
    cases hl : live1 lv (lv.map (sget s1)) k with
    | some u => simp only; rw [live1_map lv _ k u hl, h0]
    | none =>
      simp only
      cases ha : mem asg k with
      | true => simp only [cond_true, h0]
      | false => have := hm.1; simp only [ha, cond_false] at this; simp only [cond_false, this]

/-- A loop: its assigned slots, the slots that are read in the next round, what holds of them at each round's head, a measure. -/
theorem LoopVC.intro {B : QQ → List Value → Heap → Prop} {Q : QQ} {s : List Value} {h : Heap} (asg lv : List Nat)
    (I : List Value → Heap → Prop) (μ : List Value → Heap → Nat) (h0 : sgetsK s lv fun vs => I vs h)
    (hr : ∀ (vs : List Value) (junk : Nat → Value) (h' : Heap), I vs h' →
      havocK asg lv vs junk 0 s fun s1 => B (onN (fun s' h'' => mask asg 0 s' = mask asg 0 s ∧ sgetsK s' lv fun vs' => I vs' h'' ∧ μ vs' h'' < μ vs h') Q) s1 h') : LoopVC B Q s h where
  ex := by
    simp only [sgetsK_eq] at h0 hr
    refine ⟨fun s1 h1 => mask asg 0 s1 = mask asg 0 s ∧ I (lv.map (sget s1)) h1, fun s1 h1 => μ (lv.map (sget s1)) h1, ⟨rfl, h0⟩, ?_⟩
    rintro s1 h1 ⟨hm, hI⟩
    have := hr (lv.map (sget s1)) (sget s1) h1 hI
    rw [havocK_eq, havoc_self asg lv s1 s s1 0 (by simp) hm] at this
    simpa only [and_assoc] using this

/- MONOTONY, AND CUTS -/
theorem RunVC.mono {P : Program} {op : Op} {ty : TypeId} {s : List Value} {h : Heap} {K K' : KK} {Q Q' : QQ} (r : RunVC P op ty s h K Q)
    (hk : ∀ v l h, K v l h → K' v l h) (hq : ∀ e s h, Q e s h → Q' e s h) : RunVC P op ty s h K' Q' where
  run w hw ds dst pos after guard next Q'' hn hp :=
    r.run w hw ds dst pos after guard next Q'' (fun v l w' hs hv => hn v l w' hs (hk _ _ _ hv)) (fun c w' hs hv => hp c w' hs (hq _ _ _ hv))

theorem Br.imp {t : Bool} {A B A' B' : Prop} {c d c' d' : Code} (b : Br t A B c d) (ha : A → A') (hb : B → B') : Br t A' B' c' d' := ⟨fun e => ha (b.y e), fun e => hb (b.n e)⟩

theorem vbin_mono {op : BinOp} {x y : Value} {K K' : Value → Prop} {F F' : Prop} (hk : ∀ v, K v → K' v) (hf : F → F') (h : vbin op x y K F) : vbin op x y K' F' := by
  unfold vbin at *
  split at h
  · rename_i k a k' b
    cases hb : Nat.beq (kn k) (kn k') with
    | false => rw [hb] at h; exact hf h
    | true =>
      rw [hb] at h
      cases op <;> first
        | exact hf h
        | exact hk _ h
        | exact ⟨hk _ h.h⟩
  · cases op <;> first
      | exact hf h
      | exact hk _ h
  · exact hf h

theorem vopF_mono {op : Op} {D : List Nat} {s : List Value} {h : Heap} {K K' : KK} {F F' : Prop} {C C' : FuncId → List Value → Prop}
    (hk : ∀ v l h, K v l h → K' v l h) (hf : F → F') (hc : ∀ g a, C g a → C' g a) (hv : vopF F C op D s h K) : vopF F' C' op D s h K' := by
  unfold vopF at *
  simp only [evK_eq, evsK_eq] at *
  split at hv
  · exact hk _ _ _ hv
  · exact hk _ _ _ hv
  · rename_i c a b
    cases hl : lit D c with
    | true =>
      rw [hl] at hv; simp only at hv ⊢
      split at hv
      · exact hk _ _ _ hv
      · exact hk _ _ _ hv
      · exact hv.elim
    | false =>
      rw [hl] at hv; simp only at hv ⊢
      split at hv
      · exact hv.imp (hk _ _ _) (hk _ _ _)
      · exact hv.elim
  · exact vbin_mono (fun v => hk v _ _) hf hv
  · split at hv
    · exact hk _ _ _ hv
    · exact hf hv
  · split at hv
    · exact ⟨hk _ _ _ hv.h⟩
    · exact hf hv
  · split at hv
    · split at hv
      · exact hk _ _ _ hv
      · exact hv.elim
    · exact hv.elim
  · split at hv
    · exact hc _ _ hv
    · exact hf hv
  · exact hf hv

theorem CallVC.mono {P : Program} {g : FuncId} {args s : List Value} {h : Heap} {K K' : KK} {Q Q' : QQ} (r : CallVC P g args s h K Q)
    (hk : ∀ v l h, K v l h → K' v l h) (hq : ∀ e s h, Q e s h → Q' e s h) : CallVC P g args s h K' Q' := by
  obtain ⟨R, h1, h2, h3, h4⟩ := r.spec
  exact ⟨R, h1, fun v h' r => hk _ _ _ (h2 v h' r), fun c h' r => hq _ _ _ (h3 c h' r), h4⟩

theorem vop_mono {P : Program} {op : Op} {ty : TypeId} {D : List Nat} {s : List Value} {h : Heap} {K K' : KK} {Q Q' : QQ}
    (hk : ∀ v l h, K v l h → K' v l h) (hq : ∀ e s h, Q e s h → Q' e s h) (hv : vop P op ty D s h K Q) : vop P op ty D s h K' Q' :=
  vopF_mono hk (fun r => r.mono hk hq) (fun _ _ r => r.mono hk hq) hv

theorem vreg_mono {P : Program} {L : List Oper} {Q Q' : QQ} (hq : ∀ e s h, Q e s h → Q' e s h) : ∀ (l : List Oper) (D : List Nat) (s : List Value) (h : Heap), vreg P L l D s h Q → vreg P L l D s h Q'
  | [], _, _, _, hv => hq _ _ _ hv
  | ⟨dst, op, ty, pos, after, none⟩ :: rest, D, s, h, hv => by
    simp only [vreg_cons, vstep, ssetO_eq] at hv ⊢
    exact vop_mono (fun _ _ _ hk => vreg_mono hq rest _ _ _ hk) hq hv
  | ⟨dst, op, ty, pos, after, some (j, want)⟩ :: rest, D, s, h, hv => by
    have run : ∀ D s, vop P op ty D s h (fun v l h' => vreg P L rest (updD D dst l) (sput s dst v) h' Q) Q → vop P op ty D s h (fun v l h' => vreg P L rest (updD D dst l) (sput s dst v) h' Q') Q' :=
      fun D s hv => vop_mono (fun _ _ _ hk => vreg_mono hq rest _ _ _ hk) hq hv
    have skip : ∀ D s, vreg P L rest D s h Q → vreg P L rest D s h Q' := fun D s hv => vreg_mono hq rest _ _ _ hv
    simp only [vreg_cons, vstep, ssetO_eq, ssetK_eq] at hv ⊢
    cases hd : dstOf L j with
    | none => simp [hd] at hv
    | some g =>
      simp only [hd] at hv ⊢
      cases hm : mem D g with
      | true =>
        simp only [hm] at hv ⊢
        split at hv
        · cases want <;> first | exact run _ _ hv | exact skip _ _ hv
        · cases want <;> first | exact run _ _ hv | exact skip _ _ hv
        · exact skip _ _ hv
      | false =>
        simp only [hm] at hv ⊢
        split at hv
        · cases want
          · exact hv.imp (skip _ _) (run _ _)
          · exact hv.imp (run _ _) (skip _ _)
        · exact skip _ _ hv

theorem onN_mono {N N' : List Value → Heap → Prop} {Q Q' : QQ} (hn : ∀ s h, N s h → N' s h) (hq : ∀ e s h, Q e s h → Q' e s h) (e : Exit) (s : List Value) (h : Heap) (hv : onN N Q e s h) : onN N' Q' e s h := by
  cases e <;> first | exact hn _ _ hv | exact hq _ _ _ hv

theorem vcode_mono {P : Program} : ∀ (c : Code) {Q Q' : QQ} (_ : ∀ e s h, Q e s h → Q' e s h) (s : List Value) (h : Heap), vcode P c Q s h → vcode P c Q' s h := by
  intro c
  induction c with
  | skip => intro Q Q' hq s h hv; exact hq _ _ _ hv
  | region id ops draw =>
    intro Q Q' hq s h hv
    cases draw with
    | true => exact ⟨fun w0 w ds hw hs => wp_mono (hv.wp w0 w ds hw hs) fun e a w' ⟨s', ha, hs', h'⟩ => ⟨s', ha, hs', hq _ _ _ h'⟩⟩
    | false =>
      cases hc : slotCall ops.toList with
      | true =>
        have hv : RegVC P id ops s h Q := by simpa only [vcode, vregion, hc] using hv
        have : RegVC P id ops s h Q' := ⟨fun w0 w ds hw hs => wp_mono (hv.wp w0 w ds hw hs) fun e a w' ⟨s', ha, hs', h'⟩ => ⟨s', ha, hs', hq _ _ _ h'⟩⟩
        simpa only [vcode, vregion, hc] using this
      | false =>
        have hv : vreg P ops.toList ops.toList [] s h Q := by simpa only [vcode, vregion, hc] using hv
        have := vreg_mono hq _ _ _ _ hv
        simpa only [vcode, vregion, hc] using this
  | seq a b iha ihb => intro Q Q' hq s h hv; exact iha (onN_mono (fun s h hv => ihb hq s h hv) hq) s h hv
  | cond c a b iha ihb =>
    intro Q Q' hq s h hv
    simp only [vcode_cond, vcond] at hv ⊢
    split at hv
    · exact hv.imp (iha hq s h) (ihb hq s h)
    · exact hv.elim
  | block id b ih =>
    intro Q Q' hq s h hv
    refine ih ?_ s h hv
    intro e s h hv
    cases e with
    | exit id' =>
      simp only [outQ] at hv ⊢
      cases hb : Nat.beq id' id with
      | true => rw [hb] at hv; exact hq _ _ _ hv
      | false => rw [hb] at hv; exact hq _ _ _ hv
    | _ => exact hq _ _ _ hv
  | loop b ih =>
    intro Q Q' hq s h hv
    obtain ⟨I, μ, h0, hr⟩ := hv.ex
    exact ⟨I, μ, h0, fun s h hI => ih (onN_mono (fun _ _ x => x) hq) s h (hr s h hI)⟩
  | exit id => intro Q Q' hq s h hv; exact hq _ _ _ hv
  | scope b ih =>
    intro Q Q' hq s h hv
    refine ih ?_ s h hv
    intro e s h hv
    cases e with
    | goto l => exact hv.elim
    | _ => exact hq _ _ _ hv
  | label l => intro Q Q' hq s h hv; exact hq _ _ _ hv
  | ret => intro Q Q' hq s h hv; exact hq _ _ _ hv
  | _ => intro Q Q' hq s h hv; exact hv.elim

/-- Where two ways meet again: what both leave is said once, and the rest is walked once. -/
theorem Br.join {P : Program} {t : Bool} {A B : Code} {X Y : Prop} {N : List Value → Heap → Prop} {Q : QQ} {s : List Value} {h : Heap} (asg lv : List Nat) (I : List Value → Heap → Prop)
    (hX : X = vcode P A (onN N Q) s h) (hY : Y = vcode P B (onN N Q) s h)
    (hab : Br t (vcode P A (onN (fun s' h' => mask asg 0 s' = mask asg 0 s ∧ sgetsK s' lv fun vs => I vs h') Q) s h) (vcode P B (onN (fun s' h' => mask asg 0 s' = mask asg 0 s ∧ sgetsK s' lv fun vs => I vs h') Q) s h))
    (hr : ∀ (vs : List Value) (junk : Nat → Value) (h' : Heap), I vs h' → havocK asg lv vs junk 0 s fun s1 => N s1 h') :
    Br t X Y A B := by
  subst hX hY
  have key : ∀ e s' h', onN (fun s' h' => mask asg 0 s' = mask asg 0 s ∧ sgetsK s' lv fun vs => I vs h') Q e s' h' → onN N Q e s' h' := by
    refine onN_mono (fun s' h' ⟨hm, hI⟩ => ?_) (fun _ _ _ x => x)
    rw [sgetsK_eq] at hI
    have := hr (lv.map (sget s')) (sget s') h' hI
    rwa [havocK_eq, havoc_self asg lv s' s s' 0 (by simp) hm] at this
  exact hab.imp (vcode_mono A key s h) (vcode_mono B key s h)


/- RESULTS -/
theorem RetVC.one {P : Program} {fn : Func} {s : List Value} {h : Heap} {R : Value → Heap → Prop} {t : Tmp} (hf : fn.results = #[.tmp t]) (hr : sgetK s t fun v => R v h) : RetVC P fn s h R where
  ex := ⟨sget s t, fun w _ => by rw [results_tmp hf, ← sget_getD]; simp, by rwa [sgetK_eq] at hr⟩
theorem RetVC.two {P : Program} {fn : Func} {s : List Value} {h : Heap} {R : Value → Heap → Prop} {t u : Tmp} (hf : fn.results = #[.tmp t, .tmp u]) (hr : sgetK s t fun v => sgetK s u fun w => R (.tuple ⟨[v, w]⟩) h) : RetVC P fn s h R where
  ex := ⟨.tuple ⟨[sget s t, sget s u]⟩, fun w _ => by rw [results_tmp2 hf, ← sget_getD, ← sget_getD]; simp, by simpa only [sgetK_eq] using hr⟩
theorem results_three {P : Program} {fn : Func} {s : List Value} {t u x : Tmp} (hf : fn.results = #[.tmp t, .tmp u, .tmp x]) (w : World) : (results fn s.toArray).run P w = .ok (.tuple ⟨[sget s t, sget s u, sget s x]⟩) w := by
  have e (t : Nat) : s.toArray.getD t undef = sget s t := by rw [← sget_getD]; simp
  have e' (t : Nat) : (s[t]?).getD undef = sget s t := by rw [← sget_getD]; simp
  simp [results, hf, e]
theorem RetVC.three {P : Program} {fn : Func} {s : List Value} {h : Heap} {R : Value → Heap → Prop} {t u x : Tmp} (hf : fn.results = #[.tmp t, .tmp u, .tmp x]) (hr : sgetK s t fun v => sgetK s u fun w => sgetK s x fun y => R (.tuple ⟨[v, w, y]⟩) h) : RetVC P fn s h R where
  ex := ⟨.tuple ⟨[sget s t, sget s u, sget s x]⟩, fun w _ => results_three hf w, by simpa only [sgetK_eq] using hr⟩
theorem RetVC.zero {P : Program} {fn : Func} {s : List Value} {h : Heap} {R : Value → Heap → Prop} (hf : fn.results = #[]) (hr : R (.tuple #[]) h) : RetVC P fn s h R where
  ex := ⟨_, fun w _ => by rw [results_none hf], hr⟩

/- CALLS -/
theorem CallVC.ret {P : Program} {g : FuncId} {args : List Value} {s : List Value} {h : Heap} {K : KK} {Q : QQ} {Post : Value → Heap → Prop}
    (sp : SpecR P g args h Post) (hk : ∀ v h', Post v h' → K v false h') : CallVC P g args s h K Q where
  spec := ⟨_, .inl sp, hk, fun _ _ h => h.elim, fun _ h => h.elim⟩

/-- A call of a function without a body. -/
theorem CallVC.ext {P : Program} {g : FuncId} {args : List Value} {s : List Value} {h : Heap} {K : KK} {Q : QQ} {Post : Value → Heap → Prop}
    (sp : XSpec P g args h (Ret Post)) (hk : ∀ v h', Post v h' → K v false h') : CallVC P g args s h K Q where
  spec := ⟨_, .inr sp, hk, fun _ _ h => h.elim, fun _ h => h.elim⟩

/- DIVISION -/
theorem StillVC.remE {pr : Bool} {P : Program} {t ty t' : TypeId} {x y : Operand} {s : List Value} {h : Heap} {K : KK} {k : IntKind} {a b : Int}
    (hx : ev s x = .int k a) (hy : ev s y = .int k b) (ha : 0 ≤ a) (hb : 0 < b) (hk : K (.int k (a % b)) false h) : StillVC pr P (.binOp .rem t x y t') ty s h K :=
  .pure' _ false (fun w => by
    have hb' : b ≠ 0 := by omega
    simp [execOp, hx, hy, eqGuard_rem, binOp_rem, Op.intDiv, hb', Int.tmod_eq_emod_of_nonneg ha]) hk
theorem StillVC.quoE {pr : Bool} {P : Program} {t ty t' : TypeId} {x y : Operand} {s : List Value} {h : Heap} {K : KK} {k : IntKind} {a b : Int}
    (hx : ev s x = .int k a) (hy : ev s y = .int k b) (ha : 0 ≤ a) (hb : 0 < b) (hm : a ≤ k.max) (hk : K (.int k (a / b)) false h) : StillVC pr P (.binOp .quo t x y t') ty s h K :=
  .pure' _ false (fun w => by
    have hb' : b ≠ 0 := by omega
    have h1 : a / b ≤ a := Int.ediv_le_self b ha
    have h2 : 0 ≤ a / b := Int.ediv_nonneg ha (by omega)
    have : k.wrap (a / b) = a / b := by
      revert hm h1 h2
      generalize a / b = q
      cases k <;> simp only [IntKind.max, IntKind.wrap, IntKind.bits, IntKind.signed] <;> intro hm h1 h2 <;> simp at * <;> omega
    simp [execOp, hx, hy, eqGuard_quo, binOp_quo, Op.intDiv, hb', Int.tdiv_eq_ediv_of_nonneg ha, this]) hk
theorem StillVC.rem {pr : Bool} {P : Program} {t ty t' : TypeId} {x y : Operand} {s : List Value} {h : Heap} {K : KK} {k : IntKind} {a b : Int}
    (hx : ev s x = .int k a) (hy : ev s y = .int k b) (hb : b ≠ 0) (hk : K (.int k (a.tmod b)) false h) : StillVC pr P (.binOp .rem t x y t') ty s h K :=
  .pure' _ false (fun w => by simp [execOp, hx, hy, eqGuard_rem, binOp_rem, Op.intDiv, hb]) hk
theorem StillVC.quo {pr : Bool} {P : Program} {t ty t' : TypeId} {x y : Operand} {s : List Value} {h : Heap} {K : KK} {k : IntKind} {a b : Int}
    (hx : ev s x = .int k a) (hy : ev s y = .int k b) (hb : b ≠ 0) (hk : Ar k (a.tdiv b) fun v => K v false h) : StillVC pr P (.binOp .quo t x y t') ty s h K :=
  .pure' (.int k (k.wrap (a.tdiv b))) false (fun w => by simp [execOp, hx, hy, eqGuard_quo, binOp_quo, Op.intDiv, hb]) hk.h

end Go.Proofs.YtnmfanjhepepbaaGreatDoor
