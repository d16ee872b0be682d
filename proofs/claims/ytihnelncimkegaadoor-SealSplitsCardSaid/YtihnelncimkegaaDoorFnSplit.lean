/-
  Split of chapter 45.
-/
import Derived.Test.YtihnelncimkegaaDoorStructs
import Derived.Test.YtihnelncimkegaaDoorFnRound
import Derived.Shelf.Abstract
namespace Go.Proofs.YtihnelncimkegaaDoor
open Go Go.RowKit Go.Shelf

theorem parts_spec (t : List UInt8) (h : Heap) : SpecR Tryd.prog 31 [.string ⟨⟨t⟩⟩] h fun r h' => ∃ b, r = .func (.func 37) #[] #[.pointer (some ⟨b, 0, none⟩)] ∧ Own h [box b [.string ⟨⟨t⟩⟩] 9] h' := by
  refine Spec.enter Tryd.func31 rfl Tryd.ntmps31 (by kernel_rfl) ?_
  have o0 := Own.refl h
  (refine RunVC.boxO o0 rfl ?_; intro b10 m10 o10)
  refine StillVC.run (StillVC.makeFn ?_)
  refine RetVC.one rfl ?_
  exact ⟨_, rfl, o10⟩

theorem chunks_len (s : List UInt8) : (chunks s).length ≤ s.length + 1 := by
  induction hn : s.length using Nat.strongRecOn generalizing s with
  | _ n ih =>
    by_cases h : s.length ≤ 40
    · rw [chunks_le h]; simp
    · rw [chunks_gt (by omega)]
      have := ih (s.drop 40).length (by simp; omega) (s.drop 40) rfl
      simp only [List.length_cons]
      simp at this
      omega

theorem splitL_len {t : List UInt8} (hl : t.length ≤ 2199023255552) : (splitL t).length ≤ 2199023255600 := by
  have h1 := chunks_len (wholeL t)
  have hd := decDigits_short t.length (by omega)
  have : (wholeL t).length ≤ 20 + 1 + t.length := by simp [wholeL]; omega
  unfold splitL; omega

abbrev s13 (t : List UInt8) (x2 : Value) (b3 : Nat) (x4 x5 x6 x7 x8 x9 x10 x11 x12 : Value) : List Value :=
  [.string ⟨⟨t⟩⟩, undef, x2, .pointer (some ⟨b3, 0, none⟩), x4, x5, x6, x7, x8, x9, x10, x11, x12]

abbrev its (b3 b1 : Nat) (v : Value) (t : List UInt8) (xs : List (List UInt8)) : List Item :=
  [box b3 [v] 22, row v 9 1 xs.length (strs xs), box b1 [.string ⟨⟨t⟩⟩] 9]

theorem opInR_value {k n : Nat} {P : Program} {dst : Option Tmp} {op : Op} {ty : TypeId} {pos : String} {after : Array Edge} {s : List Value} {ds : List Deferred} {w : World} {v : Value} {next : Act → World → Prop} {Q : Exit → Act → World → Prop}
    (hd : noDefer ⟨dst, op, ty, pos, after, none⟩ = true) (hrun : (execOp (ev s) ⟨none, op, ty, "", #[], none⟩).run P w = .ok (.value v) w) (hn : next (act (sput s dst v) ds) w) : Oper.wpIn (Fence.wide.inRound k) n P ⟨dst, op, ty, pos, after, none⟩ (act s ds) w next Q := by
  refine opIn_of_wp hd ?_
  unfold Oper.wp
  rw [act_eval, execOp_head, hrun, Oper.upon_value, act_sput]
  exact hn

/-- All blocks from n on that are no cells. -/
def others (H : Heap) (n : Nat) : Item where
  fp b := n ≤ b ∧ ∃ o : Obj, H[b]? = some o ∧ o.isCells = false
  sat h := ∀ (b : Nat) (o : Obj), n ≤ b → H[b]? = some o → o.isCells = false → h[b]? = some o
  loc h h' e hs b o hn hb ho := (e b ⟨hn, o, hb, ho⟩).trans (hs b o hn hb ho)

theorem its_cells {B : Base} {b3 b1 : Nat} {v : Value} {t : List UInt8} {xs : List (List UInt8)} {h : Heap} (o : Own B (its b3 b1 v t xs) h) : ∀ x ∈ its b3 b1 v t xs, ∀ b, x.fp b → ∃ c t f, h[b]? = some (.cells c t f) := by
  intro x hx b hb
  have hsat := o.sat x hx
  simp only [its, List.mem_cons, List.not_mem_nil, or_false] at hx
  rcases hx with rfl | rfl | rfl
  · have : b = b3 := hb
    subst this
    exact ⟨_, _, _, hsat⟩
  · obtain ⟨_, r⟩ := hsat
    have hb' : v.ownBlock = some b := hb
    rcases r with ⟨rfl, _⟩ | ⟨g, cap, cur, rfl, hg, _⟩
    · simp [Value.ownBlock] at hb'
    · simp only [Value.ownBlock, Option.some.injEq] at hb'
      subst hb'
      exact ⟨_, _, _, hg⟩
  · have : b = b1 := hb
    subst this
    exact ⟨_, _, _, hsat⟩

theorem Own.withOthers {h0 h : Heap} {b3 b1 : Nat} {v : Value} {t : List UInt8} {xs : List (List UInt8)} (o : Own h0 (its b3 b1 v t xs) h) : Own ⟨h0, [others h h0.size]⟩ (its b3 b1 v t xs) h := by
  have hc := its_cells o
  have o' := o.toR
  refine ⟨o'.ext, fun x hx => ?_, fun x hx b hb => ?_, fun x hx b hb => ?_, ?_⟩
  · rcases List.mem_append.1 hx with hx | hx
    · exact o'.sat x hx
    · simp only [List.mem_singleton] at hx; subst hx; exact fun b o _ hb _ => hb
  · rcases List.mem_append.1 hx with hx | hx
    · exact o'.lo x hx b hb
    · simp only [List.mem_singleton] at hx; subst hx; exact hb.1
  · rcases List.mem_append.1 hx with hx | hx
    · exact o'.hi x hx b hb
    · simp only [List.mem_singleton] at hx; subst hx
      obtain ⟨_, y, hy, _⟩ := hb
      exact (Array.getElem?_eq_some_iff.1 hy).1
  · refine List.pairwise_append.2 ⟨o'.dis, List.pairwise_singleton _ _, fun x hx y hy b hb hb' => ?_⟩
    simp only [List.mem_singleton] at hy; subst hy
    obtain ⟨c, tt, f, hcell⟩ := hc x hx b hb
    obtain ⟨_, y, hy, hyc⟩ := hb'
    rw [hcell] at hy
    injection hy with hy
    subst hy
    simp [Obj.isCells] at hyc

theorem Own.unframe {h0 h : Heap} {T L : List Item} (o : Own ⟨h0, T⟩ L h) : Own h0 L h :=
  OwnR.own ⟨OwnR.ext o, fun x hx => OwnR.sat o x (List.mem_append_left _ hx), fun x hx => OwnR.lo o x (List.mem_append_left _ hx), fun x hx => OwnR.hi o x (List.mem_append_left _ hx), (List.pairwise_append.1 (OwnR.dis o)).1⟩

theorem Own.rowEx {B : Base} {L : List Item} {h : Heap} {v : Value} {e : TypeId} {es n : Nat} {xs : List Value} (o : Own B L h) (k : Nat) (hk : L[k]? = some (row v e es n xs)) : ∃ r n c, v = .slice r n c := by
  obtain ⟨_, r⟩ := o.sat _ (List.mem_of_getElem? hk)
  rcases r with ⟨rfl, _⟩ | ⟨g, cap, cur, rfl, hg, _⟩
  · exact ⟨_, _, _, rfl⟩
  · exact ⟨_, _, _, rfl⟩

set_option maxRecDepth 100000 in
set_option maxHeartbeats 1600000 in
theorem split_spec (t : List UInt8) (h : Heap) (ht : TabH h) (hl : t.length ≤ 2199023255552) : SpecR Tryd.prog 20 [.string ⟨⟨t⟩⟩] h fun r h' => Own h [ro r (strs (splitL t))] h' := by
  refine ⟨⟨_, Tryd.func20, rfl, by kernel_rfl⟩, fun w hw => ?_⟩
  subst hw
  refine (callsIn_wide (n := 6)).1 (callsIn_of_wp_marks Tryd.func20 rfl trivial ?_ rfl)
  simp only [Tryd.ntmps20, List.size_toArray, List.length_cons, List.length_nil, Nat.reduceAdd, Nat.reduceSub, Array.replicate_succ, Array.replicate_zero, List.push_toArray, List.append_toArray, List.nil_append, List.cons_append]
  refine wpIn_seq (wpIn_mono (wpIn_wide.2 (vcode_sound (w0 := w) (ds := []) _ (onN (fun s' h' => s' = [.string ⟨⟨t⟩⟩, undef, .slice none 0 0, undef, undef, undef, undef, undef, undef, undef, undef, undef, undef] ∧ h' = w.heap) (fun _ _ _ => False)) [.string ⟨⟨t⟩⟩, undef, undef, undef, undef, undef, undef, undef, undef, undef, undef, undef, undef] w (.refl w) ?_)) ?_)
  · skip
    exact ⟨rfl, rfl⟩
  rintro e a1 w1 ⟨s1, rfl, hs1, hq⟩
  cases e with
  | normal =>
    obtain ⟨rfl, eh1⟩ := hq
    have o1 : Own w.heap [] w1.heap := by rw [eh1]; exact .refl _
    refine wpIn_seq (wpIn_mono (wpIn_wide.2 (vcode_sound (w0 := w1) (ds := []) _ (onN (fun s' h' => ∃ b3, s' = s13 t (.slice none 0 0) b3 undef undef undef undef undef undef undef undef undef ∧ Own w.heap [box b3 [.slice none 0 0] 22] h') (fun _ _ _ => False)) _ w1 (.refl w1) ?_)) ?_)
    · (refine RunVC.alloc o1 ty22 ?_; intro b20 m20 o20)
      exact ⟨_, rfl, o20⟩
    rintro e a2 w2 ⟨s2, rfl, hs2, hq⟩
    cases e with
    | normal =>
      obtain ⟨b3, rfl, o2⟩ := hq
      have ht2 : TabH w2.heap := ht.ext o2.ext
      refine wpIn_seq (wpIn_seq (wpIn_mono (wpIn_wide.2 (vcode_sound (w0 := w2) (ds := []) _ (onN (fun s' h' => ∃ b1, s' = s13 t (.slice none 0 0) b3 undef (.string ⟨⟨t⟩⟩) (.func (.func 37) #[] #[.pointer (some ⟨b1, 0, none⟩)]) undef undef undef undef undef undef ∧ Own w.heap [box b3 [.slice none 0 0] 22, box b1 [.string ⟨⟨t⟩⟩] 9] h') (fun _ _ _ => False)) _ w2 (.refl w2) ?_)) ?_))
      · skip
        refine CallVC.ret (parts_spec t _) ?_
        rintro _ h3 ⟨b1, rfl, oc⟩
        have o3 : Own w.heap [box b3 [.slice none 0 0] 22, box b1 [.string ⟨⟨t⟩⟩] 9] h3 := o2.call oc
        exact ⟨_, rfl, o3⟩
      rintro e a3 w3 ⟨s3, rfl, hs3, hq⟩
      cases e with
      | normal =>
        obtain ⟨b1, rfl, o3⟩ := hq
        have ht3 : TabH w3.heap := ht.ext o3.ext
        have o4 : Own w.heap (its b3 b1 (.slice none 0 0) t []) w3.heap := (o3.nilRow 9 1).sel [0, 2, 1] rfl
        have hS : Same w w3 := (hs1.trans hs2).trans hs3
        clear o1 o2 o3 hs1 hs2 hs3 eh1 ht2
        refine wpIn_block (wpIn_rangeFunc_ownF (n := 6) rfl (by decide) (gf := 37) (lb := #[.pointer (some ⟨b1, 0, none⟩)]) rfl trivial (enters_of Tryd.func37 (by kernel_rfl) rfl)
          (encs := fun x : List UInt8 => #[.string ⟨⟨x⟩⟩]) (Kp := KeepsWalks) (S := fun xs => xs = splitL t) (Sp := fun _ => True) (N := (splitL t).length) (w0 := w3)
          (seqStopsA_iff.1 (parts1_stops t b1 w3 (o4.hi _ (List.mem_of_getElem? (show (its b3 b1 (.slice none 0 0) t [])[2]? = some _ from rfl)) b1 rfl) (o4.cellB 2 rfl 0) ht3 (by omega)))
          walksK_t walksK_b (Below.refl _ _) (fun _ => rfl)
          (fun pre W => Same w W ∧ ∃ v, Own w.heap (its b3 b1 v t pre) W.heap) (fun _ _ _ => False) ?hI (fun _ _ _ _ _ hs _ _ => hs) ⟨hS, _, o4⟩
          (fun x => act (s13 t (.slice none 0 0) b3 (.string ⟨⟨x⟩⟩) (.string ⟨⟨t⟩⟩) (.func (.func 37) #[] #[.pointer (some ⟨b1, 0, none⟩)]) (.string ⟨⟨x⟩⟩) undef undef undef undef undef) []) ?assign ?body ?done ?stop)
        case hI =>
          rintro pre W W' rw ⟨hs, v, o⟩ hg hr
          refine ⟨hs.trans ⟨hg.os, hg.tape, hg.output, hg.size⟩, v, o.turned hg (fun r e => ⟨Nat.le_trans o4.ext.size (hr r e).1, (hr r e).2⟩) ?_⟩
          intro x hx
          exact its_cells o x (by simpa using hx)
        case assign =>
          intro l x W K hK
          refine wpIn_region ?_
          have key : ∀ a2 : Act, a2 = act (s13 t (.slice none 0 0) b3 undef (.string ⟨⟨t⟩⟩) (.func (.func 37) #[] #[.pointer (some ⟨b1, 0, none⟩)]) (.string ⟨⟨x⟩⟩) undef undef undef undef undef) [] →
              wpOpsIn (Fence.wide.inRound l) (6 - 1 - 1) Tryd.prog #[{ dst := some 4, op := Op.assign (Operand.tmp 7), type := 9, pos := "seal.go:119", after := #[], guard := none }] (Exit.then K fun _ _ _ => False) [0] a2 W := by
            rintro _ rfl
            refine wpOpsIn_cons rfl rfl (opInR_value rfl (v := .string ⟨⟨x⟩⟩) (by simp [execOp, ev, sget]) ?_)
            exact hK
          exact key _ (by simp [act])
        case body =>
          rintro l pre x W ⟨hs, v, o⟩ hlen
          have oF := o.withOthers
          have hpl : pre.length ≤ 2199023255600 := by have := splitL_len hl; omega
          generalize hB : (⟨w.heap, [others W.heap w.heap.size]⟩ : Base) = B' at oF
          refine wpIn_block (wpIn_mono (regionR (Q := onN (fun s' h' => ∃ v', Own B' (its b3 b1 v' t (pre ++ [x])) h') (fun _ _ _ => False)) rfl ?_) ?_)
          · have oF' : Own B' [box b3 [v] 22, row v 9 1 pre.length (strs pre), box b1 [.string ⟨⟨t⟩⟩] 9] W.heap := oF
            clear o oF
            refine StillVC.run (StillVC.loadO oF' 0 rfl ty22 rfl rfl ?_)
            (refine RunVC.lit oF' sl22 ty9 rfl rfl (by decide) (And.intro rfl ?_); intro b51 m51 o51)
            (refine RunVC.append o51 1 rfl sl22 ty9 (by decide) (o51.boxArr 3 rfl (by simp) (by simp)).toN (by simp [Value.oneCell']) (by simp only [maxLen]; first | omega | (simp; omega)) (by first | omega | (simp; omega)) ?_; intro v52 m52 o52)
            obtain ⟨r, n, c, rfl⟩ := o52.rowEx 1 rfl
            (refine RunVC.store o52 0 rfl ty22 rfl (by simp) (And.intro ⟨rfl, rfl⟩ ?_); intro m55 o55)
            exact ⟨_, by simpa [its, strs, pick] using o55.sel [0, 1, 2] rfl⟩
          · rintro e a4 w4 ⟨s4, rfl, hs4, hq4⟩
            cases e with
            | normal =>
              obtain ⟨v', o5⟩ := hq4
              subst hB
              have hoth : (others W.heap w.heap.size).sat w4.heap := OwnR.sat o5 _ (List.mem_append_right _ (by simp))
              have hko : KeepsOthers W w4 := ⟨hs4.size, fun k y hk hy => by
                by_cases hlt : k < w.heap.size
                · rw [o5.ext.old k hlt, ← o.ext.old k hlt]; exact hk
                · exact hoth k y (by omega) hk hy⟩
              exact ⟨hko, hko.walks, hs.trans hs4, v', o5.unframe⟩
            | _ => exact hq4.elim
        case done =>
          rintro D xs W hD rfl ⟨hs, v, o⟩ hK
          have hcD : ∀ z ∈ its b3 b1 v t (splitL t) ++ (Base.T ⟨w.heap, []⟩), ∀ b, z.fp b → ∃ c t f, W.heap[b]? = some (.cells c t f) := fun z hz => its_cells o z (by simpa using hz)
          refine wpIn_seq (wpIn_mono (wpIn_wide.2 (vcode_sound (w0 := W) (ds := [{ target := .collected D, args := #[] }]) _ (onN (fun s' h' => sget s' 2 = v ∧ h' = W.heap) (fun _ _ _ => False)) (s13 t (.slice none 0 0) b3 undef (.string ⟨⟨t⟩⟩) (.func (.func 37) #[] #[.pointer (some ⟨b1, 0, none⟩)]) undef undef undef undef undef undef) W (.refl W) ?_)) ?_)
          · have o' : Own w.heap [box b3 [v] 22, row v 9 1 (splitL t).length (strs (splitL t)), box b1 [.string ⟨⟨t⟩⟩] 9] W.heap := o
            clear o
            refine StillVC.run (StillVC.loadO o' 0 rfl ty22 rfl rfl ?_)
            exact ⟨rfl, rfl⟩
          · rintro e a5 w5 ⟨s5, rfl, hs5, hq5⟩
            cases e with
            | normal =>
              obtain ⟨e5, eh5⟩ := hq5
              refine wpIn_ret ?_
              have hK5 : w5.heap[D]? = some (.deferred (some [])) := by rw [eh5]; exact hK
              have o5 : Own w.heap (its b3 b1 v t (splitL t)) w5.heap := by rw [eh5]; exact o
              have o6 := o5.turned (grownBy_putObj' w5 D (.deferred none)) (fun r e => by
                injection e with e; subst e
                exact ⟨Nat.le_trans o4.ext.size hD, _, hK5, rfl⟩) (by rw [eh5]; exact hcD)
              refine ⟨by simp, .inl ⟨D, _, rfl, run_takeDeferred hK5, ?_⟩⟩
              refine ⟨v, ?_, ?_⟩
              · rw [results_tmp rfl]; show Result.ok (s5.toArray.getD 2 undef) _ = _; rw [show s5.toArray.getD 2 undef = sget s5 2 by rw [← sget_getD]; simp, e5]
              · refine ⟨((hs.trans hs5)).trans ?_, ?_⟩
                · exact ⟨rfl, rfl, rfl, by simp [World.putObj]⟩
                · have := (o6.sel [1] rfl).rowRo 0 rfl
                  exact this.sel [0] rfl
            | _ => exact hq5.elim
        case stop =>
          rintro D c pre W _ _ hf _
          exact hf.elim
      | _ => exact hq.elim
    | _ => exact hq.elim
  | _ => exact hq.elim

end Go.Proofs.YtihnelncimkegaaDoor
