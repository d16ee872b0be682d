/-
  The content of a quoted text: value.content, over the library's strings.Builder.
-/
import Derived.Test.YtffpaippmfafjaaGreatDoorStructs
import Derived.Test.YtffpaippmfafjaaGreatDoorFnBld
import Derived.Test.YtffpaippmfafjaaGreatDoorShelf2
import Derived.Lib.Builder
namespace Go.Proofs.YtffpaippmfafjaaGreatDoor
open Go

section
variable {P : Program} {ty : TypeId} {s : List Value} {h0 : Base} {h : Heap} {L : List Item} {K : KK} {Q : QQ}

theorem run_eqPN {t e : TypeId} {a : Option Addr} (hS : P.underlying t = some (.pointer e)) (w : World) : (Op.equal t (.pointer a) (.pointer none)).run P w = .ok a.isNone w := by
  show (Op.equalIn (9999 + 1) t (.pointer a) (.pointer none)).run P w = _
  generalize 9999 = d
  cases a <;> simp [Op.equalIn, run_underlying hS]

theorem RunVC.eqPN {t t' e : TypeId} {x y : Operand} {a : Option Addr} (hS : P.underlying t = some (.pointer e)) (hx : ev s x = .pointer a) (hy : ev s y = .pointer none) (hk : K (.bool a.isNone) false h) : RunVC P (.binOp .eql t x y t') ty s h K Q :=
  .pure' _ false (fun w => by simp [execOp, hx, hy, eqGuard_at_pointer, binOp, run_eqPN hS]) hk

theorem RunVC.nePP {t t' e : TypeId} {x y : Operand} {a : Addr} (hS : P.underlying t = some (.pointer e)) (hi : (P.info? e).isSome = true) (hx : ev s x = .pointer (some a)) (hy : ev s y = .pointer (some a)) (hk : K (.bool false) false h) : RunVC P (.binOp .neq t x y t') ty s h K Q := by
  obtain ⟨j, hj⟩ := Option.isSome_iff_exists.1 hi
  refine .pure' _ false (fun w => ?_) hk
  have := Lib.run_neq_ptr_same w a hS hj
  simp [execOp, hx, hy, eqGuard_at_pointer, this]

theorem RunVC.fromUnsafe {src dst u : TypeId} {x : Operand} {a : Addr} {b : Nat} {cs : List Value} {t : TypeId} (o : Own h0 L h) (k : Nat) (hk : L[k]? = some (box b cs t)) (hs : P.underlying src = some .unsafePointer) (hd : P.underlying dst = some (.pointer u)) (hu : (P.info? u).isSome = true)
    (hx : ev s x = .pointer (some a)) (hb : a.block = b) (hlies : liesAt P P.depth t (cs.length / P.cellsOf t) a.off u 1 = true) (hK : K (.pointer (some a)) false h) : RunVC P (.convert src dst x) ty s h K Q := by
  obtain ⟨j, hj⟩ := Option.isSome_iff_exists.1 hu
  subst hb
  refine .of fun w hw => ⟨_, false, w, ?_, .refl w, by rw [hw]; exact hK⟩
  subst hw
  have hbk := o.boxBlk k hk
  have hsh : w.shape? a.block = some (t, cs.length) := by simp [World.shape?, hbk]
  have := Lib.run_from_unsafe w a hs hd hj hsh hlies
  simp [execOp, hx, this]
end

theorem XSpec.noEscape {P : Program} {f : FuncId} {fn : Func} {h : Heap} (hf : P.funcs[f]? = some fn) (hname : (fn.name == "runtime.NumGoroutine") = false) (hb : fn.body.isNone = true) (hn : Extern.findNext fn = none)
    (he : Extern.find fn = some Extern.AbiNoEscape.same) (x : Value) : XSpec P f [x] h (Ret fun v h' => v = x ∧ h' = h) :=
  fun w hw => ⟨_, w, by rw [run_callFunc_extern hf hname hb hn he]; simp [Lib.run_noEscape], .refl w, rfl, hw⟩

set_option maxRecDepth 100000 in
theorem copyCheckU_spec (b : Nat) (v : Value) (h : Heap) (L : List Item) (h0 : Base) (o0 : Own h0 (box b [.pointer (some ⟨b, 0, none⟩), v] 71 :: L) h) :
    SpecR Tryz.prog 60 [.pointer (some ⟨b, 0, none⟩)] h fun _ h' => Own h0 (box b [.pointer (some ⟨b, 0, none⟩), v] 71 :: L) h' := by
  refine Spec.enter Tryz.func60 rfl Tryz.ntmps60 (by kernel_rfl) ?_
  refine StillVC.run (StillVC.nilCheck rfl ?_)
  refine StillVC.run (StillVC.fieldAddr st71 rfl rfl rfl ?_)
  refine StillVC.run (StillVC.loadO o0 0 rfl ty68 rfl rfl ?_)
  refine RunVC.eqPN (e := 71) (by kernel_rfl) rfl rfl ?_
  refine Br.ff ?_
  refine StillVC.run (StillVC.nilCheck rfl ?_)
  refine StillVC.run (StillVC.fieldAddr st71 rfl rfl rfl ?_)
  refine StillVC.run (StillVC.loadO o0 0 rfl ty68 rfl rfl ?_)
  refine RunVC.nePP (e := 71) (by kernel_rfl) (by kernel_rfl) rfl rfl ?_
  refine Br.ff ?_
  refine RetVC.zero rfl ?_
  exact o0

set_option maxRecDepth 100000 in
theorem copyCheckF_spec (b : Nat) (v : Value) (h : Heap) (L : List Item) (h0 : Base) (o0 : Own h0 (box b [.pointer none, v] 71 :: L) h) :
    SpecR Tryz.prog 60 [.pointer (some ⟨b, 0, none⟩)] h fun _ h' => Own h0 (box b [.pointer (some ⟨b, 0, none⟩), v] 71 :: L) h' := by
  refine Spec.enter Tryz.func60 rfl Tryz.ntmps60 (by kernel_rfl) ?_
  refine StillVC.run (StillVC.nilCheck rfl ?_)
  refine StillVC.run (StillVC.fieldAddr st71 rfl rfl rfl ?_)
  refine StillVC.run (StillVC.loadO o0 0 rfl ty68 rfl rfl ?_)
  refine RunVC.eqPN (e := 71) (by kernel_rfl) rfl rfl ?_
  refine Br.tt ?_
  refine StillVC.run (StillVC.toUnsafe (e := 71) (by kernel_rfl) (by kernel_rfl) (by kernel_rfl) rfl ((o0.cellB 0 rfl _).trans rfl) ?_)
  refine CallVC.ext (XSpec.noEscape Tryz.func70 (by kernel_rfl) (by kernel_rfl) (by kernel_rfl) (by kernel_rfl) _) ?_
  rintro _ h1 ⟨rfl, rfl⟩
  refine RunVC.fromUnsafe o0 0 rfl (by kernel_rfl) (u := 71) (by kernel_rfl) (by kernel_rfl) rfl rfl (by kernel_rfl) ?_
  refine StillVC.run (StillVC.nilCheck rfl ?_)
  refine StillVC.run (StillVC.fieldAddr st71 rfl rfl rfl ?_)
  (refine RunVC.store o0 0 rfl ty68 rfl (by simp) (And.intro ⟨rfl, rfl⟩ ?_); intro m62 o62)
  refine RetVC.zero rfl ?_
  exact o62

set_option maxRecDepth 100000 in
theorem writeByte_spec (b : Nat) (p v : Value) (n : Nat) (bs : List UInt8) (c : UInt8) (h : Heap) (h0 : Base) (hp : p = .pointer none ∨ p = .pointer (some ⟨b, 0, none⟩))
    (o0 : Own h0 [box b [p, v] 71, row v 5 1 n (bytes bs)] h) (hn : n + 1 ≤ 1000000) :
    SpecR Tryz.prog 47 [.pointer (some ⟨b, 0, none⟩), .int .u8 c.toNat] h fun r h' => r = .nilIface ∧ ∃ v', Own h0 [box b [.pointer (some ⟨b, 0, none⟩), v'] 71, row v' 5 1 (n + 1) (bytes (bs ++ [c]))] h' := by
  refine Spec.enter Tryz.func47 rfl Tryz.ntmps47 (by kernel_rfl) ?_
  refine CallVC.ret (Post := fun r h' => Own h0 [box b [.pointer (some ⟨b, 0, none⟩), v] 71, row v 5 1 n (bytes bs)] h') ?_ ?_
  · rcases hp with rfl | rfl
    · exact copyCheckF_spec b v h _ h0 o0
    · exact copyCheckU_spec b v h _ h0 o0
  intro r1 h1 o1
  clear o0
  refine StillVC.run (StillVC.nilCheck rfl ?_)
  refine StillVC.run (StillVC.fieldAddr st71 rfl rfl rfl ?_)
  refine StillVC.run (StillVC.loadO o1 0 rfl ty69 rfl rfl ?_)
  (refine RunVC.lit o1 sl69 ty5 rfl rfl (by decide) (And.intro rfl ?_); intro b83 m83 o83)
  (refine RunVC.append o83 1 rfl sl69 ty5 (by decide) (o83.boxArr 2 rfl (by simp) (by simp)).toN (by simp [Value.oneCell']) (by simp only [maxLen]; first | omega | (simp; omega)) (by first | omega | (simp; omega)) ?_; intro v84 m84 o84)
  refine StillVC.run (StillVC.nilCheck rfl ?_)
  refine StillVC.run (StillVC.fieldAddr st71 rfl rfl rfl ?_)
  obtain ⟨a, cc, rfl⟩ := o84.rowIs 1 rfl
  (refine RunVC.store o84 0 rfl ty69 rfl (by simp) (And.intro ⟨rfl, rfl⟩ ?_); intro m90 o90)
  refine RetVC.one rfl ?_
  refine ⟨rfl, .slice a (n + 1) cc, ?_⟩
  rw [show bytes (bs ++ [c]) = bytes bs ++ [.int .u8 c.toNat] by simp]
  exact o90.sel [0, 1] rfl

/-- The text that a builder holds (the builder may not be used again). -/
theorem string_spec (b : Nat) (p v : Value) (n : Nat) (bs : List UInt8) (h h0 : Heap) (hp : p = .pointer none ∨ p = .pointer (some ⟨b, 0, none⟩))
    (o0 : Own h0 [box b [p, v] 71, row v 5 1 n (bytes bs)] h) :
    SpecR Tryz.prog 48 [.pointer (some ⟨b, 0, none⟩)] h fun r h' => r = .string ⟨⟨bs⟩⟩ ∧ Own h0 [] h' := by
  refine ⟨⟨_, Tryz.func48, rfl, by kernel_rfl⟩, fun w hw => ?_⟩
  subst hw
  have hb := o0.boxBlk 0 rfl
  have hlo : h0.size ≤ b := o0.lo (box b [p, v] 71) (by simp) b rfl
  have hr : rowH w.heap 5 1 v n (bytes bs) := o0.sat (row v 5 1 n (bytes bs)) (by simp)
  have hne : v.ownBlock ≠ some b := fun e => by
    have := o0.dis
    simp [List.pairwise_cons] at this
    exact this b rfl e
  have hat : Lib.BuilderAt 71 5 h0.size b p (bytes bs) w := by
    refine ⟨hlo, v, hb, ⟨by simp, ?_⟩, hne⟩
    obtain ⟨hlen, hr⟩ := hr
    have hn : n = bs.length := by simp at hlen; omega
    subst hn
    have e : (bytes bs).length = bs.length := by simp
    rw [e]
    rcases hr with hr | ⟨g, cap, cur, hv, hg, rest⟩
    · exact .inl hr
    · exact .inr ⟨g, cap, cur, hv, o0.lo (row v 5 1 bs.length (bytes bs)) (by simp) g (by rw [hv]; rfl), hg, rest⟩
  have hB : Lib.IsBuilder 71 5 h0.size b (Lib.byteCells bs) w := by
    rcases hp with rfl | rfl
    · exact .inl hat
    · exact .inr hat
  refine (Tryz.Builder_String_any h0.size b bs w hB o0.ext.size).mono ?_
  rintro e w' ⟨rfl, hb⟩
  refine ⟨⟨hb.os, hb.tape, hb.output, hb.size⟩, rfl, Own.of_ext ⟨Nat.le_trans o0.ext.size hb.size, fun x hx => ?_⟩⟩
  rw [hb.block x hx]
  exact o0.ext.old x hx

/-- The content of a quoted text, or nothing. -/
def contentR (s : List UInt8) : Option (List UInt8) :=
  match s with
  | 34 :: r => if r.getLast? = some 34 then contF r.dropLast false else none
  | _ => none

theorem cont_esc {c x : UInt8} {r out : List UInt8} {R : Option (List UInt8)} (he : escC c = some x) (h : R = (contF (c :: r) true).map (out ++ ·)) : R = (contF r false).map ((out ++ [x]) ++ ·) := by
  rw [h, contF, he]
  cases contF r false <;> simp

theorem cont_bad {c : UInt8} {r out : List UInt8} {R : Option (List UInt8)} (he : escC c = none) (h : R = (contF (c :: r) true).map (out ++ ·)) : R = none := by
  rw [h, contF, he]
  rfl

theorem cont_back {r out : List UInt8} {R : Option (List UInt8)} (h : R = (contF (92 :: r) false).map (out ++ ·)) : R = (contF r true).map (out ++ ·) := by
  rw [h, contF, if_pos rfl]

theorem cont_no {c : UInt8} {r out : List UInt8} {R : Option (List UInt8)} (h92 : c ≠ 92) (hc : c = 34 ∨ c = 10) (h : R = (contF (c :: r) false).map (out ++ ·)) : R = none := by
  rw [h, contF, if_neg h92, if_pos hc]
  rfl

theorem cont_plain {c : UInt8} {r out : List UInt8} {R : Option (List UInt8)} (h92 : c ≠ 92) (hc : ¬ (c = 34 ∨ c = 10)) (h : R = (contF (c :: r) false).map (out ++ ·)) : R = (contF r false).map ((out ++ [c]) ++ ·) := by
  rw [h, contF, if_neg h92, if_neg hc]
  cases contF r false <;> simp

set_option maxHeartbeats 4000000 in
set_option maxRecDepth 100000 in
theorem content_spec (t : List UInt8) (h : Heap) (hl : t.length ≤ 500000) :
    SpecR Tryz.prog 32 [.string ⟨⟨t⟩⟩] h fun r h' => (∃ u b, r = .tuple ⟨[.string ⟨⟨u⟩⟩, .bool b]⟩ ∧ (contentR t = if b then some u else none)) ∧ Own h [] h' := by
  have o0 := Own.refl h
  refine Spec.enter Tryz.func32 rfl Tryz.ntmps32 (by kernel_rfl) ?_
  by_cases h2 : t.length < 2
  · refine StillVC.run (StillVC.lenS rfl str9 ?_)
    refine Br.dec (fun c11 => ?_) (fun hc => absurd (by omega) hc)
    refine Br.tt ?_
    refine RetVC.two rfl ?_
    refine ⟨⟨[], false, rfl, ?_⟩, o0⟩
    match t, h2 with
    | [], _ => rfl
    | [c], _ => simp [contentR]; split <;> simp_all
  obtain ⟨c0, u, cl, rfl⟩ : ∃ c u d, t = c :: (u ++ [d]) := by
    cases t with
    | nil => simp at h2
    | cons c t1 =>
      have hne : t1 ≠ [] := by rintro rfl; simp at h2
      exact ⟨c, t1.dropLast, t1.getLast hne, by rw [List.dropLast_concat_getLast]⟩
  generalize hT : c0 :: (u ++ [cl]) = t at *
  have hlen : t.length = u.length + 2 := by rw [← hT]; simp
  have hq0 : t[(0 : Int).toNat]? = some c0 := by rw [← hT]; rfl
  have hq1 : t[((t.length : Int) - 1).toNat]? = some cl := by
    rw [← hT, show (((c0 :: (u ++ [cl])).length : Int) - 1).toNat = u.length + 1 by simp]
    simp
  have hc : contentR t = if c0 = 34 ∧ cl = 34 then contF u false else none := by
    subst hT
    unfold contentR
    by_cases h0 : c0 = 34
    · subst h0
      simp [eq_comm]
    · rw [if_neg (fun h => h0 h.1)]
      split
      · rename_i heq; simp at heq; exact absurd heq.1 h0
      · rfl
  have hin : List.drop (Int.toNat 1) (List.take ((t.length : Int) - 1).toNat t) = u := by
    rw [← hT, show (((c0 :: (u ++ [cl])).length : Int) - 1).toNat = u.length + 1 by simp]
    simp
  by_cases h0 : c0 = 34
  case neg =>
    rw [hc, if_neg (fun h => h0 h.1)]
    have h0' : ¬ (c0.toNat : Int) = 34 := fun e => h0 (UInt8.toNat_inj.1 (by show c0.toNat = 34; omega))
    refine StillVC.run (StillVC.lenS rfl str9 ?_)
    refine Br.dec (fun hc => absurd hc (by omega)) (fun c31 => ?_)
    refine StillVC.run (StillVC.strIdx rfl rfl str9 (by omega) (by assumption) ?_)
    refine Br.ndec (fun c33 => ?_) (fun hc => absurd hc (by first | omega | assumption | decide | exact rfl))
    refine Br.tt ?_
    refine RetVC.two rfl ?_
    exact ⟨⟨[], false, rfl, rfl⟩, o0⟩
  by_cases h1 : cl = 34
  case neg =>
    rw [hc, if_neg (fun h => h1 h.2)]
    have h0' : (c0.toNat : Int) = 34 := by rw [h0]; rfl
    have h1' : ¬ (cl.toNat : Int) = 34 := fun e => h1 (UInt8.toNat_inj.1 (by show cl.toNat = 34; omega))
    refine StillVC.run (StillVC.lenS rfl str9 ?_)
    refine Br.dec (fun hc => absurd hc (by omega)) (fun c36 => ?_)
    refine StillVC.run (StillVC.strIdx rfl rfl str9 (by omega) (by assumption) ?_)
    refine Br.ndec (fun hc => absurd (by first | omega | assumption | decide | exact rfl) hc) (fun c38 => ?_)
    refine StillVC.run (StillVC.lenS rfl str9 ?_)
    refine Ar.i64 (by omega) (by omega) ?_
    refine StillVC.run (StillVC.strIdx rfl rfl str9 (by omega) (by assumption) ?_)
    refine Br.ndec (fun c41 => ?_) (fun hc => absurd hc (by first | omega | assumption | decide | exact rfl))
    refine RetVC.two rfl ?_
    exact ⟨⟨[], false, rfl, rfl⟩, o0⟩
  rw [hc, if_pos ⟨h0, h1⟩]
  have h0' : (c0.toNat : Int) = 34 := by rw [h0]; rfl
  have h1' : (cl.toNat : Int) = 34 := by rw [h1]; rfl
  refine StillVC.run (StillVC.lenS rfl str9 ?_)
  refine Br.dec (fun hc => absurd hc (by omega)) (fun c41 => ?_)
  refine StillVC.run (StillVC.strIdx rfl rfl str9 (by omega) (by assumption) ?_)
  refine Br.ndec (fun hc => absurd (by first | omega | assumption | decide | exact rfl) hc) (fun c43 => ?_)
  refine StillVC.run (StillVC.lenS rfl str9 ?_)
  refine Ar.i64 (by omega) (by omega) ?_
  refine StillVC.run (StillVC.strIdx rfl rfl str9 (by omega) (by assumption) ?_)
  refine Br.ndec (fun hc => absurd (by first | omega | assumption | decide | exact rfl) hc) (fun c46 => ?_)
  refine StillVC.run (StillVC.lenS rfl str9 ?_)
  refine Ar.i64 (by omega) (by omega) ?_
  refine StillVC.run (StillVC.sliceS str9 rfl ⟨_, rfl⟩ ⟨_, rfl⟩ (by omega) (by omega) (by omega) ?_)
  (refine RunVC.alloc o0 ty71 ?_; intro b49 m49 o49)
  (refine RunVC.strBytes o49 str9 sl69 int5 rfl ?_; intro v50 m50 o50)
  refine StillVC.run (StillVC.lenA (o50.roArr 1 rfl) sl69 ?_)
  rw [hin] at o50 ⊢
  have o60 := o50.nilRow 5 1
  clear o50
  refine LoopVC.intro [2, 3, 6, 8, 33, 34, 35, 36, 37, 38, 39, 40, 41, 42, 43, 44, 45, 46, 47, 48, 49, 50, 51, 52, 53, 54, 55, 56, 57, 58, 59, 60] [6, 33] (fun vs hh => ∃ (i : Nat) (esc : Bool) (out : List UInt8) (p v : Value), i ≤ u.length ∧ out.length ≤ i ∧ contF u false = (contF (u.drop i) esc).map (out ++ ·) ∧ vs = [.bool esc, .int .i64 i] ∧ (p = .pointer none ∨ p = .pointer (some ⟨b49, 0, none⟩)) ∧ Own h [box b49 [p, v] 71, ro v50 (bytes u), row v 5 1 out.length (bytes out)] hh) (fun vs _ => match vs with | [_, .int _ i] => u.length - i.toNat | _ => 0) ?_ ?_
  · exact ⟨0, false, [], _, _, by omega, by simp, by simp, rfl, .inl rfl, o60⟩
  · rintro vs junk hh ⟨i, esc, out, p, v, hi, hoi, hcf, rfl, hp, oh⟩
    by_cases hlt : i < u.length
    · obtain ⟨c, hcu⟩ := getx hlt
      have hd : u.drop i = c :: u.drop (i + 1) := by
        have hcu' := hcu
        rw [List.getElem?_eq_getElem hlt] at hcu'
        rw [← Option.some.inj hcu']
        exact (List.getElem_cons_drop hlt).symm
      rw [hd] at hcf
      have hlt' : (i : Int) < (bytes u).length := by simp; omega
      cases esc with
      | true =>
        by_cases c110 : c = 110
        · subst c110
          refine Br.dec (fun c60 => ?_) (fun hc => absurd (by omega) hc)
          refine StillVC.run (StillVC.idx sl69 ty5 (oh.roArr 1 rfl) rfl (by omega) (by omega) ?_)
          refine StillVC.run (StillVC.loadM (oh.roArr 1 rfl) ty5 rfl (by first | assumption | rfl) ?_)
          refine Br.tt ?_
          refine Br.tt ?_
          refine CallVC.ret (writeByte_spec b49 p v out.length out 10 _ _ hp (Own.lend (by assumption) [0, 2] [1] rfl) (by omega)) ?_
          rintro _ m62 ⟨rfl, v', ow⟩
          have ox := ow.back.sel [0, 2, 1] rfl
          clear ow
          refine Ar.i64 (by omega) (by omega) ?_
          refine ⟨rfl, ?_⟩
          refine ⟨⟨i + 1, false, out ++ [10], _, v', by omega, by simp; omega, cont_esc rfl hcf, rfl, .inr rfl, ?_⟩, by simp; omega⟩
          rw [List.length_append]
          exact ox
        by_cases c34 : c = 34
        · subst c34
          refine Br.dec (fun c65 => ?_) (fun hc => absurd (by omega) hc)
          refine StillVC.run (StillVC.idx sl69 ty5 (oh.roArr 1 rfl) rfl (by omega) (by omega) ?_)
          refine StillVC.run (StillVC.loadM (oh.roArr 1 rfl) ty5 rfl (by first | assumption | rfl) ?_)
          refine Br.tt ?_
          refine Br.ff ?_
          refine Br.tt ?_
          refine Br.tt ?_
          refine CallVC.ret (writeByte_spec b49 p v out.length out 34 _ _ hp (Own.lend (by assumption) [0, 2] [1] rfl) (by omega)) ?_
          rintro _ m67 ⟨rfl, v', ow⟩
          have ox := ow.back.sel [0, 2, 1] rfl
          clear ow
          refine Ar.i64 (by omega) (by omega) ?_
          refine ⟨rfl, ?_⟩
          refine ⟨⟨i + 1, false, out ++ [34], _, v', by omega, by simp; omega, cont_esc rfl hcf, rfl, .inr rfl, ?_⟩, by simp; omega⟩
          rw [List.length_append]
          exact ox
        by_cases c92 : c = 92
        · subst c92
          refine Br.dec (fun c70 => ?_) (fun hc => absurd (by omega) hc)
          refine StillVC.run (StillVC.idx sl69 ty5 (oh.roArr 1 rfl) rfl (by omega) (by omega) ?_)
          refine StillVC.run (StillVC.loadM (oh.roArr 1 rfl) ty5 rfl (by first | assumption | rfl) ?_)
          refine Br.tt ?_
          refine Br.ff ?_
          refine Br.ff ?_
          refine Br.tt ?_
          refine CallVC.ret (writeByte_spec b49 p v out.length out 92 _ _ hp (Own.lend (by assumption) [0, 2] [1] rfl) (by omega)) ?_
          rintro _ m72 ⟨rfl, v', ow⟩
          have ox := ow.back.sel [0, 2, 1] rfl
          clear ow
          refine Ar.i64 (by omega) (by omega) ?_
          refine ⟨rfl, ?_⟩
          refine ⟨⟨i + 1, false, out ++ [92], _, v', by omega, by simp; omega, cont_esc rfl hcf, rfl, .inr rfl, ?_⟩, by simp; omega⟩
          rw [List.length_append]
          exact ox
        have n110 : ¬ (c.toNat : Int) = 110 := fun e => c110 (UInt8.toNat_inj.1 (by show c.toNat = 110; omega))
        have n34 : ¬ (c.toNat : Int) = 34 := fun e => c34 (UInt8.toNat_inj.1 (by show c.toNat = 34; omega))
        have n92 : ¬ (c.toNat : Int) = 92 := fun e => c92 (UInt8.toNat_inj.1 (by show c.toNat = 92; omega))
        refine Br.dec (fun c75 => ?_) (fun hc => absurd (by omega) hc)
        refine StillVC.run (StillVC.idx sl69 ty5 (oh.roArr 1 rfl) rfl (by omega) (by omega) ?_)
        refine StillVC.run (StillVC.loadM (oh.roArr 1 rfl) ty5 rfl (by first | assumption | rfl) ?_)
        refine Br.tt ?_
        refine Br.dec (fun hc => absurd hc (by omega)) (fun c78 => ?_)
        refine Br.dec (fun hc => absurd hc (by omega)) (fun c79 => ?_)
        refine Br.dec (fun hc => absurd hc (by omega)) (fun c80 => ?_)
        refine RetVC.two rfl ?_
        exact ⟨⟨[], false, rfl, cont_bad (by unfold escC; simp [c110, c34, c92]) hcf⟩, Own.sel (by assumption) [] rfl⟩
      | false =>
        by_cases c92 : c = 92
        · subst c92
          refine Br.dec (fun c80 => ?_) (fun hc => absurd (by omega) hc)
          refine StillVC.run (StillVC.idx sl69 ty5 (oh.roArr 1 rfl) rfl (by omega) (by omega) ?_)
          refine StillVC.run (StillVC.loadM (oh.roArr 1 rfl) ty5 rfl (by first | assumption | rfl) ?_)
          refine Br.ff ?_
          refine Br.tt ?_
          refine Ar.i64 (by omega) (by omega) ?_
          refine ⟨rfl, ?_⟩
          exact ⟨⟨i + 1, true, out, p, v, by omega, by omega, cont_back hcf, rfl, hp, oh⟩, by simp; omega⟩
        have n92 : ¬ (c.toNat : Int) = 92 := fun e => c92 (UInt8.toNat_inj.1 (by show c.toNat = 92; omega))
        by_cases cb : c = 34 ∨ c = 10
        · have hno := cont_no c92 cb hcf
          rcases cb with rfl | rfl
          · refine Br.dec (fun c85 => ?_) (fun hc => absurd (by omega) hc)
            refine StillVC.run (StillVC.idx sl69 ty5 (oh.roArr 1 rfl) rfl (by omega) (by omega) ?_)
            refine StillVC.run (StillVC.loadM (oh.roArr 1 rfl) ty5 rfl (by first | assumption | rfl) ?_)
            refine Br.ff ?_
            refine Br.ff ?_
            refine Br.tt ?_
            refine Br.tt ?_
            refine RetVC.two rfl ?_
            exact ⟨⟨[], false, rfl, hno⟩, Own.sel (by assumption) [] rfl⟩
          · refine Br.dec (fun c90 => ?_) (fun hc => absurd (by omega) hc)
            refine StillVC.run (StillVC.idx sl69 ty5 (oh.roArr 1 rfl) rfl (by omega) (by omega) ?_)
            refine StillVC.run (StillVC.loadM (oh.roArr 1 rfl) ty5 rfl (by first | assumption | rfl) ?_)
            refine Br.ff ?_
            refine Br.ff ?_
            refine Br.ff ?_
            refine Br.tt ?_
            refine RetVC.two rfl ?_
            exact ⟨⟨[], false, rfl, hno⟩, Own.sel (by assumption) [] rfl⟩
        have n34 : ¬ (c.toNat : Int) = 34 := fun e => cb (.inl (UInt8.toNat_inj.1 (by show c.toNat = 34; omega)))
        have n10 : ¬ (c.toNat : Int) = 10 := fun e => cb (.inr (UInt8.toNat_inj.1 (by show c.toNat = 10; omega)))
        refine Br.dec (fun c95 => ?_) (fun hc => absurd (by omega) hc)
        refine StillVC.run (StillVC.idx sl69 ty5 (oh.roArr 1 rfl) rfl (by omega) (by omega) ?_)
        refine StillVC.run (StillVC.loadM (oh.roArr 1 rfl) ty5 rfl (by first | assumption | rfl) ?_)
        refine Br.ff ?_
        refine Br.dec (fun hc => absurd hc (by omega)) (fun c98 => ?_)
        refine Br.dec (fun hc => absurd hc (by omega)) (fun c99 => ?_)
        refine Br.dec (fun hc => absurd hc (by omega)) (fun c100 => ?_)
        refine CallVC.ret (writeByte_spec b49 p v out.length out c _ _ hp (Own.lend (by assumption) [0, 2] [1] rfl) (by omega)) ?_
        rintro _ m97 ⟨rfl, v', ow⟩
        have ox := ow.back.sel [0, 2, 1] rfl
        clear ow
        refine Ar.i64 (by omega) (by omega) ?_
        refine ⟨rfl, ?_⟩
        refine ⟨⟨i + 1, false, out ++ [c], _, v', by omega, by simp; omega, cont_plain c92 cb hcf, rfl, .inr rfl, ?_⟩, by simp; omega⟩
        rw [List.length_append]
        exact ox
    · have hge : ¬ (i : Int) < (bytes u).length := by simp; omega
      have hdn : u.drop i = [] := by simp; omega
      rw [hdn] at hcf
      refine Br.dec (fun hc => absurd hc (by omega)) (fun c100 => ?_)
      refine CallVC.ret (string_spec b49 p v out.length out _ h hp (Own.sel (by assumption) [0, 2] rfl)) ?_
      rintro _ m102 ⟨rfl, ow⟩
      refine RetVC.two rfl ?_
      refine ⟨⟨out, !esc, by first | rfl | simp, ?_⟩, ow⟩
      rw [hcf]
      cases esc <;> simp [contF]

end Go.Proofs.YtffpaippmfafjaaGreatDoor
