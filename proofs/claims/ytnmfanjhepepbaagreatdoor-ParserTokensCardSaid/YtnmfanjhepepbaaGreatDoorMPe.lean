/-
  Queries. The parser's items. Parse: how it ends behind its deferred closure. Parse.
-/
import Derived.Test.YtnmfanjhepepbaaGreatDoorStructs
import Derived.Test.YtnmfanjhepepbaaGreatDoorMEc
import Derived.Test.YtnmfanjhepepbaaGreatDoorVcMap
import Derived.Test.YtnmfanjhepepbaaGreatDoorMPd
import Derived.Test.YtnmfanjhepepbaaGreatDoorMLex
import Derived.Test.YtnmfanjhepepbaaGreatDoorVcDrawP
set_option linter.all false
/- Queries. -/
namespace Go.Proofs.YtnmfanjhepepbaaGreatDoor
open Go

set_option maxHeartbeats 8000000 in
set_option maxRecDepth 100000 in
theorem query_part (kd : Int) (nm : List UInt8) (off : Nat) (B : Base) (bp z : Nat) (tk : Item) (bx : Nat) (w : Value) (ts : List Tok) (h : Heap) (o : Own B [box bp [w, .int .i64 z] 68, tk, box bx (it0C kd nm off) 51] h) (hR : TokR tk w ts) (hl : ts.length ≤ 5000) :
    Spec Tryz.prog 40 [.pointer (some ⟨bp, 0, none⟩), .pointer (some ⟨bx, 0, none⟩)] h (PartEnd B bp z tk bx ts.length (queryP z (x0 kd nm off) ts)) := by
  have hE := congrFun (queryP.eq_1 z (x0 kd nm off)) ts
  unfold it0C at o
  refine Spec.enter Tryz.func40 rfl Tryz.ntmps40 (by kernel_rfl) ?_
  (refine RunVC.lit o sl42 ty9 rfl rfl (by decide) (And.intro rfl ?_); intro b10 m10 o10)
  refine pneed_call (ss := [[61]]) (by assumption) rfl (by first | exact ⟨2, by decide, rfl⟩ | exact ⟨3, by decide, rfl⟩ | exact ⟨4, by decide, rfl⟩ | exact ⟨5, by decide, rfl⟩ | exact ⟨6, by decide, rfl⟩ | exact ⟨7, by decide, rfl⟩ | exact ⟨8, by decide, rfl⟩ | exact ⟨9, by decide, rfl⟩) hR (by omega) (by decide) (fun _ q1 w1 v h1 hm hv hle1 hR1 oq => ?_) (fun e w' h' hm o2 => ⟨e, w', hE.trans (PM.bind_err hm), rfl, o2⟩)
  subst hv
  rw [PM.bind_ok hm] at hE
  have o1 := oq
  simp only [PSt, pick, List.cons_append, List.nil_append, List.getElem?_cons_succ, List.getElem?_cons_zero, List.getElem?_nil] at o1
  clear oq hm
  refine PEndI.callL (fun B' o' => expr_spec 12 (Nat.le_refl _) 1 (by omega) B' bp z tk _ _ _ o' hR1 (by omega)) (by assumption) rfl (fun x q wq v I h' hm hv hle hR' oq => ?_) (fun e w' h' hm o2 => ⟨e, w', hE.trans (PM.bind_err hm), rfl, o2⟩)
  obtain ⟨⟨c, hc⟩, rfl, hx⟩ := hv
  rw [PM.bind_ok hm] at hE
  have o9 := oq
  simp only [PSt, pick, List.cons_append, List.nil_append, List.getElem?_cons_succ, List.getElem?_cons_zero, List.getElem?_nil] at o9
  clear oq hm
  obtain ⟨kind, table, kids, conds, names, attr, as_, agg, eo⟩ := x
  simp only [exR] at hx
  have hx0 := hx
  obtain ⟨vk, vc, vn, rfl, h2, h3, xs, h4, h5⟩ := hx
  obtain ⟨a1, b1, rfl⟩ := h2.isS (Own.satK o9 2 rfl)
  obtain ⟨a2, b2, rfl⟩ := h3.isS (Own.satK o9 2 rfl)
  obtain ⟨a3, b3, rfl⟩ := h4.isS (Own.satK o9 2 rfl)
  unfold exC at hx0 hc
  refine StillVC.run (StillVC.nilCheck rfl ?_)
  refine StillVC.run (StillVC.fieldAddr st51 rfl rfl rfl ?_)
  (refine RunVC.store o9 3 rfl ty49 rfl (by simp) (And.intro ⟨rfl, rfl⟩ ?_); intro m32 o32)
  refine RetVC.zero rfl ?_
  exact ⟨_, q, wq, _, I, hE, rfl, ⟨_, _, _, _, _, _, _, _, _, _, _, _, _, _, _, rfl, nil_reads, nil_reads, nil_reads, nil_reads, nil_reads, nil_reads, by simp only [exR]; exact hx0⟩, by omega, hR', Own.sel (by assumption) [0, 1, 3, 2] rfl⟩

end Go.Proofs.YtnmfanjhepepbaaGreatDoor

/- The parser's items. -/
namespace Go.Proofs.YtnmfanjhepepbaaGreatDoor
open Go

/-- The program's key words lie in the heap. -/
def WordsH (h : Heap) : Prop := ∀ i, i < 10 → cellAt h ⟨0, i, none⟩ = (strs itWords)[i]?

theorem WordsH.ext {h h' : Heap} (w : WordsH h) (e : Ext h h') : WordsH h' := fun i hi => by
  have h1 : (strs itWords)[i]? = some ((strs itWords)[i]'(by have : (strs itWords).length = 10 := rfl; omega)) := by simp
  rw [h1]
  exact e.cell ((w i hi).trans h1)

theorem WordsH.keep {B : Base} (w : WordsH B.h) : KeepS B (.slice (some ⟨0, 0, none⟩) 10 10) itWords := fun L h o =>
  ⟨_, _, rfl, Nat.le_refl _, .inr ⟨_, 0, rfl, fun i hi => by rw [Nat.zero_add]; exact (w.ext o.ext) i hi⟩⟩

theorem wordP_pos : ∀ (z : Nat) (ss : List (List UInt8)) (i : Int) {ts r : List Tok} {k : Int}, wordP z ss i ts = .ok (k, r) → i ≤ k ∧ k < i + ss.length ∧ r.length < ts.length
  | z, [], i, ts, r, k, h => by cases h
  | z, s :: ss, i, ts, r, k, h => by
    unfold wordP at h
    cases hq : takeB s ts with
    | error e => exact absurd hq (takeB_ok _ _ _)
    | ok x =>
      obtain ⟨b, q⟩ := x
      rw [PM.bind_ok hq] at h
      cases b with
      | true =>
        cases h
        have := takeB_lt hq
        simp only [List.length_cons]
        omega
      | false =>
        have := takeB_same hq
        subst this
        have := wordP_pos z ss (i + 1) h
        simp only [List.length_cons]
        omega

/-- The function that reads the part of an item. -/
def partF (k : Int) : FuncId :=
  if k = 1 then 31 else if k = 2 then 32 else if k = 3 then 33 else if k = 4 then 34 else if k = 5 then 35
  else if k = 6 then 36 else if k = 7 then 37 else if k = 8 then 38 else if k = 9 then 39 else 40

theorem part_spec (k : Int) (h1 : 1 ≤ k) (h2 : k < 11) (kd : Int) (nm : List UInt8) (off : Nat) (B : Base) (bp z : Nat) (tk : Item) (bx : Nat) (w : Value) (ts : List Tok) (h : Heap) (o : Own B [box bp [w, .int .i64 z] 68, tk, box bx (it0C kd nm off) 51] h) (hR : TokR tk w ts) (hl : ts.length ≤ 5000) :
    Spec Tryz.prog (partF k) [.pointer (some ⟨bp, 0, none⟩), .pointer (some ⟨bx, 0, none⟩)] h (PartEnd B bp z tk bx ts.length (partP z k (x0 kd nm off) ts)) := by
  rcases (by omega : k = 1 ∨ k = 2 ∨ k = 3 ∨ k = 4 ∨ k = 5 ∨ k = 6 ∨ k = 7 ∨ k = 8 ∨ k = 9 ∨ k = 10) with rfl | rfl | rfl | rfl | rfl | rfl | rfl | rfl | rfl | rfl
  · exact table_part kd nm off B bp z tk bx w ts h o hR hl
  · exact source_part kd nm off B bp z tk bx w ts h o hR hl
  · exact block_part kd nm off B bp z tk bx w ts h o hR hl
  · exact match_part kd nm off B bp z tk bx w ts h o hR hl
  · exact keep_part kd nm off B bp z tk bx w ts h o hR hl
  · exact unique_part kd nm off B bp z tk bx w ts h o hR hl
  · exact depend_part kd nm off B bp z tk bx w ts h o hR hl
  · exact include_part kd nm off B bp z tk bx w ts h o hR hl
  · exact deny_part kd nm off B bp z tk bx w ts h o hR hl
  · exact query_part kd nm off B bp z tk bx w ts h o hR hl

def mfn (bp g : Nat) : Value := .func (.func g) ⟨[.pointer (some ⟨bp, 0, none⟩)]⟩ ⟨[]⟩

/-- The map of the functions that read the parts. -/
def partsM (bp : Nat) : List MapEntry := [⟨.int .i64 1, mfn bp 31, 0⟩, ⟨.int .i64 2, mfn bp 32, 1⟩, ⟨.int .i64 3, mfn bp 33, 2⟩,
  ⟨.int .i64 4, mfn bp 34, 3⟩, ⟨.int .i64 5, mfn bp 35, 4⟩, ⟨.int .i64 6, mfn bp 36, 5⟩, ⟨.int .i64 7, mfn bp 37, 6⟩,
  ⟨.int .i64 8, mfn bp 38, 7⟩, ⟨.int .i64 9, mfn bp 39, 8⟩, ⟨.int .i64 10, mfn bp 40, 9⟩]

theorem partsM_find (bp : Nat) (k : Int) (h1 : 1 ≤ k) (h2 : k < 11) : ∃ i, Instr.findNow (.int .i64) (.int .i64 k) (partsM bp) 0 = some (some (i, mfn bp (partF k))) := by
  rcases (by omega : k = 1 ∨ k = 2 ∨ k = 3 ∨ k = 4 ∨ k = 5 ∨ k = 6 ∨ k = 7 ∨ k = 8 ∨ k = 9 ∨ k = 10) with rfl | rfl | rfl | rfl | rfl | rfl | rfl | rfl | rfl | rfl
  all_goals exact ⟨_, rfl⟩

def itV (x : It) (v : Value) (I : Item) : Prop := ∃ c, v = .agg ⟨c⟩ ∧ itR I c x

theorem itemP_eq (z : Nat) (t : Tok) (r : List Tok) : itemP z (t :: r) = (wordP z itWords 1 >>= fun k => ifP (k != 5) (nameP z) [] >>= fun nm => partP z k (x0 k nm t.off) >>= fun x => (if k = 4 then needP z [[125]] else needP z [[59]]) >>= fun _ => (pure x : PM It)) (t :: r) := by
  refine congrFun (congrArg (fun f => wordP z itWords 1 >>= f) (funext fun k => congrArg (fun f => ifP (k != 5) (nameP z) [] >>= f) (funext fun nm => congrArg (fun f => partP z k (x0 k nm t.off) >>= f) (funext fun x => ?_)))) _
  by_cases hk : k = 4
  · simp only [if_pos hk]
  · simp only [if_neg hk]

theorem pwordK_call {ss : List (List UInt8)} {vs : Value} {s : List Value} {h : Heap} {K : KK} {Q : QQ} {B : Base} {L : List Item} {bp z : Nat} {tk : Item} {w : Value} {ts : List Tok}
    (o : Own B L h) (e : pick L [0, 1] = PSt bp z w tk) (hk : KeepS ⟨B.h, rest8 L ++ B.T⟩ vs ss) (hR : TokR tk w ts) (hl : ts.length ≤ 5000) (hsl : ss.length ≤ 100)
    (hret : ∀ a r w' v h', wordP z ss 1 ts = .ok (a, r) → v = .int .i64 a → r.length ≤ ts.length → TokR tk w' r → Own B (PSt bp z w' tk ++ rest8 L) h' → K v false h')
    (hpan : ∀ e w' h', wordP z ss 1 ts = .error e → Own B (PSt bp z w' tk) h' → Q (.panic (failC e)) s h') : CallVC Tryz.prog 29 [.pointer (some ⟨bp, 0, none⟩), vs] s h K Q := by
  have ol := o.lend [0, 1] [2, 3, 4, 5, 6, 7, 8, 9] rfl
  rw [e] at ol
  exact PEnd.call (pword_spec ss _ _ bp z tk w ts h hk ol hR hl hsl) (fun a r w' v h' h1 h2 h3 h4 h5 => hret a r w' v h' h1 h2 h3 h4 h5.back) (fun e w' h' h1 h2 => hpan e w' h' h1 (h2.back.sel [0, 1] rfl))

theorem PartEnd.callL {g : FuncId} {args : List Value} {s : List Value} {h : Heap} {K : KK} {Q : QQ} {B : Base} {L X : List Item} {bp z : Nat} {tk : Item} {bx n : Nat} {res : Except (Int × Nat) (It × List Tok)}
    (sp : ∀ B' : Base, Own B' X h → Spec Tryz.prog g args h (PartEnd B' bp z tk bx n res)) (o : Own B L h) (ks js : List Nat) (hd : dst (ks ++ js) = true) (e : pick L ks = X)
    (hret : ∀ x r w' c I h', res = .ok (x, r) → itR I c x → r.length ≤ n → TokR tk w' r → Own B ([box bp [w', .int .i64 z] 68, tk, box bx c 51, I] ++ pick L js) h' → K (.tuple ⟨[]⟩) false h')
    (hpan : ∀ e w' h', res = .error e → Own B (PSt bp z w' tk) h' → Q (.panic (failC e)) s h') : CallVC Tryz.prog g args s h K Q := by
  have ol := o.lend ks js hd
  rw [e] at ol
  exact CallVC.ends (sp _ ol) (fun v h' ⟨x, r, w', c, I, h1, h2, h3, h4, h5, h6⟩ => by subst h2; exact hret x r w' c I h' h1 h3 h4 h5 h6.back) (fun c h' ⟨e, w', h1, h2, h3⟩ => by subst h2; exact hpan e w' h' h1 (h3.back.sel [0, 1] rfl))

set_option maxHeartbeats 8000000 in
set_option maxRecDepth 100000 in
theorem item_spec (t0 : Tok) (r0 : List Tok) (B : Base) (bp z : Nat) (tk : Item) (w : Value) (h : Heap) (hW : WordsH B.h) (o : Own B (PSt bp z w tk) h) (hR : TokR tk w (t0 :: r0)) (hl : (t0 :: r0).length ≤ 5000) :
    Spec Tryz.prog 16 [.pointer (some ⟨bp, 0, none⟩)] h (PEndI B bp z tk (t0 :: r0).length (itemP z (t0 :: r0)) itV) := by
  have hE := itemP_eq z t0 r0
  have hx : (t0 :: r0)[0]? = some t0 := rfl
  have hln : (t0 :: r0).length = r0.length + 1 := rfl
  obtain ⟨hRd, hK⟩ := hR
  have hR : TokR tk w (t0 :: r0) := ⟨hRd, hK⟩
  refine Spec.enter Tryz.func16 rfl Tryz.ntmps16 (by kernel_rfl) ?_
  (refine RunVC.alloc o ty51 ?_; intro b10 m10 o10)
  refine StillVC.run (StillVC.nilCheck rfl ?_)
  refine StillVC.run (StillVC.fieldAddr st68 rfl rfl rfl ?_)
  refine StillVC.run (StillVC.loadO o10 0 rfl ty31 rfl rfl ?_)
  refine StillVC.run (StillVC.idxN sl31 ty38 (o10.reads 1 hRd rfl) rfl (by omega) (by omega) ?_)
  refine StillVC.run (StillVC.fieldAdr (o10.reads 1 hRd rfl) (by omega) st38 rfl rfl rfl ?_)
  refine StillVC.run (StillVC.loadFF (o10.reads 1 hRd rfl) ty3 (fun _ => rfl) rfl (by assumption) rfl ?_)
  refine StillVC.run (StillVC.buildK st51 ?_)
  refine And.intro rfl ?_
  (refine RunVC.alloc o10 ty51 ?_; intro b18 m18 o18)
  (refine RunVC.storeL o18 3 rfl ty51 rfl (by decide) (And.intro ⟨rfl, rfl⟩ ?_); intro m19 o19)
  refine RunVC.sliceG arr88.1 ty9 rfl ?_
  refine pwordK_call (by assumption) rfl (WordsH.keep hW) hR hl (by decide) (fun k q1 w1 v h1 hm hv hle1 hR1 oq => ?_) (fun e w' h' hm o2 => ⟨e, w', hE.trans (PM.bind_err hm), rfl, o2⟩)
  subst hv
  rw [PM.bind_ok hm] at hE
  obtain ⟨hk1, hk2, hk3⟩ := wordP_pos _ _ _ hm
  have hk2 : k < 11 := by have : itWords.length = 10 := rfl; omega
  have o1 := oq
  simp only [PSt, pick, List.cons_append, List.nil_append, List.getElem?_cons_succ, List.getElem?_cons_zero, List.getElem?_nil] at o1
  clear oq hm
  refine StillVC.run (StillVC.fieldAddr st51 rfl rfl rfl ?_)
  (refine RunVC.store o1 3 rfl ty3 rfl (by simp) (And.intro ⟨rfl, rfl⟩ ?_); intro m31 o31)
  refine StillVC.run (StillVC.fieldAddr st51 rfl rfl rfl ?_)
  refine StillVC.run (StillVC.loadO o31 3 rfl ty3 rfl rfl ?_)
  refine Br.join [20, 21, 22] [] (fun _ hh => ∃ (nm : List UInt8) (q2 : List Tok) (w2 : Value), ifP (k != 5) (nameP z) [] q1 = .ok (nm, q2) ∧ q2.length ≤ q1.length ∧ TokR tk w2 q2 ∧ Own B [box bp [w2, .int .i64 z] 68, tk, box b10 (it0C 0 [] 0) 51, box b18 (it0C k nm t0.off) 51] hh) rfl rfl ?_ ?_
  · by_cases h5 : k = 5
    · refine Br.ndec (fun hc => absurd (by first | omega | assumption | decide | exact rfl) hc) (fun c40 => ?_)
      refine ⟨rfl, ?_⟩
      exact ⟨[], q1, w1, by rw [ifP_no (by simp [h5])]; rfl, Nat.le_refl _, hR1, Own.sel (by assumption) [0, 1, 2, 3] rfl⟩
    · refine Br.ndec (fun c50 => ?_) (fun hc => absurd hc (by first | omega | assumption | decide | exact rfl))
      refine pname_spec.callL (by assumption) rfl hR1 (by omega) (fun nm q2 w2 v h2 hm hv hle2 hR2 oq => ?_) (fun e w' h' hm o2 => ⟨e, w', hE.trans (PM.bind_err (by rw [ifP_yes (by simp [h5])]; exact hm)), rfl, o2⟩)
      subst hv
      have o2 := oq
      simp only [PSt, pick, List.cons_append, List.nil_append, List.getElem?_cons_succ, List.getElem?_cons_zero, List.getElem?_nil] at o2
      clear oq
      refine StillVC.run (StillVC.fieldAddr st51 rfl rfl rfl ?_)
      (refine RunVC.store o2 3 rfl ty9 rfl (by simp) (And.intro ⟨rfl, rfl⟩ ?_); intro m61 o61)
      refine ⟨rfl, ?_⟩
      exact ⟨nm, q2, w2, by rw [ifP_yes (by simp [h5])]; exact hm, hle2, hR2, Own.sel (by assumption) [0, 1, 2, 3] rfl⟩
  · rintro _ junk h3 ⟨nm, q2, w2, hm, hle2, hR2, o3⟩
    rw [PM.bind_ok hm] at hE
    unfold it0C at o3
    (refine RunVC.makeMap (by assumption) ?_; intro rm mI oI)
    refine StillVC.run (StillVC.makeFn ?_)
    (refine RunVC.insert (by assumption) 4 rfl Tryz.underlying91 Tryz.underlying3 rfl rfl rfl ?_; intro mI oI)
    refine StillVC.run (StillVC.makeFn ?_)
    (refine RunVC.insert (by assumption) 4 rfl Tryz.underlying91 Tryz.underlying3 rfl rfl rfl ?_; intro mI oI)
    refine StillVC.run (StillVC.makeFn ?_)
    (refine RunVC.insert (by assumption) 4 rfl Tryz.underlying91 Tryz.underlying3 rfl rfl rfl ?_; intro mI oI)
    refine StillVC.run (StillVC.makeFn ?_)
    (refine RunVC.insert (by assumption) 4 rfl Tryz.underlying91 Tryz.underlying3 rfl rfl rfl ?_; intro mI oI)
    refine StillVC.run (StillVC.makeFn ?_)
    (refine RunVC.insert (by assumption) 4 rfl Tryz.underlying91 Tryz.underlying3 rfl rfl rfl ?_; intro mI oI)
    refine StillVC.run (StillVC.makeFn ?_)
    (refine RunVC.insert (by assumption) 4 rfl Tryz.underlying91 Tryz.underlying3 rfl rfl rfl ?_; intro mI oI)
    refine StillVC.run (StillVC.makeFn ?_)
    (refine RunVC.insert (by assumption) 4 rfl Tryz.underlying91 Tryz.underlying3 rfl rfl rfl ?_; intro mI oI)
    refine StillVC.run (StillVC.makeFn ?_)
    (refine RunVC.insert (by assumption) 4 rfl Tryz.underlying91 Tryz.underlying3 rfl rfl rfl ?_; intro mI oI)
    refine StillVC.run (StillVC.makeFn ?_)
    (refine RunVC.insert (by assumption) 4 rfl Tryz.underlying91 Tryz.underlying3 rfl rfl rfl ?_; intro mI oI)
    refine StillVC.run (StillVC.makeFn ?_)
    (refine RunVC.insert (by assumption) 4 rfl Tryz.underlying91 Tryz.underlying3 rfl rfl rfl ?_; intro mI oI)
    refine RegVC.plain ?_
    refine StillVC.run (StillVC.fieldAddr st51 rfl rfl rfl ?_)
    refine StillVC.run (StillVC.loadO oI 3 rfl ty3 rfl rfl ?_)
    obtain ⟨i, hf⟩ := partsM_find bp k hk1 hk2
    refine RunVC.lookup (by assumption) 4 rfl Tryz.underlying91 Tryz.underlying3 rfl rfl hf ?_
    refine PartEnd.callL (fun B' o' => part_spec k hk1 hk2 k nm t0.off B' bp z tk b18 w2 q2 _ o' hR2 (by omega)) (by assumption) [0, 1, 3] [2] rfl rfl (fun x q3 w3 c I h4 hm hI hle3 hR3 oq => ?_) (fun e w' h' hm o2 => ⟨e, w', hE.trans (PM.bind_err hm), rfl, o2⟩)
    rw [PM.bind_ok hm] at hE
    have hkind : x.kind = k := (kept_part z k _ _ _ _ hm).1
    obtain ⟨vc, vn, vt, vf, vv, vd, e0, e1, e2, e3, e4, e5, e6, e7, e8, rfl, r1, r2, r3, r4, r5, r6, rx⟩ := hI
    unfold itC at oq
    have o4 := oq
    simp only [PSt, pick, List.cons_append, List.nil_append, List.getElem?_cons_succ, List.getElem?_cons_zero, List.getElem?_nil] at o4
    clear oq hm
    have hx0 := rx
    refine StillVC.run (StillVC.fieldAddr st51 rfl rfl rfl ?_)
    refine StillVC.run (StillVC.loadO o4 2 rfl ty3 rfl rfl ?_)
    obtain ⟨y1, z1, rfl⟩ := r1.isS (Own.satK o4 3 rfl)
    obtain ⟨y2, z2, rfl⟩ := r2.isS (Own.satK o4 3 rfl)
    obtain ⟨y3, z3, rfl⟩ := r3.isS (Own.satK o4 3 rfl)
    obtain ⟨y4, z4, rfl⟩ := r4.isS (Own.satK o4 3 rfl)
    obtain ⟨y5, z5, rfl⟩ := r5.isS (Own.satK o4 3 rfl)
    obtain ⟨y6, z6, rfl⟩ := r6.isS (Own.satK o4 3 rfl)
    have hx1 : ∃ q, q = x.expr := ⟨_, rfl⟩
    obtain ⟨xe, hxe⟩ := hx1
    rw [← hxe] at rx
    obtain ⟨xk, xt, xks, xcs, xns, xa, xs', xg, xo⟩ := xe
    simp only [exR] at rx
    obtain ⟨uk, uc, un, heq, u1, u2, us, u3, _⟩ := rx
    unfold exC at heq
    simp only [List.cons.injEq, and_true] at heq
    obtain ⟨rfl, rfl, rfl, rfl, rfl, rfl, rfl, rfl, rfl⟩ := heq
    obtain ⟨y7, z7, rfl⟩ := u1.isS (Own.satK o4 3 rfl)
    obtain ⟨y8, z8, rfl⟩ := u2.isS (Own.satK o4 3 rfl)
    obtain ⟨y9, z9, rfl⟩ := u3.isS (Own.satK o4 3 rfl)
    by_cases hk4 : k = 4
    · skip
      rw [if_pos hk4] at hE
      refine Br.dec (fun c300 => ?_) (fun hc => absurd (by omega) hc)
      (refine RunVC.lit o4 sl42 ty9 rfl rfl (by decide) (And.intro rfl ?_); intro b301 m301 o301)
      refine pneed_call (ss := [[125]]) (by assumption) rfl (by first | exact ⟨2, by decide, rfl⟩ | exact ⟨3, by decide, rfl⟩ | exact ⟨4, by decide, rfl⟩ | exact ⟨5, by decide, rfl⟩ | exact ⟨6, by decide, rfl⟩ | exact ⟨7, by decide, rfl⟩ | exact ⟨8, by decide, rfl⟩ | exact ⟨9, by decide, rfl⟩) hR3 (by omega) (by decide) (fun _ q4 w4 v h5 hm hv hle4 hR4 oq => ?_) (fun e w' h' hm o2 => ⟨e, w', hE.trans (PM.bind_err hm), rfl, o2⟩)
      subst hv
      rw [PM.bind_ok hm] at hE
      have o5 := oq
      simp only [PSt, pick, List.cons_append, List.nil_append, List.getElem?_cons_succ, List.getElem?_cons_zero, List.getElem?_nil] at o5
      clear oq hm
      refine StillVC.run (StillVC.loadON o5 2 rfl ty51 rfl rfl rfl ?_)
      (refine RunVC.storeL o5 4 rfl ty51 rfl (by decide) (And.intro ⟨rfl, rfl⟩ ?_); intro m321 o321)
      first | refine RetVC.cell2 rfl o321 4 rfl ty51 rfl rfl ?_ | refine RetVC.cell1 rfl o321 4 rfl ty51 rfl rfl ?_ | refine RetVC.cellTT rfl o321 4 rfl ty51 rfl rfl ?_
      exact ⟨x, q4, w4, I, hE, ⟨_, rfl, ⟨_, _, _, _, _, _, _, _, _, _, _, _, _, _, _, rfl, r1, r2, r3, r4, r5, r6, hx0⟩⟩, by omega, hR4, Own.sel (by assumption) [0, 1, 3] rfl⟩
    · skip
      rw [if_neg hk4] at hE
      refine Br.dec (fun hc => absurd hc (by omega)) (fun c400 => ?_)
      (refine RunVC.lit o4 sl42 ty9 rfl rfl (by decide) (And.intro rfl ?_); intro b401 m401 o401)
      refine pneed_call (ss := [[59]]) (by assumption) rfl (by first | exact ⟨2, by decide, rfl⟩ | exact ⟨3, by decide, rfl⟩ | exact ⟨4, by decide, rfl⟩ | exact ⟨5, by decide, rfl⟩ | exact ⟨6, by decide, rfl⟩ | exact ⟨7, by decide, rfl⟩ | exact ⟨8, by decide, rfl⟩ | exact ⟨9, by decide, rfl⟩) hR3 (by omega) (by decide) (fun _ q4 w4 v h5 hm hv hle4 hR4 oq => ?_) (fun e w' h' hm o2 => ⟨e, w', hE.trans (PM.bind_err hm), rfl, o2⟩)
      subst hv
      rw [PM.bind_ok hm] at hE
      have o5 := oq
      simp only [PSt, pick, List.cons_append, List.nil_append, List.getElem?_cons_succ, List.getElem?_cons_zero, List.getElem?_nil] at o5
      clear oq hm
      refine StillVC.run (StillVC.loadON o5 2 rfl ty51 rfl rfl rfl ?_)
      (refine RunVC.storeL o5 4 rfl ty51 rfl (by decide) (And.intro ⟨rfl, rfl⟩ ?_); intro m421 o421)
      first | refine RetVC.cell2 rfl o421 4 rfl ty51 rfl rfl ?_ | refine RetVC.cell1 rfl o421 4 rfl ty51 rfl rfl ?_ | refine RetVC.cellTT rfl o421 4 rfl ty51 rfl rfl ?_
      exact ⟨x, q4, w4, I, hE, ⟨_, rfl, ⟨_, _, _, _, _, _, _, _, _, _, _, _, _, _, _, rfl, r1, r2, r3, r4, r5, r6, hx0⟩⟩, by omega, hR4, Own.sel (by assumption) [0, 1, 3] rfl⟩

end Go.Proofs.YtnmfanjhepepbaaGreatDoor

/- Parse: how it ends behind its deferred closure. -/
namespace Go.Proofs.YtnmfanjhepepbaaGreatDoor
open Go

def recSlotsP (p q r v : Value) : List Value := [p, q, r, v, undef, undef, v, undef, undef, undef, undef, undef, undef, undef, undef, undef, undef, undef, undef, undef, undef, undef]

set_option maxRecDepth 100000 in
theorem parse_recovers (p q r : Value) : Recovers Tryz.prog (match Tryz.f14.body with | some (.seq (.region _ ops _) _) => ops | _ => #[]) ([p, q, r] ++ List.replicate (22 - [p, q, r].length) undef) (recSlotsP p q r) := by
  intro cs w Q hQ
  unfold wpOpsS
  simp [Tryz.f14, List.range, List.range.loop, wpOpsS, Region.wanted, yielded, execOp, resolve, invoke, builtin, act, Act.put]
  cases hrec : recoverD cs with
  | none => exact hQ _ _ (.inr ⟨hrec, rfl, rfl⟩)
  | some x => exact hQ _ _ (.inl hrec)

set_option maxRecDepth 100000 in
/-- No error: the results stay as they are. -/
theorem pleave_ok (s : List Value) (h : Heap) (R : Ending → Heap → Prop) (p q r : Value)
    (hr : RetVC Tryz.prog Tryz.f8 s h fun v h => R (.returned v) h) :
    LeaveVC Tryz.prog Tryz.f8 ⟨.fn (.func 14) ⟨[p, q, r]⟩, #[]⟩ .returning s h R := by
  refine LeaveVC.recovers (f := recSlotsP p q r) .nilIface Tryz.func14 rfl (n := 22) (by kernel_rfl) (by kernel_rfl) rfl (.inl ⟨rfl, rfl⟩) (parse_recovers p q r) ?_
  refine StillVC.run (StillVC.neI ifc20 (by first | assumption | rfl) ?_)
  refine Br.ff ?_
  exact hr

set_option maxRecDepth 100000 in
/-- An error: the results are set. -/
theorem pleave_err (s : List Value) (h : Heap) (R : Ending → Heap → Prop) (B : Base) (b2 b3 b4 : Nat) (x y z : Value) (e : Int × Nat)
    (o0 : Own B [box b2 [x] 25, box b3 [y] 26, box b4 [z] 3] h)
    (h2 : sget s 2 = .pointer (some ⟨b2, 0, none⟩)) (h3 : sget s 3 = .pointer (some ⟨b3, 0, none⟩)) (h4 : sget s 4 = .pointer (some ⟨b4, 0, none⟩))
    (hR : ∀ h', Own B [] h' → R (.returned (.tuple ⟨[.agg ⟨[nilV]⟩, .int .i64 e.1, .int .i64 e.2]⟩)) h') :
    LeaveVC Tryz.prog Tryz.f8 ⟨.fn (.func 14) ⟨[.pointer (some ⟨b2, 0, none⟩), .pointer (some ⟨b3, 0, none⟩), .pointer (some ⟨b4, 0, none⟩)]⟩, #[]⟩ (.panicking (failC e)) s h R := by
  refine LeaveVC.recovers (f := recSlotsP (.pointer (some ⟨b2, 0, none⟩)) (.pointer (some ⟨b3, 0, none⟩)) (.pointer (some ⟨b4, 0, none⟩))) (.iface 64 (.agg ⟨[.int .i64 e.1, .int .i64 e.2]⟩)) Tryz.func14 rfl (n := 22) (by kernel_rfl) (by kernel_rfl) rfl (.inr rfl) (parse_recovers _ _ _) ?_
  refine StillVC.run (StillVC.neI ifc20 (by first | assumption | rfl) ?_)
  refine Br.tt ?_
  refine StillVC.run (StillVC.assertOk con64 rfl ?_)
  (refine RunVC.alloc o0 ty64 ?_; intro b12 m12 o12)
  (refine RunVC.storeL o12 3 rfl ty64 rfl (by decide) (And.intro ⟨rfl, rfl⟩ ?_); intro m13 o13)
  refine Br.ff ?_
  refine DrawVC.introB b12 [0, 1, 3] [2, 4] [7] [0, 1, 2, 3, 4, 5, 6, 7] mixed (by kernel_rfl) rfl (fun _ _ _ _ h => h) ?_
  refine StillVC.buildK st25 ?_
  refine StillVC.fieldAddr st64 rfl rfl rfl ?_
  refine StillVCA.load1 ty26 rfl rfl ((o13.cellB 3 rfl _).trans rfl) ?_
  refine StillVC.fieldAddr st64 rfl rfl rfl ?_
  refine StillVCA.load1 ty3 rfl rfl ((o13.cellB 3 rfl _).trans rfl) ?_
  (refine RunVC.store o13 0 rfl ty25 rfl (by simp) (And.intro ⟨rfl, rfl⟩ ?_); intro m25 o25)
  refine And.intro ((o25.boxBlk 3 rfl).trans (o13.boxBlk 3 rfl).symm) ?_
  (refine RunVC.store o25 1 rfl ty26 rfl (by simp) (And.intro ⟨rfl, rfl⟩ ?_); intro m26 o26)
  refine And.intro ((o26.boxBlk 3 rfl).trans (o25.boxBlk 3 rfl).symm) ?_
  (refine RunVC.store o26 2 rfl ty3 rfl (by simp) (And.intro ⟨rfl, rfl⟩ ?_); intro m27 o27)
  exact RetVC.cell3A rfl ty25 rfl ty26 ty3 h2 h3 h4 (o27.cellB 0 rfl 0) (o27.cellB 1 rfl 0) (o27.cellB 2 rfl 0) (hR _ (o27.sel [] rfl))

end Go.Proofs.YtnmfanjhepepbaaGreatDoor

/- Parse. -/
namespace Go.Proofs.YtnmfanjhepepbaaGreatDoor
open Go

def itsR (I : Item) : List (List Value) → List It → Prop
  | [], [] => True
  | c :: cs, x :: xs => itR I c x ∧ itsR I cs xs
  | _, _ => False

theorem itR.mono {I J : Item} (hm : ∀ h, J.sat h → I.sat h) {c : List Value} {x : It} (r : itR I c x) : itR J c x := by
  obtain ⟨vc, vn, vt, vf, vv, vd, e0, e1, e2, e3, e4, e5, e6, e7, e8, h, r1, r2, r3, r4, r5, r6, rx⟩ := r
  exact ⟨vc, vn, vt, vf, vv, vd, e0, e1, e2, e3, e4, e5, e6, e7, e8, h, r1.mono hm, r2.mono hm, r3.mono hm, r4.mono hm, r5.mono hm, r6.mono hm, rx.mono hm⟩

theorem itR.len {I : Item} {c : List Value} {x : It} (r : itR I c x) : c.length = 25 := by
  obtain ⟨vc, vn, vt, vf, vv, vd, e0, e1, e2, e3, e4, e5, e6, e7, e8, rfl, _⟩ := r
  rfl

theorem itR.one {I : Item} {h : Heap} (hI : I.sat h) {c : List Value} {x : It} (r : itR I c x) : ∀ u ∈ c, u.oneCell' = true := by
  obtain ⟨vc, vn, vt, vf, vv, vd, e0, e1, e2, e3, e4, e5, e6, e7, e8, rfl, r1, r2, r3, r4, r5, r6, rx⟩ := r
  obtain ⟨y1, z1, rfl⟩ := r1.isS hI
  obtain ⟨y2, z2, rfl⟩ := r2.isS hI
  obtain ⟨y3, z3, rfl⟩ := r3.isS hI
  obtain ⟨y4, z4, rfl⟩ := r4.isS hI
  obtain ⟨y5, z5, rfl⟩ := r5.isS hI
  obtain ⟨y6, z6, rfl⟩ := r6.isS hI
  have he := List.all_eq_true.1 (exR_one hI rx)
  intro u hu
  unfold itC at hu
  have e : [Value.int .i64 x.kind, .string ⟨⟨x.name⟩⟩, .int .i64 x.off, .string ⟨⟨x.table⟩⟩, .string ⟨⟨x.attr⟩⟩, .slice y1 x.cols.length z1, .slice y2 x.names.length z2, .int .i64 x.by_, .int .i64 x.n, .int .i64 x.m, .slice y3 x.terms.length z3, .string ⟨⟨x.other⟩⟩, .string ⟨⟨x.oattr⟩⟩, .slice y4 x.fixed.length z4, .slice y5 x.vars.length z5, .slice y6 x.conds.length z6, e0, e1, e2, e3, e4, e5, e6, e7, e8] = [Value.int .i64 x.kind, .string ⟨⟨x.name⟩⟩, .int .i64 x.off, .string ⟨⟨x.table⟩⟩, .string ⟨⟨x.attr⟩⟩, .slice y1 x.cols.length z1, .slice y2 x.names.length z2, .int .i64 x.by_, .int .i64 x.n, .int .i64 x.m, .slice y3 x.terms.length z3, .string ⟨⟨x.other⟩⟩, .string ⟨⟨x.oattr⟩⟩, .slice y4 x.fixed.length z4, .slice y5 x.vars.length z5, .slice y6 x.conds.length z6] ++ [e0, e1, e2, e3, e4, e5, e6, e7, e8] := rfl
  rw [e] at hu
  rcases List.mem_append.1 hu with hu | hu
  · have ha : ∀ (l : List Value), l.all (fun u => u.oneCell') = true → u ∈ l → u.oneCell' = true := fun l h k => List.all_eq_true.1 h u k
    exact ha _ rfl hu
  · exact he u hu

theorem itsR.mono {I J : Item} (hm : ∀ h, J.sat h → I.sat h) : ∀ {cs : List (List Value)} {xs : List It}, itsR I cs xs → itsR J cs xs
  | [], [], _ => trivial
  | _ :: _, _ :: _, h => ⟨h.1.mono hm, itsR.mono hm h.2⟩
  | [], _ :: _, h => h.elim
  | _ :: _, [], h => h.elim

theorem itsR.snoc {I : Item} : ∀ {cs : List (List Value)} {xs : List It} {c : List Value} {x : It}, itsR I cs xs → itR I c x → itsR I (cs ++ [c]) (xs ++ [x])
  | [], [], _, _, _, k => ⟨k, trivial⟩
  | _ :: _, _ :: _, _, _, h, k => ⟨h.1, itsR.snoc h.2 k⟩
  | [], _ :: _, _, _, h, _ => h.elim
  | _ :: _, [], _, _, h, _ => h.elim

/-- The items of a program in memory. -/
def progR (I : Item) (v : Value) (xs : List It) : Prop := ∃ cs, Reads I 25 v xs.length cs.flatten ∧ itsR I cs xs

/-- What Parse returns. -/
def ParsePost (h : Heap) (t : List UInt8) (v : Value) (h' : Heap) : Prop :=
  if 20000 < t.length then v = .tuple ⟨[.agg ⟨[nilV]⟩, .int .i64 3, .int .i64 (-1)]⟩ ∧ Own h [] h'
  else match parseM t with
    | .error (e, i) => v = .tuple ⟨[.agg ⟨[nilV]⟩, .int .i64 e, .int .i64 i]⟩ ∧ Own h [] h'
    | .ok xs => ∃ u I, v = .tuple ⟨[.agg ⟨[u]⟩, .int .i64 0, .int .i64 0]⟩ ∧ progR I u xs ∧ Own h [I] h'

theorem readR_num {l : List UInt8} {kd n : Int} {x : List UInt8} {len : Nat} (h : readR l = .tok kd x n len) : 0 ≤ n ∧ n ≤ 10000000000 := by
  cases l with
  | nil => cases h
  | cons c r =>
    cases hlet : letterB c with
    | true =>
      rw [readR_letter hlet] at h
      split at h <;> cases h
      decide
    | false =>
      cases hdig : digitB c with
      | true =>
        rw [readR_digit hlet hdig] at h
        split at h
        · cases h
        · rename_i hn
          cases h
          have h1 := undec_lt ((c :: r).take (spanN digitB (c :: r))) (span_take digitB (c :: r))
          have h2 : ((c :: r).take (spanN digitB (c :: r))).length ≤ 10 := by rw [List.length_take]; omega
          have h3 : 10 ^ ((c :: r).take (spanN digitB (c :: r))).length ≤ 10 ^ 10 := Nat.pow_le_pow_right (by decide) h2
          omega
      | false =>
        by_cases h34 : c.toNat = 34
        · rw [readR_quote hlet hdig h34] at h
          have := (quoF_tok _ _ _ h).2
          omega
        · rw [readR_symbol hlet hdig h34] at h
          split at h <;> cases h
          decide

theorem lexGo_props : ∀ (f : Nat) (l : List UInt8) (i k : Nat), (∀ e j, lexGo f l i k = .error (e, j) → e ≠ 0) ∧ (∀ ts, k ≤ 5000 → lexGo f l i k = .ok ts → k + ts.length ≤ 5000 ∧ TokOK ts)
  | 0, l, i, k => ⟨fun _ _ h => (by cases h), fun ts hk h => (by cases h; exact ⟨by simpa using hk, (fun _ h => by cases h)⟩)⟩
  | f + 1, [], i, k => ⟨fun _ _ h => (by cases h), fun ts hk h => (by cases h; exact ⟨by simpa using hk, (fun _ h => by cases h)⟩)⟩
  | f + 1, c :: r, i, k => by
    cases hr : readR (c :: r) with
    | err e =>
      rw [lexGo_err (by simp) hr]
      refine ⟨fun e' j h => ?_, fun ts _ h => (by cases h)⟩
      cases h
      have := readR_err hr
      omega
    | none => exact absurd hr (readR_some _)
    | tok kd x n len =>
      by_cases hk : k = 5000
      · subst hk
        rw [lexGo_full (by simp) hr]
        exact ⟨fun e' j h => (by cases h; decide), fun ts _ h => (by cases h)⟩
      · have hE := lexGo_tok (f := f) (i := i) (k := k) (by simp) hr hk []
        obtain ⟨ih1, ih2⟩ := lexGo_props f ((c :: r).drop (len + gapF false ((c :: r).drop len))) (i + (len + gapF false ((c :: r).drop len))) (k + 1)
        generalize lexGo f ((c :: r).drop (len + gapF false ((c :: r).drop len))) (i + (len + gapF false ((c :: r).drop len))) (k + 1) = G at *
        generalize lexGo (f + 1) (c :: r) i k = H at *
        cases G with
        | error y =>
          cases H with
          | error y' => simp only [consR] at hE; cases hE; exact ⟨fun e j h => ih1 e j h, fun ts _ h => (by cases h)⟩
          | ok ts => cases hE
        | ok us =>
          cases H with
          | error y' => cases hE
          | ok ts =>
            simp only [consR, List.nil_append, Except.ok.injEq] at hE
            subst hE
            refine ⟨fun _ _ h => (by cases h), fun ts hk' h => ?_⟩
            cases h
            obtain ⟨q1, q2⟩ := ih2 us (by omega) rfl
            refine ⟨by simp; omega, fun t ht => ?_⟩
            simp only [List.cons_append, List.nil_append, List.mem_cons] at ht
            rcases ht with rfl | ht
            · exact readR_num hr
            · exact q2 t ht

theorem lexM_props {t : List UInt8} : (∀ e j, lexM t = .error (e, j) → e ≠ 0) ∧ (∀ ts, lexM t = .ok ts → ts.length ≤ 5000 ∧ TokOK ts) := by
  obtain ⟨h1, h2⟩ := lexGo_props t.length (t.drop (gapF false t)) (gapF false t) 0
  exact ⟨h1, fun ts h => by have := h2 ts (by decide) h; exact ⟨by omega, this.2⟩⟩

/-- How many tokens are left. -/
def leftP (bp : Nat) (h : Heap) : Nat := match cellAt h ⟨bp, 0, none⟩ with
  | some (.slice _ n _) => n
  | _ => 0

theorem leftP_of {B : Base} {L : List Item} {h : Heap} {bp n : Nat} {cs : List Value} {t : TypeId} {a : Option Addr} {c : Nat} (o : Own B L h) (k : Nat) (hk : L[k]? = some (box bp cs t)) (hc : cs[0]? = some (.slice a n c)) : leftP bp h = n := by
  unfold leftP
  rw [(o.cellB k hk 0).trans hc]

theorem itemsA_full {z f : Nat} {acc : List It} {t : Tok} {r : List Tok} (h : acc.length = 200) : itemsA z (f + 1) acc (t :: r) = .error (3, t.off) := by
  rw [itemsA, if_pos h]
theorem itemsA_err {z f : Nat} {acc : List It} {t : Tok} {r : List Tok} {e : Int × Nat} (h : acc.length ≠ 200) (hi : itemP z (t :: r) = .error e) : itemsA z (f + 1) acc (t :: r) = .error e := by
  rw [itemsA, if_neg h, hi]
theorem itemsA_ok {z f : Nat} {acc : List It} {t : Tok} {r q : List Tok} {x : It} (h : acc.length ≠ 200) (hi : itemP z (t :: r) = .ok (x, q)) : itemsA z (f + 1) acc (t :: r) = itemsA z f (acc ++ [x]) q := by
  rw [itemsA, if_neg h, hi]

theorem item_call {s : List Value} {h : Heap} {K : KK} {Q : QQ} {B : Base} {L : List Item} {bp z : Nat} {tk : Item} {w : Value} {t0 : Tok} {r0 : List Tok} (hW : WordsH B.h) (o : Own B L h) (e : pick L [0, 1] = PSt bp z w tk) (hR : TokR tk w (t0 :: r0)) (hl : (t0 :: r0).length ≤ 5000)
    (hret : ∀ a r w' v I h', itemP z (t0 :: r0) = .ok (a, r) → itV a v I → r.length ≤ (t0 :: r0).length → TokR tk w' r → Own B ([box bp [w', .int .i64 z] 68, tk, I] ++ rest8 L) h' → K v false h')
    (hpan : ∀ e w' h', itemP z (t0 :: r0) = .error e → Own B (PSt bp z w' tk ++ rest8 L) h' → Q (.panic (failC e)) s h') : CallVC Tryz.prog 16 [.pointer (some ⟨bp, 0, none⟩)] s h K Q := by
  have ol := o.lend [0, 1] [2, 3, 4, 5, 6, 7, 8, 9] rfl
  rw [e] at ol
  exact PEndI.call (item_spec t0 r0 ⟨B.h, rest8 L ++ B.T⟩ bp z tk w h hW ol hR hl) (fun a r w' v I h' h1 h2 h3 h4 h5 => hret a r w' v I h' h1 h2 h3 h4 h5.back) (fun e w' h' h1 h2 => hpan e w' h' h1 h2.back)

theorem itemP_lt {z : Nat} {ts : List Tok} {x : It} {r : List Tok} (h : itemP z ts = .ok (x, r)) : r.length < ts.length := by
  cases ts with
  | nil => exact absurd h (by intro e; cases e)
  | cons t q =>
    rw [itemP_eq] at h
    cases hq : wordP z itWords 1 (t :: q) with
    | error e => rw [PM.bind_err hq] at h; cases h
    | ok p =>
      obtain ⟨k, w⟩ := p
      rw [PM.bind_ok hq] at h
      have h1 := (wordP_pos _ _ _ hq).2.2
      have h2 := (Dec.bind (Dec.ifP (Dec.name z)) fun nm => Dec.bind (Dec.part z k (x0 k nm t.off)) fun _ => Dec.bind (show Dec (if k = 4 then needP z [[125]] else needP z [[59]]) by split <;> exact Dec.need _ _) fun _ => Dec.pure _) _ _ _ h
      omega

set_option maxHeartbeats 8000000 in
set_option maxRecDepth 100000 in
theorem parse_spec (t : List UInt8) (h : Heap) (hl : t.length ≤ 9223372036854775807) (hW : WordsH h) :
    SpecR Tryz.prog 8 [.string ⟨⟨t⟩⟩] h (ParsePost h t) := by
  refine Spec.enterD2 Tryz.func8 rfl (n := 44) (by kernel_rfl) (by kernel_rfl) ?_
  have o0 := Own.refl h
  (refine RunVC.alloc o0 ty25 ?_; intro b10 m10 o10)
  (refine RunVC.alloc o10 ty26 ?_; intro b11 m11 o11)
  (refine RunVC.alloc o11 ty3 ?_; intro b12 m12 o12)
  refine CallVC.ret (lex_spec t _ hl) ?_
  rintro v h1 hv
  have key : (∃ e i : Int, e ≠ 0 ∧ v = .tuple ⟨[.slice none 0 0, .int .i64 e, .int .i64 i]⟩ ∧ Own m12 [] h1 ∧ ∀ h', Own h [] h' → ParsePost h t (.tuple ⟨[.agg ⟨[nilV]⟩, .int .i64 e, .int .i64 i]⟩) h') ∨
      (∃ ts u, lexM t = .ok ts ∧ ¬ 20000 < t.length ∧ v = .tuple ⟨[u, .int .i64 0, .int .i64 0]⟩ ∧ Own m12 [row u 38 4 ts.length (ts.flatMap tokC)] h1) := by
    unfold LexPost at hv
    by_cases hbig : 20000 < t.length
    · rw [if_pos hbig] at hv
      exact .inl ⟨3, -1, by decide, hv.1, hv.2, fun h' o' => by rw [ParsePost, if_pos hbig]; exact ⟨rfl, o'⟩⟩
    · rw [if_neg hbig] at hv
      cases hL : lexM t with
      | error e =>
        obtain ⟨e, i⟩ := e
        rw [hL] at hv
        exact .inl ⟨e, i, lexM_props.1 e i hL, hv.1, hv.2, fun h' o' => by rw [ParsePost, if_neg hbig, parseM, hL]; exact ⟨rfl, o'⟩⟩
      | ok ts =>
        rw [hL] at hv
        obtain ⟨u, h2, h3⟩ := hv
        exact .inr ⟨ts, u, rfl, hbig, h2, h3⟩
  clear hv
  rcases key with ⟨e, i, hne, rfl, oc, hpost⟩ | ⟨ts, u, hL, hbig, rfl, oc⟩
  · have o1 := oc.thenE (by assumption)
    clear oc
    (refine RunVC.storeL o1 1 rfl ty26 rfl (by decide) (And.intro ⟨rfl, rfl⟩ ?_); intro m50 o50)
    (refine RunVC.storeL o50 2 rfl ty3 rfl (by decide) (And.intro ⟨rfl, rfl⟩ ?_); intro m51 o51)
    refine StillVC.run (StillVC.loadO o51 1 rfl ty26 rfl rfl ?_)
    refine Br.ndec (fun c53 => ?_) (fun hc => absurd hc (by first | omega | assumption | decide | exact rfl))
    refine DrawVC.introG (fun h h' => h'[b11]? = h[b11]? ∧ h'[b12]? = h[b12]?) (fun a => a.block = b11 ∨ a.block = b12) (fun _ => ⟨rfl, rfl⟩) (fun h h' a v he ha hc => by rcases ha with rfl | rfl; rw [cellAt_congr he.1]; exact hc; rw [cellAt_congr he.2]; exact hc) [0] [1, 2] [5] [0, 1, 2, 3, 4, 5] mixed (by kernel_rfl) rfl (fun _ _ _ _ h => h) ?_
    refine StillVC.buildK st25 ?_
    refine StillVCA.load1 ty26 rfl (.inl rfl) ((Own.cellB (by assumption) 1 rfl _).trans rfl) ?_
    refine StillVCA.load1 ty3 rfl (.inr rfl) ((Own.cellB (by assumption) 2 rfl _).trans rfl) ?_
    (refine RunVC.storeL o51 0 rfl ty25 rfl (by decide) (And.intro ⟨rfl, rfl⟩ ?_); intro m63 o63)
    refine ⟨⟨(Own.satK o63 1 rfl).trans (Own.satK o51 1 rfl).symm, (Own.satK o63 2 rfl).trans (Own.satK o51 2 rfl).symm⟩, ?_⟩
    (refine RunVC.store o63 1 rfl ty26 rfl (by simp) (And.intro ⟨rfl, rfl⟩ ?_); intro m70 o70)
    refine ⟨⟨(Own.satK o70 1 rfl).trans (Own.satK o63 1 rfl).symm, (Own.satK o70 2 rfl).trans (Own.satK o63 2 rfl).symm⟩, ?_⟩
    (refine RunVC.store o70 2 rfl ty3 rfl (by simp) (And.intro ⟨rfl, rfl⟩ ?_); intro m80 o80)
    exact RetVC.cell3A rfl ty25 rfl ty26 ty3 rfl rfl rfl (o80.cellB 0 rfl 0) (o80.cellB 1 rfl 0) (o80.cellB 2 rfl 0) (hpost _ (o80.sel [] rfl))
  · have hP : ∀ v h', ParsePost h t v h' = _ := fun v h' => by rw [ParsePost, if_neg hbig]
    unfold parseM at hP
    simp only [hL] at hP
    obtain ⟨hts, hok⟩ := lexM_props.2 ts hL
    have o1 := Own.call (by assumption) oc
    simp only [List.cons_append, List.nil_append] at o1
    clear oc
    obtain ⟨ua, uc, rfl⟩ := o1.rowIs 3 rfl
    (refine RunVC.storeL o1 1 rfl ty26 rfl (by decide) (And.intro ⟨rfl, rfl⟩ ?_); intro m100 o100)
    (refine RunVC.storeL o100 2 rfl ty3 rfl (by decide) (And.intro ⟨rfl, rfl⟩ ?_); intro m101 o101)
    refine StillVC.run (StillVC.loadO o101 1 rfl ty26 rfl rfl ?_)
    refine Br.ff ?_
    generalize hT : itemsA t.length (ts.length + 1) [] ts = T at hP
    refine DeferVC.closureP (fun c s hh => ∃ (e : Int × Nat) (x : Value), c = failC e ∧ T = .error e ∧ sget s 2 = .pointer (some ⟨b10, 0, none⟩) ∧ sget s 3 = .pointer (some ⟨b11, 0, none⟩) ∧ sget s 4 = .pointer (some ⟨b12, 0, none⟩) ∧ Own h [box b10 [x] 25, box b11 [.int .i64 0] 26, box b12 [.int .i64 0] 3] hh) (by simp) ?_
    refine And.intro ?_ ?_
    · rintro c s hh ⟨e, x, rfl, hTe, s2, s3, s4, oo⟩
      refine pleave_err _ _ _ _ b10 b11 b12 _ _ _ e oo s2 s3 s4 fun h' o' => ?_
      show ParsePost h t _ _
      rw [hP, hTe]
      exact ⟨rfl, o'⟩
    refine StillVC.run (StillVC.lenS rfl str9 ?_)
    refine StillVC.run (StillVC.buildK st68 ?_)
    refine And.intro rfl ?_
    refine And.intro rfl ?_
    (refine RunVC.boxO o101 rfl ?_; intro b122 m122 o122)
    have on : Own h [box b122 [.slice ua ts.length uc, .int .i64 t.length] 68, row (.slice ua ts.length uc) 38 4 ts.length (ts.flatMap tokC), box b10 [.slice none 0 0] 25, box b11 [.int .i64 0] 26, box b12 [.int .i64 0] 3, row (.slice none 0 0) 51 25 0 [], emptyI] m122 := ((o122.nilRow 51 25).emptyI').sel [5, 4, 1, 2, 3, 6, 0] rfl
    refine LoopVC.intro [24, 25, 26, 27, 28, 29, 30, 31, 32, 33, 34, 35, 36, 37, 38, 39, 40, 41, 42] [] (fun _ hh => ∃ (f : Nat) (acc : List It) (q : List Tok) (w : Value) (va : Option Addr) (vc : Nat) (I : Item) (cs : List (List Value)), itemsA t.length f acc q = T ∧ q.length < f ∧ acc.length ≤ 200 ∧ q.length ≤ 5000 ∧ TokR (row (.slice ua ts.length uc) 38 4 ts.length (ts.flatMap tokC)) w q ∧ itsR I cs acc ∧ Own h [box b122 [w, .int .i64 t.length] 68, row (.slice ua ts.length uc) 38 4 ts.length (ts.flatMap tokC), box b10 [.slice va acc.length vc] 25, box b11 [.int .i64 0] 26, box b12 [.int .i64 0] 3, row (.slice va acc.length vc) 51 25 acc.length cs.flatten, I] hh) (fun _ hh => leftP b122 hh) ?_ ?_
    · exact ⟨ts.length + 1, [], ts, .slice ua ts.length uc, none, 0, emptyI, [], hT, by omega, by simp, hts, ⟨row_reads, hok⟩, trivial, on⟩
    · rintro _ junk hh ⟨f, acc, q, w, va, vc, I, cs, hQ, hf, hacc, hq5, hR, hI, oh⟩
      obtain ⟨f, rfl⟩ : ∃ f', f = f' + 1 := ⟨f - 1, by omega⟩
      obtain ⟨wa, wc, rfl⟩ := hR.1.isS (Own.satK oh 1 rfl)
      have hm0 := leftP_of oh 0 rfl rfl
      cases q with
      | nil =>
        have hQ' : T = .ok acc := by rw [← hQ]; rfl
        refine StillVC.run (StillVC.nilCheck rfl ?_)
        refine StillVC.run (StillVC.fieldAddr st68 rfl rfl rfl ?_)
        refine StillVC.run (StillVC.loadO oh 0 rfl ty31 rfl rfl ?_)
        refine StillVC.run (StillVC.lenV rfl sl31 ?_)
        refine Br.ff ?_
        refine StillVC.run (StillVC.loadON oh 2 rfl ty25 rfl rfl rfl ?_)
        (refine RunVC.store oh 2 rfl ty25 rfl (by simp) (And.intro ⟨rfl, rfl⟩ ?_); intro m205 o205)
        (refine RunVC.storeL o205 3 rfl ty26 rfl (by decide) (And.intro ⟨rfl, rfl⟩ ?_); intro m206 o206)
        (refine RunVC.storeL o206 4 rfl ty3 rfl (by decide) (And.intro ⟨rfl, rfl⟩ ?_); intro m207 o207)
        refine pleave_ok _ _ _ _ _ _ ?_
        refine RetVC.cell3A rfl ty25 rfl ty26 ty3 rfl rfl rfl (o207.cellB 2 rfl 0) (o207.cellB 3 rfl 0) (o207.cellB 4 rfl 0) ?_
        show ParsePost h t _ _
        rw [hP, hQ']
        exact ⟨_, _, rfl, ⟨cs, row_reads.inl, hI.mono (fun _ (s : (joinI _ _).sat _) => s.2)⟩, (o207.sel [5, 6] rfl).join⟩
      | cons tk0 r0 =>
        have hln : (tk0 :: r0).length = r0.length + 1 := rfl
        refine StillVC.run (StillVC.nilCheck rfl ?_)
        refine StillVC.run (StillVC.fieldAddr st68 rfl rfl rfl ?_)
        refine StillVC.run (StillVC.loadO oh 0 rfl ty31 rfl rfl ?_)
        refine StillVC.run (StillVC.lenV rfl sl31 ?_)
        refine Br.dec (fun c304 => ?_) (fun hc => absurd (by omega) hc)
        refine StillVC.run (StillVC.fieldAddr st25 rfl rfl rfl ?_)
        refine StillVC.run (StillVC.loadO oh 2 rfl ty23 rfl rfl ?_)
        refine StillVC.run (StillVC.lenV rfl sl23 ?_)
        by_cases hfull : acc.length = 200
        · refine Br.dec (fun c320 => ?_) (fun hc => absurd (by omega) hc)
          refine CallVC.ends (stop_spec 3 b122 t.length _ (tk0 :: r0) _ (Own.cellB (by assumption) 0 rfl 0) (Own.cellB (by assumption) 0 rfl 1) (Own.reads (by assumption) 1 hR.1 rfl)) (fun _ _ h => h.elim) (fun c h4 ⟨hc, ho⟩ => ?_)
          subst hc
          exact ⟨(3, tk0.off), _, rfl, by rw [← hQ, itemsA_full hfull], rfl, rfl, rfl, (ho.thenE (by assumption)).sel [2, 3, 4] rfl⟩
        · refine Br.dec (fun hc => absurd hc (by omega)) (fun c340 => ?_)
          refine DrawVC.introBP b10 [0, 2, 6] [1] [5, 7] [0, 1, 2, 3, 4, 5, 6, 7] mixed (by kernel_rfl) rfl (PanP.of [36, 37, 38, 39, 40, 41, 42] rfl fun d hd c s v h ⟨e, x, g1, g2, s2, s3, s4, oo⟩ => ⟨e, x, g1, g2, (sget_set_ne (by rintro rfl; cases hd)).symm.trans s2, (sget_set_ne (by rintro rfl; cases hd)).symm.trans s3, (sget_set_ne (by rintro rfl; cases hd)).symm.trans s4, oo⟩) ?_
          refine StillVC.fieldAddr st25 rfl rfl rfl ?_
          refine StillVCA.load1 ty23 rfl rfl ((oh.cellB 2 rfl _).trans rfl) ?_
          refine item_call hW (by assumption) rfl hR (by omega) (fun x q2 w2 v J h3 hm hv hle hR2 oq => ?_) (fun e w2 h3 hm o2 => ?_)
          · obtain ⟨c, rfl, hc⟩ := hv
            have hlt := itemP_lt hm
            rw [itemsA_ok hfull hm] at hQ
            have o9 := oq
            simp only [PSt, pick, List.cons_append, List.nil_append, List.getElem?_cons_succ, List.getElem?_cons_zero, List.getElem?_nil] at o9
            clear oq
            refine ⟨(Own.satK o9 3 rfl).trans (Own.satK (x := box b10 _ _) (by assumption) 2 rfl).symm, ?_⟩
            obtain ⟨wa2, wc2, rfl⟩ := hR2.1.isS (Own.satK o9 1 rfl)
            have hcl := hc.len
            have hc1 := hc.one (Own.satK o9 2 rfl)
            (refine RunVC.litN o9 sl23 ty51 rfl rfl (by decide) ?_)
            refine And.intro (by rw [hcl]; exact (List.all_eq_true.2 hc1)) ?_
            refine Eq.mpr (lappV_eq c [] _) ?_
            rw [List.append_nil]
            intro b905 m905 o905
            refine ⟨(Own.satK o905 3 rfl).trans (Own.satK o9 3 rfl).symm, ?_⟩
            refine RunVC.append (by assumption) 6 rfl sl23 ty51 (by decide) (Own.boxArrN (by assumption) 8 rfl (n := 1) (by simpa using hcl) (by omega)) (by simpa using hc1) (by simp only [maxLen]; omega) (by omega) ?_
            intro v915 m915 o915
            obtain ⟨xa, xc, rfl⟩ := o915.rowIs 6 rfl
            refine StillVC.fieldAddr st25 rfl rfl rfl ?_
            (refine RunVC.store o915 3 rfl ty23 rfl (by simp) (And.intro ⟨rfl, rfl⟩ ?_); intro m921 o921)
            refine ⟨rfl, ?_⟩
            have e2 : (acc ++ [x]).length = acc.length + 1 := by simp
            have e1 : (cs ++ [c]).flatten = cs.flatten ++ c := by simp
            refine ⟨⟨f, acc ++ [x], q2, _, xa, xc, joinI J I, cs ++ [c], hQ, by omega, by omega, by omega, hR2, itsR.snoc (hI.mono (fun _ (s : (joinI _ _).sat _) => s.2)) (hc.mono (fun _ (s : (joinI _ _).sat _) => s.1)), ?_⟩, ?_⟩
            · rw [e1, e2]
              exact (Own.sel (by assumption) [2, 7, 0, 1, 3, 4, 5, 6] rfl).join.sel [1, 2, 3, 4, 5, 6, 0] rfl
            · have hm1 := leftP_of (bp := b122) (by assumption) 0 rfl rfl
              rw [hm0, hm1]
              omega
          · refine ⟨e, _, rfl, by rw [← hQ, itemsA_err hfull hm], rfl, rfl, rfl, Own.sel o2 [2, 3, 4] rfl⟩

end Go.Proofs.YtnmfanjhepepbaaGreatDoor
