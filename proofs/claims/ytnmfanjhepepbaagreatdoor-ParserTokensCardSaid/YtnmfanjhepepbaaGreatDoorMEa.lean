/-
  The parser's expressions: what is common, and tables. The parser's expressions: select. The parser's expressions: project.
-/
import Derived.Test.YtnmfanjhepepbaaGreatDoorStructs
import Derived.Test.YtnmfanjhepepbaaGreatDoorMPc
import Derived.Test.YtnmfanjhepepbaaGreatDoorVcFork
set_option linter.all false
/- The parser's expressions: what is common, and tables. -/
namespace Go.Proofs.YtnmfanjhepepbaaGreatDoor
open Go

theorem lset_take : ∀ (vs cs : List Value) (off m : Nat), (lset cs off vs).take m = lset (cs.take m) off vs
  | [], _, _, _ => rfl
  | v :: vs, cs, off, m => by rw [lset, lset_take vs, List.take_set, lset]

/-- A store of a whole struct into a row of the call's own. -/
theorem RunVC.storeRN {P : Program} {ty : TypeId} {s : List Value} {h : Heap} {K : KK} {Q : QQ} {h0 : Base} {L : List Item} {t : TypeId} {a x : Operand} {zero vs : List Value} {by_ : Nat} {agg : Bool} {v : Value} {e : TypeId} {sz n i : Nat} {xs : List Value} (o : Own h0 L h) (k : Nat) (hk : L[k]? = some (row v e sz n xs)) (hT : TyI P t agg zero by_)
    (hz : zero.length = sz) (ha : ev s a = adr v (i * sz)) (hx : ev s x = .agg ⟨vs⟩) (hv : vs.length = sz) (hi : i < n) (hs0 : 0 < sz) (h1 : vs.all (fun u => u.oneCell') = true)
    (hK : ∀ h', Own h0 (L.set k (row v e sz n (lset xs (i * sz) vs))) h' → K undef false h') : RunVC P (.store t a x) ty s h K Q :=
  .of_skip fun w hw => by
    subst hw
    have hr : rowH w.heap e sz v n xs := o.sat _ (List.mem_of_getElem? hk)
    obtain ⟨hl, hr⟩ := hr
    rcases hr with ⟨rfl, rfl⟩ | ⟨g, cap, cur, rfl, hg, hn, hm, hs, ht⟩
    · omega
    · have hb : w.heap[g]? = some (.cells cur.toList.toArray e (0, 0)) := by simpa using hg
      have hroom : i * sz + sz ≤ cap * sz := by
        have : (i + 1) * sz ≤ cap * sz := Nat.mul_le_mul_right _ (by omega)
        rw [Nat.add_mul] at this; omega
      have hrun := run_storeCells (P := P) (b := g) (off := i * sz) vs 0 w cur.toList e 0 0 hb (.inl rfl) (by simp; omega) (List.all_eq_true.1 h1)
      refine ⟨wsets w g (i * sz) vs, ?_, (sets_other _ w g (i * sz)).2.2, ?_⟩
      · rw [adr] at ha
        have hva : (Value.agg ⟨vs⟩).cells = ⟨vs⟩ := rfl
        simp [execOp, ha, hx, Instr.storeAt, Instr.sureAddr, storeVar, hT.sizeOf, hz, hv, hva, hrun]
      · refine hK _ (o.set hk (Nat.le_of_eq (sets_other _ w g (i * sz)).1.symm) (fun x _ hx => (sets_other _ w g (i * sz)).2.1 x (fun e => hx (by subst e; rfl))) ?_ (fun x hx => .inl hx) (fun x hx => ?_))
        · refine ⟨by rw [lset_length]; exact hl, .inr ⟨g, cap, (lset cur.toList (i * sz) vs).toArray, rfl, sets_blk _ _ _ _ _ _ _ _ hb, hn, hm, by simp [lset_length, hs], ?_⟩⟩
          rw [← ht]
          exact lset_take _ _ _ _
        · rw [(sets_other _ w g (i * sz)).1]; exact o.hi _ (List.mem_of_getElem? hk) x hx

theorem opIdx_none {ts : List Tok} (h : ∀ j, j < 7 → seesB [opNames.getD j [], [40]] ts = false) : opIdx ts = none := by
  unfold opIdx
  rw [List.find?_eq_none]
  intro j hj
  rw [h j (by simpa using hj)]
  decide

theorem exprP_none {z n : Nat} {ts : List Tok} (h : opIdx ts = none) : exprP z (n + 1) ts = (nameP z >>= fun t => (pure (exTable (headOff ts) t) : PM Ex)) ts := by
  rw [exprP]
  simp only [h]

theorem opIdx_some {ts : List Tok} {i : Nat} (hi : i < 7) (h : ∀ j, j < i → seesB [opNames.getD j [], [40]] ts = false) (hb : seesB [opNames.getD i [], [40]] ts = true) : opIdx ts = some i := by
  unfold opIdx
  rw [List.find?_range_eq_some]
  exact ⟨hb, by simpa using hi, fun j hj => by rw [h j hj]; rfl⟩

theorem exprP_some {z n : Nat} {ts : List Tok} {i : Nat} (h : opIdx ts = some i) : exprP z (n + 1) ts = (needP z [opNames.getD i [], [40]] >>= fun _ => exprP z n >>= fun a => ifP (twoB i) (needP z [[44]] >>= fun _ => exprP z n >>= fun b => pure [a, b]) [a] >>= fun kids => opRest z i (headOff ts) kids >>= fun x => needP z [[41]] >>= fun _ => (pure x : PM Ex)) ts := by
  rw [exprP]
  simp only [h]

theorem exR_leaf (I : Item) (t : List UInt8) (off : Nat) : exR I (exC 1 t nilV nilV nilV [] [] 0 off) (exTable off t) := by
  unfold exTable
  rw [exR]
  exact ⟨_, _, _, rfl, nil_reads, nil_reads, [], nil_reads, trivial⟩

theorem exR_one {I : Item} {h : Heap} (hI : I.sat h) : ∀ {x : Ex} {c : List Value}, exR I c x → c.all (fun u => u.oneCell') = true
  | .mk kind table kids conds names attr as_ agg off, c, hx => by
    rw [exR] at hx
    obtain ⟨vk, vc, vn, rfl, h2, h3, xs, h4, _⟩ := hx
    obtain ⟨a1, b1, rfl⟩ := h2.isS hI
    obtain ⟨a2, b2, rfl⟩ := h3.isS hI
    obtain ⟨a3, b3, rfl⟩ := h4.isS hI
    rfl

theorem lset_full {cs : List Value} {c : Cells9} (h : cs.length = 9) : lset ([] ++ cs) (0 * 9) c.1 = c.1 := by
  rw [List.nil_append, Nat.zero_mul, lset_eq _ _ _ (by rw [c.2, h]; omega)]
  simp [c.2, h]

theorem RestEnd.callL {g : FuncId} {args : List Value} {s : List Value} {h : Heap} {K : KK} {Q : QQ} {B : Base} {L X : List Item} {bp z : Nat} {tk : Item} {bx pb n : Nat} {res : Except (Int × Nat) (Ex × List Tok)} {kind : Int} {vk : Value} {kids : List Ex} {off : Nat}
    (sp : ∀ B' : Base, Own B' X h → Spec Tryz.prog g args h (RestEnd B' bp z tk bx pb n res kind vk kids off)) (o : Own B L h) (ks js : List Nat) (hd : dst (ks ++ js) = true) (e : pick L ks = X)
    (hret : ∀ x r w' c I h', res = .ok (x, r) → restR I c kind vk kids off x → r.length ≤ n → TokR tk w' r → Own B ([box bp [w', .int .i64 z] 68, tk, box bx c 49, box pb [.pointer (some ⟨bp, 0, none⟩)] 66, I] ++ pick L js) h' → K (.tuple ⟨[]⟩) false h')
    (hpan : ∀ e w' h', res = .error e → Own B (PSt bp z w' tk) h' → Q (.panic (failC e)) s h') : CallVC Tryz.prog g args s h K Q := by
  have ol := o.lend ks js hd
  rw [e] at ol
  exact CallVC.ends (sp _ ol) (fun v h' ⟨x, r, w', c, I, h1, h2, h3, h4, h5, h6⟩ => by subst h2; exact hret x r w' c I h' h1 h3 h4 h5 h6.back) (fun c h' ⟨e, w', h1, h2, h3⟩ => by subst h2; exact hpan e w' h' h1 (h3.back.sel [0, 1] rfl))

theorem lset_second {cs : List Value} {c d : Cells9} (h : cs.length = 9) : lset (c.1 ++ cs) (1 * 9) d.1 = c.1 ++ d.1 := by
  rw [Nat.one_mul, lset_eq _ _ _ (by rw [List.length_append, d.2, c.2, h]; exact Nat.le_refl _)]
  simp [c.2, d.2, h]

set_option maxRecDepth 100000 in
theorem none_spec (bx : Nat) (h : Heap) : SpecR Tryz.prog 116 [.pointer (some ⟨bx, 0, none⟩)] h fun v h' => v = .tuple ⟨[]⟩ ∧ Own h [] h' := by
  refine Spec.enter Tryz.func116 rfl Tryz.ntmps116 (by kernel_rfl) ?_
  have o0 := Own.refl h
  refine RetVC.zero rfl ?_
  exact ⟨rfl, o0⟩

/-- What an expression's walk returns. -/
def exV (x : Ex) (v : Value) (I : Item) : Prop := ∃ c : Cells9, v = .agg ⟨c.1⟩ ∧ exR I c.1 x

def ExSpec (n : Nat) : Prop := ∀ (level : Int) (_ : level = 13 - n) (B : Base) (bp z : Nat) (tk : Item) (w : Value) (ts : List Tok) (h : Heap) (_ : Own B (PSt bp z w tk) h) (_ : TokR tk w ts) (_ : ts.length ≤ 5000),
  Spec Tryz.prog 87 [.pointer (some ⟨bp, 0, none⟩), .int .i64 level] h (PEndI B bp z tk ts.length (exprP z n ts) exV)

set_option maxHeartbeats 8000000 in
set_option maxRecDepth 100000 in
theorem expr_zero : ExSpec 0 := by
  intro level hlv B bp z tk w ts h o hR hl
  refine Spec.enter Tryz.func87 rfl Tryz.ntmps87 (by kernel_rfl) ?_
  (refine RunVC.alloc o ty49 ?_; intro b10 m10 o10)
  refine Br.dec (fun c11 => ?_) (fun hc => absurd (by omega) hc)
  refine CallVC.ends (stop_spec 3 bp z w ts _ (Own.cellB (by assumption) 0 rfl 0) (Own.cellB (by assumption) 0 rfl 1) (Own.reads (by assumption) 1 hR.1 rfl)) (fun _ _ h => h.elim) (fun c h4 ⟨hc, ho⟩ => ?_)
  exact ⟨_, w, rfl, hc, (ho.thenE (by assumption)).sel [0, 1] rfl⟩

set_option maxHeartbeats 100000000 in
set_option maxRecDepth 100000 in
theorem expr_leaf (n : Nat) (hn : n ≤ 11) (ih : ExSpec n) : ∀ (level : Int) (_ : level = 13 - ((n + 1 : Nat) : Int)) (B : Base) (bp z : Nat) (tk : Item) (w : Value) (ts : List Tok) (h : Heap) (_ : Own B (PSt bp z w tk) h) (_ : TokR tk w ts) (_ : ts.length ≤ 5000) (_ : ∀ j, j < 7 → seesB [opNames.getD j [], [40]] ts = false),
    Spec Tryz.prog 87 [.pointer (some ⟨bp, 0, none⟩), .int .i64 level] h (PEndI B bp z tk ts.length (exprP z (n + 1) ts) exV) := by
  intro level hlv B bp z tk w ts h o hR hl hno
  obtain ⟨hRd, hK⟩ := hR
  have hR : TokR tk w ts := ⟨hRd, hK⟩
  refine Spec.enter Tryz.func87 rfl Tryz.ntmps87 (by kernel_rfl) ?_
  (refine RunVC.alloc o ty49 ?_; intro b10 m10 o10)
  refine Br.dec (fun hc => absurd hc (by omega)) (fun c11 => ?_)
  refine StillVC.run (StillVC.buildK st49 ?_)
  refine And.intro rfl ?_
  (refine RunVC.alloc o10 ty49 ?_; intro b13 m13 o13)
  (refine RunVC.storeL o13 3 rfl ty49 rfl (by decide) (And.intro ⟨rfl, rfl⟩ ?_); intro m14 o14)
  refine StillVC.run (StillVC.nilCheck rfl ?_)
  refine StillVC.run (StillVC.fieldAddr st68 rfl rfl rfl ?_)
  refine StillVC.run (StillVC.loadO o14 0 rfl ty31 rfl rfl ?_)
  refine StillVC.run (StillVC.lenN (o14.reads 1 hRd rfl) sl31 ?_)
  refine Br.join [19, 20, 21, 22, 23, 24, 25, 26] [] (fun _ hh => Own B [box bp [w, .int .i64 z] 68, tk, box b10 [.int .i64 0, .string ⟨⟨[]⟩⟩, nilV, nilV, nilV, .string ⟨⟨[]⟩⟩, .string ⟨⟨[]⟩⟩, .int .i64 0, .int .i64 0] 49, box b13 [.int .i64 1, .string ⟨⟨[]⟩⟩, nilV, nilV, nilV, .string ⟨⟨[]⟩⟩, .string ⟨⟨[]⟩⟩, .int .i64 0, .int .i64 (headOff ts)] 49] hh) rfl rfl ?_ ?_
  · cases ts with
    | nil =>
      refine Br.ff ?_
      refine ⟨rfl, ?_⟩
      exact o14
    | cons t r =>
      have hx : (t :: r)[0]? = some t := rfl
      have hln : (t :: r).length = r.length + 1 := rfl
      refine Br.dec (fun c30 => ?_) (fun hc => absurd (by omega) hc)
      refine StillVC.run (StillVC.nilCheck rfl ?_)
      refine StillVC.run (StillVC.fieldAddr st68 rfl rfl rfl ?_)
      refine StillVC.run (StillVC.loadO o14 0 rfl ty31 rfl rfl ?_)
      refine StillVC.run (StillVC.idxN sl31 ty38 (o14.reads 1 hRd rfl) rfl (by omega) (by omega) ?_)
      refine StillVC.run (StillVC.fieldAdr (o14.reads 1 hRd rfl) (by omega) st38 rfl rfl rfl ?_)
      refine StillVC.run (StillVC.loadFF (o14.reads 1 hRd rfl) ty3 (fun _ => rfl) rfl (by assumption) rfl ?_)
      refine StillVC.run (StillVC.fieldAddr st49 rfl rfl rfl ?_)
      (refine RunVC.storeL o14 3 rfl ty3 rfl (by decide) (And.intro ⟨rfl, rfl⟩ ?_); intro m38 o38)
      refine ⟨rfl, ?_⟩
      exact Own.sel (by assumption) [0, 1, 2, 3] rfl
  · intro vs junk hh oh
    refine CallVC.ret (operations_spec bp _) ?_
    rintro _ h2 ⟨bo, pb, rfl, oc⟩
    have o2 := oh.call oc
    simp only [List.cons_append, List.nil_append] at o2
    clear oc
    refine StillVC.run (StillVC.lenV rfl sl145 ?_)
    refine LoopVC.intro [6, 7, 30, 31, 32, 33, 34, 35, 36, 37, 38, 39, 40, 41, 42, 43, 44, 45, 46, 47, 48, 49, 50, 51, 52, 53, 54, 55, 56, 57, 58, 59, 60, 61, 62, 63, 64, 65, 66, 67, 68, 69, 70, 71, 72, 73, 74, 75, 76, 77, 78, 79, 80, 81, 82, 83] [30] (fun vs hh => ∃ (i : Nat), i ≤ 7 ∧ vs = [.int .i64 i] ∧ Own B [box bp [w, .int .i64 z] 68, tk, box b10 [.int .i64 0, .string ⟨⟨[]⟩⟩, nilV, nilV, nilV, .string ⟨⟨[]⟩⟩, .string ⟨⟨[]⟩⟩, .int .i64 0, .int .i64 0] 49, box b13 [.int .i64 1, .string ⟨⟨[]⟩⟩, nilV, nilV, nilV, .string ⟨⟨[]⟩⟩, .string ⟨⟨[]⟩⟩, .int .i64 0, .int .i64 (headOff ts)] 49, box pb [.pointer (some ⟨bp, 0, none⟩)] 66, box bo (opsC pb) 149] hh) (fun vs _ => match vs with | [.int _ i] => 7 - i.toNat | _ => 0) ?_ ?_
    · exact ⟨0, by omega, rfl, o2⟩
    · rintro vs' junk' h3 ⟨i, hi, rfl, o3⟩
      clear o14 oh o2
      have hoL : (opsC pb).length = 7 * 3 := rfl
      rcases (by omega : i = 0 ∨ i = 1 ∨ i = 2 ∨ i = 3 ∨ i = 4 ∨ i = 5 ∨ i = 6 ∨ i = 7) with rfl | rfl | rfl | rfl | rfl | rfl | rfl | rfl
      · refine Br.tt ?_
        refine StillVC.run (StillVC.idxN sl145 ty149 (o3.boxArrN 5 rfl (by assumption) (by omega)) rfl (by omega) (by omega) ?_)
        refine StillVC.run (StillVC.loadON o3 5 rfl ty149 rfl rfl rfl ?_)
        (refine RunVC.alloc o3 ty149 ?_; intro b1002 m1002 o1002)
        (refine RunVC.storeL o1002 6 rfl ty149 rfl (by decide) (And.intro ⟨rfl, rfl⟩ ?_); intro m1003 o1003)
        refine StillVC.run (StillVC.fieldAddr st149 rfl rfl rfl ?_)
        refine StillVC.run (StillVC.loadO o1003 6 rfl ty9 rfl rfl ?_)
        (refine RunVC.lit o1003 sl42 ty9 rfl rfl (by decide) (And.intro rfl ?_); intro b1006 m1006 o1006)
        refine CallVC.ret (peek_spec [[115, 101, 108, 101, 99, 116], [40]] _ bp w ts _ (Own.cellB (by assumption) 0 rfl 0) (Own.reads (by assumption) 1 hR.1 rfl) (Own.boxArr (by assumption) 7 rfl rfl (by decide)) hl) ?_
        rintro _ h4 ⟨rv, oc⟩
        have o4 := oc.thenE (by assumption)
        clear oc
        have hb : seesB [[115, 101, 108, 101, 99, 116], [40]] ts = false := hno 0 (by decide)
        rw [hb] at rv
        subst rv
        refine Br.tt ?_
        refine Ar.i64 (by omega) (by omega) ?_
        refine ⟨rfl, ?_⟩
        exact ⟨⟨1, by omega, rfl, Own.sel (by assumption) [0, 1, 2, 3, 4, 5] rfl⟩, by simp⟩
      · refine Br.tt ?_
        refine StillVC.run (StillVC.idxN sl145 ty149 (o3.boxArrN 5 rfl (by assumption) (by omega)) rfl (by omega) (by omega) ?_)
        refine StillVC.run (StillVC.loadON o3 5 rfl ty149 rfl rfl rfl ?_)
        (refine RunVC.alloc o3 ty149 ?_; intro b2002 m2002 o2002)
        (refine RunVC.storeL o2002 6 rfl ty149 rfl (by decide) (And.intro ⟨rfl, rfl⟩ ?_); intro m2003 o2003)
        refine StillVC.run (StillVC.fieldAddr st149 rfl rfl rfl ?_)
        refine StillVC.run (StillVC.loadO o2003 6 rfl ty9 rfl rfl ?_)
        (refine RunVC.lit o2003 sl42 ty9 rfl rfl (by decide) (And.intro rfl ?_); intro b2006 m2006 o2006)
        refine CallVC.ret (peek_spec [[112, 114, 111, 106, 101, 99, 116], [40]] _ bp w ts _ (Own.cellB (by assumption) 0 rfl 0) (Own.reads (by assumption) 1 hR.1 rfl) (Own.boxArr (by assumption) 7 rfl rfl (by decide)) hl) ?_
        rintro _ h4 ⟨rv, oc⟩
        have o4 := oc.thenE (by assumption)
        clear oc
        have hb : seesB [[112, 114, 111, 106, 101, 99, 116], [40]] ts = false := hno 1 (by decide)
        rw [hb] at rv
        subst rv
        refine Br.tt ?_
        refine Ar.i64 (by omega) (by omega) ?_
        refine ⟨rfl, ?_⟩
        exact ⟨⟨2, by omega, rfl, Own.sel (by assumption) [0, 1, 2, 3, 4, 5] rfl⟩, by simp⟩
      · refine Br.tt ?_
        refine StillVC.run (StillVC.idxN sl145 ty149 (o3.boxArrN 5 rfl (by assumption) (by omega)) rfl (by omega) (by omega) ?_)
        refine StillVC.run (StillVC.loadON o3 5 rfl ty149 rfl rfl rfl ?_)
        (refine RunVC.alloc o3 ty149 ?_; intro b3002 m3002 o3002)
        (refine RunVC.storeL o3002 6 rfl ty149 rfl (by decide) (And.intro ⟨rfl, rfl⟩ ?_); intro m3003 o3003)
        refine StillVC.run (StillVC.fieldAddr st149 rfl rfl rfl ?_)
        refine StillVC.run (StillVC.loadO o3003 6 rfl ty9 rfl rfl ?_)
        (refine RunVC.lit o3003 sl42 ty9 rfl rfl (by decide) (And.intro rfl ?_); intro b3006 m3006 o3006)
        refine CallVC.ret (peek_spec [[106, 111, 105, 110], [40]] _ bp w ts _ (Own.cellB (by assumption) 0 rfl 0) (Own.reads (by assumption) 1 hR.1 rfl) (Own.boxArr (by assumption) 7 rfl rfl (by decide)) hl) ?_
        rintro _ h4 ⟨rv, oc⟩
        have o4 := oc.thenE (by assumption)
        clear oc
        have hb : seesB [[106, 111, 105, 110], [40]] ts = false := hno 2 (by decide)
        rw [hb] at rv
        subst rv
        refine Br.tt ?_
        refine Ar.i64 (by omega) (by omega) ?_
        refine ⟨rfl, ?_⟩
        exact ⟨⟨3, by omega, rfl, Own.sel (by assumption) [0, 1, 2, 3, 4, 5] rfl⟩, by simp⟩
      · refine Br.tt ?_
        refine StillVC.run (StillVC.idxN sl145 ty149 (o3.boxArrN 5 rfl (by assumption) (by omega)) rfl (by omega) (by omega) ?_)
        refine StillVC.run (StillVC.loadON o3 5 rfl ty149 rfl rfl rfl ?_)
        (refine RunVC.alloc o3 ty149 ?_; intro b4002 m4002 o4002)
        (refine RunVC.storeL o4002 6 rfl ty149 rfl (by decide) (And.intro ⟨rfl, rfl⟩ ?_); intro m4003 o4003)
        refine StillVC.run (StillVC.fieldAddr st149 rfl rfl rfl ?_)
        refine StillVC.run (StillVC.loadO o4003 6 rfl ty9 rfl rfl ?_)
        (refine RunVC.lit o4003 sl42 ty9 rfl rfl (by decide) (And.intro rfl ?_); intro b4006 m4006 o4006)
        refine CallVC.ret (peek_spec [[117, 110, 105, 111, 110], [40]] _ bp w ts _ (Own.cellB (by assumption) 0 rfl 0) (Own.reads (by assumption) 1 hR.1 rfl) (Own.boxArr (by assumption) 7 rfl rfl (by decide)) hl) ?_
        rintro _ h4 ⟨rv, oc⟩
        have o4 := oc.thenE (by assumption)
        clear oc
        have hb : seesB [[117, 110, 105, 111, 110], [40]] ts = false := hno 3 (by decide)
        rw [hb] at rv
        subst rv
        refine Br.tt ?_
        refine Ar.i64 (by omega) (by omega) ?_
        refine ⟨rfl, ?_⟩
        exact ⟨⟨4, by omega, rfl, Own.sel (by assumption) [0, 1, 2, 3, 4, 5] rfl⟩, by simp⟩
      · refine Br.tt ?_
        refine StillVC.run (StillVC.idxN sl145 ty149 (o3.boxArrN 5 rfl (by assumption) (by omega)) rfl (by omega) (by omega) ?_)
        refine StillVC.run (StillVC.loadON o3 5 rfl ty149 rfl rfl rfl ?_)
        (refine RunVC.alloc o3 ty149 ?_; intro b5002 m5002 o5002)
        (refine RunVC.storeL o5002 6 rfl ty149 rfl (by decide) (And.intro ⟨rfl, rfl⟩ ?_); intro m5003 o5003)
        refine StillVC.run (StillVC.fieldAddr st149 rfl rfl rfl ?_)
        refine StillVC.run (StillVC.loadO o5003 6 rfl ty9 rfl rfl ?_)
        (refine RunVC.lit o5003 sl42 ty9 rfl rfl (by decide) (And.intro rfl ?_); intro b5006 m5006 o5006)
        refine CallVC.ret (peek_spec [[109, 105, 110, 117, 115], [40]] _ bp w ts _ (Own.cellB (by assumption) 0 rfl 0) (Own.reads (by assumption) 1 hR.1 rfl) (Own.boxArr (by assumption) 7 rfl rfl (by decide)) hl) ?_
        rintro _ h4 ⟨rv, oc⟩
        have o4 := oc.thenE (by assumption)
        clear oc
        have hb : seesB [[109, 105, 110, 117, 115], [40]] ts = false := hno 4 (by decide)
        rw [hb] at rv
        subst rv
        refine Br.tt ?_
        refine Ar.i64 (by omega) (by omega) ?_
        refine ⟨rfl, ?_⟩
        exact ⟨⟨5, by omega, rfl, Own.sel (by assumption) [0, 1, 2, 3, 4, 5] rfl⟩, by simp⟩
      · refine Br.tt ?_
        refine StillVC.run (StillVC.idxN sl145 ty149 (o3.boxArrN 5 rfl (by assumption) (by omega)) rfl (by omega) (by omega) ?_)
        refine StillVC.run (StillVC.loadON o3 5 rfl ty149 rfl rfl rfl ?_)
        (refine RunVC.alloc o3 ty149 ?_; intro b6002 m6002 o6002)
        (refine RunVC.storeL o6002 6 rfl ty149 rfl (by decide) (And.intro ⟨rfl, rfl⟩ ?_); intro m6003 o6003)
        refine StillVC.run (StillVC.fieldAddr st149 rfl rfl rfl ?_)
        refine StillVC.run (StillVC.loadO o6003 6 rfl ty9 rfl rfl ?_)
        (refine RunVC.lit o6003 sl42 ty9 rfl rfl (by decide) (And.intro rfl ?_); intro b6006 m6006 o6006)
        refine CallVC.ret (peek_spec [[114, 101, 110, 97, 109, 101], [40]] _ bp w ts _ (Own.cellB (by assumption) 0 rfl 0) (Own.reads (by assumption) 1 hR.1 rfl) (Own.boxArr (by assumption) 7 rfl rfl (by decide)) hl) ?_
        rintro _ h4 ⟨rv, oc⟩
        have o4 := oc.thenE (by assumption)
        clear oc
        have hb : seesB [[114, 101, 110, 97, 109, 101], [40]] ts = false := hno 5 (by decide)
        rw [hb] at rv
        subst rv
        refine Br.tt ?_
        refine Ar.i64 (by omega) (by omega) ?_
        refine ⟨rfl, ?_⟩
        exact ⟨⟨6, by omega, rfl, Own.sel (by assumption) [0, 1, 2, 3, 4, 5] rfl⟩, by simp⟩
      · refine Br.tt ?_
        refine StillVC.run (StillVC.idxN sl145 ty149 (o3.boxArrN 5 rfl (by assumption) (by omega)) rfl (by omega) (by omega) ?_)
        refine StillVC.run (StillVC.loadON o3 5 rfl ty149 rfl rfl rfl ?_)
        (refine RunVC.alloc o3 ty149 ?_; intro b7002 m7002 o7002)
        (refine RunVC.storeL o7002 6 rfl ty149 rfl (by decide) (And.intro ⟨rfl, rfl⟩ ?_); intro m7003 o7003)
        refine StillVC.run (StillVC.fieldAddr st149 rfl rfl rfl ?_)
        refine StillVC.run (StillVC.loadO o7003 6 rfl ty9 rfl rfl ?_)
        (refine RunVC.lit o7003 sl42 ty9 rfl rfl (by decide) (And.intro rfl ?_); intro b7006 m7006 o7006)
        refine CallVC.ret (peek_spec [[103, 114, 111, 117, 112], [40]] _ bp w ts _ (Own.cellB (by assumption) 0 rfl 0) (Own.reads (by assumption) 1 hR.1 rfl) (Own.boxArr (by assumption) 7 rfl rfl (by decide)) hl) ?_
        rintro _ h4 ⟨rv, oc⟩
        have o4 := oc.thenE (by assumption)
        clear oc
        have hb : seesB [[103, 114, 111, 117, 112], [40]] ts = false := hno 6 (by decide)
        rw [hb] at rv
        subst rv
        refine Br.tt ?_
        refine Ar.i64 (by omega) (by omega) ?_
        refine ⟨rfl, ?_⟩
        exact ⟨⟨7, by omega, rfl, Own.sel (by assumption) [0, 1, 2, 3, 4, 5] rfl⟩, by simp⟩
      · have hE : exprP z (n + 1) ts = (nameP z >>= fun t => (pure (exTable (headOff ts) t) : PM Ex)) ts := exprP_none (opIdx_none hno)
        refine Br.ff ?_
        refine pname_spec.callL (by assumption) rfl hR (by omega) (fun a q w2 v h4 hm hv hle hR2 oq => ?_) (fun e w2 h4 hm o2 => ⟨e, w2, hE.trans (PM.bind_err hm), rfl, o2⟩)
        subst hv
        rw [PM.bind_ok hm] at hE
        have o9 := oq
        simp only [PSt, pick, List.cons_append, List.nil_append, List.getElem?_cons_succ, List.getElem?_cons_zero, List.getElem?_nil] at o9
        clear oq hm
        refine StillVC.run (StillVC.fieldAddr st49 rfl rfl rfl ?_)
        (refine RunVC.store o9 3 rfl ty9 rfl (by simp) (And.intro ⟨rfl, rfl⟩ ?_); intro m71 o71)
        refine StillVC.run (StillVC.loadON o71 3 rfl ty49 rfl rfl rfl ?_)
        (refine RunVC.storeL o71 2 rfl ty49 rfl (by decide) (And.intro ⟨rfl, rfl⟩ ?_); intro m73 o73)
        first | refine RetVC.cell2 rfl o73 2 rfl ty49 rfl rfl ?_ | refine RetVC.cell1 rfl o73 2 rfl ty49 rfl rfl ?_ | refine RetVC.cellTT rfl o73 2 rfl ty49 rfl rfl ?_
        exact ⟨exTable (headOff ts) a, q, w2, emptyI, hE, ⟨⟨exC 1 a nilV nilV nilV [] [] 0 (headOff ts), rfl⟩, rfl, exR_leaf _ _ _⟩, by omega, hR2, (Own.sel (by assumption) [0, 1] rfl).emptyI'.sel [1, 2, 0] rfl⟩

end Go.Proofs.YtnmfanjhepepbaaGreatDoor

/- The parser's expressions: select. -/
namespace Go.Proofs.YtnmfanjhepepbaaGreatDoor
open Go

set_option maxHeartbeats 100000000 in
set_option maxRecDepth 100000 in
theorem expr_select (n : Nat) (hn : n ≤ 11) (ih : ExSpec n) : ∀ (level : Int) (_ : level = 13 - ((n + 1 : Nat) : Int)) (B : Base) (bp z : Nat) (tk : Item) (w : Value) (ts : List Tok) (h : Heap) (_ : Own B (PSt bp z w tk) h) (_ : TokR tk w ts) (_ : ts.length ≤ 5000) (_ : ∀ j, j < 0 → seesB [opNames.getD j [], [40]] ts = false) (_ : seesB [[115, 101, 108, 101, 99, 116], [40]] ts = true),
    Spec Tryz.prog 87 [.pointer (some ⟨bp, 0, none⟩), .int .i64 level] h (PEndI B bp z tk ts.length (exprP z (n + 1) ts) exV) := by
  intro level hlv B bp z tk w ts h o hR hl hno hb
  obtain ⟨hRd, hK⟩ := hR
  have hR : TokR tk w ts := ⟨hRd, hK⟩
  refine Spec.enter Tryz.func87 rfl Tryz.ntmps87 (by kernel_rfl) ?_
  (refine RunVC.alloc o ty49 ?_; intro b10 m10 o10)
  refine Br.dec (fun hc => absurd hc (by omega)) (fun c11 => ?_)
  refine StillVC.run (StillVC.buildK st49 ?_)
  refine And.intro rfl ?_
  (refine RunVC.alloc o10 ty49 ?_; intro b13 m13 o13)
  (refine RunVC.storeL o13 3 rfl ty49 rfl (by decide) (And.intro ⟨rfl, rfl⟩ ?_); intro m14 o14)
  refine StillVC.run (StillVC.nilCheck rfl ?_)
  refine StillVC.run (StillVC.fieldAddr st68 rfl rfl rfl ?_)
  refine StillVC.run (StillVC.loadO o14 0 rfl ty31 rfl rfl ?_)
  refine StillVC.run (StillVC.lenN (o14.reads 1 hRd rfl) sl31 ?_)
  refine Br.join [19, 20, 21, 22, 23, 24, 25, 26] [] (fun _ hh => Own B [box bp [w, .int .i64 z] 68, tk, box b10 [.int .i64 0, .string ⟨⟨[]⟩⟩, nilV, nilV, nilV, .string ⟨⟨[]⟩⟩, .string ⟨⟨[]⟩⟩, .int .i64 0, .int .i64 0] 49, box b13 [.int .i64 1, .string ⟨⟨[]⟩⟩, nilV, nilV, nilV, .string ⟨⟨[]⟩⟩, .string ⟨⟨[]⟩⟩, .int .i64 0, .int .i64 (headOff ts)] 49] hh) rfl rfl ?_ ?_
  · cases ts with
    | nil =>
      refine Br.ff ?_
      refine ⟨rfl, ?_⟩
      exact o14
    | cons t r =>
      have hx : (t :: r)[0]? = some t := rfl
      have hln : (t :: r).length = r.length + 1 := rfl
      refine Br.dec (fun c30 => ?_) (fun hc => absurd (by omega) hc)
      refine StillVC.run (StillVC.nilCheck rfl ?_)
      refine StillVC.run (StillVC.fieldAddr st68 rfl rfl rfl ?_)
      refine StillVC.run (StillVC.loadO o14 0 rfl ty31 rfl rfl ?_)
      refine StillVC.run (StillVC.idxN sl31 ty38 (o14.reads 1 hRd rfl) rfl (by omega) (by omega) ?_)
      refine StillVC.run (StillVC.fieldAdr (o14.reads 1 hRd rfl) (by omega) st38 rfl rfl rfl ?_)
      refine StillVC.run (StillVC.loadFF (o14.reads 1 hRd rfl) ty3 (fun _ => rfl) rfl (by assumption) rfl ?_)
      refine StillVC.run (StillVC.fieldAddr st49 rfl rfl rfl ?_)
      (refine RunVC.storeL o14 3 rfl ty3 rfl (by decide) (And.intro ⟨rfl, rfl⟩ ?_); intro m38 o38)
      refine ⟨rfl, ?_⟩
      exact Own.sel (by assumption) [0, 1, 2, 3] rfl
  · intro vs junk hh oh
    refine CallVC.ret (operations_spec bp _) ?_
    rintro _ h2 ⟨bo, pb, rfl, oc⟩
    have o2 := oh.call oc
    simp only [List.cons_append, List.nil_append] at o2
    clear oc
    refine StillVC.run (StillVC.lenV rfl sl145 ?_)
    refine LoopVC.intro [6, 7, 30, 31, 32, 33, 34, 35, 36, 37, 38, 39, 40, 41, 42, 43, 44, 45, 46, 47, 48, 49, 50, 51, 52, 53, 54, 55, 56, 57, 58, 59, 60, 61, 62, 63, 64, 65, 66, 67, 68, 69, 70, 71, 72, 73, 74, 75, 76, 77, 78, 79, 80, 81, 82, 83] [30] (fun vs hh => ∃ (i : Nat), i ≤ 0 ∧ vs = [.int .i64 i] ∧ Own B [box bp [w, .int .i64 z] 68, tk, box b10 [.int .i64 0, .string ⟨⟨[]⟩⟩, nilV, nilV, nilV, .string ⟨⟨[]⟩⟩, .string ⟨⟨[]⟩⟩, .int .i64 0, .int .i64 0] 49, box b13 [.int .i64 1, .string ⟨⟨[]⟩⟩, nilV, nilV, nilV, .string ⟨⟨[]⟩⟩, .string ⟨⟨[]⟩⟩, .int .i64 0, .int .i64 (headOff ts)] 49, box pb [.pointer (some ⟨bp, 0, none⟩)] 66, box bo (opsC pb) 149] hh) (fun vs _ => match vs with | [.int _ i] => 7 - i.toNat | _ => 0) ?_ ?_
    · exact ⟨0, by omega, rfl, o2⟩
    · rintro vs' junk' h3 ⟨i, hi, rfl, o3⟩
      clear o14 oh o2
      have hoL : (opsC pb).length = 7 * 3 := rfl
      rcases (by omega : i = 0) with rfl
      · refine Br.tt ?_
        refine StillVC.run (StillVC.idxN sl145 ty149 (o3.boxArrN 5 rfl (by assumption) (by omega)) rfl (by omega) (by omega) ?_)
        refine StillVC.run (StillVC.loadON o3 5 rfl ty149 rfl rfl rfl ?_)
        (refine RunVC.alloc o3 ty149 ?_; intro b1002 m1002 o1002)
        (refine RunVC.storeL o1002 6 rfl ty149 rfl (by decide) (And.intro ⟨rfl, rfl⟩ ?_); intro m1003 o1003)
        refine StillVC.run (StillVC.fieldAddr st149 rfl rfl rfl ?_)
        refine StillVC.run (StillVC.loadO o1003 6 rfl ty9 rfl rfl ?_)
        (refine RunVC.lit o1003 sl42 ty9 rfl rfl (by decide) (And.intro rfl ?_); intro b1006 m1006 o1006)
        refine CallVC.ret (peek_spec [[115, 101, 108, 101, 99, 116], [40]] _ bp w ts _ (Own.cellB (by assumption) 0 rfl 0) (Own.reads (by assumption) 1 hR.1 rfl) (Own.boxArr (by assumption) 7 rfl rfl (by decide)) hl) ?_
        rintro _ h4 ⟨rv, oc⟩
        have o4 := oc.thenE (by assumption)
        clear oc
        rw [hb] at rv
        subst rv
        have hE : exprP z (n + 1) ts = (needP z [[115, 101, 108, 101, 99, 116], [40]] >>= fun _ => exprP z n >>= fun a => ifP (twoB 0) (needP z [[44]] >>= fun _ => exprP z n >>= fun b => pure [a, b]) [a] >>= fun kids => opRest z 0 (headOff ts) kids >>= fun x => needP z [[41]] >>= fun _ => (pure x : PM Ex)) ts := exprP_some (opIdx_some (by decide) hno hb)
        have o5 := o4.sel [0, 1, 2, 3, 4, 6] rfl
        simp only [PSt, pick, List.cons_append, List.nil_append, List.getElem?_cons_succ, List.getElem?_cons_zero, List.getElem?_nil] at o5
        clear o3 o4
        refine Br.ff ?_
        refine Ar.i64 (by omega) (by omega) ?_
        refine StillVC.run (StillVC.fieldAddr st49 rfl rfl rfl ?_)
        (refine RunVC.store o5 3 rfl ty3 rfl (by simp) (And.intro ⟨rfl, rfl⟩ ?_); intro m1041 o1041)
        refine StillVC.run (StillVC.fieldAddr st149 rfl rfl rfl ?_)
        refine StillVC.run (StillVC.loadO o1041 5 rfl ty9 rfl rfl ?_)
        (refine RunVC.lit o1041 sl42 ty9 rfl rfl (by decide) (And.intro rfl ?_); intro b1044 m1044 o1044)
        refine pneed_call (ss := [[115, 101, 108, 101, 99, 116], [40]]) (by assumption) rfl (by first | exact ⟨2, by decide, rfl⟩ | exact ⟨3, by decide, rfl⟩ | exact ⟨4, by decide, rfl⟩ | exact ⟨5, by decide, rfl⟩ | exact ⟨6, by decide, rfl⟩ | exact ⟨7, by decide, rfl⟩ | exact ⟨8, by decide, rfl⟩ | exact ⟨9, by decide, rfl⟩) hR (by omega) (by decide) (fun _ q1 w1 v h5 hm hv hle1 hR1 oq => ?_) (fun e w' h' hm o2 => ⟨e, w', hE.trans (PM.bind_err hm), rfl, o2⟩)
        subst hv
        rw [PM.bind_ok hm] at hE
        have o6 := oq.sel [0, 1, 2, 3, 4, 5] rfl
        simp only [PSt, pick, List.cons_append, List.nil_append, List.getElem?_cons_succ, List.getElem?_cons_zero, List.getElem?_nil] at o6
        clear oq hm
        refine DrawVC.join [49, 50, 51, 52, 53, 54, 55, 56, 57, 58, 59] [] (fun _ hh => ∃ (a1 : Ex) (q2 : List Tok) (w2 : Value) (c1 : Cells9) (I1 : Item) (ua : Option Addr) (uc : Nat), exprP z n q1 = .ok (a1, q2) ∧ q2.length ≤ q1.length ∧ TokR tk w2 q2 ∧ exR I1 c1.1 a1 ∧ Own B [box bp [w2, .int .i64 z] 68, tk, I1, box b10 [.int .i64 0, .string ⟨⟨[]⟩⟩, nilV, nilV, nilV, .string ⟨⟨[]⟩⟩, .string ⟨⟨[]⟩⟩, .int .i64 0, .int .i64 0] 49, box b13 [.int .i64 2, .string ⟨⟨[]⟩⟩, .slice ua 1 uc, nilV, nilV, .string ⟨⟨[]⟩⟩, .string ⟨⟨[]⟩⟩, .int .i64 0, .int .i64 (headOff ts)] 49, box pb [.pointer (some ⟨bp, 0, none⟩)] 66, box b1002 [.string ⟨⟨[115, 101, 108, 101, 99, 116]⟩⟩, .bool false, .func (.func 117) ⟨[]⟩ ⟨[.pointer (some ⟨pb, 0, none⟩)]⟩] 149, row (.slice ua 1 uc) 49 9 1 c1.1] hh) ?_ ?_
        · refine DrawVC.introBT b13 [0, 2, 3, 4, 6, 9, 11] [1] [8, 10, 12] (.one 0 (.one 1 (.one 2 (.one 3 (.one 4 (.one 6 (.fork 5 7 (.one 7 (.one 8 (.one 9 (.one 11 (.fork 10 12 (.one 12 .done) (.one 10 .done)))))) (.one 5 (.one 8 (.one 9 (.one 11 (.fork 10 12 (.one 12 .done) (.one 10 .done))))))))))))) mixed (by kernel_rfl) rfl (fun _ _ _ _ h => h) ?_
          refine StillVC.fieldAddr st49 rfl rfl rfl ?_
          refine StillVCA.load1 ty47 rfl rfl ((o6.cellB 3 rfl _).trans rfl) ?_
          refine Ar.i64 (by omega) (by omega) ?_
          refine StillVC.lenV rfl sl47 ?_
          refine ⟨?_, ?_⟩
          · skip
            refine PEndI.callL (fun B' o' => ih (level + 1) (by omega) B' bp z tk _ _ _ o' hR1 (by omega)) (by assumption) rfl (fun a1 q2 w2 v I1 h6 hm hv hle2 hR2 oq => ?_) (fun e w' h' hm o2 => ⟨e, w', hE.trans (PM.bind_err hm), rfl, o2⟩)
            obtain ⟨c1, rfl, hx1⟩ := hv
            have o7 := oq
            simp only [PSt, pick, List.cons_append, List.nil_append, List.getElem?_cons_succ, List.getElem?_cons_zero, List.getElem?_nil] at o7
            clear oq
            refine ⟨Eq.trans (Own.satK o7 4 rfl) (Eq.symm (Own.satK (x := box b13 _ _) (by assumption) 3 rfl)), ?_⟩
            have one1 := exR_one (Own.satK o7 2 rfl) hx1
            (refine RunVC.litN o7 sl47 ty49 rfl rfl (by decide) ?_)
            refine And.intro rfl ?_
            intro b1101 m1101 o1101
            refine And.intro ((o1101.boxBlk 4 rfl).trans (o7.boxBlk 4 rfl).symm) ?_
            have on := Own.nilRow (by assumption) 49 9
            simp only [List.cons_append, List.nil_append] at on
            refine RunVC.append on 8 rfl sl47 ty49 (by decide) (Own.boxArrN on 7 rfl (n := 1) rfl (by omega)) (by simp [Value.oneCell']) (by simp only [maxLen]; omega) (by omega) ?_
            intro vA mA oA
            obtain ⟨ua, uc, rfl⟩ := oA.rowIs 8 rfl
            refine StillVC.idxN sl47 ty49 (oA.rowArrN 8 rfl) rfl (by omega) (by omega) ?_
            refine StillVC.fieldAddr st49 rfl rfl rfl ?_
            refine ⟨?_, ?_⟩
            · skip
              refine RunVC.storeRN (i := 0) (by assumption) 8 rfl ty49 rfl rfl rfl c1.2 (by decide) (by decide) one1 ?_
              intro mB oB
              simp only [List.set_cons_succ, List.set_cons_zero] at oB
              (refine RunVC.store oB 4 rfl ty47 rfl (by simp) (And.intro ⟨rfl, rfl⟩ ?_); intro m1140 o1140)
              refine ⟨rfl, ?_⟩
              have ef := lset_full (cs := [.int .i64 0, .string ⟨⟨[]⟩⟩, nilV, nilV, nilV, .string ⟨⟨[]⟩⟩, .string ⟨⟨[]⟩⟩, .int .i64 0, .int .i64 0]) (c := c1) rfl
              exact ⟨a1, q2, w2, c1, I1, ua, uc, hm, hle2, hR2, hx1, ef ▸ Own.sel (by assumption) [0, 1, 2, 3, 4, 5, 6, 8] rfl⟩
            · skip
              (refine RunVC.store oA 4 rfl ty47 rfl (by simp) (And.intro ⟨rfl, rfl⟩ ?_); intro m1150 o1150)
              refine RunVC.storeRN (i := 0) (by assumption) 8 rfl ty49 rfl rfl rfl c1.2 (by decide) (by decide) one1 ?_
              intro mB oB
              simp only [List.set_cons_succ, List.set_cons_zero] at oB
              refine ⟨rfl, ?_⟩
              have ef := lset_full (cs := [.int .i64 0, .string ⟨⟨[]⟩⟩, nilV, nilV, nilV, .string ⟨⟨[]⟩⟩, .string ⟨⟨[]⟩⟩, .int .i64 0, .int .i64 0]) (c := c1) rfl
              exact ⟨a1, q2, w2, c1, I1, ua, uc, hm, hle2, hR2, hx1, ef ▸ Own.sel (by assumption) [0, 1, 2, 3, 4, 5, 6, 8] rfl⟩
          · skip
            (refine RunVC.litN o6 sl47 ty49 rfl rfl (by decide) ?_)
            refine And.intro rfl ?_
            intro b1281 m1281 o1281
            refine And.intro ((o1281.boxBlk 3 rfl).trans (o6.boxBlk 3 rfl).symm) ?_
            refine PEndI.callL (fun B' o' => ih (level + 1) (by omega) B' bp z tk _ _ _ o' hR1 (by omega)) (by assumption) rfl (fun a1 q2 w2 v I1 h6 hm hv hle2 hR2 oq => ?_) (fun e w' h' hm o2 => ⟨e, w', hE.trans (PM.bind_err hm), rfl, o2⟩)
            obtain ⟨c1, rfl, hx1⟩ := hv
            have o7 := oq
            simp only [PSt, pick, List.cons_append, List.nil_append, List.getElem?_cons_succ, List.getElem?_cons_zero, List.getElem?_nil] at o7
            clear oq
            refine ⟨Eq.trans (Own.satK o7 4 rfl) (Eq.symm (Own.satK (x := box b13 _ _) (by assumption) 3 rfl)), ?_⟩
            have one1 := exR_one (Own.satK o7 2 rfl) hx1
            have on := Own.nilRow (by assumption) 49 9
            simp only [List.cons_append, List.nil_append] at on
            refine RunVC.append on 8 rfl sl47 ty49 (by decide) (Own.boxArrN on 7 rfl (n := 1) rfl (by omega)) (by simp [Value.oneCell']) (by simp only [maxLen]; omega) (by omega) ?_
            intro vA mA oA
            obtain ⟨ua, uc, rfl⟩ := oA.rowIs 8 rfl
            refine StillVC.idxN sl47 ty49 (oA.rowArrN 8 rfl) rfl (by omega) (by omega) ?_
            refine StillVC.fieldAddr st49 rfl rfl rfl ?_
            refine ⟨?_, ?_⟩
            · skip
              refine RunVC.storeRN (i := 0) (by assumption) 8 rfl ty49 rfl rfl rfl c1.2 (by decide) (by decide) one1 ?_
              intro mB oB
              simp only [List.set_cons_succ, List.set_cons_zero] at oB
              (refine RunVC.store oB 4 rfl ty47 rfl (by simp) (And.intro ⟨rfl, rfl⟩ ?_); intro m1340 o1340)
              refine ⟨rfl, ?_⟩
              have ef := lset_full (cs := [.int .i64 0, .string ⟨⟨[]⟩⟩, nilV, nilV, nilV, .string ⟨⟨[]⟩⟩, .string ⟨⟨[]⟩⟩, .int .i64 0, .int .i64 0]) (c := c1) rfl
              exact ⟨a1, q2, w2, c1, I1, ua, uc, hm, hle2, hR2, hx1, ef ▸ Own.sel (by assumption) [0, 1, 2, 3, 4, 5, 6, 8] rfl⟩
            · skip
              (refine RunVC.store oA 4 rfl ty47 rfl (by simp) (And.intro ⟨rfl, rfl⟩ ?_); intro m1350 o1350)
              refine RunVC.storeRN (i := 0) (by assumption) 8 rfl ty49 rfl rfl rfl c1.2 (by decide) (by decide) one1 ?_
              intro mB oB
              simp only [List.set_cons_succ, List.set_cons_zero] at oB
              refine ⟨rfl, ?_⟩
              have ef := lset_full (cs := [.int .i64 0, .string ⟨⟨[]⟩⟩, nilV, nilV, nilV, .string ⟨⟨[]⟩⟩, .string ⟨⟨[]⟩⟩, .int .i64 0, .int .i64 0]) (c := c1) rfl
              exact ⟨a1, q2, w2, c1, I1, ua, uc, hm, hle2, hR2, hx1, ef ▸ Own.sel (by assumption) [0, 1, 2, 3, 4, 5, 6, 8] rfl⟩
        · rintro _ junk2 h7 ⟨a1, q2, w2, c1, I1, ua, uc, hm, hle2, hR2, hx1, o8⟩
          rw [PM.bind_ok hm] at hE
          rw [ifP_no (by rfl), PM.pure_bind'] at hE
          refine StillVC.run (StillVC.fieldAddr st149 rfl rfl rfl ?_)
          refine StillVC.run (StillVC.loadO o8 6 rfl ty4 rfl rfl ?_)
          refine Br.ff ?_
          refine RegVC.plain ?_
          refine StillVC.run (StillVC.fieldAddr st149 rfl rfl rfl ?_)
          refine StillVC.run (StillVC.loadO o8 6 rfl ty147 rfl rfl ?_)
          refine RestEnd.callL (fun B' o' => rest0_spec (headOff ts) (.slice ua 1 uc) [a1] B' bp z tk b13 pb w2 q2 h7 o' hR2 (by omega)) o8 [0, 1, 4, 5] [2, 3, 7] rfl rfl (fun x q3 w3 c J h8 hm3 hJ hle3 hR3 oq => ?_) (fun e w' h' hm3 o2 => ⟨e, w', hE.trans (PM.bind_err hm3), rfl, o2⟩)
          rw [PM.bind_ok hm3] at hE
          obtain ⟨vc, vn, cs, ns, at_, as_, ag, rfl, rfl, rc, rn⟩ := hJ
          unfold exC at oq
          have o9 := oq
          simp only [PSt, pick, List.cons_append, List.nil_append, List.getElem?_cons_succ, List.getElem?_cons_zero, List.getElem?_nil] at o9
          clear oq o8
          obtain ⟨xa, xb, rfl⟩ := rc.isS (Own.satK o9 4 rfl)
          obtain ⟨ya, yb, rfl⟩ := rn.isS (Own.satK o9 4 rfl)
          (refine RunVC.lit o9 sl42 ty9 rfl rfl (by decide) (And.intro rfl ?_); intro b1520 m1520 o1520)
          refine pneed_call (ss := [[41]]) (by assumption) rfl (by first | exact ⟨2, by decide, rfl⟩ | exact ⟨3, by decide, rfl⟩ | exact ⟨4, by decide, rfl⟩ | exact ⟨5, by decide, rfl⟩ | exact ⟨6, by decide, rfl⟩ | exact ⟨7, by decide, rfl⟩ | exact ⟨8, by decide, rfl⟩ | exact ⟨9, by decide, rfl⟩) hR3 (by omega) (by decide) (fun _ q4 w4 v h9 hm4 hv hle4 hR4 oq => ?_) (fun e w' h' hm o2 => ⟨e, w', hE.trans (PM.bind_err hm), rfl, o2⟩)
          subst hv
          rw [PM.bind_ok hm4] at hE
          have o10 := oq
          simp only [PSt, pick, List.cons_append, List.nil_append, List.getElem?_cons_succ, List.getElem?_cons_zero, List.getElem?_nil] at o10
          clear oq o9
          refine StillVC.run (StillVC.loadON o10 2 rfl ty49 rfl rfl rfl ?_)
          (refine RunVC.storeL o10 6 rfl ty49 rfl (by decide) (And.intro ⟨rfl, rfl⟩ ?_); intro m1541 o1541)
          first | refine RetVC.cell2 rfl o1541 6 rfl ty49 rfl rfl ?_ | refine RetVC.cell1 rfl o1541 6 rfl ty49 rfl rfl ?_ | refine RetVC.cellTT rfl o1541 6 rfl ty49 rfl rfl ?_
          have er : [c1].flatMap Subtype.val = c1.1 := by simp
          exact ⟨_, q4, w4, joinI (joinI J I1) (row (.slice ua 1 uc) 49 9 1 c1.1), hE, ⟨⟨exC 2 [] (.slice ua 1 uc) (.slice xa cs.length xb) (.slice ya ns.length yb) at_ as_ ag (headOff ts), rfl⟩, rfl, by rw [exR]; exact ⟨_, _, _, rfl, rc.inl.inl, rn.inl.inl, [c1], by rw [er]; exact row_reads.inr, exR.mono (fun _ (s : (joinI (joinI _ _) _).sat _) => s.1.2) _ _ hx1, trivial⟩⟩, by omega, hR4, ((Own.sel (by assumption) [4, 5, 7, 0, 1] rfl).join.join).sel [1, 2, 0] rfl⟩

end Go.Proofs.YtnmfanjhepepbaaGreatDoor

/- The parser's expressions: project. -/
namespace Go.Proofs.YtnmfanjhepepbaaGreatDoor
open Go

set_option maxHeartbeats 100000000 in
set_option maxRecDepth 100000 in
theorem expr_project (n : Nat) (hn : n ≤ 11) (ih : ExSpec n) : ∀ (level : Int) (_ : level = 13 - ((n + 1 : Nat) : Int)) (B : Base) (bp z : Nat) (tk : Item) (w : Value) (ts : List Tok) (h : Heap) (_ : Own B (PSt bp z w tk) h) (_ : TokR tk w ts) (_ : ts.length ≤ 5000) (_ : ∀ j, j < 1 → seesB [opNames.getD j [], [40]] ts = false) (_ : seesB [[112, 114, 111, 106, 101, 99, 116], [40]] ts = true),
    Spec Tryz.prog 87 [.pointer (some ⟨bp, 0, none⟩), .int .i64 level] h (PEndI B bp z tk ts.length (exprP z (n + 1) ts) exV) := by
  intro level hlv B bp z tk w ts h o hR hl hno hb
  obtain ⟨hRd, hK⟩ := hR
  have hR : TokR tk w ts := ⟨hRd, hK⟩
  refine Spec.enter Tryz.func87 rfl Tryz.ntmps87 (by kernel_rfl) ?_
  (refine RunVC.alloc o ty49 ?_; intro b10 m10 o10)
  refine Br.dec (fun hc => absurd hc (by omega)) (fun c11 => ?_)
  refine StillVC.run (StillVC.buildK st49 ?_)
  refine And.intro rfl ?_
  (refine RunVC.alloc o10 ty49 ?_; intro b13 m13 o13)
  (refine RunVC.storeL o13 3 rfl ty49 rfl (by decide) (And.intro ⟨rfl, rfl⟩ ?_); intro m14 o14)
  refine StillVC.run (StillVC.nilCheck rfl ?_)
  refine StillVC.run (StillVC.fieldAddr st68 rfl rfl rfl ?_)
  refine StillVC.run (StillVC.loadO o14 0 rfl ty31 rfl rfl ?_)
  refine StillVC.run (StillVC.lenN (o14.reads 1 hRd rfl) sl31 ?_)
  refine Br.join [19, 20, 21, 22, 23, 24, 25, 26] [] (fun _ hh => Own B [box bp [w, .int .i64 z] 68, tk, box b10 [.int .i64 0, .string ⟨⟨[]⟩⟩, nilV, nilV, nilV, .string ⟨⟨[]⟩⟩, .string ⟨⟨[]⟩⟩, .int .i64 0, .int .i64 0] 49, box b13 [.int .i64 1, .string ⟨⟨[]⟩⟩, nilV, nilV, nilV, .string ⟨⟨[]⟩⟩, .string ⟨⟨[]⟩⟩, .int .i64 0, .int .i64 (headOff ts)] 49] hh) rfl rfl ?_ ?_
  · cases ts with
    | nil =>
      refine Br.ff ?_
      refine ⟨rfl, ?_⟩
      exact o14
    | cons t r =>
      have hx : (t :: r)[0]? = some t := rfl
      have hln : (t :: r).length = r.length + 1 := rfl
      refine Br.dec (fun c30 => ?_) (fun hc => absurd (by omega) hc)
      refine StillVC.run (StillVC.nilCheck rfl ?_)
      refine StillVC.run (StillVC.fieldAddr st68 rfl rfl rfl ?_)
      refine StillVC.run (StillVC.loadO o14 0 rfl ty31 rfl rfl ?_)
      refine StillVC.run (StillVC.idxN sl31 ty38 (o14.reads 1 hRd rfl) rfl (by omega) (by omega) ?_)
      refine StillVC.run (StillVC.fieldAdr (o14.reads 1 hRd rfl) (by omega) st38 rfl rfl rfl ?_)
      refine StillVC.run (StillVC.loadFF (o14.reads 1 hRd rfl) ty3 (fun _ => rfl) rfl (by assumption) rfl ?_)
      refine StillVC.run (StillVC.fieldAddr st49 rfl rfl rfl ?_)
      (refine RunVC.storeL o14 3 rfl ty3 rfl (by decide) (And.intro ⟨rfl, rfl⟩ ?_); intro m38 o38)
      refine ⟨rfl, ?_⟩
      exact Own.sel (by assumption) [0, 1, 2, 3] rfl
  · intro vs junk hh oh
    refine CallVC.ret (operations_spec bp _) ?_
    rintro _ h2 ⟨bo, pb, rfl, oc⟩
    have o2 := oh.call oc
    simp only [List.cons_append, List.nil_append] at o2
    clear oc
    refine StillVC.run (StillVC.lenV rfl sl145 ?_)
    refine LoopVC.intro [6, 7, 30, 31, 32, 33, 34, 35, 36, 37, 38, 39, 40, 41, 42, 43, 44, 45, 46, 47, 48, 49, 50, 51, 52, 53, 54, 55, 56, 57, 58, 59, 60, 61, 62, 63, 64, 65, 66, 67, 68, 69, 70, 71, 72, 73, 74, 75, 76, 77, 78, 79, 80, 81, 82, 83] [30] (fun vs hh => ∃ (i : Nat), i ≤ 1 ∧ vs = [.int .i64 i] ∧ Own B [box bp [w, .int .i64 z] 68, tk, box b10 [.int .i64 0, .string ⟨⟨[]⟩⟩, nilV, nilV, nilV, .string ⟨⟨[]⟩⟩, .string ⟨⟨[]⟩⟩, .int .i64 0, .int .i64 0] 49, box b13 [.int .i64 1, .string ⟨⟨[]⟩⟩, nilV, nilV, nilV, .string ⟨⟨[]⟩⟩, .string ⟨⟨[]⟩⟩, .int .i64 0, .int .i64 (headOff ts)] 49, box pb [.pointer (some ⟨bp, 0, none⟩)] 66, box bo (opsC pb) 149] hh) (fun vs _ => match vs with | [.int _ i] => 7 - i.toNat | _ => 0) ?_ ?_
    · exact ⟨0, by omega, rfl, o2⟩
    · rintro vs' junk' h3 ⟨i, hi, rfl, o3⟩
      clear o14 oh o2
      have hoL : (opsC pb).length = 7 * 3 := rfl
      rcases (by omega : i = 0 ∨ i = 1) with rfl | rfl
      · refine Br.tt ?_
        refine StillVC.run (StillVC.idxN sl145 ty149 (o3.boxArrN 5 rfl (by assumption) (by omega)) rfl (by omega) (by omega) ?_)
        refine StillVC.run (StillVC.loadON o3 5 rfl ty149 rfl rfl rfl ?_)
        (refine RunVC.alloc o3 ty149 ?_; intro b1002 m1002 o1002)
        (refine RunVC.storeL o1002 6 rfl ty149 rfl (by decide) (And.intro ⟨rfl, rfl⟩ ?_); intro m1003 o1003)
        refine StillVC.run (StillVC.fieldAddr st149 rfl rfl rfl ?_)
        refine StillVC.run (StillVC.loadO o1003 6 rfl ty9 rfl rfl ?_)
        (refine RunVC.lit o1003 sl42 ty9 rfl rfl (by decide) (And.intro rfl ?_); intro b1006 m1006 o1006)
        refine CallVC.ret (peek_spec [[115, 101, 108, 101, 99, 116], [40]] _ bp w ts _ (Own.cellB (by assumption) 0 rfl 0) (Own.reads (by assumption) 1 hR.1 rfl) (Own.boxArr (by assumption) 7 rfl rfl (by decide)) hl) ?_
        rintro _ h4 ⟨rv, oc⟩
        have o4 := oc.thenE (by assumption)
        clear oc
        have hb : seesB [[115, 101, 108, 101, 99, 116], [40]] ts = false := hno 0 (by decide)
        rw [hb] at rv
        subst rv
        refine Br.tt ?_
        refine Ar.i64 (by omega) (by omega) ?_
        refine ⟨rfl, ?_⟩
        exact ⟨⟨1, by omega, rfl, Own.sel (by assumption) [0, 1, 2, 3, 4, 5] rfl⟩, by simp⟩
      · refine Br.tt ?_
        refine StillVC.run (StillVC.idxN sl145 ty149 (o3.boxArrN 5 rfl (by assumption) (by omega)) rfl (by omega) (by omega) ?_)
        refine StillVC.run (StillVC.loadON o3 5 rfl ty149 rfl rfl rfl ?_)
        (refine RunVC.alloc o3 ty149 ?_; intro b2002 m2002 o2002)
        (refine RunVC.storeL o2002 6 rfl ty149 rfl (by decide) (And.intro ⟨rfl, rfl⟩ ?_); intro m2003 o2003)
        refine StillVC.run (StillVC.fieldAddr st149 rfl rfl rfl ?_)
        refine StillVC.run (StillVC.loadO o2003 6 rfl ty9 rfl rfl ?_)
        (refine RunVC.lit o2003 sl42 ty9 rfl rfl (by decide) (And.intro rfl ?_); intro b2006 m2006 o2006)
        refine CallVC.ret (peek_spec [[112, 114, 111, 106, 101, 99, 116], [40]] _ bp w ts _ (Own.cellB (by assumption) 0 rfl 0) (Own.reads (by assumption) 1 hR.1 rfl) (Own.boxArr (by assumption) 7 rfl rfl (by decide)) hl) ?_
        rintro _ h4 ⟨rv, oc⟩
        have o4 := oc.thenE (by assumption)
        clear oc
        rw [hb] at rv
        subst rv
        have hE : exprP z (n + 1) ts = (needP z [[112, 114, 111, 106, 101, 99, 116], [40]] >>= fun _ => exprP z n >>= fun a => ifP (twoB 1) (needP z [[44]] >>= fun _ => exprP z n >>= fun b => pure [a, b]) [a] >>= fun kids => opRest z 1 (headOff ts) kids >>= fun x => needP z [[41]] >>= fun _ => (pure x : PM Ex)) ts := exprP_some (opIdx_some (by decide) hno hb)
        have o5 := o4.sel [0, 1, 2, 3, 4, 6] rfl
        simp only [PSt, pick, List.cons_append, List.nil_append, List.getElem?_cons_succ, List.getElem?_cons_zero, List.getElem?_nil] at o5
        clear o3 o4
        refine Br.ff ?_
        refine Ar.i64 (by omega) (by omega) ?_
        refine StillVC.run (StillVC.fieldAddr st49 rfl rfl rfl ?_)
        (refine RunVC.store o5 3 rfl ty3 rfl (by simp) (And.intro ⟨rfl, rfl⟩ ?_); intro m2041 o2041)
        refine StillVC.run (StillVC.fieldAddr st149 rfl rfl rfl ?_)
        refine StillVC.run (StillVC.loadO o2041 5 rfl ty9 rfl rfl ?_)
        (refine RunVC.lit o2041 sl42 ty9 rfl rfl (by decide) (And.intro rfl ?_); intro b2044 m2044 o2044)
        refine pneed_call (ss := [[112, 114, 111, 106, 101, 99, 116], [40]]) (by assumption) rfl (by first | exact ⟨2, by decide, rfl⟩ | exact ⟨3, by decide, rfl⟩ | exact ⟨4, by decide, rfl⟩ | exact ⟨5, by decide, rfl⟩ | exact ⟨6, by decide, rfl⟩ | exact ⟨7, by decide, rfl⟩ | exact ⟨8, by decide, rfl⟩ | exact ⟨9, by decide, rfl⟩) hR (by omega) (by decide) (fun _ q1 w1 v h5 hm hv hle1 hR1 oq => ?_) (fun e w' h' hm o2 => ⟨e, w', hE.trans (PM.bind_err hm), rfl, o2⟩)
        subst hv
        rw [PM.bind_ok hm] at hE
        have o6 := oq.sel [0, 1, 2, 3, 4, 5] rfl
        simp only [PSt, pick, List.cons_append, List.nil_append, List.getElem?_cons_succ, List.getElem?_cons_zero, List.getElem?_nil] at o6
        clear oq hm
        refine DrawVC.join [49, 50, 51, 52, 53, 54, 55, 56, 57, 58, 59] [] (fun _ hh => ∃ (a1 : Ex) (q2 : List Tok) (w2 : Value) (c1 : Cells9) (I1 : Item) (ua : Option Addr) (uc : Nat), exprP z n q1 = .ok (a1, q2) ∧ q2.length ≤ q1.length ∧ TokR tk w2 q2 ∧ exR I1 c1.1 a1 ∧ Own B [box bp [w2, .int .i64 z] 68, tk, I1, box b10 [.int .i64 0, .string ⟨⟨[]⟩⟩, nilV, nilV, nilV, .string ⟨⟨[]⟩⟩, .string ⟨⟨[]⟩⟩, .int .i64 0, .int .i64 0] 49, box b13 [.int .i64 3, .string ⟨⟨[]⟩⟩, .slice ua 1 uc, nilV, nilV, .string ⟨⟨[]⟩⟩, .string ⟨⟨[]⟩⟩, .int .i64 0, .int .i64 (headOff ts)] 49, box pb [.pointer (some ⟨bp, 0, none⟩)] 66, box b2002 [.string ⟨⟨[112, 114, 111, 106, 101, 99, 116]⟩⟩, .bool false, .func (.func 118) ⟨[]⟩ ⟨[.pointer (some ⟨pb, 0, none⟩)]⟩] 149, row (.slice ua 1 uc) 49 9 1 c1.1] hh) ?_ ?_
        · refine DrawVC.introBT b13 [0, 2, 3, 4, 6, 9, 11] [1] [8, 10, 12] (.one 0 (.one 1 (.one 2 (.one 3 (.one 4 (.one 6 (.fork 5 7 (.one 7 (.one 8 (.one 9 (.one 11 (.fork 10 12 (.one 12 .done) (.one 10 .done)))))) (.one 5 (.one 8 (.one 9 (.one 11 (.fork 10 12 (.one 12 .done) (.one 10 .done))))))))))))) mixed (by kernel_rfl) rfl (fun _ _ _ _ h => h) ?_
          refine StillVC.fieldAddr st49 rfl rfl rfl ?_
          refine StillVCA.load1 ty47 rfl rfl ((o6.cellB 3 rfl _).trans rfl) ?_
          refine Ar.i64 (by omega) (by omega) ?_
          refine StillVC.lenV rfl sl47 ?_
          refine ⟨?_, ?_⟩
          · skip
            refine PEndI.callL (fun B' o' => ih (level + 1) (by omega) B' bp z tk _ _ _ o' hR1 (by omega)) (by assumption) rfl (fun a1 q2 w2 v I1 h6 hm hv hle2 hR2 oq => ?_) (fun e w' h' hm o2 => ⟨e, w', hE.trans (PM.bind_err hm), rfl, o2⟩)
            obtain ⟨c1, rfl, hx1⟩ := hv
            have o7 := oq
            simp only [PSt, pick, List.cons_append, List.nil_append, List.getElem?_cons_succ, List.getElem?_cons_zero, List.getElem?_nil] at o7
            clear oq
            refine ⟨Eq.trans (Own.satK o7 4 rfl) (Eq.symm (Own.satK (x := box b13 _ _) (by assumption) 3 rfl)), ?_⟩
            have one1 := exR_one (Own.satK o7 2 rfl) hx1
            (refine RunVC.litN o7 sl47 ty49 rfl rfl (by decide) ?_)
            refine And.intro rfl ?_
            intro b2101 m2101 o2101
            refine And.intro ((o2101.boxBlk 4 rfl).trans (o7.boxBlk 4 rfl).symm) ?_
            have on := Own.nilRow (by assumption) 49 9
            simp only [List.cons_append, List.nil_append] at on
            refine RunVC.append on 8 rfl sl47 ty49 (by decide) (Own.boxArrN on 7 rfl (n := 1) rfl (by omega)) (by simp [Value.oneCell']) (by simp only [maxLen]; omega) (by omega) ?_
            intro vA mA oA
            obtain ⟨ua, uc, rfl⟩ := oA.rowIs 8 rfl
            refine StillVC.idxN sl47 ty49 (oA.rowArrN 8 rfl) rfl (by omega) (by omega) ?_
            refine StillVC.fieldAddr st49 rfl rfl rfl ?_
            refine ⟨?_, ?_⟩
            · skip
              refine RunVC.storeRN (i := 0) (by assumption) 8 rfl ty49 rfl rfl rfl c1.2 (by decide) (by decide) one1 ?_
              intro mB oB
              simp only [List.set_cons_succ, List.set_cons_zero] at oB
              (refine RunVC.store oB 4 rfl ty47 rfl (by simp) (And.intro ⟨rfl, rfl⟩ ?_); intro m2140 o2140)
              refine ⟨rfl, ?_⟩
              have ef := lset_full (cs := [.int .i64 0, .string ⟨⟨[]⟩⟩, nilV, nilV, nilV, .string ⟨⟨[]⟩⟩, .string ⟨⟨[]⟩⟩, .int .i64 0, .int .i64 0]) (c := c1) rfl
              exact ⟨a1, q2, w2, c1, I1, ua, uc, hm, hle2, hR2, hx1, ef ▸ Own.sel (by assumption) [0, 1, 2, 3, 4, 5, 6, 8] rfl⟩
            · skip
              (refine RunVC.store oA 4 rfl ty47 rfl (by simp) (And.intro ⟨rfl, rfl⟩ ?_); intro m2150 o2150)
              refine RunVC.storeRN (i := 0) (by assumption) 8 rfl ty49 rfl rfl rfl c1.2 (by decide) (by decide) one1 ?_
              intro mB oB
              simp only [List.set_cons_succ, List.set_cons_zero] at oB
              refine ⟨rfl, ?_⟩
              have ef := lset_full (cs := [.int .i64 0, .string ⟨⟨[]⟩⟩, nilV, nilV, nilV, .string ⟨⟨[]⟩⟩, .string ⟨⟨[]⟩⟩, .int .i64 0, .int .i64 0]) (c := c1) rfl
              exact ⟨a1, q2, w2, c1, I1, ua, uc, hm, hle2, hR2, hx1, ef ▸ Own.sel (by assumption) [0, 1, 2, 3, 4, 5, 6, 8] rfl⟩
          · skip
            (refine RunVC.litN o6 sl47 ty49 rfl rfl (by decide) ?_)
            refine And.intro rfl ?_
            intro b2281 m2281 o2281
            refine And.intro ((o2281.boxBlk 3 rfl).trans (o6.boxBlk 3 rfl).symm) ?_
            refine PEndI.callL (fun B' o' => ih (level + 1) (by omega) B' bp z tk _ _ _ o' hR1 (by omega)) (by assumption) rfl (fun a1 q2 w2 v I1 h6 hm hv hle2 hR2 oq => ?_) (fun e w' h' hm o2 => ⟨e, w', hE.trans (PM.bind_err hm), rfl, o2⟩)
            obtain ⟨c1, rfl, hx1⟩ := hv
            have o7 := oq
            simp only [PSt, pick, List.cons_append, List.nil_append, List.getElem?_cons_succ, List.getElem?_cons_zero, List.getElem?_nil] at o7
            clear oq
            refine ⟨Eq.trans (Own.satK o7 4 rfl) (Eq.symm (Own.satK (x := box b13 _ _) (by assumption) 3 rfl)), ?_⟩
            have one1 := exR_one (Own.satK o7 2 rfl) hx1
            have on := Own.nilRow (by assumption) 49 9
            simp only [List.cons_append, List.nil_append] at on
            refine RunVC.append on 8 rfl sl47 ty49 (by decide) (Own.boxArrN on 7 rfl (n := 1) rfl (by omega)) (by simp [Value.oneCell']) (by simp only [maxLen]; omega) (by omega) ?_
            intro vA mA oA
            obtain ⟨ua, uc, rfl⟩ := oA.rowIs 8 rfl
            refine StillVC.idxN sl47 ty49 (oA.rowArrN 8 rfl) rfl (by omega) (by omega) ?_
            refine StillVC.fieldAddr st49 rfl rfl rfl ?_
            refine ⟨?_, ?_⟩
            · skip
              refine RunVC.storeRN (i := 0) (by assumption) 8 rfl ty49 rfl rfl rfl c1.2 (by decide) (by decide) one1 ?_
              intro mB oB
              simp only [List.set_cons_succ, List.set_cons_zero] at oB
              (refine RunVC.store oB 4 rfl ty47 rfl (by simp) (And.intro ⟨rfl, rfl⟩ ?_); intro m2340 o2340)
              refine ⟨rfl, ?_⟩
              have ef := lset_full (cs := [.int .i64 0, .string ⟨⟨[]⟩⟩, nilV, nilV, nilV, .string ⟨⟨[]⟩⟩, .string ⟨⟨[]⟩⟩, .int .i64 0, .int .i64 0]) (c := c1) rfl
              exact ⟨a1, q2, w2, c1, I1, ua, uc, hm, hle2, hR2, hx1, ef ▸ Own.sel (by assumption) [0, 1, 2, 3, 4, 5, 6, 8] rfl⟩
            · skip
              (refine RunVC.store oA 4 rfl ty47 rfl (by simp) (And.intro ⟨rfl, rfl⟩ ?_); intro m2350 o2350)
              refine RunVC.storeRN (i := 0) (by assumption) 8 rfl ty49 rfl rfl rfl c1.2 (by decide) (by decide) one1 ?_
              intro mB oB
              simp only [List.set_cons_succ, List.set_cons_zero] at oB
              refine ⟨rfl, ?_⟩
              have ef := lset_full (cs := [.int .i64 0, .string ⟨⟨[]⟩⟩, nilV, nilV, nilV, .string ⟨⟨[]⟩⟩, .string ⟨⟨[]⟩⟩, .int .i64 0, .int .i64 0]) (c := c1) rfl
              exact ⟨a1, q2, w2, c1, I1, ua, uc, hm, hle2, hR2, hx1, ef ▸ Own.sel (by assumption) [0, 1, 2, 3, 4, 5, 6, 8] rfl⟩
        · rintro _ junk2 h7 ⟨a1, q2, w2, c1, I1, ua, uc, hm, hle2, hR2, hx1, o8⟩
          rw [PM.bind_ok hm] at hE
          rw [ifP_no (by rfl), PM.pure_bind'] at hE
          refine StillVC.run (StillVC.fieldAddr st149 rfl rfl rfl ?_)
          refine StillVC.run (StillVC.loadO o8 6 rfl ty4 rfl rfl ?_)
          refine Br.ff ?_
          refine RegVC.plain ?_
          refine StillVC.run (StillVC.fieldAddr st149 rfl rfl rfl ?_)
          refine StillVC.run (StillVC.loadO o8 6 rfl ty147 rfl rfl ?_)
          refine RestEnd.callL (fun B' o' => rest1_spec (headOff ts) (.slice ua 1 uc) [a1] B' bp z tk b13 pb w2 q2 h7 o' hR2 (by omega)) o8 [0, 1, 4, 5] [2, 3, 7] rfl rfl (fun x q3 w3 c J h8 hm3 hJ hle3 hR3 oq => ?_) (fun e w' h' hm3 o2 => ⟨e, w', hE.trans (PM.bind_err hm3), rfl, o2⟩)
          rw [PM.bind_ok hm3] at hE
          obtain ⟨vc, vn, cs, ns, at_, as_, ag, rfl, rfl, rc, rn⟩ := hJ
          unfold exC at oq
          have o9 := oq
          simp only [PSt, pick, List.cons_append, List.nil_append, List.getElem?_cons_succ, List.getElem?_cons_zero, List.getElem?_nil] at o9
          clear oq o8
          obtain ⟨xa, xb, rfl⟩ := rc.isS (Own.satK o9 4 rfl)
          obtain ⟨ya, yb, rfl⟩ := rn.isS (Own.satK o9 4 rfl)
          (refine RunVC.lit o9 sl42 ty9 rfl rfl (by decide) (And.intro rfl ?_); intro b2520 m2520 o2520)
          refine pneed_call (ss := [[41]]) (by assumption) rfl (by first | exact ⟨2, by decide, rfl⟩ | exact ⟨3, by decide, rfl⟩ | exact ⟨4, by decide, rfl⟩ | exact ⟨5, by decide, rfl⟩ | exact ⟨6, by decide, rfl⟩ | exact ⟨7, by decide, rfl⟩ | exact ⟨8, by decide, rfl⟩ | exact ⟨9, by decide, rfl⟩) hR3 (by omega) (by decide) (fun _ q4 w4 v h9 hm4 hv hle4 hR4 oq => ?_) (fun e w' h' hm o2 => ⟨e, w', hE.trans (PM.bind_err hm), rfl, o2⟩)
          subst hv
          rw [PM.bind_ok hm4] at hE
          have o10 := oq
          simp only [PSt, pick, List.cons_append, List.nil_append, List.getElem?_cons_succ, List.getElem?_cons_zero, List.getElem?_nil] at o10
          clear oq o9
          refine StillVC.run (StillVC.loadON o10 2 rfl ty49 rfl rfl rfl ?_)
          (refine RunVC.storeL o10 6 rfl ty49 rfl (by decide) (And.intro ⟨rfl, rfl⟩ ?_); intro m2541 o2541)
          first | refine RetVC.cell2 rfl o2541 6 rfl ty49 rfl rfl ?_ | refine RetVC.cell1 rfl o2541 6 rfl ty49 rfl rfl ?_ | refine RetVC.cellTT rfl o2541 6 rfl ty49 rfl rfl ?_
          have er : [c1].flatMap Subtype.val = c1.1 := by simp
          exact ⟨_, q4, w4, joinI (joinI J I1) (row (.slice ua 1 uc) 49 9 1 c1.1), hE, ⟨⟨exC 3 [] (.slice ua 1 uc) (.slice xa cs.length xb) (.slice ya ns.length yb) at_ as_ ag (headOff ts), rfl⟩, rfl, by rw [exR]; exact ⟨_, _, _, rfl, rc.inl.inl, rn.inl.inl, [c1], by rw [er]; exact row_reads.inr, exR.mono (fun _ (s : (joinI (joinI _ _) _).sat _) => s.1.2) _ _ hx1, trivial⟩⟩, by omega, hR4, ((Own.sel (by assumption) [4, 5, 7, 0, 1] rfl).join.join).sel [1, 2, 0] rfl⟩

end Go.Proofs.YtnmfanjhepepbaaGreatDoor
