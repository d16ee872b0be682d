/-
  The parser's expressions: minus. The parser's expressions: rename. The parser's expressions: group. The parser's expressions.
-/
import Derived.Test.YtnmfanjhepepbaaGreatDoorStructs
import Derived.Test.YtnmfanjhepepbaaGreatDoorMEa
import Derived.Test.YtnmfanjhepepbaaGreatDoorMEb
set_option linter.all false
/- The parser's expressions: minus. -/
namespace Go.Proofs.YtnmfanjhepepbaaGreatDoor
open Go

set_option maxHeartbeats 100000000 in
set_option maxRecDepth 100000 in
theorem expr_minus (n : Nat) (hn : n ≤ 11) (ih : ExSpec n) : ∀ (level : Int) (_ : level = 13 - ((n + 1 : Nat) : Int)) (B : Base) (bp z : Nat) (tk : Item) (w : Value) (ts : List Tok) (h : Heap) (_ : Own B (PSt bp z w tk) h) (_ : TokR tk w ts) (_ : ts.length ≤ 5000) (_ : ∀ j, j < 4 → seesB [opNames.getD j [], [40]] ts = false) (_ : seesB [[109, 105, 110, 117, 115], [40]] ts = true),
    Spec Tryz.prog 87 [.pointer (some ⟨bp, 0, none⟩), .int .i64 level] h (PEndI B bp z tk ts.length (exprP z (n + 1) ts) exV) := by
  intro level hlv B bp z tk w ts h o hR hl hno hb
  obtain ⟨hRd, hK⟩ := hR
  have hR : TokR tk w ts := ⟨hRd, hK⟩
  refine Spec.enter Tryz.func87 rfl Tryz.ntmps87 (by kernel_rfl) ?_
  (refine RunVC.alloc o ty49 ?_; intro b10 m10 o10)
  refine Br.dec (fun hc => absurd hc (by omega)) (fun c11 => ?_)
  refine StillVC.run (StillVC.buildK st49 ?_)
  refine And.intro rfl ?_
  (refine RunVC.alloc o10 ty49 ?_; intro b13 m13 o13)
  (refine RunVC.storeL o13 3 rfl ty49 rfl (by decide) (And.intro ⟨rfl, rfl⟩ ?_); intro m14 o14)
  refine StillVC.run (StillVC.nilCheck rfl ?_)
  refine StillVC.run (StillVC.fieldAddr st68 rfl rfl rfl ?_)
  refine StillVC.run (StillVC.loadO o14 0 rfl ty31 rfl rfl ?_)
  refine StillVC.run (StillVC.lenN (o14.reads 1 hRd rfl) sl31 ?_)
  refine Br.join [19, 20, 21, 22, 23, 24, 25, 26] [] (fun _ hh => Own B [box bp [w, .int .i64 z] 68, tk, box b10 [.int .i64 0, .string ⟨⟨[]⟩⟩, nilV, nilV, nilV, .string ⟨⟨[]⟩⟩, .string ⟨⟨[]⟩⟩, .int .i64 0, .int .i64 0] 49, box b13 [.int .i64 1, .string ⟨⟨[]⟩⟩, nilV, nilV, nilV, .string ⟨⟨[]⟩⟩, .string ⟨⟨[]⟩⟩, .int .i64 0, .int .i64 (headOff ts)] 49] hh) rfl rfl ?_ ?_
  · cases ts with
    | nil =>
      refine Br.ff ?_
      refine ⟨rfl, ?_⟩
      exact o14
    | cons t r =>
      have hx : (t :: r)[0]? = some t := rfl
      have hln : (t :: r).length = r.length + 1 := rfl
      refine Br.dec (fun c30 => ?_) (fun hc => absurd (by omega) hc)
      refine StillVC.run (StillVC.nilCheck rfl ?_)
      refine StillVC.run (StillVC.fieldAddr st68 rfl rfl rfl ?_)
      refine StillVC.run (StillVC.loadO o14 0 rfl ty31 rfl rfl ?_)
      refine StillVC.run (StillVC.idxN sl31 ty38 (o14.reads 1 hRd rfl) rfl (by omega) (by omega) ?_)
      refine StillVC.run (StillVC.fieldAdr (o14.reads 1 hRd rfl) (by omega) st38 rfl rfl rfl ?_)
      refine StillVC.run (StillVC.loadFF (o14.reads 1 hRd rfl) ty3 (fun _ => rfl) rfl (by assumption) rfl ?_)
      refine StillVC.run (StillVC.fieldAddr st49 rfl rfl rfl ?_)
      (refine RunVC.storeL o14 3 rfl ty3 rfl (by decide) (And.intro ⟨rfl, rfl⟩ ?_); intro m38 o38)
      refine ⟨rfl, ?_⟩
      exact Own.sel (by assumption) [0, 1, 2, 3] rfl
  · intro vs junk hh oh
    refine CallVC.ret (operations_spec bp _) ?_
    rintro _ h2 ⟨bo, pb, rfl, oc⟩
    have o2 := oh.call oc
    simp only [List.cons_append, List.nil_append] at o2
    clear oc
    refine StillVC.run (StillVC.lenV rfl sl145 ?_)
    refine LoopVC.intro [6, 7, 30, 31, 32, 33, 34, 35, 36, 37, 38, 39, 40, 41, 42, 43, 44, 45, 46, 47, 48, 49, 50, 51, 52, 53, 54, 55, 56, 57, 58, 59, 60, 61, 62, 63, 64, 65, 66, 67, 68, 69, 70, 71, 72, 73, 74, 75, 76, 77, 78, 79, 80, 81, 82, 83] [30] (fun vs hh => ∃ (i : Nat), i ≤ 4 ∧ vs = [.int .i64 i] ∧ Own B [box bp [w, .int .i64 z] 68, tk, box b10 [.int .i64 0, .string ⟨⟨[]⟩⟩, nilV, nilV, nilV, .string ⟨⟨[]⟩⟩, .string ⟨⟨[]⟩⟩, .int .i64 0, .int .i64 0] 49, box b13 [.int .i64 1, .string ⟨⟨[]⟩⟩, nilV, nilV, nilV, .string ⟨⟨[]⟩⟩, .string ⟨⟨[]⟩⟩, .int .i64 0, .int .i64 (headOff ts)] 49, box pb [.pointer (some ⟨bp, 0, none⟩)] 66, box bo (opsC pb) 149] hh) (fun vs _ => match vs with | [.int _ i] => 7 - i.toNat | _ => 0) ?_ ?_
    · exact ⟨0, by omega, rfl, o2⟩
    · rintro vs' junk' h3 ⟨i, hi, rfl, o3⟩
      clear o14 oh o2
      have hoL : (opsC pb).length = 7 * 3 := rfl
      rcases (by omega : i = 0 ∨ i = 1 ∨ i = 2 ∨ i = 3 ∨ i = 4) with rfl | rfl | rfl | rfl | rfl
      · refine Br.tt ?_
        refine StillVC.run (StillVC.idxN sl145 ty149 (o3.boxArrN 5 rfl (by assumption) (by omega)) rfl (by omega) (by omega) ?_)
        refine StillVC.run (StillVC.loadON o3 5 rfl ty149 rfl rfl rfl ?_)
        (refine RunVC.alloc o3 ty149 ?_; intro b1002 m1002 o1002)
        (refine RunVC.storeL o1002 6 rfl ty149 rfl (by decide) (And.intro ⟨rfl, rfl⟩ ?_); intro m1003 o1003)
        refine StillVC.run (StillVC.fieldAddr st149 rfl rfl rfl ?_)
        refine StillVC.run (StillVC.loadO o1003 6 rfl ty9 rfl rfl ?_)
        (refine RunVC.lit o1003 sl42 ty9 rfl rfl (by decide) (And.intro rfl ?_); intro b1006 m1006 o1006)
        refine CallVC.ret (peek_spec [[115, 101, 108, 101, 99, 116], [40]] _ bp w ts _ (Own.cellB (by assumption) 0 rfl 0) (Own.reads (by assumption) 1 hR.1 rfl) (Own.boxArr (by assumption) 7 rfl rfl (by decide)) hl) ?_
        rintro _ h4 ⟨rv, oc⟩
        have o4 := oc.thenE (by assumption)
        clear oc
        have hb : seesB [[115, 101, 108, 101, 99, 116], [40]] ts = false := hno 0 (by decide)
        rw [hb] at rv
        subst rv
        refine Br.tt ?_
        refine Ar.i64 (by omega) (by omega) ?_
        refine ⟨rfl, ?_⟩
        exact ⟨⟨1, by omega, rfl, Own.sel (by assumption) [0, 1, 2, 3, 4, 5] rfl⟩, by simp⟩
      · refine Br.tt ?_
        refine StillVC.run (StillVC.idxN sl145 ty149 (o3.boxArrN 5 rfl (by assumption) (by omega)) rfl (by omega) (by omega) ?_)
        refine StillVC.run (StillVC.loadON o3 5 rfl ty149 rfl rfl rfl ?_)
        (refine RunVC.alloc o3 ty149 ?_; intro b2002 m2002 o2002)
        (refine RunVC.storeL o2002 6 rfl ty149 rfl (by decide) (And.intro ⟨rfl, rfl⟩ ?_); intro m2003 o2003)
        refine StillVC.run (StillVC.fieldAddr st149 rfl rfl rfl ?_)
        refine StillVC.run (StillVC.loadO o2003 6 rfl ty9 rfl rfl ?_)
        (refine RunVC.lit o2003 sl42 ty9 rfl rfl (by decide) (And.intro rfl ?_); intro b2006 m2006 o2006)
        refine CallVC.ret (peek_spec [[112, 114, 111, 106, 101, 99, 116], [40]] _ bp w ts _ (Own.cellB (by assumption) 0 rfl 0) (Own.reads (by assumption) 1 hR.1 rfl) (Own.boxArr (by assumption) 7 rfl rfl (by decide)) hl) ?_
        rintro _ h4 ⟨rv, oc⟩
        have o4 := oc.thenE (by assumption)
        clear oc
        have hb : seesB [[112, 114, 111, 106, 101, 99, 116], [40]] ts = false := hno 1 (by decide)
        rw [hb] at rv
        subst rv
        refine Br.tt ?_
        refine Ar.i64 (by omega) (by omega) ?_
        refine ⟨rfl, ?_⟩
        exact ⟨⟨2, by omega, rfl, Own.sel (by assumption) [0, 1, 2, 3, 4, 5] rfl⟩, by simp⟩
      · refine Br.tt ?_
        refine StillVC.run (StillVC.idxN sl145 ty149 (o3.boxArrN 5 rfl (by assumption) (by omega)) rfl (by omega) (by omega) ?_)
        refine StillVC.run (StillVC.loadON o3 5 rfl ty149 rfl rfl rfl ?_)
        (refine RunVC.alloc o3 ty149 ?_; intro b3002 m3002 o3002)
        (refine RunVC.storeL o3002 6 rfl ty149 rfl (by decide) (And.intro ⟨rfl, rfl⟩ ?_); intro m3003 o3003)
        refine StillVC.run (StillVC.fieldAddr st149 rfl rfl rfl ?_)
        refine StillVC.run (StillVC.loadO o3003 6 rfl ty9 rfl rfl ?_)
        (refine RunVC.lit o3003 sl42 ty9 rfl rfl (by decide) (And.intro rfl ?_); intro b3006 m3006 o3006)
        refine CallVC.ret (peek_spec [[106, 111, 105, 110], [40]] _ bp w ts _ (Own.cellB (by assumption) 0 rfl 0) (Own.reads (by assumption) 1 hR.1 rfl) (Own.boxArr (by assumption) 7 rfl rfl (by decide)) hl) ?_
        rintro _ h4 ⟨rv, oc⟩
        have o4 := oc.thenE (by assumption)
        clear oc
        have hb : seesB [[106, 111, 105, 110], [40]] ts = false := hno 2 (by decide)
        rw [hb] at rv
        subst rv
        refine Br.tt ?_
        refine Ar.i64 (by omega) (by omega) ?_
        refine ⟨rfl, ?_⟩
        exact ⟨⟨3, by omega, rfl, Own.sel (by assumption) [0, 1, 2, 3, 4, 5] rfl⟩, by simp⟩
      · refine Br.tt ?_
        refine StillVC.run (StillVC.idxN sl145 ty149 (o3.boxArrN 5 rfl (by assumption) (by omega)) rfl (by omega) (by omega) ?_)
        refine StillVC.run (StillVC.loadON o3 5 rfl ty149 rfl rfl rfl ?_)
        (refine RunVC.alloc o3 ty149 ?_; intro b4002 m4002 o4002)
        (refine RunVC.storeL o4002 6 rfl ty149 rfl (by decide) (And.intro ⟨rfl, rfl⟩ ?_); intro m4003 o4003)
        refine StillVC.run (StillVC.fieldAddr st149 rfl rfl rfl ?_)
        refine StillVC.run (StillVC.loadO o4003 6 rfl ty9 rfl rfl ?_)
        (refine RunVC.lit o4003 sl42 ty9 rfl rfl (by decide) (And.intro rfl ?_); intro b4006 m4006 o4006)
        refine CallVC.ret (peek_spec [[117, 110, 105, 111, 110], [40]] _ bp w ts _ (Own.cellB (by assumption) 0 rfl 0) (Own.reads (by assumption) 1 hR.1 rfl) (Own.boxArr (by assumption) 7 rfl rfl (by decide)) hl) ?_
        rintro _ h4 ⟨rv, oc⟩
        have o4 := oc.thenE (by assumption)
        clear oc
        have hb : seesB [[117, 110, 105, 111, 110], [40]] ts = false := hno 3 (by decide)
        rw [hb] at rv
        subst rv
        refine Br.tt ?_
        refine Ar.i64 (by omega) (by omega) ?_
        refine ⟨rfl, ?_⟩
        exact ⟨⟨4, by omega, rfl, Own.sel (by assumption) [0, 1, 2, 3, 4, 5] rfl⟩, by simp⟩
      · refine Br.tt ?_
        refine StillVC.run (StillVC.idxN sl145 ty149 (o3.boxArrN 5 rfl (by assumption) (by omega)) rfl (by omega) (by omega) ?_)
        refine StillVC.run (StillVC.loadON o3 5 rfl ty149 rfl rfl rfl ?_)
        (refine RunVC.alloc o3 ty149 ?_; intro b5002 m5002 o5002)
        (refine RunVC.storeL o5002 6 rfl ty149 rfl (by decide) (And.intro ⟨rfl, rfl⟩ ?_); intro m5003 o5003)
        refine StillVC.run (StillVC.fieldAddr st149 rfl rfl rfl ?_)
        refine StillVC.run (StillVC.loadO o5003 6 rfl ty9 rfl rfl ?_)
        (refine RunVC.lit o5003 sl42 ty9 rfl rfl (by decide) (And.intro rfl ?_); intro b5006 m5006 o5006)
        refine CallVC.ret (peek_spec [[109, 105, 110, 117, 115], [40]] _ bp w ts _ (Own.cellB (by assumption) 0 rfl 0) (Own.reads (by assumption) 1 hR.1 rfl) (Own.boxArr (by assumption) 7 rfl rfl (by decide)) hl) ?_
        rintro _ h4 ⟨rv, oc⟩
        have o4 := oc.thenE (by assumption)
        clear oc
        rw [hb] at rv
        subst rv
        have hE : exprP z (n + 1) ts = (needP z [[109, 105, 110, 117, 115], [40]] >>= fun _ => exprP z n >>= fun a => ifP (twoB 4) (needP z [[44]] >>= fun _ => exprP z n >>= fun b => pure [a, b]) [a] >>= fun kids => opRest z 4 (headOff ts) kids >>= fun x => needP z [[41]] >>= fun _ => (pure x : PM Ex)) ts := exprP_some (opIdx_some (by decide) hno hb)
        have o5 := o4.sel [0, 1, 2, 3, 4, 6] rfl
        simp only [PSt, pick, List.cons_append, List.nil_append, List.getElem?_cons_succ, List.getElem?_cons_zero, List.getElem?_nil] at o5
        clear o3 o4
        refine Br.ff ?_
        refine Ar.i64 (by omega) (by omega) ?_
        refine StillVC.run (StillVC.fieldAddr st49 rfl rfl rfl ?_)
        (refine RunVC.store o5 3 rfl ty3 rfl (by simp) (And.intro ⟨rfl, rfl⟩ ?_); intro m5041 o5041)
        refine StillVC.run (StillVC.fieldAddr st149 rfl rfl rfl ?_)
        refine StillVC.run (StillVC.loadO o5041 5 rfl ty9 rfl rfl ?_)
        (refine RunVC.lit o5041 sl42 ty9 rfl rfl (by decide) (And.intro rfl ?_); intro b5044 m5044 o5044)
        refine pneed_call (ss := [[109, 105, 110, 117, 115], [40]]) (by assumption) rfl (by first | exact ⟨2, by decide, rfl⟩ | exact ⟨3, by decide, rfl⟩ | exact ⟨4, by decide, rfl⟩ | exact ⟨5, by decide, rfl⟩ | exact ⟨6, by decide, rfl⟩ | exact ⟨7, by decide, rfl⟩ | exact ⟨8, by decide, rfl⟩ | exact ⟨9, by decide, rfl⟩) hR (by omega) (by decide) (fun _ q1 w1 v h5 hm hv hle1 hR1 oq => ?_) (fun e w' h' hm o2 => ⟨e, w', hE.trans (PM.bind_err hm), rfl, o2⟩)
        subst hv
        rw [PM.bind_ok hm] at hE
        have o6 := oq.sel [0, 1, 2, 3, 4, 5] rfl
        simp only [PSt, pick, List.cons_append, List.nil_append, List.getElem?_cons_succ, List.getElem?_cons_zero, List.getElem?_nil] at o6
        clear oq hm
        refine DrawVC.join [49, 50, 51, 52, 53, 54, 55, 56, 57, 58, 59] [] (fun _ hh => ∃ (a1 : Ex) (q2 : List Tok) (w2 : Value) (c1 : Cells9) (I1 : Item) (ua : Option Addr) (uc : Nat), exprP z n q1 = .ok (a1, q2) ∧ q2.length ≤ q1.length ∧ TokR tk w2 q2 ∧ exR I1 c1.1 a1 ∧ Own B [box bp [w2, .int .i64 z] 68, tk, I1, box b10 [.int .i64 0, .string ⟨⟨[]⟩⟩, nilV, nilV, nilV, .string ⟨⟨[]⟩⟩, .string ⟨⟨[]⟩⟩, .int .i64 0, .int .i64 0] 49, box b13 [.int .i64 6, .string ⟨⟨[]⟩⟩, .slice ua 1 uc, nilV, nilV, .string ⟨⟨[]⟩⟩, .string ⟨⟨[]⟩⟩, .int .i64 0, .int .i64 (headOff ts)] 49, box pb [.pointer (some ⟨bp, 0, none⟩)] 66, box b5002 [.string ⟨⟨[109, 105, 110, 117, 115]⟩⟩, .bool true, .func (.func 116) ⟨[]⟩ ⟨[]⟩] 149, row (.slice ua 1 uc) 49 9 1 c1.1] hh) ?_ ?_
        · refine DrawVC.introBT b13 [0, 2, 3, 4, 6, 9, 11] [1] [8, 10, 12] (.one 0 (.one 1 (.one 2 (.one 3 (.one 4 (.one 6 (.fork 5 7 (.one 7 (.one 8 (.one 9 (.one 11 (.fork 10 12 (.one 12 .done) (.one 10 .done)))))) (.one 5 (.one 8 (.one 9 (.one 11 (.fork 10 12 (.one 12 .done) (.one 10 .done))))))))))))) mixed (by kernel_rfl) rfl (fun _ _ _ _ h => h) ?_
          refine StillVC.fieldAddr st49 rfl rfl rfl ?_
          refine StillVCA.load1 ty47 rfl rfl ((o6.cellB 3 rfl _).trans rfl) ?_
          refine Ar.i64 (by omega) (by omega) ?_
          refine StillVC.lenV rfl sl47 ?_
          refine ⟨?_, ?_⟩
          · skip
            refine PEndI.callL (fun B' o' => ih (level + 1) (by omega) B' bp z tk _ _ _ o' hR1 (by omega)) (by assumption) rfl (fun a1 q2 w2 v I1 h6 hm hv hle2 hR2 oq => ?_) (fun e w' h' hm o2 => ⟨e, w', hE.trans (PM.bind_err hm), rfl, o2⟩)
            obtain ⟨c1, rfl, hx1⟩ := hv
            have o7 := oq
            simp only [PSt, pick, List.cons_append, List.nil_append, List.getElem?_cons_succ, List.getElem?_cons_zero, List.getElem?_nil] at o7
            clear oq
            refine ⟨Eq.trans (Own.satK o7 4 rfl) (Eq.symm (Own.satK (x := box b13 _ _) (by assumption) 3 rfl)), ?_⟩
            have one1 := exR_one (Own.satK o7 2 rfl) hx1
            (refine RunVC.litN o7 sl47 ty49 rfl rfl (by decide) ?_)
            refine And.intro rfl ?_
            intro b5101 m5101 o5101
            refine And.intro ((o5101.boxBlk 4 rfl).trans (o7.boxBlk 4 rfl).symm) ?_
            have on := Own.nilRow (by assumption) 49 9
            simp only [List.cons_append, List.nil_append] at on
            refine RunVC.append on 8 rfl sl47 ty49 (by decide) (Own.boxArrN on 7 rfl (n := 1) rfl (by omega)) (by simp [Value.oneCell']) (by simp only [maxLen]; omega) (by omega) ?_
            intro vA mA oA
            obtain ⟨ua, uc, rfl⟩ := oA.rowIs 8 rfl
            refine StillVC.idxN sl47 ty49 (oA.rowArrN 8 rfl) rfl (by omega) (by omega) ?_
            refine StillVC.fieldAddr st49 rfl rfl rfl ?_
            refine ⟨?_, ?_⟩
            · skip
              refine RunVC.storeRN (i := 0) (by assumption) 8 rfl ty49 rfl rfl rfl c1.2 (by decide) (by decide) one1 ?_
              intro mB oB
              simp only [List.set_cons_succ, List.set_cons_zero] at oB
              (refine RunVC.store oB 4 rfl ty47 rfl (by simp) (And.intro ⟨rfl, rfl⟩ ?_); intro m5140 o5140)
              refine ⟨rfl, ?_⟩
              have ef := lset_full (cs := [.int .i64 0, .string ⟨⟨[]⟩⟩, nilV, nilV, nilV, .string ⟨⟨[]⟩⟩, .string ⟨⟨[]⟩⟩, .int .i64 0, .int .i64 0]) (c := c1) rfl
              exact ⟨a1, q2, w2, c1, I1, ua, uc, hm, hle2, hR2, hx1, ef ▸ Own.sel (by assumption) [0, 1, 2, 3, 4, 5, 6, 8] rfl⟩
            · skip
              (refine RunVC.store oA 4 rfl ty47 rfl (by simp) (And.intro ⟨rfl, rfl⟩ ?_); intro m5150 o5150)
              refine RunVC.storeRN (i := 0) (by assumption) 8 rfl ty49 rfl rfl rfl c1.2 (by decide) (by decide) one1 ?_
              intro mB oB
              simp only [List.set_cons_succ, List.set_cons_zero] at oB
              refine ⟨rfl, ?_⟩
              have ef := lset_full (cs := [.int .i64 0, .string ⟨⟨[]⟩⟩, nilV, nilV, nilV, .string ⟨⟨[]⟩⟩, .string ⟨⟨[]⟩⟩, .int .i64 0, .int .i64 0]) (c := c1) rfl
              exact ⟨a1, q2, w2, c1, I1, ua, uc, hm, hle2, hR2, hx1, ef ▸ Own.sel (by assumption) [0, 1, 2, 3, 4, 5, 6, 8] rfl⟩
          · skip
            (refine RunVC.litN o6 sl47 ty49 rfl rfl (by decide) ?_)
            refine And.intro rfl ?_
            intro b5281 m5281 o5281
            refine And.intro ((o5281.boxBlk 3 rfl).trans (o6.boxBlk 3 rfl).symm) ?_
            refine PEndI.callL (fun B' o' => ih (level + 1) (by omega) B' bp z tk _ _ _ o' hR1 (by omega)) (by assumption) rfl (fun a1 q2 w2 v I1 h6 hm hv hle2 hR2 oq => ?_) (fun e w' h' hm o2 => ⟨e, w', hE.trans (PM.bind_err hm), rfl, o2⟩)
            obtain ⟨c1, rfl, hx1⟩ := hv
            have o7 := oq
            simp only [PSt, pick, List.cons_append, List.nil_append, List.getElem?_cons_succ, List.getElem?_cons_zero, List.getElem?_nil] at o7
            clear oq
            refine ⟨Eq.trans (Own.satK o7 4 rfl) (Eq.symm (Own.satK (x := box b13 _ _) (by assumption) 3 rfl)), ?_⟩
            have one1 := exR_one (Own.satK o7 2 rfl) hx1
            have on := Own.nilRow (by assumption) 49 9
            simp only [List.cons_append, List.nil_append] at on
            refine RunVC.append on 8 rfl sl47 ty49 (by decide) (Own.boxArrN on 7 rfl (n := 1) rfl (by omega)) (by simp [Value.oneCell']) (by simp only [maxLen]; omega) (by omega) ?_
            intro vA mA oA
            obtain ⟨ua, uc, rfl⟩ := oA.rowIs 8 rfl
            refine StillVC.idxN sl47 ty49 (oA.rowArrN 8 rfl) rfl (by omega) (by omega) ?_
            refine StillVC.fieldAddr st49 rfl rfl rfl ?_
            refine ⟨?_, ?_⟩
            · skip
              refine RunVC.storeRN (i := 0) (by assumption) 8 rfl ty49 rfl rfl rfl c1.2 (by decide) (by decide) one1 ?_
              intro mB oB
              simp only [List.set_cons_succ, List.set_cons_zero] at oB
              (refine RunVC.store oB 4 rfl ty47 rfl (by simp) (And.intro ⟨rfl, rfl⟩ ?_); intro m5340 o5340)
              refine ⟨rfl, ?_⟩
              have ef := lset_full (cs := [.int .i64 0, .string ⟨⟨[]⟩⟩, nilV, nilV, nilV, .string ⟨⟨[]⟩⟩, .string ⟨⟨[]⟩⟩, .int .i64 0, .int .i64 0]) (c := c1) rfl
              exact ⟨a1, q2, w2, c1, I1, ua, uc, hm, hle2, hR2, hx1, ef ▸ Own.sel (by assumption) [0, 1, 2, 3, 4, 5, 6, 8] rfl⟩
            · skip
              (refine RunVC.store oA 4 rfl ty47 rfl (by simp) (And.intro ⟨rfl, rfl⟩ ?_); intro m5350 o5350)
              refine RunVC.storeRN (i := 0) (by assumption) 8 rfl ty49 rfl rfl rfl c1.2 (by decide) (by decide) one1 ?_
              intro mB oB
              simp only [List.set_cons_succ, List.set_cons_zero] at oB
              refine ⟨rfl, ?_⟩
              have ef := lset_full (cs := [.int .i64 0, .string ⟨⟨[]⟩⟩, nilV, nilV, nilV, .string ⟨⟨[]⟩⟩, .string ⟨⟨[]⟩⟩, .int .i64 0, .int .i64 0]) (c := c1) rfl
              exact ⟨a1, q2, w2, c1, I1, ua, uc, hm, hle2, hR2, hx1, ef ▸ Own.sel (by assumption) [0, 1, 2, 3, 4, 5, 6, 8] rfl⟩
        · rintro _ junk2 h7 ⟨a1, q2, w2, c1, I1, ua, uc, hm, hle2, hR2, hx1, o8⟩
          rw [PM.bind_ok hm] at hE
          rw [ifP_yes (by rfl), PM.assoc] at hE
          refine StillVC.run (StillVC.fieldAddr st149 rfl rfl rfl ?_)
          refine StillVC.run (StillVC.loadO o8 6 rfl ty4 rfl rfl ?_)
          refine Br.tt ?_
          (refine RunVC.lit o8 sl42 ty9 rfl rfl (by decide) (And.intro rfl ?_); intro b5502 m5502 o5502)
          refine pneed_call (ss := [[44]]) (by assumption) rfl (by first | exact ⟨2, by decide, rfl⟩ | exact ⟨3, by decide, rfl⟩ | exact ⟨4, by decide, rfl⟩ | exact ⟨5, by decide, rfl⟩ | exact ⟨6, by decide, rfl⟩ | exact ⟨7, by decide, rfl⟩ | exact ⟨8, by decide, rfl⟩ | exact ⟨9, by decide, rfl⟩) hR2 (by omega) (by decide) (fun _ q3 w3 v h8 hm3 hv hle3 hR3 oq => ?_) (fun e w' h' hm o2 => ⟨e, w', hE.trans (PM.bind_err hm), rfl, o2⟩)
          subst hv
          rw [PM.bind_ok hm3, PM.assoc] at hE
          have o9 := oq.sel [0, 1, 2, 3, 4, 5, 6, 7] rfl
          simp only [PSt, pick, List.cons_append, List.nil_append, List.getElem?_cons_succ, List.getElem?_cons_zero, List.getElem?_nil] at o9
          clear oq o8 hm
          refine DrawVC.join [65, 66, 67, 68, 69, 70, 71, 72, 73, 74, 75] [] (fun _ hh => ∃ (a2 : Ex) (q4 : List Tok) (w4 : Value) (c2 : Cells9) (I2 : Item) (ua : Option Addr) (uc : Nat), exprP z n q3 = .ok (a2, q4) ∧ q4.length ≤ q3.length ∧ TokR tk w4 q4 ∧ exR I2 c2.1 a2 ∧ Own B [box bp [w4, .int .i64 z] 68, tk, I2, I1, box b10 [.int .i64 0, .string ⟨⟨[]⟩⟩, nilV, nilV, nilV, .string ⟨⟨[]⟩⟩, .string ⟨⟨[]⟩⟩, .int .i64 0, .int .i64 0] 49, box b13 [.int .i64 6, .string ⟨⟨[]⟩⟩, .slice ua 2 uc, nilV, nilV, .string ⟨⟨[]⟩⟩, .string ⟨⟨[]⟩⟩, .int .i64 0, .int .i64 (headOff ts)] 49, box pb [.pointer (some ⟨bp, 0, none⟩)] 66, box b5002 [.string ⟨⟨[109, 105, 110, 117, 115]⟩⟩, .bool true, .func (.func 116) ⟨[]⟩ ⟨[]⟩] 149, row (.slice ua 2 uc) 49 9 2 (c1.1 ++ c2.1)] hh) ?_ ?_
          · refine DrawVC.introBT b13 [0, 2, 3, 4, 6, 9, 11] [1] [8, 10, 12] (.one 0 (.one 1 (.one 2 (.one 3 (.one 4 (.one 6 (.fork 5 7 (.one 7 (.one 8 (.one 9 (.one 11 (.fork 10 12 (.one 12 .done) (.one 10 .done)))))) (.one 5 (.one 8 (.one 9 (.one 11 (.fork 10 12 (.one 12 .done) (.one 10 .done))))))))))))) mixed (by kernel_rfl) rfl (fun _ _ _ _ h => h) ?_
            refine StillVC.fieldAddr st49 rfl rfl rfl ?_
            refine StillVCA.load1 ty47 rfl rfl ((o9.cellB 4 rfl _).trans rfl) ?_
            refine Ar.i64 (by omega) (by omega) ?_
            refine StillVC.lenV rfl sl47 ?_
            refine ⟨?_, ?_⟩
            · skip
              refine PEndI.callL (fun B' o' => ih (level + 1) (by omega) B' bp z tk _ _ _ o' hR3 (by omega)) (by assumption) rfl (fun a2 q4 w4 v I2 h9 hm4 hv hle4 hR4 oq => ?_) (fun e w' h' hm o2 => ⟨e, w', hE.trans (PM.bind_err hm), rfl, o2⟩)
              obtain ⟨c2, rfl, hx2⟩ := hv
              have o7 := oq
              simp only [PSt, pick, List.cons_append, List.nil_append, List.getElem?_cons_succ, List.getElem?_cons_zero, List.getElem?_nil] at o7
              clear oq
              refine ⟨Eq.trans (Own.satK o7 5 rfl) (Eq.symm (Own.satK (x := box b13 _ _) (by assumption) 4 rfl)), ?_⟩
              have one2 := exR_one (Own.satK o7 2 rfl) hx2
              (refine RunVC.litN o7 sl47 ty49 rfl rfl (by decide) ?_)
              refine And.intro rfl ?_
              intro b5571 m5571 o5571
              refine And.intro ((o5571.boxBlk 5 rfl).trans (o7.boxBlk 5 rfl).symm) ?_
              refine RunVC.append (by assumption) 8 rfl sl47 ty49 (by decide) (Own.boxArrN (by assumption) 9 rfl (n := 1) rfl (by omega)) (by simp [Value.oneCell']) (by simp only [maxLen]; omega) (by omega) ?_
              intro vA mA oA
              obtain ⟨ua, uc, rfl⟩ := oA.rowIs 8 rfl
              refine StillVC.idxN sl47 ty49 (oA.rowArrN 8 rfl) rfl (by omega) (by omega) ?_
              refine StillVC.fieldAddr st49 rfl rfl rfl ?_
              refine ⟨?_, ?_⟩
              · skip
                refine RunVC.storeRN (i := 1) (by assumption) 8 rfl ty49 rfl rfl rfl c2.2 (by decide) (by decide) one2 ?_
                intro mB oB
                simp only [List.set_cons_succ, List.set_cons_zero] at oB
                (refine RunVC.store oB 5 rfl ty47 rfl (by simp) (And.intro ⟨rfl, rfl⟩ ?_); intro m5610 o5610)
                refine ⟨rfl, ?_⟩
                have ef := lset_second (cs := [.int .i64 0, .string ⟨⟨[]⟩⟩, nilV, nilV, nilV, .string ⟨⟨[]⟩⟩, .string ⟨⟨[]⟩⟩, .int .i64 0, .int .i64 0]) (c := c1) (d := c2) rfl
                exact ⟨a2, q4, w4, c2, I2, ua, uc, hm4, hle4, hR4, hx2, ef ▸ Own.sel (by assumption) [0, 1, 2, 3, 4, 5, 6, 7, 8] rfl⟩
              · skip
                (refine RunVC.store oA 5 rfl ty47 rfl (by simp) (And.intro ⟨rfl, rfl⟩ ?_); intro m5620 o5620)
                refine RunVC.storeRN (i := 1) (by assumption) 8 rfl ty49 rfl rfl rfl c2.2 (by decide) (by decide) one2 ?_
                intro mB oB
                simp only [List.set_cons_succ, List.set_cons_zero] at oB
                refine ⟨rfl, ?_⟩
                have ef := lset_second (cs := [.int .i64 0, .string ⟨⟨[]⟩⟩, nilV, nilV, nilV, .string ⟨⟨[]⟩⟩, .string ⟨⟨[]⟩⟩, .int .i64 0, .int .i64 0]) (c := c1) (d := c2) rfl
                exact ⟨a2, q4, w4, c2, I2, ua, uc, hm4, hle4, hR4, hx2, ef ▸ Own.sel (by assumption) [0, 1, 2, 3, 4, 5, 6, 7, 8] rfl⟩
            · skip
              (refine RunVC.litN o9 sl47 ty49 rfl rfl (by decide) ?_)
              refine And.intro rfl ?_
              intro b5691 m5691 o5691
              refine And.intro ((o5691.boxBlk 4 rfl).trans (o9.boxBlk 4 rfl).symm) ?_
              refine PEndI.callL (fun B' o' => ih (level + 1) (by omega) B' bp z tk _ _ _ o' hR3 (by omega)) (by assumption) rfl (fun a2 q4 w4 v I2 h9 hm4 hv hle4 hR4 oq => ?_) (fun e w' h' hm o2 => ⟨e, w', hE.trans (PM.bind_err hm), rfl, o2⟩)
              obtain ⟨c2, rfl, hx2⟩ := hv
              have o7 := oq
              simp only [PSt, pick, List.cons_append, List.nil_append, List.getElem?_cons_succ, List.getElem?_cons_zero, List.getElem?_nil] at o7
              clear oq
              refine ⟨Eq.trans (Own.satK o7 5 rfl) (Eq.symm (Own.satK (x := box b13 _ _) (by assumption) 4 rfl)), ?_⟩
              have one2 := exR_one (Own.satK o7 2 rfl) hx2
              refine RunVC.append (by assumption) 8 rfl sl47 ty49 (by decide) (Own.boxArrN (by assumption) 9 rfl (n := 1) rfl (by omega)) (by simp [Value.oneCell']) (by simp only [maxLen]; omega) (by omega) ?_
              intro vA mA oA
              obtain ⟨ua, uc, rfl⟩ := oA.rowIs 8 rfl
              refine StillVC.idxN sl47 ty49 (oA.rowArrN 8 rfl) rfl (by omega) (by omega) ?_
              refine StillVC.fieldAddr st49 rfl rfl rfl ?_
              refine ⟨?_, ?_⟩
              · skip
                refine RunVC.storeRN (i := 1) (by assumption) 8 rfl ty49 rfl rfl rfl c2.2 (by decide) (by decide) one2 ?_
                intro mB oB
                simp only [List.set_cons_succ, List.set_cons_zero] at oB
                (refine RunVC.store oB 5 rfl ty47 rfl (by simp) (And.intro ⟨rfl, rfl⟩ ?_); intro m5750 o5750)
                refine ⟨rfl, ?_⟩
                have ef := lset_second (cs := [.int .i64 0, .string ⟨⟨[]⟩⟩, nilV, nilV, nilV, .string ⟨⟨[]⟩⟩, .string ⟨⟨[]⟩⟩, .int .i64 0, .int .i64 0]) (c := c1) (d := c2) rfl
                exact ⟨a2, q4, w4, c2, I2, ua, uc, hm4, hle4, hR4, hx2, ef ▸ Own.sel (by assumption) [0, 1, 2, 3, 4, 5, 6, 7, 8] rfl⟩
              · skip
                (refine RunVC.store oA 5 rfl ty47 rfl (by simp) (And.intro ⟨rfl, rfl⟩ ?_); intro m5760 o5760)
                refine RunVC.storeRN (i := 1) (by assumption) 8 rfl ty49 rfl rfl rfl c2.2 (by decide) (by decide) one2 ?_
                intro mB oB
                simp only [List.set_cons_succ, List.set_cons_zero] at oB
                refine ⟨rfl, ?_⟩
                have ef := lset_second (cs := [.int .i64 0, .string ⟨⟨[]⟩⟩, nilV, nilV, nilV, .string ⟨⟨[]⟩⟩, .string ⟨⟨[]⟩⟩, .int .i64 0, .int .i64 0]) (c := c1) (d := c2) rfl
                exact ⟨a2, q4, w4, c2, I2, ua, uc, hm4, hle4, hR4, hx2, ef ▸ Own.sel (by assumption) [0, 1, 2, 3, 4, 5, 6, 7, 8] rfl⟩
          · rintro _ junk3 h9 ⟨a2, q4, w4, c2, I2, ua, uc, hm, hle4, hR4, hx2, o8⟩
            rw [PM.bind_ok hm, PM.pure_bind'] at hE
            refine RegVC.plain ?_
            refine StillVC.run (StillVC.fieldAddr st149 rfl rfl rfl ?_)
            refine StillVC.run (StillVC.loadO o8 7 rfl ty147 rfl rfl ?_)
            refine CallVC.ret (none_spec b13 _) ?_
            rintro _ h10 ⟨rfl, oc⟩
            have o9 := oc.thenE o8
            clear oc o8
            have e2 : opRest z 4 (headOff ts) [a1, a2] q4 = .ok (Ex.mk 6 [] [a1, a2] [] [] [] [] 0 (headOff ts), q4) := rfl
            rw [PM.bind_ok e2] at hE
            (refine RunVC.lit o9 sl42 ty9 rfl rfl (by decide) (And.intro rfl ?_); intro b5840 m5840 o5840)
            refine pneed_call (ss := [[41]]) (by assumption) rfl (by first | exact ⟨2, by decide, rfl⟩ | exact ⟨3, by decide, rfl⟩ | exact ⟨4, by decide, rfl⟩ | exact ⟨5, by decide, rfl⟩ | exact ⟨6, by decide, rfl⟩ | exact ⟨7, by decide, rfl⟩ | exact ⟨8, by decide, rfl⟩ | exact ⟨9, by decide, rfl⟩) hR4 (by omega) (by decide) (fun _ q5 w5 v h11 hm5 hv hle5 hR5 oq => ?_) (fun e w' h' hm o2 => ⟨e, w', hE.trans (PM.bind_err hm), rfl, o2⟩)
            subst hv
            rw [PM.bind_ok hm5] at hE
            have o10 := oq
            simp only [PSt, pick, List.cons_append, List.nil_append, List.getElem?_cons_succ, List.getElem?_cons_zero, List.getElem?_nil] at o10
            clear oq o9
            refine StillVC.run (StillVC.loadON o10 5 rfl ty49 rfl rfl rfl ?_)
            (refine RunVC.storeL o10 4 rfl ty49 rfl (by decide) (And.intro ⟨rfl, rfl⟩ ?_); intro m5861 o5861)
            first | refine RetVC.cell2 rfl o5861 4 rfl ty49 rfl rfl ?_ | refine RetVC.cell1 rfl o5861 4 rfl ty49 rfl rfl ?_ | refine RetVC.cellTT rfl o5861 4 rfl ty49 rfl rfl ?_
            have er : [c1, c2].flatMap Subtype.val = c1.1 ++ c2.1 := by simp
            exact ⟨_, q5, w5, joinI (joinI I2 I1) (row (.slice ua 2 uc) 49 9 2 (c1.1 ++ c2.1)), hE, ⟨⟨exC 6 [] (.slice ua 2 uc) nilV nilV [] [] 0 (headOff ts), rfl⟩, rfl, by rw [exR]; exact ⟨_, _, _, rfl, nil_reads, nil_reads, [c1, c2], by rw [er]; exact row_reads.inr, exR.mono (fun _ (s : (joinI (joinI _ _) _).sat _) => s.1.2) _ _ hx1, exR.mono (fun _ (s : (joinI (joinI _ _) _).sat _) => s.1.1) _ _ hx2, trivial⟩⟩, by omega, hR5, ((Own.sel (by assumption) [2, 3, 8, 0, 1] rfl).join.join).sel [1, 2, 0] rfl⟩

end Go.Proofs.YtnmfanjhepepbaaGreatDoor

/- The parser's expressions: rename. -/
namespace Go.Proofs.YtnmfanjhepepbaaGreatDoor
open Go

set_option maxHeartbeats 100000000 in
set_option maxRecDepth 100000 in
theorem expr_rename (n : Nat) (hn : n ≤ 11) (ih : ExSpec n) : ∀ (level : Int) (_ : level = 13 - ((n + 1 : Nat) : Int)) (B : Base) (bp z : Nat) (tk : Item) (w : Value) (ts : List Tok) (h : Heap) (_ : Own B (PSt bp z w tk) h) (_ : TokR tk w ts) (_ : ts.length ≤ 5000) (_ : ∀ j, j < 5 → seesB [opNames.getD j [], [40]] ts = false) (_ : seesB [[114, 101, 110, 97, 109, 101], [40]] ts = true),
    Spec Tryz.prog 87 [.pointer (some ⟨bp, 0, none⟩), .int .i64 level] h (PEndI B bp z tk ts.length (exprP z (n + 1) ts) exV) := by
  intro level hlv B bp z tk w ts h o hR hl hno hb
  obtain ⟨hRd, hK⟩ := hR
  have hR : TokR tk w ts := ⟨hRd, hK⟩
  refine Spec.enter Tryz.func87 rfl Tryz.ntmps87 (by kernel_rfl) ?_
  (refine RunVC.alloc o ty49 ?_; intro b10 m10 o10)
  refine Br.dec (fun hc => absurd hc (by omega)) (fun c11 => ?_)
  refine StillVC.run (StillVC.buildK st49 ?_)
  refine And.intro rfl ?_
  (refine RunVC.alloc o10 ty49 ?_; intro b13 m13 o13)
  (refine RunVC.storeL o13 3 rfl ty49 rfl (by decide) (And.intro ⟨rfl, rfl⟩ ?_); intro m14 o14)
  refine StillVC.run (StillVC.nilCheck rfl ?_)
  refine StillVC.run (StillVC.fieldAddr st68 rfl rfl rfl ?_)
  refine StillVC.run (StillVC.loadO o14 0 rfl ty31 rfl rfl ?_)
  refine StillVC.run (StillVC.lenN (o14.reads 1 hRd rfl) sl31 ?_)
  refine Br.join [19, 20, 21, 22, 23, 24, 25, 26] [] (fun _ hh => Own B [box bp [w, .int .i64 z] 68, tk, box b10 [.int .i64 0, .string ⟨⟨[]⟩⟩, nilV, nilV, nilV, .string ⟨⟨[]⟩⟩, .string ⟨⟨[]⟩⟩, .int .i64 0, .int .i64 0] 49, box b13 [.int .i64 1, .string ⟨⟨[]⟩⟩, nilV, nilV, nilV, .string ⟨⟨[]⟩⟩, .string ⟨⟨[]⟩⟩, .int .i64 0, .int .i64 (headOff ts)] 49] hh) rfl rfl ?_ ?_
  · cases ts with
    | nil =>
      refine Br.ff ?_
      refine ⟨rfl, ?_⟩
      exact o14
    | cons t r =>
      have hx : (t :: r)[0]? = some t := rfl
      have hln : (t :: r).length = r.length + 1 := rfl
      refine Br.dec (fun c30 => ?_) (fun hc => absurd (by omega) hc)
      refine StillVC.run (StillVC.nilCheck rfl ?_)
      refine StillVC.run (StillVC.fieldAddr st68 rfl rfl rfl ?_)
      refine StillVC.run (StillVC.loadO o14 0 rfl ty31 rfl rfl ?_)
      refine StillVC.run (StillVC.idxN sl31 ty38 (o14.reads 1 hRd rfl) rfl (by omega) (by omega) ?_)
      refine StillVC.run (StillVC.fieldAdr (o14.reads 1 hRd rfl) (by omega) st38 rfl rfl rfl ?_)
      refine StillVC.run (StillVC.loadFF (o14.reads 1 hRd rfl) ty3 (fun _ => rfl) rfl (by assumption) rfl ?_)
      refine StillVC.run (StillVC.fieldAddr st49 rfl rfl rfl ?_)
      (refine RunVC.storeL o14 3 rfl ty3 rfl (by decide) (And.intro ⟨rfl, rfl⟩ ?_); intro m38 o38)
      refine ⟨rfl, ?_⟩
      exact Own.sel (by assumption) [0, 1, 2, 3] rfl
  · intro vs junk hh oh
    refine CallVC.ret (operations_spec bp _) ?_
    rintro _ h2 ⟨bo, pb, rfl, oc⟩
    have o2 := oh.call oc
    simp only [List.cons_append, List.nil_append] at o2
    clear oc
    refine StillVC.run (StillVC.lenV rfl sl145 ?_)
    refine LoopVC.intro [6, 7, 30, 31, 32, 33, 34, 35, 36, 37, 38, 39, 40, 41, 42, 43, 44, 45, 46, 47, 48, 49, 50, 51, 52, 53, 54, 55, 56, 57, 58, 59, 60, 61, 62, 63, 64, 65, 66, 67, 68, 69, 70, 71, 72, 73, 74, 75, 76, 77, 78, 79, 80, 81, 82, 83] [30] (fun vs hh => ∃ (i : Nat), i ≤ 5 ∧ vs = [.int .i64 i] ∧ Own B [box bp [w, .int .i64 z] 68, tk, box b10 [.int .i64 0, .string ⟨⟨[]⟩⟩, nilV, nilV, nilV, .string ⟨⟨[]⟩⟩, .string ⟨⟨[]⟩⟩, .int .i64 0, .int .i64 0] 49, box b13 [.int .i64 1, .string ⟨⟨[]⟩⟩, nilV, nilV, nilV, .string ⟨⟨[]⟩⟩, .string ⟨⟨[]⟩⟩, .int .i64 0, .int .i64 (headOff ts)] 49, box pb [.pointer (some ⟨bp, 0, none⟩)] 66, box bo (opsC pb) 149] hh) (fun vs _ => match vs with | [.int _ i] => 7 - i.toNat | _ => 0) ?_ ?_
    · exact ⟨0, by omega, rfl, o2⟩
    · rintro vs' junk' h3 ⟨i, hi, rfl, o3⟩
      clear o14 oh o2
      have hoL : (opsC pb).length = 7 * 3 := rfl
      rcases (by omega : i = 0 ∨ i = 1 ∨ i = 2 ∨ i = 3 ∨ i = 4 ∨ i = 5) with rfl | rfl | rfl | rfl | rfl | rfl
      · refine Br.tt ?_
        refine StillVC.run (StillVC.idxN sl145 ty149 (o3.boxArrN 5 rfl (by assumption) (by omega)) rfl (by omega) (by omega) ?_)
        refine StillVC.run (StillVC.loadON o3 5 rfl ty149 rfl rfl rfl ?_)
        (refine RunVC.alloc o3 ty149 ?_; intro b1002 m1002 o1002)
        (refine RunVC.storeL o1002 6 rfl ty149 rfl (by decide) (And.intro ⟨rfl, rfl⟩ ?_); intro m1003 o1003)
        refine StillVC.run (StillVC.fieldAddr st149 rfl rfl rfl ?_)
        refine StillVC.run (StillVC.loadO o1003 6 rfl ty9 rfl rfl ?_)
        (refine RunVC.lit o1003 sl42 ty9 rfl rfl (by decide) (And.intro rfl ?_); intro b1006 m1006 o1006)
        refine CallVC.ret (peek_spec [[115, 101, 108, 101, 99, 116], [40]] _ bp w ts _ (Own.cellB (by assumption) 0 rfl 0) (Own.reads (by assumption) 1 hR.1 rfl) (Own.boxArr (by assumption) 7 rfl rfl (by decide)) hl) ?_
        rintro _ h4 ⟨rv, oc⟩
        have o4 := oc.thenE (by assumption)
        clear oc
        have hb : seesB [[115, 101, 108, 101, 99, 116], [40]] ts = false := hno 0 (by decide)
        rw [hb] at rv
        subst rv
        refine Br.tt ?_
        refine Ar.i64 (by omega) (by omega) ?_
        refine ⟨rfl, ?_⟩
        exact ⟨⟨1, by omega, rfl, Own.sel (by assumption) [0, 1, 2, 3, 4, 5] rfl⟩, by simp⟩
      · refine Br.tt ?_
        refine StillVC.run (StillVC.idxN sl145 ty149 (o3.boxArrN 5 rfl (by assumption) (by omega)) rfl (by omega) (by omega) ?_)
        refine StillVC.run (StillVC.loadON o3 5 rfl ty149 rfl rfl rfl ?_)
        (refine RunVC.alloc o3 ty149 ?_; intro b2002 m2002 o2002)
        (refine RunVC.storeL o2002 6 rfl ty149 rfl (by decide) (And.intro ⟨rfl, rfl⟩ ?_); intro m2003 o2003)
        refine StillVC.run (StillVC.fieldAddr st149 rfl rfl rfl ?_)
        refine StillVC.run (StillVC.loadO o2003 6 rfl ty9 rfl rfl ?_)
        (refine RunVC.lit o2003 sl42 ty9 rfl rfl (by decide) (And.intro rfl ?_); intro b2006 m2006 o2006)
        refine CallVC.ret (peek_spec [[112, 114, 111, 106, 101, 99, 116], [40]] _ bp w ts _ (Own.cellB (by assumption) 0 rfl 0) (Own.reads (by assumption) 1 hR.1 rfl) (Own.boxArr (by assumption) 7 rfl rfl (by decide)) hl) ?_
        rintro _ h4 ⟨rv, oc⟩
        have o4 := oc.thenE (by assumption)
        clear oc
        have hb : seesB [[112, 114, 111, 106, 101, 99, 116], [40]] ts = false := hno 1 (by decide)
        rw [hb] at rv
        subst rv
        refine Br.tt ?_
        refine Ar.i64 (by omega) (by omega) ?_
        refine ⟨rfl, ?_⟩
        exact ⟨⟨2, by omega, rfl, Own.sel (by assumption) [0, 1, 2, 3, 4, 5] rfl⟩, by simp⟩
      · refine Br.tt ?_
        refine StillVC.run (StillVC.idxN sl145 ty149 (o3.boxArrN 5 rfl (by assumption) (by omega)) rfl (by omega) (by omega) ?_)
        refine StillVC.run (StillVC.loadON o3 5 rfl ty149 rfl rfl rfl ?_)
        (refine RunVC.alloc o3 ty149 ?_; intro b3002 m3002 o3002)
        (refine RunVC.storeL o3002 6 rfl ty149 rfl (by decide) (And.intro ⟨rfl, rfl⟩ ?_); intro m3003 o3003)
        refine StillVC.run (StillVC.fieldAddr st149 rfl rfl rfl ?_)
        refine StillVC.run (StillVC.loadO o3003 6 rfl ty9 rfl rfl ?_)
        (refine RunVC.lit o3003 sl42 ty9 rfl rfl (by decide) (And.intro rfl ?_); intro b3006 m3006 o3006)
        refine CallVC.ret (peek_spec [[106, 111, 105, 110], [40]] _ bp w ts _ (Own.cellB (by assumption) 0 rfl 0) (Own.reads (by assumption) 1 hR.1 rfl) (Own.boxArr (by assumption) 7 rfl rfl (by decide)) hl) ?_
        rintro _ h4 ⟨rv, oc⟩
        have o4 := oc.thenE (by assumption)
        clear oc
        have hb : seesB [[106, 111, 105, 110], [40]] ts = false := hno 2 (by decide)
        rw [hb] at rv
        subst rv
        refine Br.tt ?_
        refine Ar.i64 (by omega) (by omega) ?_
        refine ⟨rfl, ?_⟩
        exact ⟨⟨3, by omega, rfl, Own.sel (by assumption) [0, 1, 2, 3, 4, 5] rfl⟩, by simp⟩
      · refine Br.tt ?_
        refine StillVC.run (StillVC.idxN sl145 ty149 (o3.boxArrN 5 rfl (by assumption) (by omega)) rfl (by omega) (by omega) ?_)
        refine StillVC.run (StillVC.loadON o3 5 rfl ty149 rfl rfl rfl ?_)
        (refine RunVC.alloc o3 ty149 ?_; intro b4002 m4002 o4002)
        (refine RunVC.storeL o4002 6 rfl ty149 rfl (by decide) (And.intro ⟨rfl, rfl⟩ ?_); intro m4003 o4003)
        refine StillVC.run (StillVC.fieldAddr st149 rfl rfl rfl ?_)
        refine StillVC.run (StillVC.loadO o4003 6 rfl ty9 rfl rfl ?_)
        (refine RunVC.lit o4003 sl42 ty9 rfl rfl (by decide) (And.intro rfl ?_); intro b4006 m4006 o4006)
        refine CallVC.ret (peek_spec [[117, 110, 105, 111, 110], [40]] _ bp w ts _ (Own.cellB (by assumption) 0 rfl 0) (Own.reads (by assumption) 1 hR.1 rfl) (Own.boxArr (by assumption) 7 rfl rfl (by decide)) hl) ?_
        rintro _ h4 ⟨rv, oc⟩
        have o4 := oc.thenE (by assumption)
        clear oc
        have hb : seesB [[117, 110, 105, 111, 110], [40]] ts = false := hno 3 (by decide)
        rw [hb] at rv
        subst rv
        refine Br.tt ?_
        refine Ar.i64 (by omega) (by omega) ?_
        refine ⟨rfl, ?_⟩
        exact ⟨⟨4, by omega, rfl, Own.sel (by assumption) [0, 1, 2, 3, 4, 5] rfl⟩, by simp⟩
      · refine Br.tt ?_
        refine StillVC.run (StillVC.idxN sl145 ty149 (o3.boxArrN 5 rfl (by assumption) (by omega)) rfl (by omega) (by omega) ?_)
        refine StillVC.run (StillVC.loadON o3 5 rfl ty149 rfl rfl rfl ?_)
        (refine RunVC.alloc o3 ty149 ?_; intro b5002 m5002 o5002)
        (refine RunVC.storeL o5002 6 rfl ty149 rfl (by decide) (And.intro ⟨rfl, rfl⟩ ?_); intro m5003 o5003)
        refine StillVC.run (StillVC.fieldAddr st149 rfl rfl rfl ?_)
        refine StillVC.run (StillVC.loadO o5003 6 rfl ty9 rfl rfl ?_)
        (refine RunVC.lit o5003 sl42 ty9 rfl rfl (by decide) (And.intro rfl ?_); intro b5006 m5006 o5006)
        refine CallVC.ret (peek_spec [[109, 105, 110, 117, 115], [40]] _ bp w ts _ (Own.cellB (by assumption) 0 rfl 0) (Own.reads (by assumption) 1 hR.1 rfl) (Own.boxArr (by assumption) 7 rfl rfl (by decide)) hl) ?_
        rintro _ h4 ⟨rv, oc⟩
        have o4 := oc.thenE (by assumption)
        clear oc
        have hb : seesB [[109, 105, 110, 117, 115], [40]] ts = false := hno 4 (by decide)
        rw [hb] at rv
        subst rv
        refine Br.tt ?_
        refine Ar.i64 (by omega) (by omega) ?_
        refine ⟨rfl, ?_⟩
        exact ⟨⟨5, by omega, rfl, Own.sel (by assumption) [0, 1, 2, 3, 4, 5] rfl⟩, by simp⟩
      · refine Br.tt ?_
        refine StillVC.run (StillVC.idxN sl145 ty149 (o3.boxArrN 5 rfl (by assumption) (by omega)) rfl (by omega) (by omega) ?_)
        refine StillVC.run (StillVC.loadON o3 5 rfl ty149 rfl rfl rfl ?_)
        (refine RunVC.alloc o3 ty149 ?_; intro b6002 m6002 o6002)
        (refine RunVC.storeL o6002 6 rfl ty149 rfl (by decide) (And.intro ⟨rfl, rfl⟩ ?_); intro m6003 o6003)
        refine StillVC.run (StillVC.fieldAddr st149 rfl rfl rfl ?_)
        refine StillVC.run (StillVC.loadO o6003 6 rfl ty9 rfl rfl ?_)
        (refine RunVC.lit o6003 sl42 ty9 rfl rfl (by decide) (And.intro rfl ?_); intro b6006 m6006 o6006)
        refine CallVC.ret (peek_spec [[114, 101, 110, 97, 109, 101], [40]] _ bp w ts _ (Own.cellB (by assumption) 0 rfl 0) (Own.reads (by assumption) 1 hR.1 rfl) (Own.boxArr (by assumption) 7 rfl rfl (by decide)) hl) ?_
        rintro _ h4 ⟨rv, oc⟩
        have o4 := oc.thenE (by assumption)
        clear oc
        rw [hb] at rv
        subst rv
        have hE : exprP z (n + 1) ts = (needP z [[114, 101, 110, 97, 109, 101], [40]] >>= fun _ => exprP z n >>= fun a => ifP (twoB 5) (needP z [[44]] >>= fun _ => exprP z n >>= fun b => pure [a, b]) [a] >>= fun kids => opRest z 5 (headOff ts) kids >>= fun x => needP z [[41]] >>= fun _ => (pure x : PM Ex)) ts := exprP_some (opIdx_some (by decide) hno hb)
        have o5 := o4.sel [0, 1, 2, 3, 4, 6] rfl
        simp only [PSt, pick, List.cons_append, List.nil_append, List.getElem?_cons_succ, List.getElem?_cons_zero, List.getElem?_nil] at o5
        clear o3 o4
        refine Br.ff ?_
        refine Ar.i64 (by omega) (by omega) ?_
        refine StillVC.run (StillVC.fieldAddr st49 rfl rfl rfl ?_)
        (refine RunVC.store o5 3 rfl ty3 rfl (by simp) (And.intro ⟨rfl, rfl⟩ ?_); intro m6041 o6041)
        refine StillVC.run (StillVC.fieldAddr st149 rfl rfl rfl ?_)
        refine StillVC.run (StillVC.loadO o6041 5 rfl ty9 rfl rfl ?_)
        (refine RunVC.lit o6041 sl42 ty9 rfl rfl (by decide) (And.intro rfl ?_); intro b6044 m6044 o6044)
        refine pneed_call (ss := [[114, 101, 110, 97, 109, 101], [40]]) (by assumption) rfl (by first | exact ⟨2, by decide, rfl⟩ | exact ⟨3, by decide, rfl⟩ | exact ⟨4, by decide, rfl⟩ | exact ⟨5, by decide, rfl⟩ | exact ⟨6, by decide, rfl⟩ | exact ⟨7, by decide, rfl⟩ | exact ⟨8, by decide, rfl⟩ | exact ⟨9, by decide, rfl⟩) hR (by omega) (by decide) (fun _ q1 w1 v h5 hm hv hle1 hR1 oq => ?_) (fun e w' h' hm o2 => ⟨e, w', hE.trans (PM.bind_err hm), rfl, o2⟩)
        subst hv
        rw [PM.bind_ok hm] at hE
        have o6 := oq.sel [0, 1, 2, 3, 4, 5] rfl
        simp only [PSt, pick, List.cons_append, List.nil_append, List.getElem?_cons_succ, List.getElem?_cons_zero, List.getElem?_nil] at o6
        clear oq hm
        refine DrawVC.join [49, 50, 51, 52, 53, 54, 55, 56, 57, 58, 59] [] (fun _ hh => ∃ (a1 : Ex) (q2 : List Tok) (w2 : Value) (c1 : Cells9) (I1 : Item) (ua : Option Addr) (uc : Nat), exprP z n q1 = .ok (a1, q2) ∧ q2.length ≤ q1.length ∧ TokR tk w2 q2 ∧ exR I1 c1.1 a1 ∧ Own B [box bp [w2, .int .i64 z] 68, tk, I1, box b10 [.int .i64 0, .string ⟨⟨[]⟩⟩, nilV, nilV, nilV, .string ⟨⟨[]⟩⟩, .string ⟨⟨[]⟩⟩, .int .i64 0, .int .i64 0] 49, box b13 [.int .i64 7, .string ⟨⟨[]⟩⟩, .slice ua 1 uc, nilV, nilV, .string ⟨⟨[]⟩⟩, .string ⟨⟨[]⟩⟩, .int .i64 0, .int .i64 (headOff ts)] 49, box pb [.pointer (some ⟨bp, 0, none⟩)] 66, box b6002 [.string ⟨⟨[114, 101, 110, 97, 109, 101]⟩⟩, .bool false, .func (.func 119) ⟨[]⟩ ⟨[.pointer (some ⟨pb, 0, none⟩)]⟩] 149, row (.slice ua 1 uc) 49 9 1 c1.1] hh) ?_ ?_
        · refine DrawVC.introBT b13 [0, 2, 3, 4, 6, 9, 11] [1] [8, 10, 12] (.one 0 (.one 1 (.one 2 (.one 3 (.one 4 (.one 6 (.fork 5 7 (.one 7 (.one 8 (.one 9 (.one 11 (.fork 10 12 (.one 12 .done) (.one 10 .done)))))) (.one 5 (.one 8 (.one 9 (.one 11 (.fork 10 12 (.one 12 .done) (.one 10 .done))))))))))))) mixed (by kernel_rfl) rfl (fun _ _ _ _ h => h) ?_
          refine StillVC.fieldAddr st49 rfl rfl rfl ?_
          refine StillVCA.load1 ty47 rfl rfl ((o6.cellB 3 rfl _).trans rfl) ?_
          refine Ar.i64 (by omega) (by omega) ?_
          refine StillVC.lenV rfl sl47 ?_
          refine ⟨?_, ?_⟩
          · skip
            refine PEndI.callL (fun B' o' => ih (level + 1) (by omega) B' bp z tk _ _ _ o' hR1 (by omega)) (by assumption) rfl (fun a1 q2 w2 v I1 h6 hm hv hle2 hR2 oq => ?_) (fun e w' h' hm o2 => ⟨e, w', hE.trans (PM.bind_err hm), rfl, o2⟩)
            obtain ⟨c1, rfl, hx1⟩ := hv
            have o7 := oq
            simp only [PSt, pick, List.cons_append, List.nil_append, List.getElem?_cons_succ, List.getElem?_cons_zero, List.getElem?_nil] at o7
            clear oq
            refine ⟨Eq.trans (Own.satK o7 4 rfl) (Eq.symm (Own.satK (x := box b13 _ _) (by assumption) 3 rfl)), ?_⟩
            have one1 := exR_one (Own.satK o7 2 rfl) hx1
            (refine RunVC.litN o7 sl47 ty49 rfl rfl (by decide) ?_)
            refine And.intro rfl ?_
            intro b6101 m6101 o6101
            refine And.intro ((o6101.boxBlk 4 rfl).trans (o7.boxBlk 4 rfl).symm) ?_
            have on := Own.nilRow (by assumption) 49 9
            simp only [List.cons_append, List.nil_append] at on
            refine RunVC.append on 8 rfl sl47 ty49 (by decide) (Own.boxArrN on 7 rfl (n := 1) rfl (by omega)) (by simp [Value.oneCell']) (by simp only [maxLen]; omega) (by omega) ?_
            intro vA mA oA
            obtain ⟨ua, uc, rfl⟩ := oA.rowIs 8 rfl
            refine StillVC.idxN sl47 ty49 (oA.rowArrN 8 rfl) rfl (by omega) (by omega) ?_
            refine StillVC.fieldAddr st49 rfl rfl rfl ?_
            refine ⟨?_, ?_⟩
            · skip
              refine RunVC.storeRN (i := 0) (by assumption) 8 rfl ty49 rfl rfl rfl c1.2 (by decide) (by decide) one1 ?_
              intro mB oB
              simp only [List.set_cons_succ, List.set_cons_zero] at oB
              (refine RunVC.store oB 4 rfl ty47 rfl (by simp) (And.intro ⟨rfl, rfl⟩ ?_); intro m6140 o6140)
              refine ⟨rfl, ?_⟩
              have ef := lset_full (cs := [.int .i64 0, .string ⟨⟨[]⟩⟩, nilV, nilV, nilV, .string ⟨⟨[]⟩⟩, .string ⟨⟨[]⟩⟩, .int .i64 0, .int .i64 0]) (c := c1) rfl
              exact ⟨a1, q2, w2, c1, I1, ua, uc, hm, hle2, hR2, hx1, ef ▸ Own.sel (by assumption) [0, 1, 2, 3, 4, 5, 6, 8] rfl⟩
            · skip
              (refine RunVC.store oA 4 rfl ty47 rfl (by simp) (And.intro ⟨rfl, rfl⟩ ?_); intro m6150 o6150)
              refine RunVC.storeRN (i := 0) (by assumption) 8 rfl ty49 rfl rfl rfl c1.2 (by decide) (by decide) one1 ?_
              intro mB oB
              simp only [List.set_cons_succ, List.set_cons_zero] at oB
              refine ⟨rfl, ?_⟩
              have ef := lset_full (cs := [.int .i64 0, .string ⟨⟨[]⟩⟩, nilV, nilV, nilV, .string ⟨⟨[]⟩⟩, .string ⟨⟨[]⟩⟩, .int .i64 0, .int .i64 0]) (c := c1) rfl
              exact ⟨a1, q2, w2, c1, I1, ua, uc, hm, hle2, hR2, hx1, ef ▸ Own.sel (by assumption) [0, 1, 2, 3, 4, 5, 6, 8] rfl⟩
          · skip
            (refine RunVC.litN o6 sl47 ty49 rfl rfl (by decide) ?_)
            refine And.intro rfl ?_
            intro b6281 m6281 o6281
            refine And.intro ((o6281.boxBlk 3 rfl).trans (o6.boxBlk 3 rfl).symm) ?_
            refine PEndI.callL (fun B' o' => ih (level + 1) (by omega) B' bp z tk _ _ _ o' hR1 (by omega)) (by assumption) rfl (fun a1 q2 w2 v I1 h6 hm hv hle2 hR2 oq => ?_) (fun e w' h' hm o2 => ⟨e, w', hE.trans (PM.bind_err hm), rfl, o2⟩)
            obtain ⟨c1, rfl, hx1⟩ := hv
            have o7 := oq
            simp only [PSt, pick, List.cons_append, List.nil_append, List.getElem?_cons_succ, List.getElem?_cons_zero, List.getElem?_nil] at o7
            clear oq
            refine ⟨Eq.trans (Own.satK o7 4 rfl) (Eq.symm (Own.satK (x := box b13 _ _) (by assumption) 3 rfl)), ?_⟩
            have one1 := exR_one (Own.satK o7 2 rfl) hx1
            have on := Own.nilRow (by assumption) 49 9
            simp only [List.cons_append, List.nil_append] at on
            refine RunVC.append on 8 rfl sl47 ty49 (by decide) (Own.boxArrN on 7 rfl (n := 1) rfl (by omega)) (by simp [Value.oneCell']) (by simp only [maxLen]; omega) (by omega) ?_
            intro vA mA oA
            obtain ⟨ua, uc, rfl⟩ := oA.rowIs 8 rfl
            refine StillVC.idxN sl47 ty49 (oA.rowArrN 8 rfl) rfl (by omega) (by omega) ?_
            refine StillVC.fieldAddr st49 rfl rfl rfl ?_
            refine ⟨?_, ?_⟩
            · skip
              refine RunVC.storeRN (i := 0) (by assumption) 8 rfl ty49 rfl rfl rfl c1.2 (by decide) (by decide) one1 ?_
              intro mB oB
              simp only [List.set_cons_succ, List.set_cons_zero] at oB
              (refine RunVC.store oB 4 rfl ty47 rfl (by simp) (And.intro ⟨rfl, rfl⟩ ?_); intro m6340 o6340)
              refine ⟨rfl, ?_⟩
              have ef := lset_full (cs := [.int .i64 0, .string ⟨⟨[]⟩⟩, nilV, nilV, nilV, .string ⟨⟨[]⟩⟩, .string ⟨⟨[]⟩⟩, .int .i64 0, .int .i64 0]) (c := c1) rfl
              exact ⟨a1, q2, w2, c1, I1, ua, uc, hm, hle2, hR2, hx1, ef ▸ Own.sel (by assumption) [0, 1, 2, 3, 4, 5, 6, 8] rfl⟩
            · skip
              (refine RunVC.store oA 4 rfl ty47 rfl (by simp) (And.intro ⟨rfl, rfl⟩ ?_); intro m6350 o6350)
              refine RunVC.storeRN (i := 0) (by assumption) 8 rfl ty49 rfl rfl rfl c1.2 (by decide) (by decide) one1 ?_
              intro mB oB
              simp only [List.set_cons_succ, List.set_cons_zero] at oB
              refine ⟨rfl, ?_⟩
              have ef := lset_full (cs := [.int .i64 0, .string ⟨⟨[]⟩⟩, nilV, nilV, nilV, .string ⟨⟨[]⟩⟩, .string ⟨⟨[]⟩⟩, .int .i64 0, .int .i64 0]) (c := c1) rfl
              exact ⟨a1, q2, w2, c1, I1, ua, uc, hm, hle2, hR2, hx1, ef ▸ Own.sel (by assumption) [0, 1, 2, 3, 4, 5, 6, 8] rfl⟩
        · rintro _ junk2 h7 ⟨a1, q2, w2, c1, I1, ua, uc, hm, hle2, hR2, hx1, o8⟩
          rw [PM.bind_ok hm] at hE
          rw [ifP_no (by rfl), PM.pure_bind'] at hE
          refine StillVC.run (StillVC.fieldAddr st149 rfl rfl rfl ?_)
          refine StillVC.run (StillVC.loadO o8 6 rfl ty4 rfl rfl ?_)
          refine Br.ff ?_
          refine RegVC.plain ?_
          refine StillVC.run (StillVC.fieldAddr st149 rfl rfl rfl ?_)
          refine StillVC.run (StillVC.loadO o8 6 rfl ty147 rfl rfl ?_)
          refine RestEnd.callL (fun B' o' => rest5_spec (headOff ts) (.slice ua 1 uc) [a1] B' bp z tk b13 pb w2 q2 h7 o' hR2 (by omega)) o8 [0, 1, 4, 5] [2, 3, 7] rfl rfl (fun x q3 w3 c J h8 hm3 hJ hle3 hR3 oq => ?_) (fun e w' h' hm3 o2 => ⟨e, w', hE.trans (PM.bind_err hm3), rfl, o2⟩)
          rw [PM.bind_ok hm3] at hE
          obtain ⟨vc, vn, cs, ns, at_, as_, ag, rfl, rfl, rc, rn⟩ := hJ
          unfold exC at oq
          have o9 := oq
          simp only [PSt, pick, List.cons_append, List.nil_append, List.getElem?_cons_succ, List.getElem?_cons_zero, List.getElem?_nil] at o9
          clear oq o8
          obtain ⟨xa, xb, rfl⟩ := rc.isS (Own.satK o9 4 rfl)
          obtain ⟨ya, yb, rfl⟩ := rn.isS (Own.satK o9 4 rfl)
          (refine RunVC.lit o9 sl42 ty9 rfl rfl (by decide) (And.intro rfl ?_); intro b6520 m6520 o6520)
          refine pneed_call (ss := [[41]]) (by assumption) rfl (by first | exact ⟨2, by decide, rfl⟩ | exact ⟨3, by decide, rfl⟩ | exact ⟨4, by decide, rfl⟩ | exact ⟨5, by decide, rfl⟩ | exact ⟨6, by decide, rfl⟩ | exact ⟨7, by decide, rfl⟩ | exact ⟨8, by decide, rfl⟩ | exact ⟨9, by decide, rfl⟩) hR3 (by omega) (by decide) (fun _ q4 w4 v h9 hm4 hv hle4 hR4 oq => ?_) (fun e w' h' hm o2 => ⟨e, w', hE.trans (PM.bind_err hm), rfl, o2⟩)
          subst hv
          rw [PM.bind_ok hm4] at hE
          have o10 := oq
          simp only [PSt, pick, List.cons_append, List.nil_append, List.getElem?_cons_succ, List.getElem?_cons_zero, List.getElem?_nil] at o10
          clear oq o9
          refine StillVC.run (StillVC.loadON o10 2 rfl ty49 rfl rfl rfl ?_)
          (refine RunVC.storeL o10 6 rfl ty49 rfl (by decide) (And.intro ⟨rfl, rfl⟩ ?_); intro m6541 o6541)
          first | refine RetVC.cell2 rfl o6541 6 rfl ty49 rfl rfl ?_ | refine RetVC.cell1 rfl o6541 6 rfl ty49 rfl rfl ?_ | refine RetVC.cellTT rfl o6541 6 rfl ty49 rfl rfl ?_
          have er : [c1].flatMap Subtype.val = c1.1 := by simp
          exact ⟨_, q4, w4, joinI (joinI J I1) (row (.slice ua 1 uc) 49 9 1 c1.1), hE, ⟨⟨exC 7 [] (.slice ua 1 uc) (.slice xa cs.length xb) (.slice ya ns.length yb) at_ as_ ag (headOff ts), rfl⟩, rfl, by rw [exR]; exact ⟨_, _, _, rfl, rc.inl.inl, rn.inl.inl, [c1], by rw [er]; exact row_reads.inr, exR.mono (fun _ (s : (joinI (joinI _ _) _).sat _) => s.1.2) _ _ hx1, trivial⟩⟩, by omega, hR4, ((Own.sel (by assumption) [4, 5, 7, 0, 1] rfl).join.join).sel [1, 2, 0] rfl⟩

end Go.Proofs.YtnmfanjhepepbaaGreatDoor

/- The parser's expressions: group. -/
namespace Go.Proofs.YtnmfanjhepepbaaGreatDoor
open Go

set_option maxHeartbeats 100000000 in
set_option maxRecDepth 100000 in
theorem expr_group (n : Nat) (hn : n ≤ 11) (ih : ExSpec n) : ∀ (level : Int) (_ : level = 13 - ((n + 1 : Nat) : Int)) (B : Base) (bp z : Nat) (tk : Item) (w : Value) (ts : List Tok) (h : Heap) (_ : Own B (PSt bp z w tk) h) (_ : TokR tk w ts) (_ : ts.length ≤ 5000) (_ : ∀ j, j < 6 → seesB [opNames.getD j [], [40]] ts = false) (_ : seesB [[103, 114, 111, 117, 112], [40]] ts = true),
    Spec Tryz.prog 87 [.pointer (some ⟨bp, 0, none⟩), .int .i64 level] h (PEndI B bp z tk ts.length (exprP z (n + 1) ts) exV) := by
  intro level hlv B bp z tk w ts h o hR hl hno hb
  obtain ⟨hRd, hK⟩ := hR
  have hR : TokR tk w ts := ⟨hRd, hK⟩
  refine Spec.enter Tryz.func87 rfl Tryz.ntmps87 (by kernel_rfl) ?_
  (refine RunVC.alloc o ty49 ?_; intro b10 m10 o10)
  refine Br.dec (fun hc => absurd hc (by omega)) (fun c11 => ?_)
  refine StillVC.run (StillVC.buildK st49 ?_)
  refine And.intro rfl ?_
  (refine RunVC.alloc o10 ty49 ?_; intro b13 m13 o13)
  (refine RunVC.storeL o13 3 rfl ty49 rfl (by decide) (And.intro ⟨rfl, rfl⟩ ?_); intro m14 o14)
  refine StillVC.run (StillVC.nilCheck rfl ?_)
  refine StillVC.run (StillVC.fieldAddr st68 rfl rfl rfl ?_)
  refine StillVC.run (StillVC.loadO o14 0 rfl ty31 rfl rfl ?_)
  refine StillVC.run (StillVC.lenN (o14.reads 1 hRd rfl) sl31 ?_)
  refine Br.join [19, 20, 21, 22, 23, 24, 25, 26] [] (fun _ hh => Own B [box bp [w, .int .i64 z] 68, tk, box b10 [.int .i64 0, .string ⟨⟨[]⟩⟩, nilV, nilV, nilV, .string ⟨⟨[]⟩⟩, .string ⟨⟨[]⟩⟩, .int .i64 0, .int .i64 0] 49, box b13 [.int .i64 1, .string ⟨⟨[]⟩⟩, nilV, nilV, nilV, .string ⟨⟨[]⟩⟩, .string ⟨⟨[]⟩⟩, .int .i64 0, .int .i64 (headOff ts)] 49] hh) rfl rfl ?_ ?_
  · cases ts with
    | nil =>
      refine Br.ff ?_
      refine ⟨rfl, ?_⟩
      exact o14
    | cons t r =>
      have hx : (t :: r)[0]? = some t := rfl
      have hln : (t :: r).length = r.length + 1 := rfl
      refine Br.dec (fun c30 => ?_) (fun hc => absurd (by omega) hc)
      refine StillVC.run (StillVC.nilCheck rfl ?_)
      refine StillVC.run (StillVC.fieldAddr st68 rfl rfl rfl ?_)
      refine StillVC.run (StillVC.loadO o14 0 rfl ty31 rfl rfl ?_)
      refine StillVC.run (StillVC.idxN sl31 ty38 (o14.reads 1 hRd rfl) rfl (by omega) (by omega) ?_)
      refine StillVC.run (StillVC.fieldAdr (o14.reads 1 hRd rfl) (by omega) st38 rfl rfl rfl ?_)
      refine StillVC.run (StillVC.loadFF (o14.reads 1 hRd rfl) ty3 (fun _ => rfl) rfl (by assumption) rfl ?_)
      refine StillVC.run (StillVC.fieldAddr st49 rfl rfl rfl ?_)
      (refine RunVC.storeL o14 3 rfl ty3 rfl (by decide) (And.intro ⟨rfl, rfl⟩ ?_); intro m38 o38)
      refine ⟨rfl, ?_⟩
      exact Own.sel (by assumption) [0, 1, 2, 3] rfl
  · intro vs junk hh oh
    refine CallVC.ret (operations_spec bp _) ?_
    rintro _ h2 ⟨bo, pb, rfl, oc⟩
    have o2 := oh.call oc
    simp only [List.cons_append, List.nil_append] at o2
    clear oc
    refine StillVC.run (StillVC.lenV rfl sl145 ?_)
    refine LoopVC.intro [6, 7, 30, 31, 32, 33, 34, 35, 36, 37, 38, 39, 40, 41, 42, 43, 44, 45, 46, 47, 48, 49, 50, 51, 52, 53, 54, 55, 56, 57, 58, 59, 60, 61, 62, 63, 64, 65, 66, 67, 68, 69, 70, 71, 72, 73, 74, 75, 76, 77, 78, 79, 80, 81, 82, 83] [30] (fun vs hh => ∃ (i : Nat), i ≤ 6 ∧ vs = [.int .i64 i] ∧ Own B [box bp [w, .int .i64 z] 68, tk, box b10 [.int .i64 0, .string ⟨⟨[]⟩⟩, nilV, nilV, nilV, .string ⟨⟨[]⟩⟩, .string ⟨⟨[]⟩⟩, .int .i64 0, .int .i64 0] 49, box b13 [.int .i64 1, .string ⟨⟨[]⟩⟩, nilV, nilV, nilV, .string ⟨⟨[]⟩⟩, .string ⟨⟨[]⟩⟩, .int .i64 0, .int .i64 (headOff ts)] 49, box pb [.pointer (some ⟨bp, 0, none⟩)] 66, box bo (opsC pb) 149] hh) (fun vs _ => match vs with | [.int _ i] => 7 - i.toNat | _ => 0) ?_ ?_
    · exact ⟨0, by omega, rfl, o2⟩
    · rintro vs' junk' h3 ⟨i, hi, rfl, o3⟩
      clear o14 oh o2
      have hoL : (opsC pb).length = 7 * 3 := rfl
      rcases (by omega : i = 0 ∨ i = 1 ∨ i = 2 ∨ i = 3 ∨ i = 4 ∨ i = 5 ∨ i = 6) with rfl | rfl | rfl | rfl | rfl | rfl | rfl
      · refine Br.tt ?_
        refine StillVC.run (StillVC.idxN sl145 ty149 (o3.boxArrN 5 rfl (by assumption) (by omega)) rfl (by omega) (by omega) ?_)
        refine StillVC.run (StillVC.loadON o3 5 rfl ty149 rfl rfl rfl ?_)
        (refine RunVC.alloc o3 ty149 ?_; intro b1002 m1002 o1002)
        (refine RunVC.storeL o1002 6 rfl ty149 rfl (by decide) (And.intro ⟨rfl, rfl⟩ ?_); intro m1003 o1003)
        refine StillVC.run (StillVC.fieldAddr st149 rfl rfl rfl ?_)
        refine StillVC.run (StillVC.loadO o1003 6 rfl ty9 rfl rfl ?_)
        (refine RunVC.lit o1003 sl42 ty9 rfl rfl (by decide) (And.intro rfl ?_); intro b1006 m1006 o1006)
        refine CallVC.ret (peek_spec [[115, 101, 108, 101, 99, 116], [40]] _ bp w ts _ (Own.cellB (by assumption) 0 rfl 0) (Own.reads (by assumption) 1 hR.1 rfl) (Own.boxArr (by assumption) 7 rfl rfl (by decide)) hl) ?_
        rintro _ h4 ⟨rv, oc⟩
        have o4 := oc.thenE (by assumption)
        clear oc
        have hb : seesB [[115, 101, 108, 101, 99, 116], [40]] ts = false := hno 0 (by decide)
        rw [hb] at rv
        subst rv
        refine Br.tt ?_
        refine Ar.i64 (by omega) (by omega) ?_
        refine ⟨rfl, ?_⟩
        exact ⟨⟨1, by omega, rfl, Own.sel (by assumption) [0, 1, 2, 3, 4, 5] rfl⟩, by simp⟩
      · refine Br.tt ?_
        refine StillVC.run (StillVC.idxN sl145 ty149 (o3.boxArrN 5 rfl (by assumption) (by omega)) rfl (by omega) (by omega) ?_)
        refine StillVC.run (StillVC.loadON o3 5 rfl ty149 rfl rfl rfl ?_)
        (refine RunVC.alloc o3 ty149 ?_; intro b2002 m2002 o2002)
        (refine RunVC.storeL o2002 6 rfl ty149 rfl (by decide) (And.intro ⟨rfl, rfl⟩ ?_); intro m2003 o2003)
        refine StillVC.run (StillVC.fieldAddr st149 rfl rfl rfl ?_)
        refine StillVC.run (StillVC.loadO o2003 6 rfl ty9 rfl rfl ?_)
        (refine RunVC.lit o2003 sl42 ty9 rfl rfl (by decide) (And.intro rfl ?_); intro b2006 m2006 o2006)
        refine CallVC.ret (peek_spec [[112, 114, 111, 106, 101, 99, 116], [40]] _ bp w ts _ (Own.cellB (by assumption) 0 rfl 0) (Own.reads (by assumption) 1 hR.1 rfl) (Own.boxArr (by assumption) 7 rfl rfl (by decide)) hl) ?_
        rintro _ h4 ⟨rv, oc⟩
        have o4 := oc.thenE (by assumption)
        clear oc
        have hb : seesB [[112, 114, 111, 106, 101, 99, 116], [40]] ts = false := hno 1 (by decide)
        rw [hb] at rv
        subst rv
        refine Br.tt ?_
        refine Ar.i64 (by omega) (by omega) ?_
        refine ⟨rfl, ?_⟩
        exact ⟨⟨2, by omega, rfl, Own.sel (by assumption) [0, 1, 2, 3, 4, 5] rfl⟩, by simp⟩
      · refine Br.tt ?_
        refine StillVC.run (StillVC.idxN sl145 ty149 (o3.boxArrN 5 rfl (by assumption) (by omega)) rfl (by omega) (by omega) ?_)
        refine StillVC.run (StillVC.loadON o3 5 rfl ty149 rfl rfl rfl ?_)
        (refine RunVC.alloc o3 ty149 ?_; intro b3002 m3002 o3002)
        (refine RunVC.storeL o3002 6 rfl ty149 rfl (by decide) (And.intro ⟨rfl, rfl⟩ ?_); intro m3003 o3003)
        refine StillVC.run (StillVC.fieldAddr st149 rfl rfl rfl ?_)
        refine StillVC.run (StillVC.loadO o3003 6 rfl ty9 rfl rfl ?_)
        (refine RunVC.lit o3003 sl42 ty9 rfl rfl (by decide) (And.intro rfl ?_); intro b3006 m3006 o3006)
        refine CallVC.ret (peek_spec [[106, 111, 105, 110], [40]] _ bp w ts _ (Own.cellB (by assumption) 0 rfl 0) (Own.reads (by assumption) 1 hR.1 rfl) (Own.boxArr (by assumption) 7 rfl rfl (by decide)) hl) ?_
        rintro _ h4 ⟨rv, oc⟩
        have o4 := oc.thenE (by assumption)
        clear oc
        have hb : seesB [[106, 111, 105, 110], [40]] ts = false := hno 2 (by decide)
        rw [hb] at rv
        subst rv
        refine Br.tt ?_
        refine Ar.i64 (by omega) (by omega) ?_
        refine ⟨rfl, ?_⟩
        exact ⟨⟨3, by omega, rfl, Own.sel (by assumption) [0, 1, 2, 3, 4, 5] rfl⟩, by simp⟩
      · refine Br.tt ?_
        refine StillVC.run (StillVC.idxN sl145 ty149 (o3.boxArrN 5 rfl (by assumption) (by omega)) rfl (by omega) (by omega) ?_)
        refine StillVC.run (StillVC.loadON o3 5 rfl ty149 rfl rfl rfl ?_)
        (refine RunVC.alloc o3 ty149 ?_; intro b4002 m4002 o4002)
        (refine RunVC.storeL o4002 6 rfl ty149 rfl (by decide) (And.intro ⟨rfl, rfl⟩ ?_); intro m4003 o4003)
        refine StillVC.run (StillVC.fieldAddr st149 rfl rfl rfl ?_)
        refine StillVC.run (StillVC.loadO o4003 6 rfl ty9 rfl rfl ?_)
        (refine RunVC.lit o4003 sl42 ty9 rfl rfl (by decide) (And.intro rfl ?_); intro b4006 m4006 o4006)
        refine CallVC.ret (peek_spec [[117, 110, 105, 111, 110], [40]] _ bp w ts _ (Own.cellB (by assumption) 0 rfl 0) (Own.reads (by assumption) 1 hR.1 rfl) (Own.boxArr (by assumption) 7 rfl rfl (by decide)) hl) ?_
        rintro _ h4 ⟨rv, oc⟩
        have o4 := oc.thenE (by assumption)
        clear oc
        have hb : seesB [[117, 110, 105, 111, 110], [40]] ts = false := hno 3 (by decide)
        rw [hb] at rv
        subst rv
        refine Br.tt ?_
        refine Ar.i64 (by omega) (by omega) ?_
        refine ⟨rfl, ?_⟩
        exact ⟨⟨4, by omega, rfl, Own.sel (by assumption) [0, 1, 2, 3, 4, 5] rfl⟩, by simp⟩
      · refine Br.tt ?_
        refine StillVC.run (StillVC.idxN sl145 ty149 (o3.boxArrN 5 rfl (by assumption) (by omega)) rfl (by omega) (by omega) ?_)
        refine StillVC.run (StillVC.loadON o3 5 rfl ty149 rfl rfl rfl ?_)
        (refine RunVC.alloc o3 ty149 ?_; intro b5002 m5002 o5002)
        (refine RunVC.storeL o5002 6 rfl ty149 rfl (by decide) (And.intro ⟨rfl, rfl⟩ ?_); intro m5003 o5003)
        refine StillVC.run (StillVC.fieldAddr st149 rfl rfl rfl ?_)
        refine StillVC.run (StillVC.loadO o5003 6 rfl ty9 rfl rfl ?_)
        (refine RunVC.lit o5003 sl42 ty9 rfl rfl (by decide) (And.intro rfl ?_); intro b5006 m5006 o5006)
        refine CallVC.ret (peek_spec [[109, 105, 110, 117, 115], [40]] _ bp w ts _ (Own.cellB (by assumption) 0 rfl 0) (Own.reads (by assumption) 1 hR.1 rfl) (Own.boxArr (by assumption) 7 rfl rfl (by decide)) hl) ?_
        rintro _ h4 ⟨rv, oc⟩
        have o4 := oc.thenE (by assumption)
        clear oc
        have hb : seesB [[109, 105, 110, 117, 115], [40]] ts = false := hno 4 (by decide)
        rw [hb] at rv
        subst rv
        refine Br.tt ?_
        refine Ar.i64 (by omega) (by omega) ?_
        refine ⟨rfl, ?_⟩
        exact ⟨⟨5, by omega, rfl, Own.sel (by assumption) [0, 1, 2, 3, 4, 5] rfl⟩, by simp⟩
      · refine Br.tt ?_
        refine StillVC.run (StillVC.idxN sl145 ty149 (o3.boxArrN 5 rfl (by assumption) (by omega)) rfl (by omega) (by omega) ?_)
        refine StillVC.run (StillVC.loadON o3 5 rfl ty149 rfl rfl rfl ?_)
        (refine RunVC.alloc o3 ty149 ?_; intro b6002 m6002 o6002)
        (refine RunVC.storeL o6002 6 rfl ty149 rfl (by decide) (And.intro ⟨rfl, rfl⟩ ?_); intro m6003 o6003)
        refine StillVC.run (StillVC.fieldAddr st149 rfl rfl rfl ?_)
        refine StillVC.run (StillVC.loadO o6003 6 rfl ty9 rfl rfl ?_)
        (refine RunVC.lit o6003 sl42 ty9 rfl rfl (by decide) (And.intro rfl ?_); intro b6006 m6006 o6006)
        refine CallVC.ret (peek_spec [[114, 101, 110, 97, 109, 101], [40]] _ bp w ts _ (Own.cellB (by assumption) 0 rfl 0) (Own.reads (by assumption) 1 hR.1 rfl) (Own.boxArr (by assumption) 7 rfl rfl (by decide)) hl) ?_
        rintro _ h4 ⟨rv, oc⟩
        have o4 := oc.thenE (by assumption)
        clear oc
        have hb : seesB [[114, 101, 110, 97, 109, 101], [40]] ts = false := hno 5 (by decide)
        rw [hb] at rv
        subst rv
        refine Br.tt ?_
        refine Ar.i64 (by omega) (by omega) ?_
        refine ⟨rfl, ?_⟩
        exact ⟨⟨6, by omega, rfl, Own.sel (by assumption) [0, 1, 2, 3, 4, 5] rfl⟩, by simp⟩
      · refine Br.tt ?_
        refine StillVC.run (StillVC.idxN sl145 ty149 (o3.boxArrN 5 rfl (by assumption) (by omega)) rfl (by omega) (by omega) ?_)
        refine StillVC.run (StillVC.loadON o3 5 rfl ty149 rfl rfl rfl ?_)
        (refine RunVC.alloc o3 ty149 ?_; intro b7002 m7002 o7002)
        (refine RunVC.storeL o7002 6 rfl ty149 rfl (by decide) (And.intro ⟨rfl, rfl⟩ ?_); intro m7003 o7003)
        refine StillVC.run (StillVC.fieldAddr st149 rfl rfl rfl ?_)
        refine StillVC.run (StillVC.loadO o7003 6 rfl ty9 rfl rfl ?_)
        (refine RunVC.lit o7003 sl42 ty9 rfl rfl (by decide) (And.intro rfl ?_); intro b7006 m7006 o7006)
        refine CallVC.ret (peek_spec [[103, 114, 111, 117, 112], [40]] _ bp w ts _ (Own.cellB (by assumption) 0 rfl 0) (Own.reads (by assumption) 1 hR.1 rfl) (Own.boxArr (by assumption) 7 rfl rfl (by decide)) hl) ?_
        rintro _ h4 ⟨rv, oc⟩
        have o4 := oc.thenE (by assumption)
        clear oc
        rw [hb] at rv
        subst rv
        have hE : exprP z (n + 1) ts = (needP z [[103, 114, 111, 117, 112], [40]] >>= fun _ => exprP z n >>= fun a => ifP (twoB 6) (needP z [[44]] >>= fun _ => exprP z n >>= fun b => pure [a, b]) [a] >>= fun kids => opRest z 6 (headOff ts) kids >>= fun x => needP z [[41]] >>= fun _ => (pure x : PM Ex)) ts := exprP_some (opIdx_some (by decide) hno hb)
        have o5 := o4.sel [0, 1, 2, 3, 4, 6] rfl
        simp only [PSt, pick, List.cons_append, List.nil_append, List.getElem?_cons_succ, List.getElem?_cons_zero, List.getElem?_nil] at o5
        clear o3 o4
        refine Br.ff ?_
        refine Ar.i64 (by omega) (by omega) ?_
        refine StillVC.run (StillVC.fieldAddr st49 rfl rfl rfl ?_)
        (refine RunVC.store o5 3 rfl ty3 rfl (by simp) (And.intro ⟨rfl, rfl⟩ ?_); intro m7041 o7041)
        refine StillVC.run (StillVC.fieldAddr st149 rfl rfl rfl ?_)
        refine StillVC.run (StillVC.loadO o7041 5 rfl ty9 rfl rfl ?_)
        (refine RunVC.lit o7041 sl42 ty9 rfl rfl (by decide) (And.intro rfl ?_); intro b7044 m7044 o7044)
        refine pneed_call (ss := [[103, 114, 111, 117, 112], [40]]) (by assumption) rfl (by first | exact ⟨2, by decide, rfl⟩ | exact ⟨3, by decide, rfl⟩ | exact ⟨4, by decide, rfl⟩ | exact ⟨5, by decide, rfl⟩ | exact ⟨6, by decide, rfl⟩ | exact ⟨7, by decide, rfl⟩ | exact ⟨8, by decide, rfl⟩ | exact ⟨9, by decide, rfl⟩) hR (by omega) (by decide) (fun _ q1 w1 v h5 hm hv hle1 hR1 oq => ?_) (fun e w' h' hm o2 => ⟨e, w', hE.trans (PM.bind_err hm), rfl, o2⟩)
        subst hv
        rw [PM.bind_ok hm] at hE
        have o6 := oq.sel [0, 1, 2, 3, 4, 5] rfl
        simp only [PSt, pick, List.cons_append, List.nil_append, List.getElem?_cons_succ, List.getElem?_cons_zero, List.getElem?_nil] at o6
        clear oq hm
        refine DrawVC.join [49, 50, 51, 52, 53, 54, 55, 56, 57, 58, 59] [] (fun _ hh => ∃ (a1 : Ex) (q2 : List Tok) (w2 : Value) (c1 : Cells9) (I1 : Item) (ua : Option Addr) (uc : Nat), exprP z n q1 = .ok (a1, q2) ∧ q2.length ≤ q1.length ∧ TokR tk w2 q2 ∧ exR I1 c1.1 a1 ∧ Own B [box bp [w2, .int .i64 z] 68, tk, I1, box b10 [.int .i64 0, .string ⟨⟨[]⟩⟩, nilV, nilV, nilV, .string ⟨⟨[]⟩⟩, .string ⟨⟨[]⟩⟩, .int .i64 0, .int .i64 0] 49, box b13 [.int .i64 8, .string ⟨⟨[]⟩⟩, .slice ua 1 uc, nilV, nilV, .string ⟨⟨[]⟩⟩, .string ⟨⟨[]⟩⟩, .int .i64 0, .int .i64 (headOff ts)] 49, box pb [.pointer (some ⟨bp, 0, none⟩)] 66, box b7002 [.string ⟨⟨[103, 114, 111, 117, 112]⟩⟩, .bool false, .func (.func 120) ⟨[]⟩ ⟨[.pointer (some ⟨pb, 0, none⟩)]⟩] 149, row (.slice ua 1 uc) 49 9 1 c1.1] hh) ?_ ?_
        · refine DrawVC.introBT b13 [0, 2, 3, 4, 6, 9, 11] [1] [8, 10, 12] (.one 0 (.one 1 (.one 2 (.one 3 (.one 4 (.one 6 (.fork 5 7 (.one 7 (.one 8 (.one 9 (.one 11 (.fork 10 12 (.one 12 .done) (.one 10 .done)))))) (.one 5 (.one 8 (.one 9 (.one 11 (.fork 10 12 (.one 12 .done) (.one 10 .done))))))))))))) mixed (by kernel_rfl) rfl (fun _ _ _ _ h => h) ?_
          refine StillVC.fieldAddr st49 rfl rfl rfl ?_
          refine StillVCA.load1 ty47 rfl rfl ((o6.cellB 3 rfl _).trans rfl) ?_
          refine Ar.i64 (by omega) (by omega) ?_
          refine StillVC.lenV rfl sl47 ?_
          refine ⟨?_, ?_⟩
          · skip
            refine PEndI.callL (fun B' o' => ih (level + 1) (by omega) B' bp z tk _ _ _ o' hR1 (by omega)) (by assumption) rfl (fun a1 q2 w2 v I1 h6 hm hv hle2 hR2 oq => ?_) (fun e w' h' hm o2 => ⟨e, w', hE.trans (PM.bind_err hm), rfl, o2⟩)
            obtain ⟨c1, rfl, hx1⟩ := hv
            have o7 := oq
            simp only [PSt, pick, List.cons_append, List.nil_append, List.getElem?_cons_succ, List.getElem?_cons_zero, List.getElem?_nil] at o7
            clear oq
            refine ⟨Eq.trans (Own.satK o7 4 rfl) (Eq.symm (Own.satK (x := box b13 _ _) (by assumption) 3 rfl)), ?_⟩
            have one1 := exR_one (Own.satK o7 2 rfl) hx1
            (refine RunVC.litN o7 sl47 ty49 rfl rfl (by decide) ?_)
            refine And.intro rfl ?_
            intro b7101 m7101 o7101
            refine And.intro ((o7101.boxBlk 4 rfl).trans (o7.boxBlk 4 rfl).symm) ?_
            have on := Own.nilRow (by assumption) 49 9
            simp only [List.cons_append, List.nil_append] at on
            refine RunVC.append on 8 rfl sl47 ty49 (by decide) (Own.boxArrN on 7 rfl (n := 1) rfl (by omega)) (by simp [Value.oneCell']) (by simp only [maxLen]; omega) (by omega) ?_
            intro vA mA oA
            obtain ⟨ua, uc, rfl⟩ := oA.rowIs 8 rfl
            refine StillVC.idxN sl47 ty49 (oA.rowArrN 8 rfl) rfl (by omega) (by omega) ?_
            refine StillVC.fieldAddr st49 rfl rfl rfl ?_
            refine ⟨?_, ?_⟩
            · skip
              refine RunVC.storeRN (i := 0) (by assumption) 8 rfl ty49 rfl rfl rfl c1.2 (by decide) (by decide) one1 ?_
              intro mB oB
              simp only [List.set_cons_succ, List.set_cons_zero] at oB
              (refine RunVC.store oB 4 rfl ty47 rfl (by simp) (And.intro ⟨rfl, rfl⟩ ?_); intro m7140 o7140)
              refine ⟨rfl, ?_⟩
              have ef := lset_full (cs := [.int .i64 0, .string ⟨⟨[]⟩⟩, nilV, nilV, nilV, .string ⟨⟨[]⟩⟩, .string ⟨⟨[]⟩⟩, .int .i64 0, .int .i64 0]) (c := c1) rfl
              exact ⟨a1, q2, w2, c1, I1, ua, uc, hm, hle2, hR2, hx1, ef ▸ Own.sel (by assumption) [0, 1, 2, 3, 4, 5, 6, 8] rfl⟩
            · skip
              (refine RunVC.store oA 4 rfl ty47 rfl (by simp) (And.intro ⟨rfl, rfl⟩ ?_); intro m7150 o7150)
              refine RunVC.storeRN (i := 0) (by assumption) 8 rfl ty49 rfl rfl rfl c1.2 (by decide) (by decide) one1 ?_
              intro mB oB
              simp only [List.set_cons_succ, List.set_cons_zero] at oB
              refine ⟨rfl, ?_⟩
              have ef := lset_full (cs := [.int .i64 0, .string ⟨⟨[]⟩⟩, nilV, nilV, nilV, .string ⟨⟨[]⟩⟩, .string ⟨⟨[]⟩⟩, .int .i64 0, .int .i64 0]) (c := c1) rfl
              exact ⟨a1, q2, w2, c1, I1, ua, uc, hm, hle2, hR2, hx1, ef ▸ Own.sel (by assumption) [0, 1, 2, 3, 4, 5, 6, 8] rfl⟩
          · skip
            (refine RunVC.litN o6 sl47 ty49 rfl rfl (by decide) ?_)
            refine And.intro rfl ?_
            intro b7281 m7281 o7281
            refine And.intro ((o7281.boxBlk 3 rfl).trans (o6.boxBlk 3 rfl).symm) ?_
            refine PEndI.callL (fun B' o' => ih (level + 1) (by omega) B' bp z tk _ _ _ o' hR1 (by omega)) (by assumption) rfl (fun a1 q2 w2 v I1 h6 hm hv hle2 hR2 oq => ?_) (fun e w' h' hm o2 => ⟨e, w', hE.trans (PM.bind_err hm), rfl, o2⟩)
            obtain ⟨c1, rfl, hx1⟩ := hv
            have o7 := oq
            simp only [PSt, pick, List.cons_append, List.nil_append, List.getElem?_cons_succ, List.getElem?_cons_zero, List.getElem?_nil] at o7
            clear oq
            refine ⟨Eq.trans (Own.satK o7 4 rfl) (Eq.symm (Own.satK (x := box b13 _ _) (by assumption) 3 rfl)), ?_⟩
            have one1 := exR_one (Own.satK o7 2 rfl) hx1
            have on := Own.nilRow (by assumption) 49 9
            simp only [List.cons_append, List.nil_append] at on
            refine RunVC.append on 8 rfl sl47 ty49 (by decide) (Own.boxArrN on 7 rfl (n := 1) rfl (by omega)) (by simp [Value.oneCell']) (by simp only [maxLen]; omega) (by omega) ?_
            intro vA mA oA
            obtain ⟨ua, uc, rfl⟩ := oA.rowIs 8 rfl
            refine StillVC.idxN sl47 ty49 (oA.rowArrN 8 rfl) rfl (by omega) (by omega) ?_
            refine StillVC.fieldAddr st49 rfl rfl rfl ?_
            refine ⟨?_, ?_⟩
            · skip
              refine RunVC.storeRN (i := 0) (by assumption) 8 rfl ty49 rfl rfl rfl c1.2 (by decide) (by decide) one1 ?_
              intro mB oB
              simp only [List.set_cons_succ, List.set_cons_zero] at oB
              (refine RunVC.store oB 4 rfl ty47 rfl (by simp) (And.intro ⟨rfl, rfl⟩ ?_); intro m7340 o7340)
              refine ⟨rfl, ?_⟩
              have ef := lset_full (cs := [.int .i64 0, .string ⟨⟨[]⟩⟩, nilV, nilV, nilV, .string ⟨⟨[]⟩⟩, .string ⟨⟨[]⟩⟩, .int .i64 0, .int .i64 0]) (c := c1) rfl
              exact ⟨a1, q2, w2, c1, I1, ua, uc, hm, hle2, hR2, hx1, ef ▸ Own.sel (by assumption) [0, 1, 2, 3, 4, 5, 6, 8] rfl⟩
            · skip
              (refine RunVC.store oA 4 rfl ty47 rfl (by simp) (And.intro ⟨rfl, rfl⟩ ?_); intro m7350 o7350)
              refine RunVC.storeRN (i := 0) (by assumption) 8 rfl ty49 rfl rfl rfl c1.2 (by decide) (by decide) one1 ?_
              intro mB oB
              simp only [List.set_cons_succ, List.set_cons_zero] at oB
              refine ⟨rfl, ?_⟩
              have ef := lset_full (cs := [.int .i64 0, .string ⟨⟨[]⟩⟩, nilV, nilV, nilV, .string ⟨⟨[]⟩⟩, .string ⟨⟨[]⟩⟩, .int .i64 0, .int .i64 0]) (c := c1) rfl
              exact ⟨a1, q2, w2, c1, I1, ua, uc, hm, hle2, hR2, hx1, ef ▸ Own.sel (by assumption) [0, 1, 2, 3, 4, 5, 6, 8] rfl⟩
        · rintro _ junk2 h7 ⟨a1, q2, w2, c1, I1, ua, uc, hm, hle2, hR2, hx1, o8⟩
          rw [PM.bind_ok hm] at hE
          rw [ifP_no (by rfl), PM.pure_bind'] at hE
          refine StillVC.run (StillVC.fieldAddr st149 rfl rfl rfl ?_)
          refine StillVC.run (StillVC.loadO o8 6 rfl ty4 rfl rfl ?_)
          refine Br.ff ?_
          refine RegVC.plain ?_
          refine StillVC.run (StillVC.fieldAddr st149 rfl rfl rfl ?_)
          refine StillVC.run (StillVC.loadO o8 6 rfl ty147 rfl rfl ?_)
          refine RestEnd.callL (fun B' o' => rest6_spec (headOff ts) (.slice ua 1 uc) [a1] B' bp z tk b13 pb w2 q2 h7 o' hR2 (by omega)) o8 [0, 1, 4, 5] [2, 3, 7] rfl rfl (fun x q3 w3 c J h8 hm3 hJ hle3 hR3 oq => ?_) (fun e w' h' hm3 o2 => ⟨e, w', hE.trans (PM.bind_err hm3), rfl, o2⟩)
          rw [PM.bind_ok hm3] at hE
          obtain ⟨vc, vn, cs, ns, at_, as_, ag, rfl, rfl, rc, rn⟩ := hJ
          unfold exC at oq
          have o9 := oq
          simp only [PSt, pick, List.cons_append, List.nil_append, List.getElem?_cons_succ, List.getElem?_cons_zero, List.getElem?_nil] at o9
          clear oq o8
          obtain ⟨xa, xb, rfl⟩ := rc.isS (Own.satK o9 4 rfl)
          obtain ⟨ya, yb, rfl⟩ := rn.isS (Own.satK o9 4 rfl)
          (refine RunVC.lit o9 sl42 ty9 rfl rfl (by decide) (And.intro rfl ?_); intro b7520 m7520 o7520)
          refine pneed_call (ss := [[41]]) (by assumption) rfl (by first | exact ⟨2, by decide, rfl⟩ | exact ⟨3, by decide, rfl⟩ | exact ⟨4, by decide, rfl⟩ | exact ⟨5, by decide, rfl⟩ | exact ⟨6, by decide, rfl⟩ | exact ⟨7, by decide, rfl⟩ | exact ⟨8, by decide, rfl⟩ | exact ⟨9, by decide, rfl⟩) hR3 (by omega) (by decide) (fun _ q4 w4 v h9 hm4 hv hle4 hR4 oq => ?_) (fun e w' h' hm o2 => ⟨e, w', hE.trans (PM.bind_err hm), rfl, o2⟩)
          subst hv
          rw [PM.bind_ok hm4] at hE
          have o10 := oq
          simp only [PSt, pick, List.cons_append, List.nil_append, List.getElem?_cons_succ, List.getElem?_cons_zero, List.getElem?_nil] at o10
          clear oq o9
          refine StillVC.run (StillVC.loadON o10 2 rfl ty49 rfl rfl rfl ?_)
          (refine RunVC.storeL o10 6 rfl ty49 rfl (by decide) (And.intro ⟨rfl, rfl⟩ ?_); intro m7541 o7541)
          first | refine RetVC.cell2 rfl o7541 6 rfl ty49 rfl rfl ?_ | refine RetVC.cell1 rfl o7541 6 rfl ty49 rfl rfl ?_ | refine RetVC.cellTT rfl o7541 6 rfl ty49 rfl rfl ?_
          have er : [c1].flatMap Subtype.val = c1.1 := by simp
          exact ⟨_, q4, w4, joinI (joinI J I1) (row (.slice ua 1 uc) 49 9 1 c1.1), hE, ⟨⟨exC 8 [] (.slice ua 1 uc) (.slice xa cs.length xb) (.slice ya ns.length yb) at_ as_ ag (headOff ts), rfl⟩, rfl, by rw [exR]; exact ⟨_, _, _, rfl, rc.inl.inl, rn.inl.inl, [c1], by rw [er]; exact row_reads.inr, exR.mono (fun _ (s : (joinI (joinI _ _) _).sat _) => s.1.2) _ _ hx1, trivial⟩⟩, by omega, hR4, ((Own.sel (by assumption) [4, 5, 7, 0, 1] rfl).join.join).sel [1, 2, 0] rfl⟩

end Go.Proofs.YtnmfanjhepepbaaGreatDoor

/- The parser's expressions. -/
namespace Go.Proofs.YtnmfanjhepepbaaGreatDoor
open Go

theorem expr_next (n : Nat) (hn : n ≤ 11) (ih : ExSpec n) : ExSpec (n + 1) := by
  intro level hlv B bp z tk w ts h o hR hl
  cases hb0 : seesB [[115, 101, 108, 101, 99, 116], [40]] ts with
  | true => exact expr_select n hn ih level hlv B bp z tk w ts h o hR hl (fun j hj => by rcases (by omega : False) with hf; exact hf.elim) hb0
  | false =>
  cases hb1 : seesB [[112, 114, 111, 106, 101, 99, 116], [40]] ts with
  | true => exact expr_project n hn ih level hlv B bp z tk w ts h o hR hl (fun j hj => by rcases (by omega : False ∨ j = 0) with hf | rfl; exact hf.elim; exact hb0) hb1
  | false =>
  cases hb2 : seesB [[106, 111, 105, 110], [40]] ts with
  | true => exact expr_join n hn ih level hlv B bp z tk w ts h o hR hl (fun j hj => by rcases (by omega : False ∨ j = 0 ∨ j = 1) with hf | rfl | rfl; exact hf.elim; exact hb0; exact hb1) hb2
  | false =>
  cases hb3 : seesB [[117, 110, 105, 111, 110], [40]] ts with
  | true => exact expr_union n hn ih level hlv B bp z tk w ts h o hR hl (fun j hj => by rcases (by omega : False ∨ j = 0 ∨ j = 1 ∨ j = 2) with hf | rfl | rfl | rfl; exact hf.elim; exact hb0; exact hb1; exact hb2) hb3
  | false =>
  cases hb4 : seesB [[109, 105, 110, 117, 115], [40]] ts with
  | true => exact expr_minus n hn ih level hlv B bp z tk w ts h o hR hl (fun j hj => by rcases (by omega : False ∨ j = 0 ∨ j = 1 ∨ j = 2 ∨ j = 3) with hf | rfl | rfl | rfl | rfl; exact hf.elim; exact hb0; exact hb1; exact hb2; exact hb3) hb4
  | false =>
  cases hb5 : seesB [[114, 101, 110, 97, 109, 101], [40]] ts with
  | true => exact expr_rename n hn ih level hlv B bp z tk w ts h o hR hl (fun j hj => by rcases (by omega : False ∨ j = 0 ∨ j = 1 ∨ j = 2 ∨ j = 3 ∨ j = 4) with hf | rfl | rfl | rfl | rfl | rfl; exact hf.elim; exact hb0; exact hb1; exact hb2; exact hb3; exact hb4) hb5
  | false =>
  cases hb6 : seesB [[103, 114, 111, 117, 112], [40]] ts with
  | true => exact expr_group n hn ih level hlv B bp z tk w ts h o hR hl (fun j hj => by rcases (by omega : False ∨ j = 0 ∨ j = 1 ∨ j = 2 ∨ j = 3 ∨ j = 4 ∨ j = 5) with hf | rfl | rfl | rfl | rfl | rfl | rfl; exact hf.elim; exact hb0; exact hb1; exact hb2; exact hb3; exact hb4; exact hb5) hb6
  | false =>
  exact expr_leaf n hn ih level hlv B bp z tk w ts h o hR hl (fun j hj => by rcases (by omega : j = 0 ∨ j = 1 ∨ j = 2 ∨ j = 3 ∨ j = 4 ∨ j = 5 ∨ j = 6) with rfl | rfl | rfl | rfl | rfl | rfl | rfl; exact hb0; exact hb1; exact hb2; exact hb3; exact hb4; exact hb5; exact hb6)

theorem expr_spec : ∀ (n : Nat), n ≤ 12 → ExSpec n
  | 0, _ => expr_zero
  | n + 1, h => expr_next n (by omega) (expr_spec n (by omega))

end Go.Proofs.YtnmfanjhepepbaaGreatDoor
