/-
  The parser's expressions: join. The parser's expressions: union.
-/
import Derived.Test.YtnmfanjhepepbaaGreatDoorStructs
import Derived.Test.YtnmfanjhepepbaaGreatDoorMEa
set_option linter.all false
/- The parser's expressions: join. -/
namespace Go.Proofs.YtnmfanjhepepbaaGreatDoor
open Go

set_option maxHeartbeats 100000000 in
set_option maxRecDepth 100000 in
theorem expr_join (n : Nat) (hn : n ≤ 11) (ih : ExSpec n) : ∀ (level : Int) (_ : level = 13 - ((n + 1 : Nat) : Int)) (B : Base) (bp z : Nat) (tk : Item) (w : Value) (ts : List Tok) (h : Heap) (_ : Own B (PSt bp z w tk) h) (_ : TokR tk w ts) (_ : ts.length ≤ 5000) (_ : ∀ j, j < 2 → seesB [opNames.getD j [], [40]] ts = false) (_ : seesB [[106, 111, 105, 110], [40]] ts = true),
    Spec Tryz.prog 87 [.pointer (some ⟨bp, 0, none⟩), .int .i64 level] h (PEndI B bp z tk ts.length (exprP z (n + 1) ts) exV) := by
  intro level hlv B bp z tk w ts h o hR hl hno hb
  obtain ⟨hRd, hK⟩ := hR
  have hR : TokR tk w ts := ⟨hRd, hK⟩
  refine Spec.enter Tryz.func87 rfl Tryz.ntmps87 (by kernel_rfl) ?_
  (refine RunVC.alloc o ty49 ?_; intro b10 m10 o10)
  refine Br.dec (fun hc => absurd hc (by omega)) (fun c11 => ?_)
  refine StillVC.run (StillVC.buildK st49 ?_)
  refine And.intro rfl ?_
  (refine RunVC.alloc o10 ty49 ?_; intro b13 m13 o13)
  (refine RunVC.storeL o13 3 rfl ty49 rfl (by decide) (And.intro ⟨rfl, rfl⟩ ?_); intro m14 o14)
  refine StillVC.run (StillVC.nilCheck rfl ?_)
  refine StillVC.run (StillVC.fieldAddr st68 rfl rfl rfl ?_)
  refine StillVC.run (StillVC.loadO o14 0 rfl ty31 rfl rfl ?_)
  refine StillVC.run (StillVC.lenN (o14.reads 1 hRd rfl) sl31 ?_)
  refine Br.join [19, 20, 21, 22, 23, 24, 25, 26] [] (fun _ hh => Own B [box bp [w, .int .i64 z] 68, tk, box b10 [.int .i64 0, .string ⟨⟨[]⟩⟩, nilV, nilV, nilV, .string ⟨⟨[]⟩⟩, .string ⟨⟨[]⟩⟩, .int .i64 0, .int .i64 0] 49, box b13 [.int .i64 1, .string ⟨⟨[]⟩⟩, nilV, nilV, nilV, .string ⟨⟨[]⟩⟩, .string ⟨⟨[]⟩⟩, .int .i64 0, .int .i64 (headOff ts)] 49] hh) rfl rfl ?_ ?_
  · cases ts with
    | nil =>
      refine Br.ff ?_
      refine ⟨rfl, ?_⟩
      exact o14
    | cons t r =>
      have hx : (t :: r)[0]? = some t := rfl
      have hln : (t :: r).length = r.length + 1 := rfl
      refine Br.dec (fun c30 => ?_) (fun hc => absurd (by omega) hc)
      refine StillVC.run (StillVC.nilCheck rfl ?_)
      refine StillVC.run (StillVC.fieldAddr st68 rfl rfl rfl ?_)
      refine StillVC.run (StillVC.loadO o14 0 rfl ty31 rfl rfl ?_)
      refine StillVC.run (StillVC.idxN sl31 ty38 (o14.reads 1 hRd rfl) rfl (by omega) (by omega) ?_)
      refine StillVC.run (StillVC.fieldAdr (o14.reads 1 hRd rfl) (by omega) st38 rfl rfl rfl ?_)
      refine StillVC.run (StillVC.loadFF (o14.reads 1 hRd rfl) ty3 (fun _ => rfl) rfl (by assumption) rfl ?_)
      refine StillVC.run (StillVC.fieldAddr st49 rfl rfl rfl ?_)
      (refine RunVC.storeL o14 3 rfl ty3 rfl (by decide) (And.intro ⟨rfl, rfl⟩ ?_); intro m38 o38)
      refine ⟨rfl, ?_⟩
      exact Own.sel (by assumption) [0, 1, 2, 3] rfl
  · intro vs junk hh oh
    refine CallVC.ret (operations_spec bp _) ?_
    rintro _ h2 ⟨bo, pb, rfl, oc⟩
    have o2 := oh.call oc
    simp only [List.cons_append, List.nil_append] at o2
    clear oc
    refine StillVC.run (StillVC.lenV rfl sl145 ?_)
    refine LoopVC.intro [6, 7, 30, 31, 32, 33, 34, 35, 36, 37, 38, 39, 40, 41, 42, 43, 44, 45, 46, 47, 48, 49, 50, 51, 52, 53, 54, 55, 56, 57, 58, 59, 60, 61, 62, 63, 64, 65, 66, 67, 68, 69, 70, 71, 72, 73, 74, 75, 76, 77, 78, 79, 80, 81, 82, 83] [30] (fun vs hh => ∃ (i : Nat), i ≤ 2 ∧ vs = [.int .i64 i] ∧ Own B [box bp [w, .int .i64 z] 68, tk, box b10 [.int .i64 0, .string ⟨⟨[]⟩⟩, nilV, nilV, nilV, .string ⟨⟨[]⟩⟩, .string ⟨⟨[]⟩⟩, .int .i64 0, .int .i64 0] 49, box b13 [.int .i64 1, .string ⟨⟨[]⟩⟩, nilV, nilV, nilV, .string ⟨⟨[]⟩⟩, .string ⟨⟨[]⟩⟩, .int .i64 0, .int .i64 (headOff ts)] 49, box pb [.pointer (some ⟨bp, 0, none⟩)] 66, box bo (opsC pb) 149] hh) (fun vs _ => match vs with | [.int _ i] => 7 - i.toNat | _ => 0) ?_ ?_
    · exact ⟨0, by omega, rfl, o2⟩
    · rintro vs' junk' h3 ⟨i, hi, rfl, o3⟩
      clear o14 oh o2
      have hoL : (opsC pb).length = 7 * 3 := rfl
      rcases (by omega : i = 0 ∨ i = 1 ∨ i = 2) with rfl | rfl | rfl
      · refine Br.tt ?_
        refine StillVC.run (StillVC.idxN sl145 ty149 (o3.boxArrN 5 rfl (by assumption) (by omega)) rfl (by omega) (by omega) ?_)
        refine StillVC.run (StillVC.loadON o3 5 rfl ty149 rfl rfl rfl ?_)
        (refine RunVC.alloc o3 ty149 ?_; intro b1002 m1002 o1002)
        (refine RunVC.storeL o1002 6 rfl ty149 rfl (by decide) (And.intro ⟨rfl, rfl⟩ ?_); intro m1003 o1003)
        refine StillVC.run (StillVC.fieldAddr st149 rfl rfl rfl ?_)
        refine StillVC.run (StillVC.loadO o1003 6 rfl ty9 rfl rfl ?_)
        (refine RunVC.lit o1003 sl42 ty9 rfl rfl (by decide) (And.intro rfl ?_); intro b1006 m1006 o1006)
        refine CallVC.ret (peek_spec [[115, 101, 108, 101, 99, 116], [40]] _ bp w ts _ (Own.cellB (by assumption) 0 rfl 0) (Own.reads (by assumption) 1 hR.1 rfl) (Own.boxArr (by assumption) 7 rfl rfl (by decide)) hl) ?_
        rintro _ h4 ⟨rv, oc⟩
        have o4 := oc.thenE (by assumption)
        clear oc
        have hb : seesB [[115, 101, 108, 101, 99, 116], [40]] ts = false := hno 0 (by decide)
        rw [hb] at rv
        subst rv
        refine Br.tt ?_
        refine Ar.i64 (by omega) (by omega) ?_
        refine ⟨rfl, ?_⟩
        exact ⟨⟨1, by omega, rfl, Own.sel (by assumption) [0, 1, 2, 3, 4, 5] rfl⟩, by simp⟩
      · refine Br.tt ?_
        refine StillVC.run (StillVC.idxN sl145 ty149 (o3.boxArrN 5 rfl (by assumption) (by omega)) rfl (by omega) (by omega) ?_)
        refine StillVC.run (StillVC.loadON o3 5 rfl ty149 rfl rfl rfl ?_)
        (refine RunVC.alloc o3 ty149 ?_; intro b2002 m2002 o2002)
        (refine RunVC.storeL o2002 6 rfl ty149 rfl (by decide) (And.intro ⟨rfl, rfl⟩ ?_); intro m2003 o2003)
        refine StillVC.run (StillVC.fieldAddr st149 rfl rfl rfl ?_)
        refine StillVC.run (StillVC.loadO o2003 6 rfl ty9 rfl rfl ?_)
        (refine RunVC.lit o2003 sl42 ty9 rfl rfl (by decide) (And.intro rfl ?_); intro b2006 m2006 o2006)
        refine CallVC.ret (peek_spec [[112, 114, 111, 106, 101, 99, 116], [40]] _ bp w ts _ (Own.cellB (by assumption) 0 rfl 0) (Own.reads (by assumption) 1 hR.1 rfl) (Own.boxArr (by assumption) 7 rfl rfl (by decide)) hl) ?_
        rintro _ h4 ⟨rv, oc⟩
        have o4 := oc.thenE (by assumption)
        clear oc
        have hb : seesB [[112, 114, 111, 106, 101, 99, 116], [40]] ts = false := hno 1 (by decide)
        rw [hb] at rv
        subst rv
        refine Br.tt ?_
        refine Ar.i64 (by omega) (by omega) ?_
        refine ⟨rfl, ?_⟩
        exact ⟨⟨2, by omega, rfl, Own.sel (by assumption) [0, 1, 2, 3, 4, 5] rfl⟩, by simp⟩
      · refine Br.tt ?_
        refine StillVC.run (StillVC.idxN sl145 ty149 (o3.boxArrN 5 rfl (by assumption) (by omega)) rfl (by omega) (by omega) ?_)
        refine StillVC.run (StillVC.loadON o3 5 rfl ty149 rfl rfl rfl ?_)
        (refine RunVC.alloc o3 ty149 ?_; intro b3002 m3002 o3002)
        (refine RunVC.storeL o3002 6 rfl ty149 rfl (by decide) (And.intro ⟨rfl, rfl⟩ ?_); intro m3003 o3003)
        refine StillVC.run (StillVC.fieldAddr st149 rfl rfl rfl ?_)
        refine StillVC.run (StillVC.loadO o3003 6 rfl ty9 rfl rfl ?_)
        (refine RunVC.lit o3003 sl42 ty9 rfl rfl (by decide) (And.intro rfl ?_); intro b3006 m3006 o3006)
        refine CallVC.ret (peek_spec [[106, 111, 105, 110], [40]] _ bp w ts _ (Own.cellB (by assumption) 0 rfl 0) (Own.reads (by assumption) 1 hR.1 rfl) (Own.boxArr (by assumption) 7 rfl rfl (by decide)) hl) ?_
        rintro _ h4 ⟨rv, oc⟩
        have o4 := oc.thenE (by assumption)
        clear oc
        rw [hb] at rv
        subst rv
        have hE : exprP z (n + 1) ts = (needP z [[106, 111, 105, 110], [40]] >>= fun _ => exprP z n >>= fun a => ifP (twoB 2) (needP z [[44]] >>= fun _ => exprP z n >>= fun b => pure [a, b]) [a] >>= fun kids => opRest z 2 (headOff ts) kids >>= fun x => needP z [[41]] >>= fun _ => (pure x : PM Ex)) ts := exprP_some (opIdx_some (by decide) hno hb)
        have o5 := o4.sel [0, 1, 2, 3, 4, 6] rfl
        simp only [PSt, pick, List.cons_append, List.nil_append, List.getElem?_cons_succ, List.getElem?_cons_zero, List.getElem?_nil] at o5
        clear o3 o4
        refine Br.ff ?_
        refine Ar.i64 (by omega) (by omega) ?_
        refine StillVC.run (StillVC.fieldAddr st49 rfl rfl rfl ?_)
        (refine RunVC.store o5 3 rfl ty3 rfl (by simp) (And.intro ⟨rfl, rfl⟩ ?_); intro m3041 o3041)
        refine StillVC.run (StillVC.fieldAddr st149 rfl rfl rfl ?_)
        refine StillVC.run (StillVC.loadO o3041 5 rfl ty9 rfl rfl ?_)
        (refine RunVC.lit o3041 sl42 ty9 rfl rfl (by decide) (And.intro rfl ?_); intro b3044 m3044 o3044)
        refine pneed_call (ss := [[106, 111, 105, 110], [40]]) (by assumption) rfl (by first | exact ⟨2, by decide, rfl⟩ | exact ⟨3, by decide, rfl⟩ | exact ⟨4, by decide, rfl⟩ | exact ⟨5, by decide, rfl⟩ | exact ⟨6, by decide, rfl⟩ | exact ⟨7, by decide, rfl⟩ | exact ⟨8, by decide, rfl⟩ | exact ⟨9, by decide, rfl⟩) hR (by omega) (by decide) (fun _ q1 w1 v h5 hm hv hle1 hR1 oq => ?_) (fun e w' h' hm o2 => ⟨e, w', hE.trans (PM.bind_err hm), rfl, o2⟩)
        subst hv
        rw [PM.bind_ok hm] at hE
        have o6 := oq.sel [0, 1, 2, 3, 4, 5] rfl
        simp only [PSt, pick, List.cons_append, List.nil_append, List.getElem?_cons_succ, List.getElem?_cons_zero, List.getElem?_nil] at o6
        clear oq hm
        refine DrawVC.join [49, 50, 51, 52, 53, 54, 55, 56, 57, 58, 59] [] (fun _ hh => ∃ (a1 : Ex) (q2 : List Tok) (w2 : Value) (c1 : Cells9) (I1 : Item) (ua : Option Addr) (uc : Nat), exprP z n q1 = .ok (a1, q2) ∧ q2.length ≤ q1.length ∧ TokR tk w2 q2 ∧ exR I1 c1.1 a1 ∧ Own B [box bp [w2, .int .i64 z] 68, tk, I1, box b10 [.int .i64 0, .string ⟨⟨[]⟩⟩, nilV, nilV, nilV, .string ⟨⟨[]⟩⟩, .string ⟨⟨[]⟩⟩, .int .i64 0, .int .i64 0] 49, box b13 [.int .i64 4, .string ⟨⟨[]⟩⟩, .slice ua 1 uc, nilV, nilV, .string ⟨⟨[]⟩⟩, .string ⟨⟨[]⟩⟩, .int .i64 0, .int .i64 (headOff ts)] 49, box pb [.pointer (some ⟨bp, 0, none⟩)] 66, box b3002 [.string ⟨⟨[106, 111, 105, 110]⟩⟩, .bool true, .func (.func 116) ⟨[]⟩ ⟨[]⟩] 149, row (.slice ua 1 uc) 49 9 1 c1.1] hh) ?_ ?_
        · refine DrawVC.introBT b13 [0, 2, 3, 4, 6, 9, 11] [1] [8, 10, 12] (.one 0 (.one 1 (.one 2 (.one 3 (.one 4 (.one 6 (.fork 5 7 (.one 7 (.one 8 (.one 9 (.one 11 (.fork 10 12 (.one 12 .done) (.one 10 .done)))))) (.one 5 (.one 8 (.one 9 (.one 11 (.fork 10 12 (.one 12 .done) (.one 10 .done))))))))))))) mixed (by kernel_rfl) rfl (fun _ _ _ _ h => h) ?_
          refine StillVC.fieldAddr st49 rfl rfl rfl ?_
          refine StillVCA.load1 ty47 rfl rfl ((o6.cellB 3 rfl _).trans rfl) ?_
          refine Ar.i64 (by omega) (by omega) ?_
          refine StillVC.lenV rfl sl47 ?_
          refine ⟨?_, ?_⟩
          · skip
            refine PEndI.callL (fun B' o' => ih (level + 1) (by omega) B' bp z tk _ _ _ o' hR1 (by omega)) (by assumption) rfl (fun a1 q2 w2 v I1 h6 hm hv hle2 hR2 oq => ?_) (fun e w' h' hm o2 => ⟨e, w', hE.trans (PM.bind_err hm), rfl, o2⟩)
            obtain ⟨c1, rfl, hx1⟩ := hv
            have o7 := oq
            simp only [PSt, pick, List.cons_append, List.nil_append, List.getElem?_cons_succ, List.getElem?_cons_zero, List.getElem?_nil] at o7
            clear oq
            refine ⟨Eq.trans (Own.satK o7 4 rfl) (Eq.symm (Own.satK (x := box b13 _ _) (by assumption) 3 rfl)), ?_⟩
            have one1 := exR_one (Own.satK o7 2 rfl) hx1
            (refine RunVC.litN o7 sl47 ty49 rfl rfl (by decide) ?_)
            refine And.intro rfl ?_
            intro b3101 m3101 o3101
            refine And.intro ((o3101.boxBlk 4 rfl).trans (o7.boxBlk 4 rfl).symm) ?_
            have on := Own.nilRow (by assumption) 49 9
            simp only [List.cons_append, List.nil_append] at on
            refine RunVC.append on 8 rfl sl47 ty49 (by decide) (Own.boxArrN on 7 rfl (n := 1) rfl (by omega)) (by simp [Value.oneCell']) (by simp only [maxLen]; omega) (by omega) ?_
            intro vA mA oA
            obtain ⟨ua, uc, rfl⟩ := oA.rowIs 8 rfl
            refine StillVC.idxN sl47 ty49 (oA.rowArrN 8 rfl) rfl (by omega) (by omega) ?_
            refine StillVC.fieldAddr st49 rfl rfl rfl ?_
            refine ⟨?_, ?_⟩
            · skip
              refine RunVC.storeRN (i := 0) (by assumption) 8 rfl ty49 rfl rfl rfl c1.2 (by decide) (by decide) one1 ?_
              intro mB oB
              simp only [List.set_cons_succ, List.set_cons_zero] at oB
              (refine RunVC.store oB 4 rfl ty47 rfl (by simp) (And.intro ⟨rfl, rfl⟩ ?_); intro m3140 o3140)
              refine ⟨rfl, ?_⟩
              have ef := lset_full (cs := [.int .i64 0, .string ⟨⟨[]⟩⟩, nilV, nilV, nilV, .string ⟨⟨[]⟩⟩, .string ⟨⟨[]⟩⟩, .int .i64 0, .int .i64 0]) (c := c1) rfl
              exact ⟨a1, q2, w2, c1, I1, ua, uc, hm, hle2, hR2, hx1, ef ▸ Own.sel (by assumption) [0, 1, 2, 3, 4, 5, 6, 8] rfl⟩
            · skip
              (refine RunVC.store oA 4 rfl ty47 rfl (by simp) (And.intro ⟨rfl, rfl⟩ ?_); intro m3150 o3150)
              refine RunVC.storeRN (i := 0) (by assumption) 8 rfl ty49 rfl rfl rfl c1.2 (by decide) (by decide) one1 ?_
              intro mB oB
              simp only [List.set_cons_succ, List.set_cons_zero] at oB
              refine ⟨rfl, ?_⟩
              have ef := lset_full (cs := [.int .i64 0, .string ⟨⟨[]⟩⟩, nilV, nilV, nilV, .string ⟨⟨[]⟩⟩, .string ⟨⟨[]⟩⟩, .int .i64 0, .int .i64 0]) (c := c1) rfl
              exact ⟨a1, q2, w2, c1, I1, ua, uc, hm, hle2, hR2, hx1, ef ▸ Own.sel (by assumption) [0, 1, 2, 3, 4, 5, 6, 8] rfl⟩
          · skip
            (refine RunVC.litN o6 sl47 ty49 rfl rfl (by decide) ?_)
            refine And.intro rfl ?_
            intro b3281 m3281 o3281
            refine And.intro ((o3281.boxBlk 3 rfl).trans (o6.boxBlk 3 rfl).symm) ?_
            refine PEndI.callL (fun B' o' => ih (level + 1) (by omega) B' bp z tk _ _ _ o' hR1 (by omega)) (by assumption) rfl (fun a1 q2 w2 v I1 h6 hm hv hle2 hR2 oq => ?_) (fun e w' h' hm o2 => ⟨e, w', hE.trans (PM.bind_err hm), rfl, o2⟩)
            obtain ⟨c1, rfl, hx1⟩ := hv
            have o7 := oq
            simp only [PSt, pick, List.cons_append, List.nil_append, List.getElem?_cons_succ, List.getElem?_cons_zero, List.getElem?_nil] at o7
            clear oq
            refine ⟨Eq.trans (Own.satK o7 4 rfl) (Eq.symm (Own.satK (x := box b13 _ _) (by assumption) 3 rfl)), ?_⟩
            have one1 := exR_one (Own.satK o7 2 rfl) hx1
            have on := Own.nilRow (by assumption) 49 9
            simp only [List.cons_append, List.nil_append] at on
            refine RunVC.append on 8 rfl sl47 ty49 (by decide) (Own.boxArrN on 7 rfl (n := 1) rfl (by omega)) (by simp [Value.oneCell']) (by simp only [maxLen]; omega) (by omega) ?_
            intro vA mA oA
            obtain ⟨ua, uc, rfl⟩ := oA.rowIs 8 rfl
            refine StillVC.idxN sl47 ty49 (oA.rowArrN 8 rfl) rfl (by omega) (by omega) ?_
            refine StillVC.fieldAddr st49 rfl rfl rfl ?_
            refine ⟨?_, ?_⟩
            · skip
              refine RunVC.storeRN (i := 0) (by assumption) 8 rfl ty49 rfl rfl rfl c1.2 (by decide) (by decide) one1 ?_
              intro mB oB
              simp only [List.set_cons_succ, List.set_cons_zero] at oB
              (refine RunVC.store oB 4 rfl ty47 rfl (by simp) (And.intro ⟨rfl, rfl⟩ ?_); intro m3340 o3340)
              refine ⟨rfl, ?_⟩
              have ef := lset_full (cs := [.int .i64 0, .string ⟨⟨[]⟩⟩, nilV, nilV, nilV, .string ⟨⟨[]⟩⟩, .string ⟨⟨[]⟩⟩, .int .i64 0, .int .i64 0]) (c := c1) rfl
              exact ⟨a1, q2, w2, c1, I1, ua, uc, hm, hle2, hR2, hx1, ef ▸ Own.sel (by assumption) [0, 1, 2, 3, 4, 5, 6, 8] rfl⟩
            · skip
              (refine RunVC.store oA 4 rfl ty47 rfl (by simp) (And.intro ⟨rfl, rfl⟩ ?_); intro m3350 o3350)
              refine RunVC.storeRN (i := 0) (by assumption) 8 rfl ty49 rfl rfl rfl c1.2 (by decide) (by decide) one1 ?_
              intro mB oB
              simp only [List.set_cons_succ, List.set_cons_zero] at oB
              refine ⟨rfl, ?_⟩
              have ef := lset_full (cs := [.int .i64 0, .string ⟨⟨[]⟩⟩, nilV, nilV, nilV, .string ⟨⟨[]⟩⟩, .string ⟨⟨[]⟩⟩, .int .i64 0, .int .i64 0]) (c := c1) rfl
              exact ⟨a1, q2, w2, c1, I1, ua, uc, hm, hle2, hR2, hx1, ef ▸ Own.sel (by assumption) [0, 1, 2, 3, 4, 5, 6, 8] rfl⟩
        · rintro _ junk2 h7 ⟨a1, q2, w2, c1, I1, ua, uc, hm, hle2, hR2, hx1, o8⟩
          rw [PM.bind_ok hm] at hE
          rw [ifP_yes (by rfl), PM.assoc] at hE
          refine StillVC.run (StillVC.fieldAddr st149 rfl rfl rfl ?_)
          refine StillVC.run (StillVC.loadO o8 6 rfl ty4 rfl rfl ?_)
          refine Br.tt ?_
          (refine RunVC.lit o8 sl42 ty9 rfl rfl (by decide) (And.intro rfl ?_); intro b3502 m3502 o3502)
          refine pneed_call (ss := [[44]]) (by assumption) rfl (by first | exact ⟨2, by decide, rfl⟩ | exact ⟨3, by decide, rfl⟩ | exact ⟨4, by decide, rfl⟩ | exact ⟨5, by decide, rfl⟩ | exact ⟨6, by decide, rfl⟩ | exact ⟨7, by decide, rfl⟩ | exact ⟨8, by decide, rfl⟩ | exact ⟨9, by decide, rfl⟩) hR2 (by omega) (by decide) (fun _ q3 w3 v h8 hm3 hv hle3 hR3 oq => ?_) (fun e w' h' hm o2 => ⟨e, w', hE.trans (PM.bind_err hm), rfl, o2⟩)
          subst hv
          rw [PM.bind_ok hm3, PM.assoc] at hE
          have o9 := oq.sel [0, 1, 2, 3, 4, 5, 6, 7] rfl
          simp only [PSt, pick, List.cons_append, List.nil_append, List.getElem?_cons_succ, List.getElem?_cons_zero, List.getElem?_nil] at o9
          clear oq o8 hm
          refine DrawVC.join [65, 66, 67, 68, 69, 70, 71, 72, 73, 74, 75] [] (fun _ hh => ∃ (a2 : Ex) (q4 : List Tok) (w4 : Value) (c2 : Cells9) (I2 : Item) (ua : Option Addr) (uc : Nat), exprP z n q3 = .ok (a2, q4) ∧ q4.length ≤ q3.length ∧ TokR tk w4 q4 ∧ exR I2 c2.1 a2 ∧ Own B [box bp [w4, .int .i64 z] 68, tk, I2, I1, box b10 [.int .i64 0, .string ⟨⟨[]⟩⟩, nilV, nilV, nilV, .string ⟨⟨[]⟩⟩, .string ⟨⟨[]⟩⟩, .int .i64 0, .int .i64 0] 49, box b13 [.int .i64 4, .string ⟨⟨[]⟩⟩, .slice ua 2 uc, nilV, nilV, .string ⟨⟨[]⟩⟩, .string ⟨⟨[]⟩⟩, .int .i64 0, .int .i64 (headOff ts)] 49, box pb [.pointer (some ⟨bp, 0, none⟩)] 66, box b3002 [.string ⟨⟨[106, 111, 105, 110]⟩⟩, .bool true, .func (.func 116) ⟨[]⟩ ⟨[]⟩] 149, row (.slice ua 2 uc) 49 9 2 (c1.1 ++ c2.1)] hh) ?_ ?_
          · refine DrawVC.introBT b13 [0, 2, 3, 4, 6, 9, 11] [1] [8, 10, 12] (.one 0 (.one 1 (.one 2 (.one 3 (.one 4 (.one 6 (.fork 5 7 (.one 7 (.one 8 (.one 9 (.one 11 (.fork 10 12 (.one 12 .done) (.one 10 .done)))))) (.one 5 (.one 8 (.one 9 (.one 11 (.fork 10 12 (.one 12 .done) (.one 10 .done))))))))))))) mixed (by kernel_rfl) rfl (fun _ _ _ _ h => h) ?_
            refine StillVC.fieldAddr st49 rfl rfl rfl ?_
            refine StillVCA.load1 ty47 rfl rfl ((o9.cellB 4 rfl _).trans rfl) ?_
            refine Ar.i64 (by omega) (by omega) ?_
            refine StillVC.lenV rfl sl47 ?_
            refine ⟨?_, ?_⟩
            · skip
              refine PEndI.callL (fun B' o' => ih (level + 1) (by omega) B' bp z tk _ _ _ o' hR3 (by omega)) (by assumption) rfl (fun a2 q4 w4 v I2 h9 hm4 hv hle4 hR4 oq => ?_) (fun e w' h' hm o2 => ⟨e, w', hE.trans (PM.bind_err hm), rfl, o2⟩)
              obtain ⟨c2, rfl, hx2⟩ := hv
              have o7 := oq
              simp only [PSt, pick, List.cons_append, List.nil_append, List.getElem?_cons_succ, List.getElem?_cons_zero, List.getElem?_nil] at o7
              clear oq
              refine ⟨Eq.trans (Own.satK o7 5 rfl) (Eq.symm (Own.satK (x := box b13 _ _) (by assumption) 4 rfl)), ?_⟩
              have one2 := exR_one (Own.satK o7 2 rfl) hx2
              (refine RunVC.litN o7 sl47 ty49 rfl rfl (by decide) ?_)
              refine And.intro rfl ?_
              intro b3571 m3571 o3571
              refine And.intro ((o3571.boxBlk 5 rfl).trans (o7.boxBlk 5 rfl).symm) ?_
              refine RunVC.append (by assumption) 8 rfl sl47 ty49 (by decide) (Own.boxArrN (by assumption) 9 rfl (n := 1) rfl (by omega)) (by simp [Value.oneCell']) (by simp only [maxLen]; omega) (by omega) ?_
              intro vA mA oA
              obtain ⟨ua, uc, rfl⟩ := oA.rowIs 8 rfl
              refine StillVC.idxN sl47 ty49 (oA.rowArrN 8 rfl) rfl (by omega) (by omega) ?_
              refine StillVC.fieldAddr st49 rfl rfl rfl ?_
              refine ⟨?_, ?_⟩
              · skip
                refine RunVC.storeRN (i := 1) (by assumption) 8 rfl ty49 rfl rfl rfl c2.2 (by decide) (by decide) one2 ?_
                intro mB oB
                simp only [List.set_cons_succ, List.set_cons_zero] at oB
                (refine RunVC.store oB 5 rfl ty47 rfl (by simp) (And.intro ⟨rfl, rfl⟩ ?_); intro m3610 o3610)
                refine ⟨rfl, ?_⟩
                have ef := lset_second (cs := [.int .i64 0, .string ⟨⟨[]⟩⟩, nilV, nilV, nilV, .string ⟨⟨[]⟩⟩, .string ⟨⟨[]⟩⟩, .int .i64 0, .int .i64 0]) (c := c1) (d := c2) rfl
                exact ⟨a2, q4, w4, c2, I2, ua, uc, hm4, hle4, hR4, hx2, ef ▸ Own.sel (by assumption) [0, 1, 2, 3, 4, 5, 6, 7, 8] rfl⟩
              · skip
                (refine RunVC.store oA 5 rfl ty47 rfl (by simp) (And.intro ⟨rfl, rfl⟩ ?_); intro m3620 o3620)
                refine RunVC.storeRN (i := 1) (by assumption) 8 rfl ty49 rfl rfl rfl c2.2 (by decide) (by decide) one2 ?_
                intro mB oB
                simp only [List.set_cons_succ, List.set_cons_zero] at oB
                refine ⟨rfl, ?_⟩
                have ef := lset_second (cs := [.int .i64 0, .string ⟨⟨[]⟩⟩, nilV, nilV, nilV, .string ⟨⟨[]⟩⟩, .string ⟨⟨[]⟩⟩, .int .i64 0, .int .i64 0]) (c := c1) (d := c2) rfl
                exact ⟨a2, q4, w4, c2, I2, ua, uc, hm4, hle4, hR4, hx2, ef ▸ Own.sel (by assumption) [0, 1, 2, 3, 4, 5, 6, 7, 8] rfl⟩
            · skip
              (refine RunVC.litN o9 sl47 ty49 rfl rfl (by decide) ?_)
              refine And.intro rfl ?_
              intro b3691 m3691 o3691
              refine And.intro ((o3691.boxBlk 4 rfl).trans (o9.boxBlk 4 rfl).symm) ?_
              refine PEndI.callL (fun B' o' => ih (level + 1) (by omega) B' bp z tk _ _ _ o' hR3 (by omega)) (by assumption) rfl (fun a2 q4 w4 v I2 h9 hm4 hv hle4 hR4 oq => ?_) (fun e w' h' hm o2 => ⟨e, w', hE.trans (PM.bind_err hm), rfl, o2⟩)
              obtain ⟨c2, rfl, hx2⟩ := hv
              have o7 := oq
              simp only [PSt, pick, List.cons_append, List.nil_append, List.getElem?_cons_succ, List.getElem?_cons_zero, List.getElem?_nil] at o7
              clear oq
              refine ⟨Eq.trans (Own.satK o7 5 rfl) (Eq.symm (Own.satK (x := box b13 _ _) (by assumption) 4 rfl)), ?_⟩
              have one2 := exR_one (Own.satK o7 2 rfl) hx2
              refine RunVC.append (by assumption) 8 rfl sl47 ty49 (by decide) (Own.boxArrN (by assumption) 9 rfl (n := 1) rfl (by omega)) (by simp [Value.oneCell']) (by simp only [maxLen]; omega) (by omega) ?_
              intro vA mA oA
              obtain ⟨ua, uc, rfl⟩ := oA.rowIs 8 rfl
              refine StillVC.idxN sl47 ty49 (oA.rowArrN 8 rfl) rfl (by omega) (by omega) ?_
              refine StillVC.fieldAddr st49 rfl rfl rfl ?_
              refine ⟨?_, ?_⟩
              · skip
                refine RunVC.storeRN (i := 1) (by assumption) 8 rfl ty49 rfl rfl rfl c2.2 (by decide) (by decide) one2 ?_
                intro mB oB
                simp only [List.set_cons_succ, List.set_cons_zero] at oB
                (refine RunVC.store oB 5 rfl ty47 rfl (by simp) (And.intro ⟨rfl, rfl⟩ ?_); intro m3750 o3750)
                refine ⟨rfl, ?_⟩
                have ef := lset_second (cs := [.int .i64 0, .string ⟨⟨[]⟩⟩, nilV, nilV, nilV, .string ⟨⟨[]⟩⟩, .string ⟨⟨[]⟩⟩, .int .i64 0, .int .i64 0]) (c := c1) (d := c2) rfl
                exact ⟨a2, q4, w4, c2, I2, ua, uc, hm4, hle4, hR4, hx2, ef ▸ Own.sel (by assumption) [0, 1, 2, 3, 4, 5, 6, 7, 8] rfl⟩
              · skip
                (refine RunVC.store oA 5 rfl ty47 rfl (by simp) (And.intro ⟨rfl, rfl⟩ ?_); intro m3760 o3760)
                refine RunVC.storeRN (i := 1) (by assumption) 8 rfl ty49 rfl rfl rfl c2.2 (by decide) (by decide) one2 ?_
                intro mB oB
                simp only [List.set_cons_succ, List.set_cons_zero] at oB
                refine ⟨rfl, ?_⟩
                have ef := lset_second (cs := [.int .i64 0, .string ⟨⟨[]⟩⟩, nilV, nilV, nilV, .string ⟨⟨[]⟩⟩, .string ⟨⟨[]⟩⟩, .int .i64 0, .int .i64 0]) (c := c1) (d := c2) rfl
                exact ⟨a2, q4, w4, c2, I2, ua, uc, hm4, hle4, hR4, hx2, ef ▸ Own.sel (by assumption) [0, 1, 2, 3, 4, 5, 6, 7, 8] rfl⟩
          · rintro _ junk3 h9 ⟨a2, q4, w4, c2, I2, ua, uc, hm, hle4, hR4, hx2, o8⟩
            rw [PM.bind_ok hm, PM.pure_bind'] at hE
            refine RegVC.plain ?_
            refine StillVC.run (StillVC.fieldAddr st149 rfl rfl rfl ?_)
            refine StillVC.run (StillVC.loadO o8 7 rfl ty147 rfl rfl ?_)
            refine CallVC.ret (none_spec b13 _) ?_
            rintro _ h10 ⟨rfl, oc⟩
            have o9 := oc.thenE o8
            clear oc o8
            have e2 : opRest z 2 (headOff ts) [a1, a2] q4 = .ok (Ex.mk 4 [] [a1, a2] [] [] [] [] 0 (headOff ts), q4) := rfl
            rw [PM.bind_ok e2] at hE
            (refine RunVC.lit o9 sl42 ty9 rfl rfl (by decide) (And.intro rfl ?_); intro b3840 m3840 o3840)
            refine pneed_call (ss := [[41]]) (by assumption) rfl (by first | exact ⟨2, by decide, rfl⟩ | exact ⟨3, by decide, rfl⟩ | exact ⟨4, by decide, rfl⟩ | exact ⟨5, by decide, rfl⟩ | exact ⟨6, by decide, rfl⟩ | exact ⟨7, by decide, rfl⟩ | exact ⟨8, by decide, rfl⟩ | exact ⟨9, by decide, rfl⟩) hR4 (by omega) (by decide) (fun _ q5 w5 v h11 hm5 hv hle5 hR5 oq => ?_) (fun e w' h' hm o2 => ⟨e, w', hE.trans (PM.bind_err hm), rfl, o2⟩)
            subst hv
            rw [PM.bind_ok hm5] at hE
            have o10 := oq
            simp only [PSt, pick, List.cons_append, List.nil_append, List.getElem?_cons_succ, List.getElem?_cons_zero, List.getElem?_nil] at o10
            clear oq o9
            refine StillVC.run (StillVC.loadON o10 5 rfl ty49 rfl rfl rfl ?_)
            (refine RunVC.storeL o10 4 rfl ty49 rfl (by decide) (And.intro ⟨rfl, rfl⟩ ?_); intro m3861 o3861)
            first | refine RetVC.cell2 rfl o3861 4 rfl ty49 rfl rfl ?_ | refine RetVC.cell1 rfl o3861 4 rfl ty49 rfl rfl ?_ | refine RetVC.cellTT rfl o3861 4 rfl ty49 rfl rfl ?_
            have er : [c1, c2].flatMap Subtype.val = c1.1 ++ c2.1 := by simp
            exact ⟨_, q5, w5, joinI (joinI I2 I1) (row (.slice ua 2 uc) 49 9 2 (c1.1 ++ c2.1)), hE, ⟨⟨exC 4 [] (.slice ua 2 uc) nilV nilV [] [] 0 (headOff ts), rfl⟩, rfl, by rw [exR]; exact ⟨_, _, _, rfl, nil_reads, nil_reads, [c1, c2], by rw [er]; exact row_reads.inr, exR.mono (fun _ (s : (joinI (joinI _ _) _).sat _) => s.1.2) _ _ hx1, exR.mono (fun _ (s : (joinI (joinI _ _) _).sat _) => s.1.1) _ _ hx2, trivial⟩⟩, by omega, hR5, ((Own.sel (by assumption) [2, 3, 8, 0, 1] rfl).join.join).sel [1, 2, 0] rfl⟩

end Go.Proofs.YtnmfanjhepepbaaGreatDoor

/- The parser's expressions: union. -/
namespace Go.Proofs.YtnmfanjhepepbaaGreatDoor
open Go

set_option maxHeartbeats 100000000 in
set_option maxRecDepth 100000 in
theorem expr_union (n : Nat) (hn : n ≤ 11) (ih : ExSpec n) : ∀ (level : Int) (_ : level = 13 - ((n + 1 : Nat) : Int)) (B : Base) (bp z : Nat) (tk : Item) (w : Value) (ts : List Tok) (h : Heap) (_ : Own B (PSt bp z w tk) h) (_ : TokR tk w ts) (_ : ts.length ≤ 5000) (_ : ∀ j, j < 3 → seesB [opNames.getD j [], [40]] ts = false) (_ : seesB [[117, 110, 105, 111, 110], [40]] ts = true),
    Spec Tryz.prog 87 [.pointer (some ⟨bp, 0, none⟩), .int .i64 level] h (PEndI B bp z tk ts.length (exprP z (n + 1) ts) exV) := by
  intro level hlv B bp z tk w ts h o hR hl hno hb
  obtain ⟨hRd, hK⟩ := hR
  have hR : TokR tk w ts := ⟨hRd, hK⟩
  refine Spec.enter Tryz.func87 rfl Tryz.ntmps87 (by kernel_rfl) ?_
  (refine RunVC.alloc o ty49 ?_; intro b10 m10 o10)
  refine Br.dec (fun hc => absurd hc (by omega)) (fun c11 => ?_)
  refine StillVC.run (StillVC.buildK st49 ?_)
  refine And.intro rfl ?_
  (refine RunVC.alloc o10 ty49 ?_; intro b13 m13 o13)
  (refine RunVC.storeL o13 3 rfl ty49 rfl (by decide) (And.intro ⟨rfl, rfl⟩ ?_); intro m14 o14)
  refine StillVC.run (StillVC.nilCheck rfl ?_)
  refine StillVC.run (StillVC.fieldAddr st68 rfl rfl rfl ?_)
  refine StillVC.run (StillVC.loadO o14 0 rfl ty31 rfl rfl ?_)
  refine StillVC.run (StillVC.lenN (o14.reads 1 hRd rfl) sl31 ?_)
  refine Br.join [19, 20, 21, 22, 23, 24, 25, 26] [] (fun _ hh => Own B [box bp [w, .int .i64 z] 68, tk, box b10 [.int .i64 0, .string ⟨⟨[]⟩⟩, nilV, nilV, nilV, .string ⟨⟨[]⟩⟩, .string ⟨⟨[]⟩⟩, .int .i64 0, .int .i64 0] 49, box b13 [.int .i64 1, .string ⟨⟨[]⟩⟩, nilV, nilV, nilV, .string ⟨⟨[]⟩⟩, .string ⟨⟨[]⟩⟩, .int .i64 0, .int .i64 (headOff ts)] 49] hh) rfl rfl ?_ ?_
  · cases ts with
    | nil =>
      refine Br.ff ?_
      refine ⟨rfl, ?_⟩
      exact o14
    | cons t r =>
      have hx : (t :: r)[0]? = some t := rfl
      have hln : (t :: r).length = r.length + 1 := rfl
      refine Br.dec (fun c30 => ?_) (fun hc => absurd (by omega) hc)
      refine StillVC.run (StillVC.nilCheck rfl ?_)
      refine StillVC.run (StillVC.fieldAddr st68 rfl rfl rfl ?_)
      refine StillVC.run (StillVC.loadO o14 0 rfl ty31 rfl rfl ?_)
      refine StillVC.run (StillVC.idxN sl31 ty38 (o14.reads 1 hRd rfl) rfl (by omega) (by omega) ?_)
      refine StillVC.run (StillVC.fieldAdr (o14.reads 1 hRd rfl) (by omega) st38 rfl rfl rfl ?_)
      refine StillVC.run (StillVC.loadFF (o14.reads 1 hRd rfl) ty3 (fun _ => rfl) rfl (by assumption) rfl ?_)
      refine StillVC.run (StillVC.fieldAddr st49 rfl rfl rfl ?_)
      (refine RunVC.storeL o14 3 rfl ty3 rfl (by decide) (And.intro ⟨rfl, rfl⟩ ?_); intro m38 o38)
      refine ⟨rfl, ?_⟩
      exact Own.sel (by assumption) [0, 1, 2, 3] rfl
  · intro vs junk hh oh
    refine CallVC.ret (operations_spec bp _) ?_
    rintro _ h2 ⟨bo, pb, rfl, oc⟩
    have o2 := oh.call oc
    simp only [List.cons_append, List.nil_append] at o2
    clear oc
    refine StillVC.run (StillVC.lenV rfl sl145 ?_)
    refine LoopVC.intro [6, 7, 30, 31, 32, 33, 34, 35, 36, 37, 38, 39, 40, 41, 42, 43, 44, 45, 46, 47, 48, 49, 50, 51, 52, 53, 54, 55, 56, 57, 58, 59, 60, 61, 62, 63, 64, 65, 66, 67, 68, 69, 70, 71, 72, 73, 74, 75, 76, 77, 78, 79, 80, 81, 82, 83] [30] (fun vs hh => ∃ (i : Nat), i ≤ 3 ∧ vs = [.int .i64 i] ∧ Own B [box bp [w, .int .i64 z] 68, tk, box b10 [.int .i64 0, .string ⟨⟨[]⟩⟩, nilV, nilV, nilV, .string ⟨⟨[]⟩⟩, .string ⟨⟨[]⟩⟩, .int .i64 0, .int .i64 0] 49, box b13 [.int .i64 1, .string ⟨⟨[]⟩⟩, nilV, nilV, nilV, .string ⟨⟨[]⟩⟩, .string ⟨⟨[]⟩⟩, .int .i64 0, .int .i64 (headOff ts)] 49, box pb [.pointer (some ⟨bp, 0, none⟩)] 66, box bo (opsC pb) 149] hh) (fun vs _ => match vs with | [.int _ i] => 7 - i.toNat | _ => 0) ?_ ?_
    · exact ⟨0, by omega, rfl, o2⟩
    · rintro vs' junk' h3 ⟨i, hi, rfl, o3⟩
      clear o14 oh o2
      have hoL : (opsC pb).length = 7 * 3 := rfl
      rcases (by omega : i = 0 ∨ i = 1 ∨ i = 2 ∨ i = 3) with rfl | rfl | rfl | rfl
      · refine Br.tt ?_
        refine StillVC.run (StillVC.idxN sl145 ty149 (o3.boxArrN 5 rfl (by assumption) (by omega)) rfl (by omega) (by omega) ?_)
        refine StillVC.run (StillVC.loadON o3 5 rfl ty149 rfl rfl rfl ?_)
        (refine RunVC.alloc o3 ty149 ?_; intro b1002 m1002 o1002)
        (refine RunVC.storeL o1002 6 rfl ty149 rfl (by decide) (And.intro ⟨rfl, rfl⟩ ?_); intro m1003 o1003)
        refine StillVC.run (StillVC.fieldAddr st149 rfl rfl rfl ?_)
        refine StillVC.run (StillVC.loadO o1003 6 rfl ty9 rfl rfl ?_)
        (refine RunVC.lit o1003 sl42 ty9 rfl rfl (by decide) (And.intro rfl ?_); intro b1006 m1006 o1006)
        refine CallVC.ret (peek_spec [[115, 101, 108, 101, 99, 116], [40]] _ bp w ts _ (Own.cellB (by assumption) 0 rfl 0) (Own.reads (by assumption) 1 hR.1 rfl) (Own.boxArr (by assumption) 7 rfl rfl (by decide)) hl) ?_
        rintro _ h4 ⟨rv, oc⟩
        have o4 := oc.thenE (by assumption)
        clear oc
        have hb : seesB [[115, 101, 108, 101, 99, 116], [40]] ts = false := hno 0 (by decide)
        rw [hb] at rv
        subst rv
        refine Br.tt ?_
        refine Ar.i64 (by omega) (by omega) ?_
        refine ⟨rfl, ?_⟩
        exact ⟨⟨1, by omega, rfl, Own.sel (by assumption) [0, 1, 2, 3, 4, 5] rfl⟩, by simp⟩
      · refine Br.tt ?_
        refine StillVC.run (StillVC.idxN sl145 ty149 (o3.boxArrN 5 rfl (by assumption) (by omega)) rfl (by omega) (by omega) ?_)
        refine StillVC.run (StillVC.loadON o3 5 rfl ty149 rfl rfl rfl ?_)
        (refine RunVC.alloc o3 ty149 ?_; intro b2002 m2002 o2002)
        (refine RunVC.storeL o2002 6 rfl ty149 rfl (by decide) (And.intro ⟨rfl, rfl⟩ ?_); intro m2003 o2003)
        refine StillVC.run (StillVC.fieldAddr st149 rfl rfl rfl ?_)
        refine StillVC.run (StillVC.loadO o2003 6 rfl ty9 rfl rfl ?_)
        (refine RunVC.lit o2003 sl42 ty9 rfl rfl (by decide) (And.intro rfl ?_); intro b2006 m2006 o2006)
        refine CallVC.ret (peek_spec [[112, 114, 111, 106, 101, 99, 116], [40]] _ bp w ts _ (Own.cellB (by assumption) 0 rfl 0) (Own.reads (by assumption) 1 hR.1 rfl) (Own.boxArr (by assumption) 7 rfl rfl (by decide)) hl) ?_
        rintro _ h4 ⟨rv, oc⟩
        have o4 := oc.thenE (by assumption)
        clear oc
        have hb : seesB [[112, 114, 111, 106, 101, 99, 116], [40]] ts = false := hno 1 (by decide)
        rw [hb] at rv
        subst rv
        refine Br.tt ?_
        refine Ar.i64 (by omega) (by omega) ?_
        refine ⟨rfl, ?_⟩
        exact ⟨⟨2, by omega, rfl, Own.sel (by assumption) [0, 1, 2, 3, 4, 5] rfl⟩, by simp⟩
      · refine Br.tt ?_
        refine StillVC.run (StillVC.idxN sl145 ty149 (o3.boxArrN 5 rfl (by assumption) (by omega)) rfl (by omega) (by omega) ?_)
        refine StillVC.run (StillVC.loadON o3 5 rfl ty149 rfl rfl rfl ?_)
        (refine RunVC.alloc o3 ty149 ?_; intro b3002 m3002 o3002)
        (refine RunVC.storeL o3002 6 rfl ty149 rfl (by decide) (And.intro ⟨rfl, rfl⟩ ?_); intro m3003 o3003)
        refine StillVC.run (StillVC.fieldAddr st149 rfl rfl rfl ?_)
        refine StillVC.run (StillVC.loadO o3003 6 rfl ty9 rfl rfl ?_)
        (refine RunVC.lit o3003 sl42 ty9 rfl rfl (by decide) (And.intro rfl ?_); intro b3006 m3006 o3006)
        refine CallVC.ret (peek_spec [[106, 111, 105, 110], [40]] _ bp w ts _ (Own.cellB (by assumption) 0 rfl 0) (Own.reads (by assumption) 1 hR.1 rfl) (Own.boxArr (by assumption) 7 rfl rfl (by decide)) hl) ?_
        rintro _ h4 ⟨rv, oc⟩
        have o4 := oc.thenE (by assumption)
        clear oc
        have hb : seesB [[106, 111, 105, 110], [40]] ts = false := hno 2 (by decide)
        rw [hb] at rv
        subst rv
        refine Br.tt ?_
        refine Ar.i64 (by omega) (by omega) ?_
        refine ⟨rfl, ?_⟩
        exact ⟨⟨3, by omega, rfl, Own.sel (by assumption) [0, 1, 2, 3, 4, 5] rfl⟩, by simp⟩
      · refine Br.tt ?_
        refine StillVC.run (StillVC.idxN sl145 ty149 (o3.boxArrN 5 rfl (by assumption) (by omega)) rfl (by omega) (by omega) ?_)
        refine StillVC.run (StillVC.loadON o3 5 rfl ty149 rfl rfl rfl ?_)
        (refine RunVC.alloc o3 ty149 ?_; intro b4002 m4002 o4002)
        (refine RunVC.storeL o4002 6 rfl ty149 rfl (by decide) (And.intro ⟨rfl, rfl⟩ ?_); intro m4003 o4003)
        refine StillVC.run (StillVC.fieldAddr st149 rfl rfl rfl ?_)
        refine StillVC.run (StillVC.loadO o4003 6 rfl ty9 rfl rfl ?_)
        (refine RunVC.lit o4003 sl42 ty9 rfl rfl (by decide) (And.intro rfl ?_); intro b4006 m4006 o4006)
        refine CallVC.ret (peek_spec [[117, 110, 105, 111, 110], [40]] _ bp w ts _ (Own.cellB (by assumption) 0 rfl 0) (Own.reads (by assumption) 1 hR.1 rfl) (Own.boxArr (by assumption) 7 rfl rfl (by decide)) hl) ?_
        rintro _ h4 ⟨rv, oc⟩
        have o4 := oc.thenE (by assumption)
        clear oc
        rw [hb] at rv
        subst rv
        have hE : exprP z (n + 1) ts = (needP z [[117, 110, 105, 111, 110], [40]] >>= fun _ => exprP z n >>= fun a => ifP (twoB 3) (needP z [[44]] >>= fun _ => exprP z n >>= fun b => pure [a, b]) [a] >>= fun kids => opRest z 3 (headOff ts) kids >>= fun x => needP z [[41]] >>= fun _ => (pure x : PM Ex)) ts := exprP_some (opIdx_some (by decide) hno hb)
        have o5 := o4.sel [0, 1, 2, 3, 4, 6] rfl
        simp only [PSt, pick, List.cons_append, List.nil_append, List.getElem?_cons_succ, List.getElem?_cons_zero, List.getElem?_nil] at o5
        clear o3 o4
        refine Br.ff ?_
        refine Ar.i64 (by omega) (by omega) ?_
        refine StillVC.run (StillVC.fieldAddr st49 rfl rfl rfl ?_)
        (refine RunVC.store o5 3 rfl ty3 rfl (by simp) (And.intro ⟨rfl, rfl⟩ ?_); intro m4041 o4041)
        refine StillVC.run (StillVC.fieldAddr st149 rfl rfl rfl ?_)
        refine StillVC.run (StillVC.loadO o4041 5 rfl ty9 rfl rfl ?_)
        (refine RunVC.lit o4041 sl42 ty9 rfl rfl (by decide) (And.intro rfl ?_); intro b4044 m4044 o4044)
        refine pneed_call (ss := [[117, 110, 105, 111, 110], [40]]) (by assumption) rfl (by first | exact ⟨2, by decide, rfl⟩ | exact ⟨3, by decide, rfl⟩ | exact ⟨4, by decide, rfl⟩ | exact ⟨5, by decide, rfl⟩ | exact ⟨6, by decide, rfl⟩ | exact ⟨7, by decide, rfl⟩ | exact ⟨8, by decide, rfl⟩ | exact ⟨9, by decide, rfl⟩) hR (by omega) (by decide) (fun _ q1 w1 v h5 hm hv hle1 hR1 oq => ?_) (fun e w' h' hm o2 => ⟨e, w', hE.trans (PM.bind_err hm), rfl, o2⟩)
        subst hv
        rw [PM.bind_ok hm] at hE
        have o6 := oq.sel [0, 1, 2, 3, 4, 5] rfl
        simp only [PSt, pick, List.cons_append, List.nil_append, List.getElem?_cons_succ, List.getElem?_cons_zero, List.getElem?_nil] at o6
        clear oq hm
        refine DrawVC.join [49, 50, 51, 52, 53, 54, 55, 56, 57, 58, 59] [] (fun _ hh => ∃ (a1 : Ex) (q2 : List Tok) (w2 : Value) (c1 : Cells9) (I1 : Item) (ua : Option Addr) (uc : Nat), exprP z n q1 = .ok (a1, q2) ∧ q2.length ≤ q1.length ∧ TokR tk w2 q2 ∧ exR I1 c1.1 a1 ∧ Own B [box bp [w2, .int .i64 z] 68, tk, I1, box b10 [.int .i64 0, .string ⟨⟨[]⟩⟩, nilV, nilV, nilV, .string ⟨⟨[]⟩⟩, .string ⟨⟨[]⟩⟩, .int .i64 0, .int .i64 0] 49, box b13 [.int .i64 5, .string ⟨⟨[]⟩⟩, .slice ua 1 uc, nilV, nilV, .string ⟨⟨[]⟩⟩, .string ⟨⟨[]⟩⟩, .int .i64 0, .int .i64 (headOff ts)] 49, box pb [.pointer (some ⟨bp, 0, none⟩)] 66, box b4002 [.string ⟨⟨[117, 110, 105, 111, 110]⟩⟩, .bool true, .func (.func 116) ⟨[]⟩ ⟨[]⟩] 149, row (.slice ua 1 uc) 49 9 1 c1.1] hh) ?_ ?_
        · refine DrawVC.introBT b13 [0, 2, 3, 4, 6, 9, 11] [1] [8, 10, 12] (.one 0 (.one 1 (.one 2 (.one 3 (.one 4 (.one 6 (.fork 5 7 (.one 7 (.one 8 (.one 9 (.one 11 (.fork 10 12 (.one 12 .done) (.one 10 .done)))))) (.one 5 (.one 8 (.one 9 (.one 11 (.fork 10 12 (.one 12 .done) (.one 10 .done))))))))))))) mixed (by kernel_rfl) rfl (fun _ _ _ _ h => h) ?_
          refine StillVC.fieldAddr st49 rfl rfl rfl ?_
          refine StillVCA.load1 ty47 rfl rfl ((o6.cellB 3 rfl _).trans rfl) ?_
          refine Ar.i64 (by omega) (by omega) ?_
          refine StillVC.lenV rfl sl47 ?_
          refine ⟨?_, ?_⟩
          · skip
            refine PEndI.callL (fun B' o' => ih (level + 1) (by omega) B' bp z tk _ _ _ o' hR1 (by omega)) (by assumption) rfl (fun a1 q2 w2 v I1 h6 hm hv hle2 hR2 oq => ?_) (fun e w' h' hm o2 => ⟨e, w', hE.trans (PM.bind_err hm), rfl, o2⟩)
            obtain ⟨c1, rfl, hx1⟩ := hv
            have o7 := oq
            simp only [PSt, pick, List.cons_append, List.nil_append, List.getElem?_cons_succ, List.getElem?_cons_zero, List.getElem?_nil] at o7
            clear oq
            refine ⟨Eq.trans (Own.satK o7 4 rfl) (Eq.symm (Own.satK (x := box b13 _ _) (by assumption) 3 rfl)), ?_⟩
            have one1 := exR_one (Own.satK o7 2 rfl) hx1
            (refine RunVC.litN o7 sl47 ty49 rfl rfl (by decide) ?_)
            refine And.intro rfl ?_
            intro b4101 m4101 o4101
            refine And.intro ((o4101.boxBlk 4 rfl).trans (o7.boxBlk 4 rfl).symm) ?_
            have on := Own.nilRow (by assumption) 49 9
            simp only [List.cons_append, List.nil_append] at on
            refine RunVC.append on 8 rfl sl47 ty49 (by decide) (Own.boxArrN on 7 rfl (n := 1) rfl (by omega)) (by simp [Value.oneCell']) (by simp only [maxLen]; omega) (by omega) ?_
            intro vA mA oA
            obtain ⟨ua, uc, rfl⟩ := oA.rowIs 8 rfl
            refine StillVC.idxN sl47 ty49 (oA.rowArrN 8 rfl) rfl (by omega) (by omega) ?_
            refine StillVC.fieldAddr st49 rfl rfl rfl ?_
            refine ⟨?_, ?_⟩
            · skip
              refine RunVC.storeRN (i := 0) (by assumption) 8 rfl ty49 rfl rfl rfl c1.2 (by decide) (by decide) one1 ?_
              intro mB oB
              simp only [List.set_cons_succ, List.set_cons_zero] at oB
              (refine RunVC.store oB 4 rfl ty47 rfl (by simp) (And.intro ⟨rfl, rfl⟩ ?_); intro m4140 o4140)
              refine ⟨rfl, ?_⟩
              have ef := lset_full (cs := [.int .i64 0, .string ⟨⟨[]⟩⟩, nilV, nilV, nilV, .string ⟨⟨[]⟩⟩, .string ⟨⟨[]⟩⟩, .int .i64 0, .int .i64 0]) (c := c1) rfl
              exact ⟨a1, q2, w2, c1, I1, ua, uc, hm, hle2, hR2, hx1, ef ▸ Own.sel (by assumption) [0, 1, 2, 3, 4, 5, 6, 8] rfl⟩
            · skip
              (refine RunVC.store oA 4 rfl ty47 rfl (by simp) (And.intro ⟨rfl, rfl⟩ ?_); intro m4150 o4150)
              refine RunVC.storeRN (i := 0) (by assumption) 8 rfl ty49 rfl rfl rfl c1.2 (by decide) (by decide) one1 ?_
              intro mB oB
              simp only [List.set_cons_succ, List.set_cons_zero] at oB
              refine ⟨rfl, ?_⟩
              have ef := lset_full (cs := [.int .i64 0, .string ⟨⟨[]⟩⟩, nilV, nilV, nilV, .string ⟨⟨[]⟩⟩, .string ⟨⟨[]⟩⟩, .int .i64 0, .int .i64 0]) (c := c1) rfl
              exact ⟨a1, q2, w2, c1, I1, ua, uc, hm, hle2, hR2, hx1, ef ▸ Own.sel (by assumption) [0, 1, 2, 3, 4, 5, 6, 8] rfl⟩
          · skip
            (refine RunVC.litN o6 sl47 ty49 rfl rfl (by decide) ?_)
            refine And.intro rfl ?_
            intro b4281 m4281 o4281
            refine And.intro ((o4281.boxBlk 3 rfl).trans (o6.boxBlk 3 rfl).symm) ?_
            refine PEndI.callL (fun B' o' => ih (level + 1) (by omega) B' bp z tk _ _ _ o' hR1 (by omega)) (by assumption) rfl (fun a1 q2 w2 v I1 h6 hm hv hle2 hR2 oq => ?_) (fun e w' h' hm o2 => ⟨e, w', hE.trans (PM.bind_err hm), rfl, o2⟩)
            obtain ⟨c1, rfl, hx1⟩ := hv
            have o7 := oq
            simp only [PSt, pick, List.cons_append, List.nil_append, List.getElem?_cons_succ, List.getElem?_cons_zero, List.getElem?_nil] at o7
            clear oq
            refine ⟨Eq.trans (Own.satK o7 4 rfl) (Eq.symm (Own.satK (x := box b13 _ _) (by assumption) 3 rfl)), ?_⟩
            have one1 := exR_one (Own.satK o7 2 rfl) hx1
            have on := Own.nilRow (by assumption) 49 9
            simp only [List.cons_append, List.nil_append] at on
            refine RunVC.append on 8 rfl sl47 ty49 (by decide) (Own.boxArrN on 7 rfl (n := 1) rfl (by omega)) (by simp [Value.oneCell']) (by simp only [maxLen]; omega) (by omega) ?_
            intro vA mA oA
            obtain ⟨ua, uc, rfl⟩ := oA.rowIs 8 rfl
            refine StillVC.idxN sl47 ty49 (oA.rowArrN 8 rfl) rfl (by omega) (by omega) ?_
            refine StillVC.fieldAddr st49 rfl rfl rfl ?_
            refine ⟨?_, ?_⟩
            · skip
              refine RunVC.storeRN (i := 0) (by assumption) 8 rfl ty49 rfl rfl rfl c1.2 (by decide) (by decide) one1 ?_
              intro mB oB
              simp only [List.set_cons_succ, List.set_cons_zero] at oB
              (refine RunVC.store oB 4 rfl ty47 rfl (by simp) (And.intro ⟨rfl, rfl⟩ ?_); intro m4340 o4340)
              refine ⟨rfl, ?_⟩
              have ef := lset_full (cs := [.int .i64 0, .string ⟨⟨[]⟩⟩, nilV, nilV, nilV, .string ⟨⟨[]⟩⟩, .string ⟨⟨[]⟩⟩, .int .i64 0, .int .i64 0]) (c := c1) rfl
              exact ⟨a1, q2, w2, c1, I1, ua, uc, hm, hle2, hR2, hx1, ef ▸ Own.sel (by assumption) [0, 1, 2, 3, 4, 5, 6, 8] rfl⟩
            · skip
              (refine RunVC.store oA 4 rfl ty47 rfl (by simp) (And.intro ⟨rfl, rfl⟩ ?_); intro m4350 o4350)
              refine RunVC.storeRN (i := 0) (by assumption) 8 rfl ty49 rfl rfl rfl c1.2 (by decide) (by decide) one1 ?_
              intro mB oB
              simp only [List.set_cons_succ, List.set_cons_zero] at oB
              refine ⟨rfl, ?_⟩
              have ef := lset_full (cs := [.int .i64 0, .string ⟨⟨[]⟩⟩, nilV, nilV, nilV, .string ⟨⟨[]⟩⟩, .string ⟨⟨[]⟩⟩, .int .i64 0, .int .i64 0]) (c := c1) rfl
              exact ⟨a1, q2, w2, c1, I1, ua, uc, hm, hle2, hR2, hx1, ef ▸ Own.sel (by assumption) [0, 1, 2, 3, 4, 5, 6, 8] rfl⟩
        · rintro _ junk2 h7 ⟨a1, q2, w2, c1, I1, ua, uc, hm, hle2, hR2, hx1, o8⟩
          rw [PM.bind_ok hm] at hE
          rw [ifP_yes (by rfl), PM.assoc] at hE
          refine StillVC.run (StillVC.fieldAddr st149 rfl rfl rfl ?_)
          refine StillVC.run (StillVC.loadO o8 6 rfl ty4 rfl rfl ?_)
          refine Br.tt ?_
          (refine RunVC.lit o8 sl42 ty9 rfl rfl (by decide) (And.intro rfl ?_); intro b4502 m4502 o4502)
          refine pneed_call (ss := [[44]]) (by assumption) rfl (by first | exact ⟨2, by decide, rfl⟩ | exact ⟨3, by decide, rfl⟩ | exact ⟨4, by decide, rfl⟩ | exact ⟨5, by decide, rfl⟩ | exact ⟨6, by decide, rfl⟩ | exact ⟨7, by decide, rfl⟩ | exact ⟨8, by decide, rfl⟩ | exact ⟨9, by decide, rfl⟩) hR2 (by omega) (by decide) (fun _ q3 w3 v h8 hm3 hv hle3 hR3 oq => ?_) (fun e w' h' hm o2 => ⟨e, w', hE.trans (PM.bind_err hm), rfl, o2⟩)
          subst hv
          rw [PM.bind_ok hm3, PM.assoc] at hE
          have o9 := oq.sel [0, 1, 2, 3, 4, 5, 6, 7] rfl
          simp only [PSt, pick, List.cons_append, List.nil_append, List.getElem?_cons_succ, List.getElem?_cons_zero, List.getElem?_nil] at o9
          clear oq o8 hm
          refine DrawVC.join [65, 66, 67, 68, 69, 70, 71, 72, 73, 74, 75] [] (fun _ hh => ∃ (a2 : Ex) (q4 : List Tok) (w4 : Value) (c2 : Cells9) (I2 : Item) (ua : Option Addr) (uc : Nat), exprP z n q3 = .ok (a2, q4) ∧ q4.length ≤ q3.length ∧ TokR tk w4 q4 ∧ exR I2 c2.1 a2 ∧ Own B [box bp [w4, .int .i64 z] 68, tk, I2, I1, box b10 [.int .i64 0, .string ⟨⟨[]⟩⟩, nilV, nilV, nilV, .string ⟨⟨[]⟩⟩, .string ⟨⟨[]⟩⟩, .int .i64 0, .int .i64 0] 49, box b13 [.int .i64 5, .string ⟨⟨[]⟩⟩, .slice ua 2 uc, nilV, nilV, .string ⟨⟨[]⟩⟩, .string ⟨⟨[]⟩⟩, .int .i64 0, .int .i64 (headOff ts)] 49, box pb [.pointer (some ⟨bp, 0, none⟩)] 66, box b4002 [.string ⟨⟨[117, 110, 105, 111, 110]⟩⟩, .bool true, .func (.func 116) ⟨[]⟩ ⟨[]⟩] 149, row (.slice ua 2 uc) 49 9 2 (c1.1 ++ c2.1)] hh) ?_ ?_
          · refine DrawVC.introBT b13 [0, 2, 3, 4, 6, 9, 11] [1] [8, 10, 12] (.one 0 (.one 1 (.one 2 (.one 3 (.one 4 (.one 6 (.fork 5 7 (.one 7 (.one 8 (.one 9 (.one 11 (.fork 10 12 (.one 12 .done) (.one 10 .done)))))) (.one 5 (.one 8 (.one 9 (.one 11 (.fork 10 12 (.one 12 .done) (.one 10 .done))))))))))))) mixed (by kernel_rfl) rfl (fun _ _ _ _ h => h) ?_
            refine StillVC.fieldAddr st49 rfl rfl rfl ?_
            refine StillVCA.load1 ty47 rfl rfl ((o9.cellB 4 rfl _).trans rfl) ?_
            refine Ar.i64 (by omega) (by omega) ?_
            refine StillVC.lenV rfl sl47 ?_
            refine ⟨?_, ?_⟩
            · skip
              refine PEndI.callL (fun B' o' => ih (level + 1) (by omega) B' bp z tk _ _ _ o' hR3 (by omega)) (by assumption) rfl (fun a2 q4 w4 v I2 h9 hm4 hv hle4 hR4 oq => ?_) (fun e w' h' hm o2 => ⟨e, w', hE.trans (PM.bind_err hm), rfl, o2⟩)
              obtain ⟨c2, rfl, hx2⟩ := hv
              have o7 := oq
              simp only [PSt, pick, List.cons_append, List.nil_append, List.getElem?_cons_succ, List.getElem?_cons_zero, List.getElem?_nil] at o7
              clear oq
              refine ⟨Eq.trans (Own.satK o7 5 rfl) (Eq.symm (Own.satK (x := box b13 _ _) (by assumption) 4 rfl)), ?_⟩
              have one2 := exR_one (Own.satK o7 2 rfl) hx2
              (refine RunVC.litN o7 sl47 ty49 rfl rfl (by decide) ?_)
              refine And.intro rfl ?_
              intro b4571 m4571 o4571
              refine And.intro ((o4571.boxBlk 5 rfl).trans (o7.boxBlk 5 rfl).symm) ?_
              refine RunVC.append (by assumption) 8 rfl sl47 ty49 (by decide) (Own.boxArrN (by assumption) 9 rfl (n := 1) rfl (by omega)) (by simp [Value.oneCell']) (by simp only [maxLen]; omega) (by omega) ?_
              intro vA mA oA
              obtain ⟨ua, uc, rfl⟩ := oA.rowIs 8 rfl
              refine StillVC.idxN sl47 ty49 (oA.rowArrN 8 rfl) rfl (by omega) (by omega) ?_
              refine StillVC.fieldAddr st49 rfl rfl rfl ?_
              refine ⟨?_, ?_⟩
              · skip
                refine RunVC.storeRN (i := 1) (by assumption) 8 rfl ty49 rfl rfl rfl c2.2 (by decide) (by decide) one2 ?_
                intro mB oB
                simp only [List.set_cons_succ, List.set_cons_zero] at oB
                (refine RunVC.store oB 5 rfl ty47 rfl (by simp) (And.intro ⟨rfl, rfl⟩ ?_); intro m4610 o4610)
                refine ⟨rfl, ?_⟩
                have ef := lset_second (cs := [.int .i64 0, .string ⟨⟨[]⟩⟩, nilV, nilV, nilV, .string ⟨⟨[]⟩⟩, .string ⟨⟨[]⟩⟩, .int .i64 0, .int .i64 0]) (c := c1) (d := c2) rfl
                exact ⟨a2, q4, w4, c2, I2, ua, uc, hm4, hle4, hR4, hx2, ef ▸ Own.sel (by assumption) [0, 1, 2, 3, 4, 5, 6, 7, 8] rfl⟩
              · skip
                (refine RunVC.store oA 5 rfl ty47 rfl (by simp) (And.intro ⟨rfl, rfl⟩ ?_); intro m4620 o4620)
                refine RunVC.storeRN (i := 1) (by assumption) 8 rfl ty49 rfl rfl rfl c2.2 (by decide) (by decide) one2 ?_
                intro mB oB
                simp only [List.set_cons_succ, List.set_cons_zero] at oB
                refine ⟨rfl, ?_⟩
                have ef := lset_second (cs := [.int .i64 0, .string ⟨⟨[]⟩⟩, nilV, nilV, nilV, .string ⟨⟨[]⟩⟩, .string ⟨⟨[]⟩⟩, .int .i64 0, .int .i64 0]) (c := c1) (d := c2) rfl
                exact ⟨a2, q4, w4, c2, I2, ua, uc, hm4, hle4, hR4, hx2, ef ▸ Own.sel (by assumption) [0, 1, 2, 3, 4, 5, 6, 7, 8] rfl⟩
            · skip
              (refine RunVC.litN o9 sl47 ty49 rfl rfl (by decide) ?_)
              refine And.intro rfl ?_
              intro b4691 m4691 o4691
              refine And.intro ((o4691.boxBlk 4 rfl).trans (o9.boxBlk 4 rfl).symm) ?_
              refine PEndI.callL (fun B' o' => ih (level + 1) (by omega) B' bp z tk _ _ _ o' hR3 (by omega)) (by assumption) rfl (fun a2 q4 w4 v I2 h9 hm4 hv hle4 hR4 oq => ?_) (fun e w' h' hm o2 => ⟨e, w', hE.trans (PM.bind_err hm), rfl, o2⟩)
              obtain ⟨c2, rfl, hx2⟩ := hv
              have o7 := oq
              simp only [PSt, pick, List.cons_append, List.nil_append, List.getElem?_cons_succ, List.getElem?_cons_zero, List.getElem?_nil] at o7
              clear oq
              refine ⟨Eq.trans (Own.satK o7 5 rfl) (Eq.symm (Own.satK (x := box b13 _ _) (by assumption) 4 rfl)), ?_⟩
              have one2 := exR_one (Own.satK o7 2 rfl) hx2
              refine RunVC.append (by assumption) 8 rfl sl47 ty49 (by decide) (Own.boxArrN (by assumption) 9 rfl (n := 1) rfl (by omega)) (by simp [Value.oneCell']) (by simp only [maxLen]; omega) (by omega) ?_
              intro vA mA oA
              obtain ⟨ua, uc, rfl⟩ := oA.rowIs 8 rfl
              refine StillVC.idxN sl47 ty49 (oA.rowArrN 8 rfl) rfl (by omega) (by omega) ?_
              refine StillVC.fieldAddr st49 rfl rfl rfl ?_
              refine ⟨?_, ?_⟩
              · skip
                refine RunVC.storeRN (i := 1) (by assumption) 8 rfl ty49 rfl rfl rfl c2.2 (by decide) (by decide) one2 ?_
                intro mB oB
                simp only [List.set_cons_succ, List.set_cons_zero] at oB
                (refine RunVC.store oB 5 rfl ty47 rfl (by simp) (And.intro ⟨rfl, rfl⟩ ?_); intro m4750 o4750)
                refine ⟨rfl, ?_⟩
                have ef := lset_second (cs := [.int .i64 0, .string ⟨⟨[]⟩⟩, nilV, nilV, nilV, .string ⟨⟨[]⟩⟩, .string ⟨⟨[]⟩⟩, .int .i64 0, .int .i64 0]) (c := c1) (d := c2) rfl
                exact ⟨a2, q4, w4, c2, I2, ua, uc, hm4, hle4, hR4, hx2, ef ▸ Own.sel (by assumption) [0, 1, 2, 3, 4, 5, 6, 7, 8] rfl⟩
              · skip
                (refine RunVC.store oA 5 rfl ty47 rfl (by simp) (And.intro ⟨rfl, rfl⟩ ?_); intro m4760 o4760)
                refine RunVC.storeRN (i := 1) (by assumption) 8 rfl ty49 rfl rfl rfl c2.2 (by decide) (by decide) one2 ?_
                intro mB oB
                simp only [List.set_cons_succ, List.set_cons_zero] at oB
                refine ⟨rfl, ?_⟩
                have ef := lset_second (cs := [.int .i64 0, .string ⟨⟨[]⟩⟩, nilV, nilV, nilV, .string ⟨⟨[]⟩⟩, .string ⟨⟨[]⟩⟩, .int .i64 0, .int .i64 0]) (c := c1) (d := c2) rfl
                exact ⟨a2, q4, w4, c2, I2, ua, uc, hm4, hle4, hR4, hx2, ef ▸ Own.sel (by assumption) [0, 1, 2, 3, 4, 5, 6, 7, 8] rfl⟩
          · rintro _ junk3 h9 ⟨a2, q4, w4, c2, I2, ua, uc, hm, hle4, hR4, hx2, o8⟩
            rw [PM.bind_ok hm, PM.pure_bind'] at hE
            refine RegVC.plain ?_
            refine StillVC.run (StillVC.fieldAddr st149 rfl rfl rfl ?_)
            refine StillVC.run (StillVC.loadO o8 7 rfl ty147 rfl rfl ?_)
            refine CallVC.ret (none_spec b13 _) ?_
            rintro _ h10 ⟨rfl, oc⟩
            have o9 := oc.thenE o8
            clear oc o8
            have e2 : opRest z 3 (headOff ts) [a1, a2] q4 = .ok (Ex.mk 5 [] [a1, a2] [] [] [] [] 0 (headOff ts), q4) := rfl
            rw [PM.bind_ok e2] at hE
            (refine RunVC.lit o9 sl42 ty9 rfl rfl (by decide) (And.intro rfl ?_); intro b4840 m4840 o4840)
            refine pneed_call (ss := [[41]]) (by assumption) rfl (by first | exact ⟨2, by decide, rfl⟩ | exact ⟨3, by decide, rfl⟩ | exact ⟨4, by decide, rfl⟩ | exact ⟨5, by decide, rfl⟩ | exact ⟨6, by decide, rfl⟩ | exact ⟨7, by decide, rfl⟩ | exact ⟨8, by decide, rfl⟩ | exact ⟨9, by decide, rfl⟩) hR4 (by omega) (by decide) (fun _ q5 w5 v h11 hm5 hv hle5 hR5 oq => ?_) (fun e w' h' hm o2 => ⟨e, w', hE.trans (PM.bind_err hm), rfl, o2⟩)
            subst hv
            rw [PM.bind_ok hm5] at hE
            have o10 := oq
            simp only [PSt, pick, List.cons_append, List.nil_append, List.getElem?_cons_succ, List.getElem?_cons_zero, List.getElem?_nil] at o10
            clear oq o9
            refine StillVC.run (StillVC.loadON o10 5 rfl ty49 rfl rfl rfl ?_)
            (refine RunVC.storeL o10 4 rfl ty49 rfl (by decide) (And.intro ⟨rfl, rfl⟩ ?_); intro m4861 o4861)
            first | refine RetVC.cell2 rfl o4861 4 rfl ty49 rfl rfl ?_ | refine RetVC.cell1 rfl o4861 4 rfl ty49 rfl rfl ?_ | refine RetVC.cellTT rfl o4861 4 rfl ty49 rfl rfl ?_
            have er : [c1, c2].flatMap Subtype.val = c1.1 ++ c2.1 := by simp
            exact ⟨_, q5, w5, joinI (joinI I2 I1) (row (.slice ua 2 uc) 49 9 2 (c1.1 ++ c2.1)), hE, ⟨⟨exC 5 [] (.slice ua 2 uc) nilV nilV [] [] 0 (headOff ts), rfl⟩, rfl, by rw [exR]; exact ⟨_, _, _, rfl, nil_reads, nil_reads, [c1, c2], by rw [er]; exact row_reads.inr, exR.mono (fun _ (s : (joinI (joinI _ _) _).sat _) => s.1.2) _ _ hx1, exR.mono (fun _ (s : (joinI (joinI _ _) _).sat _) => s.1.1) _ _ hx2, trivial⟩⟩, by omega, hR5, ((Own.sel (by assumption) [2, 3, 8, 0, 1] rfl).join.join).sel [1, 2, 0] rfl⟩

end Go.Proofs.YtnmfanjhepepbaaGreatDoor
