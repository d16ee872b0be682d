/- Part 7 of the proof of inverse: FnEx6, FnEx7, FnEx, FnQy, FnIt, FnPr, FnPs, VcSame, FnSm, FnSn, FnSo, FnLr, FnLs, FnLexA, FnQa, FnWa, FnWb. -/
import Derived.Lib.Builder
import Derived.Test.YtohlogbnpfofpaaGreatDoorPV06
set_option linter.all false
set_option maxHeartbeats 100000000
set_option maxRecDepth 100000
namespace Go.Proofs.YtohlogbnpfofpaaGreatDoor
open Go StillVC
theorem expr_rename (n:Nat)(hn:n≤11)(ih:mE n):∀(level:Int)(_:level=13 - ((n+1:Nat):Int))(B:Base)(bp z:Nat)(tk:Item)(w:Value)(ts:List Tok)(h:Heap)(_:Own B (PSt bp z w tk) h)(_:cI tk w ts)(_:ts.length≤5000)(_:∀ j,j<5→bC [cG.getD j [],[40]] ts=false)(_:bC [[114,101,110,97,109,101],[40]] ts=true),
  Spec Tryz.prog 118 [.pointer (some ⟨bp,0,none⟩),.int .i64 level] h (cW B bp z tk ts.length (bT z (n+1) ts) exV):=by
 intro level hlv B bp z tk w ts h o hR hl hno hb
 obtain⟨hRd,hK⟩:=hR
 have hR:cI tk w ts:=⟨hRd,hK⟩;refine aCV Tryz.func118 rfl Tryz.ntmps118 (by kernel_rfl) ?_;(refine aCN o aS ?_;intro b10 m10 o10);refine aCP (fun hc=>absurd hc (by omega)) (fun c11=>?_);refine rR (aCl aM ?_);refine aI rfl ?_;(refine aCN o10 aS ?_;intro b13 m13 o13);(refine aCf o13 3 rfl aS rfl (by decide) (aI ⟨rfl,rfl⟩ ?_);intro m14 o14);refine rR (nC rfl ?_);refine rR (fA fG rfl rfl rfl ?_);refine rR (aCc o14 0 rfl eL rfl rfl ?_);refine rR (aCD (o14.reads 1 hRd rfl) fH ?_);refine Br.join [19,20,21,22,23,24,25,26] [] (fun _ hh=>Own B [box bp [w,.int .i64 z] 72,tk,box b10 [.int .i64 0,.string ⟨⟨[]⟩⟩,aN,aN,aN,.string ⟨⟨[]⟩⟩,.string ⟨⟨[]⟩⟩,.int .i64 0,.int .i64 0] 42,box b13 [.int .i64 1,.string ⟨⟨[]⟩⟩,aN,aN,aN,.string ⟨⟨[]⟩⟩,.string ⟨⟨[]⟩⟩,.int .i64 0,.int .i64 (bF ts)] 42] hh) rfl rfl ?_ ?_
 ·cases ts with
  | nil =>
   refine aCR ?_
   refine⟨rfl,?_⟩
   exact o14
  | cons t r =>
   have hx:(t::r)[0]?=some t:=rfl;have hln:(t::r).length=r.length+1:=rfl;refine aCP (fun c30=>?_) (fun hc=>absurd (by omega) hc);refine rR (nC rfl ?_);refine rR (fA fG rfl rfl rfl ?_);refine rR (aCc o14 0 rfl eL rfl rfl ?_);refine rR (aCn fH bB (o14.reads 1 hRd rfl) rfl (by omega) (by omega) ?_);refine rR (aCv (o14.reads 1 hRd rfl) (by omega) eN rfl rfl rfl ?_);refine rR (aCA (o14.reads 1 hRd rfl) aT (fun _=>rfl) rfl ‹_› rfl ?_);refine rR (fA aM rfl rfl rfl ?_);(refine aCf o14 3 rfl aT rfl (by decide) (aI ⟨rfl,rfl⟩ ?_);intro m38 o38)
   refine⟨rfl,?_⟩
   exact Own.sel ‹_› [0,1,2,3] rfl
 ·intro vs junk hh oh
  refine aCT (eJ bp _) ?_;rintro _ h2 ⟨bo,pb,rfl,oc⟩;have o2:=oh.call oc
  simp only[lcA,lnA]at o2
  clear oc;refine rR (aCk rfl dN ?_);refine aCZ [6,7,30,31,32,33,34,35,36,37,38,39,40,41,42,43,44,45,46,47,48,49,50,51,52,53,54,55,56,57,58,59,60,61,62,63,64,65,66,67,68,69,70,71,72,73,74,75,76,77,78,79,80,81,82,83] [30] (fun vs hh=>∃(i:Nat),i≤5∧vs=[.int .i64 i]∧Own B [box bp [w,.int .i64 z] 72,tk,box b10 [.int .i64 0,.string ⟨⟨[]⟩⟩,aN,aN,aN,.string ⟨⟨[]⟩⟩,.string ⟨⟨[]⟩⟩,.int .i64 0,.int .i64 0] 42,box b13 [.int .i64 1,.string ⟨⟨[]⟩⟩,aN,aN,aN,.string ⟨⟨[]⟩⟩,.string ⟨⟨[]⟩⟩,.int .i64 0,.int .i64 (bF ts)] 42,box pb [.pointer (some ⟨bp,0,none⟩)] 70,box bo (rA pb) 188] hh) (fun vs _=>match vs with|[.int _ i]=>7 - i.toNat|_=>0) ?_ ?_
  ·exact⟨0,by omega,rfl,o2⟩
  ·rintro vs' junk' h3 ⟨i,hi,rfl,o3⟩
   clear o14 oh o2;have hoL:(rA pb).length=7*3:=rfl
   rcases(by omega:i=0∨i=1∨i=2∨i=3∨i=4∨i=5) with rfl|rfl|rfl|rfl|rfl|rfl
   ·refine aCQ ?_
    refine rR (aCn dN aV (o3.boxArrN 5 rfl ‹_› (by omega)) rfl (by omega) (by omega) ?_);refine rR (aCg o3 5 rfl aV rfl rfl rfl ?_);(refine aCN o3 aV ?_;intro b1002 m1002 o1002);(refine aCf o1002 6 rfl aV rfl (by decide) (aI ⟨rfl,rfl⟩ ?_);intro m1003 o1003);refine rR (fA cB rfl rfl rfl ?_);refine rR (aCc o1003 6 rfl aL rfl rfl ?_);(refine aCM o1003 aK aL rfl rfl (by decide) (aI rfl ?_);intro b1006 m1006 o1006);refine aCT (bL [[115,101,108,101,99,116],[40]] _ bp w ts _ (Own.cellB ‹_› 0 rfl 0) (Own.reads ‹_› 1 hR.1 rfl) (Own.boxArr ‹_› 7 rfl rfl (by decide)) hl) ?_;rintro _ h4 ⟨rv,oc⟩;have o4:=oc.thenE ‹_›;clear oc;have hb:bC [[115,101,108,101,99,116],[40]] ts=false:=hno 0 (by decide)
    rw[hb]at rv
    subst rv;refine aCQ ?_;refine aCW (by omega) (by omega) ?_
    refine⟨rfl,?_⟩
    exact⟨⟨1,by omega,rfl,Own.sel ‹_› [0,1,2,3,4,5] rfl⟩,by simp⟩
   ·refine aCQ ?_
    refine rR (aCn dN aV (o3.boxArrN 5 rfl ‹_› (by omega)) rfl (by omega) (by omega) ?_);refine rR (aCg o3 5 rfl aV rfl rfl rfl ?_);(refine aCN o3 aV ?_;intro b2002 m2002 o2002);(refine aCf o2002 6 rfl aV rfl (by decide) (aI ⟨rfl,rfl⟩ ?_);intro m2003 o2003);refine rR (fA cB rfl rfl rfl ?_);refine rR (aCc o2003 6 rfl aL rfl rfl ?_);(refine aCM o2003 aK aL rfl rfl (by decide) (aI rfl ?_);intro b2006 m2006 o2006);refine aCT (bL [[112,114,111,106,101,99,116],[40]] _ bp w ts _ (Own.cellB ‹_› 0 rfl 0) (Own.reads ‹_› 1 hR.1 rfl) (Own.boxArr ‹_› 7 rfl rfl (by decide)) hl) ?_;rintro _ h4 ⟨rv,oc⟩;have o4:=oc.thenE ‹_›;clear oc;have hb:bC [[112,114,111,106,101,99,116],[40]] ts=false:=hno 1 (by decide)
    rw[hb]at rv
    subst rv;refine aCQ ?_;refine aCW (by omega) (by omega) ?_
    refine⟨rfl,?_⟩
    exact⟨⟨2,by omega,rfl,Own.sel ‹_› [0,1,2,3,4,5] rfl⟩,by simp⟩
   ·refine aCQ ?_
    refine rR (aCn dN aV (o3.boxArrN 5 rfl ‹_› (by omega)) rfl (by omega) (by omega) ?_);refine rR (aCg o3 5 rfl aV rfl rfl rfl ?_);(refine aCN o3 aV ?_;intro b3002 m3002 o3002);(refine aCf o3002 6 rfl aV rfl (by decide) (aI ⟨rfl,rfl⟩ ?_);intro m3003 o3003);refine rR (fA cB rfl rfl rfl ?_);refine rR (aCc o3003 6 rfl aL rfl rfl ?_);(refine aCM o3003 aK aL rfl rfl (by decide) (aI rfl ?_);intro b3006 m3006 o3006);refine aCT (bL [[106,111,105,110],[40]] _ bp w ts _ (Own.cellB ‹_› 0 rfl 0) (Own.reads ‹_› 1 hR.1 rfl) (Own.boxArr ‹_› 7 rfl rfl (by decide)) hl) ?_;rintro _ h4 ⟨rv,oc⟩;have o4:=oc.thenE ‹_›;clear oc;have hb:bC [[106,111,105,110],[40]] ts=false:=hno 2 (by decide)
    rw[hb]at rv
    subst rv;refine aCQ ?_;refine aCW (by omega) (by omega) ?_
    refine⟨rfl,?_⟩
    exact⟨⟨3,by omega,rfl,Own.sel ‹_› [0,1,2,3,4,5] rfl⟩,by simp⟩
   ·refine aCQ ?_
    refine rR (aCn dN aV (o3.boxArrN 5 rfl ‹_› (by omega)) rfl (by omega) (by omega) ?_);refine rR (aCg o3 5 rfl aV rfl rfl rfl ?_);(refine aCN o3 aV ?_;intro b4002 m4002 o4002);(refine aCf o4002 6 rfl aV rfl (by decide) (aI ⟨rfl,rfl⟩ ?_);intro m4003 o4003);refine rR (fA cB rfl rfl rfl ?_);refine rR (aCc o4003 6 rfl aL rfl rfl ?_);(refine aCM o4003 aK aL rfl rfl (by decide) (aI rfl ?_);intro b4006 m4006 o4006);refine aCT (bL [[117,110,105,111,110],[40]] _ bp w ts _ (Own.cellB ‹_› 0 rfl 0) (Own.reads ‹_› 1 hR.1 rfl) (Own.boxArr ‹_› 7 rfl rfl (by decide)) hl) ?_;rintro _ h4 ⟨rv,oc⟩;have o4:=oc.thenE ‹_›;clear oc;have hb:bC [[117,110,105,111,110],[40]] ts=false:=hno 3 (by decide)
    rw[hb]at rv
    subst rv;refine aCQ ?_;refine aCW (by omega) (by omega) ?_
    refine⟨rfl,?_⟩
    exact⟨⟨4,by omega,rfl,Own.sel ‹_› [0,1,2,3,4,5] rfl⟩,by simp⟩
   ·refine aCQ ?_
    refine rR (aCn dN aV (o3.boxArrN 5 rfl ‹_› (by omega)) rfl (by omega) (by omega) ?_);refine rR (aCg o3 5 rfl aV rfl rfl rfl ?_);(refine aCN o3 aV ?_;intro b5002 m5002 o5002);(refine aCf o5002 6 rfl aV rfl (by decide) (aI ⟨rfl,rfl⟩ ?_);intro m5003 o5003);refine rR (fA cB rfl rfl rfl ?_);refine rR (aCc o5003 6 rfl aL rfl rfl ?_);(refine aCM o5003 aK aL rfl rfl (by decide) (aI rfl ?_);intro b5006 m5006 o5006);refine aCT (bL [[109,105,110,117,115],[40]] _ bp w ts _ (Own.cellB ‹_› 0 rfl 0) (Own.reads ‹_› 1 hR.1 rfl) (Own.boxArr ‹_› 7 rfl rfl (by decide)) hl) ?_;rintro _ h4 ⟨rv,oc⟩;have o4:=oc.thenE ‹_›;clear oc;have hb:bC [[109,105,110,117,115],[40]] ts=false:=hno 4 (by decide)
    rw[hb]at rv
    subst rv;refine aCQ ?_;refine aCW (by omega) (by omega) ?_
    refine⟨rfl,?_⟩
    exact⟨⟨5,by omega,rfl,Own.sel ‹_› [0,1,2,3,4,5] rfl⟩,by simp⟩
   ·refine aCQ ?_
    refine rR (aCn dN aV (o3.boxArrN 5 rfl ‹_› (by omega)) rfl (by omega) (by omega) ?_);refine rR (aCg o3 5 rfl aV rfl rfl rfl ?_);(refine aCN o3 aV ?_;intro b6002 m6002 o6002);(refine aCf o6002 6 rfl aV rfl (by decide) (aI ⟨rfl,rfl⟩ ?_);intro m6003 o6003);refine rR (fA cB rfl rfl rfl ?_);refine rR (aCc o6003 6 rfl aL rfl rfl ?_);(refine aCM o6003 aK aL rfl rfl (by decide) (aI rfl ?_);intro b6006 m6006 o6006);refine aCT (bL [[114,101,110,97,109,101],[40]] _ bp w ts _ (Own.cellB ‹_› 0 rfl 0) (Own.reads ‹_› 1 hR.1 rfl) (Own.boxArr ‹_› 7 rfl rfl (by decide)) hl) ?_;rintro _ h4 ⟨rv,oc⟩;have o4:=oc.thenE ‹_›;clear oc
    rw[hb]at rv
    subst rv;have hE:bT z (n+1) ts=(aW z [[114,101,110,97,109,101],[40]] >>= fun _=>bT z n >>= fun a=>ifP (sH 5) (aW z [[44]] >>= fun _=>bT z n >>= fun b=>pure [a,b]) [a] >>= fun kids=>dZ z 5 (bF ts) kids >>= fun x=>aW z [[41]] >>= fun _=>(pure x:PM Ex)) ts:=jN (jM (by decide) hno hb);have o5:=o4.sel [0,1,2,3,4,6] rfl
    simp only[PSt,pick,lcA,lnA,lgS,lgZ,lgN]at o5
    clear o3 o4;refine aCR ?_;refine aCW (by omega) (by omega) ?_;refine rR (fA aM rfl rfl rfl ?_);(refine aCL o5 3 rfl aT rfl (by simp) (aI ⟨rfl,rfl⟩ ?_);intro m6041 o6041);refine rR (fA cB rfl rfl rfl ?_);refine rR (aCc o6041 5 rfl aL rfl rfl ?_);(refine aCM o6041 aK aL rfl rfl (by decide) (aI rfl ?_);intro b6044 m6044 o6044);refine aU (ss:=[[114,101,110,97,109,101],[40]]) ‹_› rfl ⟨6,by decide,rfl⟩ hR (by omega) (by decide) (fun _ q1 w1 v h5 hm hv hle1 hR1 oq=>?_) (fun e w' h' hm o2=>⟨e,w',hE.trans (aCe hm),rfl,o2⟩);subst hv
    rw[aCd hm]at hE
    have o6:=oq.sel [0,1,2,3,4,5] rfl
    simp only[PSt,pick,lcA,lnA,lgS,lgZ,lgN]at o6
    clear oq hm;refine DrawVC.join [49,50,51,52,53,54,55,56,57,58,59] [] (fun _ hh=>∃(a1:Ex) (q2:List Tok) (w2:Value) (c1:cX) (I1:Item) (ua:Option Addr) (uc:Nat),bT z n q1=.ok (a1,q2)∧q2.length≤q1.length∧cI tk w2 q2∧lZ I1 c1.1 a1∧Own B [box bp [w2,.int .i64 z] 72,tk,I1,box b10 [.int .i64 0,.string ⟨⟨[]⟩⟩,aN,aN,aN,.string ⟨⟨[]⟩⟩,.string ⟨⟨[]⟩⟩,.int .i64 0,.int .i64 0] 42,box b13 [.int .i64 7,.string ⟨⟨[]⟩⟩,.slice ua 1 uc,aN,aN,.string ⟨⟨[]⟩⟩,.string ⟨⟨[]⟩⟩,.int .i64 0,.int .i64 (bF ts)] 42,box pb [.pointer (some ⟨bp,0,none⟩)] 70,box b6002 [.string ⟨⟨[114,101,110,97,109,101]⟩⟩,.bool false,.func (.func 163) ⟨[]⟩ ⟨[.pointer (some ⟨pb,0,none⟩)]⟩] 188,row (.slice ua 1 uc) 42 9 1 c1.1] hh) ?_ ?_
    ·refine aCz b13 [0,2,3,4,6,9,11] [1] [8,10,12] (.one 0 (.one 1 (.one 2 (.one 3 (.one 4 (.one 6 (.fork 5 7 (.one 7 (.one 8 (.one 9 (.one 11 (.fork 10 12 (.one 12 .done) (.one 10 .done)))))) (.one 5 (.one 8 (.one 9 (.one 11 (.fork 10 12 (.one 12 .done) (.one 10 .done))))))))))))) mixed (by kernel_rfl) rfl (fun _ _ _ _ h=>h) ?_
     refine fA aM rfl rfl rfl ?_;refine StillVCA.load1 cQ rfl rfl ((o6.cellB 3 rfl _).trans rfl) ?_;refine aCW (by omega) (by omega) ?_;refine aCk rfl bV ?_
     refine⟨?_,?_⟩
     ·skip
      refine cW.callL (fun B' o'=>ih (level+1) (by omega) B' bp z tk _ _ _ o' hR1 (by omega)) ‹_› rfl (fun a1 q2 w2 v I1 h6 hm hv hle2 hR2 oq=>?_) (fun e w' h' hm o2=>⟨e,w',hE.trans (aCe hm),rfl,o2⟩)
      obtain⟨c1,rfl,hx1⟩:=hv
      have o7:=oq
      simp only[PSt,pick,lcA,lnA,lgS,lgZ,lgN]at o7
      clear oq
      refine⟨Eq.trans (Own.satK o7 4 rfl) (Eq.symm (Own.satK (x:=box b13 _ _) ‹_› 3 rfl)),?_⟩
      have one1:=eR (Own.satK o7 2 rfl) hx1;(refine aCB o7 bV aS rfl rfl (by decide) ?_);refine aI rfl ?_;intro b6101 m6101 o6101;refine aI ((o6101.boxBlk 4 rfl).trans (o7.boxBlk 4 rfl).symm) ?_;have on:=Own.nilRow ‹_› 42 9
      simp only[lcA,lnA]at on
      refine aCO on 8 rfl bV aS (by decide) (Own.boxArrN on 7 rfl (n:=1) rfl (by omega)) (by simp[Value.oneCell']) (by simp only[maxLen];omega) (by omega) ?_;intro vA mA oA
      obtain⟨ua,uc,rfl⟩:=oA.rowIs 8 rfl
      refine aCn bV aS (oA.rowArrN 8 rfl) rfl (by omega) (by omega) ?_;refine fA aM rfl rfl rfl ?_
      refine⟨?_,?_⟩
      ·skip
       refine aCo (i:=0) ‹_› 8 rfl aS rfl rfl rfl c1.2 (by decide) (by decide) one1 ?_;intro mB oB
       simp only[lsS,lsZ]at oB
       (refine aCL oB 4 rfl cQ rfl (by simp) (aI ⟨rfl,rfl⟩ ?_);intro m6140 o6140)
       refine⟨rfl,?_⟩
       have ef:=cA (cs:=[.int .i64 0,.string ⟨⟨[]⟩⟩,aN,aN,aN,.string ⟨⟨[]⟩⟩,.string ⟨⟨[]⟩⟩,.int .i64 0,.int .i64 0]) (c:=c1) rfl
       exact⟨a1,q2,w2,c1,I1,ua,uc,hm,hle2,hR2,hx1,ef▸Own.sel ‹_› [0,1,2,3,4,5,6,8] rfl⟩
      ·skip
       (refine aCL oA 4 rfl cQ rfl (by simp) (aI ⟨rfl,rfl⟩ ?_);intro m6150 o6150);refine aCo (i:=0) ‹_› 8 rfl aS rfl rfl rfl c1.2 (by decide) (by decide) one1 ?_;intro mB oB
       simp only[lsS,lsZ]at oB
       refine⟨rfl,?_⟩
       have ef:=cA (cs:=[.int .i64 0,.string ⟨⟨[]⟩⟩,aN,aN,aN,.string ⟨⟨[]⟩⟩,.string ⟨⟨[]⟩⟩,.int .i64 0,.int .i64 0]) (c:=c1) rfl
       exact⟨a1,q2,w2,c1,I1,ua,uc,hm,hle2,hR2,hx1,ef▸Own.sel ‹_› [0,1,2,3,4,5,6,8] rfl⟩
     ·skip
      (refine aCB o6 bV aS rfl rfl (by decide) ?_);refine aI rfl ?_;intro b6281 m6281 o6281;refine aI ((o6281.boxBlk 3 rfl).trans (o6.boxBlk 3 rfl).symm) ?_;refine cW.callL (fun B' o'=>ih (level+1) (by omega) B' bp z tk _ _ _ o' hR1 (by omega)) ‹_› rfl (fun a1 q2 w2 v I1 h6 hm hv hle2 hR2 oq=>?_) (fun e w' h' hm o2=>⟨e,w',hE.trans (aCe hm),rfl,o2⟩)
      obtain⟨c1,rfl,hx1⟩:=hv
      have o7:=oq
      simp only[PSt,pick,lcA,lnA,lgS,lgZ,lgN]at o7
      clear oq
      refine⟨Eq.trans (Own.satK o7 4 rfl) (Eq.symm (Own.satK (x:=box b13 _ _) ‹_› 3 rfl)),?_⟩
      have one1:=eR (Own.satK o7 2 rfl) hx1;have on:=Own.nilRow ‹_› 42 9
      simp only[lcA,lnA]at on
      refine aCO on 8 rfl bV aS (by decide) (Own.boxArrN on 7 rfl (n:=1) rfl (by omega)) (by simp[Value.oneCell']) (by simp only[maxLen];omega) (by omega) ?_;intro vA mA oA
      obtain⟨ua,uc,rfl⟩:=oA.rowIs 8 rfl
      refine aCn bV aS (oA.rowArrN 8 rfl) rfl (by omega) (by omega) ?_;refine fA aM rfl rfl rfl ?_
      refine⟨?_,?_⟩
      ·skip
       refine aCo (i:=0) ‹_› 8 rfl aS rfl rfl rfl c1.2 (by decide) (by decide) one1 ?_;intro mB oB
       simp only[lsS,lsZ]at oB
       (refine aCL oB 4 rfl cQ rfl (by simp) (aI ⟨rfl,rfl⟩ ?_);intro m6340 o6340)
       refine⟨rfl,?_⟩
       have ef:=cA (cs:=[.int .i64 0,.string ⟨⟨[]⟩⟩,aN,aN,aN,.string ⟨⟨[]⟩⟩,.string ⟨⟨[]⟩⟩,.int .i64 0,.int .i64 0]) (c:=c1) rfl
       exact⟨a1,q2,w2,c1,I1,ua,uc,hm,hle2,hR2,hx1,ef▸Own.sel ‹_› [0,1,2,3,4,5,6,8] rfl⟩
      ·skip
       (refine aCL oA 4 rfl cQ rfl (by simp) (aI ⟨rfl,rfl⟩ ?_);intro m6350 o6350);refine aCo (i:=0) ‹_› 8 rfl aS rfl rfl rfl c1.2 (by decide) (by decide) one1 ?_;intro mB oB
       simp only[lsS,lsZ]at oB
       refine⟨rfl,?_⟩
       have ef:=cA (cs:=[.int .i64 0,.string ⟨⟨[]⟩⟩,aN,aN,aN,.string ⟨⟨[]⟩⟩,.string ⟨⟨[]⟩⟩,.int .i64 0,.int .i64 0]) (c:=c1) rfl
       exact⟨a1,q2,w2,c1,I1,ua,uc,hm,hle2,hR2,hx1,ef▸Own.sel ‹_› [0,1,2,3,4,5,6,8] rfl⟩
    ·rintro _ junk2 h7 ⟨a1,q2,w2,c1,I1,ua,uc,hm,hle2,hR2,hx1,o8⟩
     rw[aCd hm]at hE
     rw[lX (by rfl),aCt]at hE
     refine rR (fA cB rfl rfl rfl ?_);refine rR (aCc o8 6 rfl ty4 rfl rfl ?_);refine aCR ?_;refine aC0 ?_;refine rR (fA cB rfl rfl rfl ?_);refine rR (aCc o8 6 rfl yO rfl rfl ?_);refine lF.callL (fun B' o'=>rest5_spec (bF ts) (.slice ua 1 uc) [a1] B' bp z tk b13 pb w2 q2 h7 o' hR2 (by omega)) o8 [0,1,4,5] [2,3,7] rfl rfl (fun x q3 w3 c J h8 hm3 hJ hle3 hR3 oq=>?_) (fun e w' h' hm3 o2=>⟨e,w',hE.trans (aCe hm3),rfl,o2⟩)
     rw[aCd hm3]at hE
     obtain⟨vc,vn,cs,ns,at_,as_,ag,rfl,rfl,rc,rn⟩:=hJ
     unfold xO at oq;have o9:=oq
     simp only[PSt,pick,lcA,lnA,lgS,lgZ,lgN]at o9
     clear oq o8
     obtain⟨xa,xb,rfl⟩:=rc.isS (Own.satK o9 4 rfl)
     obtain⟨ya,yb,rfl⟩:=rn.isS (Own.satK o9 4 rfl)
     (refine aCM o9 aK aL rfl rfl (by decide) (aI rfl ?_);intro b6520 m6520 o6520);refine aU (ss:=[[41]]) ‹_› rfl ⟨8,by decide,rfl⟩ hR3 (by omega) (by decide) (fun _ q4 w4 v h9 hm4 hv hle4 hR4 oq=>?_) (fun e w' h' hm o2=>⟨e,w',hE.trans (aCe hm),rfl,o2⟩);subst hv
     rw[aCd hm4]at hE
     have o10:=oq
     simp only[PSt,pick,lcA,lnA,lgS,lgZ,lgN]at o10
     clear oq o9;refine rR (aCg o10 2 rfl aS rfl rfl rfl ?_);(refine aCf o10 6 rfl aS rfl (by decide) (aI ⟨rfl,rfl⟩ ?_);intro m6541 o6541)
     first|refine aCs rfl o6541 6 rfl aS rfl rfl ?_|refine aCr rfl o6541 6 rfl aS rfl rfl ?_|refine RetVC.cellTT rfl o6541 6 rfl aS rfl rfl ?_
     have er:[c1].flatMap Subtype.val=c1.1:=by simp
     exact⟨_,q4,w4,dU (dU J I1) (row (.slice ua 1 uc) 42 9 1 c1.1),hE,⟨⟨xO 7 [] (.slice ua 1 uc) (.slice xa cs.length xb) (.slice ya ns.length yb) at_ as_ ag (bF ts),rfl⟩,rfl,by rw[lZ];exact⟨_,_,_,rfl,rc.inl.inl,rn.inl.inl,[c1],by rw[er];exact dI.inr,lZ.mono (fun _ (s:(dU (dU _ _) _).sat _)=>s.1.2) _ _ hx1,trivial⟩⟩,by omega,hR4,((Own.sel ‹_› [4,5,7,0,1] rfl).join.join).sel [1,2,0] rfl⟩
theorem expr_group (n:Nat)(hn:n≤11)(ih:mE n):∀(level:Int)(_:level=13 - ((n+1:Nat):Int))(B:Base)(bp z:Nat)(tk:Item)(w:Value)(ts:List Tok)(h:Heap)(_:Own B (PSt bp z w tk) h)(_:cI tk w ts)(_:ts.length≤5000)(_:∀ j,j<6→bC [cG.getD j [],[40]] ts=false)(_:bC [[103,114,111,117,112],[40]] ts=true),
  Spec Tryz.prog 118 [.pointer (some ⟨bp,0,none⟩),.int .i64 level] h (cW B bp z tk ts.length (bT z (n+1) ts) exV):=by
 intro level hlv B bp z tk w ts h o hR hl hno hb
 obtain⟨hRd,hK⟩:=hR
 have hR:cI tk w ts:=⟨hRd,hK⟩;refine aCV Tryz.func118 rfl Tryz.ntmps118 (by kernel_rfl) ?_;(refine aCN o aS ?_;intro b10 m10 o10);refine aCP (fun hc=>absurd hc (by omega)) (fun c11=>?_);refine rR (aCl aM ?_);refine aI rfl ?_;(refine aCN o10 aS ?_;intro b13 m13 o13);(refine aCf o13 3 rfl aS rfl (by decide) (aI ⟨rfl,rfl⟩ ?_);intro m14 o14);refine rR (nC rfl ?_);refine rR (fA fG rfl rfl rfl ?_);refine rR (aCc o14 0 rfl eL rfl rfl ?_);refine rR (aCD (o14.reads 1 hRd rfl) fH ?_);refine Br.join [19,20,21,22,23,24,25,26] [] (fun _ hh=>Own B [box bp [w,.int .i64 z] 72,tk,box b10 [.int .i64 0,.string ⟨⟨[]⟩⟩,aN,aN,aN,.string ⟨⟨[]⟩⟩,.string ⟨⟨[]⟩⟩,.int .i64 0,.int .i64 0] 42,box b13 [.int .i64 1,.string ⟨⟨[]⟩⟩,aN,aN,aN,.string ⟨⟨[]⟩⟩,.string ⟨⟨[]⟩⟩,.int .i64 0,.int .i64 (bF ts)] 42] hh) rfl rfl ?_ ?_
 ·cases ts with
  | nil =>
   refine aCR ?_
   refine⟨rfl,?_⟩
   exact o14
  | cons t r =>
   have hx:(t::r)[0]?=some t:=rfl;have hln:(t::r).length=r.length+1:=rfl;refine aCP (fun c30=>?_) (fun hc=>absurd (by omega) hc);refine rR (nC rfl ?_);refine rR (fA fG rfl rfl rfl ?_);refine rR (aCc o14 0 rfl eL rfl rfl ?_);refine rR (aCn fH bB (o14.reads 1 hRd rfl) rfl (by omega) (by omega) ?_);refine rR (aCv (o14.reads 1 hRd rfl) (by omega) eN rfl rfl rfl ?_);refine rR (aCA (o14.reads 1 hRd rfl) aT (fun _=>rfl) rfl ‹_› rfl ?_);refine rR (fA aM rfl rfl rfl ?_);(refine aCf o14 3 rfl aT rfl (by decide) (aI ⟨rfl,rfl⟩ ?_);intro m38 o38)
   refine⟨rfl,?_⟩
   exact Own.sel ‹_› [0,1,2,3] rfl
 ·intro vs junk hh oh
  refine aCT (eJ bp _) ?_;rintro _ h2 ⟨bo,pb,rfl,oc⟩;have o2:=oh.call oc
  simp only[lcA,lnA]at o2
  clear oc;refine rR (aCk rfl dN ?_);refine aCZ [6,7,30,31,32,33,34,35,36,37,38,39,40,41,42,43,44,45,46,47,48,49,50,51,52,53,54,55,56,57,58,59,60,61,62,63,64,65,66,67,68,69,70,71,72,73,74,75,76,77,78,79,80,81,82,83] [30] (fun vs hh=>∃(i:Nat),i≤6∧vs=[.int .i64 i]∧Own B [box bp [w,.int .i64 z] 72,tk,box b10 [.int .i64 0,.string ⟨⟨[]⟩⟩,aN,aN,aN,.string ⟨⟨[]⟩⟩,.string ⟨⟨[]⟩⟩,.int .i64 0,.int .i64 0] 42,box b13 [.int .i64 1,.string ⟨⟨[]⟩⟩,aN,aN,aN,.string ⟨⟨[]⟩⟩,.string ⟨⟨[]⟩⟩,.int .i64 0,.int .i64 (bF ts)] 42,box pb [.pointer (some ⟨bp,0,none⟩)] 70,box bo (rA pb) 188] hh) (fun vs _=>match vs with|[.int _ i]=>7 - i.toNat|_=>0) ?_ ?_
  ·exact⟨0,by omega,rfl,o2⟩
  ·rintro vs' junk' h3 ⟨i,hi,rfl,o3⟩
   clear o14 oh o2;have hoL:(rA pb).length=7*3:=rfl
   rcases(by omega:i=0∨i=1∨i=2∨i=3∨i=4∨i=5∨i=6) with rfl|rfl|rfl|rfl|rfl|rfl|rfl
   ·refine aCQ ?_
    refine rR (aCn dN aV (o3.boxArrN 5 rfl ‹_› (by omega)) rfl (by omega) (by omega) ?_);refine rR (aCg o3 5 rfl aV rfl rfl rfl ?_);(refine aCN o3 aV ?_;intro b1002 m1002 o1002);(refine aCf o1002 6 rfl aV rfl (by decide) (aI ⟨rfl,rfl⟩ ?_);intro m1003 o1003);refine rR (fA cB rfl rfl rfl ?_);refine rR (aCc o1003 6 rfl aL rfl rfl ?_);(refine aCM o1003 aK aL rfl rfl (by decide) (aI rfl ?_);intro b1006 m1006 o1006);refine aCT (bL [[115,101,108,101,99,116],[40]] _ bp w ts _ (Own.cellB ‹_› 0 rfl 0) (Own.reads ‹_› 1 hR.1 rfl) (Own.boxArr ‹_› 7 rfl rfl (by decide)) hl) ?_;rintro _ h4 ⟨rv,oc⟩;have o4:=oc.thenE ‹_›;clear oc;have hb:bC [[115,101,108,101,99,116],[40]] ts=false:=hno 0 (by decide)
    rw[hb]at rv
    subst rv;refine aCQ ?_;refine aCW (by omega) (by omega) ?_
    refine⟨rfl,?_⟩
    exact⟨⟨1,by omega,rfl,Own.sel ‹_› [0,1,2,3,4,5] rfl⟩,by simp⟩
   ·refine aCQ ?_
    refine rR (aCn dN aV (o3.boxArrN 5 rfl ‹_› (by omega)) rfl (by omega) (by omega) ?_);refine rR (aCg o3 5 rfl aV rfl rfl rfl ?_);(refine aCN o3 aV ?_;intro b2002 m2002 o2002);(refine aCf o2002 6 rfl aV rfl (by decide) (aI ⟨rfl,rfl⟩ ?_);intro m2003 o2003);refine rR (fA cB rfl rfl rfl ?_);refine rR (aCc o2003 6 rfl aL rfl rfl ?_);(refine aCM o2003 aK aL rfl rfl (by decide) (aI rfl ?_);intro b2006 m2006 o2006);refine aCT (bL [[112,114,111,106,101,99,116],[40]] _ bp w ts _ (Own.cellB ‹_› 0 rfl 0) (Own.reads ‹_› 1 hR.1 rfl) (Own.boxArr ‹_› 7 rfl rfl (by decide)) hl) ?_;rintro _ h4 ⟨rv,oc⟩;have o4:=oc.thenE ‹_›;clear oc;have hb:bC [[112,114,111,106,101,99,116],[40]] ts=false:=hno 1 (by decide)
    rw[hb]at rv
    subst rv;refine aCQ ?_;refine aCW (by omega) (by omega) ?_
    refine⟨rfl,?_⟩
    exact⟨⟨2,by omega,rfl,Own.sel ‹_› [0,1,2,3,4,5] rfl⟩,by simp⟩
   ·refine aCQ ?_
    refine rR (aCn dN aV (o3.boxArrN 5 rfl ‹_› (by omega)) rfl (by omega) (by omega) ?_);refine rR (aCg o3 5 rfl aV rfl rfl rfl ?_);(refine aCN o3 aV ?_;intro b3002 m3002 o3002);(refine aCf o3002 6 rfl aV rfl (by decide) (aI ⟨rfl,rfl⟩ ?_);intro m3003 o3003);refine rR (fA cB rfl rfl rfl ?_);refine rR (aCc o3003 6 rfl aL rfl rfl ?_);(refine aCM o3003 aK aL rfl rfl (by decide) (aI rfl ?_);intro b3006 m3006 o3006);refine aCT (bL [[106,111,105,110],[40]] _ bp w ts _ (Own.cellB ‹_› 0 rfl 0) (Own.reads ‹_› 1 hR.1 rfl) (Own.boxArr ‹_› 7 rfl rfl (by decide)) hl) ?_;rintro _ h4 ⟨rv,oc⟩;have o4:=oc.thenE ‹_›;clear oc;have hb:bC [[106,111,105,110],[40]] ts=false:=hno 2 (by decide)
    rw[hb]at rv
    subst rv;refine aCQ ?_;refine aCW (by omega) (by omega) ?_
    refine⟨rfl,?_⟩
    exact⟨⟨3,by omega,rfl,Own.sel ‹_› [0,1,2,3,4,5] rfl⟩,by simp⟩
   ·refine aCQ ?_
    refine rR (aCn dN aV (o3.boxArrN 5 rfl ‹_› (by omega)) rfl (by omega) (by omega) ?_);refine rR (aCg o3 5 rfl aV rfl rfl rfl ?_);(refine aCN o3 aV ?_;intro b4002 m4002 o4002);(refine aCf o4002 6 rfl aV rfl (by decide) (aI ⟨rfl,rfl⟩ ?_);intro m4003 o4003);refine rR (fA cB rfl rfl rfl ?_);refine rR (aCc o4003 6 rfl aL rfl rfl ?_);(refine aCM o4003 aK aL rfl rfl (by decide) (aI rfl ?_);intro b4006 m4006 o4006);refine aCT (bL [[117,110,105,111,110],[40]] _ bp w ts _ (Own.cellB ‹_› 0 rfl 0) (Own.reads ‹_› 1 hR.1 rfl) (Own.boxArr ‹_› 7 rfl rfl (by decide)) hl) ?_;rintro _ h4 ⟨rv,oc⟩;have o4:=oc.thenE ‹_›;clear oc;have hb:bC [[117,110,105,111,110],[40]] ts=false:=hno 3 (by decide)
    rw[hb]at rv
    subst rv;refine aCQ ?_;refine aCW (by omega) (by omega) ?_
    refine⟨rfl,?_⟩
    exact⟨⟨4,by omega,rfl,Own.sel ‹_› [0,1,2,3,4,5] rfl⟩,by simp⟩
   ·refine aCQ ?_
    refine rR (aCn dN aV (o3.boxArrN 5 rfl ‹_› (by omega)) rfl (by omega) (by omega) ?_);refine rR (aCg o3 5 rfl aV rfl rfl rfl ?_);(refine aCN o3 aV ?_;intro b5002 m5002 o5002);(refine aCf o5002 6 rfl aV rfl (by decide) (aI ⟨rfl,rfl⟩ ?_);intro m5003 o5003);refine rR (fA cB rfl rfl rfl ?_);refine rR (aCc o5003 6 rfl aL rfl rfl ?_);(refine aCM o5003 aK aL rfl rfl (by decide) (aI rfl ?_);intro b5006 m5006 o5006);refine aCT (bL [[109,105,110,117,115],[40]] _ bp w ts _ (Own.cellB ‹_› 0 rfl 0) (Own.reads ‹_› 1 hR.1 rfl) (Own.boxArr ‹_› 7 rfl rfl (by decide)) hl) ?_;rintro _ h4 ⟨rv,oc⟩;have o4:=oc.thenE ‹_›;clear oc;have hb:bC [[109,105,110,117,115],[40]] ts=false:=hno 4 (by decide)
    rw[hb]at rv
    subst rv;refine aCQ ?_;refine aCW (by omega) (by omega) ?_
    refine⟨rfl,?_⟩
    exact⟨⟨5,by omega,rfl,Own.sel ‹_› [0,1,2,3,4,5] rfl⟩,by simp⟩
   ·refine aCQ ?_
    refine rR (aCn dN aV (o3.boxArrN 5 rfl ‹_› (by omega)) rfl (by omega) (by omega) ?_);refine rR (aCg o3 5 rfl aV rfl rfl rfl ?_);(refine aCN o3 aV ?_;intro b6002 m6002 o6002);(refine aCf o6002 6 rfl aV rfl (by decide) (aI ⟨rfl,rfl⟩ ?_);intro m6003 o6003);refine rR (fA cB rfl rfl rfl ?_);refine rR (aCc o6003 6 rfl aL rfl rfl ?_);(refine aCM o6003 aK aL rfl rfl (by decide) (aI rfl ?_);intro b6006 m6006 o6006);refine aCT (bL [[114,101,110,97,109,101],[40]] _ bp w ts _ (Own.cellB ‹_› 0 rfl 0) (Own.reads ‹_› 1 hR.1 rfl) (Own.boxArr ‹_› 7 rfl rfl (by decide)) hl) ?_;rintro _ h4 ⟨rv,oc⟩;have o4:=oc.thenE ‹_›;clear oc;have hb:bC [[114,101,110,97,109,101],[40]] ts=false:=hno 5 (by decide)
    rw[hb]at rv
    subst rv;refine aCQ ?_;refine aCW (by omega) (by omega) ?_
    refine⟨rfl,?_⟩
    exact⟨⟨6,by omega,rfl,Own.sel ‹_› [0,1,2,3,4,5] rfl⟩,by simp⟩
   ·refine aCQ ?_
    refine rR (aCn dN aV (o3.boxArrN 5 rfl ‹_› (by omega)) rfl (by omega) (by omega) ?_);refine rR (aCg o3 5 rfl aV rfl rfl rfl ?_);(refine aCN o3 aV ?_;intro b7002 m7002 o7002);(refine aCf o7002 6 rfl aV rfl (by decide) (aI ⟨rfl,rfl⟩ ?_);intro m7003 o7003);refine rR (fA cB rfl rfl rfl ?_);refine rR (aCc o7003 6 rfl aL rfl rfl ?_);(refine aCM o7003 aK aL rfl rfl (by decide) (aI rfl ?_);intro b7006 m7006 o7006);refine aCT (bL [[103,114,111,117,112],[40]] _ bp w ts _ (Own.cellB ‹_› 0 rfl 0) (Own.reads ‹_› 1 hR.1 rfl) (Own.boxArr ‹_› 7 rfl rfl (by decide)) hl) ?_;rintro _ h4 ⟨rv,oc⟩;have o4:=oc.thenE ‹_›;clear oc
    rw[hb]at rv
    subst rv;have hE:bT z (n+1) ts=(aW z [[103,114,111,117,112],[40]] >>= fun _=>bT z n >>= fun a=>ifP (sH 6) (aW z [[44]] >>= fun _=>bT z n >>= fun b=>pure [a,b]) [a] >>= fun kids=>dZ z 6 (bF ts) kids >>= fun x=>aW z [[41]] >>= fun _=>(pure x:PM Ex)) ts:=jN (jM (by decide) hno hb);have o5:=o4.sel [0,1,2,3,4,6] rfl
    simp only[PSt,pick,lcA,lnA,lgS,lgZ,lgN]at o5
    clear o3 o4;refine aCR ?_;refine aCW (by omega) (by omega) ?_;refine rR (fA aM rfl rfl rfl ?_);(refine aCL o5 3 rfl aT rfl (by simp) (aI ⟨rfl,rfl⟩ ?_);intro m7041 o7041);refine rR (fA cB rfl rfl rfl ?_);refine rR (aCc o7041 5 rfl aL rfl rfl ?_);(refine aCM o7041 aK aL rfl rfl (by decide) (aI rfl ?_);intro b7044 m7044 o7044);refine aU (ss:=[[103,114,111,117,112],[40]]) ‹_› rfl ⟨6,by decide,rfl⟩ hR (by omega) (by decide) (fun _ q1 w1 v h5 hm hv hle1 hR1 oq=>?_) (fun e w' h' hm o2=>⟨e,w',hE.trans (aCe hm),rfl,o2⟩);subst hv
    rw[aCd hm]at hE
    have o6:=oq.sel [0,1,2,3,4,5] rfl
    simp only[PSt,pick,lcA,lnA,lgS,lgZ,lgN]at o6
    clear oq hm;refine DrawVC.join [49,50,51,52,53,54,55,56,57,58,59] [] (fun _ hh=>∃(a1:Ex) (q2:List Tok) (w2:Value) (c1:cX) (I1:Item) (ua:Option Addr) (uc:Nat),bT z n q1=.ok (a1,q2)∧q2.length≤q1.length∧cI tk w2 q2∧lZ I1 c1.1 a1∧Own B [box bp [w2,.int .i64 z] 72,tk,I1,box b10 [.int .i64 0,.string ⟨⟨[]⟩⟩,aN,aN,aN,.string ⟨⟨[]⟩⟩,.string ⟨⟨[]⟩⟩,.int .i64 0,.int .i64 0] 42,box b13 [.int .i64 8,.string ⟨⟨[]⟩⟩,.slice ua 1 uc,aN,aN,.string ⟨⟨[]⟩⟩,.string ⟨⟨[]⟩⟩,.int .i64 0,.int .i64 (bF ts)] 42,box pb [.pointer (some ⟨bp,0,none⟩)] 70,box b7002 [.string ⟨⟨[103,114,111,117,112]⟩⟩,.bool false,.func (.func 164) ⟨[]⟩ ⟨[.pointer (some ⟨pb,0,none⟩)]⟩] 188,row (.slice ua 1 uc) 42 9 1 c1.1] hh) ?_ ?_
    ·refine aCz b13 [0,2,3,4,6,9,11] [1] [8,10,12] (.one 0 (.one 1 (.one 2 (.one 3 (.one 4 (.one 6 (.fork 5 7 (.one 7 (.one 8 (.one 9 (.one 11 (.fork 10 12 (.one 12 .done) (.one 10 .done)))))) (.one 5 (.one 8 (.one 9 (.one 11 (.fork 10 12 (.one 12 .done) (.one 10 .done))))))))))))) mixed (by kernel_rfl) rfl (fun _ _ _ _ h=>h) ?_
     refine fA aM rfl rfl rfl ?_;refine StillVCA.load1 cQ rfl rfl ((o6.cellB 3 rfl _).trans rfl) ?_;refine aCW (by omega) (by omega) ?_;refine aCk rfl bV ?_
     refine⟨?_,?_⟩
     ·skip
      refine cW.callL (fun B' o'=>ih (level+1) (by omega) B' bp z tk _ _ _ o' hR1 (by omega)) ‹_› rfl (fun a1 q2 w2 v I1 h6 hm hv hle2 hR2 oq=>?_) (fun e w' h' hm o2=>⟨e,w',hE.trans (aCe hm),rfl,o2⟩)
      obtain⟨c1,rfl,hx1⟩:=hv
      have o7:=oq
      simp only[PSt,pick,lcA,lnA,lgS,lgZ,lgN]at o7
      clear oq
      refine⟨Eq.trans (Own.satK o7 4 rfl) (Eq.symm (Own.satK (x:=box b13 _ _) ‹_› 3 rfl)),?_⟩
      have one1:=eR (Own.satK o7 2 rfl) hx1;(refine aCB o7 bV aS rfl rfl (by decide) ?_);refine aI rfl ?_;intro b7101 m7101 o7101;refine aI ((o7101.boxBlk 4 rfl).trans (o7.boxBlk 4 rfl).symm) ?_;have on:=Own.nilRow ‹_› 42 9
      simp only[lcA,lnA]at on
      refine aCO on 8 rfl bV aS (by decide) (Own.boxArrN on 7 rfl (n:=1) rfl (by omega)) (by simp[Value.oneCell']) (by simp only[maxLen];omega) (by omega) ?_;intro vA mA oA
      obtain⟨ua,uc,rfl⟩:=oA.rowIs 8 rfl
      refine aCn bV aS (oA.rowArrN 8 rfl) rfl (by omega) (by omega) ?_;refine fA aM rfl rfl rfl ?_
      refine⟨?_,?_⟩
      ·skip
       refine aCo (i:=0) ‹_› 8 rfl aS rfl rfl rfl c1.2 (by decide) (by decide) one1 ?_;intro mB oB
       simp only[lsS,lsZ]at oB
       (refine aCL oB 4 rfl cQ rfl (by simp) (aI ⟨rfl,rfl⟩ ?_);intro m7140 o7140)
       refine⟨rfl,?_⟩
       have ef:=cA (cs:=[.int .i64 0,.string ⟨⟨[]⟩⟩,aN,aN,aN,.string ⟨⟨[]⟩⟩,.string ⟨⟨[]⟩⟩,.int .i64 0,.int .i64 0]) (c:=c1) rfl
       exact⟨a1,q2,w2,c1,I1,ua,uc,hm,hle2,hR2,hx1,ef▸Own.sel ‹_› [0,1,2,3,4,5,6,8] rfl⟩
      ·skip
       (refine aCL oA 4 rfl cQ rfl (by simp) (aI ⟨rfl,rfl⟩ ?_);intro m7150 o7150);refine aCo (i:=0) ‹_› 8 rfl aS rfl rfl rfl c1.2 (by decide) (by decide) one1 ?_;intro mB oB
       simp only[lsS,lsZ]at oB
       refine⟨rfl,?_⟩
       have ef:=cA (cs:=[.int .i64 0,.string ⟨⟨[]⟩⟩,aN,aN,aN,.string ⟨⟨[]⟩⟩,.string ⟨⟨[]⟩⟩,.int .i64 0,.int .i64 0]) (c:=c1) rfl
       exact⟨a1,q2,w2,c1,I1,ua,uc,hm,hle2,hR2,hx1,ef▸Own.sel ‹_› [0,1,2,3,4,5,6,8] rfl⟩
     ·skip
      (refine aCB o6 bV aS rfl rfl (by decide) ?_);refine aI rfl ?_;intro b7281 m7281 o7281;refine aI ((o7281.boxBlk 3 rfl).trans (o6.boxBlk 3 rfl).symm) ?_;refine cW.callL (fun B' o'=>ih (level+1) (by omega) B' bp z tk _ _ _ o' hR1 (by omega)) ‹_› rfl (fun a1 q2 w2 v I1 h6 hm hv hle2 hR2 oq=>?_) (fun e w' h' hm o2=>⟨e,w',hE.trans (aCe hm),rfl,o2⟩)
      obtain⟨c1,rfl,hx1⟩:=hv
      have o7:=oq
      simp only[PSt,pick,lcA,lnA,lgS,lgZ,lgN]at o7
      clear oq
      refine⟨Eq.trans (Own.satK o7 4 rfl) (Eq.symm (Own.satK (x:=box b13 _ _) ‹_› 3 rfl)),?_⟩
      have one1:=eR (Own.satK o7 2 rfl) hx1;have on:=Own.nilRow ‹_› 42 9
      simp only[lcA,lnA]at on
      refine aCO on 8 rfl bV aS (by decide) (Own.boxArrN on 7 rfl (n:=1) rfl (by omega)) (by simp[Value.oneCell']) (by simp only[maxLen];omega) (by omega) ?_;intro vA mA oA
      obtain⟨ua,uc,rfl⟩:=oA.rowIs 8 rfl
      refine aCn bV aS (oA.rowArrN 8 rfl) rfl (by omega) (by omega) ?_;refine fA aM rfl rfl rfl ?_
      refine⟨?_,?_⟩
      ·skip
       refine aCo (i:=0) ‹_› 8 rfl aS rfl rfl rfl c1.2 (by decide) (by decide) one1 ?_;intro mB oB
       simp only[lsS,lsZ]at oB
       (refine aCL oB 4 rfl cQ rfl (by simp) (aI ⟨rfl,rfl⟩ ?_);intro m7340 o7340)
       refine⟨rfl,?_⟩
       have ef:=cA (cs:=[.int .i64 0,.string ⟨⟨[]⟩⟩,aN,aN,aN,.string ⟨⟨[]⟩⟩,.string ⟨⟨[]⟩⟩,.int .i64 0,.int .i64 0]) (c:=c1) rfl
       exact⟨a1,q2,w2,c1,I1,ua,uc,hm,hle2,hR2,hx1,ef▸Own.sel ‹_› [0,1,2,3,4,5,6,8] rfl⟩
      ·skip
       (refine aCL oA 4 rfl cQ rfl (by simp) (aI ⟨rfl,rfl⟩ ?_);intro m7350 o7350);refine aCo (i:=0) ‹_› 8 rfl aS rfl rfl rfl c1.2 (by decide) (by decide) one1 ?_;intro mB oB
       simp only[lsS,lsZ]at oB
       refine⟨rfl,?_⟩
       have ef:=cA (cs:=[.int .i64 0,.string ⟨⟨[]⟩⟩,aN,aN,aN,.string ⟨⟨[]⟩⟩,.string ⟨⟨[]⟩⟩,.int .i64 0,.int .i64 0]) (c:=c1) rfl
       exact⟨a1,q2,w2,c1,I1,ua,uc,hm,hle2,hR2,hx1,ef▸Own.sel ‹_› [0,1,2,3,4,5,6,8] rfl⟩
    ·rintro _ junk2 h7 ⟨a1,q2,w2,c1,I1,ua,uc,hm,hle2,hR2,hx1,o8⟩
     rw[aCd hm]at hE
     rw[lX (by rfl),aCt]at hE
     refine rR (fA cB rfl rfl rfl ?_);refine rR (aCc o8 6 rfl ty4 rfl rfl ?_);refine aCR ?_;refine aC0 ?_;refine rR (fA cB rfl rfl rfl ?_);refine rR (aCc o8 6 rfl yO rfl rfl ?_);refine lF.callL (fun B' o'=>rest6_spec (bF ts) (.slice ua 1 uc) [a1] B' bp z tk b13 pb w2 q2 h7 o' hR2 (by omega)) o8 [0,1,4,5] [2,3,7] rfl rfl (fun x q3 w3 c J h8 hm3 hJ hle3 hR3 oq=>?_) (fun e w' h' hm3 o2=>⟨e,w',hE.trans (aCe hm3),rfl,o2⟩)
     rw[aCd hm3]at hE
     obtain⟨vc,vn,cs,ns,at_,as_,ag,rfl,rfl,rc,rn⟩:=hJ
     unfold xO at oq;have o9:=oq
     simp only[PSt,pick,lcA,lnA,lgS,lgZ,lgN]at o9
     clear oq o8
     obtain⟨xa,xb,rfl⟩:=rc.isS (Own.satK o9 4 rfl)
     obtain⟨ya,yb,rfl⟩:=rn.isS (Own.satK o9 4 rfl)
     (refine aCM o9 aK aL rfl rfl (by decide) (aI rfl ?_);intro b7520 m7520 o7520);refine aU (ss:=[[41]]) ‹_› rfl ⟨8,by decide,rfl⟩ hR3 (by omega) (by decide) (fun _ q4 w4 v h9 hm4 hv hle4 hR4 oq=>?_) (fun e w' h' hm o2=>⟨e,w',hE.trans (aCe hm),rfl,o2⟩);subst hv
     rw[aCd hm4]at hE
     have o10:=oq
     simp only[PSt,pick,lcA,lnA,lgS,lgZ,lgN]at o10
     clear oq o9;refine rR (aCg o10 2 rfl aS rfl rfl rfl ?_);(refine aCf o10 6 rfl aS rfl (by decide) (aI ⟨rfl,rfl⟩ ?_);intro m7541 o7541)
     first|refine aCs rfl o7541 6 rfl aS rfl rfl ?_|refine aCr rfl o7541 6 rfl aS rfl rfl ?_|refine RetVC.cellTT rfl o7541 6 rfl aS rfl rfl ?_
     have er:[c1].flatMap Subtype.val=c1.1:=by simp
     exact⟨_,q4,w4,dU (dU J I1) (row (.slice ua 1 uc) 42 9 1 c1.1),hE,⟨⟨xO 8 [] (.slice ua 1 uc) (.slice xa cs.length xb) (.slice ya ns.length yb) at_ as_ ag (bF ts),rfl⟩,rfl,by rw[lZ];exact⟨_,_,_,rfl,rc.inl.inl,rn.inl.inl,[c1],by rw[er];exact dI.inr,lZ.mono (fun _ (s:(dU (dU _ _) _).sat _)=>s.1.2) _ _ hx1,trivial⟩⟩,by omega,hR4,((Own.sel ‹_› [4,5,7,0,1] rfl).join.join).sel [1,2,0] rfl⟩
theorem expr_next (n:Nat)(hn:n≤11)(ih:mE n):mE (n+1):=by
 intro level hlv B bp z tk w ts h o hR hl;cases hb0:bC [[115,101,108,101,99,116],[40]] ts with
 | true=>exact expr_select n hn ih level hlv B bp z tk w ts h o hR hl (fun j hj=>by rcases(by omega:False) with hf;exact hf.elim) hb0
 | false =>
 cases hb1:bC [[112,114,111,106,101,99,116],[40]] ts with
 | true=>exact aB8 n hn ih level hlv B bp z tk w ts h o hR hl (fun j hj=>by rcases(by omega:False∨j=0) with hf|rfl;exact hf.elim;exact hb0) hb1
 | false =>
 cases hb2:bC [[106,111,105,110],[40]] ts with
 | true=>exact expr_join n hn ih level hlv B bp z tk w ts h o hR hl (fun j hj=>by rcases(by omega:False∨j=0∨j=1) with hf|rfl|rfl;exact hf.elim;exact hb0;exact hb1) hb2
 | false =>
 cases hb3:bC [[117,110,105,111,110],[40]] ts with
 | true=>exact expr_union n hn ih level hlv B bp z tk w ts h o hR hl (fun j hj=>by rcases(by omega:False∨j=0∨j=1∨j=2) with hf|rfl|rfl|rfl;exact hf.elim;exact hb0;exact hb1;exact hb2) hb3
 | false =>
 cases hb4:bC [[109,105,110,117,115],[40]] ts with
 | true=>exact expr_minus n hn ih level hlv B bp z tk w ts h o hR hl (fun j hj=>by rcases(by omega:False∨j=0∨j=1∨j=2∨j=3) with hf|rfl|rfl|rfl|rfl;exact hf.elim;exact hb0;exact hb1;exact hb2;exact hb3) hb4
 | false =>
 cases hb5:bC [[114,101,110,97,109,101],[40]] ts with
 | true=>exact expr_rename n hn ih level hlv B bp z tk w ts h o hR hl (fun j hj=>by rcases(by omega:False∨j=0∨j=1∨j=2∨j=3∨j=4) with hf|rfl|rfl|rfl|rfl|rfl;exact hf.elim;exact hb0;exact hb1;exact hb2;exact hb3;exact hb4) hb5
 | false =>
 cases hb6:bC [[103,114,111,117,112],[40]] ts with
 | true=>exact expr_group n hn ih level hlv B bp z tk w ts h o hR hl (fun j hj=>by rcases(by omega:False∨j=0∨j=1∨j=2∨j=3∨j=4∨j=5) with hf|rfl|rfl|rfl|rfl|rfl|rfl;exact hf.elim;exact hb0;exact hb1;exact hb2;exact hb3;exact hb4;exact hb5) hb6
 | false =>
 exact expr_leaf n hn ih level hlv B bp z tk w ts h o hR hl (fun j hj=>by rcases(by omega:j=0∨j=1∨j=2∨j=3∨j=4∨j=5∨j=6) with rfl|rfl|rfl|rfl|rfl|rfl|rfl;exact hb0;exact hb1;exact hb2;exact hb3;exact hb4;exact hb5;exact hb6)
theorem aBy:∀(n:Nat),n≤12→mE n
 | 0,_=>expr_zero
 | n+1,h=>expr_next n (by omega) (aBy n (by omega))
theorem query_part (kd:Int)(nm:aBs)(off:Nat)(B:Base)(bp z:Nat)(tk:Item)(bx:Nat)(w:Value)(ts:List Tok)(h:Heap)(o:Own B [box bp [w,.int .i64 z] 72,tk,box bx (mP kd nm off) 44] h)(hR:cI tk w ts)(hl:ts.length≤5000) :
  Spec Tryz.prog 66 [.pointer (some ⟨bp,0,none⟩),.pointer (some ⟨bx,0,none⟩)] h (iB B bp z tk bx ts.length (zH z (x0 kd nm off) ts)):=by
 have hE:=congrFun (zH.eq_1 z (x0 kd nm off)) ts;unfold mP at o;refine aCV Tryz.func66 rfl Tryz.ntmps66 (by kernel_rfl) ?_;(refine aCM o aK aL rfl rfl (by decide) (aI rfl ?_);intro b10 m10 o10);refine aU (ss:=[[61]]) ‹_› rfl ⟨3,by decide,rfl⟩ hR (by omega) (by decide) (fun _ q1 w1 v h1 hm hv hle1 hR1 oq=>?_) (fun e w' h' hm o2=>⟨e,w',hE.trans (aCe hm),rfl,o2⟩);subst hv
 rw[aCd hm]at hE
 have o1:=oq
 simp only[PSt,pick,lcA,lnA,lgS,lgZ,lgN]at o1
 clear oq hm;refine cW.callL (fun B' o'=>aBy 12 (aDg _) 1 (by omega) B' bp z tk _ _ _ o' hR1 (by omega)) ‹_› rfl (fun x q wq v I h' hm hv hle hR' oq=>?_) (fun e w' h' hm o2=>⟨e,w',hE.trans (aCe hm),rfl,o2⟩)
 obtain⟨⟨c,hc⟩,rfl,hx⟩:=hv
 rw[aCd hm]at hE
 have o9:=oq
 simp only[PSt,pick,lcA,lnA,lgS,lgZ,lgN]at o9
 clear oq hm
 obtain⟨kind,table,kids,conds,names,attr,as_,agg,eo⟩:=x
 simp only[lZ]at hx
 have hx0:=hx
 obtain⟨vk,vc,vn,rfl,h2,h3,xs,h4,h5⟩:=hx
 obtain⟨a1,b1,rfl⟩:=h2.isS (Own.satK o9 2 rfl)
 obtain⟨a2,b2,rfl⟩:=h3.isS (Own.satK o9 2 rfl)
 obtain⟨a3,b3,rfl⟩:=h4.isS (Own.satK o9 2 rfl)
 unfold xO at hx0 hc;refine rR (nC rfl ?_);refine rR (fA aC rfl rfl rfl ?_);(refine aCL o9 3 rfl aS rfl (by simp) (aI ⟨rfl,rfl⟩ ?_);intro m32 o32);refine aCY rfl ?_
 exact⟨_,q,wq,_,I,hE,rfl,⟨_,_,_,_,_,_,_,_,_,_,_,_,_,_,_,rfl,aP,aP,aP,aP,aP,aP,by simp only[lZ];exact hx0⟩,by omega,hR',Own.sel ‹_› [0,1,3,2] rfl⟩
def lB (h:Heap):Prop:=∀ i,i<10→aY h ⟨0,i,none⟩=(strs dS)[i]?
theorem lB.ext {h h':Heap}(w:lB h)(e:Ext h h'):lB h':=fun i hi=>by
 have h1:(strs dS)[i]?=some ((strs dS)[i]'(by have:(strs dS).length=10:=rfl;omega)):=by simp
 rw[h1]
 exact e.cell ((w i hi).trans h1)
theorem lB.keep {B:Base}(w:lB B.h):rU B (.slice (some ⟨0,0,none⟩) 10 10) dS:=fun L h o =>
 ⟨_,_,rfl,aDg _,.inr ⟨_,0,rfl,fun i hi=>by rw[aDp];exact(w.ext o.ext) i hi⟩⟩
theorem uY:∀(z:Nat)(ss:List aBs)(i:Int) {ts r:List Tok}{k:Int},eC z ss i ts=.ok (k,r)→i≤k∧k<i+ss.length∧r.length<ts.length
 | z,[],i,ts,r,k,h=>by cases h
 | z,s::ss,i,ts,r,k,h=>by
  unfold eC at h;cases hq:cM s ts with
  | error e=>exact absurd hq (cU _ _ _)
  | ok x =>
   obtain⟨b,q⟩:=x
   rw[aCd hq]at h
   cases b with
   | true =>
    cases h
    have:=mY hq
    simp only[aDb]
    omega
   | false =>
    have:=iG hq
    subst this
    have:=uY z ss (i+1) h
    simp only[aDb]
    omega
def partF (k:Int):FuncId :=
 if k=1 then 57 else if k=2 then 58 else if k=3 then 59 else if k=4 then 60 else if k=5 then 61
 else if k=6 then 62 else if k=7 then 63 else if k=8 then 64 else if k=9 then 65 else 66
theorem part_spec (k:Int)(h1:1≤k)(h2:k<11)(kd:Int)(nm:aBs)(off:Nat)(B:Base)(bp z:Nat)(tk:Item)(bx:Nat)(w:Value)(ts:List Tok)(h:Heap)(o:Own B [box bp [w,.int .i64 z] 72,tk,box bx (mP kd nm off) 44] h)(hR:cI tk w ts)(hl:ts.length≤5000) :
  Spec Tryz.prog (partF k) [.pointer (some ⟨bp,0,none⟩),.pointer (some ⟨bx,0,none⟩)] h (iB B bp z tk bx ts.length (jU z k (x0 kd nm off) ts)):=by
 rcases(by omega:k=1∨k=2∨k=3∨k=4∨k=5∨k=6∨k=7∨k=8∨k=9∨k=10) with rfl|rfl|rfl|rfl|rfl|rfl|rfl|rfl|rfl|rfl
 ·exact table_part kd nm off B bp z tk bx w ts h o hR hl
 ·exact source_part kd nm off B bp z tk bx w ts h o hR hl
 ·exact block_part kd nm off B bp z tk bx w ts h o hR hl
 ·exact match_part kd nm off B bp z tk bx w ts h o hR hl
 ·exact keep_part kd nm off B bp z tk bx w ts h o hR hl
 ·exact wO kd nm off B bp z tk bx w ts h o hR hl
 ·exact depend_part kd nm off B bp z tk bx w ts h o hR hl
 ·exact aB2 kd nm off B bp z tk bx w ts h o hR hl
 ·exact deny_part kd nm off B bp z tk bx w ts h o hR hl
 ·exact query_part kd nm off B bp z tk bx w ts h o hR hl
def mfn (bp g:Nat):Value:=.func (.func g) ⟨[.pointer (some ⟨bp,0,none⟩)]⟩ ⟨[]⟩
def partsM (bp:Nat):List MapEntry:=[⟨.int .i64 1,mfn bp 57,0⟩,⟨.int .i64 2,mfn bp 58,1⟩,⟨.int .i64 3,mfn bp 59,2⟩,
 ⟨.int .i64 4,mfn bp 60,3⟩,⟨.int .i64 5,mfn bp 61,4⟩,⟨.int .i64 6,mfn bp 62,5⟩,⟨.int .i64 7,mfn bp 63,6⟩,
 ⟨.int .i64 8,mfn bp 64,7⟩,⟨.int .i64 9,mfn bp 65,8⟩,⟨.int .i64 10,mfn bp 66,9⟩]
theorem partsM_find (bp:Nat)(k:Int)(h1:1≤k)(h2:k<11):∃ i,Instr.findNow (.int .i64) (.int .i64 k) (partsM bp) 0=some (some (i,mfn bp (partF k))):=by
 rcases(by omega:k=1∨k=2∨k=3∨k=4∨k=5∨k=6∨k=7∨k=8∨k=9∨k=10) with rfl|rfl|rfl|rfl|rfl|rfl|rfl|rfl|rfl|rfl
 all_goals exact⟨_,rfl⟩
def itV (x:It)(v:Value)(I:Item):Prop:=∃ c,v=.agg ⟨c⟩∧itR I c x
theorem aAh (z:Nat)(t:Tok)(r:List Tok):iA z (t::r)=(eC z dS 1 >>= fun k=>ifP (k != 5) (cV z) [] >>= fun nm=>jU z k (x0 k nm t.off) >>= fun x=>(if k=4 then aW z [[125]] else aW z [[59]]) >>= fun _=>(pure x:PM It)) (t::r):=by
 refine congrFun (congrArg (fun f=>eC z dS 1 >>= f) (funext fun k=>congrArg (fun f=>ifP (k != 5) (cV z) [] >>= f) (funext fun nm=>congrArg (fun f=>jU z k (x0 k nm t.off) >>= f) (funext fun x=>?_)))) _;by_cases hk:k=4
 ·simp only[if_pos hk]
 ·simp only[if_neg hk]
theorem pwordK_call {ss:List aBs}{vs:Value}{s:aVs}{h:Heap}{K:KK}{Q:QQ}{B:Base}{L:List Item}{bp z:Nat}{tk:Item}{w:Value}{ts:List Tok}
  (o:Own B L h) (e:pick L [0,1]=PSt bp z w tk) (hk:rU ⟨B.h,sQ L++B.T⟩ vs ss) (hR:cI tk w ts) (hl:ts.length≤5000) (hsl:ss.length≤100)
  (hret:∀ a r w' v h',eC z ss 1 ts=.ok (a,r)→v=.int .i64 a→r.length≤ts.length→cI tk w' r→Own B (PSt bp z w' tk++sQ L) h'→K v false h')
  (hpan:∀ e w' h',eC z ss 1 ts=.error e→Own B (PSt bp z w' tk) h'→Q (.panic (kM e)) s h'):CallVC Tryz.prog 55 [.pointer (some ⟨bp,0,none⟩),vs] s h K Q:=by
 have ol:=o.lend [0,1] [2,3,4,5,6,7,8,9] rfl
 rw[e]at ol
 exact PEnd.call (zI ss _ _ bp z tk w ts h hk ol hR hl hsl) (fun a r w' v h' h1 h2 h3 h4 h5=>hret a r w' v h' h1 h2 h3 h4 h5.back) (fun e w' h' h1 h2=>hpan e w' h' h1 (h2.back.sel [0,1] rfl))
theorem iB.callL {g:FuncId}{args:aVs}{s:aVs}{h:Heap}{K:KK}{Q:QQ}{B:Base}{L X:List Item}{bp z:Nat}{tk:Item}{bx n:Nat}{res:Except (Int×Nat) (It×List Tok)}
  (sp:∀ B':Base,Own B' X h→Spec Tryz.prog g args h (iB B' bp z tk bx n res)) (o:Own B L h) (ks js:List Nat) (hd:dst (ks++js)=true) (e:pick L ks=X)
  (hret:∀ x r w' c I h',res=.ok (x,r)→itR I c x→r.length≤n→cI tk w' r→Own B ([box bp [w',.int .i64 z] 72,tk,box bx c 44,I]++pick L js) h'→K (.tuple ⟨[]⟩) false h')
  (hpan:∀ e w' h',res=.error e→Own B (PSt bp z w' tk) h'→Q (.panic (kM e)) s h'):CallVC Tryz.prog g args s h K Q:=by
 have ol:=o.lend ks js hd
 rw[e]at ol
 exact aCU (sp _ ol) (fun v h' ⟨x,r,w',c,I,h1,h2,h3,h4,h5,h6⟩=>by subst h2;exact hret x r w' c I h' h1 h3 h4 h5 h6.back) (fun c h' ⟨e,w',h1,h2,h3⟩=>by subst h2;exact hpan e w' h' h1 (h3.back.sel [0,1] rfl))
theorem item_spec (t0:Tok)(r0:List Tok)(B:Base)(bp z:Nat)(tk:Item)(w:Value)(h:Heap)(hW:lB B.h)(o:Own B (PSt bp z w tk) h)(hR:cI tk w (t0::r0))(hl:(t0::r0).length≤5000) :
  Spec Tryz.prog 28 [.pointer (some ⟨bp,0,none⟩)] h (cW B bp z tk (t0::r0).length (iA z (t0::r0)) itV):=by
 have hE:=aAh z t0 r0;have hx:(t0::r0)[0]?=some t0:=rfl;have hln:(t0::r0).length=r0.length+1:=rfl
 obtain⟨hRd,hK⟩:=hR
 have hR:cI tk w (t0::r0):=⟨hRd,hK⟩;refine aCV Tryz.func28 rfl Tryz.ntmps28 (by kernel_rfl) ?_;(refine aCN o iC ?_;intro b10 m10 o10);refine rR (nC rfl ?_);refine rR (fA fG rfl rfl rfl ?_);refine rR (aCc o10 0 rfl eL rfl rfl ?_);refine rR (aCn fH bB (o10.reads 1 hRd rfl) rfl (by omega) (by omega) ?_);refine rR (aCv (o10.reads 1 hRd rfl) (by omega) eN rfl rfl rfl ?_);refine rR (aCA (o10.reads 1 hRd rfl) aT (fun _=>rfl) rfl ‹_› rfl ?_);refine rR (aCl aC ?_);refine aI rfl ?_;(refine aCN o10 iC ?_;intro b18 m18 o18);(refine aCf o18 3 rfl iC rfl (by decide) (aI ⟨rfl,rfl⟩ ?_);intro m19 o19);refine RunVC.sliceG arr115.1 aL rfl ?_;refine pwordK_call ‹_› rfl (lB.keep hW) hR hl (by decide) (fun k q1 w1 v h1 hm hv hle1 hR1 oq=>?_) (fun e w' h' hm o2=>⟨e,w',hE.trans (aCe hm),rfl,o2⟩);subst hv
 rw[aCd hm]at hE
 obtain⟨hk1,hk2,hk3⟩:=uY _ _ _ hm
 have hk2:k<11:=by have:dS.length=10:=rfl;omega
 have o1:=oq
 simp only[PSt,pick,lcA,lnA,lgS,lgZ,lgN]at o1
 clear oq hm;refine rR (fA aC rfl rfl rfl ?_);(refine aCL o1 3 rfl aT rfl (by simp) (aI ⟨rfl,rfl⟩ ?_);intro m31 o31);refine rR (fA aC rfl rfl rfl ?_);refine rR (aCc o31 3 rfl aT rfl rfl ?_);refine Br.join [20,21,22] [] (fun _ hh=>∃(nm:aBs) (q2:List Tok) (w2:Value),ifP (k != 5) (cV z) [] q1=.ok (nm,q2)∧q2.length≤q1.length∧cI tk w2 q2∧Own B [box bp [w2,.int .i64 z] 72,tk,box b10 (mP 0 [] 0) 44,box b18 (mP k nm t0.off) 44] hh) rfl rfl ?_ ?_
 ·by_cases h5:k=5
  ·refine aCi (fun hc=>absurd (by first|omega|assumption|decide|exact rfl) hc) (fun c40=>?_)
   refine⟨rfl,?_⟩
   exact⟨[],q1,w1,by rw[lX (by simp[h5])];rfl,aDg _,hR1,Own.sel ‹_› [0,1,2,3] rfl⟩
  ·refine aCi (fun c50=>?_) (fun hc=>absurd hc (by first|omega|assumption|decide|exact rfl))
   refine cD.callL ‹_› rfl hR1 (by omega) (fun nm q2 w2 v h2 hm hv hle2 hR2 oq=>?_) (fun e w' h' hm o2=>⟨e,w',hE.trans (aCe (by rw[jI (by simp[h5])];exact hm)),rfl,o2⟩);subst hv;have o2:=oq
   simp only[PSt,pick,lcA,lnA,lgS,lgZ,lgN]at o2
   clear oq;refine rR (fA aC rfl rfl rfl ?_);(refine aCL o2 3 rfl aL rfl (by simp) (aI ⟨rfl,rfl⟩ ?_);intro m61 o61)
   refine⟨rfl,?_⟩
   exact⟨nm,q2,w2,by rw[jI (by simp[h5])];exact hm,hle2,hR2,Own.sel ‹_› [0,1,2,3] rfl⟩
 ·rintro _ junk h3 ⟨nm,q2,w2,hm,hle2,hR2,o3⟩
  rw[aCd hm]at hE
  unfold mP at o3;(refine RunVC.makeMap ‹_› ?_;intro rm mI oI);refine rR (aCx ?_);(refine RunVC.insert ‹_› 4 rfl Tryz.underlying117 Tryz.underlying3 rfl rfl rfl ?_;intro mI oI);refine rR (aCx ?_);(refine RunVC.insert ‹_› 4 rfl Tryz.underlying117 Tryz.underlying3 rfl rfl rfl ?_;intro mI oI);refine rR (aCx ?_);(refine RunVC.insert ‹_› 4 rfl Tryz.underlying117 Tryz.underlying3 rfl rfl rfl ?_;intro mI oI);refine rR (aCx ?_);(refine RunVC.insert ‹_› 4 rfl Tryz.underlying117 Tryz.underlying3 rfl rfl rfl ?_;intro mI oI);refine rR (aCx ?_);(refine RunVC.insert ‹_› 4 rfl Tryz.underlying117 Tryz.underlying3 rfl rfl rfl ?_;intro mI oI);refine rR (aCx ?_);(refine RunVC.insert ‹_› 4 rfl Tryz.underlying117 Tryz.underlying3 rfl rfl rfl ?_;intro mI oI);refine rR (aCx ?_);(refine RunVC.insert ‹_› 4 rfl Tryz.underlying117 Tryz.underlying3 rfl rfl rfl ?_;intro mI oI);refine rR (aCx ?_);(refine RunVC.insert ‹_› 4 rfl Tryz.underlying117 Tryz.underlying3 rfl rfl rfl ?_;intro mI oI);refine rR (aCx ?_);(refine RunVC.insert ‹_› 4 rfl Tryz.underlying117 Tryz.underlying3 rfl rfl rfl ?_;intro mI oI);refine rR (aCx ?_);(refine RunVC.insert ‹_› 4 rfl Tryz.underlying117 Tryz.underlying3 rfl rfl rfl ?_;intro mI oI);refine aC0 ?_;refine rR (fA aC rfl rfl rfl ?_);refine rR (aCc oI 3 rfl aT rfl rfl ?_)
  obtain⟨i,hf⟩:=partsM_find bp k hk1 hk2
  refine RunVC.lookup ‹_› 4 rfl Tryz.underlying117 Tryz.underlying3 rfl rfl hf ?_;refine iB.callL (fun B' o'=>part_spec k hk1 hk2 k nm t0.off B' bp z tk b18 w2 q2 _ o' hR2 (by omega)) ‹_› [0,1,3] [2] rfl rfl (fun x q3 w3 c I h4 hm hI hle3 hR3 oq=>?_) (fun e w' h' hm o2=>⟨e,w',hE.trans (aCe hm),rfl,o2⟩)
  rw[aCd hm]at hE
  have hkind:x.kind=k:=(kept_part z k _ _ _ _ hm).1
  obtain⟨vc,vn,vt,vf,vv,vd,e0,e1,e2,e3,e4,e5,e6,e7,e8,rfl,r1,r2,r3,r4,r5,r6,rx⟩:=hI
  unfold itC at oq;have o4:=oq
  simp only[PSt,pick,lcA,lnA,lgS,lgZ,lgN]at o4
  clear oq hm;have hx0:=rx;refine rR (fA aC rfl rfl rfl ?_);refine rR (aCc o4 2 rfl aT rfl rfl ?_)
  obtain⟨y1,z1,rfl⟩:=r1.isS (Own.satK o4 3 rfl)
  obtain⟨y2,z2,rfl⟩:=r2.isS (Own.satK o4 3 rfl)
  obtain⟨y3,z3,rfl⟩:=r3.isS (Own.satK o4 3 rfl)
  obtain⟨y4,z4,rfl⟩:=r4.isS (Own.satK o4 3 rfl)
  obtain⟨y5,z5,rfl⟩:=r5.isS (Own.satK o4 3 rfl)
  obtain⟨y6,z6,rfl⟩:=r6.isS (Own.satK o4 3 rfl)
  have hx1:∃ q,q=x.expr:=⟨_,rfl⟩
  obtain⟨xe,hxe⟩:=hx1
  rw[← hxe]at rx
  obtain⟨xk,xt,xks,xcs,xns,xa,xs',xg,xo⟩:=xe
  simp only[lZ]at rx
  obtain⟨uk,uc,un,heq,u1,u2,us,u3,_⟩:=rx
  unfold xO at heq
  simp only[List.cons.injEq,and_true]at heq
  obtain⟨rfl,rfl,rfl,rfl,rfl,rfl,rfl,rfl,rfl⟩:=heq
  obtain⟨y7,z7,rfl⟩:=u1.isS (Own.satK o4 3 rfl)
  obtain⟨y8,z8,rfl⟩:=u2.isS (Own.satK o4 3 rfl)
  obtain⟨y9,z9,rfl⟩:=u3.isS (Own.satK o4 3 rfl)
  by_cases hk4:k=4
  ·skip
   rw[if_pos hk4]at hE
   refine aCP (fun c300=>?_) (fun hc=>absurd (by omega) hc);(refine aCM o4 aK aL rfl rfl (by decide) (aI rfl ?_);intro b301 m301 o301);refine aU (ss:=[[125]]) ‹_› rfl ⟨5,by decide,rfl⟩ hR3 (by omega) (by decide) (fun _ q4 w4 v h5 hm hv hle4 hR4 oq=>?_) (fun e w' h' hm o2=>⟨e,w',hE.trans (aCe hm),rfl,o2⟩);subst hv
   rw[aCd hm]at hE
   have o5:=oq
   simp only[PSt,pick,lcA,lnA,lgS,lgZ,lgN]at o5
   clear oq hm;refine rR (aCg o5 2 rfl iC rfl rfl rfl ?_);(refine aCf o5 4 rfl iC rfl (by decide) (aI ⟨rfl,rfl⟩ ?_);intro m321 o321)
   first|refine aCs rfl o321 4 rfl iC rfl rfl ?_|refine aCr rfl o321 4 rfl iC rfl rfl ?_|refine RetVC.cellTT rfl o321 4 rfl iC rfl rfl ?_
   exact⟨x,q4,w4,I,hE,⟨_,rfl,⟨_,_,_,_,_,_,_,_,_,_,_,_,_,_,_,rfl,r1,r2,r3,r4,r5,r6,hx0⟩⟩,by omega,hR4,Own.sel ‹_› [0,1,3] rfl⟩
  ·skip
   rw[if_neg hk4]at hE
   refine aCP (fun hc=>absurd hc (by omega)) (fun c400=>?_);(refine aCM o4 aK aL rfl rfl (by decide) (aI rfl ?_);intro b401 m401 o401);refine aU (ss:=[[59]]) ‹_› rfl ⟨5,by decide,rfl⟩ hR3 (by omega) (by decide) (fun _ q4 w4 v h5 hm hv hle4 hR4 oq=>?_) (fun e w' h' hm o2=>⟨e,w',hE.trans (aCe hm),rfl,o2⟩);subst hv
   rw[aCd hm]at hE
   have o5:=oq
   simp only[PSt,pick,lcA,lnA,lgS,lgZ,lgN]at o5
   clear oq hm;refine rR (aCg o5 2 rfl iC rfl rfl rfl ?_);(refine aCf o5 4 rfl iC rfl (by decide) (aI ⟨rfl,rfl⟩ ?_);intro m421 o421)
   first|refine aCs rfl o421 4 rfl iC rfl rfl ?_|refine aCr rfl o421 4 rfl iC rfl rfl ?_|refine RetVC.cellTT rfl o421 4 rfl iC rfl rfl ?_
   exact⟨x,q4,w4,I,hE,⟨_,rfl,⟨_,_,_,_,_,_,_,_,_,_,_,_,_,_,_,rfl,r1,r2,r3,r4,r5,r6,hx0⟩⟩,by omega,hR4,Own.sel ‹_› [0,1,3] rfl⟩
def vF (p q r v:Value):aVs:=[p,q,r,v,undef,undef,v,undef,undef,undef,undef,undef,undef,undef,undef,undef,undef,undef,undef,undef,undef,undef]
theorem qW (p q r:Value):Recovers Tryz.prog (match Tryz.f26.body with|some (.seq (.region _ ops _) _)=>ops|_=>#[]) ([p,q,r]++List.replicate (22 - [p,q,r].length) undef) (vF p q r):=by
 intro cs w Q hQ;unfold wpOpsS
 simp[Tryz.f26,List.range,List.range.loop,wpOpsS,Region.wanted,yielded,execOp,resolve,invoke,builtin,act,Act.put]
 cases hrec:recoverD cs with
 | none=>exact hQ _ _ (.inr ⟨hrec,rfl,rfl⟩)
 | some x=>exact hQ _ _ (.inl hrec)
theorem pleave_ok (s:aVs)(h:Heap)(R:Ending→Heap→Prop)(p q r:Value)
  (hr:RetVC Tryz.prog Tryz.f13 s h fun v h=>R (.returned v) h) :
  LeaveVC Tryz.prog Tryz.f13 ⟨.fn (.func 26) ⟨[p,q,r]⟩,#[]⟩ .returning s h R:=by
 refine LeaveVC.recovers (f:=vF p q r) .nilIface Tryz.func26 rfl (n:=22) (by kernel_rfl) (by kernel_rfl) rfl (.inl ⟨rfl,rfl⟩) (qW p q r) ?_;refine rR (neI aBp (by first|assumption|rfl) ?_);refine aCR ?_;exact hr
theorem pleave_err (s:aVs)(h:Heap)(R:Ending→Heap→Prop)(B:Base)(b2 b3 b4:Nat)(x y z:Value)(e:Int×Nat)
  (o0:Own B [box b2 [x] 24,box b3 [y] 27,box b4 [z] 3] h)
  (h2:sget s 2=.pointer (some ⟨b2,0,none⟩)) (h3:sget s 3=.pointer (some ⟨b3,0,none⟩)) (h4:sget s 4=.pointer (some ⟨b4,0,none⟩))
  (hR:∀ h',Own B [] h'→R (.returned (.tuple ⟨[.agg ⟨[aN]⟩,.int .i64 e.1,.int .i64 e.2]⟩)) h') :
  LeaveVC Tryz.prog Tryz.f13 ⟨.fn (.func 26) ⟨[.pointer (some ⟨b2,0,none⟩),.pointer (some ⟨b3,0,none⟩),.pointer (some ⟨b4,0,none⟩)]⟩,#[]⟩ (.panicking (kM e)) s h R:=by
 refine LeaveVC.recovers (f:=vF (.pointer (some ⟨b2,0,none⟩)) (.pointer (some ⟨b3,0,none⟩)) (.pointer (some ⟨b4,0,none⟩))) (.iface 68 (.agg ⟨[.int .i64 e.1,.int .i64 e.2]⟩)) Tryz.func26 rfl (n:=22) (by kernel_rfl) (by kernel_rfl) rfl (.inr rfl) (qW _ _ _) ?_;refine rR (neI aBp (by first|assumption|rfl) ?_);refine aCQ ?_;refine rR (assertOk con68 rfl ?_);(refine aCN o0 ty68 ?_;intro b12 m12 o12);(refine aCf o12 3 rfl ty68 rfl (by decide) (aI ⟨rfl,rfl⟩ ?_);intro m13 o13);refine aCR ?_;refine DrawVC.introB b12 [0,1,3] [2,4] [7] [0,1,2,3,4,5,6,7] mixed (by kernel_rfl) rfl (fun _ _ _ _ h=>h) ?_;refine aCl pG ?_;refine fA st68 rfl rfl rfl ?_;refine StillVCA.load1 iE rfl rfl ((o13.cellB 3 rfl _).trans rfl) ?_;refine fA st68 rfl rfl rfl ?_;refine StillVCA.load1 aT rfl rfl ((o13.cellB 3 rfl _).trans rfl) ?_;(refine aCL o13 0 rfl qC rfl (by simp) (aI ⟨rfl,rfl⟩ ?_);intro m25 o25);refine aI ((o25.boxBlk 3 rfl).trans (o13.boxBlk 3 rfl).symm) ?_;(refine aCL o25 1 rfl iE rfl (by simp) (aI ⟨rfl,rfl⟩ ?_);intro m26 o26);refine aI ((o26.boxBlk 3 rfl).trans (o25.boxBlk 3 rfl).symm) ?_;(refine aCL o26 2 rfl aT rfl (by simp) (aI ⟨rfl,rfl⟩ ?_);intro m27 o27);exact RetVC.cell3A rfl qC rfl iE aT h2 h3 h4 (o27.cellB 0 rfl 0) (o27.cellB 1 rfl 0) (o27.cellB 2 rfl 0) (hR _ (o27.sel [] rfl))
def vV (I:Item):List aVs→List It→Prop
 | [],[]=>True
 | c::cs,x::xs=>itR I c x∧vV I cs xs
 | _,_=>False
theorem itR.mono {I J:Item}(hm:∀ h,J.sat h→I.sat h) {c:aVs}{x:It}(r:itR I c x):itR J c x:=by
 obtain⟨vc,vn,vt,vf,vv,vd,e0,e1,e2,e3,e4,e5,e6,e7,e8,h,r1,r2,r3,r4,r5,r6,rx⟩:=r
 exact⟨vc,vn,vt,vf,vv,vd,e0,e1,e2,e3,e4,e5,e6,e7,e8,h,r1.mono hm,r2.mono hm,r3.mono hm,r4.mono hm,r5.mono hm,r6.mono hm,rx.mono hm⟩
theorem itR.len {I:Item}{c:aVs}{x:It}(r:itR I c x):c.length=25:=by
 obtain⟨vc,vn,vt,vf,vv,vd,e0,e1,e2,e3,e4,e5,e6,e7,e8,rfl,_⟩:=r
 rfl
theorem itR.one {I:Item}{h:Heap}(hI:I.sat h) {c:aVs}{x:It}(r:itR I c x):∀ u∈c,u.oneCell'=true:=by
 obtain⟨vc,vn,vt,vf,vv,vd,e0,e1,e2,e3,e4,e5,e6,e7,e8,rfl,r1,r2,r3,r4,r5,r6,rx⟩:=r
 obtain⟨y1,z1,rfl⟩:=r1.isS hI
 obtain⟨y2,z2,rfl⟩:=r2.isS hI
 obtain⟨y3,z3,rfl⟩:=r3.isS hI
 obtain⟨y4,z4,rfl⟩:=r4.isS hI
 obtain⟨y5,z5,rfl⟩:=r5.isS hI
 obtain⟨y6,z6,rfl⟩:=r6.isS hI
 have he:=aDh.1 (eR hI rx);intro u hu;unfold itC at hu;have e:[Value.int .i64 x.kind,.string ⟨⟨x.name⟩⟩,.int .i64 x.off,.string ⟨⟨x.table⟩⟩,.string ⟨⟨x.attr⟩⟩,.slice y1 x.cols.length z1,.slice y2 x.names.length z2,.int .i64 x.by_,.int .i64 x.n,.int .i64 x.m,.slice y3 x.terms.length z3,.string ⟨⟨x.other⟩⟩,.string ⟨⟨x.oattr⟩⟩,.slice y4 x.fixed.length z4,.slice y5 x.vars.length z5,.slice y6 x.conds.length z6,e0,e1,e2,e3,e4,e5,e6,e7,e8]=[Value.int .i64 x.kind,.string ⟨⟨x.name⟩⟩,.int .i64 x.off,.string ⟨⟨x.table⟩⟩,.string ⟨⟨x.attr⟩⟩,.slice y1 x.cols.length z1,.slice y2 x.names.length z2,.int .i64 x.by_,.int .i64 x.n,.int .i64 x.m,.slice y3 x.terms.length z3,.string ⟨⟨x.other⟩⟩,.string ⟨⟨x.oattr⟩⟩,.slice y4 x.fixed.length z4,.slice y5 x.vars.length z5,.slice y6 x.conds.length z6]++[e0,e1,e2,e3,e4,e5,e6,e7,e8]:=rfl
 rw[e]at hu
 rcases aDP.1 hu with hu|hu
 ·have ha:∀(l:aVs),l.all (fun u=>u.oneCell')=true→u∈l→u.oneCell'=true:=fun l h k=>aDh.1 h u k
  exact ha _ rfl hu
 ·exact he u hu
theorem vV.mono {I J:Item}(hm:∀ h,J.sat h→I.sat h):∀ {cs:List aVs}{xs:List It},vV I cs xs→vV J cs xs
 | [],[],_=>trivial
 | _::_,_::_,h=>⟨h.1.mono hm,vV.mono hm h.2⟩
 | [],_::_,h=>h.elim
 | _::_,[],h=>h.elim
theorem vV.snoc {I:Item}:∀ {cs:List aVs}{xs:List It}{c:aVs}{x:It},vV I cs xs→itR I c x→vV I (cs++[c]) (xs++[x])
 | [],[],_,_,_,k=>⟨k,trivial⟩
 | _::_,_::_,_,_,h,k=>⟨h.1,vV.snoc h.2 k⟩
 | [],_::_,_,_,h,_=>h.elim
 | _::_,[],_,_,h,_=>h.elim
def oS (I:Item)(v:Value)(xs:List It):Prop:=∃ cs,Reads I 25 v xs.length cs.flatten∧vV I cs xs
def iW (h:Heap)(t:aBs)(v:Value)(h':Heap):Prop :=
 if 20000<t.length then v=.tuple ⟨[.agg ⟨[aN]⟩,.int .i64 3,.int .i64 (-1)]⟩∧Own h [] h'
 else match kU t with
  | .error (e,i)=>v=.tuple ⟨[.agg ⟨[aN]⟩,.int .i64 e,.int .i64 i]⟩∧Own h [] h'
  | .ok xs=>∃ u I,v=.tuple ⟨[.agg ⟨[u]⟩,.int .i64 0,.int .i64 0]⟩∧oS I u xs∧Own h [I] h'
theorem readR_num {l:aBs}{kd n:Int}{x:aBs}{len:Nat}(h:dQ l=.tok kd x n len):0≤n∧n≤10000000000:=by
 cases l with
 | nil=>cases h
 | cons c r =>
  cases hlet:cP c with
  | true =>
   rw[iS hlet]at h
   split at h<;>cases h
   decide
  | false =>
   cases hdig:bU c with
   | true =>
    rw[lJ hlet hdig]at h
    split at h
    ·cases h
    ·rename_i hn
     cases h
     have h1:=undec_lt ((c::r).take (bM bU (c::r))) (rY bU (c::r));have h2:((c::r).take (bM bU (c::r))).length≤10:=by rw[aDE];omega
     have h3:10 ^ ((c::r).take (bM bU (c::r))).length≤10 ^ 10:=Nat.pow_le_pow_right (by decide) h2
     omega
   | false =>
    by_cases h34:c.toNat=34
    ·rw[lI hlet hdig h34]at h
     have:=(tU _ _ _ h).2
     omega
    ·rw[gH hlet hdig h34]at h
     split at h<;>cases h
     decide
theorem xG:∀(f:Nat)(l:aBs)(i k:Nat),(∀ e j,iL f l i k=.error (e,j)→e≠0)∧(∀ ts,k≤5000→iL f l i k=.ok ts→k+ts.length≤5000∧TokOK ts)
 | 0,l,i,k=>⟨fun _ _ h=>(by cases h),fun ts hk h=>(by cases h;exact⟨by simpa using hk,(fun _ h=>by cases h)⟩)⟩
 | f+1,[],i,k=>⟨fun _ _ h=>(by cases h),fun ts hk h=>(by cases h;exact⟨by simpa using hk,(fun _ h=>by cases h)⟩)⟩
 | f+1,c::r,i,k=>by
  cases hr:dQ (c::r) with
  | err e =>
   rw[vT (by simp) hr]
   refine⟨fun e' j h=>?_,fun ts _ h=>(by cases h)⟩
   cases h
   have:=readR_err hr
   omega
  | none=>exact absurd hr (zF _)
  | tok kd x n len =>
   by_cases hk:k=5000
   ·subst hk
    rw[zZ (by simp) hr]
    exact⟨fun e' j h=>(by cases h;decide),fun ts _ h=>(by cases h)⟩
   ·have hE:=aBn (f:=f) (i:=i) (k:=k) (by simp) hr hk []
    obtain⟨ih1,ih2⟩:=xG f ((c::r).drop (len+cH false ((c::r).drop len))) (i+(len+cH false ((c::r).drop len))) (k+1)
    generalize iL f ((c::r).drop (len+cH false ((c::r).drop len))) (i+(len+cH false ((c::r).drop len))) (k+1)=G at *
    generalize iL (f+1) (c::r) i k=H at *
    cases G with
    | error y =>
     cases H with
     | error y'=>simp only[xP]at hE;cases hE;exact⟨fun e j h=>ih1 e j h,fun ts _ h=>(by cases h)⟩
     | ok ts=>cases hE
    | ok us =>
     cases H with
     | error y'=>cases hE
     | ok ts =>
      simp only[xP,lnA,Except.ok.injEq]at hE
      subst hE
      refine⟨fun _ _ h=>(by cases h),fun ts hk' h=>?_⟩
      cases h
      obtain⟨q1,q2⟩:=ih2 us (by omega) rfl
      refine⟨by simp;omega,fun t ht=>?_⟩
      simp only[lcA,lnA,aDl]at ht
      rcases ht with rfl|ht
      ·exact readR_num hr
      ·exact q2 t ht
theorem tC {t:aBs}:(∀ e j,sL t=.error (e,j)→e≠0)∧(∀ ts,sL t=.ok ts→ts.length≤5000∧TokOK ts):=by
 obtain⟨h1,h2⟩:=xG t.length (t.drop (cH false t)) (cH false t) 0
 exact⟨h1,fun ts h=>by have:=h2 ts (by decide) h;exact⟨by omega,this.2⟩⟩
def leftP (bp:Nat)(h:Heap):Nat:=match aY h ⟨bp,0,none⟩ with
 | some (.slice _ n _)=>n
 | _=>0
theorem leftP_of {B:Base}{L:List Item}{h:Heap}{bp n:Nat}{cs:aVs}{t:TypeId}{a:Option Addr}{c:Nat}(o:Own B L h)(k:Nat)(hk:L[k]?=some (box bp cs t))(hc:cs[0]?=some (.slice a n c)):leftP bp h=n:=by
 unfold leftP
 rw[(o.cellB k hk 0).trans hc]
theorem xL {z f:Nat}{acc:List It}{t:Tok}{r:List Tok}(h:acc.length=200):iY z (f+1) acc (t::r)=.error (3,t.off):=by
 rw[iY,if_pos h]
theorem aAg {z f:Nat}{acc:List It}{t:Tok}{r:List Tok}{e:Int×Nat}(h:acc.length≠200)(hi:iA z (t::r)=.error e):iY z (f+1) acc (t::r)=.error e:=by
 rw[iY,if_neg h,hi]
theorem aBo {z f:Nat}{acc:List It}{t:Tok}{r q:List Tok}{x:It}(h:acc.length≠200)(hi:iA z (t::r)=.ok (x,q)):iY z (f+1) acc (t::r)=iY z f (acc++[x]) q:=by
 rw[iY,if_neg h,hi]
theorem item_call {s:aVs}{h:Heap}{K:KK}{Q:QQ}{B:Base}{L:List Item}{bp z:Nat}{tk:Item}{w:Value}{t0:Tok}{r0:List Tok}(hW:lB B.h)(o:Own B L h)(e:pick L [0,1]=PSt bp z w tk)(hR:cI tk w (t0::r0))(hl:(t0::r0).length≤5000)
  (hret:∀ a r w' v I h',iA z (t0::r0)=.ok (a,r)→itV a v I→r.length≤(t0::r0).length→cI tk w' r→Own B ([box bp [w',.int .i64 z] 72,tk,I]++sQ L) h'→K v false h')
  (hpan:∀ e w' h',iA z (t0::r0)=.error e→Own B (PSt bp z w' tk++sQ L) h'→Q (.panic (kM e)) s h'):CallVC Tryz.prog 28 [.pointer (some ⟨bp,0,none⟩)] s h K Q:=by
 have ol:=o.lend [0,1] [2,3,4,5,6,7,8,9] rfl
 rw[e]at ol
 exact cW.call (item_spec t0 r0 ⟨B.h,sQ L++B.T⟩ bp z tk w h hW ol hR hl) (fun a r w' v I h' h1 h2 h3 h4 h5=>hret a r w' v I h' h1 h2 h3 h4 h5.back) (fun e w' h' h1 h2=>hpan e w' h' h1 h2.back)
theorem itemP_lt {z:Nat}{ts:List Tok}{x:It}{r:List Tok}(h:iA z ts=.ok (x,r)):r.length<ts.length:=by
 cases ts with
 | nil=>exact absurd h (by intro e;cases e)
 | cons t q =>
  rw[aAh]at h
  cases hq:eC z dS 1 (t::q) with
  | error e=>rw[aCe hq]at h;cases h
  | ok p =>
   obtain⟨k,w⟩:=p
   rw[aCd hq]at h
   have h1:=(uY _ _ _ hq).2.2;have h2:=(Dec.bind (Dec.ifP (Dec.name z)) fun nm=>Dec.bind (Dec.part z k (x0 k nm t.off)) fun _=>Dec.bind (show Dec (if k=4 then aW z [[125]] else aW z [[59]]) by split<;>exact Dec.need _ _) fun _=>Dec.pure _) _ _ _ h
   omega
theorem parse_spec (t:aBs)(h:Heap)(hl:t.length≤9223372036854775807)(hW:lB h) :
  bZ Tryz.prog 13 [.string ⟨⟨t⟩⟩] h (iW h t):=by
 refine Spec.enterD2 Tryz.func13 rfl (n:=44) (by kernel_rfl) (by kernel_rfl) ?_;have o0:=Own.refl h;(refine aCN o0 qC ?_;intro b10 m10 o10);(refine aCN o10 iE ?_;intro b11 m11 o11);(refine aCN o11 aT ?_;intro b12 m12 o12);refine aCT (lex_spec t _ hl) ?_;rintro v h1 hv;have key:(∃ e i:Int,e≠0∧v=.tuple ⟨[.slice none 0 0,.int .i64 e,.int .i64 i]⟩∧Own m12 [] h1∧∀ h',Own h [] h'→iW h t (.tuple ⟨[.agg ⟨[aN]⟩,.int .i64 e,.int .i64 i]⟩) h') ∨
   (∃ ts u,sL t=.ok ts∧¬ 20000<t.length∧v=.tuple ⟨[u,.int .i64 0,.int .i64 0]⟩∧Own m12 [row u 112 4 ts.length (ts.flatMap qI)] h1):=by
  unfold lG at hv;by_cases hbig:20000<t.length
  ·rw[if_pos hbig]at hv
   exact .inl ⟨3,-1,by decide,hv.1,hv.2,fun h' o'=>by rw[iW,if_pos hbig];exact⟨rfl,o'⟩⟩
  ·rw[if_neg hbig]at hv
   cases hL:sL t with
   | error e =>
    obtain⟨e,i⟩:=e
    rw[hL]at hv
    exact .inl ⟨e,i,tC.1 e i hL,hv.1,hv.2,fun h' o'=>by rw[iW,if_neg hbig,kU,hL];exact⟨rfl,o'⟩⟩
   | ok ts =>
    rw[hL]at hv
    obtain⟨u,h2,h3⟩:=hv
    exact .inr ⟨ts,u,rfl,hbig,h2,h3⟩
 clear hv
 rcases key with ⟨e,i,hne,rfl,oc,hpost⟩|⟨ts,u,hL,hbig,rfl,oc⟩
 ·have o1:=oc.thenE ‹_›
  clear oc;(refine aCf o1 1 rfl iE rfl (by decide) (aI ⟨rfl,rfl⟩ ?_);intro m50 o50);(refine aCf o50 2 rfl aT rfl (by decide) (aI ⟨rfl,rfl⟩ ?_);intro m51 o51);refine rR (aCc o51 1 rfl iE rfl rfl ?_);refine aCi (fun c53=>?_) (fun hc=>absurd hc (by first|omega|assumption|decide|exact rfl));refine DrawVC.introG (fun h h'=>h'[b11]?=h[b11]?∧h'[b12]?=h[b12]?) (fun a=>a.block=b11∨a.block=b12) (fun _=>⟨rfl,rfl⟩) (fun h h' a v he ha hc=>by rcases ha with rfl|rfl;rw[gL he.1];exact hc;rw[gL he.2];exact hc) [0] [1,2] [5] [0,1,2,3,4,5] mixed (by kernel_rfl) rfl (fun _ _ _ _ h=>h) ?_;refine aCl pG ?_;refine StillVCA.load1 iE rfl (.inl rfl) ((Own.cellB ‹_› 1 rfl _).trans rfl) ?_;refine StillVCA.load1 aT rfl (.inr rfl) ((Own.cellB ‹_› 2 rfl _).trans rfl) ?_;(refine aCf o51 0 rfl qC rfl (by decide) (aI ⟨rfl,rfl⟩ ?_);intro m63 o63)
  refine⟨⟨(Own.satK o63 1 rfl).trans (Own.satK o51 1 rfl).symm,(Own.satK o63 2 rfl).trans (Own.satK o51 2 rfl).symm⟩,?_⟩
  (refine aCL o63 1 rfl iE rfl (by simp) (aI ⟨rfl,rfl⟩ ?_);intro m70 o70)
  refine⟨⟨(Own.satK o70 1 rfl).trans (Own.satK o63 1 rfl).symm,(Own.satK o70 2 rfl).trans (Own.satK o63 2 rfl).symm⟩,?_⟩
  (refine aCL o70 2 rfl aT rfl (by simp) (aI ⟨rfl,rfl⟩ ?_);intro m80 o80);exact RetVC.cell3A rfl qC rfl iE aT rfl rfl rfl (o80.cellB 0 rfl 0) (o80.cellB 1 rfl 0) (o80.cellB 2 rfl 0) (hpost _ (o80.sel [] rfl))
 ·have hP:∀ v h',iW h t v h'=_:=fun v h'=>by rw[iW,if_neg hbig]
  unfold kU at hP
  simp only[hL]at hP
  obtain⟨hts,hok⟩:=tC.2 ts hL
  have o1:=Own.call ‹_› oc
  simp only[lcA,lnA]at o1
  clear oc
  obtain⟨ua,uc,rfl⟩:=o1.rowIs 3 rfl
  (refine aCf o1 1 rfl iE rfl (by decide) (aI ⟨rfl,rfl⟩ ?_);intro m100 o100);(refine aCf o100 2 rfl aT rfl (by decide) (aI ⟨rfl,rfl⟩ ?_);intro m101 o101);refine rR (aCc o101 1 rfl iE rfl rfl ?_);refine aCR ?_;generalize hT:iY t.length (ts.length+1) [] ts=T at hP;refine DeferVC.closureP (fun c s hh=>∃(e:Int×Nat) (x:Value),c=kM e∧T=.error e∧sget s 2=.pointer (some ⟨b10,0,none⟩)∧sget s 3=.pointer (some ⟨b11,0,none⟩)∧sget s 4=.pointer (some ⟨b12,0,none⟩)∧Own h [box b10 [x] 24,box b11 [.int .i64 0] 27,box b12 [.int .i64 0] 3] hh) (by simp) ?_;refine aI ?_ ?_
  ·rintro c s hh ⟨e,x,rfl,hTe,s2,s3,s4,oo⟩
   refine pleave_err _ _ _ _ b10 b11 b12 _ _ _ e oo s2 s3 s4 fun h' o'=>?_;show iW h t _ _
   rw[hP,hTe]
   exact⟨rfl,o'⟩
  refine rR (aCy rfl cT ?_);refine rR (aCl fG ?_);refine aI rfl ?_;refine aI rfl ?_;(refine aCq o101 rfl ?_;intro b122 m122 o122);have on:Own h [box b122 [.slice ua ts.length uc,.int .i64 t.length] 72,row (.slice ua ts.length uc) 112 4 ts.length (ts.flatMap qI),box b10 [.slice none 0 0] 24,box b11 [.int .i64 0] 27,box b12 [.int .i64 0] 3,row (.slice none 0 0) 44 25 0 [],gK] m122:=((o122.nilRow 44 25).emptyI').sel [5,4,1,2,3,6,0] rfl;refine aCZ [24,25,26,27,28,29,30,31,32,33,34,35,36,37,38,39,40,41,42] [] (fun _ hh=>∃(f:Nat) (acc:List It) (q:List Tok) (w:Value) (va:Option Addr) (vc:Nat) (I:Item) (cs:List aVs),iY t.length f acc q=T∧q.length<f∧acc.length≤200∧q.length≤5000∧cI (row (.slice ua ts.length uc) 112 4 ts.length (ts.flatMap qI)) w q∧vV I cs acc∧Own h [box b122 [w,.int .i64 t.length] 72,row (.slice ua ts.length uc) 112 4 ts.length (ts.flatMap qI),box b10 [.slice va acc.length vc] 24,box b11 [.int .i64 0] 27,box b12 [.int .i64 0] 3,row (.slice va acc.length vc) 44 25 acc.length cs.flatten,I] hh) (fun _ hh=>leftP b122 hh) ?_ ?_
  ·exact⟨ts.length+1,[],ts,.slice ua ts.length uc,none,0,gK,[],hT,by omega,by simp,hts,⟨dI,hok⟩,trivial,on⟩
  ·rintro _ junk hh ⟨f,acc,q,w,va,vc,I,cs,hQ,hf,hacc,hq5,hR,hI,oh⟩
   obtain⟨f,rfl⟩:∃ f',f=f'+1:=⟨f - 1,by omega⟩
   obtain⟨wa,wc,rfl⟩:=hR.1.isS (Own.satK oh 1 rfl)
   have hm0:=leftP_of oh 0 rfl rfl;cases q with
   | nil =>
    have hQ':T=.ok acc:=by rw[← hQ];rfl
    refine rR (nC rfl ?_);refine rR (fA fG rfl rfl rfl ?_);refine rR (aCc oh 0 rfl eL rfl rfl ?_);refine rR (aCk rfl fH ?_);refine aCR ?_;refine rR (aCg oh 2 rfl qC rfl rfl rfl ?_);(refine aCL oh 2 rfl qC rfl (by simp) (aI ⟨rfl,rfl⟩ ?_);intro m205 o205);(refine aCf o205 3 rfl iE rfl (by decide) (aI ⟨rfl,rfl⟩ ?_);intro m206 o206);(refine aCf o206 4 rfl aT rfl (by decide) (aI ⟨rfl,rfl⟩ ?_);intro m207 o207);refine pleave_ok _ _ _ _ _ _ ?_;refine RetVC.cell3A rfl qC rfl iE aT rfl rfl rfl (o207.cellB 2 rfl 0) (o207.cellB 3 rfl 0) (o207.cellB 4 rfl 0) ?_;show iW h t _ _
    rw[hP,hQ']
    exact⟨_,_,rfl,⟨cs,dI.inl,hI.mono (fun _ (s:(dU _ _).sat _)=>s.2)⟩,(o207.sel [5,6] rfl).join⟩
   | cons tk0 r0 =>
    have hln:(tk0::r0).length=r0.length+1:=rfl;refine rR (nC rfl ?_);refine rR (fA fG rfl rfl rfl ?_);refine rR (aCc oh 0 rfl eL rfl rfl ?_);refine rR (aCk rfl fH ?_);refine aCP (fun c304=>?_) (fun hc=>absurd (by omega) hc);refine rR (fA pG rfl rfl rfl ?_);refine rR (aCc oh 2 rfl sW rfl rfl ?_);refine rR (aCk rfl nE ?_);by_cases hfull:acc.length=200
    ·refine aCP (fun c320=>?_) (fun hc=>absurd (by omega) hc)
     refine aCU (kS 3 b122 t.length _ (tk0::r0) _ (Own.cellB ‹_› 0 rfl 0) (Own.cellB ‹_› 0 rfl 1) (Own.reads ‹_› 1 hR.1 rfl)) (fun _ _ h=>h.elim) (fun c h4 ⟨hc,ho⟩=>?_);subst hc
     exact⟨(3,tk0.off),_,rfl,by rw[← hQ,xL hfull],rfl,rfl,rfl,(ho.thenE ‹_›).sel [2,3,4] rfl⟩
    ·refine aCP (fun hc=>absurd hc (by omega)) (fun c340=>?_)
     refine DrawVC.introBP b10 [0,2,6] [1] [5,7] [0,1,2,3,4,5,6,7] mixed (by kernel_rfl) rfl (aCb.of [36,37,38,39,40,41,42] rfl fun d hd c s v h ⟨e,x,g1,g2,s2,s3,s4,oo⟩=>⟨e,x,g1,g2,(qM (by rintro rfl;cases hd)).symm.trans s2,(qM (by rintro rfl;cases hd)).symm.trans s3,(qM (by rintro rfl;cases hd)).symm.trans s4,oo⟩) ?_;refine fA pG rfl rfl rfl ?_;refine StillVCA.load1 sW rfl rfl ((oh.cellB 2 rfl _).trans rfl) ?_;refine item_call hW ‹_› rfl hR (by omega) (fun x q2 w2 v J h3 hm hv hle hR2 oq=>?_) (fun e w2 h3 hm o2=>?_)
     ·obtain⟨c,rfl,hc⟩:=hv
      have hlt:=itemP_lt hm
      rw[aBo hfull hm]at hQ
      have o9:=oq
      simp only[PSt,pick,lcA,lnA,lgS,lgZ,lgN]at o9
      clear oq
      refine⟨(Own.satK o9 3 rfl).trans (Own.satK (x:=box b10 _ _) ‹_› 2 rfl).symm,?_⟩
      obtain⟨wa2,wc2,rfl⟩:=hR2.1.isS (Own.satK o9 1 rfl)
      have hcl:=hc.len;have hc1:=hc.one (Own.satK o9 2 rfl);(refine aCB o9 nE iC rfl rfl (by decide) ?_);refine aI (by rw[hcl];exact(aDh.2 hc1)) ?_;refine Eq.mpr (lappV_eq c [] _) ?_
      rw[aDc]
      intro b905 m905 o905
      refine⟨(Own.satK o905 3 rfl).trans (Own.satK o9 3 rfl).symm,?_⟩
      refine aCO ‹_› 6 rfl nE iC (by decide) (Own.boxArrN ‹_› 8 rfl (n:=1) (by simpa using hcl) (by omega)) (by simpa using hc1) (by simp only[maxLen];omega) (by omega) ?_;intro v915 m915 o915
      obtain⟨xa,xc,rfl⟩:=o915.rowIs 6 rfl
      refine fA pG rfl rfl rfl ?_;(refine aCL o915 3 rfl sW rfl (by simp) (aI ⟨rfl,rfl⟩ ?_);intro m921 o921)
      refine⟨rfl,?_⟩
      have e2:(acc++[x]).length=acc.length+1:=by simp
      have e1:(cs++[c]).flatten=cs.flatten++c:=by simp
      refine⟨⟨f,acc++[x],q2,_,xa,xc,dU J I,cs++[c],hQ,by omega,by omega,by omega,hR2,vV.snoc (hI.mono (fun _ (s:(dU _ _).sat _)=>s.2)) (hc.mono (fun _ (s:(dU _ _).sat _)=>s.1)),?_⟩,?_⟩
      ·rw[e1,e2]
       exact(Own.sel ‹_› [2,7,0,1,3,4,5,6] rfl).join.sel [1,2,3,4,5,6,0] rfl
      ·have hm1:=leftP_of (bp:=b122) ‹_› 0 rfl rfl
       rw[hm0,hm1]
       omega
     ·refine⟨e,_,rfl,by rw[← hQ,aAg hfull hm],rfl,rfl,rfl,Own.sel o2 [2,3,4] rfl⟩
end Go.Proofs.YtohlogbnpfofpaaGreatDoor
namespace Go.Proofs.YtohlogbnpfofpaaGreatDoor
open Go
def goF (P:Program)(rec_:TypeId→Option (Bool×List Nat)):List Field→Nat→Option (List Nat)
 | [],_=>some []
 | f::fs,o =>
  if f.name != "_"&&f.offset == o then
   match rec_ f.type with
   | none=>none
   | some (_,ks)=>if (P.info? f.type).map (·.size) == some ks.length then(goF P rec_ fs (o+ks.length)).map (ks++·) else none
  else none
def rO (P:Program):Nat→TypeId→Option (Bool×List Nat)
 | 0,_=>none
 | d+1,t=>match P.underlying t with
  | some .bool=>some (false,[1])
  | some (.int _)=>some (false,[2])
  | some .string=>some (false,[3])
  | some (.struct fs)=>if P.stoodInHeld t then none else(goF P (rO P d) fs.toList 0).map fun ks=>(true,ks)
  | _=>none
section
variable {P : Program}
theorem deepP_und {d:Nat}{t:TypeId}{b:Bool}{ks:List Nat}(h:rO P d t=some (b,ks)):∃ u,P.underlying t=some u∧kX u=b:=by
 cases d with
 | zero=>cases h
 | succ d =>
  unfold rO at h;split at h
  ·rename_i hu;cases h;exact⟨_,hu,rfl⟩
  ·rename_i hu;cases h;exact⟨_,hu,rfl⟩
  ·rename_i hu;cases h;exact⟨_,hu,rfl⟩
  ·rename_i hu
   split at h
   ·cases h
   ·obtain⟨ks',_,h2⟩:=aDi.1 h
    cases h2
    exact⟨_,hu,rfl⟩
  ·cases h
theorem deepP_one {d:Nat}{t:TypeId}{ks:List Nat}(h:rO P d t=some (false,ks)):ks.length=1:=by
 cases d with
 | zero=>cases h
 | succ d =>
  unfold rO at h;split at h
  ·cases h;rfl
  ·cases h;rfl
  ·cases h;rfl
  ·split at h
   ·cases h
   ·obtain⟨ks',_,h2⟩:=aDi.1 h
    cases h2
  ·cases h
variable {ty : TypeId} {s : aVs} {h : Heap} {K : KK} {Q : QQ}
end
end Go.Proofs.YtohlogbnpfofpaaGreatDoor
namespace Go.Proofs.YtohlogbnpfofpaaGreatDoor
open Go StillVC
theorem dp_cond:rO Tryz.prog 5 142=some (true,[3,3,1,2,2,3,2,3,3,1,2,2,3,2]):=by kernel_rfl
theorem eg_cond:Tryz.prog.eqGuardType Tryz.prog.depth 142=false:=by kernel_rfl
theorem dp_col:rO Tryz.prog 5 132=some (true,[3,2,2,2,3]):=by kernel_rfl
theorem eg_col:Tryz.prog.eqGuardType Tryz.prog.depth 132=false:=by kernel_rfl
theorem dp_term:rO Tryz.prog 5 136=some (true,[3,2,2,2,2,2,2]):=by kernel_rfl
theorem eg_term:Tryz.prog.eqGuardType Tryz.prog.depth 136=false:=by kernel_rfl
theorem gR:∀(l:List aBs),l.flatMap sX=strs l
 | []=>rfl
 | x::l=>by
  rw[aDj,gR l]
  rfl
mutual
def fY:Ex→Nat
 | .mk _ _ ks _ _ _ _ _ _=>aAp ks+1
def aAp:List Ex→Nat
 | []=>0
 | x::xs=>max (fY x) (aAp xs)
end
theorem gJ:∀ {l:List Ex}{i:Nat}{x:Ex},l[i]?=some x→fY x≤aAp l
 | [],_,_,h=>by simp at h
 | y::l,0,x,h=>by simp at h;subst h;rw[aAp];exact Nat.le_max_left _ _
 | y::l,i+1,x,h=>by
  have:=gJ (l:=l) (i:=i) (x:=x) (by simpa using h)
  rw[aAp]
  exact aDk this (Nat.le_max_right _ _)
theorem exsQ_get {Q:Nat→Nat→Prop}:∀ {l m:List Ex}{i:Nat}{x:Ex},tJ Q l m→l[i]?=some x→∃ y,m[i]?=some y∧ExQ Q x y
 | [],_,_,_,_,h=>by simp at h
 | a::l,b::m,0,x,hq,h=>by simp at h;subst h;exact⟨b,rfl,hq.1⟩
 | a::l,b::m,i+1,x,hq,h=>exsQ_get (l:=l) (m:=m) (i:=i) hq.2 (by simpa using h)
 | a::l,[],_,_,hq,_=>hq.elim
theorem exsQ_len {Q:Nat→Nat→Prop}:∀ {l m:List Ex},tJ Q l m→l.length=m.length
 | [],[],_=>rfl
 | a::l,b::m,hq=>by simp[exsQ_len hq.2]
 | a::l,[],hq=>hq.elim
 | [],b::m,hq=>hq.elim
theorem flat_getS {α:Type}{f:α→aVs}{sz i off m:Nat}{ys:List α}{y:α}(hf:∀ y,(f y).length=sz)(hy:ys[i]?=some y)(hm:off+m≤sz):((ys.flatMap f).drop (i*sz+off)).take m=((f y).drop off).take m:=by
 obtain⟨hi,he⟩:=aC6.1 hy
 rw[← aDA,vZ hf,aDf hi,he,aDj,List.drop_append_of_le_length (by rw[hf];omega),List.take_append_of_le_length (by rw[aDF,hf];omega)]
theorem StillVC.loadFS {P:Program}{ty:TypeId}{s:aVs}{h:Heap}{K:KK}{α:Type}{t:TypeId}{x:Operand}{zero vs:aVs}{by_ n i off sz:Nat}{v:Value}{f:α→aVs}{ys:List α}{y:α}(hT:TyI P t true zero by_)(hA:dD sz h v n (ys.flatMap f))(hf:∀ y,(f y).length=sz)
  (hz:0<zero.length) (hm:off+zero.length≤sz) (hx:ev s x=adr v (i*sz+off)) (hy:ys[i]?=some y) (hv:((f y).drop off).take zero.length=vs) (hk:K (.agg ⟨vs⟩) false h):StillVC false P (.load t x) ty s h K :=
 .loadAN hA hT hx ((flat_getS hf hy hm).trans hv) (by rw[← hv,aDE,aDF,hf];omega) hz hk
abbrev jJ:={c:aVs // c.length=25}
theorem aAc {I:Item}:∀ {cs:List aVs}{xs:List It},vV I cs xs→∃ ds:List jJ,cs.flatten=ds.flatMap Subtype.val∧∀(i:Nat)(x:It),xs[i]?=some x→∃ d:jJ,ds[i]?=some d∧itR I d.1 x
 | [],[],_=>⟨[],rfl,fun i x h=>by simp at h⟩
 | c::cs,x::xs,h=>by
  obtain⟨ds,h1,h2⟩:=aAc h.2
  refine⟨⟨c,h.1.len⟩::ds,by rw[List.flatten_cons,aDj,h1],fun i y hy=>?_⟩
  cases i with
  | zero=>simp at hy;subst hy;exact⟨_,rfl,h.1⟩
  | succ i=>exact h2 i y (by simpa using hy)
 | [],_::_,h=>h.elim
 | _::_,[],h=>h.elim
def sM (Q:Nat→Nat→Prop):List It→List It→Prop
 | [],[]=>True
 | x::xs,y::ys=>uX Q x y∧sM Q xs ys
 | _,_=>False
theorem itsQ_get {Q:Nat→Nat→Prop}:∀ {l m:List It}{i:Nat}{x:It},sM Q l m→l[i]?=some x→∃ y,m[i]?=some y∧uX Q x y
 | [],_,_,_,_,h=>by simp at h
 | a::l,b::m,0,x,hq,h=>by simp at h;subst h;exact⟨b,rfl,hq.1⟩
 | a::l,b::m,i+1,x,hq,h=>itsQ_get (l:=l) (m:=m) (i:=i) hq.2 (by simpa using h)
 | a::l,[],_,_,hq,_=>hq.elim
theorem itsQ_len {Q:Nat→Nat→Prop}:∀ {l m:List It},sM Q l m→l.length=m.length
 | [],[],_=>rfl
 | a::l,b::m,hq=>by simp[itsQ_len hq.2]
 | a::l,[],hq=>hq.elim
 | [],b::m,hq=>hq.elim
section
variable {Q : Nat → Nat → Prop}
def Firm {α β:Type}(Q:Nat→Nat→Prop)(R:α→β→Prop)(m:Nat→PM α)(m':Nat→PM β):Prop :=
 ∀ z ts a r,LW ts→m z ts=.ok (a,r)→∃ p,p≠[]∧ts=p++r∧∀ z' p' r',TWs p'→TWs r'→TE Q p p'→∃ a',m' z' (p'++r')=.ok (a',r')∧R a a'
theorem he_of_ne {p p' r r':List Tok}(h:TE Q p p')(hp:p≠[]):HE Q (p++r) (p'++r'):=by
 cases h with
 | nil=>exact absurd rfl hp
 | cons h _=>exact h
theorem wA {α β γ δ:Type} [QT Q] {R:α→β→Prop}{S:γ→δ→Prop}{m:Nat→PM α}{m':Nat→PM β}{f:Nat→α→PM γ}{f':Nat→β→PM δ}(hm:Par Q R m m')(hf:∀ a b,R a b→Firm Q S (fun z=>f z a) (fun z=>f' z b)) :
  Firm Q S (fun z=>m z >>= f z) (fun z=>m' z >>= f' z):=by
 intro z ts c r htw h;cases h1:m z ts with
 | error e=>exact absurd ((aCe h1).symm.trans h) (by simp)
 | ok x =>
  obtain⟨a,r1⟩:=x
  have h9:f z a r1=.ok (c,r):=(aCd h1).symm.trans h
  obtain⟨p1,rfl,k1⟩:=hm.ok z ts a r1 htw h1
  obtain⟨b,hb⟩:∃ b,R a b:=by
   obtain⟨p',e1,w1⟩:=TE.aCG (Q:=Q) htw.left.1
   obtain⟨r',e2,w2⟩:=TE.aCG (Q:=Q) htw.right.1
   obtain⟨b,_,hb⟩:=k1 z p' r' w1 w2 e1 e2.he
   exact⟨b,hb⟩
  obtain⟨p2,hne,rfl,_⟩:=hf a b hb z r1 c r htw.right h9
  refine⟨p1++p2,by simp[hne],by simp,fun z' p' r' hp' hr' hp=>?_⟩
  obtain⟨q1,q2,rfl,hq1,hq2⟩:=hp.split
  obtain⟨a',e1,ra⟩:=k1 z' q1 (q2++r') hp'.left (hp'.right.append hr') hq1 (he_of_ne hq2 hne)
  obtain⟨p3,_,e3,k3⟩:=hf a a' ra z _ c r htw.right h9
  have:p3=p2:=(aDI e3).symm
  subst this
  obtain⟨c',e2,rc⟩:=k3 z' q2 r' hp'.right hr' hq2
  exact⟨c',by rw[aC9];exact(aCd e1).trans e2,rc⟩
theorem needP_one (z:Nat)(s:aBs) {ts:List Tok}{r:List Tok}(h:aW z [s] ts=.ok ((),r)):∃ t,ts=t::r∧dF t s=true:=by
 cases hq:cM s ts with
 | error e=>exact absurd hq (cU _ _ _)
 | ok x =>
  obtain⟨b,q⟩:=x
  cases b with
  | false=>exact absurd ((aCe (need1_no z hq)).symm.trans h) (by simp)
  | true =>
   have h':=(aCd (oV z hq)).symm.trans h;cases h';unfold cM at hq;split at hq
   ·rename_i hs
    cases ts with
    | nil=>cases hs
    | cons t q' =>
     cases hq
     refine⟨t,rfl,?_⟩
     simpa[bC] using hs
   ·cases hq
theorem needP_of (z:Nat) {s:aBs}{t:Tok}{r:List Tok}(h:dF t s=true):aW z [s] (t::r)=.ok ((),r):=by
 have e1:need1 z s (t::r)=.ok ((),r):=oV z (kR (ts:=t::r) (by show(dF t s&&true)=true;rw[h];rfl))
 show(need1 z s >>= fun _=>pure ()) _=_
 rw[aCd e1]
 rfl
theorem firm_need {α β:Type}{S:α→β→Prop}(s:aBs) {a:α}{b:β}(h:S a b):Firm Q S (fun z=>aW z [s] >>= fun _=>(pure a:PM α)) (fun z=>aW z [s] >>= fun _=>(pure b:PM β)):=by
 intro z ts c r _ hm;cases h1:aW z [s] ts with
 | error e=>exact absurd ((aCe h1).symm.trans hm) (by simp)
 | ok x =>
  obtain⟨u,q⟩:=x
  have hm:=(aCd h1).symm.trans hm;cases hm
  obtain⟨t,rfl,hw⟩:=needP_one z s h1
  refine⟨[t],by simp,rfl,fun z' p' r' _ _ hp=>⟨b,?_,h⟩⟩
  cases hp with
  | @cons _ t' _ _ h1 h2 =>
   cases h2
   show(aW z' [s] >>= fun _=>(pure b:PM β)) (t'::r')=_
   rw[aCd (needP_of z' ((iZ h1 s).symm.trans hw))]
   rfl
def itemG (off z:Nat):PM It:=eC z dS 1 >>= fun k=>ifP (k != 5) (cV z) [] >>= fun nm=>jU z k (x0 k nm off) >>= fun x=>aW z [if k=4 then[125] else[59]] >>= fun _=>pure x
theorem uL (z:Nat)(t:Tok)(r:List Tok):iA z (t::r)=itemG t.off z (t::r):=by
 rw[aAh]
 refine congrFun (congrArg (fun f=>eC z dS 1 >>= f) (funext fun k=>congrArg (fun f=>ifP (k != 5) (cV z) [] >>= f) (funext fun nm=>congrArg (fun f=>jU z k (x0 k nm t.off) >>= f) (funext fun x=>?_)))) _;by_cases hk:k=4
 ·simp only[if_pos hk]
 ·simp only[if_neg hk]
theorem vW (z:Nat):iA z []=.error (7,z):=rfl
theorem itQ_x0 [hq:QT Q] {off off':Nat}(h:Q off off')(k:Int)(nm:aBs):uX Q (x0 k nm off) (x0 k nm off'):=by
 refine⟨off',ex0,rfl,h,?_⟩
 show ExQ Q ex0 ex0
 unfold ex0
 rw[ExQ]
 exact⟨rfl,rfl,rfl,rfl,rfl,rfl,rfl,hq.zero,trivial⟩
theorem vL [QT Q] {off off':Nat}(h:Q off off'):Par Q (uX Q) (fun z=>itemG off z) (fun z=>itemG off' z) :=
 aQ (kB _ _) fun k=>aQ (yB eF) fun nm=>eG (f:=fun z x=>aW z [if k=4 then[125] else[59]] >>= fun _=>pure x) (f':=fun z x=>aW z [if k=4 then[125] else[59]] >>= fun _=>pure x)
  (aBd (itQ_x0 h k nm) k) fun _ _ hxy=>aQ (cE _) fun _=>bH hxy
theorem aAm [QT Q] {off off':Nat}(h:Q off off'):Firm Q (uX Q) (fun z=>itemG off z) (fun z=>itemG off' z) :=
 wA (f:=fun z k=>ifP (k != 5) (cV z) [] >>= fun nm=>jU z k (x0 k nm off) >>= fun x=>aW z [if k=4 then[125] else[59]] >>= fun _=>pure x)
  (f':=fun z k=>ifP (k != 5) (cV z) [] >>= fun nm=>jU z k (x0 k nm off') >>= fun x=>aW z [if k=4 then[125] else[59]] >>= fun _=>pure x) (kB _ _) fun k k' hk=>by
  subst hk;refine wA (f:=fun z nm=>jU z k (x0 k nm off) >>= fun x=>aW z [if k=4 then[125] else[59]] >>= fun _=>pure x) (f':=fun z nm=>jU z k (x0 k nm off') >>= fun x=>aW z [if k=4 then[125] else[59]] >>= fun _=>pure x) (yB eF) fun nm nm' hn=>?_;subst hn;exact wA (f:=fun z x=>aW z [if k=4 then[125] else[59]] >>= fun _=>pure x) (f':=fun z x=>aW z [if k=4 then[125] else[59]] >>= fun _=>pure x) (aBd (itQ_x0 h k nm) k) fun x y hxy=>firm_need _ hxy
theorem item_firm [hq:QT Q] {z:Nat}{ts:List Tok}{x:It}{r:List Tok}(htw:LW ts)(h:iA z ts=.ok (x,r)) :
  ∃ p,p≠[]∧ts=p++r∧∀ z' p' r',TWs p'→TWs r'→TE Q p p'→∃ x',iA z' (p'++r')=.ok (x',r')∧uX Q x x':=by
 cases ts with
 | nil=>rw[vW]at h;cases h
 | cons t q =>
  rw[uL]at h
  obtain⟨n,hn⟩:=hq.tot t.off
  obtain⟨p,hne,e,_⟩:=aAm (Q:=Q) hn z _ x r htw h
  refine⟨p,hne,e,fun z' p' r' a1 a2 a3=>?_⟩
  have hh:HE Q (t::q) (p'++r'):=by rw[e];exact he_of_ne a3 hne
  obtain⟨t',q',e',ht⟩:=hh.cons_left
  obtain⟨p1,_,e1,k⟩:=aAm (Q:=Q) ht.2.2.2 z _ x r htw h
  have:p1=p:=aDI (e1.symm.trans e)
  subst this
  obtain⟨x',ex,rx⟩:=k z' p' r' a1 a2 a3
  refine⟨x',?_,rx⟩
  rw[e',uL,← e']
  exact ex
theorem item_err [hq:QT Q] {z:Nat}{ts:List Tok}{e:Int}{o:Nat}(htw:LW ts)(h:iA z ts=.error (e,o)) :
  (e=7∧o=z∧∀ z' ts',TWs ts'→TE Q ts ts'→iA z' ts'=.error (7,z')) ∨
  (e≠7∧∃ p t r,ts=p++t::r∧o=t.off∧∀ z' p' t' r',TWs p'→TW t'→TWs r'→TE Q p p'→yP Q t t'→iA z' (p'++t'::r')=.error (e,t'.off)):=by
 cases ts with
 | nil =>
  rw[vW]at h
  injection h with h
  injection h with h1 h2
  exact .inl ⟨h1.symm,h2.symm,fun z' ts' _ ht=>by cases ht;rfl⟩
 | cons t q =>
  rw[uL]at h
  obtain⟨n,hn⟩:=hq.tot t.off
  rcases(vL (Q:=Q) hn).err z _ e o htw h with ⟨he,ho,_⟩|⟨he,p,t1,r,e1,ho,_⟩
  ·refine .inl ⟨he,ho,fun z' ts' a1 a2=>?_⟩
   obtain⟨t',q',rfl,ht⟩:=a2.he.cons_left
   rcases(vL (Q:=Q) ht.2.2.2).err z _ e o htw h with ⟨_,_,k⟩|⟨he',_⟩
   ·rw[uL]
    exact k z' _ a1 a2
   ·exact absurd he he'
  ·refine .inr ⟨he,p,t1,r,e1,ho,fun z' p' t' r' a1 a2 a3 a4 a5=>?_⟩
   have hh:HE Q (t::q) (p'++t'::r'):=by rw[e1];exact HE.append a4 (HE.cons a5)
   obtain⟨t2,q',e',ht⟩:=hh.cons_left
   rcases(vL (Q:=Q) ht.2.2.2).err z _ e o htw h with ⟨he',_⟩|⟨_,p3,t3,r3,e3,ho3,k⟩
   ·exact absurd he' he
   ·obtain⟨rfl,rfl,rfl⟩:=(e1▸htw:LW (p++t1::r)).same (e1.symm.trans e3) (ho.symm.trans ho3)
    have:=k z' p' t' r' a1 a2 a3 a4 a5
    rw[e',uL,← e']
    exact this
inductive Its (z : Nat) : List Tok → List It → Prop
 | nil:Its z [] []
 | cons {ts r:List Tok} {x:It} {xs:List It}:iA z ts=.ok (x,r)→Its z r xs→Its z ts (x::xs)
theorem aAf (z:Nat):∀(f:Nat)(acc:List It)(ts:List Tok)(l:List It),ts.length<f→acc.length≤200→(iY z f acc ts=.ok l↔∃ xs,l=acc++xs∧Its z ts xs∧acc.length+xs.length≤200)
 | 0,_,_,_,h,_=>absurd h (Nat.not_lt_zero _)
 | f+1,acc,[],l,_,ha=>by
  constructor
  ·intro h;cases h;exact⟨[],by simp,.nil,by simpa using ha⟩
  ·rintro⟨xs,rfl,hi,_⟩
   cases hi with
   | nil=>rw[iY,aDc]
   | cons h _=>rw[vW]at h;cases h
 | f+1,acc,t::q,l,hl,ha=>by
  by_cases hfull:acc.length=200
  ·rw[xL hfull]
   constructor
   ·intro h;cases h
   ·rintro⟨xs,_,hi,hle⟩
    cases hi with
    | cons _ _=>simp at hle;omega
  ·cases hp:iA z (t::q) with
   | error e =>
    rw[aAg hfull hp]
    constructor
    ·intro h;cases h
    ·rintro⟨xs,_,hi,_⟩
     cases hi with
     | cons h _=>rw[hp]at h;cases h
   | ok y =>
    obtain⟨x,r⟩:=y
    have hlt:=itemP_lt hp
    simp only[aDb]at hl hlt
    rw[aBo hfull hp,aAf z f (acc++[x]) r l (by omega) (by simp;omega)]
    constructor
    ·rintro⟨xs,rfl,hi,hle⟩
     exact⟨x::xs,by simp,.cons hp hi,by simp at hle ⊢;omega⟩
    ·rintro⟨xs,rfl,hi,hle⟩
     cases hi with
     | @cons _ r' x' xs' h hi =>
      rw[hp]at h
      cases h
      exact⟨xs',by simp,hi,by simp at hle ⊢;omega⟩
theorem aBb {s:aBs}{ts:List Tok}{l:List It}(h:sL s=.ok ts):kU s=.ok l↔Its s.length ts l∧l.length≤200:=by
 unfold kU
 rw[h]
 simp only
 rw[aAf _ _ _ _ _ (Nat.lt_succ_self _) (by simp)]
 constructor
 ·rintro⟨xs,rfl,hi,hle⟩;simp at hle ⊢;exact⟨hi,hle⟩
 ·rintro⟨hi,hle⟩;exact⟨l,rfl,hi,by simpa using hle⟩
end
theorem lexGo_ok_R:∀(f:Nat)(l:aBs)(i k:Nat)(ts:List Tok),l.length≤f→iL f l i k=.ok ts→LexR l i (.ok ts)
 | 0,l,i,k,ts,hl,h=>by
  obtain rfl:l=[]:=aDy (by omega);cases h;exact .nil i
 | f+1,l,i,k,ts,hf,h=>by
  cases l with
  | nil=>rw[vS]at h;cases h;exact .nil i
  | cons c r =>
   rw[iL]at h
   cases hR:dQ (c::r) with
   | none=>exact absurd hR (zF _)
   | err e=>rw[hR]at h;cases h
   | tok kd x n len =>
    obtain⟨h1,h2⟩:=jT hR
    rw[hR]at h
    simp only at h;by_cases hk:k=5000
    ·rw[if_pos hk]at h;cases h
    ·rw[if_neg hk]at h
     have hd:((c::r).drop (len+cH false ((c::r).drop len)))=((c::r).drop len).drop (cH false ((c::r).drop len)):=by rw[aDA]
     have hi:i+(len+cH false ((c::r).drop len))=i+len+cH false ((c::r).drop len):=by omega
     rw[hd,hi]at h
     cases hg:iL f (((c::r).drop len).drop (cH false ((c::r).drop len))) (i+len+cH false ((c::r).drop len)) (k+1) with
     | error e=>rw[hg]at h;cases h
     | ok us =>
      rw[hg]at h
      cases h
      have ih:=lexGo_ok_R f (((c::r).drop len).drop (cH false ((c::r).drop len))) _ _ us (by simp at hf h2 ⊢;omega) hg;exact LexR.tok (i:=i) (by simp) hR ih
theorem lexGo_of_R:∀(f:Nat)(l:aBs)(i k:Nat)(ts:List Tok),l.length≤f→k+ts.length≤5000→LexR l i (.ok ts)→iL f l i k=.ok ts:=by
 intro f l i k ts hf hk h;generalize hr:(Except.ok ts:Except (Int×Nat) (List Tok))=r at h
 induction h generalizing f k ts with
 | nil i=>rw[vS]
 | err _ _=>cases hr
 | @tok l i kd n x len r' hl hR hrest ih =>
  obtain⟨h1,h2⟩:=jT hR
  cases r' with
  | error e=>cases hr
  | ok us =>
   cases hr
   cases l with
   | nil=>exact absurd rfl hl
   | cons c r =>
    cases f with
    | zero=>simp at hf
    | succ f =>
     simp only[aDb]at hk
     rw[iL,hR]
     simp only
     rw[if_neg (by omega)]
     have hd:((c::r).drop (len+cH false ((c::r).drop len)))=((c::r).drop len).drop (cH false ((c::r).drop len)):=by rw[aDA]
     have hi:i+(len+cH false ((c::r).drop len))=i+len+cH false ((c::r).drop len):=by omega
     rw[hd,hi,ih f (k+1) us (by simp at hf h2 ⊢;omega) (by omega) rfl]
     rfl
theorem lexM_of {t:aBs}{ts:List Tok}(hl:ts.length≤5000)(h:fJ t 0 (.ok ts)):sL t=.ok ts:=by
 unfold sL;unfold fJ at h
 rw[aDp]at h
 exact lexGo_of_R _ _ _ _ _ (by rw[aDF];omega) (by omega) h
theorem readR_tw {l:aBs}{n:Int}{x:aBs}{len:Nat}(h:dQ l=.tok 4 x n len):∀ c,x[0]?=some c→cP c=false:=by
 cases l with
 | nil=>cases h
 | cons c r =>
  obtain⟨h1,_⟩:=jT h
  have hx:=readR_text h (by decide);cases hlet:cP c with
  | true =>
   rw[iS hlet]at h
   split at h<;>cases h
  | false =>
   intro d hd
   rw[hx]at hd
   cases len with
   | zero=>omega
   | succ len =>
    simp only[aDv,lgZ,Option.some.injEq]at hd
    subst hd;exact hlet
theorem fJ.wf:∀(n:Nat)(l:aBs)(i:Nat)(ts:List Tok),l.length≤n→fJ l i (.ok ts)→LW ts∧(∀ x∈ts,i≤x.off∧x.off<i+l.length)∧ts.length≤l.length:=by
 intro n
 induction n with
 | zero =>
  intro l i ts hn h;obtain rfl:l=[]:=aDy (by omega)
  rcases h.inv_ok with ⟨rfl,_⟩|⟨_,_,_,_,_,_,hlt,_⟩
  ·exact⟨LW.nil,(fun _ h=>by cases h),by simp⟩
  ·simp at hlt
 | succ n ih =>
  intro l i ts hn h
  rcases h.inv_ok with ⟨rfl,_⟩|⟨k,x,m,len,us,hR,hlt,rfl,hrest⟩
  ·exact⟨LW.nil,(fun _ h=>by cases h),by simp⟩
  ·obtain⟨h1,h2⟩:=jT hR
   rw[aDF]at h2
   obtain⟨⟨w1,w2⟩,b,c⟩:=ih (l.drop (cH false l+len)) (i+cH false l+len) us (by rw[aDF];omega) hrest
   rw[aDF]at b c
   refine⟨⟨fun y hy=>?_,aDS.2 ⟨fun y hy=>?_,w2⟩⟩,fun y hy=>?_,by simp;omega⟩
   ·rcases aDl.1 hy with rfl|hy
    ·intro hk
     simp only at hk;subst hk;exact readR_tw hR
    ·exact w1 y hy
   ·have:=b y hy
    simp only
    omega
   ·rcases aDl.1 hy with rfl|hy
    ·simp only;omega
    ·have:=b y hy;omega
def spc (c:UInt8):Bool:=decide (c=34∨c=92∨c=10)
def wC (c:UInt8):aBs:=if c=34 then[92,34] else if c=92 then[92,92] else if c=10 then[92,110] else[c]
def fU (s:aBs):aBs:=s.flatMap wC
def nS (s:aBs):Nat:=s.countP spc
theorem esc1_len (c:UInt8):(wC c).length=1+(if spc c=true then 1 else 0):=by
 unfold wC spc;by_cases h1:c=34
 ·rw[if_pos h1,if_pos (by simp[h1])];rfl
 ·by_cases h2:c=92
  ·rw[if_neg h1,if_pos h2,if_pos (by simp[h2])];rfl
  ·by_cases h3:c=10
   ·rw[if_neg h1,if_neg h2,if_pos h3,if_pos (by simp[h3])];rfl
   ·rw[if_neg h1,if_neg h2,if_neg h3,if_neg (by simp[h1,h2,h3])];rfl
theorem tE {c:UInt8}(h:spc c=false):wC c=[c]:=by
 unfold spc at h
 have:=of_decide_eq_false h
 unfold wC
 rw[if_neg (fun e=>this (.inl e)),if_neg (fun e=>this (.inr (.inl e))),if_neg (fun e=>this (.inr (.inr e)))]
theorem aAq:∀(s:aBs),(fU s).length=s.length+nS s
 | []=>rfl
 | c::s=>by
  have ih:=aAq s;unfold fU nS at ih ⊢
  rw[aDj,aDa,ih,esc1_len,List.countP_cons]
  simp
  omega
theorem escS_take {s:aBs}{i:Nat}{c:UInt8}(h:s[i]?=some c):fU (s.take (i+1))=fU (s.take i)++wC c:=by
 unfold fU
 rw[aDN,h,aDG]
 simp
theorem uN (s:aBs)(i:Nat):(fU (s.take i)).length≤(fU s).length:=by
 conv=>rhs;rw[← aDJ i s]
 unfold fU
 rw[aDG,aDa]
 omega
theorem escS_le (s:aBs):(fU s).length≤2*s.length:=by
 have h1:=aAq s;have h2:nS s≤s.length:=List.countP_le_length
 omega
theorem quoF_34 (w acc:aBs)(m:Nat):dX (34::w) acc m=if 200<acc.length then .err 3 else .tok 3 acc 0 (m+2):=by
 cases w with
 | nil=>rw[dX,if_pos (by decide)]
 | cons d r=>rw[dX,if_pos (by decide)]
theorem oR:∀(s w acc:aBs)(m:Nat),acc.length+s.length≤200→dX (fU s++34::w) acc m=.tok 3 (acc++s) 0 (m+(fU s).length+2)
 | [],w,acc,m,h=>by
  show dX (34::w) acc m=_
  rw[quoF_34,if_neg (by simp at h;omega)]
  simp[fU]
 | c::s,w,acc,m,h=>by
  have e:fU (c::s)=wC c++fU s:=by simp[fU]
  have hh:(acc++[c]).length+s.length≤200:=by simp at h ⊢;omega
  rw[e]
  unfold wC;by_cases h34:c=34
  ·subst h34
   rw[if_pos rfl]
   show dX (92::34::(fU s++34::w)) acc m=_
   rw[dX,if_neg (by decide),if_neg (by decide),if_pos (by decide),show aAr 34=some 34 from rfl]
   simp only
   rw[oR s w _ _ hh]
   simp;omega
  ·rw[if_neg h34]
   by_cases h92:c=92
   ·subst h92
    rw[if_pos rfl]
    show dX (92::92::(fU s++34::w)) acc m=_
    rw[dX,if_neg (by decide),if_neg (by decide),if_pos (by decide),show aAr 92=some 92 from rfl]
    simp only
    rw[oR s w _ _ hh]
    simp;omega
   ·rw[if_neg h92]
    by_cases h10:c=10
    ·subst h10
     rw[if_pos rfl]
     show dX (92::110::(fU s++34::w)) acc m=_
     rw[dX,if_neg (by decide),if_neg (by decide),if_pos (by decide),show aAr 110=some 10 from rfl]
     simp only
     rw[oR s w _ _ hh]
     simp;omega
    ·rw[if_neg h10]
     have toN:∀ {a b:UInt8},a≠b→a.toNat≠b.toNat:=fun h e=>h (UInt8.toNat_inj.1 e);have n34:c.toNat≠34:=toN h34;have n10:c.toNat≠10:=toN h10;have n92:c.toNat≠92:=toN h92;have ih:=oR s w (acc++[c]) (m+1) hh;have step:dX (c::(fU s++34::w)) acc m=dX (fU s++34::w) (acc++[c]) (m+1):=by
      cases hr:fU s++34::w with
      | nil=>simp at hr
      | cons d r=>rw[dX,if_neg n34,if_neg n10,if_neg n92]
     show dX (c::(fU s++34::w)) acc m=_
     rw[step,ih]
     simp;omega
theorem readR_escS (s w:aBs)(h:s.length≤200):dQ (34::(fU s++34::w))=.tok 3 s 0 ((fU s).length+2):=by
 rw[lI (by decide) (by decide) (by decide),oR s w [] 0 (by simpa using h)]
 simp
def wr (x:Tok):aBs:=if x.kind=3 then[34]++fU x.text++[34] else x.text
theorem fJ.blank {l:aBs}{i:Nat}{r:Except (Int×Nat) (List Tok)}(h:fJ l (i+1) r):fJ (32::l) i r:=by
 unfold fJ at h ⊢
 rw[gapF_blank,Nat.add_comm 1,List.drop_succ_cons]
 rwa [show i+1+cH false l=i+(cH false l+1) by omega]at h
theorem fJ.first {l:aBs}{i:Nat}{k n:Int}{x:aBs}{len:Nat}{r:Except (Int×Nat) (List Tok)}(hR:dQ l=.tok k x n len)(hr:fJ (l.drop len) (i+len) r):fJ l i (consE ⟨k,x,n,i⟩ r):=by
 have h0:=tok_gap hR
 obtain⟨h1,h2⟩:=jT hR
 have st:=fJ.step (l:=l) (i:=i) (by rw[h0];omega) (by rw[h0,List.drop_zero];exact hR) (by rw[h0,aDp,aDW];exact hr)
 rw[h0]at st
 exact st
structure Pc where
 b:aBs
 t:Tok
def fL (p:Pc):aBs:=p.b++wr p.t
def bG (l:List Pc):aBs:=l.flatMap fL
def aX (l:List Pc):List Tok:=l.map (·.t)
def aO (b s:aBs):Pc:=⟨b,⟨4,s,0,0⟩⟩
def aD (b s:aBs):Pc:=⟨b,⟨1,s,0,0⟩⟩
def bP (b:aBs)(n:Int):Pc:=⟨b,⟨2,Lib.itoa n,n,0⟩⟩
def txtT (b s:aBs):Pc:=⟨b,⟨3,s,0,0⟩⟩
def eW:aBs→Bool
 | []=>false
 | c::r=>decide ((c::r).length≤24)&&cP c&&r.all cJ
def nZ (n:Int):Bool:=decide (0≤n∧n≤9999999999)
def aZ (b s:aBs):Option (List Pc):=if eW s=true then some [aD b s] else none
def iD (b:aBs)(n:Int):Option (List Pc):=if nZ n=true then some [bP b n] else none
def gB (n:Int)(ws:List aBs):Option (List Pc):=if 1≤n∧n≤ws.length then some [aD [32] (ws.getD (n - 1).toNat [])] else none
def opQ (n:Int):Option (List Pc):=if 1≤n∧n≤4 then some [aO [32] (([[61],[33,61],[60],[60,61]]:List aBs).getD (n - 1).toNat [])] else none
def aJ:List (Option (List Pc))→Option (List Pc)
 | []=>some []
 | none::_=>none
 | some x::r=>(aJ r).map (x++·)
def hH {α:Type}(one:aBs→α→Option (List Pc))(before:aBs):List α→Option (List Pc)
 | []=>some []
 | x::r=>aJ (one before x::r.map fun y=>(one [32] y).map (aO [] [44]::·))
def dJ {α:Type}(one:aBs→α→Option (List Pc))(before:aBs)(l:List α):Option (List Pc):=match l with
 | []=>none
 | _=>hH one before l
def bX (v:Vl):Option (List Pc) :=
 if v.k=0 then(if v.n=0∧v.t=[] then some [aD [32] [110,117,108,108]] else none)
 else if v.k=1 then(if v.n=0∧v.t.length≤200 then some [txtT [32] v.t] else none)
 else if v.k=2 then(if v.t=[]∧-9999999999≤v.n∧v.n≤9999999999 then some (if v.n<0 then[aO [32] [45],bP [] (-v.n)] else[bP [32] v.n]) else none)
 else if v.k=3 then(if v.t=[]∧nZ v.n=true then some [aO [32] [64],bP [] v.n] else none)
 else if v.k=4 then(if v.t=[]∧(v.n=0∨v.n=1) then some [aD [32] (if v.n=0 then[102,97,108,115,101] else[116,114,117,101])] else none)
 else none
def dW (t a:aBs):Option (List Pc):=aJ [aZ [32] t,some [aO [] [46]],aZ [] a]
def reserved (s:aBs):Bool:=decide (s=[116,114,117,101]∨s=[102,97,108,115,101]∨s=[110,117,108,108])
def jS (x:Opd):Option (List Pc) :=
 if x.con=true then(if x.var=[]∧x.attr=[] then bX x.val else none)
 else if ¬ (x.val.k=0∧x.val.n=0∧x.val.t=[]) then none
 else if x.var=[] then(if reserved x.attr=true then none else aZ [32] x.attr)
 else if reserved x.var=true then none else dW x.var x.attr
def wI (n:Int):Option (List Pc) :=
 if ¬ (-9999999999≤n∧n≤9999999999) then none
 else if 0<n then some [aO [32] [43],bP [32] n]
 else if n<0 then some [aO [32] [45],bP [32] (-n)]
 else some []
def uQ (x:Cnd):Option (List Pc):=aJ [jS x.left,opQ x.op,jS x.right,wI x.add]
def nO:List Cnd→Option (List Pc)
 | []=>none
 | x::r=>aJ (some [aD [32] [119,104,101,114,101]]::uQ x::r.map fun y=>(uQ y).map (aD [32] [97,110,100]::·))
def iM (k:Int):Nat:=if k=1 then 0 else if k=4∨k=5∨k=6 then 2 else 1
def gD (k:Int)(tb:aBs)(cs:List Cnd)(ns:List aBs)(a as_:aBs)(g:Int):Bool :=
 decide ((k=1∨tb=[])∧(k=2∨cs=[])∧(k=3∨k=8∨ns=[])∧(k=7∨k=8∨a=[])∧(k=7∨k=8∨as_=[])∧(k=8∨g=0))
def withQ:List aBs→Bool
 | []=>true
 | s::_=>decide (s≠[119,105,116,104])
def dT (k:Int)(cs:List Cnd)(ns:List aBs)(a as_:aBs)(g:Int):Option (List Pc) :=
 if k=2 then nO cs
 else if k=3 then aJ [some [aD [32] [111,110]],hH aZ [32] ns]
 else if k=7 then aJ [some [aO [] [44]],aZ [32] a,some [aD [32] [97,115]],aZ [32] as_]
 else if k=8 then(if withQ ns=true then aJ [some [aD [32] [111,110]],hH aZ [32] ns,some [aD [32] [119,105,116,104]],gB g [[99,111,117,110,116],[115,117,109],[108,101,97,115,116],[103,114,101,97,116,101,115,116]],
  (if g=1 then(if a=[] then some [] else none) else aZ [32] a),some [aD [32] [97,115]],aZ [32] as_] else none)
 else some []
mutual
def fZ (before:aBs):Ex→Option (List Pc)
 | .mk k tb ks cs ns a as_ g _ =>
  if 1≤k∧k≤8∧ks.length=iM k∧gD k tb cs ns a as_ g=true then
   if k=1 then aZ before tb
   else aJ [some [aD before (cG.getD (k - 2).toNat []),aO [] [40]],kE [] ks,dT k cs ns a as_ g,some [aO [] [41]]]
  else none
def kE (before:aBs):List Ex→Option (List Pc)
 | []=>some []
 | x::r=>match fZ before x,kE [32] r with
  | some p,some q=>some (p++(if r.isEmpty then[] else[aO [] [44]])++q)
  | _,_=>none
end
mutual
def bY:Ex→Nat
 | .mk _ _ ks _ _ _ _ _ _=>cK ks+1
def cK:List Ex→Nat
 | []=>0
 | x::r=>max (bY x) (cK r)
end
def mR (before:aBs)(c:Col):Option (List Pc):=aJ [aZ before c.name,gB c.kind [[116,101,120,116],[110,117,109,98,101,114],[100,97,121],[102,108,97,103]],
 (if c.dflt.k=0∧c.dflt.n=0∧c.dflt.t=[] then some [] else(bX c.dflt).map (aO [32] [61]::·))]
def bI (t:Trm):Option (List Pc):=aJ [aZ [10,32,32] t.attr,gB t.measure [[101,113,117,97,108],[101,100,105,116],[106,97,99,99,97,114,100],[106,97,114,111],[110,101,97,114]],
 (if t.measure=5 then iD [32] t.tol else if t.tol=0 then some [] else none),some [aD [32] [108,101,97,115,116]],iD [32] t.num,
 (if t.den=1 then some [] else(iD [] t.den).map (aO [] [47]::·)),some [aD [32] [103,105,118,101,115]],iD [32] t.gives,
 (if t.takes=0 then some [] else(iD [32] t.takes).map (aD [32] [116,97,107,101,115]::·)),some [aO [] [59]]]
def aAR (f:Nmd):Option (List Pc):=aJ [aZ [32] f.name,some [aO [32] [61]],bX f.val]
def aAl:List Nmd→Option (List Pc)
 | []=>some []
 | x::r=>aJ (some [aD [32] [119,104,101,114,101]]::aAR x::r.map fun y=>(aAR y).map (aO [] [44]::·))
def sV (v:Vr):Option (List Pc):=aJ [aZ [32] v.table,aZ [32] v.name]
def bareI (x:It):Bool:=decide ((x.kind=5→x.name=[])∧(x.kind=3∨x.kind=4∨x.kind=5∨x.kind=6∨x.kind=7∨x.kind=8∨x.table=[])∧(x.kind=3∨x.kind=5∨x.kind=7∨x.kind=8∨x.attr=[])∧(x.kind=1∨x.cols.length=0)
 ∧ (x.kind=1∨x.kind=6∨x.kind=7∨x.names=[])∧(x.kind=3∨x.kind=5∨x.by_=0)∧(x.kind=2∨x.kind=4∨(x.kind=3∧3≤x.by_)∨x.n=0)∧((x.kind=3∧x.by_=4)∨x.m=0)∧(x.kind=4∨x.terms.length=0)
 ∧ (x.kind=8∨x.other=[])∧(x.kind=8∨x.oattr=[])∧(x.kind=7∨x.fixed.length=0)∧(x.kind=9∨x.vars.length=0)∧(x.kind=9∨x.conds.length=0))
def aAU:Ex→Bool
 | .mk k tb ks cs ns a as_ g _=>decide (k=0∧tb=[]∧ks.length=0∧cs.length=0∧ns=[]∧a=[]∧as_=[]∧g=0)
def jD (x:It):Option (List Pc) :=
 if x.kind=1 then aJ [some [aO [] [40]],dJ mR [] x.cols,some [aO [] [41],aD [32] [107,101,121]],dJ aZ [32] x.names]
 else if x.kind=2 then aJ [some [aD [32] [116,114,117,115,116]],iD [32] x.n]
 else if x.kind=3 then aJ [some [aD [32] [111,110]],dW x.table x.attr,some [aD [32] [98,121]],gB x.by_ [[101,120,97,99,116],[116,111,107,101,110],[112,114,101,102,105,120],[115,107,101,116,99,104]],(if 3≤x.by_ then iD [32] x.n else some []),(if x.by_=4 then iD [32] x.m else some [])]
 else if x.kind=4 then aJ ([some [aD [32] [111,110]],aZ [32] x.table,some [aD [32] [97,116]],iD [32] x.n,some [aO [32] [123]]]++x.terms.map bI)
 else if x.kind=5 then aJ [dW x.table x.attr,some [aD [32] [98,121]],gB x.by_ [[108,97,116,101,115,116],[109,111,115,116],[116,114,117,115,116,101,100],[108,111,110,103,101,115,116],[108,101,97,115,116],[103,114,101,97,116,101,115,116]]]
 else if x.kind=6 then aJ [some [aD [32] [111,110]],aZ [32] x.table,some [aO [] [40]],dJ aZ [] x.names,some [aO [] [41]]]
 else if x.kind=7 then aJ [some [aD [32] [111,110]],aZ [32] x.table,some [aO [] [40]],dJ aZ [] x.names,some [aO [] [41],aD [32] [116,111]],aZ [32] x.attr,aAl x.fixed]
 else if x.kind=8 then aJ [dW x.table x.attr,some [aD [32] [105,110]],dW x.other x.oattr]
 else if x.kind=9 then aJ [dJ (fun _=>sV) [] x.vars,nO x.conds]
 else aJ [some [aO [32] [61]],fZ [32] x.expr]
def mH (x:It):Option (List Pc) :=
 if 1≤x.kind∧x.kind≤10∧bareI x=true∧(x.kind=10∨aAU x.expr=true) then
  aJ [some [aD [] (dS.getD (x.kind - 1).toNat [])],(if x.kind=5 then some [] else aZ [32] x.name),jD x,some [if x.kind=4 then aO [10] [125] else aO [] [59]]]
 else none
def fB (xs:List It):Option (List (List Pc)):=xs.mapM mH
def gC (l:List Pc):aBs:=bG l++[10]
def kJ (ls:List (List Pc)):aBs:=ls.flatMap gC
def nN (ls:List (List Pc)):Nat:=ls.flatten.length
def kG (x:It):Bool:=decide (x.kind=10→bY x.expr≤12)
def eM (xs:List It):aBs×Int:=match fB xs with
 | none=>([],1)
 | some ls=>if xs.all kG=true∧xs.length≤200∧nN ls≤5000∧(kJ ls).length≤20000 then(kJ ls,0) else([],3)
section
variable {P : Program} {ty : TypeId} {s : aVs} {h0 : Base} {h : Heap} {L : List Item} {K : KK} {Q : QQ}
theorem RunVC.nePP {t t' e:TypeId}{x y:Operand}{a:Addr}(hS:P.underlying t=some (.pointer e))(hi:(P.info? e).isSome=true)(hx:ev s x=.pointer (some a))(hy:ev s y=.pointer (some a))(hk:K (.bool false) false h):RunVC P (.binOp .neq t x y t') ty s h K Q:=by
 obtain⟨j,hj⟩:=Option.isSome_iff_exists.1 hi
 refine .pure' _ false (fun w=>?_) hk
 have:=Lib.run_neq_ptr_same w a hS hj
 simp[execOp,hx,hy,eqGuard_at_pointer,this]
theorem RunVC.fromUnsafe {src dst u:TypeId}{x:Operand}{a:Addr}{b:Nat}{cs:aVs}{t:TypeId}(o:Own h0 L h)(k:Nat)(hk:L[k]?=some (box b cs t))(hs:P.underlying src=some .unsafePointer)(hd:P.underlying dst=some (.pointer u))(hu:(P.info? u).isSome=true)
  (hx:ev s x=.pointer (some a)) (hb:a.block=b) (hlies:liesAt P P.depth t (cs.length / P.cellsOf t) a.off u 1=true) (hK:K (.pointer (some a)) false h):RunVC P (.convert src dst x) ty s h K Q:=by
 obtain⟨j,hj⟩:=Option.isSome_iff_exists.1 hu
 subst hb;refine .of fun w hw=>⟨_,false,w,?_,.refl w,by rw[hw];exact hK⟩;subst hw;have hbk:=o.boxBlk k hk;have hsh:w.shape? a.block=some (t,cs.length):=by simp[World.shape?,hbk]
 have:=Lib.run_from_unsafe w a hs hd hj hsh hlies
 simp[execOp,hx,this]
end
theorem XSpec.noEscape {P:Program}{f:FuncId}{fn:Func}{h:Heap}(hf:P.funcs[f]?=some fn)(hname:(fn.name == "runtime.NumGoroutine")=false)(hb:fn.body.isNone=true)(hn:Extern.findNext fn=none)
  (he:Extern.find fn=some Extern.AbiNoEscape.same) (x:Value):XSpec P f [x] h (Ret fun v h'=>v=x∧h'=h) :=
 fun w hw=>⟨_,w,by rw[run_callFunc_extern hf hname hb hn he];simp[Lib.run_noEscape],.refl w,rfl,hw⟩
abbrev wSt (b:Nat)(p v:Value)(k:Int)(bs:aBs):List Item:=[box b [p,v,.int .i64 k] 58,row v 5 1 bs.length (bytes bs)]
theorem qA (b:Nat)(v:Value)(k:Int)(h:Heap)(L:List Item)(h0:Base)(o0:Own h0 (box b [.pointer (some ⟨b,0,none⟩),v,.int .i64 k] 58::L) h) :
  bZ Tryz.prog 80 [.pointer (some ⟨b,0,none⟩)] h fun r h'=>Own h0 (box b [.pointer (some ⟨b,0,none⟩),v,.int .i64 k] 58::L) h':=by
 refine aCV Tryz.func80 rfl Tryz.ntmps80 (by kernel_rfl) ?_;refine rR (nC rfl ?_);refine rR (fA vB rfl rfl rfl ?_);refine rR (aCc o0 0 rfl ty51 rfl rfl ?_);refine RunVC.eqP (by kernel_rfl) rfl rfl ?_;refine aCR ?_;refine rR (nC rfl ?_);refine rR (fA vB rfl rfl rfl ?_);refine rR (aCc o0 0 rfl ty51 rfl rfl ?_);refine RunVC.nePP (e:=54) (by kernel_rfl) (by kernel_rfl) rfl rfl ?_;refine aCR ?_;refine aCY rfl ?_;exact o0
theorem qB (b:Nat)(v:Value)(k:Int)(h:Heap)(L:List Item)(h0:Base)(o0:Own h0 (box b [.pointer none,v,.int .i64 k] 58::L) h) :
  bZ Tryz.prog 80 [.pointer (some ⟨b,0,none⟩)] h fun r h'=>Own h0 (box b [.pointer (some ⟨b,0,none⟩),v,.int .i64 k] 58::L) h':=by
 refine aCV Tryz.func80 rfl Tryz.ntmps80 (by kernel_rfl) ?_;refine rR (nC rfl ?_);refine rR (fA vB rfl rfl rfl ?_);refine rR (aCc o0 0 rfl ty51 rfl rfl ?_);refine RunVC.eqP (by kernel_rfl) rfl rfl ?_;refine aCQ ?_;refine rR (toUnsafe (e:=54) (by kernel_rfl) (by kernel_rfl) (by kernel_rfl) rfl ((o0.cellB 0 rfl _).trans rfl) ?_);refine CallVC.ext (XSpec.noEscape Tryz.func129 (by kernel_rfl) (by kernel_rfl) (by kernel_rfl) (by kernel_rfl) _) ?_;rintro _ h1 ⟨rfl,rfl⟩;refine RunVC.fromUnsafe o0 0 rfl (by kernel_rfl) (u:=54) (by kernel_rfl) (by kernel_rfl) rfl rfl (by kernel_rfl) ?_;refine rR (nC rfl ?_);refine rR (fA vB rfl rfl rfl ?_);(refine aCL o0 0 rfl ty51 rfl (by simp) (aI ⟨rfl,rfl⟩ ?_);intro m62 o62);refine aCY rfl ?_;exact o62
abbrev cO (b:Nat)(p:Value):Prop:=p=.pointer none∨p=.pointer (some ⟨b,0,none⟩)
theorem pD (b:Nat)(p v:Value)(k:Int)(bs:aBs)(c:UInt8)(h:Heap)(h0:Base)(hp:cO b p)(o0:Own h0 [box b [p,v,.int .i64 k] 58,row v 5 1 bs.length (bytes bs)] h)(hn:bs.length+1≤140000000000000) :
  bZ Tryz.prog 36 [.pointer (some ⟨b,0,none⟩),.int .u8 c.toNat] h fun r h'=>r=.nilIface∧∃ v',Own h0 (wSt b (.pointer (some ⟨b,0,none⟩)) v' k (bs++[c])) h':=by
 refine aCV Tryz.func36 rfl Tryz.ntmps36 (by kernel_rfl) ?_;refine aCT (Post:=fun r h'=>Own h0 [box b [.pointer (some ⟨b,0,none⟩),v,.int .i64 k] 58,row v 5 1 bs.length (bytes bs)] h') ?_ ?_
 ·rcases hp with rfl|rfl
  ·exact qB b v k h _ h0 o0
  ·exact qA b v k h _ h0 o0
 intro r1 h1 o1;clear o0;refine rR (nC rfl ?_);refine rR (fA vB rfl rfl rfl ?_);refine rR (aCc o1 0 rfl lR rfl rfl ?_);(refine aCM o1 fT ty5 rfl rfl (by decide) (aI rfl ?_);intro b83 m83 o83);(refine aCO o83 1 rfl fT ty5 (by decide) (o83.boxArr 2 rfl (by simp) (by simp)).toN (by simp[Value.oneCell']) (by simp only[maxLen];first|omega|(simp;omega)) (by first|omega|(simp;omega)) ?_;intro v84 m84 o84);refine rR (nC rfl ?_);refine rR (fA vB rfl rfl rfl ?_)
 obtain⟨a,cc,rfl⟩:=o84.rowIs 1 rfl
 (refine aCL o84 0 rfl lR rfl (by simp) (aI ⟨rfl,rfl⟩ ?_);intro m90 o90);refine aCX rfl ?_
 refine⟨rfl,.slice a (bs.length+1) cc,?_⟩
 have hl:(bs++[c]).length=bs.length+1:=by simp
 show Own h0 [box b [.pointer (some ⟨b,0,none⟩),.slice a (bs.length+1) cc,.int .i64 k] 58,row (.slice a (bs.length+1) cc) 5 1 (bs++[c]).length (bytes (bs++[c]))] m90
 rw[show bytes (bs++[c])=bytes bs++[.int .u8 c.toNat] by simp,hl]
 exact o90.sel [0,1] rfl
theorem aBL (b:Nat)(p v:Value)(k:Int)(bs s:aBs)(h:Heap)(h0:Base)(hp:cO b p)(o0:Own h0 [box b [p,v,.int .i64 k] 58,row v 5 1 bs.length (bytes bs)] h)(hn:bs.length+s.length≤140000000000000) :
  bZ Tryz.prog 69 [.pointer (some ⟨b,0,none⟩),.string ⟨⟨s⟩⟩] h fun r h'=>r=.tuple #[.int .i64 s.length,.nilIface]∧∃ v',Own h0 (wSt b (.pointer (some ⟨b,0,none⟩)) v' k (bs++s)) h':=by
 refine aCV Tryz.func69 rfl Tryz.ntmps69 (by kernel_rfl) ?_;refine aCT (Post:=fun r h'=>Own h0 [box b [.pointer (some ⟨b,0,none⟩),v,.int .i64 k] 58,row v 5 1 bs.length (bytes bs)] h') ?_ ?_
 ·rcases hp with rfl|rfl
  ·exact qB b v k h _ h0 o0
  ·exact qA b v k h _ h0 o0
 intro r1 h1 o1;clear o0;refine rR (nC rfl ?_);refine rR (fA vB rfl rfl rfl ?_);refine rR (aCc o1 0 rfl lR rfl rfl ?_);(refine RunVC.appendS o1 1 rfl fT cT u8_5 rfl (by simp only[maxLen];first|omega|(simp;omega)) (by first|omega|(simp;omega)) ?_;intro v83 m83 o83);refine rR (nC rfl ?_);refine rR (fA vB rfl rfl rfl ?_)
 obtain⟨a,cc,rfl⟩:=o83.rowIs 1 rfl
 (refine aCL o83 0 rfl lR rfl (by simp) (aI ⟨rfl,rfl⟩ ?_);intro m90 o90);refine rR (aCy rfl cT ?_);refine RetVC.two rfl ?_
 refine⟨rfl,.slice a (bs.length+s.length) cc,?_⟩
 have hl:(bs++s).length=bs.length+s.length:=by simp
 show Own h0 [box b [.pointer (some ⟨b,0,none⟩),.slice a (bs.length+s.length) cc,.int .i64 k] 58,row (.slice a (bs.length+s.length) cc) 5 1 (bs++s).length (bytes (bs++s))] m90
 rw[show bytes (bs++s)=bytes bs++bytes s by simp,hl]
 exact o90.sel [0,1] rfl
theorem wLen_spec (b:Nat)(p v:Value)(k:Int)(bs:aBs)(h:Heap)(h0:Base)(o0:Own h0 [box b [p,v,.int .i64 k] 58,row v 5 1 bs.length (bytes bs)] h) :
  bZ Tryz.prog 20 [.pointer (some ⟨b,0,none⟩)] h fun r h'=>r=.int .i64 bs.length∧Own h [] h':=by
 refine aCV Tryz.func20 rfl Tryz.ntmps20 (by kernel_rfl) ?_;have oh:=Own.refl h
 obtain⟨a,cc,rfl⟩:=o0.rowIs 1 rfl
 refine rR (nC rfl ?_);refine rR (fA vB rfl rfl rfl ?_);refine rR (aCc o0 0 rfl lR rfl rfl ?_);refine rR (aCk rfl fT ?_);refine aCX rfl ?_
 exact⟨rfl,oh⟩
section
variable {P : Program} {ty : TypeId} {s : aVs} {h0 h : Heap} {L : List Item} {K : KK} {Q : QQ}
theorem RunVC.sliceData {t:TypeId}{x:Operand}{a:Addr}{n c:Nat}(hx:ev s x=.slice (some a) n c)(hc:c≠0)(hK:K (.pointer (some a)) false h):RunVC P (.call ⟨.builtin .unsafeSliceData,⟨[x]⟩,⟨[t]⟩⟩) ty s h K Q :=
 .pure' _ false (fun w=>by simp[execOp,resolve,invoke,builtin,hx,Lib.run_unsafeSliceData_row w _ _ a n c hc]) hK
theorem RunVC.sliceDataNil {t:TypeId}{x:Operand}{n c:Nat}(hx:ev s x=.slice none n c)(hK:K (.pointer none) false h):RunVC P (.call ⟨.builtin .unsafeSliceData,⟨[x]⟩,⟨[t]⟩⟩) ty s h K Q :=
 .pure' _ false (fun w=>by simp[execOp,resolve,invoke,builtin,hx,Lib.run_unsafeSliceData_nil]) hK
theorem RunVC.unsafeStrNil {pt it:TypeId}{x y:Operand}{p:Option Addr}(hx:ev s x=.pointer p)(hy:ev s y=.int .i64 0)(hK:K (.string .empty) false h):RunVC P (.call ⟨.builtin .unsafeString,⟨[x,y]⟩,⟨[pt,it]⟩⟩) ty s h K Q :=
 .pure' _ false (fun w=>by simp[execOp,resolve,invoke,builtin,hx,hy,Lib.run_unsafeString_none w pt it ty p]) hK
end
def wG:List PanicEntry:=[{ v:=.iface 27 (.int .i64 1),recovered:=false }]
def MEnds (B:Base)(ok:Bool)(v:Value):Ending→Heap→Prop:=Ends (fun r h'=>ok=true∧r=v∧Own B [] h') fun c h'=>ok=false∧c=wG∧Own B [] h'
theorem aE (b:Bool)(h:Heap):Spec Tryz.prog 30 [.bool b] h (MEnds h b (.tuple #[])):=by
 refine aCV Tryz.func30 rfl Tryz.ntmps30 (by kernel_rfl) ?_;have o0:=Own.refl h;cases b with
 | true =>
  refine aCR ?_;refine aCY rfl ?_;refine aI rfl ?_
  exact⟨rfl,o0⟩
 | false =>
  refine aCQ ?_;refine rR (aCK (by kernel_rfl) rfl ?_);refine RunVC.panicI rfl ?_
  exact⟨rfl,rfl,o0⟩
theorem StillVC.aC2 {g:FuncId}{args s:aVs}{ok:Bool}{v:Value}{m:Heap}{K:KK}{Q:QQ}(sp:Spec Tryz.prog g args m (MEnds m ok v))(hret:ok=true→∀ h',Own m [] h'→K v false h')(hpan:ok=false→∀ h',Own m [] h'→Q (.panic wG) s h'):CallVC Tryz.prog g args s m K Q :=
 aCU sp (fun _ _ ⟨h1,h2,h3⟩=>by subst h2;exact hret h1 _ h3) (fun _ _ ⟨h1,h2,h3⟩=>by subst h2;exact hpan h1 _ h3)
def eX (j:Nat)(c:UInt8):Bool:=cP c||(decide (0<j)&&cJ c)
def fV (j:Nat)(c:UInt8):Prop:=(97≤c.toNat∧c.toNat≤122)∨(65≤c.toNat∧c.toNat≤90)∨(0<j∧((48≤c.toNat∧c.toNat≤57)∨c.toNat=95))
theorem eH (j:Nat)(c:UInt8):fV j c↔eX j c=true:=by
 unfold fV eX cJ cP bU
 simp only[aDR,aC8,decide_eq_true_eq]
 omega
theorem iK (s:aBs):eW s=true↔s≠[]∧s.length≤24∧∀(j:Nat)(c:UInt8),s[j]?=some c→eX j c=true:=by
 cases s with
 | nil=>simp[eW]
 | cons d r =>
  simp only[eW,aC8,decide_eq_true_eq,aDh]
  constructor
  ·rintro⟨⟨h1,h2⟩,h3⟩
   refine⟨by simp,h1,fun j c hc=>?_⟩
   cases j with
   | zero=>simp at hc;subst hc;simp[eX,h2]
   | succ j =>
    have:=h3 c (aC7 (by simpa using hc))
    simp[eX,this]
  ·rintro⟨_,h1,h2⟩
   refine⟨⟨h1,?_⟩,fun c hc=>?_⟩
   ·have:=h2 0 d rfl
    simpa[eX] using this
   ·obtain⟨j,hj⟩:=aDz.1 hc
    have:=h2 (j+1) c (by simpa using hj)
    simp only[eX,aDR,aC8]at this
    rcases this with h|⟨_,h⟩
    ·simp[cJ,h]
    ·exact h
theorem pM {s:aBs}{j:Nat}{c:UInt8}(h:s[j]?=some c)(hc:eX j c=false):eW s=false:=by
 cases hn:eW s with
 | false=>rfl
 | true=>rw[((iK s).1 hn).2.2 j c h]at hc;cases hc
theorem bJ (s:aBs)(h:Heap)(hl:s.length≤1000000000000000):Spec Tryz.prog 33 [.string ⟨⟨s⟩⟩] h (MEnds h (eW s) (.string ⟨⟨s⟩⟩)):=by
 refine aCV Tryz.func33 rfl Tryz.ntmps33 (by kernel_rfl) ?_;have o0:=Own.refl h;by_cases h1:s=[]
 ·subst h1
  refine aCR ?_;refine aC2 (aE _ _) (fun e=>by cases e) fun _ h2 o2=>?_
  exact⟨rfl,rfl,o2⟩
 refine aCi (fun c20=>?_) (fun hc=>absurd hc (by first|omega|assumption|decide|exact rfl));refine rR (aCy rfl cT ?_);refine aC2 (aE _ _) (fun e1 h2 o2=>?_) fun e1 h2 o2=>?_
 ·have h24:s.length≤24:=by have:=of_decide_eq_true e1;omega
  refine rR (aCy rfl cT ?_);refine aCZ [3,4,5,16,17,18,19,20,21,22,23,24,25,26,27,28,29,30,31,32,33,34,35,36,37,38,39,40,41,42,43,44,45,46,47,48,49,50,51,52,53,54] [16] (fun vs hh=>∃(i:Nat),i≤s.length∧vs=[.int .i64 i]∧(∀(j:Nat) (c:UInt8),j<i→s[j]?=some c→eX j c=true)∧Own h [] hh) (fun vs _=>match vs with|[.int _ i]=>s.length - i.toNat|_=>0) ?_ ?_
  ·exact⟨0,by omega,rfl,fun j c hj=>by omega,o2⟩
  ·rintro vs junk hh ⟨i,hi,rfl,hE,oh⟩
   by_cases hlt:i<s.length
   ·obtain⟨c,hc⟩:=getx hlt
    have next:eX i c=true→∀(j:Nat) (d:UInt8),j<i+1→s[j]?=some d→eX j d=true:=fun hat j d hj hd=>by
     by_cases hji:j=i
     ·subst hji
      rw[hc]at hd
      cases hd
      exact hat
     ·exact hE j d (by omega) hd
    refine aCP (fun c40=>?_) (fun hc=>absurd (by omega) hc);refine rR (aCu rfl rfl cT (by omega) ‹_› ?_);refine aCP (fun c42=>?_) (fun c42=>?_);refine aCP (fun c43=>?_) (fun c43=>?_);refine aCQ ?_
    rotate_left
    refine aCP (fun c44=>?_) (fun hc=>absurd (by omega) hc);refine aCP (fun hc=>absurd hc (by omega)) (fun c45=>?_);refine aCP (fun c46=>?_) (fun c46=>?_);refine aCP (fun c47=>?_) (fun hc=>absurd (by omega) hc);refine aCP (fun hc=>absurd hc (by omega)) (fun c48=>?_)
    rotate_left
    rotate_left
    refine aCP (fun c49=>?_) (fun c49=>?_);refine aCP (fun c50=>?_) (fun c50=>?_)
    rotate_left
    refine aCP (fun c51=>?_) (fun c51=>?_);refine aCP (fun c52=>?_) (fun hc=>absurd (by omega) hc);refine aCP (fun hc=>absurd hc (by omega)) (fun c53=>?_)
    rotate_left
    rotate_left
    refine aCR ?_;refine aCP (fun c54=>?_) (fun c54=>?_);refine aCP (fun c55=>?_) (fun c55=>?_);refine aCP (fun c56=>?_) (fun c56=>?_)
    ·refine aC2 (aE _ _) (fun e1 h3 o3=>?_) fun e1 h3 o3=>?_
     ·have hat:eX i c=true:=(eH i c).1 (by unfold fV;omega)
      refine aCW (by omega) (by omega) ?_
      refine⟨rfl,?_⟩
      exact⟨⟨i+1,by omega,rfl,next hat,oh.ext' o3⟩,by simp;omega⟩
     ·exact by cases e1
    ·refine aC2 (aE _ _) (fun e1 h3 o3=>?_) fun e1 h3 o3=>?_
     ·have hat:eX i c=true:=(eH i c).1 (by have:=of_decide_eq_true e1;unfold fV;omega)
      refine aCW (by omega) (by omega) ?_
      refine⟨rfl,?_⟩
      exact⟨⟨i+1,by omega,rfl,next hat,oh.ext' o3⟩,by simp;omega⟩
     ·have hat:eX i c=false:=by
       rw[aDq]
       intro hh;have hh:=(eH i c).2 hh;unfold fV at hh
       have:=of_decide_eq_false e1
       omega
      exact⟨pM hc hat,rfl,oh.ext' o3⟩
    ·refine aC2 (aE _ _) (fun e1 h3 o3=>?_) fun e1 h3 o3=>?_
     ·have hat:eX i c=true:=(eH i c).1 (by have:=of_decide_eq_true e1;unfold fV;omega)
      refine aCW (by omega) (by omega) ?_
      refine⟨rfl,?_⟩
      exact⟨⟨i+1,by omega,rfl,next hat,oh.ext' o3⟩,by simp;omega⟩
     ·have hat:eX i c=false:=by
       rw[aDq]
       intro hh;have hh:=(eH i c).2 hh;unfold fV at hh
       have:=of_decide_eq_false e1
       omega
      exact⟨pM hc hat,rfl,oh.ext' o3⟩
    ·refine aC2 (aE _ _) (fun e1 h3 o3=>?_) fun e1 h3 o3=>?_
     ·exact by cases e1
     ·have hat:eX i c=false:=by
       rw[aDq]
       intro hh;have hh:=(eH i c).2 hh;unfold fV at hh
       omega
      exact⟨pM hc hat,rfl,oh.ext' o3⟩
    ·refine aC2 (aE _ _) (fun e1 h3 o3=>?_) fun e1 h3 o3=>?_
     ·have hat:eX i c=true:=(eH i c).1 (by unfold fV;omega)
      refine aCW (by omega) (by omega) ?_
      refine⟨rfl,?_⟩
      exact⟨⟨i+1,by omega,rfl,next hat,oh.ext' o3⟩,by simp;omega⟩
     ·exact by cases e1
    ·refine aC2 (aE _ _) (fun e1 h3 o3=>?_) fun e1 h3 o3=>?_
     ·have hat:eX i c=true:=(eH i c).1 (by have:=of_decide_eq_true e1;unfold fV;omega)
      refine aCW (by omega) (by omega) ?_
      refine⟨rfl,?_⟩
      exact⟨⟨i+1,by omega,rfl,next hat,oh.ext' o3⟩,by simp;omega⟩
     ·have hat:eX i c=false:=by
       rw[aDq]
       intro hh;have hh:=(eH i c).2 hh;unfold fV at hh
       have:=of_decide_eq_false e1
       omega
      exact⟨pM hc hat,rfl,oh.ext' o3⟩
    ·refine aC2 (aE _ _) (fun e1 h3 o3=>?_) fun e1 h3 o3=>?_
     ·exact by cases e1
     ·have hat:eX i c=false:=by
       rw[aDq]
       intro hh;have hh:=(eH i c).2 hh;unfold fV at hh
       omega
      exact⟨pM hc hat,rfl,oh.ext' o3⟩
    ·refine aC2 (aE _ _) (fun e1 h3 o3=>?_) fun e1 h3 o3=>?_
     ·have hat:eX i c=true:=(eH i c).1 (by unfold fV;omega)
      refine aCW (by omega) (by omega) ?_
      refine⟨rfl,?_⟩
      exact⟨⟨i+1,by omega,rfl,next hat,oh.ext' o3⟩,by simp;omega⟩
     ·exact by cases e1
    ·refine aC2 (aE _ _) (fun e1 h3 o3=>?_) fun e1 h3 o3=>?_
     ·have hat:eX i c=true:=(eH i c).1 (by have:=of_decide_eq_true e1;unfold fV;omega)
      refine aCW (by omega) (by omega) ?_
      refine⟨rfl,?_⟩
      exact⟨⟨i+1,by omega,rfl,next hat,oh.ext' o3⟩,by simp;omega⟩
     ·have hat:eX i c=false:=by
       rw[aDq]
       intro hh;have hh:=(eH i c).2 hh;unfold fV at hh
       have:=of_decide_eq_false e1
       omega
      exact⟨pM hc hat,rfl,oh.ext' o3⟩
    ·refine aC2 (aE _ _) (fun e1 h3 o3=>?_) fun e1 h3 o3=>?_
     ·exact by cases e1
     ·have hat:eX i c=false:=by
       rw[aDq]
       intro hh;have hh:=(eH i c).2 hh;unfold fV at hh
       omega
      exact⟨pM hc hat,rfl,oh.ext' o3⟩
   ·refine aCP (fun hc=>absurd hc (by omega)) (fun c60=>?_)
    refine aCX rfl ?_
    exact⟨(iK s).2 ⟨h1,h24,fun j c hc=>hE j c (by have:=(aC6.1 hc).1;omega) hc⟩,rfl,oh⟩
 ·have h24:eW s=false:=by
   cases hn:eW s with
   | false=>rfl
   | true =>
    have:=((iK s).1 hn).2.1
    have:=of_decide_eq_false e1
    omega
  exact⟨h24,rfl,o2⟩
end Go.Proofs.YtohlogbnpfofpaaGreatDoor
