/- Part 7 of the proof of canonical: FnEx6, FnEx7, FnEx, FnQy, FnIt, FnPr, FnPs, VcSame, FnSm. -/
import Derived.Test.YtohlogbnpfofpaaGreatDoorPC06
set_option linter.all false
set_option maxHeartbeats 100000000
set_option maxRecDepth 100000
namespace Go.Proofs.YtohlogbnpfofpaaGreatDoor
open Go StillVC
theorem expr_rename (n:Nat)(hn:n≤11)(ih:nE n):∀(level:Int)(_:level=13 - ((n+1:Nat):Int))(B:Base)(bp z:Nat)(tk:Item)(w:Value)(ts:List Tok)(h:Heap)(_:Own B (PSt bp z w tk) h)(_:cR tk w ts)(_:ts.length≤5000)(_:∀ j,j<5→bD [cJ.getD j [],[40]] ts=false)(_:bD [[114,101,110,97,109,101],[40]] ts=true),
  Spec Tryz.prog 118 [.pointer (some ⟨bp,0,none⟩),.int .i64 level] h (dB B bp z tk ts.length (bV z (n+1) ts) exV):=by
 intro level hlv B bp z tk w ts h o hR hl hno hb
 obtain⟨hRd,hK⟩:=hR
 have hR:cR tk w ts:=⟨hRd,hK⟩;refine aDX Tryz.func118 rfl Tryz.ntmps118 (by kernel_rfl) ?_;(refine aDP o aU ?_;intro b10 m10 o10);refine aDR (fun hc=>absurd hc (by omega)) (fun c11=>?_);refine rR (aDl aM ?_);refine aI rfl ?_;(refine aDP o10 aU ?_;intro b13 m13 o13);(refine aDh o13 3 rfl aU rfl (by decide) (aI ⟨rfl,rfl⟩ ?_);intro m14 o14);refine rR (nC rfl ?_);refine rR (fA fW rfl rfl rfl ?_);refine rR (aDe o14 0 rfl eX rfl rfl ?_);refine rR (aDE (o14.reads 1 hRd rfl) fX ?_);refine Br.join [19,20,21,22,23,24,25,26] [] (fun _ hh=>Own B [box bp [w,.int .i64 z] 72,tk,box b10 [.int .i64 0,.string ⟨⟨[]⟩⟩,aK,aK,aK,.string ⟨⟨[]⟩⟩,.string ⟨⟨[]⟩⟩,.int .i64 0,.int .i64 0] 42,box b13 [.int .i64 1,.string ⟨⟨[]⟩⟩,aK,aK,aK,.string ⟨⟨[]⟩⟩,.string ⟨⟨[]⟩⟩,.int .i64 0,.int .i64 (bH ts)] 42] hh) rfl rfl ?_ ?_
 ·cases ts with
  | nil =>
   refine aDT ?_
   refine⟨rfl,?_⟩
   exact o14
  | cons t r =>
   have hx:(t::r)[0]?=some t:=rfl;have hln:(t::r).length=r.length+1:=rfl;refine aDR (fun c30=>?_) (fun hc=>absurd (by omega) hc);refine rR (nC rfl ?_);refine rR (fA fW rfl rfl rfl ?_);refine rR (aDe o14 0 rfl eX rfl rfl ?_);refine rR (aDo fX bF (o14.reads 1 hRd rfl) rfl (by omega) (by omega) ?_);refine rR (aDv (o14.reads 1 hRd rfl) (by omega) eZ rfl rfl rfl ?_);refine rR (aDC (o14.reads 1 hRd rfl) aY (fun _=>rfl) rfl ‹_› rfl ?_);refine rR (fA aM rfl rfl rfl ?_);(refine aDh o14 3 rfl aY rfl (by decide) (aI ⟨rfl,rfl⟩ ?_);intro m38 o38)
   refine⟨rfl,?_⟩
   exact Own.sel ‹_› [0,1,2,3] rfl
 ·intro vs junk hh oh
  refine aDV (eV bp _) ?_;rintro _ h2 ⟨bo,pb,rfl,oc⟩;have o2:=oh.call oc
  simp only[lcA,lnA]at o2
  clear oc;refine rR (aDn rfl eD ?_);refine aD1 [6,7,30,31,32,33,34,35,36,37,38,39,40,41,42,43,44,45,46,47,48,49,50,51,52,53,54,55,56,57,58,59,60,61,62,63,64,65,66,67,68,69,70,71,72,73,74,75,76,77,78,79,80,81,82,83] [30] (fun vs hh=>∃(i:Nat),i≤5∧vs=[.int .i64 i]∧Own B [box bp [w,.int .i64 z] 72,tk,box b10 [.int .i64 0,.string ⟨⟨[]⟩⟩,aK,aK,aK,.string ⟨⟨[]⟩⟩,.string ⟨⟨[]⟩⟩,.int .i64 0,.int .i64 0] 42,box b13 [.int .i64 1,.string ⟨⟨[]⟩⟩,aK,aK,aK,.string ⟨⟨[]⟩⟩,.string ⟨⟨[]⟩⟩,.int .i64 0,.int .i64 (bH ts)] 42,box pb [.pointer (some ⟨bp,0,none⟩)] 70,box bo (sH pb) 188] hh) (fun vs _=>match vs with|[.int _ i]=>7 - i.toNat|_=>0) ?_ ?_
  ·exact⟨0,by omega,rfl,o2⟩
  ·rintro vs' junk' h3 ⟨i,hi,rfl,o3⟩
   clear o14 oh o2;have hoL:(sH pb).length=7*3:=rfl
   rcases(by omega:i=0∨i=1∨i=2∨i=3∨i=4∨i=5) with rfl|rfl|rfl|rfl|rfl|rfl
   ·refine aDS ?_
    refine rR (aDo eD aW (o3.boxArrN 5 rfl ‹_› (by omega)) rfl (by omega) (by omega) ?_);refine rR (aDi o3 5 rfl aW rfl rfl rfl ?_);(refine aDP o3 aW ?_;intro b1002 m1002 o1002);(refine aDh o1002 6 rfl aW rfl (by decide) (aI ⟨rfl,rfl⟩ ?_);intro m1003 o1003);refine rR (fA cM rfl rfl rfl ?_);refine rR (aDe o1003 6 rfl aO rfl rfl ?_);(refine aDO o1003 aJ aO rfl rfl (by decide) (aI rfl ?_);intro b1006 m1006 o1006);refine aDV (bQ [[115,101,108,101,99,116],[40]] _ bp w ts _ (Own.cellB ‹_› 0 rfl 0) (Own.reads ‹_› 1 hR.1 rfl) (Own.boxArr ‹_› 7 rfl rfl (by decide)) hl) ?_;rintro _ h4 ⟨rv,oc⟩;have o4:=oc.thenE ‹_›;clear oc;have hb:bD [[115,101,108,101,99,116],[40]] ts=false:=hno 0 (by decide)
    rw[hb]at rv
    subst rv;refine aDS ?_;refine aDY (by omega) (by omega) ?_
    refine⟨rfl,?_⟩
    exact⟨⟨1,by omega,rfl,Own.sel ‹_› [0,1,2,3,4,5] rfl⟩,by simp⟩
   ·refine aDS ?_
    refine rR (aDo eD aW (o3.boxArrN 5 rfl ‹_› (by omega)) rfl (by omega) (by omega) ?_);refine rR (aDi o3 5 rfl aW rfl rfl rfl ?_);(refine aDP o3 aW ?_;intro b2002 m2002 o2002);(refine aDh o2002 6 rfl aW rfl (by decide) (aI ⟨rfl,rfl⟩ ?_);intro m2003 o2003);refine rR (fA cM rfl rfl rfl ?_);refine rR (aDe o2003 6 rfl aO rfl rfl ?_);(refine aDO o2003 aJ aO rfl rfl (by decide) (aI rfl ?_);intro b2006 m2006 o2006);refine aDV (bQ [[112,114,111,106,101,99,116],[40]] _ bp w ts _ (Own.cellB ‹_› 0 rfl 0) (Own.reads ‹_› 1 hR.1 rfl) (Own.boxArr ‹_› 7 rfl rfl (by decide)) hl) ?_;rintro _ h4 ⟨rv,oc⟩;have o4:=oc.thenE ‹_›;clear oc;have hb:bD [[112,114,111,106,101,99,116],[40]] ts=false:=hno 1 (by decide)
    rw[hb]at rv
    subst rv;refine aDS ?_;refine aDY (by omega) (by omega) ?_
    refine⟨rfl,?_⟩
    exact⟨⟨2,by omega,rfl,Own.sel ‹_› [0,1,2,3,4,5] rfl⟩,by simp⟩
   ·refine aDS ?_
    refine rR (aDo eD aW (o3.boxArrN 5 rfl ‹_› (by omega)) rfl (by omega) (by omega) ?_);refine rR (aDi o3 5 rfl aW rfl rfl rfl ?_);(refine aDP o3 aW ?_;intro b3002 m3002 o3002);(refine aDh o3002 6 rfl aW rfl (by decide) (aI ⟨rfl,rfl⟩ ?_);intro m3003 o3003);refine rR (fA cM rfl rfl rfl ?_);refine rR (aDe o3003 6 rfl aO rfl rfl ?_);(refine aDO o3003 aJ aO rfl rfl (by decide) (aI rfl ?_);intro b3006 m3006 o3006);refine aDV (bQ [[106,111,105,110],[40]] _ bp w ts _ (Own.cellB ‹_› 0 rfl 0) (Own.reads ‹_› 1 hR.1 rfl) (Own.boxArr ‹_› 7 rfl rfl (by decide)) hl) ?_;rintro _ h4 ⟨rv,oc⟩;have o4:=oc.thenE ‹_›;clear oc;have hb:bD [[106,111,105,110],[40]] ts=false:=hno 2 (by decide)
    rw[hb]at rv
    subst rv;refine aDS ?_;refine aDY (by omega) (by omega) ?_
    refine⟨rfl,?_⟩
    exact⟨⟨3,by omega,rfl,Own.sel ‹_› [0,1,2,3,4,5] rfl⟩,by simp⟩
   ·refine aDS ?_
    refine rR (aDo eD aW (o3.boxArrN 5 rfl ‹_› (by omega)) rfl (by omega) (by omega) ?_);refine rR (aDi o3 5 rfl aW rfl rfl rfl ?_);(refine aDP o3 aW ?_;intro b4002 m4002 o4002);(refine aDh o4002 6 rfl aW rfl (by decide) (aI ⟨rfl,rfl⟩ ?_);intro m4003 o4003);refine rR (fA cM rfl rfl rfl ?_);refine rR (aDe o4003 6 rfl aO rfl rfl ?_);(refine aDO o4003 aJ aO rfl rfl (by decide) (aI rfl ?_);intro b4006 m4006 o4006);refine aDV (bQ [[117,110,105,111,110],[40]] _ bp w ts _ (Own.cellB ‹_› 0 rfl 0) (Own.reads ‹_› 1 hR.1 rfl) (Own.boxArr ‹_› 7 rfl rfl (by decide)) hl) ?_;rintro _ h4 ⟨rv,oc⟩;have o4:=oc.thenE ‹_›;clear oc;have hb:bD [[117,110,105,111,110],[40]] ts=false:=hno 3 (by decide)
    rw[hb]at rv
    subst rv;refine aDS ?_;refine aDY (by omega) (by omega) ?_
    refine⟨rfl,?_⟩
    exact⟨⟨4,by omega,rfl,Own.sel ‹_› [0,1,2,3,4,5] rfl⟩,by simp⟩
   ·refine aDS ?_
    refine rR (aDo eD aW (o3.boxArrN 5 rfl ‹_› (by omega)) rfl (by omega) (by omega) ?_);refine rR (aDi o3 5 rfl aW rfl rfl rfl ?_);(refine aDP o3 aW ?_;intro b5002 m5002 o5002);(refine aDh o5002 6 rfl aW rfl (by decide) (aI ⟨rfl,rfl⟩ ?_);intro m5003 o5003);refine rR (fA cM rfl rfl rfl ?_);refine rR (aDe o5003 6 rfl aO rfl rfl ?_);(refine aDO o5003 aJ aO rfl rfl (by decide) (aI rfl ?_);intro b5006 m5006 o5006);refine aDV (bQ [[109,105,110,117,115],[40]] _ bp w ts _ (Own.cellB ‹_› 0 rfl 0) (Own.reads ‹_› 1 hR.1 rfl) (Own.boxArr ‹_› 7 rfl rfl (by decide)) hl) ?_;rintro _ h4 ⟨rv,oc⟩;have o4:=oc.thenE ‹_›;clear oc;have hb:bD [[109,105,110,117,115],[40]] ts=false:=hno 4 (by decide)
    rw[hb]at rv
    subst rv;refine aDS ?_;refine aDY (by omega) (by omega) ?_
    refine⟨rfl,?_⟩
    exact⟨⟨5,by omega,rfl,Own.sel ‹_› [0,1,2,3,4,5] rfl⟩,by simp⟩
   ·refine aDS ?_
    refine rR (aDo eD aW (o3.boxArrN 5 rfl ‹_› (by omega)) rfl (by omega) (by omega) ?_);refine rR (aDi o3 5 rfl aW rfl rfl rfl ?_);(refine aDP o3 aW ?_;intro b6002 m6002 o6002);(refine aDh o6002 6 rfl aW rfl (by decide) (aI ⟨rfl,rfl⟩ ?_);intro m6003 o6003);refine rR (fA cM rfl rfl rfl ?_);refine rR (aDe o6003 6 rfl aO rfl rfl ?_);(refine aDO o6003 aJ aO rfl rfl (by decide) (aI rfl ?_);intro b6006 m6006 o6006);refine aDV (bQ [[114,101,110,97,109,101],[40]] _ bp w ts _ (Own.cellB ‹_› 0 rfl 0) (Own.reads ‹_› 1 hR.1 rfl) (Own.boxArr ‹_› 7 rfl rfl (by decide)) hl) ?_;rintro _ h4 ⟨rv,oc⟩;have o4:=oc.thenE ‹_›;clear oc
    rw[hb]at rv
    subst rv;have hE:bV z (n+1) ts=(aX z [[114,101,110,97,109,101],[40]] >>= fun _=>bV z n >>= fun a=>ifP (qD 5) (aX z [[44]] >>= fun _=>bV z n >>= fun b=>pure [a,b]) [a] >>= fun kids=>eC z 5 (bH ts) kids >>= fun x=>aX z [[41]] >>= fun _=>(pure x:PM Ex)) ts:=kI (kG (by decide) hno hb);have o5:=o4.sel [0,1,2,3,4,6] rfl
    simp only[PSt,pick,lcA,lnA,lgS,lgZ,lgN]at o5
    clear o3 o4;refine aDT ?_;refine aDY (by omega) (by omega) ?_;refine rR (fA aM rfl rfl rfl ?_);(refine aDN o5 3 rfl aY rfl (by simp) (aI ⟨rfl,rfl⟩ ?_);intro m6041 o6041);refine rR (fA cM rfl rfl rfl ?_);refine rR (aDe o6041 5 rfl aO rfl rfl ?_);(refine aDO o6041 aJ aO rfl rfl (by decide) (aI rfl ?_);intro b6044 m6044 o6044);refine aV (ss:=[[114,101,110,97,109,101],[40]]) ‹_› rfl ⟨6,by decide,rfl⟩ hR (by omega) (by decide) (fun _ q1 w1 v h5 hm hv hle1 hR1 oq=>?_) (fun e w' h' hm o2=>⟨e,w',hE.trans (aDg hm),rfl,o2⟩);subst hv
    rw[aDf hm]at hE
    have o6:=oq.sel [0,1,2,3,4,5] rfl
    simp only[PSt,pick,lcA,lnA,lgS,lgZ,lgN]at o6
    clear oq hm;refine DrawVC.join [49,50,51,52,53,54,55,56,57,58,59] [] (fun _ hh=>∃(a1:Ex) (q2:List Tok) (w2:Value) (c1:dM) (I1:Item) (ua:Option Addr) (uc:Nat),bV z n q1=.ok (a1,q2)∧q2.length≤q1.length∧cR tk w2 q2∧mE I1 c1.1 a1∧Own B [box bp [w2,.int .i64 z] 72,tk,I1,box b10 [.int .i64 0,.string ⟨⟨[]⟩⟩,aK,aK,aK,.string ⟨⟨[]⟩⟩,.string ⟨⟨[]⟩⟩,.int .i64 0,.int .i64 0] 42,box b13 [.int .i64 7,.string ⟨⟨[]⟩⟩,.slice ua 1 uc,aK,aK,.string ⟨⟨[]⟩⟩,.string ⟨⟨[]⟩⟩,.int .i64 0,.int .i64 (bH ts)] 42,box pb [.pointer (some ⟨bp,0,none⟩)] 70,box b6002 [.string ⟨⟨[114,101,110,97,109,101]⟩⟩,.bool false,.func (.func 163) ⟨[]⟩ ⟨[.pointer (some ⟨pb,0,none⟩)]⟩] 188,row (.slice ua 1 uc) 42 9 1 c1.1] hh) ?_ ?_
    ·refine aDB b13 [0,2,3,4,6,9,11] [1] [8,10,12] (.one 0 (.one 1 (.one 2 (.one 3 (.one 4 (.one 6 (.fork 5 7 (.one 7 (.one 8 (.one 9 (.one 11 (.fork 10 12 (.one 12 .done) (.one 10 .done)))))) (.one 5 (.one 8 (.one 9 (.one 11 (.fork 10 12 (.one 12 .done) (.one 10 .done))))))))))))) mixed (by kernel_rfl) rfl (fun _ _ _ _ h=>h) ?_
     refine fA aM rfl rfl rfl ?_;refine StillVCA.load1 dC rfl rfl ((o6.cellB 3 rfl _).trans rfl) ?_;refine aDY (by omega) (by omega) ?_;refine aDn rfl cE ?_
     refine⟨?_,?_⟩
     ·skip
      refine dB.callL (fun B' o'=>ih (level+1) (by omega) B' bp z tk _ _ _ o' hR1 (by omega)) ‹_› rfl (fun a1 q2 w2 v I1 h6 hm hv hle2 hR2 oq=>?_) (fun e w' h' hm o2=>⟨e,w',hE.trans (aDg hm),rfl,o2⟩)
      obtain⟨c1,rfl,hx1⟩:=hv
      have o7:=oq
      simp only[PSt,pick,lcA,lnA,lgS,lgZ,lgN]at o7
      clear oq
      refine⟨Eq.trans (Own.satK o7 4 rfl) (Eq.symm (Own.satK (x:=box b13 _ _) ‹_› 3 rfl)),?_⟩
      have one1:=fF (Own.satK o7 2 rfl) hx1;(refine aDD o7 cE aU rfl rfl (by decide) ?_);refine aI rfl ?_;intro b6101 m6101 o6101;refine aI ((o6101.boxBlk 4 rfl).trans (o7.boxBlk 4 rfl).symm) ?_;have on:=Own.nilRow ‹_› 42 9
      simp only[lcA,lnA]at on
      refine aDQ on 8 rfl cE aU (by decide) (Own.boxArrN on 7 rfl (n:=1) rfl (by omega)) (by simp[Value.oneCell']) (by simp only[maxLen];omega) (by omega) ?_;intro vA mA oA
      obtain⟨ua,uc,rfl⟩:=oA.rowIs 8 rfl
      refine aDo cE aU (oA.rowArrN 8 rfl) rfl (by omega) (by omega) ?_;refine fA aM rfl rfl rfl ?_
      refine⟨?_,?_⟩
      ·skip
       refine aDq (i:=0) ‹_› 8 rfl aU rfl rfl rfl c1.2 (by decide) (by decide) one1 ?_;intro mB oB
       simp only[lsS,lsZ]at oB
       (refine aDN oB 4 rfl dC rfl (by simp) (aI ⟨rfl,rfl⟩ ?_);intro m6140 o6140)
       refine⟨rfl,?_⟩
       have ef:=cH (cs:=[.int .i64 0,.string ⟨⟨[]⟩⟩,aK,aK,aK,.string ⟨⟨[]⟩⟩,.string ⟨⟨[]⟩⟩,.int .i64 0,.int .i64 0]) (c:=c1) rfl
       exact⟨a1,q2,w2,c1,I1,ua,uc,hm,hle2,hR2,hx1,ef▸Own.sel ‹_› [0,1,2,3,4,5,6,8] rfl⟩
      ·skip
       (refine aDN oA 4 rfl dC rfl (by simp) (aI ⟨rfl,rfl⟩ ?_);intro m6150 o6150);refine aDq (i:=0) ‹_› 8 rfl aU rfl rfl rfl c1.2 (by decide) (by decide) one1 ?_;intro mB oB
       simp only[lsS,lsZ]at oB
       refine⟨rfl,?_⟩
       have ef:=cH (cs:=[.int .i64 0,.string ⟨⟨[]⟩⟩,aK,aK,aK,.string ⟨⟨[]⟩⟩,.string ⟨⟨[]⟩⟩,.int .i64 0,.int .i64 0]) (c:=c1) rfl
       exact⟨a1,q2,w2,c1,I1,ua,uc,hm,hle2,hR2,hx1,ef▸Own.sel ‹_› [0,1,2,3,4,5,6,8] rfl⟩
     ·skip
      (refine aDD o6 cE aU rfl rfl (by decide) ?_);refine aI rfl ?_;intro b6281 m6281 o6281;refine aI ((o6281.boxBlk 3 rfl).trans (o6.boxBlk 3 rfl).symm) ?_;refine dB.callL (fun B' o'=>ih (level+1) (by omega) B' bp z tk _ _ _ o' hR1 (by omega)) ‹_› rfl (fun a1 q2 w2 v I1 h6 hm hv hle2 hR2 oq=>?_) (fun e w' h' hm o2=>⟨e,w',hE.trans (aDg hm),rfl,o2⟩)
      obtain⟨c1,rfl,hx1⟩:=hv
      have o7:=oq
      simp only[PSt,pick,lcA,lnA,lgS,lgZ,lgN]at o7
      clear oq
      refine⟨Eq.trans (Own.satK o7 4 rfl) (Eq.symm (Own.satK (x:=box b13 _ _) ‹_› 3 rfl)),?_⟩
      have one1:=fF (Own.satK o7 2 rfl) hx1;have on:=Own.nilRow ‹_› 42 9
      simp only[lcA,lnA]at on
      refine aDQ on 8 rfl cE aU (by decide) (Own.boxArrN on 7 rfl (n:=1) rfl (by omega)) (by simp[Value.oneCell']) (by simp only[maxLen];omega) (by omega) ?_;intro vA mA oA
      obtain⟨ua,uc,rfl⟩:=oA.rowIs 8 rfl
      refine aDo cE aU (oA.rowArrN 8 rfl) rfl (by omega) (by omega) ?_;refine fA aM rfl rfl rfl ?_
      refine⟨?_,?_⟩
      ·skip
       refine aDq (i:=0) ‹_› 8 rfl aU rfl rfl rfl c1.2 (by decide) (by decide) one1 ?_;intro mB oB
       simp only[lsS,lsZ]at oB
       (refine aDN oB 4 rfl dC rfl (by simp) (aI ⟨rfl,rfl⟩ ?_);intro m6340 o6340)
       refine⟨rfl,?_⟩
       have ef:=cH (cs:=[.int .i64 0,.string ⟨⟨[]⟩⟩,aK,aK,aK,.string ⟨⟨[]⟩⟩,.string ⟨⟨[]⟩⟩,.int .i64 0,.int .i64 0]) (c:=c1) rfl
       exact⟨a1,q2,w2,c1,I1,ua,uc,hm,hle2,hR2,hx1,ef▸Own.sel ‹_› [0,1,2,3,4,5,6,8] rfl⟩
      ·skip
       (refine aDN oA 4 rfl dC rfl (by simp) (aI ⟨rfl,rfl⟩ ?_);intro m6350 o6350);refine aDq (i:=0) ‹_› 8 rfl aU rfl rfl rfl c1.2 (by decide) (by decide) one1 ?_;intro mB oB
       simp only[lsS,lsZ]at oB
       refine⟨rfl,?_⟩
       have ef:=cH (cs:=[.int .i64 0,.string ⟨⟨[]⟩⟩,aK,aK,aK,.string ⟨⟨[]⟩⟩,.string ⟨⟨[]⟩⟩,.int .i64 0,.int .i64 0]) (c:=c1) rfl
       exact⟨a1,q2,w2,c1,I1,ua,uc,hm,hle2,hR2,hx1,ef▸Own.sel ‹_› [0,1,2,3,4,5,6,8] rfl⟩
    ·rintro _ junk2 h7 ⟨a1,q2,w2,c1,I1,ua,uc,hm,hle2,hR2,hx1,o8⟩
     rw[aDf hm]at hE
     rw[nB (by rfl),aDu]at hE
     refine rR (fA cM rfl rfl rfl ?_);refine rR (aDe o8 6 rfl ty4 rfl rfl ?_);refine aDT ?_;refine aD2 ?_;refine rR (fA cM rfl rfl rfl ?_);refine rR (aDe o8 6 rfl aAj rfl rfl ?_);refine mM.callL (fun B' o'=>rest5_spec (bH ts) (.slice ua 1 uc) [a1] B' bp z tk b13 pb w2 q2 h7 o' hR2 (by omega)) o8 [0,1,4,5] [2,3,7] rfl rfl (fun x q3 w3 c J h8 hm3 hJ hle3 hR3 oq=>?_) (fun e w' h' hm3 o2=>⟨e,w',hE.trans (aDg hm3),rfl,o2⟩)
     rw[aDf hm3]at hE
     obtain⟨vc,vn,cs,ns,at_,as_,ag,rfl,rfl,rc,rn⟩:=hJ
     unfold xT at oq;have o9:=oq
     simp only[PSt,pick,lcA,lnA,lgS,lgZ,lgN]at o9
     clear oq o8
     obtain⟨xa,xb,rfl⟩:=rc.isS (Own.satK o9 4 rfl)
     obtain⟨ya,yb,rfl⟩:=rn.isS (Own.satK o9 4 rfl)
     (refine aDO o9 aJ aO rfl rfl (by decide) (aI rfl ?_);intro b6520 m6520 o6520);refine aV (ss:=[[41]]) ‹_› rfl ⟨8,by decide,rfl⟩ hR3 (by omega) (by decide) (fun _ q4 w4 v h9 hm4 hv hle4 hR4 oq=>?_) (fun e w' h' hm o2=>⟨e,w',hE.trans (aDg hm),rfl,o2⟩);subst hv
     rw[aDf hm4]at hE
     have o10:=oq
     simp only[PSt,pick,lcA,lnA,lgS,lgZ,lgN]at o10
     clear oq o9;refine rR (aDi o10 2 rfl aU rfl rfl rfl ?_);(refine aDh o10 6 rfl aU rfl (by decide) (aI ⟨rfl,rfl⟩ ?_);intro m6541 o6541)
     first|refine aDt rfl o6541 6 rfl aU rfl rfl ?_|refine aDs rfl o6541 6 rfl aU rfl rfl ?_|refine RetVC.cellTT rfl o6541 6 rfl aU rfl rfl ?_
     have er:[c1].flatMap Subtype.val=c1.1:=by simp
     exact⟨_,q4,w4,eK (eK J I1) (row (.slice ua 1 uc) 42 9 1 c1.1),hE,⟨⟨xT 7 [] (.slice ua 1 uc) (.slice xa cs.length xb) (.slice ya ns.length yb) at_ as_ ag (bH ts),rfl⟩,rfl,by rw[mE];exact⟨_,_,_,rfl,rc.inl.inl,rn.inl.inl,[c1],by rw[er];exact dQ.inr,mE.mono (fun _ (s:(eK (eK _ _) _).sat _)=>s.1.2) _ _ hx1,trivial⟩⟩,by omega,hR4,((Own.sel ‹_› [4,5,7,0,1] rfl).join.join).sel [1,2,0] rfl⟩
theorem expr_group (n:Nat)(hn:n≤11)(ih:nE n):∀(level:Int)(_:level=13 - ((n+1:Nat):Int))(B:Base)(bp z:Nat)(tk:Item)(w:Value)(ts:List Tok)(h:Heap)(_:Own B (PSt bp z w tk) h)(_:cR tk w ts)(_:ts.length≤5000)(_:∀ j,j<6→bD [cJ.getD j [],[40]] ts=false)(_:bD [[103,114,111,117,112],[40]] ts=true),
  Spec Tryz.prog 118 [.pointer (some ⟨bp,0,none⟩),.int .i64 level] h (dB B bp z tk ts.length (bV z (n+1) ts) exV):=by
 intro level hlv B bp z tk w ts h o hR hl hno hb
 obtain⟨hRd,hK⟩:=hR
 have hR:cR tk w ts:=⟨hRd,hK⟩;refine aDX Tryz.func118 rfl Tryz.ntmps118 (by kernel_rfl) ?_;(refine aDP o aU ?_;intro b10 m10 o10);refine aDR (fun hc=>absurd hc (by omega)) (fun c11=>?_);refine rR (aDl aM ?_);refine aI rfl ?_;(refine aDP o10 aU ?_;intro b13 m13 o13);(refine aDh o13 3 rfl aU rfl (by decide) (aI ⟨rfl,rfl⟩ ?_);intro m14 o14);refine rR (nC rfl ?_);refine rR (fA fW rfl rfl rfl ?_);refine rR (aDe o14 0 rfl eX rfl rfl ?_);refine rR (aDE (o14.reads 1 hRd rfl) fX ?_);refine Br.join [19,20,21,22,23,24,25,26] [] (fun _ hh=>Own B [box bp [w,.int .i64 z] 72,tk,box b10 [.int .i64 0,.string ⟨⟨[]⟩⟩,aK,aK,aK,.string ⟨⟨[]⟩⟩,.string ⟨⟨[]⟩⟩,.int .i64 0,.int .i64 0] 42,box b13 [.int .i64 1,.string ⟨⟨[]⟩⟩,aK,aK,aK,.string ⟨⟨[]⟩⟩,.string ⟨⟨[]⟩⟩,.int .i64 0,.int .i64 (bH ts)] 42] hh) rfl rfl ?_ ?_
 ·cases ts with
  | nil =>
   refine aDT ?_
   refine⟨rfl,?_⟩
   exact o14
  | cons t r =>
   have hx:(t::r)[0]?=some t:=rfl;have hln:(t::r).length=r.length+1:=rfl;refine aDR (fun c30=>?_) (fun hc=>absurd (by omega) hc);refine rR (nC rfl ?_);refine rR (fA fW rfl rfl rfl ?_);refine rR (aDe o14 0 rfl eX rfl rfl ?_);refine rR (aDo fX bF (o14.reads 1 hRd rfl) rfl (by omega) (by omega) ?_);refine rR (aDv (o14.reads 1 hRd rfl) (by omega) eZ rfl rfl rfl ?_);refine rR (aDC (o14.reads 1 hRd rfl) aY (fun _=>rfl) rfl ‹_› rfl ?_);refine rR (fA aM rfl rfl rfl ?_);(refine aDh o14 3 rfl aY rfl (by decide) (aI ⟨rfl,rfl⟩ ?_);intro m38 o38)
   refine⟨rfl,?_⟩
   exact Own.sel ‹_› [0,1,2,3] rfl
 ·intro vs junk hh oh
  refine aDV (eV bp _) ?_;rintro _ h2 ⟨bo,pb,rfl,oc⟩;have o2:=oh.call oc
  simp only[lcA,lnA]at o2
  clear oc;refine rR (aDn rfl eD ?_);refine aD1 [6,7,30,31,32,33,34,35,36,37,38,39,40,41,42,43,44,45,46,47,48,49,50,51,52,53,54,55,56,57,58,59,60,61,62,63,64,65,66,67,68,69,70,71,72,73,74,75,76,77,78,79,80,81,82,83] [30] (fun vs hh=>∃(i:Nat),i≤6∧vs=[.int .i64 i]∧Own B [box bp [w,.int .i64 z] 72,tk,box b10 [.int .i64 0,.string ⟨⟨[]⟩⟩,aK,aK,aK,.string ⟨⟨[]⟩⟩,.string ⟨⟨[]⟩⟩,.int .i64 0,.int .i64 0] 42,box b13 [.int .i64 1,.string ⟨⟨[]⟩⟩,aK,aK,aK,.string ⟨⟨[]⟩⟩,.string ⟨⟨[]⟩⟩,.int .i64 0,.int .i64 (bH ts)] 42,box pb [.pointer (some ⟨bp,0,none⟩)] 70,box bo (sH pb) 188] hh) (fun vs _=>match vs with|[.int _ i]=>7 - i.toNat|_=>0) ?_ ?_
  ·exact⟨0,by omega,rfl,o2⟩
  ·rintro vs' junk' h3 ⟨i,hi,rfl,o3⟩
   clear o14 oh o2;have hoL:(sH pb).length=7*3:=rfl
   rcases(by omega:i=0∨i=1∨i=2∨i=3∨i=4∨i=5∨i=6) with rfl|rfl|rfl|rfl|rfl|rfl|rfl
   ·refine aDS ?_
    refine rR (aDo eD aW (o3.boxArrN 5 rfl ‹_› (by omega)) rfl (by omega) (by omega) ?_);refine rR (aDi o3 5 rfl aW rfl rfl rfl ?_);(refine aDP o3 aW ?_;intro b1002 m1002 o1002);(refine aDh o1002 6 rfl aW rfl (by decide) (aI ⟨rfl,rfl⟩ ?_);intro m1003 o1003);refine rR (fA cM rfl rfl rfl ?_);refine rR (aDe o1003 6 rfl aO rfl rfl ?_);(refine aDO o1003 aJ aO rfl rfl (by decide) (aI rfl ?_);intro b1006 m1006 o1006);refine aDV (bQ [[115,101,108,101,99,116],[40]] _ bp w ts _ (Own.cellB ‹_› 0 rfl 0) (Own.reads ‹_› 1 hR.1 rfl) (Own.boxArr ‹_› 7 rfl rfl (by decide)) hl) ?_;rintro _ h4 ⟨rv,oc⟩;have o4:=oc.thenE ‹_›;clear oc;have hb:bD [[115,101,108,101,99,116],[40]] ts=false:=hno 0 (by decide)
    rw[hb]at rv
    subst rv;refine aDS ?_;refine aDY (by omega) (by omega) ?_
    refine⟨rfl,?_⟩
    exact⟨⟨1,by omega,rfl,Own.sel ‹_› [0,1,2,3,4,5] rfl⟩,by simp⟩
   ·refine aDS ?_
    refine rR (aDo eD aW (o3.boxArrN 5 rfl ‹_› (by omega)) rfl (by omega) (by omega) ?_);refine rR (aDi o3 5 rfl aW rfl rfl rfl ?_);(refine aDP o3 aW ?_;intro b2002 m2002 o2002);(refine aDh o2002 6 rfl aW rfl (by decide) (aI ⟨rfl,rfl⟩ ?_);intro m2003 o2003);refine rR (fA cM rfl rfl rfl ?_);refine rR (aDe o2003 6 rfl aO rfl rfl ?_);(refine aDO o2003 aJ aO rfl rfl (by decide) (aI rfl ?_);intro b2006 m2006 o2006);refine aDV (bQ [[112,114,111,106,101,99,116],[40]] _ bp w ts _ (Own.cellB ‹_› 0 rfl 0) (Own.reads ‹_› 1 hR.1 rfl) (Own.boxArr ‹_› 7 rfl rfl (by decide)) hl) ?_;rintro _ h4 ⟨rv,oc⟩;have o4:=oc.thenE ‹_›;clear oc;have hb:bD [[112,114,111,106,101,99,116],[40]] ts=false:=hno 1 (by decide)
    rw[hb]at rv
    subst rv;refine aDS ?_;refine aDY (by omega) (by omega) ?_
    refine⟨rfl,?_⟩
    exact⟨⟨2,by omega,rfl,Own.sel ‹_› [0,1,2,3,4,5] rfl⟩,by simp⟩
   ·refine aDS ?_
    refine rR (aDo eD aW (o3.boxArrN 5 rfl ‹_› (by omega)) rfl (by omega) (by omega) ?_);refine rR (aDi o3 5 rfl aW rfl rfl rfl ?_);(refine aDP o3 aW ?_;intro b3002 m3002 o3002);(refine aDh o3002 6 rfl aW rfl (by decide) (aI ⟨rfl,rfl⟩ ?_);intro m3003 o3003);refine rR (fA cM rfl rfl rfl ?_);refine rR (aDe o3003 6 rfl aO rfl rfl ?_);(refine aDO o3003 aJ aO rfl rfl (by decide) (aI rfl ?_);intro b3006 m3006 o3006);refine aDV (bQ [[106,111,105,110],[40]] _ bp w ts _ (Own.cellB ‹_› 0 rfl 0) (Own.reads ‹_› 1 hR.1 rfl) (Own.boxArr ‹_› 7 rfl rfl (by decide)) hl) ?_;rintro _ h4 ⟨rv,oc⟩;have o4:=oc.thenE ‹_›;clear oc;have hb:bD [[106,111,105,110],[40]] ts=false:=hno 2 (by decide)
    rw[hb]at rv
    subst rv;refine aDS ?_;refine aDY (by omega) (by omega) ?_
    refine⟨rfl,?_⟩
    exact⟨⟨3,by omega,rfl,Own.sel ‹_› [0,1,2,3,4,5] rfl⟩,by simp⟩
   ·refine aDS ?_
    refine rR (aDo eD aW (o3.boxArrN 5 rfl ‹_› (by omega)) rfl (by omega) (by omega) ?_);refine rR (aDi o3 5 rfl aW rfl rfl rfl ?_);(refine aDP o3 aW ?_;intro b4002 m4002 o4002);(refine aDh o4002 6 rfl aW rfl (by decide) (aI ⟨rfl,rfl⟩ ?_);intro m4003 o4003);refine rR (fA cM rfl rfl rfl ?_);refine rR (aDe o4003 6 rfl aO rfl rfl ?_);(refine aDO o4003 aJ aO rfl rfl (by decide) (aI rfl ?_);intro b4006 m4006 o4006);refine aDV (bQ [[117,110,105,111,110],[40]] _ bp w ts _ (Own.cellB ‹_› 0 rfl 0) (Own.reads ‹_› 1 hR.1 rfl) (Own.boxArr ‹_› 7 rfl rfl (by decide)) hl) ?_;rintro _ h4 ⟨rv,oc⟩;have o4:=oc.thenE ‹_›;clear oc;have hb:bD [[117,110,105,111,110],[40]] ts=false:=hno 3 (by decide)
    rw[hb]at rv
    subst rv;refine aDS ?_;refine aDY (by omega) (by omega) ?_
    refine⟨rfl,?_⟩
    exact⟨⟨4,by omega,rfl,Own.sel ‹_› [0,1,2,3,4,5] rfl⟩,by simp⟩
   ·refine aDS ?_
    refine rR (aDo eD aW (o3.boxArrN 5 rfl ‹_› (by omega)) rfl (by omega) (by omega) ?_);refine rR (aDi o3 5 rfl aW rfl rfl rfl ?_);(refine aDP o3 aW ?_;intro b5002 m5002 o5002);(refine aDh o5002 6 rfl aW rfl (by decide) (aI ⟨rfl,rfl⟩ ?_);intro m5003 o5003);refine rR (fA cM rfl rfl rfl ?_);refine rR (aDe o5003 6 rfl aO rfl rfl ?_);(refine aDO o5003 aJ aO rfl rfl (by decide) (aI rfl ?_);intro b5006 m5006 o5006);refine aDV (bQ [[109,105,110,117,115],[40]] _ bp w ts _ (Own.cellB ‹_› 0 rfl 0) (Own.reads ‹_› 1 hR.1 rfl) (Own.boxArr ‹_› 7 rfl rfl (by decide)) hl) ?_;rintro _ h4 ⟨rv,oc⟩;have o4:=oc.thenE ‹_›;clear oc;have hb:bD [[109,105,110,117,115],[40]] ts=false:=hno 4 (by decide)
    rw[hb]at rv
    subst rv;refine aDS ?_;refine aDY (by omega) (by omega) ?_
    refine⟨rfl,?_⟩
    exact⟨⟨5,by omega,rfl,Own.sel ‹_› [0,1,2,3,4,5] rfl⟩,by simp⟩
   ·refine aDS ?_
    refine rR (aDo eD aW (o3.boxArrN 5 rfl ‹_› (by omega)) rfl (by omega) (by omega) ?_);refine rR (aDi o3 5 rfl aW rfl rfl rfl ?_);(refine aDP o3 aW ?_;intro b6002 m6002 o6002);(refine aDh o6002 6 rfl aW rfl (by decide) (aI ⟨rfl,rfl⟩ ?_);intro m6003 o6003);refine rR (fA cM rfl rfl rfl ?_);refine rR (aDe o6003 6 rfl aO rfl rfl ?_);(refine aDO o6003 aJ aO rfl rfl (by decide) (aI rfl ?_);intro b6006 m6006 o6006);refine aDV (bQ [[114,101,110,97,109,101],[40]] _ bp w ts _ (Own.cellB ‹_› 0 rfl 0) (Own.reads ‹_› 1 hR.1 rfl) (Own.boxArr ‹_› 7 rfl rfl (by decide)) hl) ?_;rintro _ h4 ⟨rv,oc⟩;have o4:=oc.thenE ‹_›;clear oc;have hb:bD [[114,101,110,97,109,101],[40]] ts=false:=hno 5 (by decide)
    rw[hb]at rv
    subst rv;refine aDS ?_;refine aDY (by omega) (by omega) ?_
    refine⟨rfl,?_⟩
    exact⟨⟨6,by omega,rfl,Own.sel ‹_› [0,1,2,3,4,5] rfl⟩,by simp⟩
   ·refine aDS ?_
    refine rR (aDo eD aW (o3.boxArrN 5 rfl ‹_› (by omega)) rfl (by omega) (by omega) ?_);refine rR (aDi o3 5 rfl aW rfl rfl rfl ?_);(refine aDP o3 aW ?_;intro b7002 m7002 o7002);(refine aDh o7002 6 rfl aW rfl (by decide) (aI ⟨rfl,rfl⟩ ?_);intro m7003 o7003);refine rR (fA cM rfl rfl rfl ?_);refine rR (aDe o7003 6 rfl aO rfl rfl ?_);(refine aDO o7003 aJ aO rfl rfl (by decide) (aI rfl ?_);intro b7006 m7006 o7006);refine aDV (bQ [[103,114,111,117,112],[40]] _ bp w ts _ (Own.cellB ‹_› 0 rfl 0) (Own.reads ‹_› 1 hR.1 rfl) (Own.boxArr ‹_› 7 rfl rfl (by decide)) hl) ?_;rintro _ h4 ⟨rv,oc⟩;have o4:=oc.thenE ‹_›;clear oc
    rw[hb]at rv
    subst rv;have hE:bV z (n+1) ts=(aX z [[103,114,111,117,112],[40]] >>= fun _=>bV z n >>= fun a=>ifP (qD 6) (aX z [[44]] >>= fun _=>bV z n >>= fun b=>pure [a,b]) [a] >>= fun kids=>eC z 6 (bH ts) kids >>= fun x=>aX z [[41]] >>= fun _=>(pure x:PM Ex)) ts:=kI (kG (by decide) hno hb);have o5:=o4.sel [0,1,2,3,4,6] rfl
    simp only[PSt,pick,lcA,lnA,lgS,lgZ,lgN]at o5
    clear o3 o4;refine aDT ?_;refine aDY (by omega) (by omega) ?_;refine rR (fA aM rfl rfl rfl ?_);(refine aDN o5 3 rfl aY rfl (by simp) (aI ⟨rfl,rfl⟩ ?_);intro m7041 o7041);refine rR (fA cM rfl rfl rfl ?_);refine rR (aDe o7041 5 rfl aO rfl rfl ?_);(refine aDO o7041 aJ aO rfl rfl (by decide) (aI rfl ?_);intro b7044 m7044 o7044);refine aV (ss:=[[103,114,111,117,112],[40]]) ‹_› rfl ⟨6,by decide,rfl⟩ hR (by omega) (by decide) (fun _ q1 w1 v h5 hm hv hle1 hR1 oq=>?_) (fun e w' h' hm o2=>⟨e,w',hE.trans (aDg hm),rfl,o2⟩);subst hv
    rw[aDf hm]at hE
    have o6:=oq.sel [0,1,2,3,4,5] rfl
    simp only[PSt,pick,lcA,lnA,lgS,lgZ,lgN]at o6
    clear oq hm;refine DrawVC.join [49,50,51,52,53,54,55,56,57,58,59] [] (fun _ hh=>∃(a1:Ex) (q2:List Tok) (w2:Value) (c1:dM) (I1:Item) (ua:Option Addr) (uc:Nat),bV z n q1=.ok (a1,q2)∧q2.length≤q1.length∧cR tk w2 q2∧mE I1 c1.1 a1∧Own B [box bp [w2,.int .i64 z] 72,tk,I1,box b10 [.int .i64 0,.string ⟨⟨[]⟩⟩,aK,aK,aK,.string ⟨⟨[]⟩⟩,.string ⟨⟨[]⟩⟩,.int .i64 0,.int .i64 0] 42,box b13 [.int .i64 8,.string ⟨⟨[]⟩⟩,.slice ua 1 uc,aK,aK,.string ⟨⟨[]⟩⟩,.string ⟨⟨[]⟩⟩,.int .i64 0,.int .i64 (bH ts)] 42,box pb [.pointer (some ⟨bp,0,none⟩)] 70,box b7002 [.string ⟨⟨[103,114,111,117,112]⟩⟩,.bool false,.func (.func 164) ⟨[]⟩ ⟨[.pointer (some ⟨pb,0,none⟩)]⟩] 188,row (.slice ua 1 uc) 42 9 1 c1.1] hh) ?_ ?_
    ·refine aDB b13 [0,2,3,4,6,9,11] [1] [8,10,12] (.one 0 (.one 1 (.one 2 (.one 3 (.one 4 (.one 6 (.fork 5 7 (.one 7 (.one 8 (.one 9 (.one 11 (.fork 10 12 (.one 12 .done) (.one 10 .done)))))) (.one 5 (.one 8 (.one 9 (.one 11 (.fork 10 12 (.one 12 .done) (.one 10 .done))))))))))))) mixed (by kernel_rfl) rfl (fun _ _ _ _ h=>h) ?_
     refine fA aM rfl rfl rfl ?_;refine StillVCA.load1 dC rfl rfl ((o6.cellB 3 rfl _).trans rfl) ?_;refine aDY (by omega) (by omega) ?_;refine aDn rfl cE ?_
     refine⟨?_,?_⟩
     ·skip
      refine dB.callL (fun B' o'=>ih (level+1) (by omega) B' bp z tk _ _ _ o' hR1 (by omega)) ‹_› rfl (fun a1 q2 w2 v I1 h6 hm hv hle2 hR2 oq=>?_) (fun e w' h' hm o2=>⟨e,w',hE.trans (aDg hm),rfl,o2⟩)
      obtain⟨c1,rfl,hx1⟩:=hv
      have o7:=oq
      simp only[PSt,pick,lcA,lnA,lgS,lgZ,lgN]at o7
      clear oq
      refine⟨Eq.trans (Own.satK o7 4 rfl) (Eq.symm (Own.satK (x:=box b13 _ _) ‹_› 3 rfl)),?_⟩
      have one1:=fF (Own.satK o7 2 rfl) hx1;(refine aDD o7 cE aU rfl rfl (by decide) ?_);refine aI rfl ?_;intro b7101 m7101 o7101;refine aI ((o7101.boxBlk 4 rfl).trans (o7.boxBlk 4 rfl).symm) ?_;have on:=Own.nilRow ‹_› 42 9
      simp only[lcA,lnA]at on
      refine aDQ on 8 rfl cE aU (by decide) (Own.boxArrN on 7 rfl (n:=1) rfl (by omega)) (by simp[Value.oneCell']) (by simp only[maxLen];omega) (by omega) ?_;intro vA mA oA
      obtain⟨ua,uc,rfl⟩:=oA.rowIs 8 rfl
      refine aDo cE aU (oA.rowArrN 8 rfl) rfl (by omega) (by omega) ?_;refine fA aM rfl rfl rfl ?_
      refine⟨?_,?_⟩
      ·skip
       refine aDq (i:=0) ‹_› 8 rfl aU rfl rfl rfl c1.2 (by decide) (by decide) one1 ?_;intro mB oB
       simp only[lsS,lsZ]at oB
       (refine aDN oB 4 rfl dC rfl (by simp) (aI ⟨rfl,rfl⟩ ?_);intro m7140 o7140)
       refine⟨rfl,?_⟩
       have ef:=cH (cs:=[.int .i64 0,.string ⟨⟨[]⟩⟩,aK,aK,aK,.string ⟨⟨[]⟩⟩,.string ⟨⟨[]⟩⟩,.int .i64 0,.int .i64 0]) (c:=c1) rfl
       exact⟨a1,q2,w2,c1,I1,ua,uc,hm,hle2,hR2,hx1,ef▸Own.sel ‹_› [0,1,2,3,4,5,6,8] rfl⟩
      ·skip
       (refine aDN oA 4 rfl dC rfl (by simp) (aI ⟨rfl,rfl⟩ ?_);intro m7150 o7150);refine aDq (i:=0) ‹_› 8 rfl aU rfl rfl rfl c1.2 (by decide) (by decide) one1 ?_;intro mB oB
       simp only[lsS,lsZ]at oB
       refine⟨rfl,?_⟩
       have ef:=cH (cs:=[.int .i64 0,.string ⟨⟨[]⟩⟩,aK,aK,aK,.string ⟨⟨[]⟩⟩,.string ⟨⟨[]⟩⟩,.int .i64 0,.int .i64 0]) (c:=c1) rfl
       exact⟨a1,q2,w2,c1,I1,ua,uc,hm,hle2,hR2,hx1,ef▸Own.sel ‹_› [0,1,2,3,4,5,6,8] rfl⟩
     ·skip
      (refine aDD o6 cE aU rfl rfl (by decide) ?_);refine aI rfl ?_;intro b7281 m7281 o7281;refine aI ((o7281.boxBlk 3 rfl).trans (o6.boxBlk 3 rfl).symm) ?_;refine dB.callL (fun B' o'=>ih (level+1) (by omega) B' bp z tk _ _ _ o' hR1 (by omega)) ‹_› rfl (fun a1 q2 w2 v I1 h6 hm hv hle2 hR2 oq=>?_) (fun e w' h' hm o2=>⟨e,w',hE.trans (aDg hm),rfl,o2⟩)
      obtain⟨c1,rfl,hx1⟩:=hv
      have o7:=oq
      simp only[PSt,pick,lcA,lnA,lgS,lgZ,lgN]at o7
      clear oq
      refine⟨Eq.trans (Own.satK o7 4 rfl) (Eq.symm (Own.satK (x:=box b13 _ _) ‹_› 3 rfl)),?_⟩
      have one1:=fF (Own.satK o7 2 rfl) hx1;have on:=Own.nilRow ‹_› 42 9
      simp only[lcA,lnA]at on
      refine aDQ on 8 rfl cE aU (by decide) (Own.boxArrN on 7 rfl (n:=1) rfl (by omega)) (by simp[Value.oneCell']) (by simp only[maxLen];omega) (by omega) ?_;intro vA mA oA
      obtain⟨ua,uc,rfl⟩:=oA.rowIs 8 rfl
      refine aDo cE aU (oA.rowArrN 8 rfl) rfl (by omega) (by omega) ?_;refine fA aM rfl rfl rfl ?_
      refine⟨?_,?_⟩
      ·skip
       refine aDq (i:=0) ‹_› 8 rfl aU rfl rfl rfl c1.2 (by decide) (by decide) one1 ?_;intro mB oB
       simp only[lsS,lsZ]at oB
       (refine aDN oB 4 rfl dC rfl (by simp) (aI ⟨rfl,rfl⟩ ?_);intro m7340 o7340)
       refine⟨rfl,?_⟩
       have ef:=cH (cs:=[.int .i64 0,.string ⟨⟨[]⟩⟩,aK,aK,aK,.string ⟨⟨[]⟩⟩,.string ⟨⟨[]⟩⟩,.int .i64 0,.int .i64 0]) (c:=c1) rfl
       exact⟨a1,q2,w2,c1,I1,ua,uc,hm,hle2,hR2,hx1,ef▸Own.sel ‹_› [0,1,2,3,4,5,6,8] rfl⟩
      ·skip
       (refine aDN oA 4 rfl dC rfl (by simp) (aI ⟨rfl,rfl⟩ ?_);intro m7350 o7350);refine aDq (i:=0) ‹_› 8 rfl aU rfl rfl rfl c1.2 (by decide) (by decide) one1 ?_;intro mB oB
       simp only[lsS,lsZ]at oB
       refine⟨rfl,?_⟩
       have ef:=cH (cs:=[.int .i64 0,.string ⟨⟨[]⟩⟩,aK,aK,aK,.string ⟨⟨[]⟩⟩,.string ⟨⟨[]⟩⟩,.int .i64 0,.int .i64 0]) (c:=c1) rfl
       exact⟨a1,q2,w2,c1,I1,ua,uc,hm,hle2,hR2,hx1,ef▸Own.sel ‹_› [0,1,2,3,4,5,6,8] rfl⟩
    ·rintro _ junk2 h7 ⟨a1,q2,w2,c1,I1,ua,uc,hm,hle2,hR2,hx1,o8⟩
     rw[aDf hm]at hE
     rw[nB (by rfl),aDu]at hE
     refine rR (fA cM rfl rfl rfl ?_);refine rR (aDe o8 6 rfl ty4 rfl rfl ?_);refine aDT ?_;refine aD2 ?_;refine rR (fA cM rfl rfl rfl ?_);refine rR (aDe o8 6 rfl aAj rfl rfl ?_);refine mM.callL (fun B' o'=>rest6_spec (bH ts) (.slice ua 1 uc) [a1] B' bp z tk b13 pb w2 q2 h7 o' hR2 (by omega)) o8 [0,1,4,5] [2,3,7] rfl rfl (fun x q3 w3 c J h8 hm3 hJ hle3 hR3 oq=>?_) (fun e w' h' hm3 o2=>⟨e,w',hE.trans (aDg hm3),rfl,o2⟩)
     rw[aDf hm3]at hE
     obtain⟨vc,vn,cs,ns,at_,as_,ag,rfl,rfl,rc,rn⟩:=hJ
     unfold xT at oq;have o9:=oq
     simp only[PSt,pick,lcA,lnA,lgS,lgZ,lgN]at o9
     clear oq o8
     obtain⟨xa,xb,rfl⟩:=rc.isS (Own.satK o9 4 rfl)
     obtain⟨ya,yb,rfl⟩:=rn.isS (Own.satK o9 4 rfl)
     (refine aDO o9 aJ aO rfl rfl (by decide) (aI rfl ?_);intro b7520 m7520 o7520);refine aV (ss:=[[41]]) ‹_› rfl ⟨8,by decide,rfl⟩ hR3 (by omega) (by decide) (fun _ q4 w4 v h9 hm4 hv hle4 hR4 oq=>?_) (fun e w' h' hm o2=>⟨e,w',hE.trans (aDg hm),rfl,o2⟩);subst hv
     rw[aDf hm4]at hE
     have o10:=oq
     simp only[PSt,pick,lcA,lnA,lgS,lgZ,lgN]at o10
     clear oq o9;refine rR (aDi o10 2 rfl aU rfl rfl rfl ?_);(refine aDh o10 6 rfl aU rfl (by decide) (aI ⟨rfl,rfl⟩ ?_);intro m7541 o7541)
     first|refine aDt rfl o7541 6 rfl aU rfl rfl ?_|refine aDs rfl o7541 6 rfl aU rfl rfl ?_|refine RetVC.cellTT rfl o7541 6 rfl aU rfl rfl ?_
     have er:[c1].flatMap Subtype.val=c1.1:=by simp
     exact⟨_,q4,w4,eK (eK J I1) (row (.slice ua 1 uc) 42 9 1 c1.1),hE,⟨⟨xT 8 [] (.slice ua 1 uc) (.slice xa cs.length xb) (.slice ya ns.length yb) at_ as_ ag (bH ts),rfl⟩,rfl,by rw[mE];exact⟨_,_,_,rfl,rc.inl.inl,rn.inl.inl,[c1],by rw[er];exact dQ.inr,mE.mono (fun _ (s:(eK (eK _ _) _).sat _)=>s.1.2) _ _ hx1,trivial⟩⟩,by omega,hR4,((Own.sel ‹_› [4,5,7,0,1] rfl).join.join).sel [1,2,0] rfl⟩
theorem expr_next (n:Nat)(hn:n≤11)(ih:nE n):nE (n+1):=by
 intro level hlv B bp z tk w ts h o hR hl;cases hb0:bD [[115,101,108,101,99,116],[40]] ts with
 | true=>exact expr_select n hn ih level hlv B bp z tk w ts h o hR hl (fun j hj=>by rcases(by omega:False) with hf;exact hf.elim) hb0
 | false =>
 cases hb1:bD [[112,114,111,106,101,99,116],[40]] ts with
 | true=>exact aC7 n hn ih level hlv B bp z tk w ts h o hR hl (fun j hj=>by rcases(by omega:False∨j=0) with hf|rfl;exact hf.elim;exact hb0) hb1
 | false =>
 cases hb2:bD [[106,111,105,110],[40]] ts with
 | true=>exact expr_join n hn ih level hlv B bp z tk w ts h o hR hl (fun j hj=>by rcases(by omega:False∨j=0∨j=1) with hf|rfl|rfl;exact hf.elim;exact hb0;exact hb1) hb2
 | false =>
 cases hb3:bD [[117,110,105,111,110],[40]] ts with
 | true=>exact expr_union n hn ih level hlv B bp z tk w ts h o hR hl (fun j hj=>by rcases(by omega:False∨j=0∨j=1∨j=2) with hf|rfl|rfl|rfl;exact hf.elim;exact hb0;exact hb1;exact hb2) hb3
 | false =>
 cases hb4:bD [[109,105,110,117,115],[40]] ts with
 | true=>exact expr_minus n hn ih level hlv B bp z tk w ts h o hR hl (fun j hj=>by rcases(by omega:False∨j=0∨j=1∨j=2∨j=3) with hf|rfl|rfl|rfl|rfl;exact hf.elim;exact hb0;exact hb1;exact hb2;exact hb3) hb4
 | false =>
 cases hb5:bD [[114,101,110,97,109,101],[40]] ts with
 | true=>exact expr_rename n hn ih level hlv B bp z tk w ts h o hR hl (fun j hj=>by rcases(by omega:False∨j=0∨j=1∨j=2∨j=3∨j=4) with hf|rfl|rfl|rfl|rfl|rfl;exact hf.elim;exact hb0;exact hb1;exact hb2;exact hb3;exact hb4) hb5
 | false =>
 cases hb6:bD [[103,114,111,117,112],[40]] ts with
 | true=>exact expr_group n hn ih level hlv B bp z tk w ts h o hR hl (fun j hj=>by rcases(by omega:False∨j=0∨j=1∨j=2∨j=3∨j=4∨j=5) with hf|rfl|rfl|rfl|rfl|rfl|rfl;exact hf.elim;exact hb0;exact hb1;exact hb2;exact hb3;exact hb4;exact hb5) hb6
 | false =>
 exact expr_leaf n hn ih level hlv B bp z tk w ts h o hR hl (fun j hj=>by rcases(by omega:j=0∨j=1∨j=2∨j=3∨j=4∨j=5∨j=6) with rfl|rfl|rfl|rfl|rfl|rfl|rfl;exact hb0;exact hb1;exact hb2;exact hb3;exact hb4;exact hb5;exact hb6)
theorem aCm:∀(n:Nat),n≤12→nE n
 | 0,_=>expr_zero
 | n+1,h=>expr_next n (by omega) (aCm n (by omega))
theorem query_part (kd:Int)(nm:aBs)(off:Nat)(B:Base)(bp z:Nat)(tk:Item)(bx:Nat)(w:Value)(ts:List Tok)(h:Heap)(o:Own B [box bp [w,.int .i64 z] 72,tk,box bx (nL kd nm off) 44] h)(hR:cR tk w ts)(hl:ts.length≤5000) :
  Spec Tryz.prog 66 [.pointer (some ⟨bp,0,none⟩),.pointer (some ⟨bx,0,none⟩)] h (iV B bp z tk bx ts.length (wV z (x0 kd nm off) ts)):=by
 have hE:=congrFun (wV.eq_1 z (x0 kd nm off)) ts;unfold nL at o;refine aDX Tryz.func66 rfl Tryz.ntmps66 (by kernel_rfl) ?_;(refine aDO o aJ aO rfl rfl (by decide) (aI rfl ?_);intro b10 m10 o10);refine aV (ss:=[[61]]) ‹_› rfl ⟨3,by decide,rfl⟩ hR (by omega) (by decide) (fun _ q1 w1 v h1 hm hv hle1 hR1 oq=>?_) (fun e w' h' hm o2=>⟨e,w',hE.trans (aDg hm),rfl,o2⟩);subst hv
 rw[aDf hm]at hE
 have o1:=oq
 simp only[PSt,pick,lcA,lnA,lgS,lgZ,lgN]at o1
 clear oq hm;refine dB.callL (fun B' o'=>aCm 12 (aEf _) 1 (by omega) B' bp z tk _ _ _ o' hR1 (by omega)) ‹_› rfl (fun x q wq v I h' hm hv hle hR' oq=>?_) (fun e w' h' hm o2=>⟨e,w',hE.trans (aDg hm),rfl,o2⟩)
 obtain⟨⟨c,hc⟩,rfl,hx⟩:=hv
 rw[aDf hm]at hE
 have o9:=oq
 simp only[PSt,pick,lcA,lnA,lgS,lgZ,lgN]at o9
 clear oq hm
 obtain⟨kind,table,kids,conds,names,attr,as_,agg,eo⟩:=x
 simp only[mE]at hx
 have hx0:=hx
 obtain⟨vk,vc,vn,rfl,h2,h3,xs,h4,h5⟩:=hx
 obtain⟨a1,b1,rfl⟩:=h2.isS (Own.satK o9 2 rfl)
 obtain⟨a2,b2,rfl⟩:=h3.isS (Own.satK o9 2 rfl)
 obtain⟨a3,b3,rfl⟩:=h4.isS (Own.satK o9 2 rfl)
 unfold xT at hx0 hc;refine rR (nC rfl ?_);refine rR (fA aT rfl rfl rfl ?_);(refine aDN o9 3 rfl aU rfl (by simp) (aI ⟨rfl,rfl⟩ ?_);intro m32 o32);refine aD0 rfl ?_
 exact⟨_,q,wq,_,I,hE,rfl,⟨_,_,_,_,_,_,_,_,_,_,_,_,_,_,_,rfl,aP,aP,aP,aP,aP,aP,by simp only[mE];exact hx0⟩,by omega,hR',Own.sel ‹_› [0,1,3,2] rfl⟩
def mG (h:Heap):Prop:=∀ i,i<10→bC h ⟨0,i,none⟩=(strs eF)[i]?
theorem mG.ext {h h':Heap}(w:mG h)(e:Ext h h'):mG h':=fun i hi=>by
 have h1:(strs eF)[i]?=some ((strs eF)[i]'(by have:(strs eF).length=10:=rfl;omega)):=by simp
 rw[h1]
 exact e.cell ((w i hi).trans h1)
theorem mG.keep {B:Base}(w:mG B.h):tB B (.slice (some ⟨0,0,none⟩) 10 10) eF:=fun L h o =>
 ⟨_,_,rfl,aEf _,.inr ⟨_,0,rfl,fun i hi=>by rw[aEo];exact(w.ext o.ext) i hi⟩⟩
theorem wK:∀(z:Nat)(ss:List aBs)(i:Int) {ts r:List Tok}{k:Int},eO z ss i ts=.ok (k,r)→i≤k∧k<i+ss.length∧r.length<ts.length
 | z,[],i,ts,r,k,h=>by cases h
 | z,s::ss,i,ts,r,k,h=>by
  unfold eO at h;cases hq:cG s ts with
  | error e=>exact absurd hq (cY _ _ _)
  | ok x =>
   obtain⟨b,q⟩:=x
   rw[aDf hq]at h
   cases b with
   | true =>
    cases h
    have:=mP hq
    simp only[aEa]
    omega
   | false =>
    have:=iA hq
    subst this
    have:=wK z ss (i+1) h
    simp only[aEa]
    omega
def partF (k:Int):FuncId :=
 if k=1 then 57 else if k=2 then 58 else if k=3 then 59 else if k=4 then 60 else if k=5 then 61
 else if k=6 then 62 else if k=7 then 63 else if k=8 then 64 else if k=9 then 65 else 66
theorem part_spec (k:Int)(h1:1≤k)(h2:k<11)(kd:Int)(nm:aBs)(off:Nat)(B:Base)(bp z:Nat)(tk:Item)(bx:Nat)(w:Value)(ts:List Tok)(h:Heap)(o:Own B [box bp [w,.int .i64 z] 72,tk,box bx (nL kd nm off) 44] h)(hR:cR tk w ts)(hl:ts.length≤5000) :
  Spec Tryz.prog (partF k) [.pointer (some ⟨bp,0,none⟩),.pointer (some ⟨bx,0,none⟩)] h (iV B bp z tk bx ts.length (jB z k (x0 kd nm off) ts)):=by
 rcases(by omega:k=1∨k=2∨k=3∨k=4∨k=5∨k=6∨k=7∨k=8∨k=9∨k=10) with rfl|rfl|rfl|rfl|rfl|rfl|rfl|rfl|rfl|rfl
 ·exact table_part kd nm off B bp z tk bx w ts h o hR hl
 ·exact source_part kd nm off B bp z tk bx w ts h o hR hl
 ·exact block_part kd nm off B bp z tk bx w ts h o hR hl
 ·exact match_part kd nm off B bp z tk bx w ts h o hR hl
 ·exact keep_part kd nm off B bp z tk bx w ts h o hR hl
 ·exact yG kd nm off B bp z tk bx w ts h o hR hl
 ·exact depend_part kd nm off B bp z tk bx w ts h o hR hl
 ·exact aC2 kd nm off B bp z tk bx w ts h o hR hl
 ·exact deny_part kd nm off B bp z tk bx w ts h o hR hl
 ·exact query_part kd nm off B bp z tk bx w ts h o hR hl
def mfn (bp g:Nat):Value:=.func (.func g) ⟨[.pointer (some ⟨bp,0,none⟩)]⟩ ⟨[]⟩
def partsM (bp:Nat):List MapEntry:=[⟨.int .i64 1,mfn bp 57,0⟩,⟨.int .i64 2,mfn bp 58,1⟩,⟨.int .i64 3,mfn bp 59,2⟩,
 ⟨.int .i64 4,mfn bp 60,3⟩,⟨.int .i64 5,mfn bp 61,4⟩,⟨.int .i64 6,mfn bp 62,5⟩,⟨.int .i64 7,mfn bp 63,6⟩,
 ⟨.int .i64 8,mfn bp 64,7⟩,⟨.int .i64 9,mfn bp 65,8⟩,⟨.int .i64 10,mfn bp 66,9⟩]
theorem partsM_find (bp:Nat)(k:Int)(h1:1≤k)(h2:k<11):∃ i,Instr.findNow (.int .i64) (.int .i64 k) (partsM bp) 0=some (some (i,mfn bp (partF k))):=by
 rcases(by omega:k=1∨k=2∨k=3∨k=4∨k=5∨k=6∨k=7∨k=8∨k=9∨k=10) with rfl|rfl|rfl|rfl|rfl|rfl|rfl|rfl|rfl|rfl
 all_goals exact⟨_,rfl⟩
def itV (x:It)(v:Value)(I:Item):Prop:=∃ c,v=.agg ⟨c⟩∧itR I c x
theorem aAX (z:Nat)(t:Tok)(r:List Tok):hG z (t::r)=(eO z eF 1 >>= fun k=>ifP (k != 5) (cI z) [] >>= fun nm=>jB z k (x0 k nm t.off) >>= fun x=>(if k=4 then aX z [[125]] else aX z [[59]]) >>= fun _=>(pure x:PM It)) (t::r):=by
 refine congrFun (congrArg (fun f=>eO z eF 1 >>= f) (funext fun k=>congrArg (fun f=>ifP (k != 5) (cI z) [] >>= f) (funext fun nm=>congrArg (fun f=>jB z k (x0 k nm t.off) >>= f) (funext fun x=>?_)))) _;by_cases hk:k=4
 ·simp only[if_pos hk]
 ·simp only[if_neg hk]
theorem pwordK_call {ss:List aBs}{vs:Value}{s:aVs}{h:Heap}{K:KK}{Q:QQ}{B:Base}{L:List Item}{bp z:Nat}{tk:Item}{w:Value}{ts:List Tok}
  (o:Own B L h) (e:pick L [0,1]=PSt bp z w tk) (hk:tB ⟨B.h,tX L++B.T⟩ vs ss) (hR:cR tk w ts) (hl:ts.length≤5000) (hsl:ss.length≤100)
  (hret:∀ a r w' v h',eO z ss 1 ts=.ok (a,r)→v=.int .i64 a→r.length≤ts.length→cR tk w' r→Own B (PSt bp z w' tk++tX L) h'→K v false h')
  (hpan:∀ e w' h',eO z ss 1 ts=.error e→Own B (PSt bp z w' tk) h'→Q (.panic (lQ e)) s h'):CallVC Tryz.prog 55 [.pointer (some ⟨bp,0,none⟩),vs] s h K Q:=by
 have ol:=o.lend [0,1] [2,3,4,5,6,7,8,9] rfl
 rw[e]at ol
 exact PEnd.call (aAz ss _ _ bp z tk w ts h hk ol hR hl hsl) (fun a r w' v h' h1 h2 h3 h4 h5=>hret a r w' v h' h1 h2 h3 h4 h5.back) (fun e w' h' h1 h2=>hpan e w' h' h1 (h2.back.sel [0,1] rfl))
theorem iV.callL {g:FuncId}{args:aVs}{s:aVs}{h:Heap}{K:KK}{Q:QQ}{B:Base}{L X:List Item}{bp z:Nat}{tk:Item}{bx n:Nat}{res:Except (Int×Nat) (It×List Tok)}
  (sp:∀ B':Base,Own B' X h→Spec Tryz.prog g args h (iV B' bp z tk bx n res)) (o:Own B L h) (ks js:List Nat) (hd:dst (ks++js)=true) (e:pick L ks=X)
  (hret:∀ x r w' c I h',res=.ok (x,r)→itR I c x→r.length≤n→cR tk w' r→Own B ([box bp [w',.int .i64 z] 72,tk,box bx c 44,I]++pick L js) h'→K (.tuple ⟨[]⟩) false h')
  (hpan:∀ e w' h',res=.error e→Own B (PSt bp z w' tk) h'→Q (.panic (lQ e)) s h'):CallVC Tryz.prog g args s h K Q:=by
 have ol:=o.lend ks js hd
 rw[e]at ol
 exact aDW (sp _ ol) (fun v h' ⟨x,r,w',c,I,h1,h2,h3,h4,h5,h6⟩=>by subst h2;exact hret x r w' c I h' h1 h3 h4 h5 h6.back) (fun c h' ⟨e,w',h1,h2,h3⟩=>by subst h2;exact hpan e w' h' h1 (h3.back.sel [0,1] rfl))
theorem item_spec (t0:Tok)(r0:List Tok)(B:Base)(bp z:Nat)(tk:Item)(w:Value)(h:Heap)(hW:mG B.h)(o:Own B (PSt bp z w tk) h)(hR:cR tk w (t0::r0))(hl:(t0::r0).length≤5000) :
  Spec Tryz.prog 28 [.pointer (some ⟨bp,0,none⟩)] h (dB B bp z tk (t0::r0).length (hG z (t0::r0)) itV):=by
 have hE:=aAX z t0 r0;have hx:(t0::r0)[0]?=some t0:=rfl;have hln:(t0::r0).length=r0.length+1:=rfl
 obtain⟨hRd,hK⟩:=hR
 have hR:cR tk w (t0::r0):=⟨hRd,hK⟩;refine aDX Tryz.func28 rfl Tryz.ntmps28 (by kernel_rfl) ?_;(refine aDP o lJ ?_;intro b10 m10 o10);refine rR (nC rfl ?_);refine rR (fA fW rfl rfl rfl ?_);refine rR (aDe o10 0 rfl eX rfl rfl ?_);refine rR (aDo fX bF (o10.reads 1 hRd rfl) rfl (by omega) (by omega) ?_);refine rR (aDv (o10.reads 1 hRd rfl) (by omega) eZ rfl rfl rfl ?_);refine rR (aDC (o10.reads 1 hRd rfl) aY (fun _=>rfl) rfl ‹_› rfl ?_);refine rR (aDl aT ?_);refine aI rfl ?_;(refine aDP o10 lJ ?_;intro b18 m18 o18);(refine aDh o18 3 rfl lJ rfl (by decide) (aI ⟨rfl,rfl⟩ ?_);intro m19 o19);refine RunVC.sliceG arr115.1 aO rfl ?_;refine pwordK_call ‹_› rfl (mG.keep hW) hR hl (by decide) (fun k q1 w1 v h1 hm hv hle1 hR1 oq=>?_) (fun e w' h' hm o2=>⟨e,w',hE.trans (aDg hm),rfl,o2⟩);subst hv
 rw[aDf hm]at hE
 obtain⟨hk1,hk2,hk3⟩:=wK _ _ _ hm
 have hk2:k<11:=by have:eF.length=10:=rfl;omega
 have o1:=oq
 simp only[PSt,pick,lcA,lnA,lgS,lgZ,lgN]at o1
 clear oq hm;refine rR (fA aT rfl rfl rfl ?_);(refine aDN o1 3 rfl aY rfl (by simp) (aI ⟨rfl,rfl⟩ ?_);intro m31 o31);refine rR (fA aT rfl rfl rfl ?_);refine rR (aDe o31 3 rfl aY rfl rfl ?_);refine Br.join [20,21,22] [] (fun _ hh=>∃(nm:aBs) (q2:List Tok) (w2:Value),ifP (k != 5) (cI z) [] q1=.ok (nm,q2)∧q2.length≤q1.length∧cR tk w2 q2∧Own B [box bp [w2,.int .i64 z] 72,tk,box b10 (nL 0 [] 0) 44,box b18 (nL k nm t0.off) 44] hh) rfl rfl ?_ ?_
 ·by_cases h5:k=5
  ·refine aDp (fun hc=>absurd (by first|omega|assumption|decide|exact rfl) hc) (fun c40=>?_)
   refine⟨rfl,?_⟩
   exact⟨[],q1,w1,by rw[nB (by simp[h5])];rfl,aEf _,hR1,Own.sel ‹_› [0,1,2,3] rfl⟩
  ·refine aDp (fun c50=>?_) (fun hc=>absurd hc (by first|omega|assumption|decide|exact rfl))
   refine cO.callL ‹_› rfl hR1 (by omega) (fun nm q2 w2 v h2 hm hv hle2 hR2 oq=>?_) (fun e w' h' hm o2=>⟨e,w',hE.trans (aDg (by rw[kB (by simp[h5])];exact hm)),rfl,o2⟩);subst hv;have o2:=oq
   simp only[PSt,pick,lcA,lnA,lgS,lgZ,lgN]at o2
   clear oq;refine rR (fA aT rfl rfl rfl ?_);(refine aDN o2 3 rfl aO rfl (by simp) (aI ⟨rfl,rfl⟩ ?_);intro m61 o61)
   refine⟨rfl,?_⟩
   exact⟨nm,q2,w2,by rw[kB (by simp[h5])];exact hm,hle2,hR2,Own.sel ‹_› [0,1,2,3] rfl⟩
 ·rintro _ junk h3 ⟨nm,q2,w2,hm,hle2,hR2,o3⟩
  rw[aDf hm]at hE
  unfold nL at o3;(refine RunVC.makeMap ‹_› ?_;intro rm mI oI);refine rR (aDy ?_);(refine RunVC.insert ‹_› 4 rfl Tryz.underlying117 Tryz.underlying3 rfl rfl rfl ?_;intro mI oI);refine rR (aDy ?_);(refine RunVC.insert ‹_› 4 rfl Tryz.underlying117 Tryz.underlying3 rfl rfl rfl ?_;intro mI oI);refine rR (aDy ?_);(refine RunVC.insert ‹_› 4 rfl Tryz.underlying117 Tryz.underlying3 rfl rfl rfl ?_;intro mI oI);refine rR (aDy ?_);(refine RunVC.insert ‹_› 4 rfl Tryz.underlying117 Tryz.underlying3 rfl rfl rfl ?_;intro mI oI);refine rR (aDy ?_);(refine RunVC.insert ‹_› 4 rfl Tryz.underlying117 Tryz.underlying3 rfl rfl rfl ?_;intro mI oI);refine rR (aDy ?_);(refine RunVC.insert ‹_› 4 rfl Tryz.underlying117 Tryz.underlying3 rfl rfl rfl ?_;intro mI oI);refine rR (aDy ?_);(refine RunVC.insert ‹_› 4 rfl Tryz.underlying117 Tryz.underlying3 rfl rfl rfl ?_;intro mI oI);refine rR (aDy ?_);(refine RunVC.insert ‹_› 4 rfl Tryz.underlying117 Tryz.underlying3 rfl rfl rfl ?_;intro mI oI);refine rR (aDy ?_);(refine RunVC.insert ‹_› 4 rfl Tryz.underlying117 Tryz.underlying3 rfl rfl rfl ?_;intro mI oI);refine rR (aDy ?_);(refine RunVC.insert ‹_› 4 rfl Tryz.underlying117 Tryz.underlying3 rfl rfl rfl ?_;intro mI oI);refine aD2 ?_;refine rR (fA aT rfl rfl rfl ?_);refine rR (aDe oI 3 rfl aY rfl rfl ?_)
  obtain⟨i,hf⟩:=partsM_find bp k hk1 hk2
  refine RunVC.lookup ‹_› 4 rfl Tryz.underlying117 Tryz.underlying3 rfl rfl hf ?_;refine iV.callL (fun B' o'=>part_spec k hk1 hk2 k nm t0.off B' bp z tk b18 w2 q2 _ o' hR2 (by omega)) ‹_› [0,1,3] [2] rfl rfl (fun x q3 w3 c I h4 hm hI hle3 hR3 oq=>?_) (fun e w' h' hm o2=>⟨e,w',hE.trans (aDg hm),rfl,o2⟩)
  rw[aDf hm]at hE
  have hkind:x.kind=k:=(kept_part z k _ _ _ _ hm).1
  obtain⟨vc,vn,vt,vf,vv,vd,e0,e1,e2,e3,e4,e5,e6,e7,e8,rfl,r1,r2,r3,r4,r5,r6,rx⟩:=hI
  unfold itC at oq;have o4:=oq
  simp only[PSt,pick,lcA,lnA,lgS,lgZ,lgN]at o4
  clear oq hm;have hx0:=rx;refine rR (fA aT rfl rfl rfl ?_);refine rR (aDe o4 2 rfl aY rfl rfl ?_)
  obtain⟨y1,z1,rfl⟩:=r1.isS (Own.satK o4 3 rfl)
  obtain⟨y2,z2,rfl⟩:=r2.isS (Own.satK o4 3 rfl)
  obtain⟨y3,z3,rfl⟩:=r3.isS (Own.satK o4 3 rfl)
  obtain⟨y4,z4,rfl⟩:=r4.isS (Own.satK o4 3 rfl)
  obtain⟨y5,z5,rfl⟩:=r5.isS (Own.satK o4 3 rfl)
  obtain⟨y6,z6,rfl⟩:=r6.isS (Own.satK o4 3 rfl)
  have hx1:∃ q,q=x.expr:=⟨_,rfl⟩
  obtain⟨xe,hxe⟩:=hx1
  rw[← hxe]at rx
  obtain⟨xk,xt,xks,xcs,xns,xa,xs',xg,xo⟩:=xe
  simp only[mE]at rx
  obtain⟨uk,uc,un,heq,u1,u2,us,u3,_⟩:=rx
  unfold xT at heq
  simp only[List.cons.injEq,and_true]at heq
  obtain⟨rfl,rfl,rfl,rfl,rfl,rfl,rfl,rfl,rfl⟩:=heq
  obtain⟨y7,z7,rfl⟩:=u1.isS (Own.satK o4 3 rfl)
  obtain⟨y8,z8,rfl⟩:=u2.isS (Own.satK o4 3 rfl)
  obtain⟨y9,z9,rfl⟩:=u3.isS (Own.satK o4 3 rfl)
  by_cases hk4:k=4
  ·skip
   rw[if_pos hk4]at hE
   refine aDR (fun c300=>?_) (fun hc=>absurd (by omega) hc);(refine aDO o4 aJ aO rfl rfl (by decide) (aI rfl ?_);intro b301 m301 o301);refine aV (ss:=[[125]]) ‹_› rfl ⟨5,by decide,rfl⟩ hR3 (by omega) (by decide) (fun _ q4 w4 v h5 hm hv hle4 hR4 oq=>?_) (fun e w' h' hm o2=>⟨e,w',hE.trans (aDg hm),rfl,o2⟩);subst hv
   rw[aDf hm]at hE
   have o5:=oq
   simp only[PSt,pick,lcA,lnA,lgS,lgZ,lgN]at o5
   clear oq hm;refine rR (aDi o5 2 rfl lJ rfl rfl rfl ?_);(refine aDh o5 4 rfl lJ rfl (by decide) (aI ⟨rfl,rfl⟩ ?_);intro m321 o321)
   first|refine aDt rfl o321 4 rfl lJ rfl rfl ?_|refine aDs rfl o321 4 rfl lJ rfl rfl ?_|refine RetVC.cellTT rfl o321 4 rfl lJ rfl rfl ?_
   exact⟨x,q4,w4,I,hE,⟨_,rfl,⟨_,_,_,_,_,_,_,_,_,_,_,_,_,_,_,rfl,r1,r2,r3,r4,r5,r6,hx0⟩⟩,by omega,hR4,Own.sel ‹_› [0,1,3] rfl⟩
  ·skip
   rw[if_neg hk4]at hE
   refine aDR (fun hc=>absurd hc (by omega)) (fun c400=>?_);(refine aDO o4 aJ aO rfl rfl (by decide) (aI rfl ?_);intro b401 m401 o401);refine aV (ss:=[[59]]) ‹_› rfl ⟨5,by decide,rfl⟩ hR3 (by omega) (by decide) (fun _ q4 w4 v h5 hm hv hle4 hR4 oq=>?_) (fun e w' h' hm o2=>⟨e,w',hE.trans (aDg hm),rfl,o2⟩);subst hv
   rw[aDf hm]at hE
   have o5:=oq
   simp only[PSt,pick,lcA,lnA,lgS,lgZ,lgN]at o5
   clear oq hm;refine rR (aDi o5 2 rfl lJ rfl rfl rfl ?_);(refine aDh o5 4 rfl lJ rfl (by decide) (aI ⟨rfl,rfl⟩ ?_);intro m421 o421)
   first|refine aDt rfl o421 4 rfl lJ rfl rfl ?_|refine aDs rfl o421 4 rfl lJ rfl rfl ?_|refine RetVC.cellTT rfl o421 4 rfl lJ rfl rfl ?_
   exact⟨x,q4,w4,I,hE,⟨_,rfl,⟨_,_,_,_,_,_,_,_,_,_,_,_,_,_,_,rfl,r1,r2,r3,r4,r5,r6,hx0⟩⟩,by omega,hR4,Own.sel ‹_› [0,1,3] rfl⟩
def wS (p q r v:Value):aVs:=[p,q,r,v,undef,undef,v,undef,undef,undef,undef,undef,undef,undef,undef,undef,undef,undef,undef,undef,undef,undef]
theorem sC (p q r:Value):Recovers Tryz.prog (match Tryz.f26.body with|some (.seq (.region _ ops _) _)=>ops|_=>#[]) ([p,q,r]++List.replicate (22 - [p,q,r].length) undef) (wS p q r):=by
 intro cs w Q hQ;unfold wpOpsS
 simp[Tryz.f26,List.range,List.range.loop,wpOpsS,Region.wanted,yielded,execOp,resolve,invoke,builtin,act,Act.put]
 cases hrec:recoverD cs with
 | none=>exact hQ _ _ (.inr ⟨hrec,rfl,rfl⟩)
 | some x=>exact hQ _ _ (.inl hrec)
theorem pleave_ok (s:aVs)(h:Heap)(R:Ending→Heap→Prop)(p q r:Value)
  (hr:RetVC Tryz.prog Tryz.f13 s h fun v h=>R (.returned v) h) :
  LeaveVC Tryz.prog Tryz.f13 ⟨.fn (.func 26) ⟨[p,q,r]⟩,#[]⟩ .returning s h R:=by
 refine LeaveVC.recovers (f:=wS p q r) .nilIface Tryz.func26 rfl (n:=22) (by kernel_rfl) (by kernel_rfl) rfl (.inl ⟨rfl,rfl⟩) (sC p q r) ?_;refine rR (neI aCg (by first|assumption|rfl) ?_);refine aDT ?_;exact hr
theorem pleave_err (s:aVs)(h:Heap)(R:Ending→Heap→Prop)(B:Base)(b2 b3 b4:Nat)(x y z:Value)(e:Int×Nat)
  (o0:Own B [box b2 [x] 24,box b3 [y] 27,box b4 [z] 3] h)
  (h2:sget s 2=.pointer (some ⟨b2,0,none⟩)) (h3:sget s 3=.pointer (some ⟨b3,0,none⟩)) (h4:sget s 4=.pointer (some ⟨b4,0,none⟩))
  (hR:∀ h',Own B [] h'→R (.returned (.tuple ⟨[.agg ⟨[aK]⟩,.int .i64 e.1,.int .i64 e.2]⟩)) h') :
  LeaveVC Tryz.prog Tryz.f13 ⟨.fn (.func 26) ⟨[.pointer (some ⟨b2,0,none⟩),.pointer (some ⟨b3,0,none⟩),.pointer (some ⟨b4,0,none⟩)]⟩,#[]⟩ (.panicking (lQ e)) s h R:=by
 refine LeaveVC.recovers (f:=wS (.pointer (some ⟨b2,0,none⟩)) (.pointer (some ⟨b3,0,none⟩)) (.pointer (some ⟨b4,0,none⟩))) (.iface 68 (.agg ⟨[.int .i64 e.1,.int .i64 e.2]⟩)) Tryz.func26 rfl (n:=22) (by kernel_rfl) (by kernel_rfl) rfl (.inr rfl) (sC _ _ _) ?_;refine rR (neI aCg (by first|assumption|rfl) ?_);refine aDS ?_;refine rR (assertOk con68 rfl ?_);(refine aDP o0 ty68 ?_;intro b12 m12 o12);(refine aDh o12 3 rfl ty68 rfl (by decide) (aI ⟨rfl,rfl⟩ ?_);intro m13 o13);refine aDT ?_;refine DrawVC.introB b12 [0,1,3] [2,4] [7] [0,1,2,3,4,5,6,7] mixed (by kernel_rfl) rfl (fun _ _ _ _ h=>h) ?_;refine aDl wO ?_;refine fA st68 rfl rfl rfl ?_;refine StillVCA.load1 iX rfl rfl ((o13.cellB 3 rfl _).trans rfl) ?_;refine fA st68 rfl rfl rfl ?_;refine StillVCA.load1 aY rfl rfl ((o13.cellB 3 rfl _).trans rfl) ?_;(refine aDN o13 0 rfl oM rfl (by simp) (aI ⟨rfl,rfl⟩ ?_);intro m25 o25);refine aI ((o25.boxBlk 3 rfl).trans (o13.boxBlk 3 rfl).symm) ?_;(refine aDN o25 1 rfl iX rfl (by simp) (aI ⟨rfl,rfl⟩ ?_);intro m26 o26);refine aI ((o26.boxBlk 3 rfl).trans (o25.boxBlk 3 rfl).symm) ?_;(refine aDN o26 2 rfl aY rfl (by simp) (aI ⟨rfl,rfl⟩ ?_);intro m27 o27);exact RetVC.cell3A rfl oM rfl iX aY h2 h3 h4 (o27.cellB 0 rfl 0) (o27.cellB 1 rfl 0) (o27.cellB 2 rfl 0) (hR _ (o27.sel [] rfl))
def xN (I:Item):List aVs→List It→Prop
 | [],[]=>True
 | c::cs,x::xs=>itR I c x∧xN I cs xs
 | _,_=>False
theorem itR.mono {I J:Item}(hm:∀ h,J.sat h→I.sat h) {c:aVs}{x:It}(r:itR I c x):itR J c x:=by
 obtain⟨vc,vn,vt,vf,vv,vd,e0,e1,e2,e3,e4,e5,e6,e7,e8,h,r1,r2,r3,r4,r5,r6,rx⟩:=r
 exact⟨vc,vn,vt,vf,vv,vd,e0,e1,e2,e3,e4,e5,e6,e7,e8,h,r1.mono hm,r2.mono hm,r3.mono hm,r4.mono hm,r5.mono hm,r6.mono hm,rx.mono hm⟩
theorem itR.len {I:Item}{c:aVs}{x:It}(r:itR I c x):c.length=25:=by
 obtain⟨vc,vn,vt,vf,vv,vd,e0,e1,e2,e3,e4,e5,e6,e7,e8,rfl,_⟩:=r
 rfl
theorem itR.one {I:Item}{h:Heap}(hI:I.sat h) {c:aVs}{x:It}(r:itR I c x):∀ u∈c,u.oneCell'=true:=by
 obtain⟨vc,vn,vt,vf,vv,vd,e0,e1,e2,e3,e4,e5,e6,e7,e8,rfl,r1,r2,r3,r4,r5,r6,rx⟩:=r
 obtain⟨y1,z1,rfl⟩:=r1.isS hI
 obtain⟨y2,z2,rfl⟩:=r2.isS hI
 obtain⟨y3,z3,rfl⟩:=r3.isS hI
 obtain⟨y4,z4,rfl⟩:=r4.isS hI
 obtain⟨y5,z5,rfl⟩:=r5.isS hI
 obtain⟨y6,z6,rfl⟩:=r6.isS hI
 have he:=aEh.1 (fF hI rx);intro u hu;unfold itC at hu;have e:[Value.int .i64 x.kind,.string ⟨⟨x.name⟩⟩,.int .i64 x.off,.string ⟨⟨x.table⟩⟩,.string ⟨⟨x.attr⟩⟩,.slice y1 x.cols.length z1,.slice y2 x.names.length z2,.int .i64 x.by_,.int .i64 x.n,.int .i64 x.m,.slice y3 x.terms.length z3,.string ⟨⟨x.other⟩⟩,.string ⟨⟨x.oattr⟩⟩,.slice y4 x.fixed.length z4,.slice y5 x.vars.length z5,.slice y6 x.conds.length z6,e0,e1,e2,e3,e4,e5,e6,e7,e8]=[Value.int .i64 x.kind,.string ⟨⟨x.name⟩⟩,.int .i64 x.off,.string ⟨⟨x.table⟩⟩,.string ⟨⟨x.attr⟩⟩,.slice y1 x.cols.length z1,.slice y2 x.names.length z2,.int .i64 x.by_,.int .i64 x.n,.int .i64 x.m,.slice y3 x.terms.length z3,.string ⟨⟨x.other⟩⟩,.string ⟨⟨x.oattr⟩⟩,.slice y4 x.fixed.length z4,.slice y5 x.vars.length z5,.slice y6 x.conds.length z6]++[e0,e1,e2,e3,e4,e5,e6,e7,e8]:=rfl
 rw[e]at hu
 rcases aEB.1 hu with hu|hu
 ·have ha:∀(l:aVs),l.all (fun u=>u.oneCell')=true→u∈l→u.oneCell'=true:=fun l h k=>aEh.1 h u k
  exact ha _ rfl hu
 ·exact he u hu
theorem xN.mono {I J:Item}(hm:∀ h,J.sat h→I.sat h):∀ {cs:List aVs}{xs:List It},xN I cs xs→xN J cs xs
 | [],[],_=>trivial
 | _::_,_::_,h=>⟨h.1.mono hm,xN.mono hm h.2⟩
 | [],_::_,h=>h.elim
 | _::_,[],h=>h.elim
theorem xN.snoc {I:Item}:∀ {cs:List aVs}{xs:List It}{c:aVs}{x:It},xN I cs xs→itR I c x→xN I (cs++[c]) (xs++[x])
 | [],[],_,_,_,k=>⟨k,trivial⟩
 | _::_,_::_,_,_,h,k=>⟨h.1,xN.snoc h.2 k⟩
 | [],_::_,_,_,h,_=>h.elim
 | _::_,[],_,_,h,_=>h.elim
def jA (I:Item)(v:Value)(xs:List It):Prop:=∃ cs,Reads I 25 v xs.length cs.flatten∧xN I cs xs
def jR (h:Heap)(t:aBs)(v:Value)(h':Heap):Prop :=
 if 20000<t.length then v=.tuple ⟨[.agg ⟨[aK]⟩,.int .i64 3,.int .i64 (-1)]⟩∧Own h [] h'
 else match jS t with
  | .error (e,i)=>v=.tuple ⟨[.agg ⟨[aK]⟩,.int .i64 e,.int .i64 i]⟩∧Own h [] h'
  | .ok xs=>∃ u I,v=.tuple ⟨[.agg ⟨[u]⟩,.int .i64 0,.int .i64 0]⟩∧jA I u xs∧Own h [I] h'
theorem readR_num {l:aBs}{kd n:Int}{x:aBs}{len:Nat}(h:eA l=.tok kd x n len):0≤n∧n≤10000000000:=by
 cases l with
 | nil=>cases h
 | cons c r =>
  cases hlet:cV c with
  | true =>
   rw[iC hlet]at h
   split at h<;>cases h
   decide
  | false =>
   cases hdig:cA c with
   | true =>
    rw[kR hlet hdig]at h
    split at h
    ·cases h
    ·rename_i hn
     cases h
     have h1:=undec_lt ((c::r).take (bO cA (c::r))) (pK cA (c::r));have h2:((c::r).take (bO cA (c::r))).length≤10:=by rw[aED];omega
     have h3:10 ^ ((c::r).take (bO cA (c::r))).length≤10 ^ 10:=Nat.pow_le_pow_right (by decide) h2
     omega
   | false =>
    by_cases h34:c.toNat=34
    ·rw[kP hlet hdig h34]at h
     have:=(rX _ _ _ h).2
     omega
    ·rw[gJ hlet hdig h34]at h
     split at h<;>cases h
     decide
theorem yW:∀(f:Nat)(l:aBs)(i k:Nat),(∀ e j,gZ f l i k=.error (e,j)→e≠0)∧(∀ ts,k≤5000→gZ f l i k=.ok ts→k+ts.length≤5000∧TokOK ts)
 | 0,l,i,k=>⟨fun _ _ h=>(by cases h),fun ts hk h=>(by cases h;exact⟨by simpa using hk,(fun _ h=>by cases h)⟩)⟩
 | f+1,[],i,k=>⟨fun _ _ h=>(by cases h),fun ts hk h=>(by cases h;exact⟨by simpa using hk,(fun _ h=>by cases h)⟩)⟩
 | f+1,c::r,i,k=>by
  cases hr:eA (c::r) with
  | err e =>
   rw[xL (by simp) hr]
   refine⟨fun e' j h=>?_,fun ts _ h=>(by cases h)⟩
   cases h
   have:=readR_err hr
   omega
  | none=>exact absurd hr (aAx _)
  | tok kd x n len =>
   by_cases hk:k=5000
   ·subst hk
    rw[aAQ (by simp) hr]
    exact⟨fun e' j h=>(by cases h;decide),fun ts _ h=>(by cases h)⟩
   ·have hE:=aCc (f:=f) (i:=i) (k:=k) (by simp) hr hk []
    obtain⟨ih1,ih2⟩:=yW f ((c::r).drop (len+cL false ((c::r).drop len))) (i+(len+cL false ((c::r).drop len))) (k+1)
    generalize gZ f ((c::r).drop (len+cL false ((c::r).drop len))) (i+(len+cL false ((c::r).drop len))) (k+1)=G at *
    generalize gZ (f+1) (c::r) i k=H at *
    cases G with
    | error y =>
     cases H with
     | error y'=>simp only[zG]at hE;cases hE;exact⟨fun e j h=>ih1 e j h,fun ts _ h=>(by cases h)⟩
     | ok ts=>cases hE
    | ok us =>
     cases H with
     | error y'=>cases hE
     | ok ts =>
      simp only[zG,lnA,Except.ok.injEq]at hE
      subst hE
      refine⟨fun _ _ h=>(by cases h),fun ts hk' h=>?_⟩
      cases h
      obtain⟨q1,q2⟩:=ih2 us (by omega) rfl
      refine⟨by simp;omega,fun t ht=>?_⟩
      simp only[lcA,lnA,aEg]at ht
      rcases ht with rfl|ht
      ·exact readR_num hr
      ·exact q2 t ht
theorem oD {t:aBs}:(∀ e j,rF t=.error (e,j)→e≠0)∧(∀ ts,rF t=.ok ts→ts.length≤5000∧TokOK ts):=by
 obtain⟨h1,h2⟩:=yW t.length (t.drop (cL false t)) (cL false t) 0
 exact⟨h1,fun ts h=>by have:=h2 ts (by decide) h;exact⟨by omega,this.2⟩⟩
def leftP (bp:Nat)(h:Heap):Nat:=match bC h ⟨bp,0,none⟩ with
 | some (.slice _ n _)=>n
 | _=>0
theorem leftP_of {B:Base}{L:List Item}{h:Heap}{bp n:Nat}{cs:aVs}{t:TypeId}{a:Option Addr}{c:Nat}(o:Own B L h)(k:Nat)(hk:L[k]?=some (box bp cs t))(hc:cs[0]?=some (.slice a n c)):leftP bp h=n:=by
 unfold leftP
 rw[(o.cellB k hk 0).trans hc]
theorem zC {z f:Nat}{acc:List It}{t:Tok}{r:List Tok}(h:acc.length=200):jT z (f+1) acc (t::r)=.error (3,t.off):=by
 rw[jT,if_pos h]
theorem aAV {z f:Nat}{acc:List It}{t:Tok}{r:List Tok}{e:Int×Nat}(h:acc.length≠200)(hi:hG z (t::r)=.error e):jT z (f+1) acc (t::r)=.error e:=by
 rw[jT,if_neg h,hi]
theorem aCe {z f:Nat}{acc:List It}{t:Tok}{r q:List Tok}{x:It}(h:acc.length≠200)(hi:hG z (t::r)=.ok (x,q)):jT z (f+1) acc (t::r)=jT z f (acc++[x]) q:=by
 rw[jT,if_neg h,hi]
theorem item_call {s:aVs}{h:Heap}{K:KK}{Q:QQ}{B:Base}{L:List Item}{bp z:Nat}{tk:Item}{w:Value}{t0:Tok}{r0:List Tok}(hW:mG B.h)(o:Own B L h)(e:pick L [0,1]=PSt bp z w tk)(hR:cR tk w (t0::r0))(hl:(t0::r0).length≤5000)
  (hret:∀ a r w' v I h',hG z (t0::r0)=.ok (a,r)→itV a v I→r.length≤(t0::r0).length→cR tk w' r→Own B ([box bp [w',.int .i64 z] 72,tk,I]++tX L) h'→K v false h')
  (hpan:∀ e w' h',hG z (t0::r0)=.error e→Own B (PSt bp z w' tk++tX L) h'→Q (.panic (lQ e)) s h'):CallVC Tryz.prog 28 [.pointer (some ⟨bp,0,none⟩)] s h K Q:=by
 have ol:=o.lend [0,1] [2,3,4,5,6,7,8,9] rfl
 rw[e]at ol
 exact dB.call (item_spec t0 r0 ⟨B.h,tX L++B.T⟩ bp z tk w h hW ol hR hl) (fun a r w' v I h' h1 h2 h3 h4 h5=>hret a r w' v I h' h1 h2 h3 h4 h5.back) (fun e w' h' h1 h2=>hpan e w' h' h1 h2.back)
theorem aAW {z:Nat}{ts:List Tok}{x:It}{r:List Tok}(h:hG z ts=.ok (x,r)):r.length<ts.length:=by
 cases ts with
 | nil=>exact absurd h (by intro e;cases e)
 | cons t q =>
  rw[aAX]at h
  cases hq:eO z eF 1 (t::q) with
  | error e=>rw[aDg hq]at h;cases h
  | ok p =>
   obtain⟨k,w⟩:=p
   rw[aDf hq]at h
   have h1:=(wK _ _ _ hq).2.2;have h2:=(Dec.bind (Dec.ifP (Dec.name z)) fun nm=>Dec.bind (Dec.part z k (x0 k nm t.off)) fun _=>Dec.bind (show Dec (if k=4 then aX z [[125]] else aX z [[59]]) by split<;>exact Dec.need _ _) fun _=>Dec.pure _) _ _ _ h
   omega
theorem parse_spec (t:aBs)(h:Heap)(hl:t.length≤9223372036854775807)(hW:mG h) :
  cK Tryz.prog 13 [.string ⟨⟨t⟩⟩] h (jR h t):=by
 refine Spec.enterD2 Tryz.func13 rfl (n:=44) (by kernel_rfl) (by kernel_rfl) ?_;have o0:=Own.refl h;(refine aDP o0 oM ?_;intro b10 m10 o10);(refine aDP o10 iX ?_;intro b11 m11 o11);(refine aDP o11 aY ?_;intro b12 m12 o12);refine aDV (lex_spec t _ hl) ?_;rintro v h1 hv;have key:(∃ e i:Int,e≠0∧v=.tuple ⟨[.slice none 0 0,.int .i64 e,.int .i64 i]⟩∧Own m12 [] h1∧∀ h',Own h [] h'→jR h t (.tuple ⟨[.agg ⟨[aK]⟩,.int .i64 e,.int .i64 i]⟩) h') ∨
   (∃ ts u,rF t=.ok ts∧¬ 20000<t.length∧v=.tuple ⟨[u,.int .i64 0,.int .i64 0]⟩∧Own m12 [row u 112 4 ts.length (ts.flatMap rL)] h1):=by
  unfold mN at hv;by_cases hbig:20000<t.length
  ·rw[if_pos hbig]at hv
   exact .inl ⟨3,-1,by decide,hv.1,hv.2,fun h' o'=>by rw[jR,if_pos hbig];exact⟨rfl,o'⟩⟩
  ·rw[if_neg hbig]at hv
   cases hL:rF t with
   | error e =>
    obtain⟨e,i⟩:=e
    rw[hL]at hv
    exact .inl ⟨e,i,oD.1 e i hL,hv.1,hv.2,fun h' o'=>by rw[jR,if_neg hbig,jS,hL];exact⟨rfl,o'⟩⟩
   | ok ts =>
    rw[hL]at hv
    obtain⟨u,h2,h3⟩:=hv
    exact .inr ⟨ts,u,rfl,hbig,h2,h3⟩
 clear hv
 rcases key with ⟨e,i,hne,rfl,oc,hpost⟩|⟨ts,u,hL,hbig,rfl,oc⟩
 ·have o1:=oc.thenE ‹_›
  clear oc;(refine aDh o1 1 rfl iX rfl (by decide) (aI ⟨rfl,rfl⟩ ?_);intro m50 o50);(refine aDh o50 2 rfl aY rfl (by decide) (aI ⟨rfl,rfl⟩ ?_);intro m51 o51);refine rR (aDe o51 1 rfl iX rfl rfl ?_);refine aDp (fun c53=>?_) (fun hc=>absurd hc (by first|omega|assumption|decide|exact rfl));refine DrawVC.introG (fun h h'=>h'[b11]?=h[b11]?∧h'[b12]?=h[b12]?) (fun a=>a.block=b11∨a.block=b12) (fun _=>⟨rfl,rfl⟩) (fun h h' a v he ha hc=>by rcases ha with rfl|rfl;rw[iG he.1];exact hc;rw[iG he.2];exact hc) [0] [1,2] [5] [0,1,2,3,4,5] mixed (by kernel_rfl) rfl (fun _ _ _ _ h=>h) ?_;refine aDl wO ?_;refine StillVCA.load1 iX rfl (.inl rfl) ((Own.cellB ‹_› 1 rfl _).trans rfl) ?_;refine StillVCA.load1 aY rfl (.inr rfl) ((Own.cellB ‹_› 2 rfl _).trans rfl) ?_;(refine aDh o51 0 rfl oM rfl (by decide) (aI ⟨rfl,rfl⟩ ?_);intro m63 o63)
  refine⟨⟨(Own.satK o63 1 rfl).trans (Own.satK o51 1 rfl).symm,(Own.satK o63 2 rfl).trans (Own.satK o51 2 rfl).symm⟩,?_⟩
  (refine aDN o63 1 rfl iX rfl (by simp) (aI ⟨rfl,rfl⟩ ?_);intro m70 o70)
  refine⟨⟨(Own.satK o70 1 rfl).trans (Own.satK o63 1 rfl).symm,(Own.satK o70 2 rfl).trans (Own.satK o63 2 rfl).symm⟩,?_⟩
  (refine aDN o70 2 rfl aY rfl (by simp) (aI ⟨rfl,rfl⟩ ?_);intro m80 o80);exact RetVC.cell3A rfl oM rfl iX aY rfl rfl rfl (o80.cellB 0 rfl 0) (o80.cellB 1 rfl 0) (o80.cellB 2 rfl 0) (hpost _ (o80.sel [] rfl))
 ·have hP:∀ v h',jR h t v h'=_:=fun v h'=>by rw[jR,if_neg hbig]
  unfold jS at hP
  simp only[hL]at hP
  obtain⟨hts,hok⟩:=oD.2 ts hL
  have o1:=Own.call ‹_› oc
  simp only[lcA,lnA]at o1
  clear oc
  obtain⟨ua,uc,rfl⟩:=o1.rowIs 3 rfl
  (refine aDh o1 1 rfl iX rfl (by decide) (aI ⟨rfl,rfl⟩ ?_);intro m100 o100);(refine aDh o100 2 rfl aY rfl (by decide) (aI ⟨rfl,rfl⟩ ?_);intro m101 o101);refine rR (aDe o101 1 rfl iX rfl rfl ?_);refine aDT ?_;generalize hT:jT t.length (ts.length+1) [] ts=T at hP;refine DeferVC.closureP (fun c s hh=>∃(e:Int×Nat) (x:Value),c=lQ e∧T=.error e∧sget s 2=.pointer (some ⟨b10,0,none⟩)∧sget s 3=.pointer (some ⟨b11,0,none⟩)∧sget s 4=.pointer (some ⟨b12,0,none⟩)∧Own h [box b10 [x] 24,box b11 [.int .i64 0] 27,box b12 [.int .i64 0] 3] hh) (by simp) ?_;refine aI ?_ ?_
  ·rintro c s hh ⟨e,x,rfl,hTe,s2,s3,s4,oo⟩
   refine pleave_err _ _ _ _ b10 b11 b12 _ _ _ e oo s2 s3 s4 fun h' o'=>?_;show jR h t _ _
   rw[hP,hTe]
   exact⟨rfl,o'⟩
  refine rR (aDA rfl cX ?_);refine rR (aDl fW ?_);refine aI rfl ?_;refine aI rfl ?_;(refine aDz o101 rfl ?_;intro b122 m122 o122);have on:Own h [box b122 [.slice ua ts.length uc,.int .i64 t.length] 72,row (.slice ua ts.length uc) 112 4 ts.length (ts.flatMap rL),box b10 [.slice none 0 0] 24,box b11 [.int .i64 0] 27,box b12 [.int .i64 0] 3,row (.slice none 0 0) 44 25 0 [],iF] m122:=((o122.nilRow 44 25).emptyI').sel [5,4,1,2,3,6,0] rfl;refine aD1 [24,25,26,27,28,29,30,31,32,33,34,35,36,37,38,39,40,41,42] [] (fun _ hh=>∃(f:Nat) (acc:List It) (q:List Tok) (w:Value) (va:Option Addr) (vc:Nat) (I:Item) (cs:List aVs),jT t.length f acc q=T∧q.length<f∧acc.length≤200∧q.length≤5000∧cR (row (.slice ua ts.length uc) 112 4 ts.length (ts.flatMap rL)) w q∧xN I cs acc∧Own h [box b122 [w,.int .i64 t.length] 72,row (.slice ua ts.length uc) 112 4 ts.length (ts.flatMap rL),box b10 [.slice va acc.length vc] 24,box b11 [.int .i64 0] 27,box b12 [.int .i64 0] 3,row (.slice va acc.length vc) 44 25 acc.length cs.flatten,I] hh) (fun _ hh=>leftP b122 hh) ?_ ?_
  ·exact⟨ts.length+1,[],ts,.slice ua ts.length uc,none,0,iF,[],hT,by omega,by simp,hts,⟨dQ,hok⟩,trivial,on⟩
  ·rintro _ junk hh ⟨f,acc,q,w,va,vc,I,cs,hQ,hf,hacc,hq5,hR,hI,oh⟩
   obtain⟨f,rfl⟩:∃ f',f=f'+1:=⟨f - 1,by omega⟩
   obtain⟨wa,wc,rfl⟩:=hR.1.isS (Own.satK oh 1 rfl)
   have hm0:=leftP_of oh 0 rfl rfl;cases q with
   | nil =>
    have hQ':T=.ok acc:=by rw[← hQ];rfl
    refine rR (nC rfl ?_);refine rR (fA fW rfl rfl rfl ?_);refine rR (aDe oh 0 rfl eX rfl rfl ?_);refine rR (aDn rfl fX ?_);refine aDT ?_;refine rR (aDi oh 2 rfl oM rfl rfl rfl ?_);(refine aDN oh 2 rfl oM rfl (by simp) (aI ⟨rfl,rfl⟩ ?_);intro m205 o205);(refine aDh o205 3 rfl iX rfl (by decide) (aI ⟨rfl,rfl⟩ ?_);intro m206 o206);(refine aDh o206 4 rfl aY rfl (by decide) (aI ⟨rfl,rfl⟩ ?_);intro m207 o207);refine pleave_ok _ _ _ _ _ _ ?_;refine RetVC.cell3A rfl oM rfl iX aY rfl rfl rfl (o207.cellB 2 rfl 0) (o207.cellB 3 rfl 0) (o207.cellB 4 rfl 0) ?_;show jR h t _ _
    rw[hP,hQ']
    exact⟨_,_,rfl,⟨cs,dQ.inl,hI.mono (fun _ (s:(eK _ _).sat _)=>s.2)⟩,(o207.sel [5,6] rfl).join⟩
   | cons tk0 r0 =>
    have hln:(tk0::r0).length=r0.length+1:=rfl;refine rR (nC rfl ?_);refine rR (fA fW rfl rfl rfl ?_);refine rR (aDe oh 0 rfl eX rfl rfl ?_);refine rR (aDn rfl fX ?_);refine aDR (fun c304=>?_) (fun hc=>absurd (by omega) hc);refine rR (fA wO rfl rfl rfl ?_);refine rR (aDe oh 2 rfl aCH rfl rfl ?_);refine rR (aDn rfl uF ?_);by_cases hfull:acc.length=200
    ·refine aDR (fun c320=>?_) (fun hc=>absurd (by omega) hc)
     refine aDW (lU 3 b122 t.length _ (tk0::r0) _ (Own.cellB ‹_› 0 rfl 0) (Own.cellB ‹_› 0 rfl 1) (Own.reads ‹_› 1 hR.1 rfl)) (fun _ _ h=>h.elim) (fun c h4 ⟨hc,ho⟩=>?_);subst hc
     exact⟨(3,tk0.off),_,rfl,by rw[← hQ,zC hfull],rfl,rfl,rfl,(ho.thenE ‹_›).sel [2,3,4] rfl⟩
    ·refine aDR (fun hc=>absurd hc (by omega)) (fun c340=>?_)
     refine DrawVC.introBP b10 [0,2,6] [1] [5,7] [0,1,2,3,4,5,6,7] mixed (by kernel_rfl) rfl (aDb.of [36,37,38,39,40,41,42] rfl fun d hd c s v h ⟨e,x,g1,g2,s2,s3,s4,oo⟩=>⟨e,x,g1,g2,(rQ (by rintro rfl;cases hd)).symm.trans s2,(rQ (by rintro rfl;cases hd)).symm.trans s3,(rQ (by rintro rfl;cases hd)).symm.trans s4,oo⟩) ?_;refine fA wO rfl rfl rfl ?_;refine StillVCA.load1 aCH rfl rfl ((oh.cellB 2 rfl _).trans rfl) ?_;refine item_call hW ‹_› rfl hR (by omega) (fun x q2 w2 v J h3 hm hv hle hR2 oq=>?_) (fun e w2 h3 hm o2=>?_)
     ·obtain⟨c,rfl,hc⟩:=hv
      have hlt:=aAW hm
      rw[aCe hfull hm]at hQ
      have o9:=oq
      simp only[PSt,pick,lcA,lnA,lgS,lgZ,lgN]at o9
      clear oq
      refine⟨(Own.satK o9 3 rfl).trans (Own.satK (x:=box b10 _ _) ‹_› 2 rfl).symm,?_⟩
      obtain⟨wa2,wc2,rfl⟩:=hR2.1.isS (Own.satK o9 1 rfl)
      have hcl:=hc.len;have hc1:=hc.one (Own.satK o9 2 rfl);(refine aDD o9 uF lJ rfl rfl (by decide) ?_);refine aI (by rw[hcl];exact(aEh.2 hc1)) ?_;refine Eq.mpr (lappV_eq c [] _) ?_
      rw[aEb]
      intro b905 m905 o905
      refine⟨(Own.satK o905 3 rfl).trans (Own.satK o9 3 rfl).symm,?_⟩
      refine aDQ ‹_› 6 rfl uF lJ (by decide) (Own.boxArrN ‹_› 8 rfl (n:=1) (by simpa using hcl) (by omega)) (by simpa using hc1) (by simp only[maxLen];omega) (by omega) ?_;intro v915 m915 o915
      obtain⟨xa,xc,rfl⟩:=o915.rowIs 6 rfl
      refine fA wO rfl rfl rfl ?_;(refine aDN o915 3 rfl aCH rfl (by simp) (aI ⟨rfl,rfl⟩ ?_);intro m921 o921)
      refine⟨rfl,?_⟩
      have e2:(acc++[x]).length=acc.length+1:=by simp
      have e1:(cs++[c]).flatten=cs.flatten++c:=by simp
      refine⟨⟨f,acc++[x],q2,_,xa,xc,eK J I,cs++[c],hQ,by omega,by omega,by omega,hR2,xN.snoc (hI.mono (fun _ (s:(eK _ _).sat _)=>s.2)) (hc.mono (fun _ (s:(eK _ _).sat _)=>s.1)),?_⟩,?_⟩
      ·rw[e1,e2]
       exact(Own.sel ‹_› [2,7,0,1,3,4,5,6] rfl).join.sel [1,2,3,4,5,6,0] rfl
      ·have hm1:=leftP_of (bp:=b122) ‹_› 0 rfl rfl
       rw[hm0,hm1]
       omega
     ·refine⟨e,_,rfl,by rw[← hQ,aAV hfull hm],rfl,rfl,rfl,Own.sel o2 [2,3,4] rfl⟩
end Go.Proofs.YtohlogbnpfofpaaGreatDoor
namespace Go.Proofs.YtohlogbnpfofpaaGreatDoor
open Go
def goF (P:Program)(rec_:TypeId→Option (Bool×List Nat)):List Field→Nat→Option (List Nat)
 | [],_=>some []
 | f::fs,o =>
  if f.name != "_"&&f.offset == o then
   match rec_ f.type with
   | none=>none
   | some (_,ks)=>if (P.info? f.type).map (·.size) == some ks.length then(goF P rec_ fs (o+ks.length)).map (ks++·) else none
  else none
def sV (P:Program):Nat→TypeId→Option (Bool×List Nat)
 | 0,_=>none
 | d+1,t=>match P.underlying t with
  | some .bool=>some (false,[1])
  | some (.int _)=>some (false,[2])
  | some .string=>some (false,[3])
  | some (.struct fs)=>if P.stoodInHeld t then none else(goF P (sV P d) fs.toList 0).map fun ks=>(true,ks)
  | _=>none
section
variable {P : Program}
theorem deepP_und {d:Nat}{t:TypeId}{b:Bool}{ks:List Nat}(h:sV P d t=some (b,ks)):∃ u,P.underlying t=some u∧lX u=b:=by
 cases d with
 | zero=>cases h
 | succ d =>
  unfold sV at h;split at h
  ·rename_i hu;cases h;exact⟨_,hu,rfl⟩
  ·rename_i hu;cases h;exact⟨_,hu,rfl⟩
  ·rename_i hu;cases h;exact⟨_,hu,rfl⟩
  ·rename_i hu
   split at h
   ·cases h
   ·obtain⟨ks',_,h2⟩:=aEi.1 h
    cases h2
    exact⟨_,hu,rfl⟩
  ·cases h
def aBo (b:Bool)(ks:List Nat)(v:Value):Prop:=match b with
 | true=>∃ xs,v=.agg ⟨xs⟩∧xs.map gT=ks
 | false=>[gT v]=ks
theorem part_fits {t:TypeId}{b:Bool}{ks:List Nat}{xs:aVs}{o:Nat}{u:TypeDesc}(hu:P.underlying t=some u)(hb:lX u=b)(hs:(P.info? t).map (·.size)=some ks.length)(hk:((xs.drop o).take ks.length).map gT=ks)(h1:b=false→ks.length=1)(w:World) :
  ∃ v,(part t (⟨xs⟩:Array Value) o).run P w=.ok v w∧aBo b ks v:=by
 have hI:(isAgg t).run P w=.ok b w:=by
  simp only[isAgg,Sem.run_bind,run_underlying hu,Result.andThen_ok]
  subst hb;cases u<;>simp[lX]
 cases b with
 | true =>
  obtain⟨i,hi,hsz⟩:=aEi.1 hs
  have hS:(sizeOf t).run P w=.ok ks.length w:=by simp[sizeOf,typeInfo,hi,hsz]
  refine⟨.agg ((⟨xs⟩:Array Value).extract o (o+ks.length)),by simp[part,hI,hS],?_⟩
  refine⟨(xs.drop o).take ks.length,?_,hk⟩
  congr 1
  apply Array.toList_inj.1
  simp[List.take_drop]
 | false =>
  have hl:=h1 rfl
  match ks,hl with
  | [k],_ =>
   have:∃ v,xs[o]?=some v∧gT v=k:=by
    cases hx:xs.drop o with
    | nil=>rw[hx]at hk;simp at hk
    | cons y ys =>
     rw[hx]at hk
     refine⟨y,?_,by simpa using hk⟩
     have:=congrArg (·[0]?) hx
     simpa using this
   obtain⟨v,hv,hkv⟩:=this
   exact⟨v,by simp[part,hI,hv],by simp[aBo,hkv]⟩
theorem deepP_one {d:Nat}{t:TypeId}{ks:List Nat}(h:sV P d t=some (false,ks)):ks.length=1:=by
 cases d with
 | zero=>cases h
 | succ d =>
  unfold sV at h;split at h
  ·cases h;rfl
  ·cases h;rfl
  ·cases h;rfl
  ·split at h
   ·cases h
   ·obtain⟨ks',_,h2⟩:=aEi.1 h
    cases h2
  ·cases h
theorem zE {D:Nat}{rec_:TypeId→Option (Bool×List Nat)}{xs:aVs}(w:World)
  (hu:∀ t b ks,rec_ t=some (b,ks)→(∃ u,P.underlying t=some u∧lX u=b)∧(b=false→ks.length=1))
  (hr:∀ t b ks v,rec_ t=some (b,ks)→aBo b ks v→(Op.equalIn D t v v).run P w=.ok true w) :
  ∀(fs:List Field) (o:Nat) (ks:List Nat),goF P rec_ fs o=some ks→(xs.drop o).map gT=ks→(Op.eqFields D ⟨xs⟩ ⟨xs⟩ fs).run P w=.ok true w
 | [],_,_,_,_=>by simp[Op.eqFields]
 | f::fs,o,ks,h,hk=>by
  unfold goF at h;split at h
  ·rename_i hn
   simp only[aD8,bne_iff_ne,ne_eq,beq_iff_eq]at hn
   obtain⟨hn,rfl⟩:=hn
   split at h
   ·cases h
   ·rename_i b k1 hrec
    split at h
    ·rename_i hsz
     simp only[beq_iff_eq]at hsz
     obtain⟨k2,h2,h3⟩:=aEi.1 h
     subst h3
     obtain⟨⟨u,hu1,hu2⟩,h1⟩:=hu _ _ _ hrec
     have hka:((xs.drop f.offset).take k1.length).map gT=k1:=by
      have:=congrArg (List.take k1.length) hk
      rw[← List.map_take]at this
      simpa using this
     have hkb:(xs.drop (f.offset+k1.length)).map gT=k2:=by
      have:=congrArg (List.drop k1.length) hk
      rw[← List.map_drop,aEJ]at this
      simpa using this
     obtain⟨v,hp,hf⟩:=part_fits (P:=P) hu1 hu2 hsz hka h1 w
     have ih:=zE (xs:=xs) w hu hr fs _ k2 h2 hkb
     simp only[Op.eqFields,Sem.run_bind,Sem.run_ite]
     rw[if_pos hn,hp]
     simp only[Result.andThen_ok]
     rw[hp]
     simp only[Result.andThen_ok]
     rw[hr _ _ _ _ hrec hf]
     simpa using ih
    ·cases h
  ·cases h
theorem aCq (w:World):∀(d e:Nat)(t:TypeId)(b:Bool)(ks:List Nat)(v:Value),sV P d t=some (b,ks)→aBo b ks v→(Op.equalIn (d+e) t v v).run P w=.ok true w
 | 0,_,_,_,_,_,h,_=>by cases h
 | d+1,e,t,b,ks,v,h,hf=>by
  rw[show d+1+e=(d+e)+1 by omega]
  unfold sV at h;split at h
  ·rename_i hu
   cases h
   cases v<;>simp[aBo,gT]at hf
   rw[run_equalIn_bool w _ t _ _ hu];simp
  ·rename_i hu
   cases h
   cases v<;>simp[aBo,gT]at hf
   rw[run_equalIn_int w _ t _ _ _ _ hu];simp
  ·rename_i hu
   cases h
   cases v<;>simp[aBo,gT]at hf
   rw[run_equalIn_string w _ t _ _ hu];simp
  ·rename_i fs hu
   split at h
   ·cases h
   ·rename_i hst
    obtain⟨k',h1,h2⟩:=aEi.1 h
    cases h2
    obtain⟨xs,rfl,hk⟩:=hf
    have hfo:P.fieldsOf t=fs:=by simp[Program.fieldsOf,hu]
    rw[run_equalIn_struct w _ t ⟨xs⟩ ⟨xs⟩ (by rw[hfo];exact hu) (by simpa using hst),hfo]
    exact zE w (fun t b ks h=>⟨deepP_und h,fun hb=>by subst hb;exact deepP_one h⟩) (fun t b ks v h hf=>aCq w d e t b ks v h hf) fs.toList 0 _ h1 (by simpa using hk)
  ·cases h
variable {ty : TypeId} {s : aVs} {h : Heap} {K : KK} {Q : QQ}
theorem StillVC.neSelf {pr:Bool}{t t':TypeId}{x y:Operand}{xs:aVs}{ks:List Nat}(hp:sV P 5 t=some (true,ks))(hg:P.eqGuardType P.depth t=false)(hx:ev s x=.agg ⟨xs⟩)(hy:ev s y=.agg ⟨xs⟩)(hk:xs.map gT=ks)
  (hK:K (.bool false) false h):StillVC pr P (.binOp .neq t x y t') ty s h K :=
 .pure' _ false (fun w=>by
  have hr:(Op.equalIn 10000 t (.agg ⟨xs⟩) (.agg ⟨xs⟩)).run P w=.ok true w:=aCq w 5 9995 t true ks _ hp ⟨xs,rfl,hk⟩
  simp only[execOp,hx,hy,Sem.run_bind,run_eqGuard_agg w .neq t x y _ _ hg,Result.andThen_ok,run_neq_struct,hr,Sem.run_pure]
  rfl) hK
end
end Go.Proofs.YtohlogbnpfofpaaGreatDoor
namespace Go.Proofs.YtohlogbnpfofpaaGreatDoor
open Go StillVC
theorem dp_cond:sV Tryz.prog 5 142=some (true,[3,3,1,2,2,3,2,3,3,1,2,2,3,2]):=by kernel_rfl
theorem eg_cond:Tryz.prog.eqGuardType Tryz.prog.depth 142=false:=by kernel_rfl
theorem dp_col:sV Tryz.prog 5 132=some (true,[3,2,2,2,3]):=by kernel_rfl
theorem eg_col:Tryz.prog.eqGuardType Tryz.prog.depth 132=false:=by kernel_rfl
theorem dp_term:sV Tryz.prog 5 136=some (true,[3,2,2,2,2,2,2]):=by kernel_rfl
theorem eg_term:Tryz.prog.eqGuardType Tryz.prog.depth 136=false:=by kernel_rfl
theorem iL:∀(l:List aBs),l.flatMap zP=strs l
 | []=>rfl
 | x::l=>by
  rw[aEj,iL l]
  rfl
theorem mJ (a:List aBs)(va vb:Value)(h:Heap)(hA:Arr h va (strs a))(hB:Arr h vb (strs a))(hl:a.length≤1000000) :
  cK Tryz.prog 119 [va,vb] h fun r h'=>r=.bool true∧Own h [] h':=by
 have hsl:(strs a).length=a.length:=by simp[strs]
 refine aDX Tryz.func119 rfl Tryz.ntmps119 (by kernel_rfl) ?_;have o0:=Own.refl h;refine rR (aDF hA ‹_› aJ ?_);refine rR (aDF hB ‹_› aJ ?_);refine aDp (fun hc=>absurd (by first|omega|assumption|decide|exact rfl) hc) (fun c12=>?_);refine aD1 [4,5,11,12,13,14,15,16,17,18,19,20,21,22,23,24,25] [5] (fun vs hh=>∃(i:Nat),i≤a.length∧vs=[.int .i64 i]∧Own h [] hh) (fun vs _=>match vs with|[.int _ i]=>a.length - i.toNat|_=>0) ?_ ?_
 ·exact⟨0,by omega,rfl,o0⟩
 ·rintro vs junk hh ⟨i,hi,rfl,oh⟩
  by_cases hlt:i<a.length
  ·obtain⟨s,hs⟩:=getx hlt
   have hss:(strs a)[i]?=some (.string ⟨⟨s⟩⟩):=by simp[strs,hs]
   refine rR (aDF (hA.ext oh.ext) ‹_› aJ ?_);refine aDR (fun c21=>?_) (fun hc=>absurd (by omega) hc);refine aDU [0,1,2,4,5,6,8] [3,7] [] [0,1,2,3,4,5,6,7,8] mixed (by kernel_rfl) rfl (fun _ _ _ _ h=>h) ?_;refine idx aJ aO (hA.ext oh.ext) rfl (by omega) (by omega) ?_;refine aDG (hA.ext oh.ext) aO rfl (by first|assumption|rfl) ?_;refine idx aJ aO (hB.ext oh.ext) rfl (by omega) (by omega) ?_;refine aDG (hB.ext oh.ext) aO rfl (by first|assumption|rfl) ?_;refine aDp (fun hc=>absurd (by first|omega|assumption|decide|exact rfl) hc) (fun c26=>?_);refine aDY (by omega) (by omega) ?_
   refine⟨rfl,?_⟩
   exact⟨⟨i+1,by omega,rfl,Own.sel ‹_› [] rfl⟩,by simp;omega⟩
  ·refine rR (aDF (hA.ext oh.ext) ‹_› aJ ?_)
   refine aDR (fun hc=>absurd hc (by omega)) (fun c41=>?_);refine aDZ rfl ?_
   exact⟨rfl,oh⟩
theorem oQ (a:List Cnd)(va vb:Value)(h:Heap)(hA:dS 14 h va a.length (a.flatMap rG))(hB:dS 14 h vb a.length (a.flatMap rG))(hl:a.length≤1000000) :
  cK Tryz.prog 120 [va,vb] h fun r h'=>r=.bool true∧Own h [] h':=by
 refine aDX Tryz.func120 rfl Tryz.ntmps120 (by kernel_rfl) ?_;have o0:=Own.refl h;refine rR (aDE hA nI ?_);refine rR (aDE hB nI ?_);refine aDp (fun hc=>absurd (by first|omega|assumption|decide|exact rfl) hc) (fun c12=>?_);refine aD1 [4,5,11,12,13,14,15,16,17,18,19,20,21,22,23,24,25] [5] (fun vs hh=>∃(i:Nat),i≤a.length∧vs=[.int .i64 i]∧Own h [] hh) (fun vs _=>match vs with|[.int _ i]=>a.length - i.toNat|_=>0) ?_ ?_
 ·exact⟨0,by omega,rfl,o0⟩
 ·rintro vs junk hh ⟨i,hi,rfl,oh⟩
  by_cases hlt:i<a.length
  ·obtain⟨s,hs⟩:=getx hlt
   refine rR (aDE (hA.ext oh.ext) nI ?_);refine aDR (fun c21=>?_) (fun hc=>absurd (by omega) hc);refine aDU [0,1,2,4,5,6,8] [3,7] [] [0,1,2,3,4,5,6,7,8] mixed (by kernel_rfl) rfl (fun _ _ _ _ h=>h) ?_;refine aDo nI gA (hA.ext oh.ext) rfl (by omega) (by omega) ?_;refine aDr gA (hA.ext oh.ext) (fun _=>rfl) (by decide) rfl ‹_› ?_;refine aDo nI gA (hB.ext oh.ext) rfl (by omega) (by omega) ?_;refine aDr gA (hB.ext oh.ext) (fun _=>rfl) (by decide) rfl ‹_› ?_;refine neSelf dp_cond eg_cond rfl rfl rfl ?_;refine aDT ?_;refine aDY (by omega) (by omega) ?_
   refine⟨rfl,?_⟩
   exact⟨⟨i+1,by omega,rfl,Own.sel ‹_› [] rfl⟩,by simp;omega⟩
  ·refine rR (aDE (hA.ext oh.ext) nI ?_)
   refine aDR (fun hc=>absurd hc (by omega)) (fun c41=>?_);refine aDZ rfl ?_
   exact⟨rfl,oh⟩
mutual
def kU:Ex→Nat
 | .mk _ _ ks _ _ _ _ _ _=>aA5 ks+1
def aA5:List Ex→Nat
 | []=>0
 | x::xs=>max (kU x) (aA5 xs)
end
theorem jG:∀ {l:List Ex}{i:Nat}{x:Ex},l[i]?=some x→kU x≤aA5 l
 | [],_,_,h=>by simp at h
 | y::l,0,x,h=>by simp at h;subst h;rw[aA5];exact Nat.le_max_left _ _
 | y::l,i+1,x,h=>by
  have:=jG (l:=l) (i:=i) (x:=x) (by simpa using h)
  rw[aA5]
  exact aEm this (Nat.le_max_right _ _)
theorem aA4 {Q:Nat→Nat→Prop}:∀ {l m:List Ex}{i:Nat}{x:Ex},wJ Q l m→l[i]?=some x→∃ y,m[i]?=some y∧ExQ Q x y
 | [],_,_,_,_,h=>by simp at h
 | a::l,b::m,0,x,hq,h=>by simp at h;subst h;exact⟨b,rfl,hq.1⟩
 | a::l,b::m,i+1,x,hq,h=>aA4 (l:=l) (m:=m) (i:=i) hq.2 (by simpa using h)
 | a::l,[],_,_,hq,_=>hq.elim
theorem exsQ_len {Q:Nat→Nat→Prop}:∀ {l m:List Ex},wJ Q l m→l.length=m.length
 | [],[],_=>rfl
 | a::l,b::m,hq=>by simp[exsQ_len hq.2]
 | a::l,[],hq=>hq.elim
 | [],b::m,hq=>hq.elim
theorem aA6 {N:Nat}:∀ {l:List Ex}{i:Nat}{x:Ex},aBE N l→l[i]?=some x→ExB N x
 | [],_,_,_,h=>by simp at h
 | a::l,0,x,hq,h=>by simp at h;subst h;exact hq.1
 | a::l,i+1,x,hq,h=>aA6 (l:=l) (i:=i) hq.2 (by simpa using h)
theorem sQ {I:Item}:∀ {cs:List dM}{l:List Ex}{i:Nat}{x:Ex},qP I cs l→l[i]?=some x→∃ c,cs[i]?=some c∧mE I c.1 x
 | _,[],_,_,_,h=>by simp at h
 | c::cs,a::l,0,x,hq,h=>by simp at h;subst h;exact⟨c,rfl,hq.1⟩
 | c::cs,a::l,i+1,x,hq,h=>sQ (cs:=cs) (l:=l) (i:=i) hq.2 (by simpa using h)
 | [],a::l,_,_,hq,_=>hq.elim
theorem aA3 {I:Item}:∀ {cs:List dM}{l:List Ex},qP I cs l→cs.length=l.length
 | [],[],_=>rfl
 | c::cs,a::l,hq=>by simp[aA3 hq.2]
 | c::cs,[],hq=>hq.elim
 | [],b::m,hq=>hq.elim
def tT (I:Item)(h:Heap):Prop:=∀ h',Ext h h'→I.sat h'
theorem tT.ext {I:Item}{h h':Heap}(s:tT I h)(e:Ext h h'):tT I h':=fun h2 e2=>s h2 (e.trans e2)
theorem tT.sat {I:Item}{h:Heap}(s:tT I h):I.sat h:=s h (Ext.refl h)
theorem Own.satE {B:Base}{L:List Item}{h:Heap}(o:Own B L h)(k:Nat) {x:Item}(hk:L[k]?=some x):tT x h:=fun h' e =>
 x.loc h h' (fun b hb=>e.old b (o.hi x (aD6 hk) b hb)) (o.satK k hk)
theorem mK (Q:Nat→Nat→Prop)(at_:Bool)(hat:at_=true→∀ o o',Q o o'→o=o')(I J:Item):∀(n:Nat)(x y:Ex)(c d:aVs)(h:Heap)(_:kU x≤n)(_:ExB 10000 x)(_:ExQ Q x y)(_:mE I c x)(_:mE J d y)(_:tT I h)(_:tT J h),
  cK Tryz.prog 122 [.agg ⟨c⟩,.agg ⟨d⟩,.bool at_] h fun r h'=>r=.bool true∧Own h [] h'
 | 0,.mk _ _ _ _ _ _ _ _ _,_,_,_,_,hd,_,_,_,_,_,_=>absurd hd (by rw[kU];omega)
 | n+1,.mk k t ks cs ns a s g o,.mk k' t' ks' cs' ns' a' s' g' o',c,d,h,hd,hB,hQ,hc,hD,hIe,hJe=>by
  have hI:=hIe.sat;have hJ:=hJe.sat
  rw[kU]at hd
  rw[ExB]at hB
  rw[ExQ]at hQ
  rw[mE]at hc hD
  obtain⟨rfl,rfl,rfl,rfl,rfl,rfl,rfl,hoo,hks⟩:=hQ
  obtain⟨vk,vc,vn,rfl,r1,r2,xs,r3,rk⟩:=hc
  obtain⟨uk,uc,un,rfl,p1,p2,ys,p3,pk⟩:=hD
  obtain⟨b1,b2,b3,b4⟩:=hB
  have hkl:=exsQ_len hks;have q1:=r1 h hI;have q2:=r2 h hI;have q3:=r3 h hI;have w1:=p1 h hJ;have w2:=p2 h hJ;have w3:=p3 h hJ
  obtain⟨e1,f1,rfl⟩:=r1.isS hI
  obtain⟨e2,f2,rfl⟩:=r2.isS hI
  obtain⟨e3,f3,rfl⟩:=r3.isS hI
  obtain⟨e4,f4,rfl⟩:=p1.isS hJ
  obtain⟨e5,f5,rfl⟩:=p2.isS hJ
  obtain⟨e6,f6,rfl⟩:=p3.isS hJ
  rw[iL]at q2 w2
  unfold xT;refine aDX Tryz.func122 rfl Tryz.ntmps122 (by kernel_rfl) ?_;have o0:=Own.refl h;have hkk:at_=true→o=o':=fun e=>hat e _ _ hoo;have hxs:xs.length=ks.length:=aA3 rk;have hys:ys.length=ks'.length:=aA3 pk;cases at_ with
  | true =>
   obtain rfl:=hkk rfl;(refine aDz o0 rfl ?_;intro b10 m10 o10);(refine aDz o10 rfl ?_;intro b11 m11 o11);refine aDS ?_;refine rR (fA aM rfl rfl rfl ?_);refine rR (aDe o11 0 rfl aY rfl rfl ?_);refine rR (fA aM rfl rfl rfl ?_);refine rR (aDe o11 1 rfl aY rfl rfl ?_);refine aDp (fun hc=>absurd (by first|omega|assumption|decide|exact rfl) hc) (fun c16=>?_);refine rR (fA aM rfl rfl rfl ?_);refine rR (aDe o11 0 rfl aY rfl rfl ?_);refine rR (fA aM rfl rfl rfl ?_);refine rR (aDe o11 1 rfl aY rfl rfl ?_);refine aDp (fun hc=>absurd (by first|omega|assumption|decide|exact rfl) hc) (fun c21=>?_);refine rR (fA aM rfl rfl rfl ?_);refine rR (aDe o11 0 rfl aO rfl rfl ?_);refine rR (fA aM rfl rfl rfl ?_);refine rR (aDe o11 1 rfl aO rfl rfl ?_);refine aDp (fun hc=>absurd (by first|omega|assumption|decide|exact rfl) hc) (fun c26=>?_);refine rR (fA aM rfl rfl rfl ?_);refine rR (aDe o11 0 rfl aO rfl rfl ?_);refine rR (fA aM rfl rfl rfl ?_);refine rR (aDe o11 1 rfl aO rfl rfl ?_);refine aDp (fun hc=>absurd (by first|omega|assumption|decide|exact rfl) hc) (fun c31=>?_);refine rR (fA aM rfl rfl rfl ?_);refine rR (aDe o11 0 rfl aO rfl rfl ?_);refine rR (fA aM rfl rfl rfl ?_);refine rR (aDe o11 1 rfl aO rfl rfl ?_);refine aDp (fun hc=>absurd (by first|omega|assumption|decide|exact rfl) hc) (fun c36=>?_);refine rR (fA aM rfl rfl rfl ?_);refine rR (aDe o11 0 rfl aY rfl rfl ?_);refine rR (fA aM rfl rfl rfl ?_);refine rR (aDe o11 1 rfl aY rfl rfl ?_);refine aDp (fun hc=>absurd (by first|omega|assumption|decide|exact rfl) hc) (fun c41=>?_)
   refine rR (fA aM rfl rfl rfl ?_);refine rR (aDe o11 0 rfl dC rfl rfl ?_);refine rR (aDn rfl cE ?_);refine rR (fA aM rfl rfl rfl ?_);refine rR (aDe o11 1 rfl dC rfl rfl ?_);refine rR (aDn rfl cE ?_);refine aDp (fun hc=>absurd (by first|omega|assumption|decide|exact rfl) hc) (fun c48=>?_);refine rR (fA aM rfl rfl rfl ?_);refine rR (aDe o11 0 rfl fG rfl rfl ?_);refine rR (fA aM rfl rfl rfl ?_);refine rR (aDe o11 1 rfl fG rfl rfl ?_);refine aDV (mJ ns _ _ _ (q2.ext (Own.ext (h:=m11) ‹_›)).to1 (w2.ext (Own.ext (h:=m11) ‹_›)).to1 (by omega)) ?_;rintro _ hs1 ⟨rfl,oc1⟩;have os1:=oc1.thenE ‹_›;refine aDT ?_;refine rR (fA aM rfl rfl rfl ?_);refine rR (aDe os1 0 rfl nA rfl rfl ?_);refine rR (fA aM rfl rfl rfl ?_);refine rR (aDe os1 1 rfl nA rfl rfl ?_);refine aDV (oQ cs _ _ _ (q1.ext os1.ext) (w1.ext os1.ext) (by omega)) ?_;rintro _ hs2 ⟨rfl,oc2⟩;have os2:=oc2.thenE os1;refine aDT ?_;refine aD1 [6,7,76,77,78,79,80,81,82,83,84,85,86,87,88,89,90,91,92,93,94,95] [7] (fun vs hh=>∃(i:Nat),i≤ks.length∧vs=[.int .i64 i]∧Own h [box b10 [.int .i64 k,.string ⟨⟨t⟩⟩,.slice e3 ks.length f3,.slice e1 cs.length f1,.slice e2 ns.length f2,.string ⟨⟨a⟩⟩,.string ⟨⟨s⟩⟩,.int .i64 g,.int .i64 o] 42,box b11 [.int .i64 k,.string ⟨⟨t⟩⟩,.slice e6 ks'.length f6,.slice e4 cs.length f4,.slice e5 ns.length f5,.string ⟨⟨a⟩⟩,.string ⟨⟨s⟩⟩,.int .i64 g,.int .i64 o] 42] hh) (fun vs _=>match vs with|[.int _ i]=>ks.length - i.toNat|_=>0) ?_ ?_
   ·exact⟨0,by omega,rfl,os2⟩
   ·rintro vs junk hh ⟨i,hi,rfl,oh⟩
    clear oc1 os1 oc2 os2;by_cases hlt:i<ks.length
    ·obtain⟨kx,hkx⟩:=getx hlt
     obtain⟨ky,hky,hq⟩:=aA4 hks hkx
     obtain⟨cx,hcx,hrx⟩:=sQ rk hkx
     obtain⟨cy,hcy,hry⟩:=sQ pk hky
     refine rR (fA aM rfl rfl rfl ?_);refine rR (aDe oh 0 rfl dC rfl rfl ?_);refine rR (aDn rfl cE ?_);refine aDR (fun c313=>?_) (fun hc=>absurd (by omega) hc);refine aDU [0,2,3,5,7,8,10,12] [1,4,6,9] [11] [0,1,2,3,4,5,6,7,8,9,10,11,12] mixed (by kernel_rfl) rfl (fun _ _ _ _ h=>h) ?_;refine fA aM rfl rfl rfl ?_;refine aDe oh 0 rfl dC rfl rfl ?_;refine aDo cE aU (q3.ext oh.ext) rfl (by omega) (by omega) ?_;refine aDr aU (q3.ext oh.ext) (fun y:dM=>y.2) (by decide) rfl ‹_› ?_;refine fA aM rfl rfl rfl ?_;refine aDe oh 1 rfl dC rfl rfl ?_;refine aDo cE aU (w3.ext oh.ext) rfl (by omega) (by omega) ?_;refine aDr aU (w3.ext oh.ext) (fun y:dM=>y.2) (by decide) rfl ‹_› ?_;refine aDV (mK Q true hat I J n kx ky cx.1 cy.1 _ (aEm (jG hkx) (by omega)) (aA6 b4 hkx) hq hrx hry (hIe.ext oh.ext) (hJe.ext oh.ext)) ?_;rintro _ hs3 ⟨rfl,oc3⟩;have os3:=oc3.thenE oh;refine aDT ?_;refine aDY (by omega) (by omega) ?_
     refine⟨rfl,?_⟩
     exact⟨⟨i+1,by omega,rfl,Own.sel ‹_› [0,1] rfl⟩,by simp;omega⟩
    ·refine rR (fA aM rfl rfl rfl ?_)
     refine rR (aDe oh 0 rfl dC rfl rfl ?_);refine rR (aDn rfl cE ?_);refine aDR (fun hc=>absurd hc (by omega)) (fun c413=>?_);refine aDZ rfl ?_
     exact⟨rfl,Own.sel ‹_› [] rfl⟩
  | false =>
   (refine aDz o0 rfl ?_;intro b1010 m1010 o1010);(refine aDz o1010 rfl ?_;intro b1011 m1011 o1011);refine aDT ?_;refine rR (fA aM rfl rfl rfl ?_);refine rR (aDe o1011 0 rfl aY rfl rfl ?_);refine rR (fA aM rfl rfl rfl ?_);refine rR (aDe o1011 1 rfl aY rfl rfl ?_);refine aDp (fun hc=>absurd (by first|omega|assumption|decide|exact rfl) hc) (fun c1016=>?_);refine rR (fA aM rfl rfl rfl ?_);refine rR (aDe o1011 0 rfl aO rfl rfl ?_);refine rR (fA aM rfl rfl rfl ?_);refine rR (aDe o1011 1 rfl aO rfl rfl ?_);refine aDp (fun hc=>absurd (by first|omega|assumption|decide|exact rfl) hc) (fun c1021=>?_);refine rR (fA aM rfl rfl rfl ?_);refine rR (aDe o1011 0 rfl aO rfl rfl ?_);refine rR (fA aM rfl rfl rfl ?_);refine rR (aDe o1011 1 rfl aO rfl rfl ?_);refine aDp (fun hc=>absurd (by first|omega|assumption|decide|exact rfl) hc) (fun c1026=>?_);refine rR (fA aM rfl rfl rfl ?_);refine rR (aDe o1011 0 rfl aO rfl rfl ?_);refine rR (fA aM rfl rfl rfl ?_);refine rR (aDe o1011 1 rfl aO rfl rfl ?_);refine aDp (fun hc=>absurd (by first|omega|assumption|decide|exact rfl) hc) (fun c1031=>?_);refine rR (fA aM rfl rfl rfl ?_);refine rR (aDe o1011 0 rfl aY rfl rfl ?_);refine rR (fA aM rfl rfl rfl ?_);refine rR (aDe o1011 1 rfl aY rfl rfl ?_);refine aDp (fun hc=>absurd (by first|omega|assumption|decide|exact rfl) hc) (fun c1036=>?_);refine rR (fA aM rfl rfl rfl ?_);refine rR (aDe o1011 0 rfl dC rfl rfl ?_);refine rR (aDn rfl cE ?_);refine rR (fA aM rfl rfl rfl ?_);refine rR (aDe o1011 1 rfl dC rfl rfl ?_);refine rR (aDn rfl cE ?_)
   refine aDp (fun hc=>absurd (by first|omega|assumption|decide|exact rfl) hc) (fun c1043=>?_);refine rR (fA aM rfl rfl rfl ?_);refine rR (aDe o1011 0 rfl fG rfl rfl ?_);refine rR (fA aM rfl rfl rfl ?_);refine rR (aDe o1011 1 rfl fG rfl rfl ?_);refine aDV (mJ ns _ _ _ (q2.ext (Own.ext (h:=m1011) ‹_›)).to1 (w2.ext (Own.ext (h:=m1011) ‹_›)).to1 (by omega)) ?_;rintro _ hs1 ⟨rfl,oc1⟩;have os1:=oc1.thenE ‹_›;refine aDT ?_;refine rR (fA aM rfl rfl rfl ?_);refine rR (aDe os1 0 rfl nA rfl rfl ?_);refine rR (fA aM rfl rfl rfl ?_);refine rR (aDe os1 1 rfl nA rfl rfl ?_);refine aDV (oQ cs _ _ _ (q1.ext os1.ext) (w1.ext os1.ext) (by omega)) ?_;rintro _ hs2 ⟨rfl,oc2⟩;have os2:=oc2.thenE os1;refine aDT ?_;refine aD1 [6,7,76,77,78,79,80,81,82,83,84,85,86,87,88,89,90,91,92,93,94,95] [7] (fun vs hh=>∃(i:Nat),i≤ks.length∧vs=[.int .i64 i]∧Own h [box b1010 [.int .i64 k,.string ⟨⟨t⟩⟩,.slice e3 ks.length f3,.slice e1 cs.length f1,.slice e2 ns.length f2,.string ⟨⟨a⟩⟩,.string ⟨⟨s⟩⟩,.int .i64 g,.int .i64 o] 42,box b1011 [.int .i64 k,.string ⟨⟨t⟩⟩,.slice e6 ks'.length f6,.slice e4 cs.length f4,.slice e5 ns.length f5,.string ⟨⟨a⟩⟩,.string ⟨⟨s⟩⟩,.int .i64 g,.int .i64 o'] 42] hh) (fun vs _=>match vs with|[.int _ i]=>ks.length - i.toNat|_=>0) ?_ ?_
   ·exact⟨0,by omega,rfl,os2⟩
   ·rintro vs junk hh ⟨i,hi,rfl,oh⟩
    clear oc1 os1 oc2 os2;by_cases hlt:i<ks.length
    ·obtain⟨kx,hkx⟩:=getx hlt
     obtain⟨ky,hky,hq⟩:=aA4 hks hkx
     obtain⟨cx,hcx,hrx⟩:=sQ rk hkx
     obtain⟨cy,hcy,hry⟩:=sQ pk hky
     refine rR (fA aM rfl rfl rfl ?_);refine rR (aDe oh 0 rfl dC rfl rfl ?_);refine rR (aDn rfl cE ?_);refine aDR (fun c1313=>?_) (fun hc=>absurd (by omega) hc);refine aDU [0,2,3,5,7,8,10,12] [1,4,6,9] [11] [0,1,2,3,4,5,6,7,8,9,10,11,12] mixed (by kernel_rfl) rfl (fun _ _ _ _ h=>h) ?_;refine fA aM rfl rfl rfl ?_;refine aDe oh 0 rfl dC rfl rfl ?_;refine aDo cE aU (q3.ext oh.ext) rfl (by omega) (by omega) ?_;refine aDr aU (q3.ext oh.ext) (fun y:dM=>y.2) (by decide) rfl ‹_› ?_;refine fA aM rfl rfl rfl ?_;refine aDe oh 1 rfl dC rfl rfl ?_;refine aDo cE aU (w3.ext oh.ext) rfl (by omega) (by omega) ?_;refine aDr aU (w3.ext oh.ext) (fun y:dM=>y.2) (by decide) rfl ‹_› ?_;refine aDV (mK Q false hat I J n kx ky cx.1 cy.1 _ (aEm (jG hkx) (by omega)) (aA6 b4 hkx) hq hrx hry (hIe.ext oh.ext) (hJe.ext oh.ext)) ?_;rintro _ hs3 ⟨rfl,oc3⟩;have os3:=oc3.thenE oh;refine aDT ?_;refine aDY (by omega) (by omega) ?_
     refine⟨rfl,?_⟩
     exact⟨⟨i+1,by omega,rfl,Own.sel ‹_› [0,1] rfl⟩,by simp;omega⟩
    ·refine rR (fA aM rfl rfl rfl ?_)
     refine rR (aDe oh 0 rfl dC rfl rfl ?_);refine rR (aDn rfl cE ?_);refine aDR (fun hc=>absurd hc (by omega)) (fun c1413=>?_);refine aDZ rfl ?_
     exact⟨rfl,Own.sel ‹_› [] rfl⟩
end Go.Proofs.YtohlogbnpfofpaaGreatDoor
