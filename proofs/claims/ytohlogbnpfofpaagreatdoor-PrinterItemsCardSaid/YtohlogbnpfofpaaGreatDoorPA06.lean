/- Part 6 of the proof of gaps,items: FnEx2, FnEx3, FnEx4, FnEx5, FnEx6, FnEx7, FnEx. -/
import Derived.Test.YtohlogbnpfofpaaGreatDoorPA05
set_option linter.all false
set_option maxHeartbeats 100000000
set_option maxRecDepth 100000
namespace Go.Proofs.YtohlogbnpfofpaaGreatDoor
open Go StillVC
theorem aBp (n:Nat)(hn:n≤11)(ih:lD n):∀(level:Int)(_:level=13 - ((n+1:Nat):Int))(B:Base)(bp z:Nat)(tk:Item)(w:Value)(ts:List Tok)(h:Heap)(_:Own B (PSt bp z w tk) h)(_:cH tk w ts)(_:ts.length≤5000)(_:∀ j,j<1→bK [dB.getD j [],[40]] ts=false)(_:bK [[112,114,111,106,101,99,116],[40]] ts=true),
  Spec Tryz.prog 118 [.pointer (some ⟨bp,0,none⟩),.int .i64 level] h (cQ B bp z tk ts.length (cJ z (n+1) ts) exV):=by
 intro level hlv B bp z tk w ts h o hR hl hno hb
 obtain⟨hRd,hK⟩:=hR
 have hR:cH tk w ts:=⟨hRd,hK⟩;refine Spec.enter Tryz.func118 rfl Tryz.ntmps118 (by kernel_rfl) ?_;(refine RunVC.alloc o aT ?_;intro b10 m10 o10);refine Br.dec (fun hc=>absurd hc (by omega)) (fun c11=>?_);refine run (aBE aO ?_);refine aI rfl ?_;(refine RunVC.alloc o10 aT ?_;intro b13 m13 o13);(refine RunVC.aBA o13 3 rfl aT rfl (by decide) (aI ⟨rfl,rfl⟩ ?_);intro m14 o14);refine run (nC rfl ?_);refine run (fA fD rfl rfl rfl ?_);refine run (aBx o14 0 rfl eF rfl rfl ?_);refine run (aBX (o14.reads 1 hRd rfl) fE ?_);refine Br.join [19,20,21,22,23,24,25,26] [] (fun _ hh=>Own B [box bp [w,.int .i64 z] 72,tk,box b10 [.int .i64 0,.string ⟨⟨[]⟩⟩,aK,aK,aK,.string ⟨⟨[]⟩⟩,.string ⟨⟨[]⟩⟩,.int .i64 0,.int .i64 0] 42,box b13 [.int .i64 1,.string ⟨⟨[]⟩⟩,aK,aK,aK,.string ⟨⟨[]⟩⟩,.string ⟨⟨[]⟩⟩,.int .i64 0,.int .i64 (bD ts)] 42] hh) rfl rfl ?_ ?_
 ·cases ts with
  | nil =>
   refine Br.ff ?_
   refine⟨rfl,?_⟩
   exact o14
  | cons t r =>
   have hx:(t::r)[0]?=some t:=rfl;have hln:(t::r).length=r.length+1:=rfl;refine Br.dec (fun c30=>?_) (fun hc=>absurd (by omega) hc);refine run (nC rfl ?_);refine run (fA fD rfl rfl rfl ?_);refine run (aBx o14 0 rfl eF rfl rfl ?_);refine run (aBJ fE bA (o14.reads 1 hRd rfl) rfl (by omega) (by omega) ?_);refine run (aBT (o14.reads 1 hRd rfl) (by omega) eI rfl rfl rfl ?_);refine run (aBW (o14.reads 1 hRd rfl) aW (fun _=>rfl) rfl ‹_› rfl ?_);refine run (fA aO rfl rfl rfl ?_);(refine RunVC.aBA o14 3 rfl aW rfl (by decide) (aI ⟨rfl,rfl⟩ ?_);intro m38 o38)
   refine⟨rfl,?_⟩
   exact Own.sel ‹_› [0,1,2,3] rfl
 ·intro vs junk hh oh
  refine CallVC.ret (eD bp _) ?_;rintro _ h2 ⟨bo,pb,rfl,oc⟩;have o2:=oh.call oc
  simp only[lcA,lnA]at o2
  clear oc;refine run (aBH rfl dM ?_);refine LoopVC.intro [6,7,30,31,32,33,34,35,36,37,38,39,40,41,42,43,44,45,46,47,48,49,50,51,52,53,54,55,56,57,58,59,60,61,62,63,64,65,66,67,68,69,70,71,72,73,74,75,76,77,78,79,80,81,82,83] [30] (fun vs hh=>∃(i:Nat),i≤1∧vs=[.int .i64 i]∧Own B [box bp [w,.int .i64 z] 72,tk,box b10 [.int .i64 0,.string ⟨⟨[]⟩⟩,aK,aK,aK,.string ⟨⟨[]⟩⟩,.string ⟨⟨[]⟩⟩,.int .i64 0,.int .i64 0] 42,box b13 [.int .i64 1,.string ⟨⟨[]⟩⟩,aK,aK,aK,.string ⟨⟨[]⟩⟩,.string ⟨⟨[]⟩⟩,.int .i64 0,.int .i64 (bD ts)] 42,box pb [.pointer (some ⟨bp,0,none⟩)] 70,box bo (qG pb) 188] hh) (fun vs _=>match vs with|[.int _ i]=>7 - i.toNat|_=>0) ?_ ?_
  ·exact⟨0,by omega,rfl,o2⟩
  ·rintro vs' junk' h3 ⟨i,hi,rfl,o3⟩
   clear o14 oh o2;have hoL:(qG pb).length=7*3:=rfl
   rcases(by omega:i=0∨i=1) with rfl|rfl
   ·refine Br.tt ?_
    refine run (aBJ dM aU (o3.boxArrN 5 rfl ‹_› (by omega)) rfl (by omega) (by omega) ?_);refine run (aBB o3 5 rfl aU rfl rfl rfl ?_);(refine RunVC.alloc o3 aU ?_;intro b1002 m1002 o1002);(refine RunVC.aBA o1002 6 rfl aU rfl (by decide) (aI ⟨rfl,rfl⟩ ?_);intro m1003 o1003);refine run (fA cD rfl rfl rfl ?_);refine run (aBx o1003 6 rfl aN rfl rfl ?_);(refine RunVC.lit o1003 aH aN rfl rfl (by decide) (aI rfl ?_);intro b1006 m1006 o1006);refine CallVC.ret (bJ [[115,101,108,101,99,116],[40]] _ bp w ts _ (Own.cellB ‹_› 0 rfl 0) (Own.reads ‹_› 1 hR.1 rfl) (Own.boxArr ‹_› 7 rfl rfl (by decide)) hl) ?_;rintro _ h4 ⟨rv,oc⟩;have o4:=oc.thenE ‹_›;clear oc;have hb:bK [[115,101,108,101,99,116],[40]] ts=false:=hno 0 (by decide)
    rw[hb]at rv
    subst rv;refine Br.tt ?_;refine Ar.i64 (by omega) (by omega) ?_
    refine⟨rfl,?_⟩
    exact⟨⟨1,by omega,rfl,Own.sel ‹_› [0,1,2,3,4,5] rfl⟩,by simp⟩
   ·refine Br.tt ?_
    refine run (aBJ dM aU (o3.boxArrN 5 rfl ‹_› (by omega)) rfl (by omega) (by omega) ?_);refine run (aBB o3 5 rfl aU rfl rfl rfl ?_);(refine RunVC.alloc o3 aU ?_;intro b2002 m2002 o2002);(refine RunVC.aBA o2002 6 rfl aU rfl (by decide) (aI ⟨rfl,rfl⟩ ?_);intro m2003 o2003);refine run (fA cD rfl rfl rfl ?_);refine run (aBx o2003 6 rfl aN rfl rfl ?_);(refine RunVC.lit o2003 aH aN rfl rfl (by decide) (aI rfl ?_);intro b2006 m2006 o2006);refine CallVC.ret (bJ [[112,114,111,106,101,99,116],[40]] _ bp w ts _ (Own.cellB ‹_› 0 rfl 0) (Own.reads ‹_› 1 hR.1 rfl) (Own.boxArr ‹_› 7 rfl rfl (by decide)) hl) ?_;rintro _ h4 ⟨rv,oc⟩;have o4:=oc.thenE ‹_›;clear oc
    rw[hb]at rv
    subst rv;have hE:cJ z (n+1) ts=(bP z [[112,114,111,106,101,99,116],[40]] >>= fun _=>cJ z n >>= fun a=>ifP (wJ 1) (bP z [[44]] >>= fun _=>cJ z n >>= fun b=>pure [a,b]) [a] >>= fun kids=>eS z 1 (bD ts) kids >>= fun x=>bP z [[41]] >>= fun _=>(pure x:PM Ex)) ts:=jD (jC (by decide) hno hb);have o5:=o4.sel [0,1,2,3,4,6] rfl
    simp only[PSt,pick,lcA,lnA,lgS,lgZ,lgN]at o5
    clear o3 o4;refine Br.ff ?_;refine Ar.i64 (by omega) (by omega) ?_;refine run (fA aO rfl rfl rfl ?_);(refine RunVC.store o5 3 rfl aW rfl (by simp) (aI ⟨rfl,rfl⟩ ?_);intro m2041 o2041);refine run (fA cD rfl rfl rfl ?_);refine run (aBx o2041 5 rfl aN rfl rfl ?_);(refine RunVC.lit o2041 aH aN rfl rfl (by decide) (aI rfl ?_);intro b2044 m2044 o2044);refine aS (ss:=[[112,114,111,106,101,99,116],[40]]) ‹_› rfl (by first|exact⟨2,by decide,rfl⟩|exact⟨3,by decide,rfl⟩|exact⟨4,by decide,rfl⟩|exact⟨5,by decide,rfl⟩|exact⟨6,by decide,rfl⟩|exact⟨7,by decide,rfl⟩|exact⟨8,by decide,rfl⟩|exact⟨9,by decide,rfl⟩) hR (by omega) (by decide) (fun _ q1 w1 v h5 hm hv hle1 hR1 oq=>?_) (fun e w' h' hm o2=>⟨e,w',hE.trans (PM.aBy hm),rfl,o2⟩);subst hv
    rw[PM.aBz hm]at hE
    have o6:=oq.sel [0,1,2,3,4,5] rfl
    simp only[PSt,pick,lcA,lnA,lgS,lgZ,lgN]at o6
    clear oq hm;refine DrawVC.join [49,50,51,52,53,54,55,56,57,58,59] [] (fun _ hh=>∃(a1:Ex) (q2:List Tok) (w2:Value) (c1:cV) (I1:Item) (ua:Option Addr) (uc:Nat),cJ z n q1=.ok (a1,q2)∧q2.length≤q1.length∧cH tk w2 q2∧lB I1 c1.1 a1∧Own B [box bp [w2,.int .i64 z] 72,tk,I1,box b10 [.int .i64 0,.string ⟨⟨[]⟩⟩,aK,aK,aK,.string ⟨⟨[]⟩⟩,.string ⟨⟨[]⟩⟩,.int .i64 0,.int .i64 0] 42,box b13 [.int .i64 3,.string ⟨⟨[]⟩⟩,.slice ua 1 uc,aK,aK,.string ⟨⟨[]⟩⟩,.string ⟨⟨[]⟩⟩,.int .i64 0,.int .i64 (bD ts)] 42,box pb [.pointer (some ⟨bp,0,none⟩)] 70,box b2002 [.string ⟨⟨[112,114,111,106,101,99,116]⟩⟩,.bool false,.func (.func 162) ⟨[]⟩ ⟨[.pointer (some ⟨pb,0,none⟩)]⟩] 188,row (.slice ua 1 uc) 42 9 1 c1.1] hh) ?_ ?_
    ·refine DrawVC.aBU b13 [0,2,3,4,6,9,11] [1] [8,10,12] (.one 0 (.one 1 (.one 2 (.one 3 (.one 4 (.one 6 (.fork 5 7 (.one 7 (.one 8 (.one 9 (.one 11 (.fork 10 12 (.one 12 .done) (.one 10 .done)))))) (.one 5 (.one 8 (.one 9 (.one 11 (.fork 10 12 (.one 12 .done) (.one 10 .done))))))))))))) mixed (by kernel_rfl) rfl (fun _ _ _ _ h=>h) ?_
     refine fA aO rfl rfl rfl ?_;refine StillVCA.load1 cX rfl rfl ((o6.cellB 3 rfl _).trans rfl) ?_;refine Ar.i64 (by omega) (by omega) ?_;refine aBH rfl bY ?_
     refine⟨?_,?_⟩
     ·skip
      refine cQ.callL (fun B' o'=>ih (level+1) (by omega) B' bp z tk _ _ _ o' hR1 (by omega)) ‹_› rfl (fun a1 q2 w2 v I1 h6 hm hv hle2 hR2 oq=>?_) (fun e w' h' hm o2=>⟨e,w',hE.trans (PM.aBy hm),rfl,o2⟩)
      obtain⟨c1,rfl,hx1⟩:=hv
      have o7:=oq
      simp only[PSt,pick,lcA,lnA,lgS,lgZ,lgN]at o7
      clear oq
      refine⟨Eq.trans (Own.satK o7 4 rfl) (Eq.symm (Own.satK (x:=box b13 _ _) ‹_› 3 rfl)),?_⟩
      have one1:=eN (Own.satK o7 2 rfl) hx1;(refine RunVC.aBV o7 bY aT rfl rfl (by decide) ?_);refine aI rfl ?_;intro b2101 m2101 o2101;refine aI ((o2101.boxBlk 4 rfl).trans (o7.boxBlk 4 rfl).symm) ?_;have on:=Own.nilRow ‹_› 42 9
      simp only[lcA,lnA]at on
      refine RunVC.append on 8 rfl bY aT (by decide) (Own.boxArrN on 7 rfl (n:=1) rfl (by omega)) (by simp[Value.oneCell']) (by simp only[maxLen];omega) (by omega) ?_;intro vA mA oA
      obtain⟨ua,uc,rfl⟩:=oA.rowIs 8 rfl
      refine aBJ bY aT (oA.rowArrN 8 rfl) rfl (by omega) (by omega) ?_;refine fA aO rfl rfl rfl ?_
      refine⟨?_,?_⟩
      ·skip
       refine RunVC.aBI (i:=0) ‹_› 8 rfl aT rfl rfl rfl c1.2 (by decide) (by decide) one1 ?_;intro mB oB
       simp only[lsS,lsZ]at oB
       (refine RunVC.store oB 4 rfl cX rfl (by simp) (aI ⟨rfl,rfl⟩ ?_);intro m2140 o2140)
       refine⟨rfl,?_⟩
       have ef:=cA (cs:=[.int .i64 0,.string ⟨⟨[]⟩⟩,aK,aK,aK,.string ⟨⟨[]⟩⟩,.string ⟨⟨[]⟩⟩,.int .i64 0,.int .i64 0]) (c:=c1) rfl
       exact⟨a1,q2,w2,c1,I1,ua,uc,hm,hle2,hR2,hx1,ef▸Own.sel ‹_› [0,1,2,3,4,5,6,8] rfl⟩
      ·skip
       (refine RunVC.store oA 4 rfl cX rfl (by simp) (aI ⟨rfl,rfl⟩ ?_);intro m2150 o2150);refine RunVC.aBI (i:=0) ‹_› 8 rfl aT rfl rfl rfl c1.2 (by decide) (by decide) one1 ?_;intro mB oB
       simp only[lsS,lsZ]at oB
       refine⟨rfl,?_⟩
       have ef:=cA (cs:=[.int .i64 0,.string ⟨⟨[]⟩⟩,aK,aK,aK,.string ⟨⟨[]⟩⟩,.string ⟨⟨[]⟩⟩,.int .i64 0,.int .i64 0]) (c:=c1) rfl
       exact⟨a1,q2,w2,c1,I1,ua,uc,hm,hle2,hR2,hx1,ef▸Own.sel ‹_› [0,1,2,3,4,5,6,8] rfl⟩
     ·skip
      (refine RunVC.aBV o6 bY aT rfl rfl (by decide) ?_);refine aI rfl ?_;intro b2281 m2281 o2281;refine aI ((o2281.boxBlk 3 rfl).trans (o6.boxBlk 3 rfl).symm) ?_;refine cQ.callL (fun B' o'=>ih (level+1) (by omega) B' bp z tk _ _ _ o' hR1 (by omega)) ‹_› rfl (fun a1 q2 w2 v I1 h6 hm hv hle2 hR2 oq=>?_) (fun e w' h' hm o2=>⟨e,w',hE.trans (PM.aBy hm),rfl,o2⟩)
      obtain⟨c1,rfl,hx1⟩:=hv
      have o7:=oq
      simp only[PSt,pick,lcA,lnA,lgS,lgZ,lgN]at o7
      clear oq
      refine⟨Eq.trans (Own.satK o7 4 rfl) (Eq.symm (Own.satK (x:=box b13 _ _) ‹_› 3 rfl)),?_⟩
      have one1:=eN (Own.satK o7 2 rfl) hx1;have on:=Own.nilRow ‹_› 42 9
      simp only[lcA,lnA]at on
      refine RunVC.append on 8 rfl bY aT (by decide) (Own.boxArrN on 7 rfl (n:=1) rfl (by omega)) (by simp[Value.oneCell']) (by simp only[maxLen];omega) (by omega) ?_;intro vA mA oA
      obtain⟨ua,uc,rfl⟩:=oA.rowIs 8 rfl
      refine aBJ bY aT (oA.rowArrN 8 rfl) rfl (by omega) (by omega) ?_;refine fA aO rfl rfl rfl ?_
      refine⟨?_,?_⟩
      ·skip
       refine RunVC.aBI (i:=0) ‹_› 8 rfl aT rfl rfl rfl c1.2 (by decide) (by decide) one1 ?_;intro mB oB
       simp only[lsS,lsZ]at oB
       (refine RunVC.store oB 4 rfl cX rfl (by simp) (aI ⟨rfl,rfl⟩ ?_);intro m2340 o2340)
       refine⟨rfl,?_⟩
       have ef:=cA (cs:=[.int .i64 0,.string ⟨⟨[]⟩⟩,aK,aK,aK,.string ⟨⟨[]⟩⟩,.string ⟨⟨[]⟩⟩,.int .i64 0,.int .i64 0]) (c:=c1) rfl
       exact⟨a1,q2,w2,c1,I1,ua,uc,hm,hle2,hR2,hx1,ef▸Own.sel ‹_› [0,1,2,3,4,5,6,8] rfl⟩
      ·skip
       (refine RunVC.store oA 4 rfl cX rfl (by simp) (aI ⟨rfl,rfl⟩ ?_);intro m2350 o2350);refine RunVC.aBI (i:=0) ‹_› 8 rfl aT rfl rfl rfl c1.2 (by decide) (by decide) one1 ?_;intro mB oB
       simp only[lsS,lsZ]at oB
       refine⟨rfl,?_⟩
       have ef:=cA (cs:=[.int .i64 0,.string ⟨⟨[]⟩⟩,aK,aK,aK,.string ⟨⟨[]⟩⟩,.string ⟨⟨[]⟩⟩,.int .i64 0,.int .i64 0]) (c:=c1) rfl
       exact⟨a1,q2,w2,c1,I1,ua,uc,hm,hle2,hR2,hx1,ef▸Own.sel ‹_› [0,1,2,3,4,5,6,8] rfl⟩
    ·rintro _ junk2 h7 ⟨a1,q2,w2,c1,I1,ua,uc,hm,hle2,hR2,hx1,o8⟩
     rw[PM.aBz hm]at hE
     rw[qO (by rfl),PM.aBM]at hE
     refine run (fA cD rfl rfl rfl ?_);refine run (aBx o8 6 rfl ty4 rfl rfl ?_);refine Br.ff ?_;refine RegVC.plain ?_;refine run (fA cD rfl rfl rfl ?_);refine run (aBx o8 6 rfl xD rfl rfl ?_);refine kM.callL (fun B' o'=>rest1_spec (bD ts) (.slice ua 1 uc) [a1] B' bp z tk b13 pb w2 q2 h7 o' hR2 (by omega)) o8 [0,1,4,5] [2,3,7] rfl rfl (fun x q3 w3 c J h8 hm3 hJ hle3 hR3 oq=>?_) (fun e w' h' hm3 o2=>⟨e,w',hE.trans (PM.aBy hm3),rfl,o2⟩)
     rw[PM.aBz hm3]at hE
     obtain⟨vc,vn,cs,ns,at_,as_,ag,rfl,rfl,rc,rn⟩:=hJ
     unfold wB at oq;have o9:=oq
     simp only[PSt,pick,lcA,lnA,lgS,lgZ,lgN]at o9
     clear oq o8
     obtain⟨xa,xb,rfl⟩:=rc.isS (Own.satK o9 4 rfl)
     obtain⟨ya,yb,rfl⟩:=rn.isS (Own.satK o9 4 rfl)
     (refine RunVC.lit o9 aH aN rfl rfl (by decide) (aI rfl ?_);intro b2520 m2520 o2520);refine aS (ss:=[[41]]) ‹_› rfl (by first|exact⟨2,by decide,rfl⟩|exact⟨3,by decide,rfl⟩|exact⟨4,by decide,rfl⟩|exact⟨5,by decide,rfl⟩|exact⟨6,by decide,rfl⟩|exact⟨7,by decide,rfl⟩|exact⟨8,by decide,rfl⟩|exact⟨9,by decide,rfl⟩) hR3 (by omega) (by decide) (fun _ q4 w4 v h9 hm4 hv hle4 hR4 oq=>?_) (fun e w' h' hm o2=>⟨e,w',hE.trans (PM.aBy hm),rfl,o2⟩);subst hv
     rw[PM.aBz hm4]at hE
     have o10:=oq
     simp only[PSt,pick,lcA,lnA,lgS,lgZ,lgN]at o10
     clear oq o9;refine run (aBB o10 2 rfl aT rfl rfl rfl ?_);(refine RunVC.aBA o10 6 rfl aT rfl (by decide) (aI ⟨rfl,rfl⟩ ?_);intro m2541 o2541)
     first|refine RetVC.aBL rfl o2541 6 rfl aT rfl rfl ?_|refine RetVC.aBK rfl o2541 6 rfl aT rfl rfl ?_|refine RetVC.cellTT rfl o2541 6 rfl aT rfl rfl ?_
     have er:[c1].flatMap Subtype.val=c1.1:=by simp
     exact⟨_,q4,w4,dT (dT J I1) (row (.slice ua 1 uc) 42 9 1 c1.1),hE,⟨⟨wB 3 [] (.slice ua 1 uc) (.slice xa cs.length xb) (.slice ya ns.length yb) at_ as_ ag (bD ts),rfl⟩,rfl,by rw[lB];exact⟨_,_,_,rfl,rc.inl.inl,rn.inl.inl,[c1],by rw[er];exact dD.inr,lB.mono (fun _ (s:(dT (dT _ _) _).sat _)=>s.1.2) _ _ hx1,trivial⟩⟩,by omega,hR4,((Own.sel ‹_› [4,5,7,0,1] rfl).join.join).sel [1,2,0] rfl⟩
theorem expr_join (n:Nat)(hn:n≤11)(ih:lD n):∀(level:Int)(_:level=13 - ((n+1:Nat):Int))(B:Base)(bp z:Nat)(tk:Item)(w:Value)(ts:List Tok)(h:Heap)(_:Own B (PSt bp z w tk) h)(_:cH tk w ts)(_:ts.length≤5000)(_:∀ j,j<2→bK [dB.getD j [],[40]] ts=false)(_:bK [[106,111,105,110],[40]] ts=true),
  Spec Tryz.prog 118 [.pointer (some ⟨bp,0,none⟩),.int .i64 level] h (cQ B bp z tk ts.length (cJ z (n+1) ts) exV):=by
 intro level hlv B bp z tk w ts h o hR hl hno hb
 obtain⟨hRd,hK⟩:=hR
 have hR:cH tk w ts:=⟨hRd,hK⟩;refine Spec.enter Tryz.func118 rfl Tryz.ntmps118 (by kernel_rfl) ?_;(refine RunVC.alloc o aT ?_;intro b10 m10 o10);refine Br.dec (fun hc=>absurd hc (by omega)) (fun c11=>?_);refine run (aBE aO ?_);refine aI rfl ?_;(refine RunVC.alloc o10 aT ?_;intro b13 m13 o13);(refine RunVC.aBA o13 3 rfl aT rfl (by decide) (aI ⟨rfl,rfl⟩ ?_);intro m14 o14);refine run (nC rfl ?_);refine run (fA fD rfl rfl rfl ?_);refine run (aBx o14 0 rfl eF rfl rfl ?_);refine run (aBX (o14.reads 1 hRd rfl) fE ?_);refine Br.join [19,20,21,22,23,24,25,26] [] (fun _ hh=>Own B [box bp [w,.int .i64 z] 72,tk,box b10 [.int .i64 0,.string ⟨⟨[]⟩⟩,aK,aK,aK,.string ⟨⟨[]⟩⟩,.string ⟨⟨[]⟩⟩,.int .i64 0,.int .i64 0] 42,box b13 [.int .i64 1,.string ⟨⟨[]⟩⟩,aK,aK,aK,.string ⟨⟨[]⟩⟩,.string ⟨⟨[]⟩⟩,.int .i64 0,.int .i64 (bD ts)] 42] hh) rfl rfl ?_ ?_
 ·cases ts with
  | nil =>
   refine Br.ff ?_
   refine⟨rfl,?_⟩
   exact o14
  | cons t r =>
   have hx:(t::r)[0]?=some t:=rfl;have hln:(t::r).length=r.length+1:=rfl;refine Br.dec (fun c30=>?_) (fun hc=>absurd (by omega) hc);refine run (nC rfl ?_);refine run (fA fD rfl rfl rfl ?_);refine run (aBx o14 0 rfl eF rfl rfl ?_);refine run (aBJ fE bA (o14.reads 1 hRd rfl) rfl (by omega) (by omega) ?_);refine run (aBT (o14.reads 1 hRd rfl) (by omega) eI rfl rfl rfl ?_);refine run (aBW (o14.reads 1 hRd rfl) aW (fun _=>rfl) rfl ‹_› rfl ?_);refine run (fA aO rfl rfl rfl ?_);(refine RunVC.aBA o14 3 rfl aW rfl (by decide) (aI ⟨rfl,rfl⟩ ?_);intro m38 o38)
   refine⟨rfl,?_⟩
   exact Own.sel ‹_› [0,1,2,3] rfl
 ·intro vs junk hh oh
  refine CallVC.ret (eD bp _) ?_;rintro _ h2 ⟨bo,pb,rfl,oc⟩;have o2:=oh.call oc
  simp only[lcA,lnA]at o2
  clear oc;refine run (aBH rfl dM ?_);refine LoopVC.intro [6,7,30,31,32,33,34,35,36,37,38,39,40,41,42,43,44,45,46,47,48,49,50,51,52,53,54,55,56,57,58,59,60,61,62,63,64,65,66,67,68,69,70,71,72,73,74,75,76,77,78,79,80,81,82,83] [30] (fun vs hh=>∃(i:Nat),i≤2∧vs=[.int .i64 i]∧Own B [box bp [w,.int .i64 z] 72,tk,box b10 [.int .i64 0,.string ⟨⟨[]⟩⟩,aK,aK,aK,.string ⟨⟨[]⟩⟩,.string ⟨⟨[]⟩⟩,.int .i64 0,.int .i64 0] 42,box b13 [.int .i64 1,.string ⟨⟨[]⟩⟩,aK,aK,aK,.string ⟨⟨[]⟩⟩,.string ⟨⟨[]⟩⟩,.int .i64 0,.int .i64 (bD ts)] 42,box pb [.pointer (some ⟨bp,0,none⟩)] 70,box bo (qG pb) 188] hh) (fun vs _=>match vs with|[.int _ i]=>7 - i.toNat|_=>0) ?_ ?_
  ·exact⟨0,by omega,rfl,o2⟩
  ·rintro vs' junk' h3 ⟨i,hi,rfl,o3⟩
   clear o14 oh o2;have hoL:(qG pb).length=7*3:=rfl
   rcases(by omega:i=0∨i=1∨i=2) with rfl|rfl|rfl
   ·refine Br.tt ?_
    refine run (aBJ dM aU (o3.boxArrN 5 rfl ‹_› (by omega)) rfl (by omega) (by omega) ?_);refine run (aBB o3 5 rfl aU rfl rfl rfl ?_);(refine RunVC.alloc o3 aU ?_;intro b1002 m1002 o1002);(refine RunVC.aBA o1002 6 rfl aU rfl (by decide) (aI ⟨rfl,rfl⟩ ?_);intro m1003 o1003);refine run (fA cD rfl rfl rfl ?_);refine run (aBx o1003 6 rfl aN rfl rfl ?_);(refine RunVC.lit o1003 aH aN rfl rfl (by decide) (aI rfl ?_);intro b1006 m1006 o1006);refine CallVC.ret (bJ [[115,101,108,101,99,116],[40]] _ bp w ts _ (Own.cellB ‹_› 0 rfl 0) (Own.reads ‹_› 1 hR.1 rfl) (Own.boxArr ‹_› 7 rfl rfl (by decide)) hl) ?_;rintro _ h4 ⟨rv,oc⟩;have o4:=oc.thenE ‹_›;clear oc;have hb:bK [[115,101,108,101,99,116],[40]] ts=false:=hno 0 (by decide)
    rw[hb]at rv
    subst rv;refine Br.tt ?_;refine Ar.i64 (by omega) (by omega) ?_
    refine⟨rfl,?_⟩
    exact⟨⟨1,by omega,rfl,Own.sel ‹_› [0,1,2,3,4,5] rfl⟩,by simp⟩
   ·refine Br.tt ?_
    refine run (aBJ dM aU (o3.boxArrN 5 rfl ‹_› (by omega)) rfl (by omega) (by omega) ?_);refine run (aBB o3 5 rfl aU rfl rfl rfl ?_);(refine RunVC.alloc o3 aU ?_;intro b2002 m2002 o2002);(refine RunVC.aBA o2002 6 rfl aU rfl (by decide) (aI ⟨rfl,rfl⟩ ?_);intro m2003 o2003);refine run (fA cD rfl rfl rfl ?_);refine run (aBx o2003 6 rfl aN rfl rfl ?_);(refine RunVC.lit o2003 aH aN rfl rfl (by decide) (aI rfl ?_);intro b2006 m2006 o2006);refine CallVC.ret (bJ [[112,114,111,106,101,99,116],[40]] _ bp w ts _ (Own.cellB ‹_› 0 rfl 0) (Own.reads ‹_› 1 hR.1 rfl) (Own.boxArr ‹_› 7 rfl rfl (by decide)) hl) ?_;rintro _ h4 ⟨rv,oc⟩;have o4:=oc.thenE ‹_›;clear oc;have hb:bK [[112,114,111,106,101,99,116],[40]] ts=false:=hno 1 (by decide)
    rw[hb]at rv
    subst rv;refine Br.tt ?_;refine Ar.i64 (by omega) (by omega) ?_
    refine⟨rfl,?_⟩
    exact⟨⟨2,by omega,rfl,Own.sel ‹_› [0,1,2,3,4,5] rfl⟩,by simp⟩
   ·refine Br.tt ?_
    refine run (aBJ dM aU (o3.boxArrN 5 rfl ‹_› (by omega)) rfl (by omega) (by omega) ?_);refine run (aBB o3 5 rfl aU rfl rfl rfl ?_);(refine RunVC.alloc o3 aU ?_;intro b3002 m3002 o3002);(refine RunVC.aBA o3002 6 rfl aU rfl (by decide) (aI ⟨rfl,rfl⟩ ?_);intro m3003 o3003);refine run (fA cD rfl rfl rfl ?_);refine run (aBx o3003 6 rfl aN rfl rfl ?_);(refine RunVC.lit o3003 aH aN rfl rfl (by decide) (aI rfl ?_);intro b3006 m3006 o3006);refine CallVC.ret (bJ [[106,111,105,110],[40]] _ bp w ts _ (Own.cellB ‹_› 0 rfl 0) (Own.reads ‹_› 1 hR.1 rfl) (Own.boxArr ‹_› 7 rfl rfl (by decide)) hl) ?_;rintro _ h4 ⟨rv,oc⟩;have o4:=oc.thenE ‹_›;clear oc
    rw[hb]at rv
    subst rv;have hE:cJ z (n+1) ts=(bP z [[106,111,105,110],[40]] >>= fun _=>cJ z n >>= fun a=>ifP (wJ 2) (bP z [[44]] >>= fun _=>cJ z n >>= fun b=>pure [a,b]) [a] >>= fun kids=>eS z 2 (bD ts) kids >>= fun x=>bP z [[41]] >>= fun _=>(pure x:PM Ex)) ts:=jD (jC (by decide) hno hb);have o5:=o4.sel [0,1,2,3,4,6] rfl
    simp only[PSt,pick,lcA,lnA,lgS,lgZ,lgN]at o5
    clear o3 o4;refine Br.ff ?_;refine Ar.i64 (by omega) (by omega) ?_;refine run (fA aO rfl rfl rfl ?_);(refine RunVC.store o5 3 rfl aW rfl (by simp) (aI ⟨rfl,rfl⟩ ?_);intro m3041 o3041);refine run (fA cD rfl rfl rfl ?_);refine run (aBx o3041 5 rfl aN rfl rfl ?_);(refine RunVC.lit o3041 aH aN rfl rfl (by decide) (aI rfl ?_);intro b3044 m3044 o3044);refine aS (ss:=[[106,111,105,110],[40]]) ‹_› rfl (by first|exact⟨2,by decide,rfl⟩|exact⟨3,by decide,rfl⟩|exact⟨4,by decide,rfl⟩|exact⟨5,by decide,rfl⟩|exact⟨6,by decide,rfl⟩|exact⟨7,by decide,rfl⟩|exact⟨8,by decide,rfl⟩|exact⟨9,by decide,rfl⟩) hR (by omega) (by decide) (fun _ q1 w1 v h5 hm hv hle1 hR1 oq=>?_) (fun e w' h' hm o2=>⟨e,w',hE.trans (PM.aBy hm),rfl,o2⟩);subst hv
    rw[PM.aBz hm]at hE
    have o6:=oq.sel [0,1,2,3,4,5] rfl
    simp only[PSt,pick,lcA,lnA,lgS,lgZ,lgN]at o6
    clear oq hm;refine DrawVC.join [49,50,51,52,53,54,55,56,57,58,59] [] (fun _ hh=>∃(a1:Ex) (q2:List Tok) (w2:Value) (c1:cV) (I1:Item) (ua:Option Addr) (uc:Nat),cJ z n q1=.ok (a1,q2)∧q2.length≤q1.length∧cH tk w2 q2∧lB I1 c1.1 a1∧Own B [box bp [w2,.int .i64 z] 72,tk,I1,box b10 [.int .i64 0,.string ⟨⟨[]⟩⟩,aK,aK,aK,.string ⟨⟨[]⟩⟩,.string ⟨⟨[]⟩⟩,.int .i64 0,.int .i64 0] 42,box b13 [.int .i64 4,.string ⟨⟨[]⟩⟩,.slice ua 1 uc,aK,aK,.string ⟨⟨[]⟩⟩,.string ⟨⟨[]⟩⟩,.int .i64 0,.int .i64 (bD ts)] 42,box pb [.pointer (some ⟨bp,0,none⟩)] 70,box b3002 [.string ⟨⟨[106,111,105,110]⟩⟩,.bool true,.func (.func 160) ⟨[]⟩ ⟨[]⟩] 188,row (.slice ua 1 uc) 42 9 1 c1.1] hh) ?_ ?_
    ·refine DrawVC.aBU b13 [0,2,3,4,6,9,11] [1] [8,10,12] (.one 0 (.one 1 (.one 2 (.one 3 (.one 4 (.one 6 (.fork 5 7 (.one 7 (.one 8 (.one 9 (.one 11 (.fork 10 12 (.one 12 .done) (.one 10 .done)))))) (.one 5 (.one 8 (.one 9 (.one 11 (.fork 10 12 (.one 12 .done) (.one 10 .done))))))))))))) mixed (by kernel_rfl) rfl (fun _ _ _ _ h=>h) ?_
     refine fA aO rfl rfl rfl ?_;refine StillVCA.load1 cX rfl rfl ((o6.cellB 3 rfl _).trans rfl) ?_;refine Ar.i64 (by omega) (by omega) ?_;refine aBH rfl bY ?_
     refine⟨?_,?_⟩
     ·skip
      refine cQ.callL (fun B' o'=>ih (level+1) (by omega) B' bp z tk _ _ _ o' hR1 (by omega)) ‹_› rfl (fun a1 q2 w2 v I1 h6 hm hv hle2 hR2 oq=>?_) (fun e w' h' hm o2=>⟨e,w',hE.trans (PM.aBy hm),rfl,o2⟩)
      obtain⟨c1,rfl,hx1⟩:=hv
      have o7:=oq
      simp only[PSt,pick,lcA,lnA,lgS,lgZ,lgN]at o7
      clear oq
      refine⟨Eq.trans (Own.satK o7 4 rfl) (Eq.symm (Own.satK (x:=box b13 _ _) ‹_› 3 rfl)),?_⟩
      have one1:=eN (Own.satK o7 2 rfl) hx1;(refine RunVC.aBV o7 bY aT rfl rfl (by decide) ?_);refine aI rfl ?_;intro b3101 m3101 o3101;refine aI ((o3101.boxBlk 4 rfl).trans (o7.boxBlk 4 rfl).symm) ?_;have on:=Own.nilRow ‹_› 42 9
      simp only[lcA,lnA]at on
      refine RunVC.append on 8 rfl bY aT (by decide) (Own.boxArrN on 7 rfl (n:=1) rfl (by omega)) (by simp[Value.oneCell']) (by simp only[maxLen];omega) (by omega) ?_;intro vA mA oA
      obtain⟨ua,uc,rfl⟩:=oA.rowIs 8 rfl
      refine aBJ bY aT (oA.rowArrN 8 rfl) rfl (by omega) (by omega) ?_;refine fA aO rfl rfl rfl ?_
      refine⟨?_,?_⟩
      ·skip
       refine RunVC.aBI (i:=0) ‹_› 8 rfl aT rfl rfl rfl c1.2 (by decide) (by decide) one1 ?_;intro mB oB
       simp only[lsS,lsZ]at oB
       (refine RunVC.store oB 4 rfl cX rfl (by simp) (aI ⟨rfl,rfl⟩ ?_);intro m3140 o3140)
       refine⟨rfl,?_⟩
       have ef:=cA (cs:=[.int .i64 0,.string ⟨⟨[]⟩⟩,aK,aK,aK,.string ⟨⟨[]⟩⟩,.string ⟨⟨[]⟩⟩,.int .i64 0,.int .i64 0]) (c:=c1) rfl
       exact⟨a1,q2,w2,c1,I1,ua,uc,hm,hle2,hR2,hx1,ef▸Own.sel ‹_› [0,1,2,3,4,5,6,8] rfl⟩
      ·skip
       (refine RunVC.store oA 4 rfl cX rfl (by simp) (aI ⟨rfl,rfl⟩ ?_);intro m3150 o3150);refine RunVC.aBI (i:=0) ‹_› 8 rfl aT rfl rfl rfl c1.2 (by decide) (by decide) one1 ?_;intro mB oB
       simp only[lsS,lsZ]at oB
       refine⟨rfl,?_⟩
       have ef:=cA (cs:=[.int .i64 0,.string ⟨⟨[]⟩⟩,aK,aK,aK,.string ⟨⟨[]⟩⟩,.string ⟨⟨[]⟩⟩,.int .i64 0,.int .i64 0]) (c:=c1) rfl
       exact⟨a1,q2,w2,c1,I1,ua,uc,hm,hle2,hR2,hx1,ef▸Own.sel ‹_› [0,1,2,3,4,5,6,8] rfl⟩
     ·skip
      (refine RunVC.aBV o6 bY aT rfl rfl (by decide) ?_);refine aI rfl ?_;intro b3281 m3281 o3281;refine aI ((o3281.boxBlk 3 rfl).trans (o6.boxBlk 3 rfl).symm) ?_;refine cQ.callL (fun B' o'=>ih (level+1) (by omega) B' bp z tk _ _ _ o' hR1 (by omega)) ‹_› rfl (fun a1 q2 w2 v I1 h6 hm hv hle2 hR2 oq=>?_) (fun e w' h' hm o2=>⟨e,w',hE.trans (PM.aBy hm),rfl,o2⟩)
      obtain⟨c1,rfl,hx1⟩:=hv
      have o7:=oq
      simp only[PSt,pick,lcA,lnA,lgS,lgZ,lgN]at o7
      clear oq
      refine⟨Eq.trans (Own.satK o7 4 rfl) (Eq.symm (Own.satK (x:=box b13 _ _) ‹_› 3 rfl)),?_⟩
      have one1:=eN (Own.satK o7 2 rfl) hx1;have on:=Own.nilRow ‹_› 42 9
      simp only[lcA,lnA]at on
      refine RunVC.append on 8 rfl bY aT (by decide) (Own.boxArrN on 7 rfl (n:=1) rfl (by omega)) (by simp[Value.oneCell']) (by simp only[maxLen];omega) (by omega) ?_;intro vA mA oA
      obtain⟨ua,uc,rfl⟩:=oA.rowIs 8 rfl
      refine aBJ bY aT (oA.rowArrN 8 rfl) rfl (by omega) (by omega) ?_;refine fA aO rfl rfl rfl ?_
      refine⟨?_,?_⟩
      ·skip
       refine RunVC.aBI (i:=0) ‹_› 8 rfl aT rfl rfl rfl c1.2 (by decide) (by decide) one1 ?_;intro mB oB
       simp only[lsS,lsZ]at oB
       (refine RunVC.store oB 4 rfl cX rfl (by simp) (aI ⟨rfl,rfl⟩ ?_);intro m3340 o3340)
       refine⟨rfl,?_⟩
       have ef:=cA (cs:=[.int .i64 0,.string ⟨⟨[]⟩⟩,aK,aK,aK,.string ⟨⟨[]⟩⟩,.string ⟨⟨[]⟩⟩,.int .i64 0,.int .i64 0]) (c:=c1) rfl
       exact⟨a1,q2,w2,c1,I1,ua,uc,hm,hle2,hR2,hx1,ef▸Own.sel ‹_› [0,1,2,3,4,5,6,8] rfl⟩
      ·skip
       (refine RunVC.store oA 4 rfl cX rfl (by simp) (aI ⟨rfl,rfl⟩ ?_);intro m3350 o3350);refine RunVC.aBI (i:=0) ‹_› 8 rfl aT rfl rfl rfl c1.2 (by decide) (by decide) one1 ?_;intro mB oB
       simp only[lsS,lsZ]at oB
       refine⟨rfl,?_⟩
       have ef:=cA (cs:=[.int .i64 0,.string ⟨⟨[]⟩⟩,aK,aK,aK,.string ⟨⟨[]⟩⟩,.string ⟨⟨[]⟩⟩,.int .i64 0,.int .i64 0]) (c:=c1) rfl
       exact⟨a1,q2,w2,c1,I1,ua,uc,hm,hle2,hR2,hx1,ef▸Own.sel ‹_› [0,1,2,3,4,5,6,8] rfl⟩
    ·rintro _ junk2 h7 ⟨a1,q2,w2,c1,I1,ua,uc,hm,hle2,hR2,hx1,o8⟩
     rw[PM.aBz hm]at hE
     rw[mX (by rfl),PM.aB1]at hE
     refine run (fA cD rfl rfl rfl ?_);refine run (aBx o8 6 rfl ty4 rfl rfl ?_);refine Br.tt ?_;(refine RunVC.lit o8 aH aN rfl rfl (by decide) (aI rfl ?_);intro b3502 m3502 o3502);refine aS (ss:=[[44]]) ‹_› rfl (by first|exact⟨2,by decide,rfl⟩|exact⟨3,by decide,rfl⟩|exact⟨4,by decide,rfl⟩|exact⟨5,by decide,rfl⟩|exact⟨6,by decide,rfl⟩|exact⟨7,by decide,rfl⟩|exact⟨8,by decide,rfl⟩|exact⟨9,by decide,rfl⟩) hR2 (by omega) (by decide) (fun _ q3 w3 v h8 hm3 hv hle3 hR3 oq=>?_) (fun e w' h' hm o2=>⟨e,w',hE.trans (PM.aBy hm),rfl,o2⟩);subst hv
     rw[PM.aBz hm3,PM.aB1]at hE
     have o9:=oq.sel [0,1,2,3,4,5,6,7] rfl
     simp only[PSt,pick,lcA,lnA,lgS,lgZ,lgN]at o9
     clear oq o8 hm;refine DrawVC.join [65,66,67,68,69,70,71,72,73,74,75] [] (fun _ hh=>∃(a2:Ex) (q4:List Tok) (w4:Value) (c2:cV) (I2:Item) (ua:Option Addr) (uc:Nat),cJ z n q3=.ok (a2,q4)∧q4.length≤q3.length∧cH tk w4 q4∧lB I2 c2.1 a2∧Own B [box bp [w4,.int .i64 z] 72,tk,I2,I1,box b10 [.int .i64 0,.string ⟨⟨[]⟩⟩,aK,aK,aK,.string ⟨⟨[]⟩⟩,.string ⟨⟨[]⟩⟩,.int .i64 0,.int .i64 0] 42,box b13 [.int .i64 4,.string ⟨⟨[]⟩⟩,.slice ua 2 uc,aK,aK,.string ⟨⟨[]⟩⟩,.string ⟨⟨[]⟩⟩,.int .i64 0,.int .i64 (bD ts)] 42,box pb [.pointer (some ⟨bp,0,none⟩)] 70,box b3002 [.string ⟨⟨[106,111,105,110]⟩⟩,.bool true,.func (.func 160) ⟨[]⟩ ⟨[]⟩] 188,row (.slice ua 2 uc) 42 9 2 (c1.1++c2.1)] hh) ?_ ?_
     ·refine DrawVC.aBU b13 [0,2,3,4,6,9,11] [1] [8,10,12] (.one 0 (.one 1 (.one 2 (.one 3 (.one 4 (.one 6 (.fork 5 7 (.one 7 (.one 8 (.one 9 (.one 11 (.fork 10 12 (.one 12 .done) (.one 10 .done)))))) (.one 5 (.one 8 (.one 9 (.one 11 (.fork 10 12 (.one 12 .done) (.one 10 .done))))))))))))) mixed (by kernel_rfl) rfl (fun _ _ _ _ h=>h) ?_
      refine fA aO rfl rfl rfl ?_;refine StillVCA.load1 cX rfl rfl ((o9.cellB 4 rfl _).trans rfl) ?_;refine Ar.i64 (by omega) (by omega) ?_;refine aBH rfl bY ?_
      refine⟨?_,?_⟩
      ·skip
       refine cQ.callL (fun B' o'=>ih (level+1) (by omega) B' bp z tk _ _ _ o' hR3 (by omega)) ‹_› rfl (fun a2 q4 w4 v I2 h9 hm4 hv hle4 hR4 oq=>?_) (fun e w' h' hm o2=>⟨e,w',hE.trans (PM.aBy hm),rfl,o2⟩)
       obtain⟨c2,rfl,hx2⟩:=hv
       have o7:=oq
       simp only[PSt,pick,lcA,lnA,lgS,lgZ,lgN]at o7
       clear oq
       refine⟨Eq.trans (Own.satK o7 5 rfl) (Eq.symm (Own.satK (x:=box b13 _ _) ‹_› 4 rfl)),?_⟩
       have one2:=eN (Own.satK o7 2 rfl) hx2;(refine RunVC.aBV o7 bY aT rfl rfl (by decide) ?_);refine aI rfl ?_;intro b3571 m3571 o3571;refine aI ((o3571.boxBlk 5 rfl).trans (o7.boxBlk 5 rfl).symm) ?_;refine RunVC.append ‹_› 8 rfl bY aT (by decide) (Own.boxArrN ‹_› 9 rfl (n:=1) rfl (by omega)) (by simp[Value.oneCell']) (by simp only[maxLen];omega) (by omega) ?_;intro vA mA oA
       obtain⟨ua,uc,rfl⟩:=oA.rowIs 8 rfl
       refine aBJ bY aT (oA.rowArrN 8 rfl) rfl (by omega) (by omega) ?_;refine fA aO rfl rfl rfl ?_
       refine⟨?_,?_⟩
       ·skip
        refine RunVC.aBI (i:=1) ‹_› 8 rfl aT rfl rfl rfl c2.2 (by decide) (by decide) one2 ?_;intro mB oB
        simp only[lsS,lsZ]at oB
        (refine RunVC.store oB 5 rfl cX rfl (by simp) (aI ⟨rfl,rfl⟩ ?_);intro m3610 o3610)
        refine⟨rfl,?_⟩
        have ef:=eE (cs:=[.int .i64 0,.string ⟨⟨[]⟩⟩,aK,aK,aK,.string ⟨⟨[]⟩⟩,.string ⟨⟨[]⟩⟩,.int .i64 0,.int .i64 0]) (c:=c1) (d:=c2) rfl
        exact⟨a2,q4,w4,c2,I2,ua,uc,hm4,hle4,hR4,hx2,ef▸Own.sel ‹_› [0,1,2,3,4,5,6,7,8] rfl⟩
       ·skip
        (refine RunVC.store oA 5 rfl cX rfl (by simp) (aI ⟨rfl,rfl⟩ ?_);intro m3620 o3620);refine RunVC.aBI (i:=1) ‹_› 8 rfl aT rfl rfl rfl c2.2 (by decide) (by decide) one2 ?_;intro mB oB
        simp only[lsS,lsZ]at oB
        refine⟨rfl,?_⟩
        have ef:=eE (cs:=[.int .i64 0,.string ⟨⟨[]⟩⟩,aK,aK,aK,.string ⟨⟨[]⟩⟩,.string ⟨⟨[]⟩⟩,.int .i64 0,.int .i64 0]) (c:=c1) (d:=c2) rfl
        exact⟨a2,q4,w4,c2,I2,ua,uc,hm4,hle4,hR4,hx2,ef▸Own.sel ‹_› [0,1,2,3,4,5,6,7,8] rfl⟩
      ·skip
       (refine RunVC.aBV o9 bY aT rfl rfl (by decide) ?_);refine aI rfl ?_;intro b3691 m3691 o3691;refine aI ((o3691.boxBlk 4 rfl).trans (o9.boxBlk 4 rfl).symm) ?_;refine cQ.callL (fun B' o'=>ih (level+1) (by omega) B' bp z tk _ _ _ o' hR3 (by omega)) ‹_› rfl (fun a2 q4 w4 v I2 h9 hm4 hv hle4 hR4 oq=>?_) (fun e w' h' hm o2=>⟨e,w',hE.trans (PM.aBy hm),rfl,o2⟩)
       obtain⟨c2,rfl,hx2⟩:=hv
       have o7:=oq
       simp only[PSt,pick,lcA,lnA,lgS,lgZ,lgN]at o7
       clear oq
       refine⟨Eq.trans (Own.satK o7 5 rfl) (Eq.symm (Own.satK (x:=box b13 _ _) ‹_› 4 rfl)),?_⟩
       have one2:=eN (Own.satK o7 2 rfl) hx2;refine RunVC.append ‹_› 8 rfl bY aT (by decide) (Own.boxArrN ‹_› 9 rfl (n:=1) rfl (by omega)) (by simp[Value.oneCell']) (by simp only[maxLen];omega) (by omega) ?_;intro vA mA oA
       obtain⟨ua,uc,rfl⟩:=oA.rowIs 8 rfl
       refine aBJ bY aT (oA.rowArrN 8 rfl) rfl (by omega) (by omega) ?_;refine fA aO rfl rfl rfl ?_
       refine⟨?_,?_⟩
       ·skip
        refine RunVC.aBI (i:=1) ‹_› 8 rfl aT rfl rfl rfl c2.2 (by decide) (by decide) one2 ?_;intro mB oB
        simp only[lsS,lsZ]at oB
        (refine RunVC.store oB 5 rfl cX rfl (by simp) (aI ⟨rfl,rfl⟩ ?_);intro m3750 o3750)
        refine⟨rfl,?_⟩
        have ef:=eE (cs:=[.int .i64 0,.string ⟨⟨[]⟩⟩,aK,aK,aK,.string ⟨⟨[]⟩⟩,.string ⟨⟨[]⟩⟩,.int .i64 0,.int .i64 0]) (c:=c1) (d:=c2) rfl
        exact⟨a2,q4,w4,c2,I2,ua,uc,hm4,hle4,hR4,hx2,ef▸Own.sel ‹_› [0,1,2,3,4,5,6,7,8] rfl⟩
       ·skip
        (refine RunVC.store oA 5 rfl cX rfl (by simp) (aI ⟨rfl,rfl⟩ ?_);intro m3760 o3760);refine RunVC.aBI (i:=1) ‹_› 8 rfl aT rfl rfl rfl c2.2 (by decide) (by decide) one2 ?_;intro mB oB
        simp only[lsS,lsZ]at oB
        refine⟨rfl,?_⟩
        have ef:=eE (cs:=[.int .i64 0,.string ⟨⟨[]⟩⟩,aK,aK,aK,.string ⟨⟨[]⟩⟩,.string ⟨⟨[]⟩⟩,.int .i64 0,.int .i64 0]) (c:=c1) (d:=c2) rfl
        exact⟨a2,q4,w4,c2,I2,ua,uc,hm4,hle4,hR4,hx2,ef▸Own.sel ‹_› [0,1,2,3,4,5,6,7,8] rfl⟩
     ·rintro _ junk3 h9 ⟨a2,q4,w4,c2,I2,ua,uc,hm,hle4,hR4,hx2,o8⟩
      rw[PM.aBz hm,PM.aBM]at hE
      refine RegVC.plain ?_;refine run (fA cD rfl rfl rfl ?_);refine run (aBx o8 7 rfl xD rfl rfl ?_);refine CallVC.ret (uJ b13 _) ?_;rintro _ h10 ⟨rfl,oc⟩;have o9:=oc.thenE o8;clear oc o8;have e2:eS z 2 (bD ts) [a1,a2] q4=.ok (Ex.mk 4 [] [a1,a2] [] [] [] [] 0 (bD ts),q4):=rfl
      rw[PM.aBz e2]at hE
      (refine RunVC.lit o9 aH aN rfl rfl (by decide) (aI rfl ?_);intro b3840 m3840 o3840);refine aS (ss:=[[41]]) ‹_› rfl (by first|exact⟨2,by decide,rfl⟩|exact⟨3,by decide,rfl⟩|exact⟨4,by decide,rfl⟩|exact⟨5,by decide,rfl⟩|exact⟨6,by decide,rfl⟩|exact⟨7,by decide,rfl⟩|exact⟨8,by decide,rfl⟩|exact⟨9,by decide,rfl⟩) hR4 (by omega) (by decide) (fun _ q5 w5 v h11 hm5 hv hle5 hR5 oq=>?_) (fun e w' h' hm o2=>⟨e,w',hE.trans (PM.aBy hm),rfl,o2⟩);subst hv
      rw[PM.aBz hm5]at hE
      have o10:=oq
      simp only[PSt,pick,lcA,lnA,lgS,lgZ,lgN]at o10
      clear oq o9;refine run (aBB o10 5 rfl aT rfl rfl rfl ?_);(refine RunVC.aBA o10 4 rfl aT rfl (by decide) (aI ⟨rfl,rfl⟩ ?_);intro m3861 o3861)
      first|refine RetVC.aBL rfl o3861 4 rfl aT rfl rfl ?_|refine RetVC.aBK rfl o3861 4 rfl aT rfl rfl ?_|refine RetVC.cellTT rfl o3861 4 rfl aT rfl rfl ?_
      have er:[c1,c2].flatMap Subtype.val=c1.1++c2.1:=by simp
      exact⟨_,q5,w5,dT (dT I2 I1) (row (.slice ua 2 uc) 42 9 2 (c1.1++c2.1)),hE,⟨⟨wB 4 [] (.slice ua 2 uc) aK aK [] [] 0 (bD ts),rfl⟩,rfl,by rw[lB];exact⟨_,_,_,rfl,aM,aM,[c1,c2],by rw[er];exact dD.inr,lB.mono (fun _ (s:(dT (dT _ _) _).sat _)=>s.1.2) _ _ hx1,lB.mono (fun _ (s:(dT (dT _ _) _).sat _)=>s.1.1) _ _ hx2,trivial⟩⟩,by omega,hR5,((Own.sel ‹_› [2,3,8,0,1] rfl).join.join).sel [1,2,0] rfl⟩
theorem expr_union (n:Nat)(hn:n≤11)(ih:lD n):∀(level:Int)(_:level=13 - ((n+1:Nat):Int))(B:Base)(bp z:Nat)(tk:Item)(w:Value)(ts:List Tok)(h:Heap)(_:Own B (PSt bp z w tk) h)(_:cH tk w ts)(_:ts.length≤5000)(_:∀ j,j<3→bK [dB.getD j [],[40]] ts=false)(_:bK [[117,110,105,111,110],[40]] ts=true),
  Spec Tryz.prog 118 [.pointer (some ⟨bp,0,none⟩),.int .i64 level] h (cQ B bp z tk ts.length (cJ z (n+1) ts) exV):=by
 intro level hlv B bp z tk w ts h o hR hl hno hb
 obtain⟨hRd,hK⟩:=hR
 have hR:cH tk w ts:=⟨hRd,hK⟩;refine Spec.enter Tryz.func118 rfl Tryz.ntmps118 (by kernel_rfl) ?_;(refine RunVC.alloc o aT ?_;intro b10 m10 o10);refine Br.dec (fun hc=>absurd hc (by omega)) (fun c11=>?_);refine run (aBE aO ?_);refine aI rfl ?_;(refine RunVC.alloc o10 aT ?_;intro b13 m13 o13);(refine RunVC.aBA o13 3 rfl aT rfl (by decide) (aI ⟨rfl,rfl⟩ ?_);intro m14 o14);refine run (nC rfl ?_);refine run (fA fD rfl rfl rfl ?_);refine run (aBx o14 0 rfl eF rfl rfl ?_);refine run (aBX (o14.reads 1 hRd rfl) fE ?_);refine Br.join [19,20,21,22,23,24,25,26] [] (fun _ hh=>Own B [box bp [w,.int .i64 z] 72,tk,box b10 [.int .i64 0,.string ⟨⟨[]⟩⟩,aK,aK,aK,.string ⟨⟨[]⟩⟩,.string ⟨⟨[]⟩⟩,.int .i64 0,.int .i64 0] 42,box b13 [.int .i64 1,.string ⟨⟨[]⟩⟩,aK,aK,aK,.string ⟨⟨[]⟩⟩,.string ⟨⟨[]⟩⟩,.int .i64 0,.int .i64 (bD ts)] 42] hh) rfl rfl ?_ ?_
 ·cases ts with
  | nil =>
   refine Br.ff ?_
   refine⟨rfl,?_⟩
   exact o14
  | cons t r =>
   have hx:(t::r)[0]?=some t:=rfl;have hln:(t::r).length=r.length+1:=rfl;refine Br.dec (fun c30=>?_) (fun hc=>absurd (by omega) hc);refine run (nC rfl ?_);refine run (fA fD rfl rfl rfl ?_);refine run (aBx o14 0 rfl eF rfl rfl ?_);refine run (aBJ fE bA (o14.reads 1 hRd rfl) rfl (by omega) (by omega) ?_);refine run (aBT (o14.reads 1 hRd rfl) (by omega) eI rfl rfl rfl ?_);refine run (aBW (o14.reads 1 hRd rfl) aW (fun _=>rfl) rfl ‹_› rfl ?_);refine run (fA aO rfl rfl rfl ?_);(refine RunVC.aBA o14 3 rfl aW rfl (by decide) (aI ⟨rfl,rfl⟩ ?_);intro m38 o38)
   refine⟨rfl,?_⟩
   exact Own.sel ‹_› [0,1,2,3] rfl
 ·intro vs junk hh oh
  refine CallVC.ret (eD bp _) ?_;rintro _ h2 ⟨bo,pb,rfl,oc⟩;have o2:=oh.call oc
  simp only[lcA,lnA]at o2
  clear oc;refine run (aBH rfl dM ?_);refine LoopVC.intro [6,7,30,31,32,33,34,35,36,37,38,39,40,41,42,43,44,45,46,47,48,49,50,51,52,53,54,55,56,57,58,59,60,61,62,63,64,65,66,67,68,69,70,71,72,73,74,75,76,77,78,79,80,81,82,83] [30] (fun vs hh=>∃(i:Nat),i≤3∧vs=[.int .i64 i]∧Own B [box bp [w,.int .i64 z] 72,tk,box b10 [.int .i64 0,.string ⟨⟨[]⟩⟩,aK,aK,aK,.string ⟨⟨[]⟩⟩,.string ⟨⟨[]⟩⟩,.int .i64 0,.int .i64 0] 42,box b13 [.int .i64 1,.string ⟨⟨[]⟩⟩,aK,aK,aK,.string ⟨⟨[]⟩⟩,.string ⟨⟨[]⟩⟩,.int .i64 0,.int .i64 (bD ts)] 42,box pb [.pointer (some ⟨bp,0,none⟩)] 70,box bo (qG pb) 188] hh) (fun vs _=>match vs with|[.int _ i]=>7 - i.toNat|_=>0) ?_ ?_
  ·exact⟨0,by omega,rfl,o2⟩
  ·rintro vs' junk' h3 ⟨i,hi,rfl,o3⟩
   clear o14 oh o2;have hoL:(qG pb).length=7*3:=rfl
   rcases(by omega:i=0∨i=1∨i=2∨i=3) with rfl|rfl|rfl|rfl
   ·refine Br.tt ?_
    refine run (aBJ dM aU (o3.boxArrN 5 rfl ‹_› (by omega)) rfl (by omega) (by omega) ?_);refine run (aBB o3 5 rfl aU rfl rfl rfl ?_);(refine RunVC.alloc o3 aU ?_;intro b1002 m1002 o1002);(refine RunVC.aBA o1002 6 rfl aU rfl (by decide) (aI ⟨rfl,rfl⟩ ?_);intro m1003 o1003);refine run (fA cD rfl rfl rfl ?_);refine run (aBx o1003 6 rfl aN rfl rfl ?_);(refine RunVC.lit o1003 aH aN rfl rfl (by decide) (aI rfl ?_);intro b1006 m1006 o1006);refine CallVC.ret (bJ [[115,101,108,101,99,116],[40]] _ bp w ts _ (Own.cellB ‹_› 0 rfl 0) (Own.reads ‹_› 1 hR.1 rfl) (Own.boxArr ‹_› 7 rfl rfl (by decide)) hl) ?_;rintro _ h4 ⟨rv,oc⟩;have o4:=oc.thenE ‹_›;clear oc;have hb:bK [[115,101,108,101,99,116],[40]] ts=false:=hno 0 (by decide)
    rw[hb]at rv
    subst rv;refine Br.tt ?_;refine Ar.i64 (by omega) (by omega) ?_
    refine⟨rfl,?_⟩
    exact⟨⟨1,by omega,rfl,Own.sel ‹_› [0,1,2,3,4,5] rfl⟩,by simp⟩
   ·refine Br.tt ?_
    refine run (aBJ dM aU (o3.boxArrN 5 rfl ‹_› (by omega)) rfl (by omega) (by omega) ?_);refine run (aBB o3 5 rfl aU rfl rfl rfl ?_);(refine RunVC.alloc o3 aU ?_;intro b2002 m2002 o2002);(refine RunVC.aBA o2002 6 rfl aU rfl (by decide) (aI ⟨rfl,rfl⟩ ?_);intro m2003 o2003);refine run (fA cD rfl rfl rfl ?_);refine run (aBx o2003 6 rfl aN rfl rfl ?_);(refine RunVC.lit o2003 aH aN rfl rfl (by decide) (aI rfl ?_);intro b2006 m2006 o2006);refine CallVC.ret (bJ [[112,114,111,106,101,99,116],[40]] _ bp w ts _ (Own.cellB ‹_› 0 rfl 0) (Own.reads ‹_› 1 hR.1 rfl) (Own.boxArr ‹_› 7 rfl rfl (by decide)) hl) ?_;rintro _ h4 ⟨rv,oc⟩;have o4:=oc.thenE ‹_›;clear oc;have hb:bK [[112,114,111,106,101,99,116],[40]] ts=false:=hno 1 (by decide)
    rw[hb]at rv
    subst rv;refine Br.tt ?_;refine Ar.i64 (by omega) (by omega) ?_
    refine⟨rfl,?_⟩
    exact⟨⟨2,by omega,rfl,Own.sel ‹_› [0,1,2,3,4,5] rfl⟩,by simp⟩
   ·refine Br.tt ?_
    refine run (aBJ dM aU (o3.boxArrN 5 rfl ‹_› (by omega)) rfl (by omega) (by omega) ?_);refine run (aBB o3 5 rfl aU rfl rfl rfl ?_);(refine RunVC.alloc o3 aU ?_;intro b3002 m3002 o3002);(refine RunVC.aBA o3002 6 rfl aU rfl (by decide) (aI ⟨rfl,rfl⟩ ?_);intro m3003 o3003);refine run (fA cD rfl rfl rfl ?_);refine run (aBx o3003 6 rfl aN rfl rfl ?_);(refine RunVC.lit o3003 aH aN rfl rfl (by decide) (aI rfl ?_);intro b3006 m3006 o3006);refine CallVC.ret (bJ [[106,111,105,110],[40]] _ bp w ts _ (Own.cellB ‹_› 0 rfl 0) (Own.reads ‹_› 1 hR.1 rfl) (Own.boxArr ‹_› 7 rfl rfl (by decide)) hl) ?_;rintro _ h4 ⟨rv,oc⟩;have o4:=oc.thenE ‹_›;clear oc;have hb:bK [[106,111,105,110],[40]] ts=false:=hno 2 (by decide)
    rw[hb]at rv
    subst rv;refine Br.tt ?_;refine Ar.i64 (by omega) (by omega) ?_
    refine⟨rfl,?_⟩
    exact⟨⟨3,by omega,rfl,Own.sel ‹_› [0,1,2,3,4,5] rfl⟩,by simp⟩
   ·refine Br.tt ?_
    refine run (aBJ dM aU (o3.boxArrN 5 rfl ‹_› (by omega)) rfl (by omega) (by omega) ?_);refine run (aBB o3 5 rfl aU rfl rfl rfl ?_);(refine RunVC.alloc o3 aU ?_;intro b4002 m4002 o4002);(refine RunVC.aBA o4002 6 rfl aU rfl (by decide) (aI ⟨rfl,rfl⟩ ?_);intro m4003 o4003);refine run (fA cD rfl rfl rfl ?_);refine run (aBx o4003 6 rfl aN rfl rfl ?_);(refine RunVC.lit o4003 aH aN rfl rfl (by decide) (aI rfl ?_);intro b4006 m4006 o4006);refine CallVC.ret (bJ [[117,110,105,111,110],[40]] _ bp w ts _ (Own.cellB ‹_› 0 rfl 0) (Own.reads ‹_› 1 hR.1 rfl) (Own.boxArr ‹_› 7 rfl rfl (by decide)) hl) ?_;rintro _ h4 ⟨rv,oc⟩;have o4:=oc.thenE ‹_›;clear oc
    rw[hb]at rv
    subst rv;have hE:cJ z (n+1) ts=(bP z [[117,110,105,111,110],[40]] >>= fun _=>cJ z n >>= fun a=>ifP (wJ 3) (bP z [[44]] >>= fun _=>cJ z n >>= fun b=>pure [a,b]) [a] >>= fun kids=>eS z 3 (bD ts) kids >>= fun x=>bP z [[41]] >>= fun _=>(pure x:PM Ex)) ts:=jD (jC (by decide) hno hb);have o5:=o4.sel [0,1,2,3,4,6] rfl
    simp only[PSt,pick,lcA,lnA,lgS,lgZ,lgN]at o5
    clear o3 o4;refine Br.ff ?_;refine Ar.i64 (by omega) (by omega) ?_;refine run (fA aO rfl rfl rfl ?_);(refine RunVC.store o5 3 rfl aW rfl (by simp) (aI ⟨rfl,rfl⟩ ?_);intro m4041 o4041);refine run (fA cD rfl rfl rfl ?_);refine run (aBx o4041 5 rfl aN rfl rfl ?_);(refine RunVC.lit o4041 aH aN rfl rfl (by decide) (aI rfl ?_);intro b4044 m4044 o4044);refine aS (ss:=[[117,110,105,111,110],[40]]) ‹_› rfl (by first|exact⟨2,by decide,rfl⟩|exact⟨3,by decide,rfl⟩|exact⟨4,by decide,rfl⟩|exact⟨5,by decide,rfl⟩|exact⟨6,by decide,rfl⟩|exact⟨7,by decide,rfl⟩|exact⟨8,by decide,rfl⟩|exact⟨9,by decide,rfl⟩) hR (by omega) (by decide) (fun _ q1 w1 v h5 hm hv hle1 hR1 oq=>?_) (fun e w' h' hm o2=>⟨e,w',hE.trans (PM.aBy hm),rfl,o2⟩);subst hv
    rw[PM.aBz hm]at hE
    have o6:=oq.sel [0,1,2,3,4,5] rfl
    simp only[PSt,pick,lcA,lnA,lgS,lgZ,lgN]at o6
    clear oq hm;refine DrawVC.join [49,50,51,52,53,54,55,56,57,58,59] [] (fun _ hh=>∃(a1:Ex) (q2:List Tok) (w2:Value) (c1:cV) (I1:Item) (ua:Option Addr) (uc:Nat),cJ z n q1=.ok (a1,q2)∧q2.length≤q1.length∧cH tk w2 q2∧lB I1 c1.1 a1∧Own B [box bp [w2,.int .i64 z] 72,tk,I1,box b10 [.int .i64 0,.string ⟨⟨[]⟩⟩,aK,aK,aK,.string ⟨⟨[]⟩⟩,.string ⟨⟨[]⟩⟩,.int .i64 0,.int .i64 0] 42,box b13 [.int .i64 5,.string ⟨⟨[]⟩⟩,.slice ua 1 uc,aK,aK,.string ⟨⟨[]⟩⟩,.string ⟨⟨[]⟩⟩,.int .i64 0,.int .i64 (bD ts)] 42,box pb [.pointer (some ⟨bp,0,none⟩)] 70,box b4002 [.string ⟨⟨[117,110,105,111,110]⟩⟩,.bool true,.func (.func 160) ⟨[]⟩ ⟨[]⟩] 188,row (.slice ua 1 uc) 42 9 1 c1.1] hh) ?_ ?_
    ·refine DrawVC.aBU b13 [0,2,3,4,6,9,11] [1] [8,10,12] (.one 0 (.one 1 (.one 2 (.one 3 (.one 4 (.one 6 (.fork 5 7 (.one 7 (.one 8 (.one 9 (.one 11 (.fork 10 12 (.one 12 .done) (.one 10 .done)))))) (.one 5 (.one 8 (.one 9 (.one 11 (.fork 10 12 (.one 12 .done) (.one 10 .done))))))))))))) mixed (by kernel_rfl) rfl (fun _ _ _ _ h=>h) ?_
     refine fA aO rfl rfl rfl ?_;refine StillVCA.load1 cX rfl rfl ((o6.cellB 3 rfl _).trans rfl) ?_;refine Ar.i64 (by omega) (by omega) ?_;refine aBH rfl bY ?_
     refine⟨?_,?_⟩
     ·skip
      refine cQ.callL (fun B' o'=>ih (level+1) (by omega) B' bp z tk _ _ _ o' hR1 (by omega)) ‹_› rfl (fun a1 q2 w2 v I1 h6 hm hv hle2 hR2 oq=>?_) (fun e w' h' hm o2=>⟨e,w',hE.trans (PM.aBy hm),rfl,o2⟩)
      obtain⟨c1,rfl,hx1⟩:=hv
      have o7:=oq
      simp only[PSt,pick,lcA,lnA,lgS,lgZ,lgN]at o7
      clear oq
      refine⟨Eq.trans (Own.satK o7 4 rfl) (Eq.symm (Own.satK (x:=box b13 _ _) ‹_› 3 rfl)),?_⟩
      have one1:=eN (Own.satK o7 2 rfl) hx1;(refine RunVC.aBV o7 bY aT rfl rfl (by decide) ?_);refine aI rfl ?_;intro b4101 m4101 o4101;refine aI ((o4101.boxBlk 4 rfl).trans (o7.boxBlk 4 rfl).symm) ?_;have on:=Own.nilRow ‹_› 42 9
      simp only[lcA,lnA]at on
      refine RunVC.append on 8 rfl bY aT (by decide) (Own.boxArrN on 7 rfl (n:=1) rfl (by omega)) (by simp[Value.oneCell']) (by simp only[maxLen];omega) (by omega) ?_;intro vA mA oA
      obtain⟨ua,uc,rfl⟩:=oA.rowIs 8 rfl
      refine aBJ bY aT (oA.rowArrN 8 rfl) rfl (by omega) (by omega) ?_;refine fA aO rfl rfl rfl ?_
      refine⟨?_,?_⟩
      ·skip
       refine RunVC.aBI (i:=0) ‹_› 8 rfl aT rfl rfl rfl c1.2 (by decide) (by decide) one1 ?_;intro mB oB
       simp only[lsS,lsZ]at oB
       (refine RunVC.store oB 4 rfl cX rfl (by simp) (aI ⟨rfl,rfl⟩ ?_);intro m4140 o4140)
       refine⟨rfl,?_⟩
       have ef:=cA (cs:=[.int .i64 0,.string ⟨⟨[]⟩⟩,aK,aK,aK,.string ⟨⟨[]⟩⟩,.string ⟨⟨[]⟩⟩,.int .i64 0,.int .i64 0]) (c:=c1) rfl
       exact⟨a1,q2,w2,c1,I1,ua,uc,hm,hle2,hR2,hx1,ef▸Own.sel ‹_› [0,1,2,3,4,5,6,8] rfl⟩
      ·skip
       (refine RunVC.store oA 4 rfl cX rfl (by simp) (aI ⟨rfl,rfl⟩ ?_);intro m4150 o4150);refine RunVC.aBI (i:=0) ‹_› 8 rfl aT rfl rfl rfl c1.2 (by decide) (by decide) one1 ?_;intro mB oB
       simp only[lsS,lsZ]at oB
       refine⟨rfl,?_⟩
       have ef:=cA (cs:=[.int .i64 0,.string ⟨⟨[]⟩⟩,aK,aK,aK,.string ⟨⟨[]⟩⟩,.string ⟨⟨[]⟩⟩,.int .i64 0,.int .i64 0]) (c:=c1) rfl
       exact⟨a1,q2,w2,c1,I1,ua,uc,hm,hle2,hR2,hx1,ef▸Own.sel ‹_› [0,1,2,3,4,5,6,8] rfl⟩
     ·skip
      (refine RunVC.aBV o6 bY aT rfl rfl (by decide) ?_);refine aI rfl ?_;intro b4281 m4281 o4281;refine aI ((o4281.boxBlk 3 rfl).trans (o6.boxBlk 3 rfl).symm) ?_;refine cQ.callL (fun B' o'=>ih (level+1) (by omega) B' bp z tk _ _ _ o' hR1 (by omega)) ‹_› rfl (fun a1 q2 w2 v I1 h6 hm hv hle2 hR2 oq=>?_) (fun e w' h' hm o2=>⟨e,w',hE.trans (PM.aBy hm),rfl,o2⟩)
      obtain⟨c1,rfl,hx1⟩:=hv
      have o7:=oq
      simp only[PSt,pick,lcA,lnA,lgS,lgZ,lgN]at o7
      clear oq
      refine⟨Eq.trans (Own.satK o7 4 rfl) (Eq.symm (Own.satK (x:=box b13 _ _) ‹_› 3 rfl)),?_⟩
      have one1:=eN (Own.satK o7 2 rfl) hx1;have on:=Own.nilRow ‹_› 42 9
      simp only[lcA,lnA]at on
      refine RunVC.append on 8 rfl bY aT (by decide) (Own.boxArrN on 7 rfl (n:=1) rfl (by omega)) (by simp[Value.oneCell']) (by simp only[maxLen];omega) (by omega) ?_;intro vA mA oA
      obtain⟨ua,uc,rfl⟩:=oA.rowIs 8 rfl
      refine aBJ bY aT (oA.rowArrN 8 rfl) rfl (by omega) (by omega) ?_;refine fA aO rfl rfl rfl ?_
      refine⟨?_,?_⟩
      ·skip
       refine RunVC.aBI (i:=0) ‹_› 8 rfl aT rfl rfl rfl c1.2 (by decide) (by decide) one1 ?_;intro mB oB
       simp only[lsS,lsZ]at oB
       (refine RunVC.store oB 4 rfl cX rfl (by simp) (aI ⟨rfl,rfl⟩ ?_);intro m4340 o4340)
       refine⟨rfl,?_⟩
       have ef:=cA (cs:=[.int .i64 0,.string ⟨⟨[]⟩⟩,aK,aK,aK,.string ⟨⟨[]⟩⟩,.string ⟨⟨[]⟩⟩,.int .i64 0,.int .i64 0]) (c:=c1) rfl
       exact⟨a1,q2,w2,c1,I1,ua,uc,hm,hle2,hR2,hx1,ef▸Own.sel ‹_› [0,1,2,3,4,5,6,8] rfl⟩
      ·skip
       (refine RunVC.store oA 4 rfl cX rfl (by simp) (aI ⟨rfl,rfl⟩ ?_);intro m4350 o4350);refine RunVC.aBI (i:=0) ‹_› 8 rfl aT rfl rfl rfl c1.2 (by decide) (by decide) one1 ?_;intro mB oB
       simp only[lsS,lsZ]at oB
       refine⟨rfl,?_⟩
       have ef:=cA (cs:=[.int .i64 0,.string ⟨⟨[]⟩⟩,aK,aK,aK,.string ⟨⟨[]⟩⟩,.string ⟨⟨[]⟩⟩,.int .i64 0,.int .i64 0]) (c:=c1) rfl
       exact⟨a1,q2,w2,c1,I1,ua,uc,hm,hle2,hR2,hx1,ef▸Own.sel ‹_› [0,1,2,3,4,5,6,8] rfl⟩
    ·rintro _ junk2 h7 ⟨a1,q2,w2,c1,I1,ua,uc,hm,hle2,hR2,hx1,o8⟩
     rw[PM.aBz hm]at hE
     rw[mX (by rfl),PM.aB1]at hE
     refine run (fA cD rfl rfl rfl ?_);refine run (aBx o8 6 rfl ty4 rfl rfl ?_);refine Br.tt ?_;(refine RunVC.lit o8 aH aN rfl rfl (by decide) (aI rfl ?_);intro b4502 m4502 o4502);refine aS (ss:=[[44]]) ‹_› rfl (by first|exact⟨2,by decide,rfl⟩|exact⟨3,by decide,rfl⟩|exact⟨4,by decide,rfl⟩|exact⟨5,by decide,rfl⟩|exact⟨6,by decide,rfl⟩|exact⟨7,by decide,rfl⟩|exact⟨8,by decide,rfl⟩|exact⟨9,by decide,rfl⟩) hR2 (by omega) (by decide) (fun _ q3 w3 v h8 hm3 hv hle3 hR3 oq=>?_) (fun e w' h' hm o2=>⟨e,w',hE.trans (PM.aBy hm),rfl,o2⟩);subst hv
     rw[PM.aBz hm3,PM.aB1]at hE
     have o9:=oq.sel [0,1,2,3,4,5,6,7] rfl
     simp only[PSt,pick,lcA,lnA,lgS,lgZ,lgN]at o9
     clear oq o8 hm;refine DrawVC.join [65,66,67,68,69,70,71,72,73,74,75] [] (fun _ hh=>∃(a2:Ex) (q4:List Tok) (w4:Value) (c2:cV) (I2:Item) (ua:Option Addr) (uc:Nat),cJ z n q3=.ok (a2,q4)∧q4.length≤q3.length∧cH tk w4 q4∧lB I2 c2.1 a2∧Own B [box bp [w4,.int .i64 z] 72,tk,I2,I1,box b10 [.int .i64 0,.string ⟨⟨[]⟩⟩,aK,aK,aK,.string ⟨⟨[]⟩⟩,.string ⟨⟨[]⟩⟩,.int .i64 0,.int .i64 0] 42,box b13 [.int .i64 5,.string ⟨⟨[]⟩⟩,.slice ua 2 uc,aK,aK,.string ⟨⟨[]⟩⟩,.string ⟨⟨[]⟩⟩,.int .i64 0,.int .i64 (bD ts)] 42,box pb [.pointer (some ⟨bp,0,none⟩)] 70,box b4002 [.string ⟨⟨[117,110,105,111,110]⟩⟩,.bool true,.func (.func 160) ⟨[]⟩ ⟨[]⟩] 188,row (.slice ua 2 uc) 42 9 2 (c1.1++c2.1)] hh) ?_ ?_
     ·refine DrawVC.aBU b13 [0,2,3,4,6,9,11] [1] [8,10,12] (.one 0 (.one 1 (.one 2 (.one 3 (.one 4 (.one 6 (.fork 5 7 (.one 7 (.one 8 (.one 9 (.one 11 (.fork 10 12 (.one 12 .done) (.one 10 .done)))))) (.one 5 (.one 8 (.one 9 (.one 11 (.fork 10 12 (.one 12 .done) (.one 10 .done))))))))))))) mixed (by kernel_rfl) rfl (fun _ _ _ _ h=>h) ?_
      refine fA aO rfl rfl rfl ?_;refine StillVCA.load1 cX rfl rfl ((o9.cellB 4 rfl _).trans rfl) ?_;refine Ar.i64 (by omega) (by omega) ?_;refine aBH rfl bY ?_
      refine⟨?_,?_⟩
      ·skip
       refine cQ.callL (fun B' o'=>ih (level+1) (by omega) B' bp z tk _ _ _ o' hR3 (by omega)) ‹_› rfl (fun a2 q4 w4 v I2 h9 hm4 hv hle4 hR4 oq=>?_) (fun e w' h' hm o2=>⟨e,w',hE.trans (PM.aBy hm),rfl,o2⟩)
       obtain⟨c2,rfl,hx2⟩:=hv
       have o7:=oq
       simp only[PSt,pick,lcA,lnA,lgS,lgZ,lgN]at o7
       clear oq
       refine⟨Eq.trans (Own.satK o7 5 rfl) (Eq.symm (Own.satK (x:=box b13 _ _) ‹_› 4 rfl)),?_⟩
       have one2:=eN (Own.satK o7 2 rfl) hx2;(refine RunVC.aBV o7 bY aT rfl rfl (by decide) ?_);refine aI rfl ?_;intro b4571 m4571 o4571;refine aI ((o4571.boxBlk 5 rfl).trans (o7.boxBlk 5 rfl).symm) ?_;refine RunVC.append ‹_› 8 rfl bY aT (by decide) (Own.boxArrN ‹_› 9 rfl (n:=1) rfl (by omega)) (by simp[Value.oneCell']) (by simp only[maxLen];omega) (by omega) ?_;intro vA mA oA
       obtain⟨ua,uc,rfl⟩:=oA.rowIs 8 rfl
       refine aBJ bY aT (oA.rowArrN 8 rfl) rfl (by omega) (by omega) ?_;refine fA aO rfl rfl rfl ?_
       refine⟨?_,?_⟩
       ·skip
        refine RunVC.aBI (i:=1) ‹_› 8 rfl aT rfl rfl rfl c2.2 (by decide) (by decide) one2 ?_;intro mB oB
        simp only[lsS,lsZ]at oB
        (refine RunVC.store oB 5 rfl cX rfl (by simp) (aI ⟨rfl,rfl⟩ ?_);intro m4610 o4610)
        refine⟨rfl,?_⟩
        have ef:=eE (cs:=[.int .i64 0,.string ⟨⟨[]⟩⟩,aK,aK,aK,.string ⟨⟨[]⟩⟩,.string ⟨⟨[]⟩⟩,.int .i64 0,.int .i64 0]) (c:=c1) (d:=c2) rfl
        exact⟨a2,q4,w4,c2,I2,ua,uc,hm4,hle4,hR4,hx2,ef▸Own.sel ‹_› [0,1,2,3,4,5,6,7,8] rfl⟩
       ·skip
        (refine RunVC.store oA 5 rfl cX rfl (by simp) (aI ⟨rfl,rfl⟩ ?_);intro m4620 o4620);refine RunVC.aBI (i:=1) ‹_› 8 rfl aT rfl rfl rfl c2.2 (by decide) (by decide) one2 ?_;intro mB oB
        simp only[lsS,lsZ]at oB
        refine⟨rfl,?_⟩
        have ef:=eE (cs:=[.int .i64 0,.string ⟨⟨[]⟩⟩,aK,aK,aK,.string ⟨⟨[]⟩⟩,.string ⟨⟨[]⟩⟩,.int .i64 0,.int .i64 0]) (c:=c1) (d:=c2) rfl
        exact⟨a2,q4,w4,c2,I2,ua,uc,hm4,hle4,hR4,hx2,ef▸Own.sel ‹_› [0,1,2,3,4,5,6,7,8] rfl⟩
      ·skip
       (refine RunVC.aBV o9 bY aT rfl rfl (by decide) ?_);refine aI rfl ?_;intro b4691 m4691 o4691;refine aI ((o4691.boxBlk 4 rfl).trans (o9.boxBlk 4 rfl).symm) ?_;refine cQ.callL (fun B' o'=>ih (level+1) (by omega) B' bp z tk _ _ _ o' hR3 (by omega)) ‹_› rfl (fun a2 q4 w4 v I2 h9 hm4 hv hle4 hR4 oq=>?_) (fun e w' h' hm o2=>⟨e,w',hE.trans (PM.aBy hm),rfl,o2⟩)
       obtain⟨c2,rfl,hx2⟩:=hv
       have o7:=oq
       simp only[PSt,pick,lcA,lnA,lgS,lgZ,lgN]at o7
       clear oq
       refine⟨Eq.trans (Own.satK o7 5 rfl) (Eq.symm (Own.satK (x:=box b13 _ _) ‹_› 4 rfl)),?_⟩
       have one2:=eN (Own.satK o7 2 rfl) hx2;refine RunVC.append ‹_› 8 rfl bY aT (by decide) (Own.boxArrN ‹_› 9 rfl (n:=1) rfl (by omega)) (by simp[Value.oneCell']) (by simp only[maxLen];omega) (by omega) ?_;intro vA mA oA
       obtain⟨ua,uc,rfl⟩:=oA.rowIs 8 rfl
       refine aBJ bY aT (oA.rowArrN 8 rfl) rfl (by omega) (by omega) ?_;refine fA aO rfl rfl rfl ?_
       refine⟨?_,?_⟩
       ·skip
        refine RunVC.aBI (i:=1) ‹_› 8 rfl aT rfl rfl rfl c2.2 (by decide) (by decide) one2 ?_;intro mB oB
        simp only[lsS,lsZ]at oB
        (refine RunVC.store oB 5 rfl cX rfl (by simp) (aI ⟨rfl,rfl⟩ ?_);intro m4750 o4750)
        refine⟨rfl,?_⟩
        have ef:=eE (cs:=[.int .i64 0,.string ⟨⟨[]⟩⟩,aK,aK,aK,.string ⟨⟨[]⟩⟩,.string ⟨⟨[]⟩⟩,.int .i64 0,.int .i64 0]) (c:=c1) (d:=c2) rfl
        exact⟨a2,q4,w4,c2,I2,ua,uc,hm4,hle4,hR4,hx2,ef▸Own.sel ‹_› [0,1,2,3,4,5,6,7,8] rfl⟩
       ·skip
        (refine RunVC.store oA 5 rfl cX rfl (by simp) (aI ⟨rfl,rfl⟩ ?_);intro m4760 o4760);refine RunVC.aBI (i:=1) ‹_› 8 rfl aT rfl rfl rfl c2.2 (by decide) (by decide) one2 ?_;intro mB oB
        simp only[lsS,lsZ]at oB
        refine⟨rfl,?_⟩
        have ef:=eE (cs:=[.int .i64 0,.string ⟨⟨[]⟩⟩,aK,aK,aK,.string ⟨⟨[]⟩⟩,.string ⟨⟨[]⟩⟩,.int .i64 0,.int .i64 0]) (c:=c1) (d:=c2) rfl
        exact⟨a2,q4,w4,c2,I2,ua,uc,hm4,hle4,hR4,hx2,ef▸Own.sel ‹_› [0,1,2,3,4,5,6,7,8] rfl⟩
     ·rintro _ junk3 h9 ⟨a2,q4,w4,c2,I2,ua,uc,hm,hle4,hR4,hx2,o8⟩
      rw[PM.aBz hm,PM.aBM]at hE
      refine RegVC.plain ?_;refine run (fA cD rfl rfl rfl ?_);refine run (aBx o8 7 rfl xD rfl rfl ?_);refine CallVC.ret (uJ b13 _) ?_;rintro _ h10 ⟨rfl,oc⟩;have o9:=oc.thenE o8;clear oc o8;have e2:eS z 3 (bD ts) [a1,a2] q4=.ok (Ex.mk 5 [] [a1,a2] [] [] [] [] 0 (bD ts),q4):=rfl
      rw[PM.aBz e2]at hE
      (refine RunVC.lit o9 aH aN rfl rfl (by decide) (aI rfl ?_);intro b4840 m4840 o4840);refine aS (ss:=[[41]]) ‹_› rfl (by first|exact⟨2,by decide,rfl⟩|exact⟨3,by decide,rfl⟩|exact⟨4,by decide,rfl⟩|exact⟨5,by decide,rfl⟩|exact⟨6,by decide,rfl⟩|exact⟨7,by decide,rfl⟩|exact⟨8,by decide,rfl⟩|exact⟨9,by decide,rfl⟩) hR4 (by omega) (by decide) (fun _ q5 w5 v h11 hm5 hv hle5 hR5 oq=>?_) (fun e w' h' hm o2=>⟨e,w',hE.trans (PM.aBy hm),rfl,o2⟩);subst hv
      rw[PM.aBz hm5]at hE
      have o10:=oq
      simp only[PSt,pick,lcA,lnA,lgS,lgZ,lgN]at o10
      clear oq o9;refine run (aBB o10 5 rfl aT rfl rfl rfl ?_);(refine RunVC.aBA o10 4 rfl aT rfl (by decide) (aI ⟨rfl,rfl⟩ ?_);intro m4861 o4861)
      first|refine RetVC.aBL rfl o4861 4 rfl aT rfl rfl ?_|refine RetVC.aBK rfl o4861 4 rfl aT rfl rfl ?_|refine RetVC.cellTT rfl o4861 4 rfl aT rfl rfl ?_
      have er:[c1,c2].flatMap Subtype.val=c1.1++c2.1:=by simp
      exact⟨_,q5,w5,dT (dT I2 I1) (row (.slice ua 2 uc) 42 9 2 (c1.1++c2.1)),hE,⟨⟨wB 5 [] (.slice ua 2 uc) aK aK [] [] 0 (bD ts),rfl⟩,rfl,by rw[lB];exact⟨_,_,_,rfl,aM,aM,[c1,c2],by rw[er];exact dD.inr,lB.mono (fun _ (s:(dT (dT _ _) _).sat _)=>s.1.2) _ _ hx1,lB.mono (fun _ (s:(dT (dT _ _) _).sat _)=>s.1.1) _ _ hx2,trivial⟩⟩,by omega,hR5,((Own.sel ‹_› [2,3,8,0,1] rfl).join.join).sel [1,2,0] rfl⟩
theorem expr_minus (n:Nat)(hn:n≤11)(ih:lD n):∀(level:Int)(_:level=13 - ((n+1:Nat):Int))(B:Base)(bp z:Nat)(tk:Item)(w:Value)(ts:List Tok)(h:Heap)(_:Own B (PSt bp z w tk) h)(_:cH tk w ts)(_:ts.length≤5000)(_:∀ j,j<4→bK [dB.getD j [],[40]] ts=false)(_:bK [[109,105,110,117,115],[40]] ts=true),
  Spec Tryz.prog 118 [.pointer (some ⟨bp,0,none⟩),.int .i64 level] h (cQ B bp z tk ts.length (cJ z (n+1) ts) exV):=by
 intro level hlv B bp z tk w ts h o hR hl hno hb
 obtain⟨hRd,hK⟩:=hR
 have hR:cH tk w ts:=⟨hRd,hK⟩;refine Spec.enter Tryz.func118 rfl Tryz.ntmps118 (by kernel_rfl) ?_;(refine RunVC.alloc o aT ?_;intro b10 m10 o10);refine Br.dec (fun hc=>absurd hc (by omega)) (fun c11=>?_);refine run (aBE aO ?_);refine aI rfl ?_;(refine RunVC.alloc o10 aT ?_;intro b13 m13 o13);(refine RunVC.aBA o13 3 rfl aT rfl (by decide) (aI ⟨rfl,rfl⟩ ?_);intro m14 o14);refine run (nC rfl ?_);refine run (fA fD rfl rfl rfl ?_);refine run (aBx o14 0 rfl eF rfl rfl ?_);refine run (aBX (o14.reads 1 hRd rfl) fE ?_);refine Br.join [19,20,21,22,23,24,25,26] [] (fun _ hh=>Own B [box bp [w,.int .i64 z] 72,tk,box b10 [.int .i64 0,.string ⟨⟨[]⟩⟩,aK,aK,aK,.string ⟨⟨[]⟩⟩,.string ⟨⟨[]⟩⟩,.int .i64 0,.int .i64 0] 42,box b13 [.int .i64 1,.string ⟨⟨[]⟩⟩,aK,aK,aK,.string ⟨⟨[]⟩⟩,.string ⟨⟨[]⟩⟩,.int .i64 0,.int .i64 (bD ts)] 42] hh) rfl rfl ?_ ?_
 ·cases ts with
  | nil =>
   refine Br.ff ?_
   refine⟨rfl,?_⟩
   exact o14
  | cons t r =>
   have hx:(t::r)[0]?=some t:=rfl;have hln:(t::r).length=r.length+1:=rfl;refine Br.dec (fun c30=>?_) (fun hc=>absurd (by omega) hc);refine run (nC rfl ?_);refine run (fA fD rfl rfl rfl ?_);refine run (aBx o14 0 rfl eF rfl rfl ?_);refine run (aBJ fE bA (o14.reads 1 hRd rfl) rfl (by omega) (by omega) ?_);refine run (aBT (o14.reads 1 hRd rfl) (by omega) eI rfl rfl rfl ?_);refine run (aBW (o14.reads 1 hRd rfl) aW (fun _=>rfl) rfl ‹_› rfl ?_);refine run (fA aO rfl rfl rfl ?_);(refine RunVC.aBA o14 3 rfl aW rfl (by decide) (aI ⟨rfl,rfl⟩ ?_);intro m38 o38)
   refine⟨rfl,?_⟩
   exact Own.sel ‹_› [0,1,2,3] rfl
 ·intro vs junk hh oh
  refine CallVC.ret (eD bp _) ?_;rintro _ h2 ⟨bo,pb,rfl,oc⟩;have o2:=oh.call oc
  simp only[lcA,lnA]at o2
  clear oc;refine run (aBH rfl dM ?_);refine LoopVC.intro [6,7,30,31,32,33,34,35,36,37,38,39,40,41,42,43,44,45,46,47,48,49,50,51,52,53,54,55,56,57,58,59,60,61,62,63,64,65,66,67,68,69,70,71,72,73,74,75,76,77,78,79,80,81,82,83] [30] (fun vs hh=>∃(i:Nat),i≤4∧vs=[.int .i64 i]∧Own B [box bp [w,.int .i64 z] 72,tk,box b10 [.int .i64 0,.string ⟨⟨[]⟩⟩,aK,aK,aK,.string ⟨⟨[]⟩⟩,.string ⟨⟨[]⟩⟩,.int .i64 0,.int .i64 0] 42,box b13 [.int .i64 1,.string ⟨⟨[]⟩⟩,aK,aK,aK,.string ⟨⟨[]⟩⟩,.string ⟨⟨[]⟩⟩,.int .i64 0,.int .i64 (bD ts)] 42,box pb [.pointer (some ⟨bp,0,none⟩)] 70,box bo (qG pb) 188] hh) (fun vs _=>match vs with|[.int _ i]=>7 - i.toNat|_=>0) ?_ ?_
  ·exact⟨0,by omega,rfl,o2⟩
  ·rintro vs' junk' h3 ⟨i,hi,rfl,o3⟩
   clear o14 oh o2;have hoL:(qG pb).length=7*3:=rfl
   rcases(by omega:i=0∨i=1∨i=2∨i=3∨i=4) with rfl|rfl|rfl|rfl|rfl
   ·refine Br.tt ?_
    refine run (aBJ dM aU (o3.boxArrN 5 rfl ‹_› (by omega)) rfl (by omega) (by omega) ?_);refine run (aBB o3 5 rfl aU rfl rfl rfl ?_);(refine RunVC.alloc o3 aU ?_;intro b1002 m1002 o1002);(refine RunVC.aBA o1002 6 rfl aU rfl (by decide) (aI ⟨rfl,rfl⟩ ?_);intro m1003 o1003);refine run (fA cD rfl rfl rfl ?_);refine run (aBx o1003 6 rfl aN rfl rfl ?_);(refine RunVC.lit o1003 aH aN rfl rfl (by decide) (aI rfl ?_);intro b1006 m1006 o1006);refine CallVC.ret (bJ [[115,101,108,101,99,116],[40]] _ bp w ts _ (Own.cellB ‹_› 0 rfl 0) (Own.reads ‹_› 1 hR.1 rfl) (Own.boxArr ‹_› 7 rfl rfl (by decide)) hl) ?_;rintro _ h4 ⟨rv,oc⟩;have o4:=oc.thenE ‹_›;clear oc;have hb:bK [[115,101,108,101,99,116],[40]] ts=false:=hno 0 (by decide)
    rw[hb]at rv
    subst rv;refine Br.tt ?_;refine Ar.i64 (by omega) (by omega) ?_
    refine⟨rfl,?_⟩
    exact⟨⟨1,by omega,rfl,Own.sel ‹_› [0,1,2,3,4,5] rfl⟩,by simp⟩
   ·refine Br.tt ?_
    refine run (aBJ dM aU (o3.boxArrN 5 rfl ‹_› (by omega)) rfl (by omega) (by omega) ?_);refine run (aBB o3 5 rfl aU rfl rfl rfl ?_);(refine RunVC.alloc o3 aU ?_;intro b2002 m2002 o2002);(refine RunVC.aBA o2002 6 rfl aU rfl (by decide) (aI ⟨rfl,rfl⟩ ?_);intro m2003 o2003);refine run (fA cD rfl rfl rfl ?_);refine run (aBx o2003 6 rfl aN rfl rfl ?_);(refine RunVC.lit o2003 aH aN rfl rfl (by decide) (aI rfl ?_);intro b2006 m2006 o2006);refine CallVC.ret (bJ [[112,114,111,106,101,99,116],[40]] _ bp w ts _ (Own.cellB ‹_› 0 rfl 0) (Own.reads ‹_› 1 hR.1 rfl) (Own.boxArr ‹_› 7 rfl rfl (by decide)) hl) ?_;rintro _ h4 ⟨rv,oc⟩;have o4:=oc.thenE ‹_›;clear oc;have hb:bK [[112,114,111,106,101,99,116],[40]] ts=false:=hno 1 (by decide)
    rw[hb]at rv
    subst rv;refine Br.tt ?_;refine Ar.i64 (by omega) (by omega) ?_
    refine⟨rfl,?_⟩
    exact⟨⟨2,by omega,rfl,Own.sel ‹_› [0,1,2,3,4,5] rfl⟩,by simp⟩
   ·refine Br.tt ?_
    refine run (aBJ dM aU (o3.boxArrN 5 rfl ‹_› (by omega)) rfl (by omega) (by omega) ?_);refine run (aBB o3 5 rfl aU rfl rfl rfl ?_);(refine RunVC.alloc o3 aU ?_;intro b3002 m3002 o3002);(refine RunVC.aBA o3002 6 rfl aU rfl (by decide) (aI ⟨rfl,rfl⟩ ?_);intro m3003 o3003);refine run (fA cD rfl rfl rfl ?_);refine run (aBx o3003 6 rfl aN rfl rfl ?_);(refine RunVC.lit o3003 aH aN rfl rfl (by decide) (aI rfl ?_);intro b3006 m3006 o3006);refine CallVC.ret (bJ [[106,111,105,110],[40]] _ bp w ts _ (Own.cellB ‹_› 0 rfl 0) (Own.reads ‹_› 1 hR.1 rfl) (Own.boxArr ‹_› 7 rfl rfl (by decide)) hl) ?_;rintro _ h4 ⟨rv,oc⟩;have o4:=oc.thenE ‹_›;clear oc;have hb:bK [[106,111,105,110],[40]] ts=false:=hno 2 (by decide)
    rw[hb]at rv
    subst rv;refine Br.tt ?_;refine Ar.i64 (by omega) (by omega) ?_
    refine⟨rfl,?_⟩
    exact⟨⟨3,by omega,rfl,Own.sel ‹_› [0,1,2,3,4,5] rfl⟩,by simp⟩
   ·refine Br.tt ?_
    refine run (aBJ dM aU (o3.boxArrN 5 rfl ‹_› (by omega)) rfl (by omega) (by omega) ?_);refine run (aBB o3 5 rfl aU rfl rfl rfl ?_);(refine RunVC.alloc o3 aU ?_;intro b4002 m4002 o4002);(refine RunVC.aBA o4002 6 rfl aU rfl (by decide) (aI ⟨rfl,rfl⟩ ?_);intro m4003 o4003);refine run (fA cD rfl rfl rfl ?_);refine run (aBx o4003 6 rfl aN rfl rfl ?_);(refine RunVC.lit o4003 aH aN rfl rfl (by decide) (aI rfl ?_);intro b4006 m4006 o4006);refine CallVC.ret (bJ [[117,110,105,111,110],[40]] _ bp w ts _ (Own.cellB ‹_› 0 rfl 0) (Own.reads ‹_› 1 hR.1 rfl) (Own.boxArr ‹_› 7 rfl rfl (by decide)) hl) ?_;rintro _ h4 ⟨rv,oc⟩;have o4:=oc.thenE ‹_›;clear oc;have hb:bK [[117,110,105,111,110],[40]] ts=false:=hno 3 (by decide)
    rw[hb]at rv
    subst rv;refine Br.tt ?_;refine Ar.i64 (by omega) (by omega) ?_
    refine⟨rfl,?_⟩
    exact⟨⟨4,by omega,rfl,Own.sel ‹_› [0,1,2,3,4,5] rfl⟩,by simp⟩
   ·refine Br.tt ?_
    refine run (aBJ dM aU (o3.boxArrN 5 rfl ‹_› (by omega)) rfl (by omega) (by omega) ?_);refine run (aBB o3 5 rfl aU rfl rfl rfl ?_);(refine RunVC.alloc o3 aU ?_;intro b5002 m5002 o5002);(refine RunVC.aBA o5002 6 rfl aU rfl (by decide) (aI ⟨rfl,rfl⟩ ?_);intro m5003 o5003);refine run (fA cD rfl rfl rfl ?_);refine run (aBx o5003 6 rfl aN rfl rfl ?_);(refine RunVC.lit o5003 aH aN rfl rfl (by decide) (aI rfl ?_);intro b5006 m5006 o5006);refine CallVC.ret (bJ [[109,105,110,117,115],[40]] _ bp w ts _ (Own.cellB ‹_› 0 rfl 0) (Own.reads ‹_› 1 hR.1 rfl) (Own.boxArr ‹_› 7 rfl rfl (by decide)) hl) ?_;rintro _ h4 ⟨rv,oc⟩;have o4:=oc.thenE ‹_›;clear oc
    rw[hb]at rv
    subst rv;have hE:cJ z (n+1) ts=(bP z [[109,105,110,117,115],[40]] >>= fun _=>cJ z n >>= fun a=>ifP (wJ 4) (bP z [[44]] >>= fun _=>cJ z n >>= fun b=>pure [a,b]) [a] >>= fun kids=>eS z 4 (bD ts) kids >>= fun x=>bP z [[41]] >>= fun _=>(pure x:PM Ex)) ts:=jD (jC (by decide) hno hb);have o5:=o4.sel [0,1,2,3,4,6] rfl
    simp only[PSt,pick,lcA,lnA,lgS,lgZ,lgN]at o5
    clear o3 o4;refine Br.ff ?_;refine Ar.i64 (by omega) (by omega) ?_;refine run (fA aO rfl rfl rfl ?_);(refine RunVC.store o5 3 rfl aW rfl (by simp) (aI ⟨rfl,rfl⟩ ?_);intro m5041 o5041);refine run (fA cD rfl rfl rfl ?_);refine run (aBx o5041 5 rfl aN rfl rfl ?_);(refine RunVC.lit o5041 aH aN rfl rfl (by decide) (aI rfl ?_);intro b5044 m5044 o5044);refine aS (ss:=[[109,105,110,117,115],[40]]) ‹_› rfl (by first|exact⟨2,by decide,rfl⟩|exact⟨3,by decide,rfl⟩|exact⟨4,by decide,rfl⟩|exact⟨5,by decide,rfl⟩|exact⟨6,by decide,rfl⟩|exact⟨7,by decide,rfl⟩|exact⟨8,by decide,rfl⟩|exact⟨9,by decide,rfl⟩) hR (by omega) (by decide) (fun _ q1 w1 v h5 hm hv hle1 hR1 oq=>?_) (fun e w' h' hm o2=>⟨e,w',hE.trans (PM.aBy hm),rfl,o2⟩);subst hv
    rw[PM.aBz hm]at hE
    have o6:=oq.sel [0,1,2,3,4,5] rfl
    simp only[PSt,pick,lcA,lnA,lgS,lgZ,lgN]at o6
    clear oq hm;refine DrawVC.join [49,50,51,52,53,54,55,56,57,58,59] [] (fun _ hh=>∃(a1:Ex) (q2:List Tok) (w2:Value) (c1:cV) (I1:Item) (ua:Option Addr) (uc:Nat),cJ z n q1=.ok (a1,q2)∧q2.length≤q1.length∧cH tk w2 q2∧lB I1 c1.1 a1∧Own B [box bp [w2,.int .i64 z] 72,tk,I1,box b10 [.int .i64 0,.string ⟨⟨[]⟩⟩,aK,aK,aK,.string ⟨⟨[]⟩⟩,.string ⟨⟨[]⟩⟩,.int .i64 0,.int .i64 0] 42,box b13 [.int .i64 6,.string ⟨⟨[]⟩⟩,.slice ua 1 uc,aK,aK,.string ⟨⟨[]⟩⟩,.string ⟨⟨[]⟩⟩,.int .i64 0,.int .i64 (bD ts)] 42,box pb [.pointer (some ⟨bp,0,none⟩)] 70,box b5002 [.string ⟨⟨[109,105,110,117,115]⟩⟩,.bool true,.func (.func 160) ⟨[]⟩ ⟨[]⟩] 188,row (.slice ua 1 uc) 42 9 1 c1.1] hh) ?_ ?_
    ·refine DrawVC.aBU b13 [0,2,3,4,6,9,11] [1] [8,10,12] (.one 0 (.one 1 (.one 2 (.one 3 (.one 4 (.one 6 (.fork 5 7 (.one 7 (.one 8 (.one 9 (.one 11 (.fork 10 12 (.one 12 .done) (.one 10 .done)))))) (.one 5 (.one 8 (.one 9 (.one 11 (.fork 10 12 (.one 12 .done) (.one 10 .done))))))))))))) mixed (by kernel_rfl) rfl (fun _ _ _ _ h=>h) ?_
     refine fA aO rfl rfl rfl ?_;refine StillVCA.load1 cX rfl rfl ((o6.cellB 3 rfl _).trans rfl) ?_;refine Ar.i64 (by omega) (by omega) ?_;refine aBH rfl bY ?_
     refine⟨?_,?_⟩
     ·skip
      refine cQ.callL (fun B' o'=>ih (level+1) (by omega) B' bp z tk _ _ _ o' hR1 (by omega)) ‹_› rfl (fun a1 q2 w2 v I1 h6 hm hv hle2 hR2 oq=>?_) (fun e w' h' hm o2=>⟨e,w',hE.trans (PM.aBy hm),rfl,o2⟩)
      obtain⟨c1,rfl,hx1⟩:=hv
      have o7:=oq
      simp only[PSt,pick,lcA,lnA,lgS,lgZ,lgN]at o7
      clear oq
      refine⟨Eq.trans (Own.satK o7 4 rfl) (Eq.symm (Own.satK (x:=box b13 _ _) ‹_› 3 rfl)),?_⟩
      have one1:=eN (Own.satK o7 2 rfl) hx1;(refine RunVC.aBV o7 bY aT rfl rfl (by decide) ?_);refine aI rfl ?_;intro b5101 m5101 o5101;refine aI ((o5101.boxBlk 4 rfl).trans (o7.boxBlk 4 rfl).symm) ?_;have on:=Own.nilRow ‹_› 42 9
      simp only[lcA,lnA]at on
      refine RunVC.append on 8 rfl bY aT (by decide) (Own.boxArrN on 7 rfl (n:=1) rfl (by omega)) (by simp[Value.oneCell']) (by simp only[maxLen];omega) (by omega) ?_;intro vA mA oA
      obtain⟨ua,uc,rfl⟩:=oA.rowIs 8 rfl
      refine aBJ bY aT (oA.rowArrN 8 rfl) rfl (by omega) (by omega) ?_;refine fA aO rfl rfl rfl ?_
      refine⟨?_,?_⟩
      ·skip
       refine RunVC.aBI (i:=0) ‹_› 8 rfl aT rfl rfl rfl c1.2 (by decide) (by decide) one1 ?_;intro mB oB
       simp only[lsS,lsZ]at oB
       (refine RunVC.store oB 4 rfl cX rfl (by simp) (aI ⟨rfl,rfl⟩ ?_);intro m5140 o5140)
       refine⟨rfl,?_⟩
       have ef:=cA (cs:=[.int .i64 0,.string ⟨⟨[]⟩⟩,aK,aK,aK,.string ⟨⟨[]⟩⟩,.string ⟨⟨[]⟩⟩,.int .i64 0,.int .i64 0]) (c:=c1) rfl
       exact⟨a1,q2,w2,c1,I1,ua,uc,hm,hle2,hR2,hx1,ef▸Own.sel ‹_› [0,1,2,3,4,5,6,8] rfl⟩
      ·skip
       (refine RunVC.store oA 4 rfl cX rfl (by simp) (aI ⟨rfl,rfl⟩ ?_);intro m5150 o5150);refine RunVC.aBI (i:=0) ‹_› 8 rfl aT rfl rfl rfl c1.2 (by decide) (by decide) one1 ?_;intro mB oB
       simp only[lsS,lsZ]at oB
       refine⟨rfl,?_⟩
       have ef:=cA (cs:=[.int .i64 0,.string ⟨⟨[]⟩⟩,aK,aK,aK,.string ⟨⟨[]⟩⟩,.string ⟨⟨[]⟩⟩,.int .i64 0,.int .i64 0]) (c:=c1) rfl
       exact⟨a1,q2,w2,c1,I1,ua,uc,hm,hle2,hR2,hx1,ef▸Own.sel ‹_› [0,1,2,3,4,5,6,8] rfl⟩
     ·skip
      (refine RunVC.aBV o6 bY aT rfl rfl (by decide) ?_);refine aI rfl ?_;intro b5281 m5281 o5281;refine aI ((o5281.boxBlk 3 rfl).trans (o6.boxBlk 3 rfl).symm) ?_;refine cQ.callL (fun B' o'=>ih (level+1) (by omega) B' bp z tk _ _ _ o' hR1 (by omega)) ‹_› rfl (fun a1 q2 w2 v I1 h6 hm hv hle2 hR2 oq=>?_) (fun e w' h' hm o2=>⟨e,w',hE.trans (PM.aBy hm),rfl,o2⟩)
      obtain⟨c1,rfl,hx1⟩:=hv
      have o7:=oq
      simp only[PSt,pick,lcA,lnA,lgS,lgZ,lgN]at o7
      clear oq
      refine⟨Eq.trans (Own.satK o7 4 rfl) (Eq.symm (Own.satK (x:=box b13 _ _) ‹_› 3 rfl)),?_⟩
      have one1:=eN (Own.satK o7 2 rfl) hx1;have on:=Own.nilRow ‹_› 42 9
      simp only[lcA,lnA]at on
      refine RunVC.append on 8 rfl bY aT (by decide) (Own.boxArrN on 7 rfl (n:=1) rfl (by omega)) (by simp[Value.oneCell']) (by simp only[maxLen];omega) (by omega) ?_;intro vA mA oA
      obtain⟨ua,uc,rfl⟩:=oA.rowIs 8 rfl
      refine aBJ bY aT (oA.rowArrN 8 rfl) rfl (by omega) (by omega) ?_;refine fA aO rfl rfl rfl ?_
      refine⟨?_,?_⟩
      ·skip
       refine RunVC.aBI (i:=0) ‹_› 8 rfl aT rfl rfl rfl c1.2 (by decide) (by decide) one1 ?_;intro mB oB
       simp only[lsS,lsZ]at oB
       (refine RunVC.store oB 4 rfl cX rfl (by simp) (aI ⟨rfl,rfl⟩ ?_);intro m5340 o5340)
       refine⟨rfl,?_⟩
       have ef:=cA (cs:=[.int .i64 0,.string ⟨⟨[]⟩⟩,aK,aK,aK,.string ⟨⟨[]⟩⟩,.string ⟨⟨[]⟩⟩,.int .i64 0,.int .i64 0]) (c:=c1) rfl
       exact⟨a1,q2,w2,c1,I1,ua,uc,hm,hle2,hR2,hx1,ef▸Own.sel ‹_› [0,1,2,3,4,5,6,8] rfl⟩
      ·skip
       (refine RunVC.store oA 4 rfl cX rfl (by simp) (aI ⟨rfl,rfl⟩ ?_);intro m5350 o5350);refine RunVC.aBI (i:=0) ‹_› 8 rfl aT rfl rfl rfl c1.2 (by decide) (by decide) one1 ?_;intro mB oB
       simp only[lsS,lsZ]at oB
       refine⟨rfl,?_⟩
       have ef:=cA (cs:=[.int .i64 0,.string ⟨⟨[]⟩⟩,aK,aK,aK,.string ⟨⟨[]⟩⟩,.string ⟨⟨[]⟩⟩,.int .i64 0,.int .i64 0]) (c:=c1) rfl
       exact⟨a1,q2,w2,c1,I1,ua,uc,hm,hle2,hR2,hx1,ef▸Own.sel ‹_› [0,1,2,3,4,5,6,8] rfl⟩
    ·rintro _ junk2 h7 ⟨a1,q2,w2,c1,I1,ua,uc,hm,hle2,hR2,hx1,o8⟩
     rw[PM.aBz hm]at hE
     rw[mX (by rfl),PM.aB1]at hE
     refine run (fA cD rfl rfl rfl ?_);refine run (aBx o8 6 rfl ty4 rfl rfl ?_);refine Br.tt ?_;(refine RunVC.lit o8 aH aN rfl rfl (by decide) (aI rfl ?_);intro b5502 m5502 o5502);refine aS (ss:=[[44]]) ‹_› rfl (by first|exact⟨2,by decide,rfl⟩|exact⟨3,by decide,rfl⟩|exact⟨4,by decide,rfl⟩|exact⟨5,by decide,rfl⟩|exact⟨6,by decide,rfl⟩|exact⟨7,by decide,rfl⟩|exact⟨8,by decide,rfl⟩|exact⟨9,by decide,rfl⟩) hR2 (by omega) (by decide) (fun _ q3 w3 v h8 hm3 hv hle3 hR3 oq=>?_) (fun e w' h' hm o2=>⟨e,w',hE.trans (PM.aBy hm),rfl,o2⟩);subst hv
     rw[PM.aBz hm3,PM.aB1]at hE
     have o9:=oq.sel [0,1,2,3,4,5,6,7] rfl
     simp only[PSt,pick,lcA,lnA,lgS,lgZ,lgN]at o9
     clear oq o8 hm;refine DrawVC.join [65,66,67,68,69,70,71,72,73,74,75] [] (fun _ hh=>∃(a2:Ex) (q4:List Tok) (w4:Value) (c2:cV) (I2:Item) (ua:Option Addr) (uc:Nat),cJ z n q3=.ok (a2,q4)∧q4.length≤q3.length∧cH tk w4 q4∧lB I2 c2.1 a2∧Own B [box bp [w4,.int .i64 z] 72,tk,I2,I1,box b10 [.int .i64 0,.string ⟨⟨[]⟩⟩,aK,aK,aK,.string ⟨⟨[]⟩⟩,.string ⟨⟨[]⟩⟩,.int .i64 0,.int .i64 0] 42,box b13 [.int .i64 6,.string ⟨⟨[]⟩⟩,.slice ua 2 uc,aK,aK,.string ⟨⟨[]⟩⟩,.string ⟨⟨[]⟩⟩,.int .i64 0,.int .i64 (bD ts)] 42,box pb [.pointer (some ⟨bp,0,none⟩)] 70,box b5002 [.string ⟨⟨[109,105,110,117,115]⟩⟩,.bool true,.func (.func 160) ⟨[]⟩ ⟨[]⟩] 188,row (.slice ua 2 uc) 42 9 2 (c1.1++c2.1)] hh) ?_ ?_
     ·refine DrawVC.aBU b13 [0,2,3,4,6,9,11] [1] [8,10,12] (.one 0 (.one 1 (.one 2 (.one 3 (.one 4 (.one 6 (.fork 5 7 (.one 7 (.one 8 (.one 9 (.one 11 (.fork 10 12 (.one 12 .done) (.one 10 .done)))))) (.one 5 (.one 8 (.one 9 (.one 11 (.fork 10 12 (.one 12 .done) (.one 10 .done))))))))))))) mixed (by kernel_rfl) rfl (fun _ _ _ _ h=>h) ?_
      refine fA aO rfl rfl rfl ?_;refine StillVCA.load1 cX rfl rfl ((o9.cellB 4 rfl _).trans rfl) ?_;refine Ar.i64 (by omega) (by omega) ?_;refine aBH rfl bY ?_
      refine⟨?_,?_⟩
      ·skip
       refine cQ.callL (fun B' o'=>ih (level+1) (by omega) B' bp z tk _ _ _ o' hR3 (by omega)) ‹_› rfl (fun a2 q4 w4 v I2 h9 hm4 hv hle4 hR4 oq=>?_) (fun e w' h' hm o2=>⟨e,w',hE.trans (PM.aBy hm),rfl,o2⟩)
       obtain⟨c2,rfl,hx2⟩:=hv
       have o7:=oq
       simp only[PSt,pick,lcA,lnA,lgS,lgZ,lgN]at o7
       clear oq
       refine⟨Eq.trans (Own.satK o7 5 rfl) (Eq.symm (Own.satK (x:=box b13 _ _) ‹_› 4 rfl)),?_⟩
       have one2:=eN (Own.satK o7 2 rfl) hx2;(refine RunVC.aBV o7 bY aT rfl rfl (by decide) ?_);refine aI rfl ?_;intro b5571 m5571 o5571;refine aI ((o5571.boxBlk 5 rfl).trans (o7.boxBlk 5 rfl).symm) ?_;refine RunVC.append ‹_› 8 rfl bY aT (by decide) (Own.boxArrN ‹_› 9 rfl (n:=1) rfl (by omega)) (by simp[Value.oneCell']) (by simp only[maxLen];omega) (by omega) ?_;intro vA mA oA
       obtain⟨ua,uc,rfl⟩:=oA.rowIs 8 rfl
       refine aBJ bY aT (oA.rowArrN 8 rfl) rfl (by omega) (by omega) ?_;refine fA aO rfl rfl rfl ?_
       refine⟨?_,?_⟩
       ·skip
        refine RunVC.aBI (i:=1) ‹_› 8 rfl aT rfl rfl rfl c2.2 (by decide) (by decide) one2 ?_;intro mB oB
        simp only[lsS,lsZ]at oB
        (refine RunVC.store oB 5 rfl cX rfl (by simp) (aI ⟨rfl,rfl⟩ ?_);intro m5610 o5610)
        refine⟨rfl,?_⟩
        have ef:=eE (cs:=[.int .i64 0,.string ⟨⟨[]⟩⟩,aK,aK,aK,.string ⟨⟨[]⟩⟩,.string ⟨⟨[]⟩⟩,.int .i64 0,.int .i64 0]) (c:=c1) (d:=c2) rfl
        exact⟨a2,q4,w4,c2,I2,ua,uc,hm4,hle4,hR4,hx2,ef▸Own.sel ‹_› [0,1,2,3,4,5,6,7,8] rfl⟩
       ·skip
        (refine RunVC.store oA 5 rfl cX rfl (by simp) (aI ⟨rfl,rfl⟩ ?_);intro m5620 o5620);refine RunVC.aBI (i:=1) ‹_› 8 rfl aT rfl rfl rfl c2.2 (by decide) (by decide) one2 ?_;intro mB oB
        simp only[lsS,lsZ]at oB
        refine⟨rfl,?_⟩
        have ef:=eE (cs:=[.int .i64 0,.string ⟨⟨[]⟩⟩,aK,aK,aK,.string ⟨⟨[]⟩⟩,.string ⟨⟨[]⟩⟩,.int .i64 0,.int .i64 0]) (c:=c1) (d:=c2) rfl
        exact⟨a2,q4,w4,c2,I2,ua,uc,hm4,hle4,hR4,hx2,ef▸Own.sel ‹_› [0,1,2,3,4,5,6,7,8] rfl⟩
      ·skip
       (refine RunVC.aBV o9 bY aT rfl rfl (by decide) ?_);refine aI rfl ?_;intro b5691 m5691 o5691;refine aI ((o5691.boxBlk 4 rfl).trans (o9.boxBlk 4 rfl).symm) ?_;refine cQ.callL (fun B' o'=>ih (level+1) (by omega) B' bp z tk _ _ _ o' hR3 (by omega)) ‹_› rfl (fun a2 q4 w4 v I2 h9 hm4 hv hle4 hR4 oq=>?_) (fun e w' h' hm o2=>⟨e,w',hE.trans (PM.aBy hm),rfl,o2⟩)
       obtain⟨c2,rfl,hx2⟩:=hv
       have o7:=oq
       simp only[PSt,pick,lcA,lnA,lgS,lgZ,lgN]at o7
       clear oq
       refine⟨Eq.trans (Own.satK o7 5 rfl) (Eq.symm (Own.satK (x:=box b13 _ _) ‹_› 4 rfl)),?_⟩
       have one2:=eN (Own.satK o7 2 rfl) hx2;refine RunVC.append ‹_› 8 rfl bY aT (by decide) (Own.boxArrN ‹_› 9 rfl (n:=1) rfl (by omega)) (by simp[Value.oneCell']) (by simp only[maxLen];omega) (by omega) ?_;intro vA mA oA
       obtain⟨ua,uc,rfl⟩:=oA.rowIs 8 rfl
       refine aBJ bY aT (oA.rowArrN 8 rfl) rfl (by omega) (by omega) ?_;refine fA aO rfl rfl rfl ?_
       refine⟨?_,?_⟩
       ·skip
        refine RunVC.aBI (i:=1) ‹_› 8 rfl aT rfl rfl rfl c2.2 (by decide) (by decide) one2 ?_;intro mB oB
        simp only[lsS,lsZ]at oB
        (refine RunVC.store oB 5 rfl cX rfl (by simp) (aI ⟨rfl,rfl⟩ ?_);intro m5750 o5750)
        refine⟨rfl,?_⟩
        have ef:=eE (cs:=[.int .i64 0,.string ⟨⟨[]⟩⟩,aK,aK,aK,.string ⟨⟨[]⟩⟩,.string ⟨⟨[]⟩⟩,.int .i64 0,.int .i64 0]) (c:=c1) (d:=c2) rfl
        exact⟨a2,q4,w4,c2,I2,ua,uc,hm4,hle4,hR4,hx2,ef▸Own.sel ‹_› [0,1,2,3,4,5,6,7,8] rfl⟩
       ·skip
        (refine RunVC.store oA 5 rfl cX rfl (by simp) (aI ⟨rfl,rfl⟩ ?_);intro m5760 o5760);refine RunVC.aBI (i:=1) ‹_› 8 rfl aT rfl rfl rfl c2.2 (by decide) (by decide) one2 ?_;intro mB oB
        simp only[lsS,lsZ]at oB
        refine⟨rfl,?_⟩
        have ef:=eE (cs:=[.int .i64 0,.string ⟨⟨[]⟩⟩,aK,aK,aK,.string ⟨⟨[]⟩⟩,.string ⟨⟨[]⟩⟩,.int .i64 0,.int .i64 0]) (c:=c1) (d:=c2) rfl
        exact⟨a2,q4,w4,c2,I2,ua,uc,hm4,hle4,hR4,hx2,ef▸Own.sel ‹_› [0,1,2,3,4,5,6,7,8] rfl⟩
     ·rintro _ junk3 h9 ⟨a2,q4,w4,c2,I2,ua,uc,hm,hle4,hR4,hx2,o8⟩
      rw[PM.aBz hm,PM.aBM]at hE
      refine RegVC.plain ?_;refine run (fA cD rfl rfl rfl ?_);refine run (aBx o8 7 rfl xD rfl rfl ?_);refine CallVC.ret (uJ b13 _) ?_;rintro _ h10 ⟨rfl,oc⟩;have o9:=oc.thenE o8;clear oc o8;have e2:eS z 4 (bD ts) [a1,a2] q4=.ok (Ex.mk 6 [] [a1,a2] [] [] [] [] 0 (bD ts),q4):=rfl
      rw[PM.aBz e2]at hE
      (refine RunVC.lit o9 aH aN rfl rfl (by decide) (aI rfl ?_);intro b5840 m5840 o5840);refine aS (ss:=[[41]]) ‹_› rfl (by first|exact⟨2,by decide,rfl⟩|exact⟨3,by decide,rfl⟩|exact⟨4,by decide,rfl⟩|exact⟨5,by decide,rfl⟩|exact⟨6,by decide,rfl⟩|exact⟨7,by decide,rfl⟩|exact⟨8,by decide,rfl⟩|exact⟨9,by decide,rfl⟩) hR4 (by omega) (by decide) (fun _ q5 w5 v h11 hm5 hv hle5 hR5 oq=>?_) (fun e w' h' hm o2=>⟨e,w',hE.trans (PM.aBy hm),rfl,o2⟩);subst hv
      rw[PM.aBz hm5]at hE
      have o10:=oq
      simp only[PSt,pick,lcA,lnA,lgS,lgZ,lgN]at o10
      clear oq o9;refine run (aBB o10 5 rfl aT rfl rfl rfl ?_);(refine RunVC.aBA o10 4 rfl aT rfl (by decide) (aI ⟨rfl,rfl⟩ ?_);intro m5861 o5861)
      first|refine RetVC.aBL rfl o5861 4 rfl aT rfl rfl ?_|refine RetVC.aBK rfl o5861 4 rfl aT rfl rfl ?_|refine RetVC.cellTT rfl o5861 4 rfl aT rfl rfl ?_
      have er:[c1,c2].flatMap Subtype.val=c1.1++c2.1:=by simp
      exact⟨_,q5,w5,dT (dT I2 I1) (row (.slice ua 2 uc) 42 9 2 (c1.1++c2.1)),hE,⟨⟨wB 6 [] (.slice ua 2 uc) aK aK [] [] 0 (bD ts),rfl⟩,rfl,by rw[lB];exact⟨_,_,_,rfl,aM,aM,[c1,c2],by rw[er];exact dD.inr,lB.mono (fun _ (s:(dT (dT _ _) _).sat _)=>s.1.2) _ _ hx1,lB.mono (fun _ (s:(dT (dT _ _) _).sat _)=>s.1.1) _ _ hx2,trivial⟩⟩,by omega,hR5,((Own.sel ‹_› [2,3,8,0,1] rfl).join.join).sel [1,2,0] rfl⟩
theorem expr_rename (n:Nat)(hn:n≤11)(ih:lD n):∀(level:Int)(_:level=13 - ((n+1:Nat):Int))(B:Base)(bp z:Nat)(tk:Item)(w:Value)(ts:List Tok)(h:Heap)(_:Own B (PSt bp z w tk) h)(_:cH tk w ts)(_:ts.length≤5000)(_:∀ j,j<5→bK [dB.getD j [],[40]] ts=false)(_:bK [[114,101,110,97,109,101],[40]] ts=true),
  Spec Tryz.prog 118 [.pointer (some ⟨bp,0,none⟩),.int .i64 level] h (cQ B bp z tk ts.length (cJ z (n+1) ts) exV):=by
 intro level hlv B bp z tk w ts h o hR hl hno hb
 obtain⟨hRd,hK⟩:=hR
 have hR:cH tk w ts:=⟨hRd,hK⟩;refine Spec.enter Tryz.func118 rfl Tryz.ntmps118 (by kernel_rfl) ?_;(refine RunVC.alloc o aT ?_;intro b10 m10 o10);refine Br.dec (fun hc=>absurd hc (by omega)) (fun c11=>?_);refine run (aBE aO ?_);refine aI rfl ?_;(refine RunVC.alloc o10 aT ?_;intro b13 m13 o13);(refine RunVC.aBA o13 3 rfl aT rfl (by decide) (aI ⟨rfl,rfl⟩ ?_);intro m14 o14);refine run (nC rfl ?_);refine run (fA fD rfl rfl rfl ?_);refine run (aBx o14 0 rfl eF rfl rfl ?_);refine run (aBX (o14.reads 1 hRd rfl) fE ?_);refine Br.join [19,20,21,22,23,24,25,26] [] (fun _ hh=>Own B [box bp [w,.int .i64 z] 72,tk,box b10 [.int .i64 0,.string ⟨⟨[]⟩⟩,aK,aK,aK,.string ⟨⟨[]⟩⟩,.string ⟨⟨[]⟩⟩,.int .i64 0,.int .i64 0] 42,box b13 [.int .i64 1,.string ⟨⟨[]⟩⟩,aK,aK,aK,.string ⟨⟨[]⟩⟩,.string ⟨⟨[]⟩⟩,.int .i64 0,.int .i64 (bD ts)] 42] hh) rfl rfl ?_ ?_
 ·cases ts with
  | nil =>
   refine Br.ff ?_
   refine⟨rfl,?_⟩
   exact o14
  | cons t r =>
   have hx:(t::r)[0]?=some t:=rfl;have hln:(t::r).length=r.length+1:=rfl;refine Br.dec (fun c30=>?_) (fun hc=>absurd (by omega) hc);refine run (nC rfl ?_);refine run (fA fD rfl rfl rfl ?_);refine run (aBx o14 0 rfl eF rfl rfl ?_);refine run (aBJ fE bA (o14.reads 1 hRd rfl) rfl (by omega) (by omega) ?_);refine run (aBT (o14.reads 1 hRd rfl) (by omega) eI rfl rfl rfl ?_);refine run (aBW (o14.reads 1 hRd rfl) aW (fun _=>rfl) rfl ‹_› rfl ?_);refine run (fA aO rfl rfl rfl ?_);(refine RunVC.aBA o14 3 rfl aW rfl (by decide) (aI ⟨rfl,rfl⟩ ?_);intro m38 o38)
   refine⟨rfl,?_⟩
   exact Own.sel ‹_› [0,1,2,3] rfl
 ·intro vs junk hh oh
  refine CallVC.ret (eD bp _) ?_;rintro _ h2 ⟨bo,pb,rfl,oc⟩;have o2:=oh.call oc
  simp only[lcA,lnA]at o2
  clear oc;refine run (aBH rfl dM ?_);refine LoopVC.intro [6,7,30,31,32,33,34,35,36,37,38,39,40,41,42,43,44,45,46,47,48,49,50,51,52,53,54,55,56,57,58,59,60,61,62,63,64,65,66,67,68,69,70,71,72,73,74,75,76,77,78,79,80,81,82,83] [30] (fun vs hh=>∃(i:Nat),i≤5∧vs=[.int .i64 i]∧Own B [box bp [w,.int .i64 z] 72,tk,box b10 [.int .i64 0,.string ⟨⟨[]⟩⟩,aK,aK,aK,.string ⟨⟨[]⟩⟩,.string ⟨⟨[]⟩⟩,.int .i64 0,.int .i64 0] 42,box b13 [.int .i64 1,.string ⟨⟨[]⟩⟩,aK,aK,aK,.string ⟨⟨[]⟩⟩,.string ⟨⟨[]⟩⟩,.int .i64 0,.int .i64 (bD ts)] 42,box pb [.pointer (some ⟨bp,0,none⟩)] 70,box bo (qG pb) 188] hh) (fun vs _=>match vs with|[.int _ i]=>7 - i.toNat|_=>0) ?_ ?_
  ·exact⟨0,by omega,rfl,o2⟩
  ·rintro vs' junk' h3 ⟨i,hi,rfl,o3⟩
   clear o14 oh o2;have hoL:(qG pb).length=7*3:=rfl
   rcases(by omega:i=0∨i=1∨i=2∨i=3∨i=4∨i=5) with rfl|rfl|rfl|rfl|rfl|rfl
   ·refine Br.tt ?_
    refine run (aBJ dM aU (o3.boxArrN 5 rfl ‹_› (by omega)) rfl (by omega) (by omega) ?_);refine run (aBB o3 5 rfl aU rfl rfl rfl ?_);(refine RunVC.alloc o3 aU ?_;intro b1002 m1002 o1002);(refine RunVC.aBA o1002 6 rfl aU rfl (by decide) (aI ⟨rfl,rfl⟩ ?_);intro m1003 o1003);refine run (fA cD rfl rfl rfl ?_);refine run (aBx o1003 6 rfl aN rfl rfl ?_);(refine RunVC.lit o1003 aH aN rfl rfl (by decide) (aI rfl ?_);intro b1006 m1006 o1006);refine CallVC.ret (bJ [[115,101,108,101,99,116],[40]] _ bp w ts _ (Own.cellB ‹_› 0 rfl 0) (Own.reads ‹_› 1 hR.1 rfl) (Own.boxArr ‹_› 7 rfl rfl (by decide)) hl) ?_;rintro _ h4 ⟨rv,oc⟩;have o4:=oc.thenE ‹_›;clear oc;have hb:bK [[115,101,108,101,99,116],[40]] ts=false:=hno 0 (by decide)
    rw[hb]at rv
    subst rv;refine Br.tt ?_;refine Ar.i64 (by omega) (by omega) ?_
    refine⟨rfl,?_⟩
    exact⟨⟨1,by omega,rfl,Own.sel ‹_› [0,1,2,3,4,5] rfl⟩,by simp⟩
   ·refine Br.tt ?_
    refine run (aBJ dM aU (o3.boxArrN 5 rfl ‹_› (by omega)) rfl (by omega) (by omega) ?_);refine run (aBB o3 5 rfl aU rfl rfl rfl ?_);(refine RunVC.alloc o3 aU ?_;intro b2002 m2002 o2002);(refine RunVC.aBA o2002 6 rfl aU rfl (by decide) (aI ⟨rfl,rfl⟩ ?_);intro m2003 o2003);refine run (fA cD rfl rfl rfl ?_);refine run (aBx o2003 6 rfl aN rfl rfl ?_);(refine RunVC.lit o2003 aH aN rfl rfl (by decide) (aI rfl ?_);intro b2006 m2006 o2006);refine CallVC.ret (bJ [[112,114,111,106,101,99,116],[40]] _ bp w ts _ (Own.cellB ‹_› 0 rfl 0) (Own.reads ‹_› 1 hR.1 rfl) (Own.boxArr ‹_› 7 rfl rfl (by decide)) hl) ?_;rintro _ h4 ⟨rv,oc⟩;have o4:=oc.thenE ‹_›;clear oc;have hb:bK [[112,114,111,106,101,99,116],[40]] ts=false:=hno 1 (by decide)
    rw[hb]at rv
    subst rv;refine Br.tt ?_;refine Ar.i64 (by omega) (by omega) ?_
    refine⟨rfl,?_⟩
    exact⟨⟨2,by omega,rfl,Own.sel ‹_› [0,1,2,3,4,5] rfl⟩,by simp⟩
   ·refine Br.tt ?_
    refine run (aBJ dM aU (o3.boxArrN 5 rfl ‹_› (by omega)) rfl (by omega) (by omega) ?_);refine run (aBB o3 5 rfl aU rfl rfl rfl ?_);(refine RunVC.alloc o3 aU ?_;intro b3002 m3002 o3002);(refine RunVC.aBA o3002 6 rfl aU rfl (by decide) (aI ⟨rfl,rfl⟩ ?_);intro m3003 o3003);refine run (fA cD rfl rfl rfl ?_);refine run (aBx o3003 6 rfl aN rfl rfl ?_);(refine RunVC.lit o3003 aH aN rfl rfl (by decide) (aI rfl ?_);intro b3006 m3006 o3006);refine CallVC.ret (bJ [[106,111,105,110],[40]] _ bp w ts _ (Own.cellB ‹_› 0 rfl 0) (Own.reads ‹_› 1 hR.1 rfl) (Own.boxArr ‹_› 7 rfl rfl (by decide)) hl) ?_;rintro _ h4 ⟨rv,oc⟩;have o4:=oc.thenE ‹_›;clear oc;have hb:bK [[106,111,105,110],[40]] ts=false:=hno 2 (by decide)
    rw[hb]at rv
    subst rv;refine Br.tt ?_;refine Ar.i64 (by omega) (by omega) ?_
    refine⟨rfl,?_⟩
    exact⟨⟨3,by omega,rfl,Own.sel ‹_› [0,1,2,3,4,5] rfl⟩,by simp⟩
   ·refine Br.tt ?_
    refine run (aBJ dM aU (o3.boxArrN 5 rfl ‹_› (by omega)) rfl (by omega) (by omega) ?_);refine run (aBB o3 5 rfl aU rfl rfl rfl ?_);(refine RunVC.alloc o3 aU ?_;intro b4002 m4002 o4002);(refine RunVC.aBA o4002 6 rfl aU rfl (by decide) (aI ⟨rfl,rfl⟩ ?_);intro m4003 o4003);refine run (fA cD rfl rfl rfl ?_);refine run (aBx o4003 6 rfl aN rfl rfl ?_);(refine RunVC.lit o4003 aH aN rfl rfl (by decide) (aI rfl ?_);intro b4006 m4006 o4006);refine CallVC.ret (bJ [[117,110,105,111,110],[40]] _ bp w ts _ (Own.cellB ‹_› 0 rfl 0) (Own.reads ‹_› 1 hR.1 rfl) (Own.boxArr ‹_› 7 rfl rfl (by decide)) hl) ?_;rintro _ h4 ⟨rv,oc⟩;have o4:=oc.thenE ‹_›;clear oc;have hb:bK [[117,110,105,111,110],[40]] ts=false:=hno 3 (by decide)
    rw[hb]at rv
    subst rv;refine Br.tt ?_;refine Ar.i64 (by omega) (by omega) ?_
    refine⟨rfl,?_⟩
    exact⟨⟨4,by omega,rfl,Own.sel ‹_› [0,1,2,3,4,5] rfl⟩,by simp⟩
   ·refine Br.tt ?_
    refine run (aBJ dM aU (o3.boxArrN 5 rfl ‹_› (by omega)) rfl (by omega) (by omega) ?_);refine run (aBB o3 5 rfl aU rfl rfl rfl ?_);(refine RunVC.alloc o3 aU ?_;intro b5002 m5002 o5002);(refine RunVC.aBA o5002 6 rfl aU rfl (by decide) (aI ⟨rfl,rfl⟩ ?_);intro m5003 o5003);refine run (fA cD rfl rfl rfl ?_);refine run (aBx o5003 6 rfl aN rfl rfl ?_);(refine RunVC.lit o5003 aH aN rfl rfl (by decide) (aI rfl ?_);intro b5006 m5006 o5006);refine CallVC.ret (bJ [[109,105,110,117,115],[40]] _ bp w ts _ (Own.cellB ‹_› 0 rfl 0) (Own.reads ‹_› 1 hR.1 rfl) (Own.boxArr ‹_› 7 rfl rfl (by decide)) hl) ?_;rintro _ h4 ⟨rv,oc⟩;have o4:=oc.thenE ‹_›;clear oc;have hb:bK [[109,105,110,117,115],[40]] ts=false:=hno 4 (by decide)
    rw[hb]at rv
    subst rv;refine Br.tt ?_;refine Ar.i64 (by omega) (by omega) ?_
    refine⟨rfl,?_⟩
    exact⟨⟨5,by omega,rfl,Own.sel ‹_› [0,1,2,3,4,5] rfl⟩,by simp⟩
   ·refine Br.tt ?_
    refine run (aBJ dM aU (o3.boxArrN 5 rfl ‹_› (by omega)) rfl (by omega) (by omega) ?_);refine run (aBB o3 5 rfl aU rfl rfl rfl ?_);(refine RunVC.alloc o3 aU ?_;intro b6002 m6002 o6002);(refine RunVC.aBA o6002 6 rfl aU rfl (by decide) (aI ⟨rfl,rfl⟩ ?_);intro m6003 o6003);refine run (fA cD rfl rfl rfl ?_);refine run (aBx o6003 6 rfl aN rfl rfl ?_);(refine RunVC.lit o6003 aH aN rfl rfl (by decide) (aI rfl ?_);intro b6006 m6006 o6006);refine CallVC.ret (bJ [[114,101,110,97,109,101],[40]] _ bp w ts _ (Own.cellB ‹_› 0 rfl 0) (Own.reads ‹_› 1 hR.1 rfl) (Own.boxArr ‹_› 7 rfl rfl (by decide)) hl) ?_;rintro _ h4 ⟨rv,oc⟩;have o4:=oc.thenE ‹_›;clear oc
    rw[hb]at rv
    subst rv;have hE:cJ z (n+1) ts=(bP z [[114,101,110,97,109,101],[40]] >>= fun _=>cJ z n >>= fun a=>ifP (wJ 5) (bP z [[44]] >>= fun _=>cJ z n >>= fun b=>pure [a,b]) [a] >>= fun kids=>eS z 5 (bD ts) kids >>= fun x=>bP z [[41]] >>= fun _=>(pure x:PM Ex)) ts:=jD (jC (by decide) hno hb);have o5:=o4.sel [0,1,2,3,4,6] rfl
    simp only[PSt,pick,lcA,lnA,lgS,lgZ,lgN]at o5
    clear o3 o4;refine Br.ff ?_;refine Ar.i64 (by omega) (by omega) ?_;refine run (fA aO rfl rfl rfl ?_);(refine RunVC.store o5 3 rfl aW rfl (by simp) (aI ⟨rfl,rfl⟩ ?_);intro m6041 o6041);refine run (fA cD rfl rfl rfl ?_);refine run (aBx o6041 5 rfl aN rfl rfl ?_);(refine RunVC.lit o6041 aH aN rfl rfl (by decide) (aI rfl ?_);intro b6044 m6044 o6044);refine aS (ss:=[[114,101,110,97,109,101],[40]]) ‹_› rfl (by first|exact⟨2,by decide,rfl⟩|exact⟨3,by decide,rfl⟩|exact⟨4,by decide,rfl⟩|exact⟨5,by decide,rfl⟩|exact⟨6,by decide,rfl⟩|exact⟨7,by decide,rfl⟩|exact⟨8,by decide,rfl⟩|exact⟨9,by decide,rfl⟩) hR (by omega) (by decide) (fun _ q1 w1 v h5 hm hv hle1 hR1 oq=>?_) (fun e w' h' hm o2=>⟨e,w',hE.trans (PM.aBy hm),rfl,o2⟩);subst hv
    rw[PM.aBz hm]at hE
    have o6:=oq.sel [0,1,2,3,4,5] rfl
    simp only[PSt,pick,lcA,lnA,lgS,lgZ,lgN]at o6
    clear oq hm;refine DrawVC.join [49,50,51,52,53,54,55,56,57,58,59] [] (fun _ hh=>∃(a1:Ex) (q2:List Tok) (w2:Value) (c1:cV) (I1:Item) (ua:Option Addr) (uc:Nat),cJ z n q1=.ok (a1,q2)∧q2.length≤q1.length∧cH tk w2 q2∧lB I1 c1.1 a1∧Own B [box bp [w2,.int .i64 z] 72,tk,I1,box b10 [.int .i64 0,.string ⟨⟨[]⟩⟩,aK,aK,aK,.string ⟨⟨[]⟩⟩,.string ⟨⟨[]⟩⟩,.int .i64 0,.int .i64 0] 42,box b13 [.int .i64 7,.string ⟨⟨[]⟩⟩,.slice ua 1 uc,aK,aK,.string ⟨⟨[]⟩⟩,.string ⟨⟨[]⟩⟩,.int .i64 0,.int .i64 (bD ts)] 42,box pb [.pointer (some ⟨bp,0,none⟩)] 70,box b6002 [.string ⟨⟨[114,101,110,97,109,101]⟩⟩,.bool false,.func (.func 163) ⟨[]⟩ ⟨[.pointer (some ⟨pb,0,none⟩)]⟩] 188,row (.slice ua 1 uc) 42 9 1 c1.1] hh) ?_ ?_
    ·refine DrawVC.aBU b13 [0,2,3,4,6,9,11] [1] [8,10,12] (.one 0 (.one 1 (.one 2 (.one 3 (.one 4 (.one 6 (.fork 5 7 (.one 7 (.one 8 (.one 9 (.one 11 (.fork 10 12 (.one 12 .done) (.one 10 .done)))))) (.one 5 (.one 8 (.one 9 (.one 11 (.fork 10 12 (.one 12 .done) (.one 10 .done))))))))))))) mixed (by kernel_rfl) rfl (fun _ _ _ _ h=>h) ?_
     refine fA aO rfl rfl rfl ?_;refine StillVCA.load1 cX rfl rfl ((o6.cellB 3 rfl _).trans rfl) ?_;refine Ar.i64 (by omega) (by omega) ?_;refine aBH rfl bY ?_
     refine⟨?_,?_⟩
     ·skip
      refine cQ.callL (fun B' o'=>ih (level+1) (by omega) B' bp z tk _ _ _ o' hR1 (by omega)) ‹_› rfl (fun a1 q2 w2 v I1 h6 hm hv hle2 hR2 oq=>?_) (fun e w' h' hm o2=>⟨e,w',hE.trans (PM.aBy hm),rfl,o2⟩)
      obtain⟨c1,rfl,hx1⟩:=hv
      have o7:=oq
      simp only[PSt,pick,lcA,lnA,lgS,lgZ,lgN]at o7
      clear oq
      refine⟨Eq.trans (Own.satK o7 4 rfl) (Eq.symm (Own.satK (x:=box b13 _ _) ‹_› 3 rfl)),?_⟩
      have one1:=eN (Own.satK o7 2 rfl) hx1;(refine RunVC.aBV o7 bY aT rfl rfl (by decide) ?_);refine aI rfl ?_;intro b6101 m6101 o6101;refine aI ((o6101.boxBlk 4 rfl).trans (o7.boxBlk 4 rfl).symm) ?_;have on:=Own.nilRow ‹_› 42 9
      simp only[lcA,lnA]at on
      refine RunVC.append on 8 rfl bY aT (by decide) (Own.boxArrN on 7 rfl (n:=1) rfl (by omega)) (by simp[Value.oneCell']) (by simp only[maxLen];omega) (by omega) ?_;intro vA mA oA
      obtain⟨ua,uc,rfl⟩:=oA.rowIs 8 rfl
      refine aBJ bY aT (oA.rowArrN 8 rfl) rfl (by omega) (by omega) ?_;refine fA aO rfl rfl rfl ?_
      refine⟨?_,?_⟩
      ·skip
       refine RunVC.aBI (i:=0) ‹_› 8 rfl aT rfl rfl rfl c1.2 (by decide) (by decide) one1 ?_;intro mB oB
       simp only[lsS,lsZ]at oB
       (refine RunVC.store oB 4 rfl cX rfl (by simp) (aI ⟨rfl,rfl⟩ ?_);intro m6140 o6140)
       refine⟨rfl,?_⟩
       have ef:=cA (cs:=[.int .i64 0,.string ⟨⟨[]⟩⟩,aK,aK,aK,.string ⟨⟨[]⟩⟩,.string ⟨⟨[]⟩⟩,.int .i64 0,.int .i64 0]) (c:=c1) rfl
       exact⟨a1,q2,w2,c1,I1,ua,uc,hm,hle2,hR2,hx1,ef▸Own.sel ‹_› [0,1,2,3,4,5,6,8] rfl⟩
      ·skip
       (refine RunVC.store oA 4 rfl cX rfl (by simp) (aI ⟨rfl,rfl⟩ ?_);intro m6150 o6150);refine RunVC.aBI (i:=0) ‹_› 8 rfl aT rfl rfl rfl c1.2 (by decide) (by decide) one1 ?_;intro mB oB
       simp only[lsS,lsZ]at oB
       refine⟨rfl,?_⟩
       have ef:=cA (cs:=[.int .i64 0,.string ⟨⟨[]⟩⟩,aK,aK,aK,.string ⟨⟨[]⟩⟩,.string ⟨⟨[]⟩⟩,.int .i64 0,.int .i64 0]) (c:=c1) rfl
       exact⟨a1,q2,w2,c1,I1,ua,uc,hm,hle2,hR2,hx1,ef▸Own.sel ‹_› [0,1,2,3,4,5,6,8] rfl⟩
     ·skip
      (refine RunVC.aBV o6 bY aT rfl rfl (by decide) ?_);refine aI rfl ?_;intro b6281 m6281 o6281;refine aI ((o6281.boxBlk 3 rfl).trans (o6.boxBlk 3 rfl).symm) ?_;refine cQ.callL (fun B' o'=>ih (level+1) (by omega) B' bp z tk _ _ _ o' hR1 (by omega)) ‹_› rfl (fun a1 q2 w2 v I1 h6 hm hv hle2 hR2 oq=>?_) (fun e w' h' hm o2=>⟨e,w',hE.trans (PM.aBy hm),rfl,o2⟩)
      obtain⟨c1,rfl,hx1⟩:=hv
      have o7:=oq
      simp only[PSt,pick,lcA,lnA,lgS,lgZ,lgN]at o7
      clear oq
      refine⟨Eq.trans (Own.satK o7 4 rfl) (Eq.symm (Own.satK (x:=box b13 _ _) ‹_› 3 rfl)),?_⟩
      have one1:=eN (Own.satK o7 2 rfl) hx1;have on:=Own.nilRow ‹_› 42 9
      simp only[lcA,lnA]at on
      refine RunVC.append on 8 rfl bY aT (by decide) (Own.boxArrN on 7 rfl (n:=1) rfl (by omega)) (by simp[Value.oneCell']) (by simp only[maxLen];omega) (by omega) ?_;intro vA mA oA
      obtain⟨ua,uc,rfl⟩:=oA.rowIs 8 rfl
      refine aBJ bY aT (oA.rowArrN 8 rfl) rfl (by omega) (by omega) ?_;refine fA aO rfl rfl rfl ?_
      refine⟨?_,?_⟩
      ·skip
       refine RunVC.aBI (i:=0) ‹_› 8 rfl aT rfl rfl rfl c1.2 (by decide) (by decide) one1 ?_;intro mB oB
       simp only[lsS,lsZ]at oB
       (refine RunVC.store oB 4 rfl cX rfl (by simp) (aI ⟨rfl,rfl⟩ ?_);intro m6340 o6340)
       refine⟨rfl,?_⟩
       have ef:=cA (cs:=[.int .i64 0,.string ⟨⟨[]⟩⟩,aK,aK,aK,.string ⟨⟨[]⟩⟩,.string ⟨⟨[]⟩⟩,.int .i64 0,.int .i64 0]) (c:=c1) rfl
       exact⟨a1,q2,w2,c1,I1,ua,uc,hm,hle2,hR2,hx1,ef▸Own.sel ‹_› [0,1,2,3,4,5,6,8] rfl⟩
      ·skip
       (refine RunVC.store oA 4 rfl cX rfl (by simp) (aI ⟨rfl,rfl⟩ ?_);intro m6350 o6350);refine RunVC.aBI (i:=0) ‹_› 8 rfl aT rfl rfl rfl c1.2 (by decide) (by decide) one1 ?_;intro mB oB
       simp only[lsS,lsZ]at oB
       refine⟨rfl,?_⟩
       have ef:=cA (cs:=[.int .i64 0,.string ⟨⟨[]⟩⟩,aK,aK,aK,.string ⟨⟨[]⟩⟩,.string ⟨⟨[]⟩⟩,.int .i64 0,.int .i64 0]) (c:=c1) rfl
       exact⟨a1,q2,w2,c1,I1,ua,uc,hm,hle2,hR2,hx1,ef▸Own.sel ‹_› [0,1,2,3,4,5,6,8] rfl⟩
    ·rintro _ junk2 h7 ⟨a1,q2,w2,c1,I1,ua,uc,hm,hle2,hR2,hx1,o8⟩
     rw[PM.aBz hm]at hE
     rw[qO (by rfl),PM.aBM]at hE
     refine run (fA cD rfl rfl rfl ?_);refine run (aBx o8 6 rfl ty4 rfl rfl ?_);refine Br.ff ?_;refine RegVC.plain ?_;refine run (fA cD rfl rfl rfl ?_);refine run (aBx o8 6 rfl xD rfl rfl ?_);refine kM.callL (fun B' o'=>rest5_spec (bD ts) (.slice ua 1 uc) [a1] B' bp z tk b13 pb w2 q2 h7 o' hR2 (by omega)) o8 [0,1,4,5] [2,3,7] rfl rfl (fun x q3 w3 c J h8 hm3 hJ hle3 hR3 oq=>?_) (fun e w' h' hm3 o2=>⟨e,w',hE.trans (PM.aBy hm3),rfl,o2⟩)
     rw[PM.aBz hm3]at hE
     obtain⟨vc,vn,cs,ns,at_,as_,ag,rfl,rfl,rc,rn⟩:=hJ
     unfold wB at oq;have o9:=oq
     simp only[PSt,pick,lcA,lnA,lgS,lgZ,lgN]at o9
     clear oq o8
     obtain⟨xa,xb,rfl⟩:=rc.isS (Own.satK o9 4 rfl)
     obtain⟨ya,yb,rfl⟩:=rn.isS (Own.satK o9 4 rfl)
     (refine RunVC.lit o9 aH aN rfl rfl (by decide) (aI rfl ?_);intro b6520 m6520 o6520);refine aS (ss:=[[41]]) ‹_› rfl (by first|exact⟨2,by decide,rfl⟩|exact⟨3,by decide,rfl⟩|exact⟨4,by decide,rfl⟩|exact⟨5,by decide,rfl⟩|exact⟨6,by decide,rfl⟩|exact⟨7,by decide,rfl⟩|exact⟨8,by decide,rfl⟩|exact⟨9,by decide,rfl⟩) hR3 (by omega) (by decide) (fun _ q4 w4 v h9 hm4 hv hle4 hR4 oq=>?_) (fun e w' h' hm o2=>⟨e,w',hE.trans (PM.aBy hm),rfl,o2⟩);subst hv
     rw[PM.aBz hm4]at hE
     have o10:=oq
     simp only[PSt,pick,lcA,lnA,lgS,lgZ,lgN]at o10
     clear oq o9;refine run (aBB o10 2 rfl aT rfl rfl rfl ?_);(refine RunVC.aBA o10 6 rfl aT rfl (by decide) (aI ⟨rfl,rfl⟩ ?_);intro m6541 o6541)
     first|refine RetVC.aBL rfl o6541 6 rfl aT rfl rfl ?_|refine RetVC.aBK rfl o6541 6 rfl aT rfl rfl ?_|refine RetVC.cellTT rfl o6541 6 rfl aT rfl rfl ?_
     have er:[c1].flatMap Subtype.val=c1.1:=by simp
     exact⟨_,q4,w4,dT (dT J I1) (row (.slice ua 1 uc) 42 9 1 c1.1),hE,⟨⟨wB 7 [] (.slice ua 1 uc) (.slice xa cs.length xb) (.slice ya ns.length yb) at_ as_ ag (bD ts),rfl⟩,rfl,by rw[lB];exact⟨_,_,_,rfl,rc.inl.inl,rn.inl.inl,[c1],by rw[er];exact dD.inr,lB.mono (fun _ (s:(dT (dT _ _) _).sat _)=>s.1.2) _ _ hx1,trivial⟩⟩,by omega,hR4,((Own.sel ‹_› [4,5,7,0,1] rfl).join.join).sel [1,2,0] rfl⟩
theorem expr_group (n:Nat)(hn:n≤11)(ih:lD n):∀(level:Int)(_:level=13 - ((n+1:Nat):Int))(B:Base)(bp z:Nat)(tk:Item)(w:Value)(ts:List Tok)(h:Heap)(_:Own B (PSt bp z w tk) h)(_:cH tk w ts)(_:ts.length≤5000)(_:∀ j,j<6→bK [dB.getD j [],[40]] ts=false)(_:bK [[103,114,111,117,112],[40]] ts=true),
  Spec Tryz.prog 118 [.pointer (some ⟨bp,0,none⟩),.int .i64 level] h (cQ B bp z tk ts.length (cJ z (n+1) ts) exV):=by
 intro level hlv B bp z tk w ts h o hR hl hno hb
 obtain⟨hRd,hK⟩:=hR
 have hR:cH tk w ts:=⟨hRd,hK⟩;refine Spec.enter Tryz.func118 rfl Tryz.ntmps118 (by kernel_rfl) ?_;(refine RunVC.alloc o aT ?_;intro b10 m10 o10);refine Br.dec (fun hc=>absurd hc (by omega)) (fun c11=>?_);refine run (aBE aO ?_);refine aI rfl ?_;(refine RunVC.alloc o10 aT ?_;intro b13 m13 o13);(refine RunVC.aBA o13 3 rfl aT rfl (by decide) (aI ⟨rfl,rfl⟩ ?_);intro m14 o14);refine run (nC rfl ?_);refine run (fA fD rfl rfl rfl ?_);refine run (aBx o14 0 rfl eF rfl rfl ?_);refine run (aBX (o14.reads 1 hRd rfl) fE ?_);refine Br.join [19,20,21,22,23,24,25,26] [] (fun _ hh=>Own B [box bp [w,.int .i64 z] 72,tk,box b10 [.int .i64 0,.string ⟨⟨[]⟩⟩,aK,aK,aK,.string ⟨⟨[]⟩⟩,.string ⟨⟨[]⟩⟩,.int .i64 0,.int .i64 0] 42,box b13 [.int .i64 1,.string ⟨⟨[]⟩⟩,aK,aK,aK,.string ⟨⟨[]⟩⟩,.string ⟨⟨[]⟩⟩,.int .i64 0,.int .i64 (bD ts)] 42] hh) rfl rfl ?_ ?_
 ·cases ts with
  | nil =>
   refine Br.ff ?_
   refine⟨rfl,?_⟩
   exact o14
  | cons t r =>
   have hx:(t::r)[0]?=some t:=rfl;have hln:(t::r).length=r.length+1:=rfl;refine Br.dec (fun c30=>?_) (fun hc=>absurd (by omega) hc);refine run (nC rfl ?_);refine run (fA fD rfl rfl rfl ?_);refine run (aBx o14 0 rfl eF rfl rfl ?_);refine run (aBJ fE bA (o14.reads 1 hRd rfl) rfl (by omega) (by omega) ?_);refine run (aBT (o14.reads 1 hRd rfl) (by omega) eI rfl rfl rfl ?_);refine run (aBW (o14.reads 1 hRd rfl) aW (fun _=>rfl) rfl ‹_› rfl ?_);refine run (fA aO rfl rfl rfl ?_);(refine RunVC.aBA o14 3 rfl aW rfl (by decide) (aI ⟨rfl,rfl⟩ ?_);intro m38 o38)
   refine⟨rfl,?_⟩
   exact Own.sel ‹_› [0,1,2,3] rfl
 ·intro vs junk hh oh
  refine CallVC.ret (eD bp _) ?_;rintro _ h2 ⟨bo,pb,rfl,oc⟩;have o2:=oh.call oc
  simp only[lcA,lnA]at o2
  clear oc;refine run (aBH rfl dM ?_);refine LoopVC.intro [6,7,30,31,32,33,34,35,36,37,38,39,40,41,42,43,44,45,46,47,48,49,50,51,52,53,54,55,56,57,58,59,60,61,62,63,64,65,66,67,68,69,70,71,72,73,74,75,76,77,78,79,80,81,82,83] [30] (fun vs hh=>∃(i:Nat),i≤6∧vs=[.int .i64 i]∧Own B [box bp [w,.int .i64 z] 72,tk,box b10 [.int .i64 0,.string ⟨⟨[]⟩⟩,aK,aK,aK,.string ⟨⟨[]⟩⟩,.string ⟨⟨[]⟩⟩,.int .i64 0,.int .i64 0] 42,box b13 [.int .i64 1,.string ⟨⟨[]⟩⟩,aK,aK,aK,.string ⟨⟨[]⟩⟩,.string ⟨⟨[]⟩⟩,.int .i64 0,.int .i64 (bD ts)] 42,box pb [.pointer (some ⟨bp,0,none⟩)] 70,box bo (qG pb) 188] hh) (fun vs _=>match vs with|[.int _ i]=>7 - i.toNat|_=>0) ?_ ?_
  ·exact⟨0,by omega,rfl,o2⟩
  ·rintro vs' junk' h3 ⟨i,hi,rfl,o3⟩
   clear o14 oh o2;have hoL:(qG pb).length=7*3:=rfl
   rcases(by omega:i=0∨i=1∨i=2∨i=3∨i=4∨i=5∨i=6) with rfl|rfl|rfl|rfl|rfl|rfl|rfl
   ·refine Br.tt ?_
    refine run (aBJ dM aU (o3.boxArrN 5 rfl ‹_› (by omega)) rfl (by omega) (by omega) ?_);refine run (aBB o3 5 rfl aU rfl rfl rfl ?_);(refine RunVC.alloc o3 aU ?_;intro b1002 m1002 o1002);(refine RunVC.aBA o1002 6 rfl aU rfl (by decide) (aI ⟨rfl,rfl⟩ ?_);intro m1003 o1003);refine run (fA cD rfl rfl rfl ?_);refine run (aBx o1003 6 rfl aN rfl rfl ?_);(refine RunVC.lit o1003 aH aN rfl rfl (by decide) (aI rfl ?_);intro b1006 m1006 o1006);refine CallVC.ret (bJ [[115,101,108,101,99,116],[40]] _ bp w ts _ (Own.cellB ‹_› 0 rfl 0) (Own.reads ‹_› 1 hR.1 rfl) (Own.boxArr ‹_› 7 rfl rfl (by decide)) hl) ?_;rintro _ h4 ⟨rv,oc⟩;have o4:=oc.thenE ‹_›;clear oc;have hb:bK [[115,101,108,101,99,116],[40]] ts=false:=hno 0 (by decide)
    rw[hb]at rv
    subst rv;refine Br.tt ?_;refine Ar.i64 (by omega) (by omega) ?_
    refine⟨rfl,?_⟩
    exact⟨⟨1,by omega,rfl,Own.sel ‹_› [0,1,2,3,4,5] rfl⟩,by simp⟩
   ·refine Br.tt ?_
    refine run (aBJ dM aU (o3.boxArrN 5 rfl ‹_› (by omega)) rfl (by omega) (by omega) ?_);refine run (aBB o3 5 rfl aU rfl rfl rfl ?_);(refine RunVC.alloc o3 aU ?_;intro b2002 m2002 o2002);(refine RunVC.aBA o2002 6 rfl aU rfl (by decide) (aI ⟨rfl,rfl⟩ ?_);intro m2003 o2003);refine run (fA cD rfl rfl rfl ?_);refine run (aBx o2003 6 rfl aN rfl rfl ?_);(refine RunVC.lit o2003 aH aN rfl rfl (by decide) (aI rfl ?_);intro b2006 m2006 o2006);refine CallVC.ret (bJ [[112,114,111,106,101,99,116],[40]] _ bp w ts _ (Own.cellB ‹_› 0 rfl 0) (Own.reads ‹_› 1 hR.1 rfl) (Own.boxArr ‹_› 7 rfl rfl (by decide)) hl) ?_;rintro _ h4 ⟨rv,oc⟩;have o4:=oc.thenE ‹_›;clear oc;have hb:bK [[112,114,111,106,101,99,116],[40]] ts=false:=hno 1 (by decide)
    rw[hb]at rv
    subst rv;refine Br.tt ?_;refine Ar.i64 (by omega) (by omega) ?_
    refine⟨rfl,?_⟩
    exact⟨⟨2,by omega,rfl,Own.sel ‹_› [0,1,2,3,4,5] rfl⟩,by simp⟩
   ·refine Br.tt ?_
    refine run (aBJ dM aU (o3.boxArrN 5 rfl ‹_› (by omega)) rfl (by omega) (by omega) ?_);refine run (aBB o3 5 rfl aU rfl rfl rfl ?_);(refine RunVC.alloc o3 aU ?_;intro b3002 m3002 o3002);(refine RunVC.aBA o3002 6 rfl aU rfl (by decide) (aI ⟨rfl,rfl⟩ ?_);intro m3003 o3003);refine run (fA cD rfl rfl rfl ?_);refine run (aBx o3003 6 rfl aN rfl rfl ?_);(refine RunVC.lit o3003 aH aN rfl rfl (by decide) (aI rfl ?_);intro b3006 m3006 o3006);refine CallVC.ret (bJ [[106,111,105,110],[40]] _ bp w ts _ (Own.cellB ‹_› 0 rfl 0) (Own.reads ‹_› 1 hR.1 rfl) (Own.boxArr ‹_› 7 rfl rfl (by decide)) hl) ?_;rintro _ h4 ⟨rv,oc⟩;have o4:=oc.thenE ‹_›;clear oc;have hb:bK [[106,111,105,110],[40]] ts=false:=hno 2 (by decide)
    rw[hb]at rv
    subst rv;refine Br.tt ?_;refine Ar.i64 (by omega) (by omega) ?_
    refine⟨rfl,?_⟩
    exact⟨⟨3,by omega,rfl,Own.sel ‹_› [0,1,2,3,4,5] rfl⟩,by simp⟩
   ·refine Br.tt ?_
    refine run (aBJ dM aU (o3.boxArrN 5 rfl ‹_› (by omega)) rfl (by omega) (by omega) ?_);refine run (aBB o3 5 rfl aU rfl rfl rfl ?_);(refine RunVC.alloc o3 aU ?_;intro b4002 m4002 o4002);(refine RunVC.aBA o4002 6 rfl aU rfl (by decide) (aI ⟨rfl,rfl⟩ ?_);intro m4003 o4003);refine run (fA cD rfl rfl rfl ?_);refine run (aBx o4003 6 rfl aN rfl rfl ?_);(refine RunVC.lit o4003 aH aN rfl rfl (by decide) (aI rfl ?_);intro b4006 m4006 o4006);refine CallVC.ret (bJ [[117,110,105,111,110],[40]] _ bp w ts _ (Own.cellB ‹_› 0 rfl 0) (Own.reads ‹_› 1 hR.1 rfl) (Own.boxArr ‹_› 7 rfl rfl (by decide)) hl) ?_;rintro _ h4 ⟨rv,oc⟩;have o4:=oc.thenE ‹_›;clear oc;have hb:bK [[117,110,105,111,110],[40]] ts=false:=hno 3 (by decide)
    rw[hb]at rv
    subst rv;refine Br.tt ?_;refine Ar.i64 (by omega) (by omega) ?_
    refine⟨rfl,?_⟩
    exact⟨⟨4,by omega,rfl,Own.sel ‹_› [0,1,2,3,4,5] rfl⟩,by simp⟩
   ·refine Br.tt ?_
    refine run (aBJ dM aU (o3.boxArrN 5 rfl ‹_› (by omega)) rfl (by omega) (by omega) ?_);refine run (aBB o3 5 rfl aU rfl rfl rfl ?_);(refine RunVC.alloc o3 aU ?_;intro b5002 m5002 o5002);(refine RunVC.aBA o5002 6 rfl aU rfl (by decide) (aI ⟨rfl,rfl⟩ ?_);intro m5003 o5003);refine run (fA cD rfl rfl rfl ?_);refine run (aBx o5003 6 rfl aN rfl rfl ?_);(refine RunVC.lit o5003 aH aN rfl rfl (by decide) (aI rfl ?_);intro b5006 m5006 o5006);refine CallVC.ret (bJ [[109,105,110,117,115],[40]] _ bp w ts _ (Own.cellB ‹_› 0 rfl 0) (Own.reads ‹_› 1 hR.1 rfl) (Own.boxArr ‹_› 7 rfl rfl (by decide)) hl) ?_;rintro _ h4 ⟨rv,oc⟩;have o4:=oc.thenE ‹_›;clear oc;have hb:bK [[109,105,110,117,115],[40]] ts=false:=hno 4 (by decide)
    rw[hb]at rv
    subst rv;refine Br.tt ?_;refine Ar.i64 (by omega) (by omega) ?_
    refine⟨rfl,?_⟩
    exact⟨⟨5,by omega,rfl,Own.sel ‹_› [0,1,2,3,4,5] rfl⟩,by simp⟩
   ·refine Br.tt ?_
    refine run (aBJ dM aU (o3.boxArrN 5 rfl ‹_› (by omega)) rfl (by omega) (by omega) ?_);refine run (aBB o3 5 rfl aU rfl rfl rfl ?_);(refine RunVC.alloc o3 aU ?_;intro b6002 m6002 o6002);(refine RunVC.aBA o6002 6 rfl aU rfl (by decide) (aI ⟨rfl,rfl⟩ ?_);intro m6003 o6003);refine run (fA cD rfl rfl rfl ?_);refine run (aBx o6003 6 rfl aN rfl rfl ?_);(refine RunVC.lit o6003 aH aN rfl rfl (by decide) (aI rfl ?_);intro b6006 m6006 o6006);refine CallVC.ret (bJ [[114,101,110,97,109,101],[40]] _ bp w ts _ (Own.cellB ‹_› 0 rfl 0) (Own.reads ‹_› 1 hR.1 rfl) (Own.boxArr ‹_› 7 rfl rfl (by decide)) hl) ?_;rintro _ h4 ⟨rv,oc⟩;have o4:=oc.thenE ‹_›;clear oc;have hb:bK [[114,101,110,97,109,101],[40]] ts=false:=hno 5 (by decide)
    rw[hb]at rv
    subst rv;refine Br.tt ?_;refine Ar.i64 (by omega) (by omega) ?_
    refine⟨rfl,?_⟩
    exact⟨⟨6,by omega,rfl,Own.sel ‹_› [0,1,2,3,4,5] rfl⟩,by simp⟩
   ·refine Br.tt ?_
    refine run (aBJ dM aU (o3.boxArrN 5 rfl ‹_› (by omega)) rfl (by omega) (by omega) ?_);refine run (aBB o3 5 rfl aU rfl rfl rfl ?_);(refine RunVC.alloc o3 aU ?_;intro b7002 m7002 o7002);(refine RunVC.aBA o7002 6 rfl aU rfl (by decide) (aI ⟨rfl,rfl⟩ ?_);intro m7003 o7003);refine run (fA cD rfl rfl rfl ?_);refine run (aBx o7003 6 rfl aN rfl rfl ?_);(refine RunVC.lit o7003 aH aN rfl rfl (by decide) (aI rfl ?_);intro b7006 m7006 o7006);refine CallVC.ret (bJ [[103,114,111,117,112],[40]] _ bp w ts _ (Own.cellB ‹_› 0 rfl 0) (Own.reads ‹_› 1 hR.1 rfl) (Own.boxArr ‹_› 7 rfl rfl (by decide)) hl) ?_;rintro _ h4 ⟨rv,oc⟩;have o4:=oc.thenE ‹_›;clear oc
    rw[hb]at rv
    subst rv;have hE:cJ z (n+1) ts=(bP z [[103,114,111,117,112],[40]] >>= fun _=>cJ z n >>= fun a=>ifP (wJ 6) (bP z [[44]] >>= fun _=>cJ z n >>= fun b=>pure [a,b]) [a] >>= fun kids=>eS z 6 (bD ts) kids >>= fun x=>bP z [[41]] >>= fun _=>(pure x:PM Ex)) ts:=jD (jC (by decide) hno hb);have o5:=o4.sel [0,1,2,3,4,6] rfl
    simp only[PSt,pick,lcA,lnA,lgS,lgZ,lgN]at o5
    clear o3 o4;refine Br.ff ?_;refine Ar.i64 (by omega) (by omega) ?_;refine run (fA aO rfl rfl rfl ?_);(refine RunVC.store o5 3 rfl aW rfl (by simp) (aI ⟨rfl,rfl⟩ ?_);intro m7041 o7041);refine run (fA cD rfl rfl rfl ?_);refine run (aBx o7041 5 rfl aN rfl rfl ?_);(refine RunVC.lit o7041 aH aN rfl rfl (by decide) (aI rfl ?_);intro b7044 m7044 o7044);refine aS (ss:=[[103,114,111,117,112],[40]]) ‹_› rfl (by first|exact⟨2,by decide,rfl⟩|exact⟨3,by decide,rfl⟩|exact⟨4,by decide,rfl⟩|exact⟨5,by decide,rfl⟩|exact⟨6,by decide,rfl⟩|exact⟨7,by decide,rfl⟩|exact⟨8,by decide,rfl⟩|exact⟨9,by decide,rfl⟩) hR (by omega) (by decide) (fun _ q1 w1 v h5 hm hv hle1 hR1 oq=>?_) (fun e w' h' hm o2=>⟨e,w',hE.trans (PM.aBy hm),rfl,o2⟩);subst hv
    rw[PM.aBz hm]at hE
    have o6:=oq.sel [0,1,2,3,4,5] rfl
    simp only[PSt,pick,lcA,lnA,lgS,lgZ,lgN]at o6
    clear oq hm;refine DrawVC.join [49,50,51,52,53,54,55,56,57,58,59] [] (fun _ hh=>∃(a1:Ex) (q2:List Tok) (w2:Value) (c1:cV) (I1:Item) (ua:Option Addr) (uc:Nat),cJ z n q1=.ok (a1,q2)∧q2.length≤q1.length∧cH tk w2 q2∧lB I1 c1.1 a1∧Own B [box bp [w2,.int .i64 z] 72,tk,I1,box b10 [.int .i64 0,.string ⟨⟨[]⟩⟩,aK,aK,aK,.string ⟨⟨[]⟩⟩,.string ⟨⟨[]⟩⟩,.int .i64 0,.int .i64 0] 42,box b13 [.int .i64 8,.string ⟨⟨[]⟩⟩,.slice ua 1 uc,aK,aK,.string ⟨⟨[]⟩⟩,.string ⟨⟨[]⟩⟩,.int .i64 0,.int .i64 (bD ts)] 42,box pb [.pointer (some ⟨bp,0,none⟩)] 70,box b7002 [.string ⟨⟨[103,114,111,117,112]⟩⟩,.bool false,.func (.func 164) ⟨[]⟩ ⟨[.pointer (some ⟨pb,0,none⟩)]⟩] 188,row (.slice ua 1 uc) 42 9 1 c1.1] hh) ?_ ?_
    ·refine DrawVC.aBU b13 [0,2,3,4,6,9,11] [1] [8,10,12] (.one 0 (.one 1 (.one 2 (.one 3 (.one 4 (.one 6 (.fork 5 7 (.one 7 (.one 8 (.one 9 (.one 11 (.fork 10 12 (.one 12 .done) (.one 10 .done)))))) (.one 5 (.one 8 (.one 9 (.one 11 (.fork 10 12 (.one 12 .done) (.one 10 .done))))))))))))) mixed (by kernel_rfl) rfl (fun _ _ _ _ h=>h) ?_
     refine fA aO rfl rfl rfl ?_;refine StillVCA.load1 cX rfl rfl ((o6.cellB 3 rfl _).trans rfl) ?_;refine Ar.i64 (by omega) (by omega) ?_;refine aBH rfl bY ?_
     refine⟨?_,?_⟩
     ·skip
      refine cQ.callL (fun B' o'=>ih (level+1) (by omega) B' bp z tk _ _ _ o' hR1 (by omega)) ‹_› rfl (fun a1 q2 w2 v I1 h6 hm hv hle2 hR2 oq=>?_) (fun e w' h' hm o2=>⟨e,w',hE.trans (PM.aBy hm),rfl,o2⟩)
      obtain⟨c1,rfl,hx1⟩:=hv
      have o7:=oq
      simp only[PSt,pick,lcA,lnA,lgS,lgZ,lgN]at o7
      clear oq
      refine⟨Eq.trans (Own.satK o7 4 rfl) (Eq.symm (Own.satK (x:=box b13 _ _) ‹_› 3 rfl)),?_⟩
      have one1:=eN (Own.satK o7 2 rfl) hx1;(refine RunVC.aBV o7 bY aT rfl rfl (by decide) ?_);refine aI rfl ?_;intro b7101 m7101 o7101;refine aI ((o7101.boxBlk 4 rfl).trans (o7.boxBlk 4 rfl).symm) ?_;have on:=Own.nilRow ‹_› 42 9
      simp only[lcA,lnA]at on
      refine RunVC.append on 8 rfl bY aT (by decide) (Own.boxArrN on 7 rfl (n:=1) rfl (by omega)) (by simp[Value.oneCell']) (by simp only[maxLen];omega) (by omega) ?_;intro vA mA oA
      obtain⟨ua,uc,rfl⟩:=oA.rowIs 8 rfl
      refine aBJ bY aT (oA.rowArrN 8 rfl) rfl (by omega) (by omega) ?_;refine fA aO rfl rfl rfl ?_
      refine⟨?_,?_⟩
      ·skip
       refine RunVC.aBI (i:=0) ‹_› 8 rfl aT rfl rfl rfl c1.2 (by decide) (by decide) one1 ?_;intro mB oB
       simp only[lsS,lsZ]at oB
       (refine RunVC.store oB 4 rfl cX rfl (by simp) (aI ⟨rfl,rfl⟩ ?_);intro m7140 o7140)
       refine⟨rfl,?_⟩
       have ef:=cA (cs:=[.int .i64 0,.string ⟨⟨[]⟩⟩,aK,aK,aK,.string ⟨⟨[]⟩⟩,.string ⟨⟨[]⟩⟩,.int .i64 0,.int .i64 0]) (c:=c1) rfl
       exact⟨a1,q2,w2,c1,I1,ua,uc,hm,hle2,hR2,hx1,ef▸Own.sel ‹_› [0,1,2,3,4,5,6,8] rfl⟩
      ·skip
       (refine RunVC.store oA 4 rfl cX rfl (by simp) (aI ⟨rfl,rfl⟩ ?_);intro m7150 o7150);refine RunVC.aBI (i:=0) ‹_› 8 rfl aT rfl rfl rfl c1.2 (by decide) (by decide) one1 ?_;intro mB oB
       simp only[lsS,lsZ]at oB
       refine⟨rfl,?_⟩
       have ef:=cA (cs:=[.int .i64 0,.string ⟨⟨[]⟩⟩,aK,aK,aK,.string ⟨⟨[]⟩⟩,.string ⟨⟨[]⟩⟩,.int .i64 0,.int .i64 0]) (c:=c1) rfl
       exact⟨a1,q2,w2,c1,I1,ua,uc,hm,hle2,hR2,hx1,ef▸Own.sel ‹_› [0,1,2,3,4,5,6,8] rfl⟩
     ·skip
      (refine RunVC.aBV o6 bY aT rfl rfl (by decide) ?_);refine aI rfl ?_;intro b7281 m7281 o7281;refine aI ((o7281.boxBlk 3 rfl).trans (o6.boxBlk 3 rfl).symm) ?_;refine cQ.callL (fun B' o'=>ih (level+1) (by omega) B' bp z tk _ _ _ o' hR1 (by omega)) ‹_› rfl (fun a1 q2 w2 v I1 h6 hm hv hle2 hR2 oq=>?_) (fun e w' h' hm o2=>⟨e,w',hE.trans (PM.aBy hm),rfl,o2⟩)
      obtain⟨c1,rfl,hx1⟩:=hv
      have o7:=oq
      simp only[PSt,pick,lcA,lnA,lgS,lgZ,lgN]at o7
      clear oq
      refine⟨Eq.trans (Own.satK o7 4 rfl) (Eq.symm (Own.satK (x:=box b13 _ _) ‹_› 3 rfl)),?_⟩
      have one1:=eN (Own.satK o7 2 rfl) hx1;have on:=Own.nilRow ‹_› 42 9
      simp only[lcA,lnA]at on
      refine RunVC.append on 8 rfl bY aT (by decide) (Own.boxArrN on 7 rfl (n:=1) rfl (by omega)) (by simp[Value.oneCell']) (by simp only[maxLen];omega) (by omega) ?_;intro vA mA oA
      obtain⟨ua,uc,rfl⟩:=oA.rowIs 8 rfl
      refine aBJ bY aT (oA.rowArrN 8 rfl) rfl (by omega) (by omega) ?_;refine fA aO rfl rfl rfl ?_
      refine⟨?_,?_⟩
      ·skip
       refine RunVC.aBI (i:=0) ‹_› 8 rfl aT rfl rfl rfl c1.2 (by decide) (by decide) one1 ?_;intro mB oB
       simp only[lsS,lsZ]at oB
       (refine RunVC.store oB 4 rfl cX rfl (by simp) (aI ⟨rfl,rfl⟩ ?_);intro m7340 o7340)
       refine⟨rfl,?_⟩
       have ef:=cA (cs:=[.int .i64 0,.string ⟨⟨[]⟩⟩,aK,aK,aK,.string ⟨⟨[]⟩⟩,.string ⟨⟨[]⟩⟩,.int .i64 0,.int .i64 0]) (c:=c1) rfl
       exact⟨a1,q2,w2,c1,I1,ua,uc,hm,hle2,hR2,hx1,ef▸Own.sel ‹_› [0,1,2,3,4,5,6,8] rfl⟩
      ·skip
       (refine RunVC.store oA 4 rfl cX rfl (by simp) (aI ⟨rfl,rfl⟩ ?_);intro m7350 o7350);refine RunVC.aBI (i:=0) ‹_› 8 rfl aT rfl rfl rfl c1.2 (by decide) (by decide) one1 ?_;intro mB oB
       simp only[lsS,lsZ]at oB
       refine⟨rfl,?_⟩
       have ef:=cA (cs:=[.int .i64 0,.string ⟨⟨[]⟩⟩,aK,aK,aK,.string ⟨⟨[]⟩⟩,.string ⟨⟨[]⟩⟩,.int .i64 0,.int .i64 0]) (c:=c1) rfl
       exact⟨a1,q2,w2,c1,I1,ua,uc,hm,hle2,hR2,hx1,ef▸Own.sel ‹_› [0,1,2,3,4,5,6,8] rfl⟩
    ·rintro _ junk2 h7 ⟨a1,q2,w2,c1,I1,ua,uc,hm,hle2,hR2,hx1,o8⟩
     rw[PM.aBz hm]at hE
     rw[qO (by rfl),PM.aBM]at hE
     refine run (fA cD rfl rfl rfl ?_);refine run (aBx o8 6 rfl ty4 rfl rfl ?_);refine Br.ff ?_;refine RegVC.plain ?_;refine run (fA cD rfl rfl rfl ?_);refine run (aBx o8 6 rfl xD rfl rfl ?_);refine kM.callL (fun B' o'=>rest6_spec (bD ts) (.slice ua 1 uc) [a1] B' bp z tk b13 pb w2 q2 h7 o' hR2 (by omega)) o8 [0,1,4,5] [2,3,7] rfl rfl (fun x q3 w3 c J h8 hm3 hJ hle3 hR3 oq=>?_) (fun e w' h' hm3 o2=>⟨e,w',hE.trans (PM.aBy hm3),rfl,o2⟩)
     rw[PM.aBz hm3]at hE
     obtain⟨vc,vn,cs,ns,at_,as_,ag,rfl,rfl,rc,rn⟩:=hJ
     unfold wB at oq;have o9:=oq
     simp only[PSt,pick,lcA,lnA,lgS,lgZ,lgN]at o9
     clear oq o8
     obtain⟨xa,xb,rfl⟩:=rc.isS (Own.satK o9 4 rfl)
     obtain⟨ya,yb,rfl⟩:=rn.isS (Own.satK o9 4 rfl)
     (refine RunVC.lit o9 aH aN rfl rfl (by decide) (aI rfl ?_);intro b7520 m7520 o7520);refine aS (ss:=[[41]]) ‹_› rfl (by first|exact⟨2,by decide,rfl⟩|exact⟨3,by decide,rfl⟩|exact⟨4,by decide,rfl⟩|exact⟨5,by decide,rfl⟩|exact⟨6,by decide,rfl⟩|exact⟨7,by decide,rfl⟩|exact⟨8,by decide,rfl⟩|exact⟨9,by decide,rfl⟩) hR3 (by omega) (by decide) (fun _ q4 w4 v h9 hm4 hv hle4 hR4 oq=>?_) (fun e w' h' hm o2=>⟨e,w',hE.trans (PM.aBy hm),rfl,o2⟩);subst hv
     rw[PM.aBz hm4]at hE
     have o10:=oq
     simp only[PSt,pick,lcA,lnA,lgS,lgZ,lgN]at o10
     clear oq o9;refine run (aBB o10 2 rfl aT rfl rfl rfl ?_);(refine RunVC.aBA o10 6 rfl aT rfl (by decide) (aI ⟨rfl,rfl⟩ ?_);intro m7541 o7541)
     first|refine RetVC.aBL rfl o7541 6 rfl aT rfl rfl ?_|refine RetVC.aBK rfl o7541 6 rfl aT rfl rfl ?_|refine RetVC.cellTT rfl o7541 6 rfl aT rfl rfl ?_
     have er:[c1].flatMap Subtype.val=c1.1:=by simp
     exact⟨_,q4,w4,dT (dT J I1) (row (.slice ua 1 uc) 42 9 1 c1.1),hE,⟨⟨wB 8 [] (.slice ua 1 uc) (.slice xa cs.length xb) (.slice ya ns.length yb) at_ as_ ag (bD ts),rfl⟩,rfl,by rw[lB];exact⟨_,_,_,rfl,rc.inl.inl,rn.inl.inl,[c1],by rw[er];exact dD.inr,lB.mono (fun _ (s:(dT (dT _ _) _).sat _)=>s.1.2) _ _ hx1,trivial⟩⟩,by omega,hR4,((Own.sel ‹_› [4,5,7,0,1] rfl).join.join).sel [1,2,0] rfl⟩
theorem expr_next (n:Nat)(hn:n≤11)(ih:lD n):lD (n+1):=by
 intro level hlv B bp z tk w ts h o hR hl;cases hb0:bK [[115,101,108,101,99,116],[40]] ts with
 | true=>exact expr_select n hn ih level hlv B bp z tk w ts h o hR hl (fun j hj=>by rcases(by omega:False) with hf;exact hf.elim) hb0
 | false =>
 cases hb1:bK [[112,114,111,106,101,99,116],[40]] ts with
 | true=>exact aBp n hn ih level hlv B bp z tk w ts h o hR hl (fun j hj=>by rcases(by omega:False∨j=0) with hf|rfl;exact hf.elim;exact hb0) hb1
 | false =>
 cases hb2:bK [[106,111,105,110],[40]] ts with
 | true=>exact expr_join n hn ih level hlv B bp z tk w ts h o hR hl (fun j hj=>by rcases(by omega:False∨j=0∨j=1) with hf|rfl|rfl;exact hf.elim;exact hb0;exact hb1) hb2
 | false =>
 cases hb3:bK [[117,110,105,111,110],[40]] ts with
 | true=>exact expr_union n hn ih level hlv B bp z tk w ts h o hR hl (fun j hj=>by rcases(by omega:False∨j=0∨j=1∨j=2) with hf|rfl|rfl|rfl;exact hf.elim;exact hb0;exact hb1;exact hb2) hb3
 | false =>
 cases hb4:bK [[109,105,110,117,115],[40]] ts with
 | true=>exact expr_minus n hn ih level hlv B bp z tk w ts h o hR hl (fun j hj=>by rcases(by omega:False∨j=0∨j=1∨j=2∨j=3) with hf|rfl|rfl|rfl|rfl;exact hf.elim;exact hb0;exact hb1;exact hb2;exact hb3) hb4
 | false =>
 cases hb5:bK [[114,101,110,97,109,101],[40]] ts with
 | true=>exact expr_rename n hn ih level hlv B bp z tk w ts h o hR hl (fun j hj=>by rcases(by omega:False∨j=0∨j=1∨j=2∨j=3∨j=4) with hf|rfl|rfl|rfl|rfl|rfl;exact hf.elim;exact hb0;exact hb1;exact hb2;exact hb3;exact hb4) hb5
 | false =>
 cases hb6:bK [[103,114,111,117,112],[40]] ts with
 | true=>exact expr_group n hn ih level hlv B bp z tk w ts h o hR hl (fun j hj=>by rcases(by omega:False∨j=0∨j=1∨j=2∨j=3∨j=4∨j=5) with hf|rfl|rfl|rfl|rfl|rfl|rfl;exact hf.elim;exact hb0;exact hb1;exact hb2;exact hb3;exact hb4;exact hb5) hb6
 | false =>
 exact expr_leaf n hn ih level hlv B bp z tk w ts h o hR hl (fun j hj=>by rcases(by omega:j=0∨j=1∨j=2∨j=3∨j=4∨j=5∨j=6) with rfl|rfl|rfl|rfl|rfl|rfl|rfl;exact hb0;exact hb1;exact hb2;exact hb3;exact hb4;exact hb5;exact hb6)
theorem aAM:∀(n:Nat),n≤12→lD n
 | 0,_=>expr_zero
 | n+1,h=>expr_next n (by omega) (aAM n (by omega))
end Go.Proofs.YtohlogbnpfofpaaGreatDoor
