/- Part 6 of the proof of matches_lifted: FnEx2, FnEx3, FnEx4, FnEx5, FnEx6, FnEx7, FnEx, FnQy, FnIt, FnPr. -/
import Derived.Test.YtohlogbnpfofpaaGreatDoorPX05
set_option linter.all false
set_option maxHeartbeats 100000000
set_option maxRecDepth 100000
namespace Go.Proofs.YtohlogbnpfofpaaGreatDoor
open Go StillVC
theorem aC1 (n:Nat)(hn:n<=11)(ih:nO n):∀(level:Int)(_:level=13 - ((n+1:Nat):Int))(B:Base)(bp z:Nat)(tk:Item)(w:Value)(ts:List Tok)(h:Heap)(_:Own B (PSt bp z w tk) h)(_:dC tk w ts)(_:ts.length<=5000)(_:∀ j,j<1->cJ [dV.getD j [],[40]] ts=false)(_:cJ [[112,114,111,106,101,99,116],[40]] ts=true),
  Spec Tryz.prog 118 [pv bp 0,iv level] h (dP B bp z tk ts.length (dQ z (n+1) ts) exV):=by
 intro level hlv B bp z tk w ts h o hR hl hno hb
 obtain⟨hRd,hK⟩:=hR
 have hR:dC tk w ts:=⟨hRd,hK⟩;refine eN Tryz.func118 Tryz.ntmps118 ?_;refine aDH o aQ λb10 m10 o10=>?_;refine bA λc11=>rR (aDd aE ?_);refine aI rfl ?_;refine aDH o10 aQ λb13 m13 o13=>?_;(refine sA o13 3 aQ ?_;intro m14 o14);refine cB ?_;refine fB gV ?_;refine oB o14 0 fS ?_;refine rR (aDw (o14.reads 1 hRd rfl) gW ?_);refine Br.join [19,20,21,22,23,24,25,26] [] (λ_ hh=>Own B [box bp [w,iv z] 72,tk,box b10 [iv 0,sv [],aP,aP,aP,sv [],sv [],iv 0,iv 0] 42,box b13 [iv 1,sv [],aP,aP,aP,sv [],sv [],iv 0,iv (bW ts)] 42] hh) rfl rfl ?_ ?_
 ·cases ts with
  | nil =>
   refine aDL ?_
   refine⟨rfl,?_⟩
   exact o14
  | cons t r =>
   have hx:(t::r)[0]?=some t:=rfl;have hln:(t::r).length=r.length+1:=rfl;refine bB λc30=>cB ?_;refine fB gV ?_;refine oB o14 0 fS ?_;refine rR (aDe gW bR (o14.reads 1 hRd rfl) rfl zO zO ?_);refine rR (aDf (o14.reads 1 hRd rfl) zO fU rfl rfl rfl ?_);refine rR (aDl (o14.reads 1 hRd rfl) aK (λ_=>rfl) rfl zA rfl ?_);refine fB aE ?_;(refine sA o14 3 aK ?_;intro m38 o38)
   refine⟨rfl,?_⟩
   exact o_ [0,1,2,3]
 ·intro vs junk hh oh
  refine aDN (fQ bp _) ?_;rintro _ h2 ⟨bo,pb,rfl,oc⟩;have o2:=oh.call oc
  simp only[lcA,lnA]at o2
  clear oc;refine lB eR ?_;refine aDT [6,7,30,31,32,33,34,35,36,37,38,39,40,41,42,43,44,45,46,47,48,49,50,51,52,53,54,55,56,57,58,59,60,61,62,63,64,65,66,67,68,69,70,71,72,73,74,75,76,77,78,79,80,81,82,83] [30] (λvs hh=>∃(i:Nat),i<=1/\vs=[.int .i64 i]/\Own B [box bp [w,.int .i64 z] 72,tk,box b10 [.int .i64 0,.string ⟨⟨[]⟩⟩,aP,aP,aP,.string ⟨⟨[]⟩⟩,.string ⟨⟨[]⟩⟩,.int .i64 0,.int .i64 0] 42,box b13 [.int .i64 1,.string ⟨⟨[]⟩⟩,aP,aP,aP,.string ⟨⟨[]⟩⟩,.string ⟨⟨[]⟩⟩,.int .i64 0,.int .i64 (bW ts)] 42,box pb [pv bp 0] 70,box bo (sU pb) 188] hh) (λvs _=>match vs with|[.int _ i]=>7 - i.toNat|_=>0) ?_ ?_
  ·exact⟨0,by omega,rfl,o2⟩
  ·rintro vs' junk' h3 ⟨i,hi,rfl,o3⟩
   clear o14 oh o2;have hoL:(sU pb).length=7*3:=rfl
   rcases(by omega:i=0∨i=1) with rfl|rfl
   ·refine aDK ?_
    refine rR (aDe eR aX (o3.boxArrN 5 rfl zA zO) rfl zO zO ?_);refine nB o3 5 aX ?_;refine aDH o3 aX λb1002 m1002 o1002=>?_;(refine sA o1002 6 aX ?_;intro m1003 o1003);refine fB cX ?_;refine oB o1003 6 aC ?_;refine lA o1003 aB aC λb1006 m1006 o1006=>?_;refine aDN (bZ [[115,101,108,101,99,116],[40]] _ bp w ts _ (Own.cellB zA 0 rfl 0) (Own.reads zA 1 hR.1 rfl) (Own.boxArr zA 7 rfl rfl zD) hl) ?_;rintro _ h4 ⟨rv,oc⟩;have o4:=oc.thenE zA;clear oc;have hb:cJ [[115,101,108,101,99,116],[40]] ts=false:=hno 0 zD
    rw[hb]at rv
    subst rv;refine aDK (aR ?_)
    refine⟨rfl,?_⟩
    exact⟨⟨1,by omega,rfl,o_ [0,1,2,3,4,5]⟩,by simp⟩
   ·refine aDK ?_
    refine rR (aDe eR aX (o3.boxArrN 5 rfl zA zO) rfl zO zO ?_);refine nB o3 5 aX ?_;refine aDH o3 aX λb2002 m2002 o2002=>?_;(refine sA o2002 6 aX ?_;intro m2003 o2003);refine fB cX ?_;refine oB o2003 6 aC ?_;refine lA o2003 aB aC λb2006 m2006 o2006=>?_;refine aDN (bZ [[112,114,111,106,101,99,116],[40]] _ bp w ts _ (Own.cellB zA 0 rfl 0) (Own.reads zA 1 hR.1 rfl) (Own.boxArr zA 7 rfl rfl zD) hl) ?_;rintro _ h4 ⟨rv,oc⟩;have o4:=oc.thenE zA;clear oc
    rw[hb]at rv
    subst rv;have hE:dQ z (n+1) ts=(cO z [[112,114,111,106,101,99,116],[40]] >>= λ_=>dQ z n >>= λa=>ifP (aCx 1) (cO z [[44]] >>= λ_=>dQ z n >>= λb=>pure [a,b]) [a] >>= λkids=>gZ z 1 (bW ts) kids >>= λx=>cO z [[41]] >>= λ_=>(pure x:PM Ex)) ts:=kZ (kX zD hno hb);have o5:=o4.sel [0,1,2,3,4,6] rfl
    simp only[PSt,pick,l_]at o5
    clear o3 o4;refine aDL (aR ?_);refine fB aE ?_;(refine sB o5 3 aK ?_;intro m2041 o2041);refine fB cX ?_;refine oB o2041 5 aC ?_;refine lA o2041 aB aC λb2044 m2044 o2044=>?_;refine aW (ss:=[[112,114,111,106,101,99,116],[40]]) zA rfl ⟨6,by decide,rfl⟩ hR zO zD (λ_ q1 w1 v h5 hm hv hle1 hR1 oq=>?_) (λe w' h' hm o2=>⟨e,w',hE.trans (aC9 hm),rfl,o2⟩);subst hv
    rw[aDa hm]at hE
    have o6:=oq.sel [0,1,2,3,4,5] rfl
    simp only[PSt,pick,l_]at o6
    clear oq hm;refine DrawVC.join [49,50,51,52,53,54,55,56,57,58,59] [] (λ_ hh=>∃(a1:Ex) (q2:List Tok) (w2:Value) (c1:dG) (I1:Item) (ua:Option Addr) (uc:Nat),dQ z n q1=.ok (a1,q2)/\q2.length<=q1.length/\dC tk w2 q2/\nK I1 c1.1 a1/\Own B [box bp [w2,iv z] 72,tk,I1,box b10 [iv 0,sv [],aP,aP,aP,sv [],sv [],iv 0,iv 0] 42,box b13 [iv 3,sv [],.slice ua 1 uc,aP,aP,sv [],sv [],iv 0,iv (bW ts)] 42,box pb [pv bp 0] 70,box b2002 [sv [112,114,111,106,101,99,116],.bool false,.func (.func 162) ⟨[]⟩ ⟨[pv pb 0]⟩] 188,row (.slice ua 1 uc) 42 9 1 c1.1] hh) ?_ ?_
    ·refine aDs b13 [0,2,3,4,6,9,11] [1] [8,10,12] (.one 0 (.one 1 (.one 2 (.one 3 (.one 4 (.one 6 (.fork 5 7 (.one 7 (.one 8 (.one 9 (.one 11 (.fork 10 12 (.one 12 .done) (.one 10 .done)))))) (.one 5 (.one 8 (.one 9 (.one 11 (.fork 10 12 (.one 12 .done) (.one 10 .done))))))))))))) mixed k_ rfl (λ_ _ _ _ h=>h) ?_
     refine fC aE ?_;refine StillVCA.load1 cR rfl rfl ((o6.cellB 3 rfl _).trans rfl) ?_;refine aR (aDz rfl cH ?_)
     refine⟨?_,?_⟩
     ·skip
      refine dP.callL (λB' o'=>ih (level+1) zO B' bp z tk _ _ _ o' hR1 zO) zA rfl (λa1 q2 w2 v I1 h6 hm hv hle2 hR2 oq=>?_) (λe w' h' hm o2=>⟨e,w',hE.trans (aC9 hm),rfl,o2⟩)
      obtain⟨c1,rfl,hx1⟩:=hv
      have o7:=oq
      simp only[PSt,pick,l_]at o7
      clear oq
      refine⟨Eq.trans (Own.satK o7 4 rfl) (Eq.symm (Own.satK (x:=box b13 _ _) zA 3 rfl)),?_⟩
      have one1:=fY (Own.satK o7 2 rfl) hx1;(refine aDt o7 cH aQ rfl rfl zD ?_);refine aI rfl ?_;intro b2101 m2101 o2101;refine aI ((o2101.boxBlk 4 rfl).trans (o7.boxBlk 4 rfl).symm) ?_;have on:=Own.nilRow zA 42 9
      simp only[lcA,lnA]at on
      refine aDI on 8 rfl cH aQ zD (Own.boxArrN on 7 rfl (n:=1) rfl zO) c_ (by simp only[maxLen];omega) zO ?_;intro vA mA oA
      obtain⟨ua,uc,rfl⟩:=oA.rowIs 8 rfl
      refine aDe cH aQ (oA.rowArrN 8 rfl) rfl zO zO ?_;refine fC aE ?_
      refine⟨?_,?_⟩
      ·skip
       refine aDi (i:=0) zA 8 rfl aQ rfl rfl rfl c1.2 zD zD one1 ?_;intro mB oB
       simp only[lsS,lsZ]at oB
       (refine sB oB 4 cR ?_;intro m2140 o2140)
       refine⟨rfl,?_⟩
       have ef:=cV (cs:=[iv 0,sv [],aP,aP,aP,sv [],sv [],iv 0,iv 0]) (c:=c1) rfl
       exact⟨a1,q2,w2,c1,I1,ua,uc,hm,hle2,hR2,hx1,ef▸o_ [0,1,2,3,4,5,6,8]⟩
      ·skip
       (refine sB oA 4 cR ?_;intro m2150 o2150);refine aDi (i:=0) zA 8 rfl aQ rfl rfl rfl c1.2 zD zD one1 ?_;intro mB oB
       simp only[lsS,lsZ]at oB
       refine⟨rfl,?_⟩
       have ef:=cV (cs:=[iv 0,sv [],aP,aP,aP,sv [],sv [],iv 0,iv 0]) (c:=c1) rfl
       exact⟨a1,q2,w2,c1,I1,ua,uc,hm,hle2,hR2,hx1,ef▸o_ [0,1,2,3,4,5,6,8]⟩
     ·skip
      (refine aDt o6 cH aQ rfl rfl zD ?_);refine aI rfl ?_;intro b2281 m2281 o2281;refine aI ((o2281.boxBlk 3 rfl).trans (o6.boxBlk 3 rfl).symm) ?_;refine dP.callL (λB' o'=>ih (level+1) zO B' bp z tk _ _ _ o' hR1 zO) zA rfl (λa1 q2 w2 v I1 h6 hm hv hle2 hR2 oq=>?_) (λe w' h' hm o2=>⟨e,w',hE.trans (aC9 hm),rfl,o2⟩)
      obtain⟨c1,rfl,hx1⟩:=hv
      have o7:=oq
      simp only[PSt,pick,l_]at o7
      clear oq
      refine⟨Eq.trans (Own.satK o7 4 rfl) (Eq.symm (Own.satK (x:=box b13 _ _) zA 3 rfl)),?_⟩
      have one1:=fY (Own.satK o7 2 rfl) hx1;have on:=Own.nilRow zA 42 9
      simp only[lcA,lnA]at on
      refine aDI on 8 rfl cH aQ zD (Own.boxArrN on 7 rfl (n:=1) rfl zO) c_ (by simp only[maxLen];omega) zO ?_;intro vA mA oA
      obtain⟨ua,uc,rfl⟩:=oA.rowIs 8 rfl
      refine aDe cH aQ (oA.rowArrN 8 rfl) rfl zO zO ?_;refine fC aE ?_
      refine⟨?_,?_⟩
      ·skip
       refine aDi (i:=0) zA 8 rfl aQ rfl rfl rfl c1.2 zD zD one1 ?_;intro mB oB
       simp only[lsS,lsZ]at oB
       (refine sB oB 4 cR ?_;intro m2340 o2340)
       refine⟨rfl,?_⟩
       have ef:=cV (cs:=[iv 0,sv [],aP,aP,aP,sv [],sv [],iv 0,iv 0]) (c:=c1) rfl
       exact⟨a1,q2,w2,c1,I1,ua,uc,hm,hle2,hR2,hx1,ef▸o_ [0,1,2,3,4,5,6,8]⟩
      ·skip
       (refine sB oA 4 cR ?_;intro m2350 o2350);refine aDi (i:=0) zA 8 rfl aQ rfl rfl rfl c1.2 zD zD one1 ?_;intro mB oB
       simp only[lsS,lsZ]at oB
       refine⟨rfl,?_⟩
       have ef:=cV (cs:=[iv 0,sv [],aP,aP,aP,sv [],sv [],iv 0,iv 0]) (c:=c1) rfl
       exact⟨a1,q2,w2,c1,I1,ua,uc,hm,hle2,hR2,hx1,ef▸o_ [0,1,2,3,4,5,6,8]⟩
    ·rintro _ junk2 h7 ⟨a1,q2,w2,c1,I1,ua,uc,hm,hle2,hR2,hx1,o8⟩
     rw[aDa hm]at hE
     rw[tH (by rfl),aDm]at hE
     refine fB cX ?_;refine oB o8 6 yF ?_;refine aDL (aDU ?_);refine fB cX ?_;refine oB o8 6 aAk ?_;refine mS.callL (λB' o'=>rest1_spec (bW ts) (.slice ua 1 uc) [a1] B' bp z tk b13 pb w2 q2 h7 o' hR2 zO) o8 [0,1,4,5] [2,3,7] rfl rfl (λx q3 w3 c J h8 hm3 hJ hle3 hR3 oq=>?_) (λe w' h' hm3 o2=>⟨e,w',hE.trans (aC9 hm3),rfl,o2⟩)
     rw[aDa hm3]at hE
     obtain⟨vc,vn,cs,ns,at_,as_,ag,rfl,rfl,rc,rn⟩:=hJ
     unfold zG at oq;have o9:=oq
     simp only[PSt,pick,l_]at o9
     clear oq o8
     obtain⟨xa,xb,rfl⟩:=rc.isS (Own.satK o9 4 rfl)
     obtain⟨ya,yb,rfl⟩:=rn.isS (Own.satK o9 4 rfl)
     refine lA o9 aB aC λb2520 m2520 o2520=>?_;refine aW (ss:=[[41]]) zA rfl ⟨8,by decide,rfl⟩ hR3 zO zD (λ_ q4 w4 v h9 hm4 hv hle4 hR4 oq=>?_) (λe w' h' hm o2=>⟨e,w',hE.trans (aC9 hm),rfl,o2⟩);subst hv
     rw[aDa hm4]at hE
     have o10:=oq
     simp only[PSt,pick,l_]at o10
     clear oq o9;refine nB o10 2 aQ ?_;(refine sA o10 6 aQ ?_;intro m2541 o2541)
     first|refine r1_ o2541 6 aQ ?_|refine r2_ o2541 6 aQ ?_
     have er:[c1].flatMap Subtype.val=c1.1:=by simp
     exact⟨_,q4,w4,fE (fE J I1) (row (.slice ua 1 uc) 42 9 1 c1.1),hE,⟨⟨zG 3 [] (.slice ua 1 uc) (.slice xa cs.length xb) (.slice ya ns.length yb) at_ as_ ag (bW ts),rfl⟩,rfl,by rw[nK];exact⟨_,_,_,rfl,rc.inl.inl,rn.inl.inl,[c1],by rw[er];exact eG.inr,nK.mono (λ_ (s:(fE (fE _ _) _).sat _)=>s.1.2) _ _ hx1,trivial⟩⟩,by omega,hR4,((o_ [4,5,7,0,1]).join.join).sel [1,2,0] rfl⟩
theorem expr_join (n:Nat)(hn:n<=11)(ih:nO n):∀(level:Int)(_:level=13 - ((n+1:Nat):Int))(B:Base)(bp z:Nat)(tk:Item)(w:Value)(ts:List Tok)(h:Heap)(_:Own B (PSt bp z w tk) h)(_:dC tk w ts)(_:ts.length<=5000)(_:∀ j,j<2->cJ [dV.getD j [],[40]] ts=false)(_:cJ [[106,111,105,110],[40]] ts=true),
  Spec Tryz.prog 118 [pv bp 0,iv level] h (dP B bp z tk ts.length (dQ z (n+1) ts) exV):=by
 intro level hlv B bp z tk w ts h o hR hl hno hb
 obtain⟨hRd,hK⟩:=hR
 have hR:dC tk w ts:=⟨hRd,hK⟩;refine eN Tryz.func118 Tryz.ntmps118 ?_;refine aDH o aQ λb10 m10 o10=>?_;refine bA λc11=>rR (aDd aE ?_);refine aI rfl ?_;refine aDH o10 aQ λb13 m13 o13=>?_;(refine sA o13 3 aQ ?_;intro m14 o14);refine cB ?_;refine fB gV ?_;refine oB o14 0 fS ?_;refine rR (aDw (o14.reads 1 hRd rfl) gW ?_);refine Br.join [19,20,21,22,23,24,25,26] [] (λ_ hh=>Own B [box bp [w,iv z] 72,tk,box b10 [iv 0,sv [],aP,aP,aP,sv [],sv [],iv 0,iv 0] 42,box b13 [iv 1,sv [],aP,aP,aP,sv [],sv [],iv 0,iv (bW ts)] 42] hh) rfl rfl ?_ ?_
 ·cases ts with
  | nil =>
   refine aDL ?_
   refine⟨rfl,?_⟩
   exact o14
  | cons t r =>
   have hx:(t::r)[0]?=some t:=rfl;have hln:(t::r).length=r.length+1:=rfl;refine bB λc30=>cB ?_;refine fB gV ?_;refine oB o14 0 fS ?_;refine rR (aDe gW bR (o14.reads 1 hRd rfl) rfl zO zO ?_);refine rR (aDf (o14.reads 1 hRd rfl) zO fU rfl rfl rfl ?_);refine rR (aDl (o14.reads 1 hRd rfl) aK (λ_=>rfl) rfl zA rfl ?_);refine fB aE ?_;(refine sA o14 3 aK ?_;intro m38 o38)
   refine⟨rfl,?_⟩
   exact o_ [0,1,2,3]
 ·intro vs junk hh oh
  refine aDN (fQ bp _) ?_;rintro _ h2 ⟨bo,pb,rfl,oc⟩;have o2:=oh.call oc
  simp only[lcA,lnA]at o2
  clear oc;refine lB eR ?_;refine aDT [6,7,30,31,32,33,34,35,36,37,38,39,40,41,42,43,44,45,46,47,48,49,50,51,52,53,54,55,56,57,58,59,60,61,62,63,64,65,66,67,68,69,70,71,72,73,74,75,76,77,78,79,80,81,82,83] [30] (λvs hh=>∃(i:Nat),i<=2/\vs=[.int .i64 i]/\Own B [box bp [w,.int .i64 z] 72,tk,box b10 [.int .i64 0,.string ⟨⟨[]⟩⟩,aP,aP,aP,.string ⟨⟨[]⟩⟩,.string ⟨⟨[]⟩⟩,.int .i64 0,.int .i64 0] 42,box b13 [.int .i64 1,.string ⟨⟨[]⟩⟩,aP,aP,aP,.string ⟨⟨[]⟩⟩,.string ⟨⟨[]⟩⟩,.int .i64 0,.int .i64 (bW ts)] 42,box pb [pv bp 0] 70,box bo (sU pb) 188] hh) (λvs _=>match vs with|[.int _ i]=>7 - i.toNat|_=>0) ?_ ?_
  ·exact⟨0,by omega,rfl,o2⟩
  ·rintro vs' junk' h3 ⟨i,hi,rfl,o3⟩
   clear o14 oh o2;have hoL:(sU pb).length=7*3:=rfl
   rcases(by omega:i=0∨i=1∨i=2) with rfl|rfl|rfl
   ·refine aDK ?_
    refine rR (aDe eR aX (o3.boxArrN 5 rfl zA zO) rfl zO zO ?_);refine nB o3 5 aX ?_;refine aDH o3 aX λb1002 m1002 o1002=>?_;(refine sA o1002 6 aX ?_;intro m1003 o1003);refine fB cX ?_;refine oB o1003 6 aC ?_;refine lA o1003 aB aC λb1006 m1006 o1006=>?_;refine aDN (bZ [[115,101,108,101,99,116],[40]] _ bp w ts _ (Own.cellB zA 0 rfl 0) (Own.reads zA 1 hR.1 rfl) (Own.boxArr zA 7 rfl rfl zD) hl) ?_;rintro _ h4 ⟨rv,oc⟩;have o4:=oc.thenE zA;clear oc;have hb:cJ [[115,101,108,101,99,116],[40]] ts=false:=hno 0 zD
    rw[hb]at rv
    subst rv;refine aDK (aR ?_)
    refine⟨rfl,?_⟩
    exact⟨⟨1,by omega,rfl,o_ [0,1,2,3,4,5]⟩,by simp⟩
   ·refine aDK ?_
    refine rR (aDe eR aX (o3.boxArrN 5 rfl zA zO) rfl zO zO ?_);refine nB o3 5 aX ?_;refine aDH o3 aX λb2002 m2002 o2002=>?_;(refine sA o2002 6 aX ?_;intro m2003 o2003);refine fB cX ?_;refine oB o2003 6 aC ?_;refine lA o2003 aB aC λb2006 m2006 o2006=>?_;refine aDN (bZ [[112,114,111,106,101,99,116],[40]] _ bp w ts _ (Own.cellB zA 0 rfl 0) (Own.reads zA 1 hR.1 rfl) (Own.boxArr zA 7 rfl rfl zD) hl) ?_;rintro _ h4 ⟨rv,oc⟩;have o4:=oc.thenE zA;clear oc;have hb:cJ [[112,114,111,106,101,99,116],[40]] ts=false:=hno 1 zD
    rw[hb]at rv
    subst rv;refine aDK (aR ?_)
    refine⟨rfl,?_⟩
    exact⟨⟨2,by omega,rfl,o_ [0,1,2,3,4,5]⟩,by simp⟩
   ·refine aDK ?_
    refine rR (aDe eR aX (o3.boxArrN 5 rfl zA zO) rfl zO zO ?_);refine nB o3 5 aX ?_;refine aDH o3 aX λb3002 m3002 o3002=>?_;(refine sA o3002 6 aX ?_;intro m3003 o3003);refine fB cX ?_;refine oB o3003 6 aC ?_;refine lA o3003 aB aC λb3006 m3006 o3006=>?_;refine aDN (bZ [[106,111,105,110],[40]] _ bp w ts _ (Own.cellB zA 0 rfl 0) (Own.reads zA 1 hR.1 rfl) (Own.boxArr zA 7 rfl rfl zD) hl) ?_;rintro _ h4 ⟨rv,oc⟩;have o4:=oc.thenE zA;clear oc
    rw[hb]at rv
    subst rv;have hE:dQ z (n+1) ts=(cO z [[106,111,105,110],[40]] >>= λ_=>dQ z n >>= λa=>ifP (aCx 2) (cO z [[44]] >>= λ_=>dQ z n >>= λb=>pure [a,b]) [a] >>= λkids=>gZ z 2 (bW ts) kids >>= λx=>cO z [[41]] >>= λ_=>(pure x:PM Ex)) ts:=kZ (kX zD hno hb);have o5:=o4.sel [0,1,2,3,4,6] rfl
    simp only[PSt,pick,l_]at o5
    clear o3 o4;refine aDL (aR ?_);refine fB aE ?_;(refine sB o5 3 aK ?_;intro m3041 o3041);refine fB cX ?_;refine oB o3041 5 aC ?_;refine lA o3041 aB aC λb3044 m3044 o3044=>?_;refine aW (ss:=[[106,111,105,110],[40]]) zA rfl ⟨6,by decide,rfl⟩ hR zO zD (λ_ q1 w1 v h5 hm hv hle1 hR1 oq=>?_) (λe w' h' hm o2=>⟨e,w',hE.trans (aC9 hm),rfl,o2⟩);subst hv
    rw[aDa hm]at hE
    have o6:=oq.sel [0,1,2,3,4,5] rfl
    simp only[PSt,pick,l_]at o6
    clear oq hm;refine DrawVC.join [49,50,51,52,53,54,55,56,57,58,59] [] (λ_ hh=>∃(a1:Ex) (q2:List Tok) (w2:Value) (c1:dG) (I1:Item) (ua:Option Addr) (uc:Nat),dQ z n q1=.ok (a1,q2)/\q2.length<=q1.length/\dC tk w2 q2/\nK I1 c1.1 a1/\Own B [box bp [w2,iv z] 72,tk,I1,box b10 [iv 0,sv [],aP,aP,aP,sv [],sv [],iv 0,iv 0] 42,box b13 [iv 4,sv [],.slice ua 1 uc,aP,aP,sv [],sv [],iv 0,iv (bW ts)] 42,box pb [pv bp 0] 70,box b3002 [sv [106,111,105,110],.bool true,.func (.func 160) ⟨[]⟩ ⟨[]⟩] 188,row (.slice ua 1 uc) 42 9 1 c1.1] hh) ?_ ?_
    ·refine aDs b13 [0,2,3,4,6,9,11] [1] [8,10,12] (.one 0 (.one 1 (.one 2 (.one 3 (.one 4 (.one 6 (.fork 5 7 (.one 7 (.one 8 (.one 9 (.one 11 (.fork 10 12 (.one 12 .done) (.one 10 .done)))))) (.one 5 (.one 8 (.one 9 (.one 11 (.fork 10 12 (.one 12 .done) (.one 10 .done))))))))))))) mixed k_ rfl (λ_ _ _ _ h=>h) ?_
     refine fC aE ?_;refine StillVCA.load1 cR rfl rfl ((o6.cellB 3 rfl _).trans rfl) ?_;refine aR (aDz rfl cH ?_)
     refine⟨?_,?_⟩
     ·skip
      refine dP.callL (λB' o'=>ih (level+1) zO B' bp z tk _ _ _ o' hR1 zO) zA rfl (λa1 q2 w2 v I1 h6 hm hv hle2 hR2 oq=>?_) (λe w' h' hm o2=>⟨e,w',hE.trans (aC9 hm),rfl,o2⟩)
      obtain⟨c1,rfl,hx1⟩:=hv
      have o7:=oq
      simp only[PSt,pick,l_]at o7
      clear oq
      refine⟨Eq.trans (Own.satK o7 4 rfl) (Eq.symm (Own.satK (x:=box b13 _ _) zA 3 rfl)),?_⟩
      have one1:=fY (Own.satK o7 2 rfl) hx1;(refine aDt o7 cH aQ rfl rfl zD ?_);refine aI rfl ?_;intro b3101 m3101 o3101;refine aI ((o3101.boxBlk 4 rfl).trans (o7.boxBlk 4 rfl).symm) ?_;have on:=Own.nilRow zA 42 9
      simp only[lcA,lnA]at on
      refine aDI on 8 rfl cH aQ zD (Own.boxArrN on 7 rfl (n:=1) rfl zO) c_ (by simp only[maxLen];omega) zO ?_;intro vA mA oA
      obtain⟨ua,uc,rfl⟩:=oA.rowIs 8 rfl
      refine aDe cH aQ (oA.rowArrN 8 rfl) rfl zO zO ?_;refine fC aE ?_
      refine⟨?_,?_⟩
      ·skip
       refine aDi (i:=0) zA 8 rfl aQ rfl rfl rfl c1.2 zD zD one1 ?_;intro mB oB
       simp only[lsS,lsZ]at oB
       (refine sB oB 4 cR ?_;intro m3140 o3140)
       refine⟨rfl,?_⟩
       have ef:=cV (cs:=[iv 0,sv [],aP,aP,aP,sv [],sv [],iv 0,iv 0]) (c:=c1) rfl
       exact⟨a1,q2,w2,c1,I1,ua,uc,hm,hle2,hR2,hx1,ef▸o_ [0,1,2,3,4,5,6,8]⟩
      ·skip
       (refine sB oA 4 cR ?_;intro m3150 o3150);refine aDi (i:=0) zA 8 rfl aQ rfl rfl rfl c1.2 zD zD one1 ?_;intro mB oB
       simp only[lsS,lsZ]at oB
       refine⟨rfl,?_⟩
       have ef:=cV (cs:=[iv 0,sv [],aP,aP,aP,sv [],sv [],iv 0,iv 0]) (c:=c1) rfl
       exact⟨a1,q2,w2,c1,I1,ua,uc,hm,hle2,hR2,hx1,ef▸o_ [0,1,2,3,4,5,6,8]⟩
     ·skip
      (refine aDt o6 cH aQ rfl rfl zD ?_);refine aI rfl ?_;intro b3281 m3281 o3281;refine aI ((o3281.boxBlk 3 rfl).trans (o6.boxBlk 3 rfl).symm) ?_;refine dP.callL (λB' o'=>ih (level+1) zO B' bp z tk _ _ _ o' hR1 zO) zA rfl (λa1 q2 w2 v I1 h6 hm hv hle2 hR2 oq=>?_) (λe w' h' hm o2=>⟨e,w',hE.trans (aC9 hm),rfl,o2⟩)
      obtain⟨c1,rfl,hx1⟩:=hv
      have o7:=oq
      simp only[PSt,pick,l_]at o7
      clear oq
      refine⟨Eq.trans (Own.satK o7 4 rfl) (Eq.symm (Own.satK (x:=box b13 _ _) zA 3 rfl)),?_⟩
      have one1:=fY (Own.satK o7 2 rfl) hx1;have on:=Own.nilRow zA 42 9
      simp only[lcA,lnA]at on
      refine aDI on 8 rfl cH aQ zD (Own.boxArrN on 7 rfl (n:=1) rfl zO) c_ (by simp only[maxLen];omega) zO ?_;intro vA mA oA
      obtain⟨ua,uc,rfl⟩:=oA.rowIs 8 rfl
      refine aDe cH aQ (oA.rowArrN 8 rfl) rfl zO zO ?_;refine fC aE ?_
      refine⟨?_,?_⟩
      ·skip
       refine aDi (i:=0) zA 8 rfl aQ rfl rfl rfl c1.2 zD zD one1 ?_;intro mB oB
       simp only[lsS,lsZ]at oB
       (refine sB oB 4 cR ?_;intro m3340 o3340)
       refine⟨rfl,?_⟩
       have ef:=cV (cs:=[iv 0,sv [],aP,aP,aP,sv [],sv [],iv 0,iv 0]) (c:=c1) rfl
       exact⟨a1,q2,w2,c1,I1,ua,uc,hm,hle2,hR2,hx1,ef▸o_ [0,1,2,3,4,5,6,8]⟩
      ·skip
       (refine sB oA 4 cR ?_;intro m3350 o3350);refine aDi (i:=0) zA 8 rfl aQ rfl rfl rfl c1.2 zD zD one1 ?_;intro mB oB
       simp only[lsS,lsZ]at oB
       refine⟨rfl,?_⟩
       have ef:=cV (cs:=[iv 0,sv [],aP,aP,aP,sv [],sv [],iv 0,iv 0]) (c:=c1) rfl
       exact⟨a1,q2,w2,c1,I1,ua,uc,hm,hle2,hR2,hx1,ef▸o_ [0,1,2,3,4,5,6,8]⟩
    ·rintro _ junk2 h7 ⟨a1,q2,w2,c1,I1,ua,uc,hm,hle2,hR2,hx1,o8⟩
     rw[aDa hm]at hE
     rw[pO (by rfl),aDB]at hE
     refine fB cX ?_;refine oB o8 6 yF ?_;refine aDK (lA o8 aB aC λb3502 m3502 o3502=>?_);refine aW (ss:=[[44]]) zA rfl ⟨8,by decide,rfl⟩ hR2 zO zD (λ_ q3 w3 v h8 hm3 hv hle3 hR3 oq=>?_) (λe w' h' hm o2=>⟨e,w',hE.trans (aC9 hm),rfl,o2⟩);subst hv
     rw[aDa hm3,aDB]at hE
     have o9:=oq.sel [0,1,2,3,4,5,6,7] rfl
     simp only[PSt,pick,l_]at o9
     clear oq o8 hm;refine DrawVC.join [65,66,67,68,69,70,71,72,73,74,75] [] (λ_ hh=>∃(a2:Ex) (q4:List Tok) (w4:Value) (c2:dG) (I2:Item) (ua:Option Addr) (uc:Nat),dQ z n q3=.ok (a2,q4)/\q4.length<=q3.length/\dC tk w4 q4/\nK I2 c2.1 a2/\Own B [box bp [w4,iv z] 72,tk,I2,I1,box b10 [iv 0,sv [],aP,aP,aP,sv [],sv [],iv 0,iv 0] 42,box b13 [iv 4,sv [],.slice ua 2 uc,aP,aP,sv [],sv [],iv 0,iv (bW ts)] 42,box pb [pv bp 0] 70,box b3002 [sv [106,111,105,110],.bool true,.func (.func 160) ⟨[]⟩ ⟨[]⟩] 188,row (.slice ua 2 uc) 42 9 2 (c1.1++c2.1)] hh) ?_ ?_
     ·refine aDs b13 [0,2,3,4,6,9,11] [1] [8,10,12] (.one 0 (.one 1 (.one 2 (.one 3 (.one 4 (.one 6 (.fork 5 7 (.one 7 (.one 8 (.one 9 (.one 11 (.fork 10 12 (.one 12 .done) (.one 10 .done)))))) (.one 5 (.one 8 (.one 9 (.one 11 (.fork 10 12 (.one 12 .done) (.one 10 .done))))))))))))) mixed k_ rfl (λ_ _ _ _ h=>h) ?_
      refine fC aE ?_;refine StillVCA.load1 cR rfl rfl ((o9.cellB 4 rfl _).trans rfl) ?_;refine aR (aDz rfl cH ?_)
      refine⟨?_,?_⟩
      ·skip
       refine dP.callL (λB' o'=>ih (level+1) zO B' bp z tk _ _ _ o' hR3 zO) zA rfl (λa2 q4 w4 v I2 h9 hm4 hv hle4 hR4 oq=>?_) (λe w' h' hm o2=>⟨e,w',hE.trans (aC9 hm),rfl,o2⟩)
       obtain⟨c2,rfl,hx2⟩:=hv
       have o7:=oq
       simp only[PSt,pick,l_]at o7
       clear oq
       refine⟨Eq.trans (Own.satK o7 5 rfl) (Eq.symm (Own.satK (x:=box b13 _ _) zA 4 rfl)),?_⟩
       have one2:=fY (Own.satK o7 2 rfl) hx2;(refine aDt o7 cH aQ rfl rfl zD ?_);refine aI rfl ?_;intro b3571 m3571 o3571;refine aI ((o3571.boxBlk 5 rfl).trans (o7.boxBlk 5 rfl).symm) ?_;refine aDI zA 8 rfl cH aQ zD (Own.boxArrN zA 9 rfl (n:=1) rfl zO) c_ (by simp only[maxLen];omega) zO ?_;intro vA mA oA
       obtain⟨ua,uc,rfl⟩:=oA.rowIs 8 rfl
       refine aDe cH aQ (oA.rowArrN 8 rfl) rfl zO zO ?_;refine fC aE ?_
       refine⟨?_,?_⟩
       ·skip
        refine aDi (i:=1) zA 8 rfl aQ rfl rfl rfl c2.2 zD zD one2 ?_;intro mB oB
        simp only[lsS,lsZ]at oB
        (refine sB oB 5 cR ?_;intro m3610 o3610)
        refine⟨rfl,?_⟩
        have ef:=fR (cs:=[iv 0,sv [],aP,aP,aP,sv [],sv [],iv 0,iv 0]) (c:=c1) (d:=c2) rfl
        exact⟨a2,q4,w4,c2,I2,ua,uc,hm4,hle4,hR4,hx2,ef▸o_ [0,1,2,3,4,5,6,7,8]⟩
       ·skip
        (refine sB oA 5 cR ?_;intro m3620 o3620);refine aDi (i:=1) zA 8 rfl aQ rfl rfl rfl c2.2 zD zD one2 ?_;intro mB oB
        simp only[lsS,lsZ]at oB
        refine⟨rfl,?_⟩
        have ef:=fR (cs:=[iv 0,sv [],aP,aP,aP,sv [],sv [],iv 0,iv 0]) (c:=c1) (d:=c2) rfl
        exact⟨a2,q4,w4,c2,I2,ua,uc,hm4,hle4,hR4,hx2,ef▸o_ [0,1,2,3,4,5,6,7,8]⟩
      ·skip
       (refine aDt o9 cH aQ rfl rfl zD ?_);refine aI rfl ?_;intro b3691 m3691 o3691;refine aI ((o3691.boxBlk 4 rfl).trans (o9.boxBlk 4 rfl).symm) ?_;refine dP.callL (λB' o'=>ih (level+1) zO B' bp z tk _ _ _ o' hR3 zO) zA rfl (λa2 q4 w4 v I2 h9 hm4 hv hle4 hR4 oq=>?_) (λe w' h' hm o2=>⟨e,w',hE.trans (aC9 hm),rfl,o2⟩)
       obtain⟨c2,rfl,hx2⟩:=hv
       have o7:=oq
       simp only[PSt,pick,l_]at o7
       clear oq
       refine⟨Eq.trans (Own.satK o7 5 rfl) (Eq.symm (Own.satK (x:=box b13 _ _) zA 4 rfl)),?_⟩
       have one2:=fY (Own.satK o7 2 rfl) hx2;refine aDI zA 8 rfl cH aQ zD (Own.boxArrN zA 9 rfl (n:=1) rfl zO) c_ (by simp only[maxLen];omega) zO ?_;intro vA mA oA
       obtain⟨ua,uc,rfl⟩:=oA.rowIs 8 rfl
       refine aDe cH aQ (oA.rowArrN 8 rfl) rfl zO zO ?_;refine fC aE ?_
       refine⟨?_,?_⟩
       ·skip
        refine aDi (i:=1) zA 8 rfl aQ rfl rfl rfl c2.2 zD zD one2 ?_;intro mB oB
        simp only[lsS,lsZ]at oB
        (refine sB oB 5 cR ?_;intro m3750 o3750)
        refine⟨rfl,?_⟩
        have ef:=fR (cs:=[iv 0,sv [],aP,aP,aP,sv [],sv [],iv 0,iv 0]) (c:=c1) (d:=c2) rfl
        exact⟨a2,q4,w4,c2,I2,ua,uc,hm4,hle4,hR4,hx2,ef▸o_ [0,1,2,3,4,5,6,7,8]⟩
       ·skip
        (refine sB oA 5 cR ?_;intro m3760 o3760);refine aDi (i:=1) zA 8 rfl aQ rfl rfl rfl c2.2 zD zD one2 ?_;intro mB oB
        simp only[lsS,lsZ]at oB
        refine⟨rfl,?_⟩
        have ef:=fR (cs:=[iv 0,sv [],aP,aP,aP,sv [],sv [],iv 0,iv 0]) (c:=c1) (d:=c2) rfl
        exact⟨a2,q4,w4,c2,I2,ua,uc,hm4,hle4,hR4,hx2,ef▸o_ [0,1,2,3,4,5,6,7,8]⟩
     ·rintro _ junk3 h9 ⟨a2,q4,w4,c2,I2,ua,uc,hm,hle4,hR4,hx2,o8⟩
      rw[aDa hm,aDm]at hE
      refine aDU ?_;refine fB cX ?_;refine oB o8 7 aAk ?_;refine aDN (xG b13 _) ?_;rintro _ h10 ⟨rfl,oc⟩;have o9:=oc.thenE o8;clear oc o8;have e2:gZ z 2 (bW ts) [a1,a2] q4=.ok (Ex.mk 4 [] [a1,a2] [] [] [] [] 0 (bW ts),q4):=rfl
      rw[aDa e2]at hE
      refine lA o9 aB aC λb3840 m3840 o3840=>?_;refine aW (ss:=[[41]]) zA rfl ⟨9,by decide,rfl⟩ hR4 zO zD (λ_ q5 w5 v h11 hm5 hv hle5 hR5 oq=>?_) (λe w' h' hm o2=>⟨e,w',hE.trans (aC9 hm),rfl,o2⟩);subst hv
      rw[aDa hm5]at hE
      have o10:=oq
      simp only[PSt,pick,l_]at o10
      clear oq o9;refine nB o10 5 aQ ?_;(refine sA o10 4 aQ ?_;intro m3861 o3861)
      first|refine r1_ o3861 4 aQ ?_|refine r2_ o3861 4 aQ ?_
      have er:[c1,c2].flatMap Subtype.val=c1.1++c2.1:=by simp
      exact⟨_,q5,w5,fE (fE I2 I1) (row (.slice ua 2 uc) 42 9 2 (c1.1++c2.1)),hE,⟨⟨zG 4 [] (.slice ua 2 uc) aP aP [] [] 0 (bW ts),rfl⟩,rfl,by rw[nK];exact⟨_,_,_,rfl,aT,aT,[c1,c2],by rw[er];exact eG.inr,nK.mono (λ_ (s:(fE (fE _ _) _).sat _)=>s.1.2) _ _ hx1,nK.mono (λ_ (s:(fE (fE _ _) _).sat _)=>s.1.1) _ _ hx2,trivial⟩⟩,by omega,hR5,((o_ [2,3,8,0,1]).join.join).sel [1,2,0] rfl⟩
theorem expr_union (n:Nat)(hn:n<=11)(ih:nO n):∀(level:Int)(_:level=13 - ((n+1:Nat):Int))(B:Base)(bp z:Nat)(tk:Item)(w:Value)(ts:List Tok)(h:Heap)(_:Own B (PSt bp z w tk) h)(_:dC tk w ts)(_:ts.length<=5000)(_:∀ j,j<3->cJ [dV.getD j [],[40]] ts=false)(_:cJ [[117,110,105,111,110],[40]] ts=true),
  Spec Tryz.prog 118 [pv bp 0,iv level] h (dP B bp z tk ts.length (dQ z (n+1) ts) exV):=by
 intro level hlv B bp z tk w ts h o hR hl hno hb
 obtain⟨hRd,hK⟩:=hR
 have hR:dC tk w ts:=⟨hRd,hK⟩;refine eN Tryz.func118 Tryz.ntmps118 ?_;refine aDH o aQ λb10 m10 o10=>?_;refine bA λc11=>rR (aDd aE ?_);refine aI rfl ?_;refine aDH o10 aQ λb13 m13 o13=>?_;(refine sA o13 3 aQ ?_;intro m14 o14);refine cB ?_;refine fB gV ?_;refine oB o14 0 fS ?_;refine rR (aDw (o14.reads 1 hRd rfl) gW ?_);refine Br.join [19,20,21,22,23,24,25,26] [] (λ_ hh=>Own B [box bp [w,iv z] 72,tk,box b10 [iv 0,sv [],aP,aP,aP,sv [],sv [],iv 0,iv 0] 42,box b13 [iv 1,sv [],aP,aP,aP,sv [],sv [],iv 0,iv (bW ts)] 42] hh) rfl rfl ?_ ?_
 ·cases ts with
  | nil =>
   refine aDL ?_
   refine⟨rfl,?_⟩
   exact o14
  | cons t r =>
   have hx:(t::r)[0]?=some t:=rfl;have hln:(t::r).length=r.length+1:=rfl;refine bB λc30=>cB ?_;refine fB gV ?_;refine oB o14 0 fS ?_;refine rR (aDe gW bR (o14.reads 1 hRd rfl) rfl zO zO ?_);refine rR (aDf (o14.reads 1 hRd rfl) zO fU rfl rfl rfl ?_);refine rR (aDl (o14.reads 1 hRd rfl) aK (λ_=>rfl) rfl zA rfl ?_);refine fB aE ?_;(refine sA o14 3 aK ?_;intro m38 o38)
   refine⟨rfl,?_⟩
   exact o_ [0,1,2,3]
 ·intro vs junk hh oh
  refine aDN (fQ bp _) ?_;rintro _ h2 ⟨bo,pb,rfl,oc⟩;have o2:=oh.call oc
  simp only[lcA,lnA]at o2
  clear oc;refine lB eR ?_;refine aDT [6,7,30,31,32,33,34,35,36,37,38,39,40,41,42,43,44,45,46,47,48,49,50,51,52,53,54,55,56,57,58,59,60,61,62,63,64,65,66,67,68,69,70,71,72,73,74,75,76,77,78,79,80,81,82,83] [30] (λvs hh=>∃(i:Nat),i<=3/\vs=[.int .i64 i]/\Own B [box bp [w,.int .i64 z] 72,tk,box b10 [.int .i64 0,.string ⟨⟨[]⟩⟩,aP,aP,aP,.string ⟨⟨[]⟩⟩,.string ⟨⟨[]⟩⟩,.int .i64 0,.int .i64 0] 42,box b13 [.int .i64 1,.string ⟨⟨[]⟩⟩,aP,aP,aP,.string ⟨⟨[]⟩⟩,.string ⟨⟨[]⟩⟩,.int .i64 0,.int .i64 (bW ts)] 42,box pb [pv bp 0] 70,box bo (sU pb) 188] hh) (λvs _=>match vs with|[.int _ i]=>7 - i.toNat|_=>0) ?_ ?_
  ·exact⟨0,by omega,rfl,o2⟩
  ·rintro vs' junk' h3 ⟨i,hi,rfl,o3⟩
   clear o14 oh o2;have hoL:(sU pb).length=7*3:=rfl
   rcases(by omega:i=0∨i=1∨i=2∨i=3) with rfl|rfl|rfl|rfl
   ·refine aDK ?_
    refine rR (aDe eR aX (o3.boxArrN 5 rfl zA zO) rfl zO zO ?_);refine nB o3 5 aX ?_;refine aDH o3 aX λb1002 m1002 o1002=>?_;(refine sA o1002 6 aX ?_;intro m1003 o1003);refine fB cX ?_;refine oB o1003 6 aC ?_;refine lA o1003 aB aC λb1006 m1006 o1006=>?_;refine aDN (bZ [[115,101,108,101,99,116],[40]] _ bp w ts _ (Own.cellB zA 0 rfl 0) (Own.reads zA 1 hR.1 rfl) (Own.boxArr zA 7 rfl rfl zD) hl) ?_;rintro _ h4 ⟨rv,oc⟩;have o4:=oc.thenE zA;clear oc;have hb:cJ [[115,101,108,101,99,116],[40]] ts=false:=hno 0 zD
    rw[hb]at rv
    subst rv;refine aDK (aR ?_)
    refine⟨rfl,?_⟩
    exact⟨⟨1,by omega,rfl,o_ [0,1,2,3,4,5]⟩,by simp⟩
   ·refine aDK ?_
    refine rR (aDe eR aX (o3.boxArrN 5 rfl zA zO) rfl zO zO ?_);refine nB o3 5 aX ?_;refine aDH o3 aX λb2002 m2002 o2002=>?_;(refine sA o2002 6 aX ?_;intro m2003 o2003);refine fB cX ?_;refine oB o2003 6 aC ?_;refine lA o2003 aB aC λb2006 m2006 o2006=>?_;refine aDN (bZ [[112,114,111,106,101,99,116],[40]] _ bp w ts _ (Own.cellB zA 0 rfl 0) (Own.reads zA 1 hR.1 rfl) (Own.boxArr zA 7 rfl rfl zD) hl) ?_;rintro _ h4 ⟨rv,oc⟩;have o4:=oc.thenE zA;clear oc;have hb:cJ [[112,114,111,106,101,99,116],[40]] ts=false:=hno 1 zD
    rw[hb]at rv
    subst rv;refine aDK (aR ?_)
    refine⟨rfl,?_⟩
    exact⟨⟨2,by omega,rfl,o_ [0,1,2,3,4,5]⟩,by simp⟩
   ·refine aDK ?_
    refine rR (aDe eR aX (o3.boxArrN 5 rfl zA zO) rfl zO zO ?_);refine nB o3 5 aX ?_;refine aDH o3 aX λb3002 m3002 o3002=>?_;(refine sA o3002 6 aX ?_;intro m3003 o3003);refine fB cX ?_;refine oB o3003 6 aC ?_;refine lA o3003 aB aC λb3006 m3006 o3006=>?_;refine aDN (bZ [[106,111,105,110],[40]] _ bp w ts _ (Own.cellB zA 0 rfl 0) (Own.reads zA 1 hR.1 rfl) (Own.boxArr zA 7 rfl rfl zD) hl) ?_;rintro _ h4 ⟨rv,oc⟩;have o4:=oc.thenE zA;clear oc;have hb:cJ [[106,111,105,110],[40]] ts=false:=hno 2 zD
    rw[hb]at rv
    subst rv;refine aDK (aR ?_)
    refine⟨rfl,?_⟩
    exact⟨⟨3,by omega,rfl,o_ [0,1,2,3,4,5]⟩,by simp⟩
   ·refine aDK ?_
    refine rR (aDe eR aX (o3.boxArrN 5 rfl zA zO) rfl zO zO ?_);refine nB o3 5 aX ?_;refine aDH o3 aX λb4002 m4002 o4002=>?_;(refine sA o4002 6 aX ?_;intro m4003 o4003);refine fB cX ?_;refine oB o4003 6 aC ?_;refine lA o4003 aB aC λb4006 m4006 o4006=>?_;refine aDN (bZ [[117,110,105,111,110],[40]] _ bp w ts _ (Own.cellB zA 0 rfl 0) (Own.reads zA 1 hR.1 rfl) (Own.boxArr zA 7 rfl rfl zD) hl) ?_;rintro _ h4 ⟨rv,oc⟩;have o4:=oc.thenE zA;clear oc
    rw[hb]at rv
    subst rv;have hE:dQ z (n+1) ts=(cO z [[117,110,105,111,110],[40]] >>= λ_=>dQ z n >>= λa=>ifP (aCx 3) (cO z [[44]] >>= λ_=>dQ z n >>= λb=>pure [a,b]) [a] >>= λkids=>gZ z 3 (bW ts) kids >>= λx=>cO z [[41]] >>= λ_=>(pure x:PM Ex)) ts:=kZ (kX zD hno hb);have o5:=o4.sel [0,1,2,3,4,6] rfl
    simp only[PSt,pick,l_]at o5
    clear o3 o4;refine aDL (aR ?_);refine fB aE ?_;(refine sB o5 3 aK ?_;intro m4041 o4041);refine fB cX ?_;refine oB o4041 5 aC ?_;refine lA o4041 aB aC λb4044 m4044 o4044=>?_;refine aW (ss:=[[117,110,105,111,110],[40]]) zA rfl ⟨6,by decide,rfl⟩ hR zO zD (λ_ q1 w1 v h5 hm hv hle1 hR1 oq=>?_) (λe w' h' hm o2=>⟨e,w',hE.trans (aC9 hm),rfl,o2⟩);subst hv
    rw[aDa hm]at hE
    have o6:=oq.sel [0,1,2,3,4,5] rfl
    simp only[PSt,pick,l_]at o6
    clear oq hm;refine DrawVC.join [49,50,51,52,53,54,55,56,57,58,59] [] (λ_ hh=>∃(a1:Ex) (q2:List Tok) (w2:Value) (c1:dG) (I1:Item) (ua:Option Addr) (uc:Nat),dQ z n q1=.ok (a1,q2)/\q2.length<=q1.length/\dC tk w2 q2/\nK I1 c1.1 a1/\Own B [box bp [w2,iv z] 72,tk,I1,box b10 [iv 0,sv [],aP,aP,aP,sv [],sv [],iv 0,iv 0] 42,box b13 [iv 5,sv [],.slice ua 1 uc,aP,aP,sv [],sv [],iv 0,iv (bW ts)] 42,box pb [pv bp 0] 70,box b4002 [sv [117,110,105,111,110],.bool true,.func (.func 160) ⟨[]⟩ ⟨[]⟩] 188,row (.slice ua 1 uc) 42 9 1 c1.1] hh) ?_ ?_
    ·refine aDs b13 [0,2,3,4,6,9,11] [1] [8,10,12] (.one 0 (.one 1 (.one 2 (.one 3 (.one 4 (.one 6 (.fork 5 7 (.one 7 (.one 8 (.one 9 (.one 11 (.fork 10 12 (.one 12 .done) (.one 10 .done)))))) (.one 5 (.one 8 (.one 9 (.one 11 (.fork 10 12 (.one 12 .done) (.one 10 .done))))))))))))) mixed k_ rfl (λ_ _ _ _ h=>h) ?_
     refine fC aE ?_;refine StillVCA.load1 cR rfl rfl ((o6.cellB 3 rfl _).trans rfl) ?_;refine aR (aDz rfl cH ?_)
     refine⟨?_,?_⟩
     ·skip
      refine dP.callL (λB' o'=>ih (level+1) zO B' bp z tk _ _ _ o' hR1 zO) zA rfl (λa1 q2 w2 v I1 h6 hm hv hle2 hR2 oq=>?_) (λe w' h' hm o2=>⟨e,w',hE.trans (aC9 hm),rfl,o2⟩)
      obtain⟨c1,rfl,hx1⟩:=hv
      have o7:=oq
      simp only[PSt,pick,l_]at o7
      clear oq
      refine⟨Eq.trans (Own.satK o7 4 rfl) (Eq.symm (Own.satK (x:=box b13 _ _) zA 3 rfl)),?_⟩
      have one1:=fY (Own.satK o7 2 rfl) hx1;(refine aDt o7 cH aQ rfl rfl zD ?_);refine aI rfl ?_;intro b4101 m4101 o4101;refine aI ((o4101.boxBlk 4 rfl).trans (o7.boxBlk 4 rfl).symm) ?_;have on:=Own.nilRow zA 42 9
      simp only[lcA,lnA]at on
      refine aDI on 8 rfl cH aQ zD (Own.boxArrN on 7 rfl (n:=1) rfl zO) c_ (by simp only[maxLen];omega) zO ?_;intro vA mA oA
      obtain⟨ua,uc,rfl⟩:=oA.rowIs 8 rfl
      refine aDe cH aQ (oA.rowArrN 8 rfl) rfl zO zO ?_;refine fC aE ?_
      refine⟨?_,?_⟩
      ·skip
       refine aDi (i:=0) zA 8 rfl aQ rfl rfl rfl c1.2 zD zD one1 ?_;intro mB oB
       simp only[lsS,lsZ]at oB
       (refine sB oB 4 cR ?_;intro m4140 o4140)
       refine⟨rfl,?_⟩
       have ef:=cV (cs:=[iv 0,sv [],aP,aP,aP,sv [],sv [],iv 0,iv 0]) (c:=c1) rfl
       exact⟨a1,q2,w2,c1,I1,ua,uc,hm,hle2,hR2,hx1,ef▸o_ [0,1,2,3,4,5,6,8]⟩
      ·skip
       (refine sB oA 4 cR ?_;intro m4150 o4150);refine aDi (i:=0) zA 8 rfl aQ rfl rfl rfl c1.2 zD zD one1 ?_;intro mB oB
       simp only[lsS,lsZ]at oB
       refine⟨rfl,?_⟩
       have ef:=cV (cs:=[iv 0,sv [],aP,aP,aP,sv [],sv [],iv 0,iv 0]) (c:=c1) rfl
       exact⟨a1,q2,w2,c1,I1,ua,uc,hm,hle2,hR2,hx1,ef▸o_ [0,1,2,3,4,5,6,8]⟩
     ·skip
      (refine aDt o6 cH aQ rfl rfl zD ?_);refine aI rfl ?_;intro b4281 m4281 o4281;refine aI ((o4281.boxBlk 3 rfl).trans (o6.boxBlk 3 rfl).symm) ?_;refine dP.callL (λB' o'=>ih (level+1) zO B' bp z tk _ _ _ o' hR1 zO) zA rfl (λa1 q2 w2 v I1 h6 hm hv hle2 hR2 oq=>?_) (λe w' h' hm o2=>⟨e,w',hE.trans (aC9 hm),rfl,o2⟩)
      obtain⟨c1,rfl,hx1⟩:=hv
      have o7:=oq
      simp only[PSt,pick,l_]at o7
      clear oq
      refine⟨Eq.trans (Own.satK o7 4 rfl) (Eq.symm (Own.satK (x:=box b13 _ _) zA 3 rfl)),?_⟩
      have one1:=fY (Own.satK o7 2 rfl) hx1;have on:=Own.nilRow zA 42 9
      simp only[lcA,lnA]at on
      refine aDI on 8 rfl cH aQ zD (Own.boxArrN on 7 rfl (n:=1) rfl zO) c_ (by simp only[maxLen];omega) zO ?_;intro vA mA oA
      obtain⟨ua,uc,rfl⟩:=oA.rowIs 8 rfl
      refine aDe cH aQ (oA.rowArrN 8 rfl) rfl zO zO ?_;refine fC aE ?_
      refine⟨?_,?_⟩
      ·skip
       refine aDi (i:=0) zA 8 rfl aQ rfl rfl rfl c1.2 zD zD one1 ?_;intro mB oB
       simp only[lsS,lsZ]at oB
       (refine sB oB 4 cR ?_;intro m4340 o4340)
       refine⟨rfl,?_⟩
       have ef:=cV (cs:=[iv 0,sv [],aP,aP,aP,sv [],sv [],iv 0,iv 0]) (c:=c1) rfl
       exact⟨a1,q2,w2,c1,I1,ua,uc,hm,hle2,hR2,hx1,ef▸o_ [0,1,2,3,4,5,6,8]⟩
      ·skip
       (refine sB oA 4 cR ?_;intro m4350 o4350);refine aDi (i:=0) zA 8 rfl aQ rfl rfl rfl c1.2 zD zD one1 ?_;intro mB oB
       simp only[lsS,lsZ]at oB
       refine⟨rfl,?_⟩
       have ef:=cV (cs:=[iv 0,sv [],aP,aP,aP,sv [],sv [],iv 0,iv 0]) (c:=c1) rfl
       exact⟨a1,q2,w2,c1,I1,ua,uc,hm,hle2,hR2,hx1,ef▸o_ [0,1,2,3,4,5,6,8]⟩
    ·rintro _ junk2 h7 ⟨a1,q2,w2,c1,I1,ua,uc,hm,hle2,hR2,hx1,o8⟩
     rw[aDa hm]at hE
     rw[pO (by rfl),aDB]at hE
     refine fB cX ?_;refine oB o8 6 yF ?_;refine aDK (lA o8 aB aC λb4502 m4502 o4502=>?_);refine aW (ss:=[[44]]) zA rfl ⟨8,by decide,rfl⟩ hR2 zO zD (λ_ q3 w3 v h8 hm3 hv hle3 hR3 oq=>?_) (λe w' h' hm o2=>⟨e,w',hE.trans (aC9 hm),rfl,o2⟩);subst hv
     rw[aDa hm3,aDB]at hE
     have o9:=oq.sel [0,1,2,3,4,5,6,7] rfl
     simp only[PSt,pick,l_]at o9
     clear oq o8 hm;refine DrawVC.join [65,66,67,68,69,70,71,72,73,74,75] [] (λ_ hh=>∃(a2:Ex) (q4:List Tok) (w4:Value) (c2:dG) (I2:Item) (ua:Option Addr) (uc:Nat),dQ z n q3=.ok (a2,q4)/\q4.length<=q3.length/\dC tk w4 q4/\nK I2 c2.1 a2/\Own B [box bp [w4,iv z] 72,tk,I2,I1,box b10 [iv 0,sv [],aP,aP,aP,sv [],sv [],iv 0,iv 0] 42,box b13 [iv 5,sv [],.slice ua 2 uc,aP,aP,sv [],sv [],iv 0,iv (bW ts)] 42,box pb [pv bp 0] 70,box b4002 [sv [117,110,105,111,110],.bool true,.func (.func 160) ⟨[]⟩ ⟨[]⟩] 188,row (.slice ua 2 uc) 42 9 2 (c1.1++c2.1)] hh) ?_ ?_
     ·refine aDs b13 [0,2,3,4,6,9,11] [1] [8,10,12] (.one 0 (.one 1 (.one 2 (.one 3 (.one 4 (.one 6 (.fork 5 7 (.one 7 (.one 8 (.one 9 (.one 11 (.fork 10 12 (.one 12 .done) (.one 10 .done)))))) (.one 5 (.one 8 (.one 9 (.one 11 (.fork 10 12 (.one 12 .done) (.one 10 .done))))))))))))) mixed k_ rfl (λ_ _ _ _ h=>h) ?_
      refine fC aE ?_;refine StillVCA.load1 cR rfl rfl ((o9.cellB 4 rfl _).trans rfl) ?_;refine aR (aDz rfl cH ?_)
      refine⟨?_,?_⟩
      ·skip
       refine dP.callL (λB' o'=>ih (level+1) zO B' bp z tk _ _ _ o' hR3 zO) zA rfl (λa2 q4 w4 v I2 h9 hm4 hv hle4 hR4 oq=>?_) (λe w' h' hm o2=>⟨e,w',hE.trans (aC9 hm),rfl,o2⟩)
       obtain⟨c2,rfl,hx2⟩:=hv
       have o7:=oq
       simp only[PSt,pick,l_]at o7
       clear oq
       refine⟨Eq.trans (Own.satK o7 5 rfl) (Eq.symm (Own.satK (x:=box b13 _ _) zA 4 rfl)),?_⟩
       have one2:=fY (Own.satK o7 2 rfl) hx2;(refine aDt o7 cH aQ rfl rfl zD ?_);refine aI rfl ?_;intro b4571 m4571 o4571;refine aI ((o4571.boxBlk 5 rfl).trans (o7.boxBlk 5 rfl).symm) ?_;refine aDI zA 8 rfl cH aQ zD (Own.boxArrN zA 9 rfl (n:=1) rfl zO) c_ (by simp only[maxLen];omega) zO ?_;intro vA mA oA
       obtain⟨ua,uc,rfl⟩:=oA.rowIs 8 rfl
       refine aDe cH aQ (oA.rowArrN 8 rfl) rfl zO zO ?_;refine fC aE ?_
       refine⟨?_,?_⟩
       ·skip
        refine aDi (i:=1) zA 8 rfl aQ rfl rfl rfl c2.2 zD zD one2 ?_;intro mB oB
        simp only[lsS,lsZ]at oB
        (refine sB oB 5 cR ?_;intro m4610 o4610)
        refine⟨rfl,?_⟩
        have ef:=fR (cs:=[iv 0,sv [],aP,aP,aP,sv [],sv [],iv 0,iv 0]) (c:=c1) (d:=c2) rfl
        exact⟨a2,q4,w4,c2,I2,ua,uc,hm4,hle4,hR4,hx2,ef▸o_ [0,1,2,3,4,5,6,7,8]⟩
       ·skip
        (refine sB oA 5 cR ?_;intro m4620 o4620);refine aDi (i:=1) zA 8 rfl aQ rfl rfl rfl c2.2 zD zD one2 ?_;intro mB oB
        simp only[lsS,lsZ]at oB
        refine⟨rfl,?_⟩
        have ef:=fR (cs:=[iv 0,sv [],aP,aP,aP,sv [],sv [],iv 0,iv 0]) (c:=c1) (d:=c2) rfl
        exact⟨a2,q4,w4,c2,I2,ua,uc,hm4,hle4,hR4,hx2,ef▸o_ [0,1,2,3,4,5,6,7,8]⟩
      ·skip
       (refine aDt o9 cH aQ rfl rfl zD ?_);refine aI rfl ?_;intro b4691 m4691 o4691;refine aI ((o4691.boxBlk 4 rfl).trans (o9.boxBlk 4 rfl).symm) ?_;refine dP.callL (λB' o'=>ih (level+1) zO B' bp z tk _ _ _ o' hR3 zO) zA rfl (λa2 q4 w4 v I2 h9 hm4 hv hle4 hR4 oq=>?_) (λe w' h' hm o2=>⟨e,w',hE.trans (aC9 hm),rfl,o2⟩)
       obtain⟨c2,rfl,hx2⟩:=hv
       have o7:=oq
       simp only[PSt,pick,l_]at o7
       clear oq
       refine⟨Eq.trans (Own.satK o7 5 rfl) (Eq.symm (Own.satK (x:=box b13 _ _) zA 4 rfl)),?_⟩
       have one2:=fY (Own.satK o7 2 rfl) hx2;refine aDI zA 8 rfl cH aQ zD (Own.boxArrN zA 9 rfl (n:=1) rfl zO) c_ (by simp only[maxLen];omega) zO ?_;intro vA mA oA
       obtain⟨ua,uc,rfl⟩:=oA.rowIs 8 rfl
       refine aDe cH aQ (oA.rowArrN 8 rfl) rfl zO zO ?_;refine fC aE ?_
       refine⟨?_,?_⟩
       ·skip
        refine aDi (i:=1) zA 8 rfl aQ rfl rfl rfl c2.2 zD zD one2 ?_;intro mB oB
        simp only[lsS,lsZ]at oB
        (refine sB oB 5 cR ?_;intro m4750 o4750)
        refine⟨rfl,?_⟩
        have ef:=fR (cs:=[iv 0,sv [],aP,aP,aP,sv [],sv [],iv 0,iv 0]) (c:=c1) (d:=c2) rfl
        exact⟨a2,q4,w4,c2,I2,ua,uc,hm4,hle4,hR4,hx2,ef▸o_ [0,1,2,3,4,5,6,7,8]⟩
       ·skip
        (refine sB oA 5 cR ?_;intro m4760 o4760);refine aDi (i:=1) zA 8 rfl aQ rfl rfl rfl c2.2 zD zD one2 ?_;intro mB oB
        simp only[lsS,lsZ]at oB
        refine⟨rfl,?_⟩
        have ef:=fR (cs:=[iv 0,sv [],aP,aP,aP,sv [],sv [],iv 0,iv 0]) (c:=c1) (d:=c2) rfl
        exact⟨a2,q4,w4,c2,I2,ua,uc,hm4,hle4,hR4,hx2,ef▸o_ [0,1,2,3,4,5,6,7,8]⟩
     ·rintro _ junk3 h9 ⟨a2,q4,w4,c2,I2,ua,uc,hm,hle4,hR4,hx2,o8⟩
      rw[aDa hm,aDm]at hE
      refine aDU ?_;refine fB cX ?_;refine oB o8 7 aAk ?_;refine aDN (xG b13 _) ?_;rintro _ h10 ⟨rfl,oc⟩;have o9:=oc.thenE o8;clear oc o8;have e2:gZ z 3 (bW ts) [a1,a2] q4=.ok (Ex.mk 5 [] [a1,a2] [] [] [] [] 0 (bW ts),q4):=rfl
      rw[aDa e2]at hE
      refine lA o9 aB aC λb4840 m4840 o4840=>?_;refine aW (ss:=[[41]]) zA rfl ⟨9,by decide,rfl⟩ hR4 zO zD (λ_ q5 w5 v h11 hm5 hv hle5 hR5 oq=>?_) (λe w' h' hm o2=>⟨e,w',hE.trans (aC9 hm),rfl,o2⟩);subst hv
      rw[aDa hm5]at hE
      have o10:=oq
      simp only[PSt,pick,l_]at o10
      clear oq o9;refine nB o10 5 aQ ?_;(refine sA o10 4 aQ ?_;intro m4861 o4861)
      first|refine r1_ o4861 4 aQ ?_|refine r2_ o4861 4 aQ ?_
      have er:[c1,c2].flatMap Subtype.val=c1.1++c2.1:=by simp
      exact⟨_,q5,w5,fE (fE I2 I1) (row (.slice ua 2 uc) 42 9 2 (c1.1++c2.1)),hE,⟨⟨zG 5 [] (.slice ua 2 uc) aP aP [] [] 0 (bW ts),rfl⟩,rfl,by rw[nK];exact⟨_,_,_,rfl,aT,aT,[c1,c2],by rw[er];exact eG.inr,nK.mono (λ_ (s:(fE (fE _ _) _).sat _)=>s.1.2) _ _ hx1,nK.mono (λ_ (s:(fE (fE _ _) _).sat _)=>s.1.1) _ _ hx2,trivial⟩⟩,by omega,hR5,((o_ [2,3,8,0,1]).join.join).sel [1,2,0] rfl⟩
theorem expr_minus (n:Nat)(hn:n<=11)(ih:nO n):∀(level:Int)(_:level=13 - ((n+1:Nat):Int))(B:Base)(bp z:Nat)(tk:Item)(w:Value)(ts:List Tok)(h:Heap)(_:Own B (PSt bp z w tk) h)(_:dC tk w ts)(_:ts.length<=5000)(_:∀ j,j<4->cJ [dV.getD j [],[40]] ts=false)(_:cJ [[109,105,110,117,115],[40]] ts=true),
  Spec Tryz.prog 118 [pv bp 0,iv level] h (dP B bp z tk ts.length (dQ z (n+1) ts) exV):=by
 intro level hlv B bp z tk w ts h o hR hl hno hb
 obtain⟨hRd,hK⟩:=hR
 have hR:dC tk w ts:=⟨hRd,hK⟩;refine eN Tryz.func118 Tryz.ntmps118 ?_;refine aDH o aQ λb10 m10 o10=>?_;refine bA λc11=>rR (aDd aE ?_);refine aI rfl ?_;refine aDH o10 aQ λb13 m13 o13=>?_;(refine sA o13 3 aQ ?_;intro m14 o14);refine cB ?_;refine fB gV ?_;refine oB o14 0 fS ?_;refine rR (aDw (o14.reads 1 hRd rfl) gW ?_);refine Br.join [19,20,21,22,23,24,25,26] [] (λ_ hh=>Own B [box bp [w,iv z] 72,tk,box b10 [iv 0,sv [],aP,aP,aP,sv [],sv [],iv 0,iv 0] 42,box b13 [iv 1,sv [],aP,aP,aP,sv [],sv [],iv 0,iv (bW ts)] 42] hh) rfl rfl ?_ ?_
 ·cases ts with
  | nil =>
   refine aDL ?_
   refine⟨rfl,?_⟩
   exact o14
  | cons t r =>
   have hx:(t::r)[0]?=some t:=rfl;have hln:(t::r).length=r.length+1:=rfl;refine bB λc30=>cB ?_;refine fB gV ?_;refine oB o14 0 fS ?_;refine rR (aDe gW bR (o14.reads 1 hRd rfl) rfl zO zO ?_);refine rR (aDf (o14.reads 1 hRd rfl) zO fU rfl rfl rfl ?_);refine rR (aDl (o14.reads 1 hRd rfl) aK (λ_=>rfl) rfl zA rfl ?_);refine fB aE ?_;(refine sA o14 3 aK ?_;intro m38 o38)
   refine⟨rfl,?_⟩
   exact o_ [0,1,2,3]
 ·intro vs junk hh oh
  refine aDN (fQ bp _) ?_;rintro _ h2 ⟨bo,pb,rfl,oc⟩;have o2:=oh.call oc
  simp only[lcA,lnA]at o2
  clear oc;refine lB eR ?_;refine aDT [6,7,30,31,32,33,34,35,36,37,38,39,40,41,42,43,44,45,46,47,48,49,50,51,52,53,54,55,56,57,58,59,60,61,62,63,64,65,66,67,68,69,70,71,72,73,74,75,76,77,78,79,80,81,82,83] [30] (λvs hh=>∃(i:Nat),i<=4/\vs=[.int .i64 i]/\Own B [box bp [w,.int .i64 z] 72,tk,box b10 [.int .i64 0,.string ⟨⟨[]⟩⟩,aP,aP,aP,.string ⟨⟨[]⟩⟩,.string ⟨⟨[]⟩⟩,.int .i64 0,.int .i64 0] 42,box b13 [.int .i64 1,.string ⟨⟨[]⟩⟩,aP,aP,aP,.string ⟨⟨[]⟩⟩,.string ⟨⟨[]⟩⟩,.int .i64 0,.int .i64 (bW ts)] 42,box pb [pv bp 0] 70,box bo (sU pb) 188] hh) (λvs _=>match vs with|[.int _ i]=>7 - i.toNat|_=>0) ?_ ?_
  ·exact⟨0,by omega,rfl,o2⟩
  ·rintro vs' junk' h3 ⟨i,hi,rfl,o3⟩
   clear o14 oh o2;have hoL:(sU pb).length=7*3:=rfl
   rcases(by omega:i=0∨i=1∨i=2∨i=3∨i=4) with rfl|rfl|rfl|rfl|rfl
   ·refine aDK ?_
    refine rR (aDe eR aX (o3.boxArrN 5 rfl zA zO) rfl zO zO ?_);refine nB o3 5 aX ?_;refine aDH o3 aX λb1002 m1002 o1002=>?_;(refine sA o1002 6 aX ?_;intro m1003 o1003);refine fB cX ?_;refine oB o1003 6 aC ?_;refine lA o1003 aB aC λb1006 m1006 o1006=>?_;refine aDN (bZ [[115,101,108,101,99,116],[40]] _ bp w ts _ (Own.cellB zA 0 rfl 0) (Own.reads zA 1 hR.1 rfl) (Own.boxArr zA 7 rfl rfl zD) hl) ?_;rintro _ h4 ⟨rv,oc⟩;have o4:=oc.thenE zA;clear oc;have hb:cJ [[115,101,108,101,99,116],[40]] ts=false:=hno 0 zD
    rw[hb]at rv
    subst rv;refine aDK (aR ?_)
    refine⟨rfl,?_⟩
    exact⟨⟨1,by omega,rfl,o_ [0,1,2,3,4,5]⟩,by simp⟩
   ·refine aDK ?_
    refine rR (aDe eR aX (o3.boxArrN 5 rfl zA zO) rfl zO zO ?_);refine nB o3 5 aX ?_;refine aDH o3 aX λb2002 m2002 o2002=>?_;(refine sA o2002 6 aX ?_;intro m2003 o2003);refine fB cX ?_;refine oB o2003 6 aC ?_;refine lA o2003 aB aC λb2006 m2006 o2006=>?_;refine aDN (bZ [[112,114,111,106,101,99,116],[40]] _ bp w ts _ (Own.cellB zA 0 rfl 0) (Own.reads zA 1 hR.1 rfl) (Own.boxArr zA 7 rfl rfl zD) hl) ?_;rintro _ h4 ⟨rv,oc⟩;have o4:=oc.thenE zA;clear oc;have hb:cJ [[112,114,111,106,101,99,116],[40]] ts=false:=hno 1 zD
    rw[hb]at rv
    subst rv;refine aDK (aR ?_)
    refine⟨rfl,?_⟩
    exact⟨⟨2,by omega,rfl,o_ [0,1,2,3,4,5]⟩,by simp⟩
   ·refine aDK ?_
    refine rR (aDe eR aX (o3.boxArrN 5 rfl zA zO) rfl zO zO ?_);refine nB o3 5 aX ?_;refine aDH o3 aX λb3002 m3002 o3002=>?_;(refine sA o3002 6 aX ?_;intro m3003 o3003);refine fB cX ?_;refine oB o3003 6 aC ?_;refine lA o3003 aB aC λb3006 m3006 o3006=>?_;refine aDN (bZ [[106,111,105,110],[40]] _ bp w ts _ (Own.cellB zA 0 rfl 0) (Own.reads zA 1 hR.1 rfl) (Own.boxArr zA 7 rfl rfl zD) hl) ?_;rintro _ h4 ⟨rv,oc⟩;have o4:=oc.thenE zA;clear oc;have hb:cJ [[106,111,105,110],[40]] ts=false:=hno 2 zD
    rw[hb]at rv
    subst rv;refine aDK (aR ?_)
    refine⟨rfl,?_⟩
    exact⟨⟨3,by omega,rfl,o_ [0,1,2,3,4,5]⟩,by simp⟩
   ·refine aDK ?_
    refine rR (aDe eR aX (o3.boxArrN 5 rfl zA zO) rfl zO zO ?_);refine nB o3 5 aX ?_;refine aDH o3 aX λb4002 m4002 o4002=>?_;(refine sA o4002 6 aX ?_;intro m4003 o4003);refine fB cX ?_;refine oB o4003 6 aC ?_;refine lA o4003 aB aC λb4006 m4006 o4006=>?_;refine aDN (bZ [[117,110,105,111,110],[40]] _ bp w ts _ (Own.cellB zA 0 rfl 0) (Own.reads zA 1 hR.1 rfl) (Own.boxArr zA 7 rfl rfl zD) hl) ?_;rintro _ h4 ⟨rv,oc⟩;have o4:=oc.thenE zA;clear oc;have hb:cJ [[117,110,105,111,110],[40]] ts=false:=hno 3 zD
    rw[hb]at rv
    subst rv;refine aDK (aR ?_)
    refine⟨rfl,?_⟩
    exact⟨⟨4,by omega,rfl,o_ [0,1,2,3,4,5]⟩,by simp⟩
   ·refine aDK ?_
    refine rR (aDe eR aX (o3.boxArrN 5 rfl zA zO) rfl zO zO ?_);refine nB o3 5 aX ?_;refine aDH o3 aX λb5002 m5002 o5002=>?_;(refine sA o5002 6 aX ?_;intro m5003 o5003);refine fB cX ?_;refine oB o5003 6 aC ?_;refine lA o5003 aB aC λb5006 m5006 o5006=>?_;refine aDN (bZ [[109,105,110,117,115],[40]] _ bp w ts _ (Own.cellB zA 0 rfl 0) (Own.reads zA 1 hR.1 rfl) (Own.boxArr zA 7 rfl rfl zD) hl) ?_;rintro _ h4 ⟨rv,oc⟩;have o4:=oc.thenE zA;clear oc
    rw[hb]at rv
    subst rv;have hE:dQ z (n+1) ts=(cO z [[109,105,110,117,115],[40]] >>= λ_=>dQ z n >>= λa=>ifP (aCx 4) (cO z [[44]] >>= λ_=>dQ z n >>= λb=>pure [a,b]) [a] >>= λkids=>gZ z 4 (bW ts) kids >>= λx=>cO z [[41]] >>= λ_=>(pure x:PM Ex)) ts:=kZ (kX zD hno hb);have o5:=o4.sel [0,1,2,3,4,6] rfl
    simp only[PSt,pick,l_]at o5
    clear o3 o4;refine aDL (aR ?_);refine fB aE ?_;(refine sB o5 3 aK ?_;intro m5041 o5041);refine fB cX ?_;refine oB o5041 5 aC ?_;refine lA o5041 aB aC λb5044 m5044 o5044=>?_;refine aW (ss:=[[109,105,110,117,115],[40]]) zA rfl ⟨6,by decide,rfl⟩ hR zO zD (λ_ q1 w1 v h5 hm hv hle1 hR1 oq=>?_) (λe w' h' hm o2=>⟨e,w',hE.trans (aC9 hm),rfl,o2⟩);subst hv
    rw[aDa hm]at hE
    have o6:=oq.sel [0,1,2,3,4,5] rfl
    simp only[PSt,pick,l_]at o6
    clear oq hm;refine DrawVC.join [49,50,51,52,53,54,55,56,57,58,59] [] (λ_ hh=>∃(a1:Ex) (q2:List Tok) (w2:Value) (c1:dG) (I1:Item) (ua:Option Addr) (uc:Nat),dQ z n q1=.ok (a1,q2)/\q2.length<=q1.length/\dC tk w2 q2/\nK I1 c1.1 a1/\Own B [box bp [w2,iv z] 72,tk,I1,box b10 [iv 0,sv [],aP,aP,aP,sv [],sv [],iv 0,iv 0] 42,box b13 [iv 6,sv [],.slice ua 1 uc,aP,aP,sv [],sv [],iv 0,iv (bW ts)] 42,box pb [pv bp 0] 70,box b5002 [sv [109,105,110,117,115],.bool true,.func (.func 160) ⟨[]⟩ ⟨[]⟩] 188,row (.slice ua 1 uc) 42 9 1 c1.1] hh) ?_ ?_
    ·refine aDs b13 [0,2,3,4,6,9,11] [1] [8,10,12] (.one 0 (.one 1 (.one 2 (.one 3 (.one 4 (.one 6 (.fork 5 7 (.one 7 (.one 8 (.one 9 (.one 11 (.fork 10 12 (.one 12 .done) (.one 10 .done)))))) (.one 5 (.one 8 (.one 9 (.one 11 (.fork 10 12 (.one 12 .done) (.one 10 .done))))))))))))) mixed k_ rfl (λ_ _ _ _ h=>h) ?_
     refine fC aE ?_;refine StillVCA.load1 cR rfl rfl ((o6.cellB 3 rfl _).trans rfl) ?_;refine aR (aDz rfl cH ?_)
     refine⟨?_,?_⟩
     ·skip
      refine dP.callL (λB' o'=>ih (level+1) zO B' bp z tk _ _ _ o' hR1 zO) zA rfl (λa1 q2 w2 v I1 h6 hm hv hle2 hR2 oq=>?_) (λe w' h' hm o2=>⟨e,w',hE.trans (aC9 hm),rfl,o2⟩)
      obtain⟨c1,rfl,hx1⟩:=hv
      have o7:=oq
      simp only[PSt,pick,l_]at o7
      clear oq
      refine⟨Eq.trans (Own.satK o7 4 rfl) (Eq.symm (Own.satK (x:=box b13 _ _) zA 3 rfl)),?_⟩
      have one1:=fY (Own.satK o7 2 rfl) hx1;(refine aDt o7 cH aQ rfl rfl zD ?_);refine aI rfl ?_;intro b5101 m5101 o5101;refine aI ((o5101.boxBlk 4 rfl).trans (o7.boxBlk 4 rfl).symm) ?_;have on:=Own.nilRow zA 42 9
      simp only[lcA,lnA]at on
      refine aDI on 8 rfl cH aQ zD (Own.boxArrN on 7 rfl (n:=1) rfl zO) c_ (by simp only[maxLen];omega) zO ?_;intro vA mA oA
      obtain⟨ua,uc,rfl⟩:=oA.rowIs 8 rfl
      refine aDe cH aQ (oA.rowArrN 8 rfl) rfl zO zO ?_;refine fC aE ?_
      refine⟨?_,?_⟩
      ·skip
       refine aDi (i:=0) zA 8 rfl aQ rfl rfl rfl c1.2 zD zD one1 ?_;intro mB oB
       simp only[lsS,lsZ]at oB
       (refine sB oB 4 cR ?_;intro m5140 o5140)
       refine⟨rfl,?_⟩
       have ef:=cV (cs:=[iv 0,sv [],aP,aP,aP,sv [],sv [],iv 0,iv 0]) (c:=c1) rfl
       exact⟨a1,q2,w2,c1,I1,ua,uc,hm,hle2,hR2,hx1,ef▸o_ [0,1,2,3,4,5,6,8]⟩
      ·skip
       (refine sB oA 4 cR ?_;intro m5150 o5150);refine aDi (i:=0) zA 8 rfl aQ rfl rfl rfl c1.2 zD zD one1 ?_;intro mB oB
       simp only[lsS,lsZ]at oB
       refine⟨rfl,?_⟩
       have ef:=cV (cs:=[iv 0,sv [],aP,aP,aP,sv [],sv [],iv 0,iv 0]) (c:=c1) rfl
       exact⟨a1,q2,w2,c1,I1,ua,uc,hm,hle2,hR2,hx1,ef▸o_ [0,1,2,3,4,5,6,8]⟩
     ·skip
      (refine aDt o6 cH aQ rfl rfl zD ?_);refine aI rfl ?_;intro b5281 m5281 o5281;refine aI ((o5281.boxBlk 3 rfl).trans (o6.boxBlk 3 rfl).symm) ?_;refine dP.callL (λB' o'=>ih (level+1) zO B' bp z tk _ _ _ o' hR1 zO) zA rfl (λa1 q2 w2 v I1 h6 hm hv hle2 hR2 oq=>?_) (λe w' h' hm o2=>⟨e,w',hE.trans (aC9 hm),rfl,o2⟩)
      obtain⟨c1,rfl,hx1⟩:=hv
      have o7:=oq
      simp only[PSt,pick,l_]at o7
      clear oq
      refine⟨Eq.trans (Own.satK o7 4 rfl) (Eq.symm (Own.satK (x:=box b13 _ _) zA 3 rfl)),?_⟩
      have one1:=fY (Own.satK o7 2 rfl) hx1;have on:=Own.nilRow zA 42 9
      simp only[lcA,lnA]at on
      refine aDI on 8 rfl cH aQ zD (Own.boxArrN on 7 rfl (n:=1) rfl zO) c_ (by simp only[maxLen];omega) zO ?_;intro vA mA oA
      obtain⟨ua,uc,rfl⟩:=oA.rowIs 8 rfl
      refine aDe cH aQ (oA.rowArrN 8 rfl) rfl zO zO ?_;refine fC aE ?_
      refine⟨?_,?_⟩
      ·skip
       refine aDi (i:=0) zA 8 rfl aQ rfl rfl rfl c1.2 zD zD one1 ?_;intro mB oB
       simp only[lsS,lsZ]at oB
       (refine sB oB 4 cR ?_;intro m5340 o5340)
       refine⟨rfl,?_⟩
       have ef:=cV (cs:=[iv 0,sv [],aP,aP,aP,sv [],sv [],iv 0,iv 0]) (c:=c1) rfl
       exact⟨a1,q2,w2,c1,I1,ua,uc,hm,hle2,hR2,hx1,ef▸o_ [0,1,2,3,4,5,6,8]⟩
      ·skip
       (refine sB oA 4 cR ?_;intro m5350 o5350);refine aDi (i:=0) zA 8 rfl aQ rfl rfl rfl c1.2 zD zD one1 ?_;intro mB oB
       simp only[lsS,lsZ]at oB
       refine⟨rfl,?_⟩
       have ef:=cV (cs:=[iv 0,sv [],aP,aP,aP,sv [],sv [],iv 0,iv 0]) (c:=c1) rfl
       exact⟨a1,q2,w2,c1,I1,ua,uc,hm,hle2,hR2,hx1,ef▸o_ [0,1,2,3,4,5,6,8]⟩
    ·rintro _ junk2 h7 ⟨a1,q2,w2,c1,I1,ua,uc,hm,hle2,hR2,hx1,o8⟩
     rw[aDa hm]at hE
     rw[pO (by rfl),aDB]at hE
     refine fB cX ?_;refine oB o8 6 yF ?_;refine aDK (lA o8 aB aC λb5502 m5502 o5502=>?_);refine aW (ss:=[[44]]) zA rfl ⟨8,by decide,rfl⟩ hR2 zO zD (λ_ q3 w3 v h8 hm3 hv hle3 hR3 oq=>?_) (λe w' h' hm o2=>⟨e,w',hE.trans (aC9 hm),rfl,o2⟩);subst hv
     rw[aDa hm3,aDB]at hE
     have o9:=oq.sel [0,1,2,3,4,5,6,7] rfl
     simp only[PSt,pick,l_]at o9
     clear oq o8 hm;refine DrawVC.join [65,66,67,68,69,70,71,72,73,74,75] [] (λ_ hh=>∃(a2:Ex) (q4:List Tok) (w4:Value) (c2:dG) (I2:Item) (ua:Option Addr) (uc:Nat),dQ z n q3=.ok (a2,q4)/\q4.length<=q3.length/\dC tk w4 q4/\nK I2 c2.1 a2/\Own B [box bp [w4,iv z] 72,tk,I2,I1,box b10 [iv 0,sv [],aP,aP,aP,sv [],sv [],iv 0,iv 0] 42,box b13 [iv 6,sv [],.slice ua 2 uc,aP,aP,sv [],sv [],iv 0,iv (bW ts)] 42,box pb [pv bp 0] 70,box b5002 [sv [109,105,110,117,115],.bool true,.func (.func 160) ⟨[]⟩ ⟨[]⟩] 188,row (.slice ua 2 uc) 42 9 2 (c1.1++c2.1)] hh) ?_ ?_
     ·refine aDs b13 [0,2,3,4,6,9,11] [1] [8,10,12] (.one 0 (.one 1 (.one 2 (.one 3 (.one 4 (.one 6 (.fork 5 7 (.one 7 (.one 8 (.one 9 (.one 11 (.fork 10 12 (.one 12 .done) (.one 10 .done)))))) (.one 5 (.one 8 (.one 9 (.one 11 (.fork 10 12 (.one 12 .done) (.one 10 .done))))))))))))) mixed k_ rfl (λ_ _ _ _ h=>h) ?_
      refine fC aE ?_;refine StillVCA.load1 cR rfl rfl ((o9.cellB 4 rfl _).trans rfl) ?_;refine aR (aDz rfl cH ?_)
      refine⟨?_,?_⟩
      ·skip
       refine dP.callL (λB' o'=>ih (level+1) zO B' bp z tk _ _ _ o' hR3 zO) zA rfl (λa2 q4 w4 v I2 h9 hm4 hv hle4 hR4 oq=>?_) (λe w' h' hm o2=>⟨e,w',hE.trans (aC9 hm),rfl,o2⟩)
       obtain⟨c2,rfl,hx2⟩:=hv
       have o7:=oq
       simp only[PSt,pick,l_]at o7
       clear oq
       refine⟨Eq.trans (Own.satK o7 5 rfl) (Eq.symm (Own.satK (x:=box b13 _ _) zA 4 rfl)),?_⟩
       have one2:=fY (Own.satK o7 2 rfl) hx2;(refine aDt o7 cH aQ rfl rfl zD ?_);refine aI rfl ?_;intro b5571 m5571 o5571;refine aI ((o5571.boxBlk 5 rfl).trans (o7.boxBlk 5 rfl).symm) ?_;refine aDI zA 8 rfl cH aQ zD (Own.boxArrN zA 9 rfl (n:=1) rfl zO) c_ (by simp only[maxLen];omega) zO ?_;intro vA mA oA
       obtain⟨ua,uc,rfl⟩:=oA.rowIs 8 rfl
       refine aDe cH aQ (oA.rowArrN 8 rfl) rfl zO zO ?_;refine fC aE ?_
       refine⟨?_,?_⟩
       ·skip
        refine aDi (i:=1) zA 8 rfl aQ rfl rfl rfl c2.2 zD zD one2 ?_;intro mB oB
        simp only[lsS,lsZ]at oB
        (refine sB oB 5 cR ?_;intro m5610 o5610)
        refine⟨rfl,?_⟩
        have ef:=fR (cs:=[iv 0,sv [],aP,aP,aP,sv [],sv [],iv 0,iv 0]) (c:=c1) (d:=c2) rfl
        exact⟨a2,q4,w4,c2,I2,ua,uc,hm4,hle4,hR4,hx2,ef▸o_ [0,1,2,3,4,5,6,7,8]⟩
       ·skip
        (refine sB oA 5 cR ?_;intro m5620 o5620);refine aDi (i:=1) zA 8 rfl aQ rfl rfl rfl c2.2 zD zD one2 ?_;intro mB oB
        simp only[lsS,lsZ]at oB
        refine⟨rfl,?_⟩
        have ef:=fR (cs:=[iv 0,sv [],aP,aP,aP,sv [],sv [],iv 0,iv 0]) (c:=c1) (d:=c2) rfl
        exact⟨a2,q4,w4,c2,I2,ua,uc,hm4,hle4,hR4,hx2,ef▸o_ [0,1,2,3,4,5,6,7,8]⟩
      ·skip
       (refine aDt o9 cH aQ rfl rfl zD ?_);refine aI rfl ?_;intro b5691 m5691 o5691;refine aI ((o5691.boxBlk 4 rfl).trans (o9.boxBlk 4 rfl).symm) ?_;refine dP.callL (λB' o'=>ih (level+1) zO B' bp z tk _ _ _ o' hR3 zO) zA rfl (λa2 q4 w4 v I2 h9 hm4 hv hle4 hR4 oq=>?_) (λe w' h' hm o2=>⟨e,w',hE.trans (aC9 hm),rfl,o2⟩)
       obtain⟨c2,rfl,hx2⟩:=hv
       have o7:=oq
       simp only[PSt,pick,l_]at o7
       clear oq
       refine⟨Eq.trans (Own.satK o7 5 rfl) (Eq.symm (Own.satK (x:=box b13 _ _) zA 4 rfl)),?_⟩
       have one2:=fY (Own.satK o7 2 rfl) hx2;refine aDI zA 8 rfl cH aQ zD (Own.boxArrN zA 9 rfl (n:=1) rfl zO) c_ (by simp only[maxLen];omega) zO ?_;intro vA mA oA
       obtain⟨ua,uc,rfl⟩:=oA.rowIs 8 rfl
       refine aDe cH aQ (oA.rowArrN 8 rfl) rfl zO zO ?_;refine fC aE ?_
       refine⟨?_,?_⟩
       ·skip
        refine aDi (i:=1) zA 8 rfl aQ rfl rfl rfl c2.2 zD zD one2 ?_;intro mB oB
        simp only[lsS,lsZ]at oB
        (refine sB oB 5 cR ?_;intro m5750 o5750)
        refine⟨rfl,?_⟩
        have ef:=fR (cs:=[iv 0,sv [],aP,aP,aP,sv [],sv [],iv 0,iv 0]) (c:=c1) (d:=c2) rfl
        exact⟨a2,q4,w4,c2,I2,ua,uc,hm4,hle4,hR4,hx2,ef▸o_ [0,1,2,3,4,5,6,7,8]⟩
       ·skip
        (refine sB oA 5 cR ?_;intro m5760 o5760);refine aDi (i:=1) zA 8 rfl aQ rfl rfl rfl c2.2 zD zD one2 ?_;intro mB oB
        simp only[lsS,lsZ]at oB
        refine⟨rfl,?_⟩
        have ef:=fR (cs:=[iv 0,sv [],aP,aP,aP,sv [],sv [],iv 0,iv 0]) (c:=c1) (d:=c2) rfl
        exact⟨a2,q4,w4,c2,I2,ua,uc,hm4,hle4,hR4,hx2,ef▸o_ [0,1,2,3,4,5,6,7,8]⟩
     ·rintro _ junk3 h9 ⟨a2,q4,w4,c2,I2,ua,uc,hm,hle4,hR4,hx2,o8⟩
      rw[aDa hm,aDm]at hE
      refine aDU ?_;refine fB cX ?_;refine oB o8 7 aAk ?_;refine aDN (xG b13 _) ?_;rintro _ h10 ⟨rfl,oc⟩;have o9:=oc.thenE o8;clear oc o8;have e2:gZ z 4 (bW ts) [a1,a2] q4=.ok (Ex.mk 6 [] [a1,a2] [] [] [] [] 0 (bW ts),q4):=rfl
      rw[aDa e2]at hE
      refine lA o9 aB aC λb5840 m5840 o5840=>?_;refine aW (ss:=[[41]]) zA rfl ⟨9,by decide,rfl⟩ hR4 zO zD (λ_ q5 w5 v h11 hm5 hv hle5 hR5 oq=>?_) (λe w' h' hm o2=>⟨e,w',hE.trans (aC9 hm),rfl,o2⟩);subst hv
      rw[aDa hm5]at hE
      have o10:=oq
      simp only[PSt,pick,l_]at o10
      clear oq o9;refine nB o10 5 aQ ?_;(refine sA o10 4 aQ ?_;intro m5861 o5861)
      first|refine r1_ o5861 4 aQ ?_|refine r2_ o5861 4 aQ ?_
      have er:[c1,c2].flatMap Subtype.val=c1.1++c2.1:=by simp
      exact⟨_,q5,w5,fE (fE I2 I1) (row (.slice ua 2 uc) 42 9 2 (c1.1++c2.1)),hE,⟨⟨zG 6 [] (.slice ua 2 uc) aP aP [] [] 0 (bW ts),rfl⟩,rfl,by rw[nK];exact⟨_,_,_,rfl,aT,aT,[c1,c2],by rw[er];exact eG.inr,nK.mono (λ_ (s:(fE (fE _ _) _).sat _)=>s.1.2) _ _ hx1,nK.mono (λ_ (s:(fE (fE _ _) _).sat _)=>s.1.1) _ _ hx2,trivial⟩⟩,by omega,hR5,((o_ [2,3,8,0,1]).join.join).sel [1,2,0] rfl⟩
theorem expr_rename (n:Nat)(hn:n<=11)(ih:nO n):∀(level:Int)(_:level=13 - ((n+1:Nat):Int))(B:Base)(bp z:Nat)(tk:Item)(w:Value)(ts:List Tok)(h:Heap)(_:Own B (PSt bp z w tk) h)(_:dC tk w ts)(_:ts.length<=5000)(_:∀ j,j<5->cJ [dV.getD j [],[40]] ts=false)(_:cJ [[114,101,110,97,109,101],[40]] ts=true),
  Spec Tryz.prog 118 [pv bp 0,iv level] h (dP B bp z tk ts.length (dQ z (n+1) ts) exV):=by
 intro level hlv B bp z tk w ts h o hR hl hno hb
 obtain⟨hRd,hK⟩:=hR
 have hR:dC tk w ts:=⟨hRd,hK⟩;refine eN Tryz.func118 Tryz.ntmps118 ?_;refine aDH o aQ λb10 m10 o10=>?_;refine bA λc11=>rR (aDd aE ?_);refine aI rfl ?_;refine aDH o10 aQ λb13 m13 o13=>?_;(refine sA o13 3 aQ ?_;intro m14 o14);refine cB ?_;refine fB gV ?_;refine oB o14 0 fS ?_;refine rR (aDw (o14.reads 1 hRd rfl) gW ?_);refine Br.join [19,20,21,22,23,24,25,26] [] (λ_ hh=>Own B [box bp [w,iv z] 72,tk,box b10 [iv 0,sv [],aP,aP,aP,sv [],sv [],iv 0,iv 0] 42,box b13 [iv 1,sv [],aP,aP,aP,sv [],sv [],iv 0,iv (bW ts)] 42] hh) rfl rfl ?_ ?_
 ·cases ts with
  | nil =>
   refine aDL ?_
   refine⟨rfl,?_⟩
   exact o14
  | cons t r =>
   have hx:(t::r)[0]?=some t:=rfl;have hln:(t::r).length=r.length+1:=rfl;refine bB λc30=>cB ?_;refine fB gV ?_;refine oB o14 0 fS ?_;refine rR (aDe gW bR (o14.reads 1 hRd rfl) rfl zO zO ?_);refine rR (aDf (o14.reads 1 hRd rfl) zO fU rfl rfl rfl ?_);refine rR (aDl (o14.reads 1 hRd rfl) aK (λ_=>rfl) rfl zA rfl ?_);refine fB aE ?_;(refine sA o14 3 aK ?_;intro m38 o38)
   refine⟨rfl,?_⟩
   exact o_ [0,1,2,3]
 ·intro vs junk hh oh
  refine aDN (fQ bp _) ?_;rintro _ h2 ⟨bo,pb,rfl,oc⟩;have o2:=oh.call oc
  simp only[lcA,lnA]at o2
  clear oc;refine lB eR ?_;refine aDT [6,7,30,31,32,33,34,35,36,37,38,39,40,41,42,43,44,45,46,47,48,49,50,51,52,53,54,55,56,57,58,59,60,61,62,63,64,65,66,67,68,69,70,71,72,73,74,75,76,77,78,79,80,81,82,83] [30] (λvs hh=>∃(i:Nat),i<=5/\vs=[.int .i64 i]/\Own B [box bp [w,.int .i64 z] 72,tk,box b10 [.int .i64 0,.string ⟨⟨[]⟩⟩,aP,aP,aP,.string ⟨⟨[]⟩⟩,.string ⟨⟨[]⟩⟩,.int .i64 0,.int .i64 0] 42,box b13 [.int .i64 1,.string ⟨⟨[]⟩⟩,aP,aP,aP,.string ⟨⟨[]⟩⟩,.string ⟨⟨[]⟩⟩,.int .i64 0,.int .i64 (bW ts)] 42,box pb [pv bp 0] 70,box bo (sU pb) 188] hh) (λvs _=>match vs with|[.int _ i]=>7 - i.toNat|_=>0) ?_ ?_
  ·exact⟨0,by omega,rfl,o2⟩
  ·rintro vs' junk' h3 ⟨i,hi,rfl,o3⟩
   clear o14 oh o2;have hoL:(sU pb).length=7*3:=rfl
   rcases(by omega:i=0∨i=1∨i=2∨i=3∨i=4∨i=5) with rfl|rfl|rfl|rfl|rfl|rfl
   ·refine aDK ?_
    refine rR (aDe eR aX (o3.boxArrN 5 rfl zA zO) rfl zO zO ?_);refine nB o3 5 aX ?_;refine aDH o3 aX λb1002 m1002 o1002=>?_;(refine sA o1002 6 aX ?_;intro m1003 o1003);refine fB cX ?_;refine oB o1003 6 aC ?_;refine lA o1003 aB aC λb1006 m1006 o1006=>?_;refine aDN (bZ [[115,101,108,101,99,116],[40]] _ bp w ts _ (Own.cellB zA 0 rfl 0) (Own.reads zA 1 hR.1 rfl) (Own.boxArr zA 7 rfl rfl zD) hl) ?_;rintro _ h4 ⟨rv,oc⟩;have o4:=oc.thenE zA;clear oc;have hb:cJ [[115,101,108,101,99,116],[40]] ts=false:=hno 0 zD
    rw[hb]at rv
    subst rv;refine aDK (aR ?_)
    refine⟨rfl,?_⟩
    exact⟨⟨1,by omega,rfl,o_ [0,1,2,3,4,5]⟩,by simp⟩
   ·refine aDK ?_
    refine rR (aDe eR aX (o3.boxArrN 5 rfl zA zO) rfl zO zO ?_);refine nB o3 5 aX ?_;refine aDH o3 aX λb2002 m2002 o2002=>?_;(refine sA o2002 6 aX ?_;intro m2003 o2003);refine fB cX ?_;refine oB o2003 6 aC ?_;refine lA o2003 aB aC λb2006 m2006 o2006=>?_;refine aDN (bZ [[112,114,111,106,101,99,116],[40]] _ bp w ts _ (Own.cellB zA 0 rfl 0) (Own.reads zA 1 hR.1 rfl) (Own.boxArr zA 7 rfl rfl zD) hl) ?_;rintro _ h4 ⟨rv,oc⟩;have o4:=oc.thenE zA;clear oc;have hb:cJ [[112,114,111,106,101,99,116],[40]] ts=false:=hno 1 zD
    rw[hb]at rv
    subst rv;refine aDK (aR ?_)
    refine⟨rfl,?_⟩
    exact⟨⟨2,by omega,rfl,o_ [0,1,2,3,4,5]⟩,by simp⟩
   ·refine aDK ?_
    refine rR (aDe eR aX (o3.boxArrN 5 rfl zA zO) rfl zO zO ?_);refine nB o3 5 aX ?_;refine aDH o3 aX λb3002 m3002 o3002=>?_;(refine sA o3002 6 aX ?_;intro m3003 o3003);refine fB cX ?_;refine oB o3003 6 aC ?_;refine lA o3003 aB aC λb3006 m3006 o3006=>?_;refine aDN (bZ [[106,111,105,110],[40]] _ bp w ts _ (Own.cellB zA 0 rfl 0) (Own.reads zA 1 hR.1 rfl) (Own.boxArr zA 7 rfl rfl zD) hl) ?_;rintro _ h4 ⟨rv,oc⟩;have o4:=oc.thenE zA;clear oc;have hb:cJ [[106,111,105,110],[40]] ts=false:=hno 2 zD
    rw[hb]at rv
    subst rv;refine aDK (aR ?_)
    refine⟨rfl,?_⟩
    exact⟨⟨3,by omega,rfl,o_ [0,1,2,3,4,5]⟩,by simp⟩
   ·refine aDK ?_
    refine rR (aDe eR aX (o3.boxArrN 5 rfl zA zO) rfl zO zO ?_);refine nB o3 5 aX ?_;refine aDH o3 aX λb4002 m4002 o4002=>?_;(refine sA o4002 6 aX ?_;intro m4003 o4003);refine fB cX ?_;refine oB o4003 6 aC ?_;refine lA o4003 aB aC λb4006 m4006 o4006=>?_;refine aDN (bZ [[117,110,105,111,110],[40]] _ bp w ts _ (Own.cellB zA 0 rfl 0) (Own.reads zA 1 hR.1 rfl) (Own.boxArr zA 7 rfl rfl zD) hl) ?_;rintro _ h4 ⟨rv,oc⟩;have o4:=oc.thenE zA;clear oc;have hb:cJ [[117,110,105,111,110],[40]] ts=false:=hno 3 zD
    rw[hb]at rv
    subst rv;refine aDK (aR ?_)
    refine⟨rfl,?_⟩
    exact⟨⟨4,by omega,rfl,o_ [0,1,2,3,4,5]⟩,by simp⟩
   ·refine aDK ?_
    refine rR (aDe eR aX (o3.boxArrN 5 rfl zA zO) rfl zO zO ?_);refine nB o3 5 aX ?_;refine aDH o3 aX λb5002 m5002 o5002=>?_;(refine sA o5002 6 aX ?_;intro m5003 o5003);refine fB cX ?_;refine oB o5003 6 aC ?_;refine lA o5003 aB aC λb5006 m5006 o5006=>?_;refine aDN (bZ [[109,105,110,117,115],[40]] _ bp w ts _ (Own.cellB zA 0 rfl 0) (Own.reads zA 1 hR.1 rfl) (Own.boxArr zA 7 rfl rfl zD) hl) ?_;rintro _ h4 ⟨rv,oc⟩;have o4:=oc.thenE zA;clear oc;have hb:cJ [[109,105,110,117,115],[40]] ts=false:=hno 4 zD
    rw[hb]at rv
    subst rv;refine aDK (aR ?_)
    refine⟨rfl,?_⟩
    exact⟨⟨5,by omega,rfl,o_ [0,1,2,3,4,5]⟩,by simp⟩
   ·refine aDK ?_
    refine rR (aDe eR aX (o3.boxArrN 5 rfl zA zO) rfl zO zO ?_);refine nB o3 5 aX ?_;refine aDH o3 aX λb6002 m6002 o6002=>?_;(refine sA o6002 6 aX ?_;intro m6003 o6003);refine fB cX ?_;refine oB o6003 6 aC ?_;refine lA o6003 aB aC λb6006 m6006 o6006=>?_;refine aDN (bZ [[114,101,110,97,109,101],[40]] _ bp w ts _ (Own.cellB zA 0 rfl 0) (Own.reads zA 1 hR.1 rfl) (Own.boxArr zA 7 rfl rfl zD) hl) ?_;rintro _ h4 ⟨rv,oc⟩;have o4:=oc.thenE zA;clear oc
    rw[hb]at rv
    subst rv;have hE:dQ z (n+1) ts=(cO z [[114,101,110,97,109,101],[40]] >>= λ_=>dQ z n >>= λa=>ifP (aCx 5) (cO z [[44]] >>= λ_=>dQ z n >>= λb=>pure [a,b]) [a] >>= λkids=>gZ z 5 (bW ts) kids >>= λx=>cO z [[41]] >>= λ_=>(pure x:PM Ex)) ts:=kZ (kX zD hno hb);have o5:=o4.sel [0,1,2,3,4,6] rfl
    simp only[PSt,pick,l_]at o5
    clear o3 o4;refine aDL (aR ?_);refine fB aE ?_;(refine sB o5 3 aK ?_;intro m6041 o6041);refine fB cX ?_;refine oB o6041 5 aC ?_;refine lA o6041 aB aC λb6044 m6044 o6044=>?_;refine aW (ss:=[[114,101,110,97,109,101],[40]]) zA rfl ⟨6,by decide,rfl⟩ hR zO zD (λ_ q1 w1 v h5 hm hv hle1 hR1 oq=>?_) (λe w' h' hm o2=>⟨e,w',hE.trans (aC9 hm),rfl,o2⟩);subst hv
    rw[aDa hm]at hE
    have o6:=oq.sel [0,1,2,3,4,5] rfl
    simp only[PSt,pick,l_]at o6
    clear oq hm;refine DrawVC.join [49,50,51,52,53,54,55,56,57,58,59] [] (λ_ hh=>∃(a1:Ex) (q2:List Tok) (w2:Value) (c1:dG) (I1:Item) (ua:Option Addr) (uc:Nat),dQ z n q1=.ok (a1,q2)/\q2.length<=q1.length/\dC tk w2 q2/\nK I1 c1.1 a1/\Own B [box bp [w2,iv z] 72,tk,I1,box b10 [iv 0,sv [],aP,aP,aP,sv [],sv [],iv 0,iv 0] 42,box b13 [iv 7,sv [],.slice ua 1 uc,aP,aP,sv [],sv [],iv 0,iv (bW ts)] 42,box pb [pv bp 0] 70,box b6002 [sv [114,101,110,97,109,101],.bool false,.func (.func 163) ⟨[]⟩ ⟨[pv pb 0]⟩] 188,row (.slice ua 1 uc) 42 9 1 c1.1] hh) ?_ ?_
    ·refine aDs b13 [0,2,3,4,6,9,11] [1] [8,10,12] (.one 0 (.one 1 (.one 2 (.one 3 (.one 4 (.one 6 (.fork 5 7 (.one 7 (.one 8 (.one 9 (.one 11 (.fork 10 12 (.one 12 .done) (.one 10 .done)))))) (.one 5 (.one 8 (.one 9 (.one 11 (.fork 10 12 (.one 12 .done) (.one 10 .done))))))))))))) mixed k_ rfl (λ_ _ _ _ h=>h) ?_
     refine fC aE ?_;refine StillVCA.load1 cR rfl rfl ((o6.cellB 3 rfl _).trans rfl) ?_;refine aR (aDz rfl cH ?_)
     refine⟨?_,?_⟩
     ·skip
      refine dP.callL (λB' o'=>ih (level+1) zO B' bp z tk _ _ _ o' hR1 zO) zA rfl (λa1 q2 w2 v I1 h6 hm hv hle2 hR2 oq=>?_) (λe w' h' hm o2=>⟨e,w',hE.trans (aC9 hm),rfl,o2⟩)
      obtain⟨c1,rfl,hx1⟩:=hv
      have o7:=oq
      simp only[PSt,pick,l_]at o7
      clear oq
      refine⟨Eq.trans (Own.satK o7 4 rfl) (Eq.symm (Own.satK (x:=box b13 _ _) zA 3 rfl)),?_⟩
      have one1:=fY (Own.satK o7 2 rfl) hx1;(refine aDt o7 cH aQ rfl rfl zD ?_);refine aI rfl ?_;intro b6101 m6101 o6101;refine aI ((o6101.boxBlk 4 rfl).trans (o7.boxBlk 4 rfl).symm) ?_;have on:=Own.nilRow zA 42 9
      simp only[lcA,lnA]at on
      refine aDI on 8 rfl cH aQ zD (Own.boxArrN on 7 rfl (n:=1) rfl zO) c_ (by simp only[maxLen];omega) zO ?_;intro vA mA oA
      obtain⟨ua,uc,rfl⟩:=oA.rowIs 8 rfl
      refine aDe cH aQ (oA.rowArrN 8 rfl) rfl zO zO ?_;refine fC aE ?_
      refine⟨?_,?_⟩
      ·skip
       refine aDi (i:=0) zA 8 rfl aQ rfl rfl rfl c1.2 zD zD one1 ?_;intro mB oB
       simp only[lsS,lsZ]at oB
       (refine sB oB 4 cR ?_;intro m6140 o6140)
       refine⟨rfl,?_⟩
       have ef:=cV (cs:=[iv 0,sv [],aP,aP,aP,sv [],sv [],iv 0,iv 0]) (c:=c1) rfl
       exact⟨a1,q2,w2,c1,I1,ua,uc,hm,hle2,hR2,hx1,ef▸o_ [0,1,2,3,4,5,6,8]⟩
      ·skip
       (refine sB oA 4 cR ?_;intro m6150 o6150);refine aDi (i:=0) zA 8 rfl aQ rfl rfl rfl c1.2 zD zD one1 ?_;intro mB oB
       simp only[lsS,lsZ]at oB
       refine⟨rfl,?_⟩
       have ef:=cV (cs:=[iv 0,sv [],aP,aP,aP,sv [],sv [],iv 0,iv 0]) (c:=c1) rfl
       exact⟨a1,q2,w2,c1,I1,ua,uc,hm,hle2,hR2,hx1,ef▸o_ [0,1,2,3,4,5,6,8]⟩
     ·skip
      (refine aDt o6 cH aQ rfl rfl zD ?_);refine aI rfl ?_;intro b6281 m6281 o6281;refine aI ((o6281.boxBlk 3 rfl).trans (o6.boxBlk 3 rfl).symm) ?_;refine dP.callL (λB' o'=>ih (level+1) zO B' bp z tk _ _ _ o' hR1 zO) zA rfl (λa1 q2 w2 v I1 h6 hm hv hle2 hR2 oq=>?_) (λe w' h' hm o2=>⟨e,w',hE.trans (aC9 hm),rfl,o2⟩)
      obtain⟨c1,rfl,hx1⟩:=hv
      have o7:=oq
      simp only[PSt,pick,l_]at o7
      clear oq
      refine⟨Eq.trans (Own.satK o7 4 rfl) (Eq.symm (Own.satK (x:=box b13 _ _) zA 3 rfl)),?_⟩
      have one1:=fY (Own.satK o7 2 rfl) hx1;have on:=Own.nilRow zA 42 9
      simp only[lcA,lnA]at on
      refine aDI on 8 rfl cH aQ zD (Own.boxArrN on 7 rfl (n:=1) rfl zO) c_ (by simp only[maxLen];omega) zO ?_;intro vA mA oA
      obtain⟨ua,uc,rfl⟩:=oA.rowIs 8 rfl
      refine aDe cH aQ (oA.rowArrN 8 rfl) rfl zO zO ?_;refine fC aE ?_
      refine⟨?_,?_⟩
      ·skip
       refine aDi (i:=0) zA 8 rfl aQ rfl rfl rfl c1.2 zD zD one1 ?_;intro mB oB
       simp only[lsS,lsZ]at oB
       (refine sB oB 4 cR ?_;intro m6340 o6340)
       refine⟨rfl,?_⟩
       have ef:=cV (cs:=[iv 0,sv [],aP,aP,aP,sv [],sv [],iv 0,iv 0]) (c:=c1) rfl
       exact⟨a1,q2,w2,c1,I1,ua,uc,hm,hle2,hR2,hx1,ef▸o_ [0,1,2,3,4,5,6,8]⟩
      ·skip
       (refine sB oA 4 cR ?_;intro m6350 o6350);refine aDi (i:=0) zA 8 rfl aQ rfl rfl rfl c1.2 zD zD one1 ?_;intro mB oB
       simp only[lsS,lsZ]at oB
       refine⟨rfl,?_⟩
       have ef:=cV (cs:=[iv 0,sv [],aP,aP,aP,sv [],sv [],iv 0,iv 0]) (c:=c1) rfl
       exact⟨a1,q2,w2,c1,I1,ua,uc,hm,hle2,hR2,hx1,ef▸o_ [0,1,2,3,4,5,6,8]⟩
    ·rintro _ junk2 h7 ⟨a1,q2,w2,c1,I1,ua,uc,hm,hle2,hR2,hx1,o8⟩
     rw[aDa hm]at hE
     rw[tH (by rfl),aDm]at hE
     refine fB cX ?_;refine oB o8 6 yF ?_;refine aDL (aDU ?_);refine fB cX ?_;refine oB o8 6 aAk ?_;refine mS.callL (λB' o'=>rest5_spec (bW ts) (.slice ua 1 uc) [a1] B' bp z tk b13 pb w2 q2 h7 o' hR2 zO) o8 [0,1,4,5] [2,3,7] rfl rfl (λx q3 w3 c J h8 hm3 hJ hle3 hR3 oq=>?_) (λe w' h' hm3 o2=>⟨e,w',hE.trans (aC9 hm3),rfl,o2⟩)
     rw[aDa hm3]at hE
     obtain⟨vc,vn,cs,ns,at_,as_,ag,rfl,rfl,rc,rn⟩:=hJ
     unfold zG at oq;have o9:=oq
     simp only[PSt,pick,l_]at o9
     clear oq o8
     obtain⟨xa,xb,rfl⟩:=rc.isS (Own.satK o9 4 rfl)
     obtain⟨ya,yb,rfl⟩:=rn.isS (Own.satK o9 4 rfl)
     refine lA o9 aB aC λb6520 m6520 o6520=>?_;refine aW (ss:=[[41]]) zA rfl ⟨8,by decide,rfl⟩ hR3 zO zD (λ_ q4 w4 v h9 hm4 hv hle4 hR4 oq=>?_) (λe w' h' hm o2=>⟨e,w',hE.trans (aC9 hm),rfl,o2⟩);subst hv
     rw[aDa hm4]at hE
     have o10:=oq
     simp only[PSt,pick,l_]at o10
     clear oq o9;refine nB o10 2 aQ ?_;(refine sA o10 6 aQ ?_;intro m6541 o6541)
     first|refine r1_ o6541 6 aQ ?_|refine r2_ o6541 6 aQ ?_
     have er:[c1].flatMap Subtype.val=c1.1:=by simp
     exact⟨_,q4,w4,fE (fE J I1) (row (.slice ua 1 uc) 42 9 1 c1.1),hE,⟨⟨zG 7 [] (.slice ua 1 uc) (.slice xa cs.length xb) (.slice ya ns.length yb) at_ as_ ag (bW ts),rfl⟩,rfl,by rw[nK];exact⟨_,_,_,rfl,rc.inl.inl,rn.inl.inl,[c1],by rw[er];exact eG.inr,nK.mono (λ_ (s:(fE (fE _ _) _).sat _)=>s.1.2) _ _ hx1,trivial⟩⟩,by omega,hR4,((o_ [4,5,7,0,1]).join.join).sel [1,2,0] rfl⟩
theorem expr_group (n:Nat)(hn:n<=11)(ih:nO n):∀(level:Int)(_:level=13 - ((n+1:Nat):Int))(B:Base)(bp z:Nat)(tk:Item)(w:Value)(ts:List Tok)(h:Heap)(_:Own B (PSt bp z w tk) h)(_:dC tk w ts)(_:ts.length<=5000)(_:∀ j,j<6->cJ [dV.getD j [],[40]] ts=false)(_:cJ [[103,114,111,117,112],[40]] ts=true),
  Spec Tryz.prog 118 [pv bp 0,iv level] h (dP B bp z tk ts.length (dQ z (n+1) ts) exV):=by
 intro level hlv B bp z tk w ts h o hR hl hno hb
 obtain⟨hRd,hK⟩:=hR
 have hR:dC tk w ts:=⟨hRd,hK⟩;refine eN Tryz.func118 Tryz.ntmps118 ?_;refine aDH o aQ λb10 m10 o10=>?_;refine bA λc11=>rR (aDd aE ?_);refine aI rfl ?_;refine aDH o10 aQ λb13 m13 o13=>?_;(refine sA o13 3 aQ ?_;intro m14 o14);refine cB ?_;refine fB gV ?_;refine oB o14 0 fS ?_;refine rR (aDw (o14.reads 1 hRd rfl) gW ?_);refine Br.join [19,20,21,22,23,24,25,26] [] (λ_ hh=>Own B [box bp [w,iv z] 72,tk,box b10 [iv 0,sv [],aP,aP,aP,sv [],sv [],iv 0,iv 0] 42,box b13 [iv 1,sv [],aP,aP,aP,sv [],sv [],iv 0,iv (bW ts)] 42] hh) rfl rfl ?_ ?_
 ·cases ts with
  | nil =>
   refine aDL ?_
   refine⟨rfl,?_⟩
   exact o14
  | cons t r =>
   have hx:(t::r)[0]?=some t:=rfl;have hln:(t::r).length=r.length+1:=rfl;refine bB λc30=>cB ?_;refine fB gV ?_;refine oB o14 0 fS ?_;refine rR (aDe gW bR (o14.reads 1 hRd rfl) rfl zO zO ?_);refine rR (aDf (o14.reads 1 hRd rfl) zO fU rfl rfl rfl ?_);refine rR (aDl (o14.reads 1 hRd rfl) aK (λ_=>rfl) rfl zA rfl ?_);refine fB aE ?_;(refine sA o14 3 aK ?_;intro m38 o38)
   refine⟨rfl,?_⟩
   exact o_ [0,1,2,3]
 ·intro vs junk hh oh
  refine aDN (fQ bp _) ?_;rintro _ h2 ⟨bo,pb,rfl,oc⟩;have o2:=oh.call oc
  simp only[lcA,lnA]at o2
  clear oc;refine lB eR ?_;refine aDT [6,7,30,31,32,33,34,35,36,37,38,39,40,41,42,43,44,45,46,47,48,49,50,51,52,53,54,55,56,57,58,59,60,61,62,63,64,65,66,67,68,69,70,71,72,73,74,75,76,77,78,79,80,81,82,83] [30] (λvs hh=>∃(i:Nat),i<=6/\vs=[.int .i64 i]/\Own B [box bp [w,.int .i64 z] 72,tk,box b10 [.int .i64 0,.string ⟨⟨[]⟩⟩,aP,aP,aP,.string ⟨⟨[]⟩⟩,.string ⟨⟨[]⟩⟩,.int .i64 0,.int .i64 0] 42,box b13 [.int .i64 1,.string ⟨⟨[]⟩⟩,aP,aP,aP,.string ⟨⟨[]⟩⟩,.string ⟨⟨[]⟩⟩,.int .i64 0,.int .i64 (bW ts)] 42,box pb [pv bp 0] 70,box bo (sU pb) 188] hh) (λvs _=>match vs with|[.int _ i]=>7 - i.toNat|_=>0) ?_ ?_
  ·exact⟨0,by omega,rfl,o2⟩
  ·rintro vs' junk' h3 ⟨i,hi,rfl,o3⟩
   clear o14 oh o2;have hoL:(sU pb).length=7*3:=rfl
   rcases(by omega:i=0∨i=1∨i=2∨i=3∨i=4∨i=5∨i=6) with rfl|rfl|rfl|rfl|rfl|rfl|rfl
   ·refine aDK ?_
    refine rR (aDe eR aX (o3.boxArrN 5 rfl zA zO) rfl zO zO ?_);refine nB o3 5 aX ?_;refine aDH o3 aX λb1002 m1002 o1002=>?_;(refine sA o1002 6 aX ?_;intro m1003 o1003);refine fB cX ?_;refine oB o1003 6 aC ?_;refine lA o1003 aB aC λb1006 m1006 o1006=>?_;refine aDN (bZ [[115,101,108,101,99,116],[40]] _ bp w ts _ (Own.cellB zA 0 rfl 0) (Own.reads zA 1 hR.1 rfl) (Own.boxArr zA 7 rfl rfl zD) hl) ?_;rintro _ h4 ⟨rv,oc⟩;have o4:=oc.thenE zA;clear oc;have hb:cJ [[115,101,108,101,99,116],[40]] ts=false:=hno 0 zD
    rw[hb]at rv
    subst rv;refine aDK (aR ?_)
    refine⟨rfl,?_⟩
    exact⟨⟨1,by omega,rfl,o_ [0,1,2,3,4,5]⟩,by simp⟩
   ·refine aDK ?_
    refine rR (aDe eR aX (o3.boxArrN 5 rfl zA zO) rfl zO zO ?_);refine nB o3 5 aX ?_;refine aDH o3 aX λb2002 m2002 o2002=>?_;(refine sA o2002 6 aX ?_;intro m2003 o2003);refine fB cX ?_;refine oB o2003 6 aC ?_;refine lA o2003 aB aC λb2006 m2006 o2006=>?_;refine aDN (bZ [[112,114,111,106,101,99,116],[40]] _ bp w ts _ (Own.cellB zA 0 rfl 0) (Own.reads zA 1 hR.1 rfl) (Own.boxArr zA 7 rfl rfl zD) hl) ?_;rintro _ h4 ⟨rv,oc⟩;have o4:=oc.thenE zA;clear oc;have hb:cJ [[112,114,111,106,101,99,116],[40]] ts=false:=hno 1 zD
    rw[hb]at rv
    subst rv;refine aDK (aR ?_)
    refine⟨rfl,?_⟩
    exact⟨⟨2,by omega,rfl,o_ [0,1,2,3,4,5]⟩,by simp⟩
   ·refine aDK ?_
    refine rR (aDe eR aX (o3.boxArrN 5 rfl zA zO) rfl zO zO ?_);refine nB o3 5 aX ?_;refine aDH o3 aX λb3002 m3002 o3002=>?_;(refine sA o3002 6 aX ?_;intro m3003 o3003);refine fB cX ?_;refine oB o3003 6 aC ?_;refine lA o3003 aB aC λb3006 m3006 o3006=>?_;refine aDN (bZ [[106,111,105,110],[40]] _ bp w ts _ (Own.cellB zA 0 rfl 0) (Own.reads zA 1 hR.1 rfl) (Own.boxArr zA 7 rfl rfl zD) hl) ?_;rintro _ h4 ⟨rv,oc⟩;have o4:=oc.thenE zA;clear oc;have hb:cJ [[106,111,105,110],[40]] ts=false:=hno 2 zD
    rw[hb]at rv
    subst rv;refine aDK (aR ?_)
    refine⟨rfl,?_⟩
    exact⟨⟨3,by omega,rfl,o_ [0,1,2,3,4,5]⟩,by simp⟩
   ·refine aDK ?_
    refine rR (aDe eR aX (o3.boxArrN 5 rfl zA zO) rfl zO zO ?_);refine nB o3 5 aX ?_;refine aDH o3 aX λb4002 m4002 o4002=>?_;(refine sA o4002 6 aX ?_;intro m4003 o4003);refine fB cX ?_;refine oB o4003 6 aC ?_;refine lA o4003 aB aC λb4006 m4006 o4006=>?_;refine aDN (bZ [[117,110,105,111,110],[40]] _ bp w ts _ (Own.cellB zA 0 rfl 0) (Own.reads zA 1 hR.1 rfl) (Own.boxArr zA 7 rfl rfl zD) hl) ?_;rintro _ h4 ⟨rv,oc⟩;have o4:=oc.thenE zA;clear oc;have hb:cJ [[117,110,105,111,110],[40]] ts=false:=hno 3 zD
    rw[hb]at rv
    subst rv;refine aDK (aR ?_)
    refine⟨rfl,?_⟩
    exact⟨⟨4,by omega,rfl,o_ [0,1,2,3,4,5]⟩,by simp⟩
   ·refine aDK ?_
    refine rR (aDe eR aX (o3.boxArrN 5 rfl zA zO) rfl zO zO ?_);refine nB o3 5 aX ?_;refine aDH o3 aX λb5002 m5002 o5002=>?_;(refine sA o5002 6 aX ?_;intro m5003 o5003);refine fB cX ?_;refine oB o5003 6 aC ?_;refine lA o5003 aB aC λb5006 m5006 o5006=>?_;refine aDN (bZ [[109,105,110,117,115],[40]] _ bp w ts _ (Own.cellB zA 0 rfl 0) (Own.reads zA 1 hR.1 rfl) (Own.boxArr zA 7 rfl rfl zD) hl) ?_;rintro _ h4 ⟨rv,oc⟩;have o4:=oc.thenE zA;clear oc;have hb:cJ [[109,105,110,117,115],[40]] ts=false:=hno 4 zD
    rw[hb]at rv
    subst rv;refine aDK (aR ?_)
    refine⟨rfl,?_⟩
    exact⟨⟨5,by omega,rfl,o_ [0,1,2,3,4,5]⟩,by simp⟩
   ·refine aDK ?_
    refine rR (aDe eR aX (o3.boxArrN 5 rfl zA zO) rfl zO zO ?_);refine nB o3 5 aX ?_;refine aDH o3 aX λb6002 m6002 o6002=>?_;(refine sA o6002 6 aX ?_;intro m6003 o6003);refine fB cX ?_;refine oB o6003 6 aC ?_;refine lA o6003 aB aC λb6006 m6006 o6006=>?_;refine aDN (bZ [[114,101,110,97,109,101],[40]] _ bp w ts _ (Own.cellB zA 0 rfl 0) (Own.reads zA 1 hR.1 rfl) (Own.boxArr zA 7 rfl rfl zD) hl) ?_;rintro _ h4 ⟨rv,oc⟩;have o4:=oc.thenE zA;clear oc;have hb:cJ [[114,101,110,97,109,101],[40]] ts=false:=hno 5 zD
    rw[hb]at rv
    subst rv;refine aDK (aR ?_)
    refine⟨rfl,?_⟩
    exact⟨⟨6,by omega,rfl,o_ [0,1,2,3,4,5]⟩,by simp⟩
   ·refine aDK ?_
    refine rR (aDe eR aX (o3.boxArrN 5 rfl zA zO) rfl zO zO ?_);refine nB o3 5 aX ?_;refine aDH o3 aX λb7002 m7002 o7002=>?_;(refine sA o7002 6 aX ?_;intro m7003 o7003);refine fB cX ?_;refine oB o7003 6 aC ?_;refine lA o7003 aB aC λb7006 m7006 o7006=>?_;refine aDN (bZ [[103,114,111,117,112],[40]] _ bp w ts _ (Own.cellB zA 0 rfl 0) (Own.reads zA 1 hR.1 rfl) (Own.boxArr zA 7 rfl rfl zD) hl) ?_;rintro _ h4 ⟨rv,oc⟩;have o4:=oc.thenE zA;clear oc
    rw[hb]at rv
    subst rv;have hE:dQ z (n+1) ts=(cO z [[103,114,111,117,112],[40]] >>= λ_=>dQ z n >>= λa=>ifP (aCx 6) (cO z [[44]] >>= λ_=>dQ z n >>= λb=>pure [a,b]) [a] >>= λkids=>gZ z 6 (bW ts) kids >>= λx=>cO z [[41]] >>= λ_=>(pure x:PM Ex)) ts:=kZ (kX zD hno hb);have o5:=o4.sel [0,1,2,3,4,6] rfl
    simp only[PSt,pick,l_]at o5
    clear o3 o4;refine aDL (aR ?_);refine fB aE ?_;(refine sB o5 3 aK ?_;intro m7041 o7041);refine fB cX ?_;refine oB o7041 5 aC ?_;refine lA o7041 aB aC λb7044 m7044 o7044=>?_;refine aW (ss:=[[103,114,111,117,112],[40]]) zA rfl ⟨6,by decide,rfl⟩ hR zO zD (λ_ q1 w1 v h5 hm hv hle1 hR1 oq=>?_) (λe w' h' hm o2=>⟨e,w',hE.trans (aC9 hm),rfl,o2⟩);subst hv
    rw[aDa hm]at hE
    have o6:=oq.sel [0,1,2,3,4,5] rfl
    simp only[PSt,pick,l_]at o6
    clear oq hm;refine DrawVC.join [49,50,51,52,53,54,55,56,57,58,59] [] (λ_ hh=>∃(a1:Ex) (q2:List Tok) (w2:Value) (c1:dG) (I1:Item) (ua:Option Addr) (uc:Nat),dQ z n q1=.ok (a1,q2)/\q2.length<=q1.length/\dC tk w2 q2/\nK I1 c1.1 a1/\Own B [box bp [w2,iv z] 72,tk,I1,box b10 [iv 0,sv [],aP,aP,aP,sv [],sv [],iv 0,iv 0] 42,box b13 [iv 8,sv [],.slice ua 1 uc,aP,aP,sv [],sv [],iv 0,iv (bW ts)] 42,box pb [pv bp 0] 70,box b7002 [sv [103,114,111,117,112],.bool false,.func (.func 164) ⟨[]⟩ ⟨[pv pb 0]⟩] 188,row (.slice ua 1 uc) 42 9 1 c1.1] hh) ?_ ?_
    ·refine aDs b13 [0,2,3,4,6,9,11] [1] [8,10,12] (.one 0 (.one 1 (.one 2 (.one 3 (.one 4 (.one 6 (.fork 5 7 (.one 7 (.one 8 (.one 9 (.one 11 (.fork 10 12 (.one 12 .done) (.one 10 .done)))))) (.one 5 (.one 8 (.one 9 (.one 11 (.fork 10 12 (.one 12 .done) (.one 10 .done))))))))))))) mixed k_ rfl (λ_ _ _ _ h=>h) ?_
     refine fC aE ?_;refine StillVCA.load1 cR rfl rfl ((o6.cellB 3 rfl _).trans rfl) ?_;refine aR (aDz rfl cH ?_)
     refine⟨?_,?_⟩
     ·skip
      refine dP.callL (λB' o'=>ih (level+1) zO B' bp z tk _ _ _ o' hR1 zO) zA rfl (λa1 q2 w2 v I1 h6 hm hv hle2 hR2 oq=>?_) (λe w' h' hm o2=>⟨e,w',hE.trans (aC9 hm),rfl,o2⟩)
      obtain⟨c1,rfl,hx1⟩:=hv
      have o7:=oq
      simp only[PSt,pick,l_]at o7
      clear oq
      refine⟨Eq.trans (Own.satK o7 4 rfl) (Eq.symm (Own.satK (x:=box b13 _ _) zA 3 rfl)),?_⟩
      have one1:=fY (Own.satK o7 2 rfl) hx1;(refine aDt o7 cH aQ rfl rfl zD ?_);refine aI rfl ?_;intro b7101 m7101 o7101;refine aI ((o7101.boxBlk 4 rfl).trans (o7.boxBlk 4 rfl).symm) ?_;have on:=Own.nilRow zA 42 9
      simp only[lcA,lnA]at on
      refine aDI on 8 rfl cH aQ zD (Own.boxArrN on 7 rfl (n:=1) rfl zO) c_ (by simp only[maxLen];omega) zO ?_;intro vA mA oA
      obtain⟨ua,uc,rfl⟩:=oA.rowIs 8 rfl
      refine aDe cH aQ (oA.rowArrN 8 rfl) rfl zO zO ?_;refine fC aE ?_
      refine⟨?_,?_⟩
      ·skip
       refine aDi (i:=0) zA 8 rfl aQ rfl rfl rfl c1.2 zD zD one1 ?_;intro mB oB
       simp only[lsS,lsZ]at oB
       (refine sB oB 4 cR ?_;intro m7140 o7140)
       refine⟨rfl,?_⟩
       have ef:=cV (cs:=[iv 0,sv [],aP,aP,aP,sv [],sv [],iv 0,iv 0]) (c:=c1) rfl
       exact⟨a1,q2,w2,c1,I1,ua,uc,hm,hle2,hR2,hx1,ef▸o_ [0,1,2,3,4,5,6,8]⟩
      ·skip
       (refine sB oA 4 cR ?_;intro m7150 o7150);refine aDi (i:=0) zA 8 rfl aQ rfl rfl rfl c1.2 zD zD one1 ?_;intro mB oB
       simp only[lsS,lsZ]at oB
       refine⟨rfl,?_⟩
       have ef:=cV (cs:=[iv 0,sv [],aP,aP,aP,sv [],sv [],iv 0,iv 0]) (c:=c1) rfl
       exact⟨a1,q2,w2,c1,I1,ua,uc,hm,hle2,hR2,hx1,ef▸o_ [0,1,2,3,4,5,6,8]⟩
     ·skip
      (refine aDt o6 cH aQ rfl rfl zD ?_);refine aI rfl ?_;intro b7281 m7281 o7281;refine aI ((o7281.boxBlk 3 rfl).trans (o6.boxBlk 3 rfl).symm) ?_;refine dP.callL (λB' o'=>ih (level+1) zO B' bp z tk _ _ _ o' hR1 zO) zA rfl (λa1 q2 w2 v I1 h6 hm hv hle2 hR2 oq=>?_) (λe w' h' hm o2=>⟨e,w',hE.trans (aC9 hm),rfl,o2⟩)
      obtain⟨c1,rfl,hx1⟩:=hv
      have o7:=oq
      simp only[PSt,pick,l_]at o7
      clear oq
      refine⟨Eq.trans (Own.satK o7 4 rfl) (Eq.symm (Own.satK (x:=box b13 _ _) zA 3 rfl)),?_⟩
      have one1:=fY (Own.satK o7 2 rfl) hx1;have on:=Own.nilRow zA 42 9
      simp only[lcA,lnA]at on
      refine aDI on 8 rfl cH aQ zD (Own.boxArrN on 7 rfl (n:=1) rfl zO) c_ (by simp only[maxLen];omega) zO ?_;intro vA mA oA
      obtain⟨ua,uc,rfl⟩:=oA.rowIs 8 rfl
      refine aDe cH aQ (oA.rowArrN 8 rfl) rfl zO zO ?_;refine fC aE ?_
      refine⟨?_,?_⟩
      ·skip
       refine aDi (i:=0) zA 8 rfl aQ rfl rfl rfl c1.2 zD zD one1 ?_;intro mB oB
       simp only[lsS,lsZ]at oB
       (refine sB oB 4 cR ?_;intro m7340 o7340)
       refine⟨rfl,?_⟩
       have ef:=cV (cs:=[iv 0,sv [],aP,aP,aP,sv [],sv [],iv 0,iv 0]) (c:=c1) rfl
       exact⟨a1,q2,w2,c1,I1,ua,uc,hm,hle2,hR2,hx1,ef▸o_ [0,1,2,3,4,5,6,8]⟩
      ·skip
       (refine sB oA 4 cR ?_;intro m7350 o7350);refine aDi (i:=0) zA 8 rfl aQ rfl rfl rfl c1.2 zD zD one1 ?_;intro mB oB
       simp only[lsS,lsZ]at oB
       refine⟨rfl,?_⟩
       have ef:=cV (cs:=[iv 0,sv [],aP,aP,aP,sv [],sv [],iv 0,iv 0]) (c:=c1) rfl
       exact⟨a1,q2,w2,c1,I1,ua,uc,hm,hle2,hR2,hx1,ef▸o_ [0,1,2,3,4,5,6,8]⟩
    ·rintro _ junk2 h7 ⟨a1,q2,w2,c1,I1,ua,uc,hm,hle2,hR2,hx1,o8⟩
     rw[aDa hm]at hE
     rw[tH (by rfl),aDm]at hE
     refine fB cX ?_;refine oB o8 6 yF ?_;refine aDL (aDU ?_);refine fB cX ?_;refine oB o8 6 aAk ?_;refine mS.callL (λB' o'=>rest6_spec (bW ts) (.slice ua 1 uc) [a1] B' bp z tk b13 pb w2 q2 h7 o' hR2 zO) o8 [0,1,4,5] [2,3,7] rfl rfl (λx q3 w3 c J h8 hm3 hJ hle3 hR3 oq=>?_) (λe w' h' hm3 o2=>⟨e,w',hE.trans (aC9 hm3),rfl,o2⟩)
     rw[aDa hm3]at hE
     obtain⟨vc,vn,cs,ns,at_,as_,ag,rfl,rfl,rc,rn⟩:=hJ
     unfold zG at oq;have o9:=oq
     simp only[PSt,pick,l_]at o9
     clear oq o8
     obtain⟨xa,xb,rfl⟩:=rc.isS (Own.satK o9 4 rfl)
     obtain⟨ya,yb,rfl⟩:=rn.isS (Own.satK o9 4 rfl)
     refine lA o9 aB aC λb7520 m7520 o7520=>?_;refine aW (ss:=[[41]]) zA rfl ⟨8,by decide,rfl⟩ hR3 zO zD (λ_ q4 w4 v h9 hm4 hv hle4 hR4 oq=>?_) (λe w' h' hm o2=>⟨e,w',hE.trans (aC9 hm),rfl,o2⟩);subst hv
     rw[aDa hm4]at hE
     have o10:=oq
     simp only[PSt,pick,l_]at o10
     clear oq o9;refine nB o10 2 aQ ?_;(refine sA o10 6 aQ ?_;intro m7541 o7541)
     first|refine r1_ o7541 6 aQ ?_|refine r2_ o7541 6 aQ ?_
     have er:[c1].flatMap Subtype.val=c1.1:=by simp
     exact⟨_,q4,w4,fE (fE J I1) (row (.slice ua 1 uc) 42 9 1 c1.1),hE,⟨⟨zG 8 [] (.slice ua 1 uc) (.slice xa cs.length xb) (.slice ya ns.length yb) at_ as_ ag (bW ts),rfl⟩,rfl,by rw[nK];exact⟨_,_,_,rfl,rc.inl.inl,rn.inl.inl,[c1],by rw[er];exact eG.inr,nK.mono (λ_ (s:(fE (fE _ _) _).sat _)=>s.1.2) _ _ hx1,trivial⟩⟩,by omega,hR4,((o_ [4,5,7,0,1]).join.join).sel [1,2,0] rfl⟩
theorem expr_next (n:Nat)(hn:n<=11)(ih:nO n):nO (n+1):=by
 intro level hlv B bp z tk w ts h o hR hl;cases hb0:cJ [[115,101,108,101,99,116],[40]] ts with
 | true=>exact expr_select n hn ih level hlv B bp z tk w ts h o hR hl (λj hj=>by rcases(by omega:False) with hf;exact hf.elim) hb0
 | false =>
 cases hb1:cJ [[112,114,111,106,101,99,116],[40]] ts with
 | true=>exact aC1 n hn ih level hlv B bp z tk w ts h o hR hl (λj hj=>by rcases(by omega:False∨j=0) with hf|rfl;exact hf.elim;exact hb0) hb1
 | false =>
 cases hb2:cJ [[106,111,105,110],[40]] ts with
 | true=>exact expr_join n hn ih level hlv B bp z tk w ts h o hR hl (λj hj=>by rcases(by omega:False∨j=0∨j=1) with hf|rfl|rfl;exact hf.elim;exact hb0;exact hb1) hb2
 | false =>
 cases hb3:cJ [[117,110,105,111,110],[40]] ts with
 | true=>exact expr_union n hn ih level hlv B bp z tk w ts h o hR hl (λj hj=>by rcases(by omega:False∨j=0∨j=1∨j=2) with hf|rfl|rfl|rfl;exact hf.elim;exact hb0;exact hb1;exact hb2) hb3
 | false =>
 cases hb4:cJ [[109,105,110,117,115],[40]] ts with
 | true=>exact expr_minus n hn ih level hlv B bp z tk w ts h o hR hl (λj hj=>by rcases(by omega:False∨j=0∨j=1∨j=2∨j=3) with hf|rfl|rfl|rfl|rfl;exact hf.elim;exact hb0;exact hb1;exact hb2;exact hb3) hb4
 | false =>
 cases hb5:cJ [[114,101,110,97,109,101],[40]] ts with
 | true=>exact expr_rename n hn ih level hlv B bp z tk w ts h o hR hl (λj hj=>by rcases(by omega:False∨j=0∨j=1∨j=2∨j=3∨j=4) with hf|rfl|rfl|rfl|rfl|rfl;exact hf.elim;exact hb0;exact hb1;exact hb2;exact hb3;exact hb4) hb5
 | false =>
 cases hb6:cJ [[103,114,111,117,112],[40]] ts with
 | true=>exact expr_group n hn ih level hlv B bp z tk w ts h o hR hl (λj hj=>by rcases(by omega:False∨j=0∨j=1∨j=2∨j=3∨j=4∨j=5) with hf|rfl|rfl|rfl|rfl|rfl|rfl;exact hf.elim;exact hb0;exact hb1;exact hb2;exact hb3;exact hb4;exact hb5) hb6
 | false =>
 exact expr_leaf n hn ih level hlv B bp z tk w ts h o hR hl (λj hj=>by rcases(by omega:j=0∨j=1∨j=2∨j=3∨j=4∨j=5∨j=6) with rfl|rfl|rfl|rfl|rfl|rfl|rfl;exact hb0;exact hb1;exact hb2;exact hb3;exact hb4;exact hb5;exact hb6)
theorem aCg:∀(n:Nat),n<=12->nO n
 | 0,_=>expr_zero
 | n+1,h=>expr_next n zO (aCg n zO)
theorem query_part (kd:Int)(nm:aBs)(off:Nat)(B:Base)(bp z:Nat)(tk:Item)(bx:Nat)(w:Value)(ts:List Tok)(h:Heap)(o:Own B [box bp [w,iv z] 72,tk,box bx (nX kd nm off) 44] h)(hR:dC tk w ts)(hl:ts.length<=5000) :
  Spec Tryz.prog 66 [pv bp 0,pv bx 0] h (jJ B bp z tk bx ts.length (queryP z (x0 kd nm off) ts)):=by
 have hE:=congrFun (queryP.eq_1 z (x0 kd nm off)) ts;unfold nX at o;refine eN Tryz.func66 Tryz.ntmps66 ?_;refine lA o aB aC λb10 m10 o10=>?_;refine aW (ss:=[[61]]) zA rfl ⟨3,by decide,rfl⟩ hR zO zD (λ_ q1 w1 v h1 hm hv hle1 hR1 oq=>?_) (λe w' h' hm o2=>⟨e,w',hE.trans (aC9 hm),rfl,o2⟩);subst hv
 rw[aDa hm]at hE
 have o1:=oq
 simp only[PSt,pick,l_]at o1
 clear oq hm;refine dP.callL (λB' o'=>aCg 12 (aD6 _) 1 zO B' bp z tk _ _ _ o' hR1 zO) zA rfl (λx q wq v I h' hm hv hle hR' oq=>?_) (λe w' h' hm o2=>⟨e,w',hE.trans (aC9 hm),rfl,o2⟩)
 obtain⟨⟨c,hc⟩,rfl,hx⟩:=hv
 rw[aDa hm]at hE
 have o9:=oq
 simp only[PSt,pick,l_]at o9
 clear oq hm
 obtain⟨kind,table,kids,conds,names,attr,as_,agg,eo⟩:=x
 simp only[nK]at hx
 have hx0:=hx
 obtain⟨vk,vc,vn,rfl,h2,h3,xs,h4,h5⟩:=hx
 obtain⟨a1,b1,rfl⟩:=h2.isS (Own.satK o9 2 rfl)
 obtain⟨a2,b2,rfl⟩:=h3.isS (Own.satK o9 2 rfl)
 obtain⟨a3,b3,rfl⟩:=h4.isS (Own.satK o9 2 rfl)
 unfold zG at hx0 hc;refine cB ?_;refine fB aA ?_;(refine sB o9 3 aQ ?_;intro m32 o32);refine aDS rfl ?_
 exact⟨_,q,wq,_,I,hE,rfl,⟨_,_,_,_,_,_,_,_,_,_,_,_,_,_,_,rfl,aT,aT,aT,aT,aT,aT,by simp only[nK];exact hx0⟩,by omega,hR',o_ [0,1,3,2]⟩
def lX (h:Heap):Prop:=∀ i,i<10->bI h ⟨0,i,none⟩=(strs cU)[i]?
theorem lX.ext {h h':Heap}(w:lX h)(e:Ext h h'):lX h':=λi hi=>by
 have h1:(strs cU)[i]?=some ((strs cU)[i]'(by have:(strs cU).length=10:=rfl;omega)):=by simp
 rw[h1]
 exact e.cell ((w i hi).trans h1)
theorem lX.keep {B:Base}(w:lX B.h):tQ B (.slice (some ⟨0,0,none⟩) 10 10) cU:=λL h o =>
 ⟨_,_,rfl,aD6 _,.inr ⟨_,0,rfl,λi hi=>by rw[aEg];exact(w.ext o.ext) i hi⟩⟩
theorem wN:∀(z:Nat)(ss:List aBs)(i:Int) {ts r:List Tok}{k:Int},iJ z ss i ts=.ok (k,r)->i<=k/\k<i+ss.length/\r.length<ts.length
 | z,[],i,ts,r,k,h=>by cases h
 | z,s::ss,i,ts,r,k,h=>by
  unfold iJ at h;cases hq:fP s ts with
  | error e=>exact absurd hq (dX _ _ _)
  | ok x =>
   obtain⟨b,q⟩:=x
   rw[aDa hq]at h
   cases b with
   | true =>
    cases h
    have:=pZ hq
    simp only[aD1]
    omega
   | false =>
    have:=jO hq
    subst this
    have:=wN z ss (i+1) h
    simp only[aD1]
    omega
def partF (k:Int):FuncId :=
 if k=1 then 57 else if k=2 then 58 else if k=3 then 59 else if k=4 then 60 else if k=5 then 61
 else if k=6 then 62 else if k=7 then 63 else if k=8 then 64 else if k=9 then 65 else 66
theorem part_spec (k:Int)(h1:1<=k)(h2:k<11)(kd:Int)(nm:aBs)(off:Nat)(B:Base)(bp z:Nat)(tk:Item)(bx:Nat)(w:Value)(ts:List Tok)(h:Heap)(o:Own B [box bp [w,iv z] 72,tk,box bx (nX kd nm off) 44] h)(hR:dC tk w ts)(hl:ts.length<=5000) :
  Spec Tryz.prog (partF k) [pv bp 0,pv bx 0] h (jJ B bp z tk bx ts.length (uI z k (x0 kd nm off) ts)):=by
 rcases(by omega:k=1∨k=2∨k=3∨k=4∨k=5∨k=6∨k=7∨k=8∨k=9∨k=10) with rfl|rfl|rfl|rfl|rfl|rfl|rfl|rfl|rfl|rfl
 ·exact table_part kd nm off B bp z tk bx w ts h o hR hl
 ·exact source_part kd nm off B bp z tk bx w ts h o hR hl
 ·exact block_part kd nm off B bp z tk bx w ts h o hR hl
 ·exact match_part kd nm off B bp z tk bx w ts h o hR hl
 ·exact keep_part kd nm off B bp z tk bx w ts h o hR hl
 ·exact yE kd nm off B bp z tk bx w ts h o hR hl
 ·exact depend_part kd nm off B bp z tk bx w ts h o hR hl
 ·exact aCU kd nm off B bp z tk bx w ts h o hR hl
 ·exact deny_part kd nm off B bp z tk bx w ts h o hR hl
 ·exact query_part kd nm off B bp z tk bx w ts h o hR hl
def mfn (bp g:Nat):Value:=.func (.func g) ⟨[pv bp 0]⟩ ⟨[]⟩
def partsM (bp:Nat):List MapEntry:=[⟨iv 1,mfn bp 57,0⟩,⟨iv 2,mfn bp 58,1⟩,⟨iv 3,mfn bp 59,2⟩,
 ⟨iv 4,mfn bp 60,3⟩,⟨iv 5,mfn bp 61,4⟩,⟨iv 6,mfn bp 62,5⟩,⟨iv 7,mfn bp 63,6⟩,
 ⟨iv 8,mfn bp 64,7⟩,⟨iv 9,mfn bp 65,8⟩,⟨iv 10,mfn bp 66,9⟩]
theorem partsM_find (bp:Nat)(k:Int)(h1:1<=k)(h2:k<11):∃ i,Instr.findNow (.int .i64) (iv k) (partsM bp) 0=some (some (i,mfn bp (partF k))):=by
 rcases(by omega:k=1∨k=2∨k=3∨k=4∨k=5∨k=6∨k=7∨k=8∨k=9∨k=10) with rfl|rfl|rfl|rfl|rfl|rfl|rfl|rfl|rfl|rfl
 all_goals exact⟨_,rfl⟩
def itV (x:It)(v:Value)(I:Item):Prop:=∃ c,v=.agg ⟨c⟩/\itR I c x
theorem itemP_eq (z:Nat)(t:Tok)(r:List Tok):pN z (t::r)=(iJ z cU 1 >>= λk=>ifP (k != 5) (gB z) [] >>= λnm=>uI z k (x0 k nm t.off) >>= λx=>(if k=4 then cO z [[125]] else cO z [[59]]) >>= λ_=>(pure x:PM It)) (t::r):=by
 refine congrFun (congrArg (λf=>iJ z cU 1 >>= f) (funext λk=>congrArg (λf=>ifP (k != 5) (gB z) [] >>= f) (funext λnm=>congrArg (λf=>uI z k (x0 k nm t.off) >>= f) (funext λx=>?_)))) _;by_cases hk:k=4
 ·simp only[if_pos hk]
 ·simp only[if_neg hk]
theorem pwordK_call {ss:List aBs}{vs:Value}{s:aVs}{h:Heap}{K:KK}{Q:QQ}{B:Base}{L:List Item}{bp z:Nat}{tk:Item}{w:Value}{ts:List Tok}
  (o:Own B L h) (e:pick L [0,1]=PSt bp z w tk) (hk:tQ ⟨B.h,uH L++B.T⟩ vs ss) (hR:dC tk w ts) (hl:ts.length<=5000) (hsl:ss.length<=100)
  (hret:∀ a r w' v h',iJ z ss 1 ts=.ok (a,r)->v=iv a->r.length<=ts.length->dC tk w' r->Own B (PSt bp z w' tk++uH L) h'->K v false h')
  (hpan:∀ e w' h',iJ z ss 1 ts=.error e->Own B (PSt bp z w' tk) h'->Q (.panic (mG e)) s h'):CallVC Tryz.prog 55 [pv bp 0,vs] s h K Q:=by
 have ol:=o.lend [0,1] [2,3,4,5,6,7,8,9] rfl
 rw[e]at ol
 exact PEnd.call (aAJ ss _ _ bp z tk w ts h hk ol hR hl hsl) (λa r w' v h' h1 h2 h3 h4 h5=>hret a r w' v h' h1 h2 h3 h4 h5.back) (λe w' h' h1 h2=>hpan e w' h' h1 (h2.back.sel [0,1] rfl))
theorem jJ.callL {g:FuncId}{args:aVs}{s:aVs}{h:Heap}{K:KK}{Q:QQ}{B:Base}{L X:List Item}{bp z:Nat}{tk:Item}{bx n:Nat}{res:Except (Int×Nat) (It×List Tok)}
  (sp:∀ B':Base,Own B' X h->Spec Tryz.prog g args h (jJ B' bp z tk bx n res)) (o:Own B L h) (ks js:List Nat) (hd:dst (ks++js)=true) (e:pick L ks=X)
  (hret:∀ x r w' c I h',res=.ok (x,r)->itR I c x->r.length<=n->dC tk w' r->Own B ([box bp [w',iv z] 72,tk,box bx c 44,I]++pick L js) h'->K (.tuple ⟨[]⟩) false h')
  (hpan:∀ e w' h',res=.error e->Own B (PSt bp z w' tk) h'->Q (.panic (mG e)) s h'):CallVC Tryz.prog g args s h K Q:=by
 have ol:=o.lend ks js hd
 rw[e]at ol
 exact aDO (sp _ ol) (λv h' ⟨x,r,w',c,I,h1,h2,h3,h4,h5,h6⟩=>by subst h2;exact hret x r w' c I h' h1 h3 h4 h5 h6.back) (λc h' ⟨e,w',h1,h2,h3⟩=>by subst h2;exact hpan e w' h' h1 (h3.back.sel [0,1] rfl))
theorem item_spec (t0:Tok)(r0:List Tok)(B:Base)(bp z:Nat)(tk:Item)(w:Value)(h:Heap)(hW:lX B.h)(o:Own B (PSt bp z w tk) h)(hR:dC tk w (t0::r0))(hl:(t0::r0).length<=5000) :
  Spec Tryz.prog 28 [pv bp 0] h (dP B bp z tk (t0::r0).length (pN z (t0::r0)) itV):=by
 have hE:=itemP_eq z t0 r0;have hx:(t0::r0)[0]?=some t0:=rfl;have hln:(t0::r0).length=r0.length+1:=rfl
 obtain⟨hRd,hK⟩:=hR
 have hR:dC tk w (t0::r0):=⟨hRd,hK⟩;refine eN Tryz.func28 Tryz.ntmps28 ?_;refine aDH o bU λb10 m10 o10=>?_;refine cB ?_;refine fB gV ?_;refine oB o10 0 fS ?_;refine rR (aDe gW bR (o10.reads 1 hRd rfl) rfl zO zO ?_);refine rR (aDf (o10.reads 1 hRd rfl) zO fU rfl rfl rfl ?_);refine rR (aDl (o10.reads 1 hRd rfl) aK (λ_=>rfl) rfl zA rfl ?_);refine rR (aDd aA ?_);refine aI rfl ?_;refine aDH o10 bU λb18 m18 o18=>?_;(refine sA o18 3 bU ?_;intro m19 o19);refine RunVC.sliceG arr115.1 aC rfl ?_;refine pwordK_call zA rfl (lX.keep hW) hR hl zD (λk q1 w1 v h1 hm hv hle1 hR1 oq=>?_) (λe w' h' hm o2=>⟨e,w',hE.trans (aC9 hm),rfl,o2⟩);subst hv
 rw[aDa hm]at hE
 obtain⟨hk1,hk2,hk3⟩:=wN _ _ _ hm
 have hk2:k<11:=by have:cU.length=10:=rfl;omega
 have o1:=oq
 simp only[PSt,pick,l_]at o1
 clear oq hm;refine fB aA ?_;(refine sB o1 3 aK ?_;intro m31 o31);refine fB aA ?_;refine oB o31 3 aK ?_;refine Br.join [20,21,22] [] (λ_ hh=>∃(nm:aBs) (q2:List Tok) (w2:Value),ifP (k != 5) (gB z) [] q1=.ok (nm,q2)/\q2.length<=q1.length/\dC tk w2 q2/\Own B [box bp [w2,iv z] 72,tk,box b10 (nX 0 [] 0) 44,box b18 (nX k nm t0.off) 44] hh) rfl rfl ?_ ?_
 ·by_cases h5:k=5
  ·refine bC λc40=>?_
   refine⟨rfl,?_⟩
   exact⟨[],q1,w1,by rw[tH (by simp[h5])];rfl,aD6 _,hR1,o_ [0,1,2,3]⟩
  ·refine bD λc50=>?_
   refine dA.callL zA rfl hR1 zO (λnm q2 w2 v h2 hm hv hle2 hR2 oq=>?_) (λe w' h' hm o2=>⟨e,w',hE.trans (aC9 (by rw[pO (by simp[h5])];exact hm)),rfl,o2⟩);subst hv;have o2:=oq
   simp only[PSt,pick,l_]at o2
   clear oq;refine fB aA ?_;(refine sB o2 3 aC ?_;intro m61 o61)
   refine⟨rfl,?_⟩
   exact⟨nm,q2,w2,by rw[pO (by simp[h5])];exact hm,hle2,hR2,o_ [0,1,2,3]⟩
 ·rintro _ junk h3 ⟨nm,q2,w2,hm,hle2,hR2,o3⟩
  rw[aDa hm]at hE
  unfold nX at o3;(refine RunVC.makeMap zA ?_;intro rm mI oI);refine rR (aDp ?_);(refine RunVC.insert zA 4 rfl Tryz.underlying117 Tryz.underlying3 rfl rfl rfl ?_;intro mI oI);refine rR (aDp ?_);(refine RunVC.insert zA 4 rfl Tryz.underlying117 Tryz.underlying3 rfl rfl rfl ?_;intro mI oI);refine rR (aDp ?_);(refine RunVC.insert zA 4 rfl Tryz.underlying117 Tryz.underlying3 rfl rfl rfl ?_;intro mI oI);refine rR (aDp ?_);(refine RunVC.insert zA 4 rfl Tryz.underlying117 Tryz.underlying3 rfl rfl rfl ?_;intro mI oI);refine rR (aDp ?_);(refine RunVC.insert zA 4 rfl Tryz.underlying117 Tryz.underlying3 rfl rfl rfl ?_;intro mI oI);refine rR (aDp ?_);(refine RunVC.insert zA 4 rfl Tryz.underlying117 Tryz.underlying3 rfl rfl rfl ?_;intro mI oI);refine rR (aDp ?_);(refine RunVC.insert zA 4 rfl Tryz.underlying117 Tryz.underlying3 rfl rfl rfl ?_;intro mI oI);refine rR (aDp ?_);(refine RunVC.insert zA 4 rfl Tryz.underlying117 Tryz.underlying3 rfl rfl rfl ?_;intro mI oI);refine rR (aDp ?_);(refine RunVC.insert zA 4 rfl Tryz.underlying117 Tryz.underlying3 rfl rfl rfl ?_;intro mI oI);refine rR (aDp ?_);(refine RunVC.insert zA 4 rfl Tryz.underlying117 Tryz.underlying3 rfl rfl rfl ?_;intro mI oI);refine aDU ?_;refine fB aA ?_;refine oB oI 3 aK ?_
  obtain⟨i,hf⟩:=partsM_find bp k hk1 hk2
  refine RunVC.lookup zA 4 rfl Tryz.underlying117 Tryz.underlying3 rfl rfl hf ?_;refine jJ.callL (λB' o'=>part_spec k hk1 hk2 k nm t0.off B' bp z tk b18 w2 q2 _ o' hR2 zO) zA [0,1,3] [2] rfl rfl (λx q3 w3 c I h4 hm hI hle3 hR3 oq=>?_) (λe w' h' hm o2=>⟨e,w',hE.trans (aC9 hm),rfl,o2⟩)
  rw[aDa hm]at hE
  have hkind:x.kind=k:=(kept_part z k _ _ _ _ hm).1
  obtain⟨vc,vn,vt,vf,vv,vd,e0,e1,e2,e3,e4,e5,e6,e7,e8,rfl,r1,r2,r3,r4,r5,r6,rx⟩:=hI
  unfold itC at oq;have o4:=oq
  simp only[PSt,pick,l_]at o4
  clear oq hm;have hx0:=rx;refine fB aA ?_;refine oB o4 2 aK ?_
  obtain⟨y1,z1,rfl⟩:=r1.isS (Own.satK o4 3 rfl)
  obtain⟨y2,z2,rfl⟩:=r2.isS (Own.satK o4 3 rfl)
  obtain⟨y3,z3,rfl⟩:=r3.isS (Own.satK o4 3 rfl)
  obtain⟨y4,z4,rfl⟩:=r4.isS (Own.satK o4 3 rfl)
  obtain⟨y5,z5,rfl⟩:=r5.isS (Own.satK o4 3 rfl)
  obtain⟨y6,z6,rfl⟩:=r6.isS (Own.satK o4 3 rfl)
  have hx1:∃ q,q=x.expr:=⟨_,rfl⟩
  obtain⟨xe,hxe⟩:=hx1
  rw[← hxe]at rx
  obtain⟨xk,xt,xks,xcs,xns,xa,xs',xg,xo⟩:=xe
  simp only[nK]at rx
  obtain⟨uk,uc,un,heq,u1,u2,us,u3,_⟩:=rx
  unfold zG at heq
  simp only[List.cons.injEq,and_true]at heq
  obtain⟨rfl,rfl,rfl,rfl,rfl,rfl,rfl,rfl,rfl⟩:=heq
  obtain⟨y7,z7,rfl⟩:=u1.isS (Own.satK o4 3 rfl)
  obtain⟨y8,z8,rfl⟩:=u2.isS (Own.satK o4 3 rfl)
  obtain⟨y9,z9,rfl⟩:=u3.isS (Own.satK o4 3 rfl)
  by_cases hk4:k=4
  ·skip
   rw[if_pos hk4]at hE
   refine bB λc300=>lA o4 aB aC λb301 m301 o301=>?_;refine aW (ss:=[[125]]) zA rfl ⟨5,by decide,rfl⟩ hR3 zO zD (λ_ q4 w4 v h5 hm hv hle4 hR4 oq=>?_) (λe w' h' hm o2=>⟨e,w',hE.trans (aC9 hm),rfl,o2⟩);subst hv
   rw[aDa hm]at hE
   have o5:=oq
   simp only[PSt,pick,l_]at o5
   clear oq hm;refine nB o5 2 bU ?_;(refine sA o5 4 bU ?_;intro m321 o321)
   first|refine r1_ o321 4 bU ?_|refine r2_ o321 4 bU ?_
   exact⟨x,q4,w4,I,hE,⟨_,rfl,⟨_,_,_,_,_,_,_,_,_,_,_,_,_,_,_,rfl,r1,r2,r3,r4,r5,r6,hx0⟩⟩,by omega,hR4,o_ [0,1,3]⟩
  ·skip
   rw[if_neg hk4]at hE
   refine bA λc400=>lA o4 aB aC λb401 m401 o401=>?_;refine aW (ss:=[[59]]) zA rfl ⟨5,by decide,rfl⟩ hR3 zO zD (λ_ q4 w4 v h5 hm hv hle4 hR4 oq=>?_) (λe w' h' hm o2=>⟨e,w',hE.trans (aC9 hm),rfl,o2⟩);subst hv
   rw[aDa hm]at hE
   have o5:=oq
   simp only[PSt,pick,l_]at o5
   clear oq hm;refine nB o5 2 bU ?_;(refine sA o5 4 bU ?_;intro m421 o421)
   first|refine r1_ o421 4 bU ?_|refine r2_ o421 4 bU ?_
   exact⟨x,q4,w4,I,hE,⟨_,rfl,⟨_,_,_,_,_,_,_,_,_,_,_,_,_,_,_,rfl,r1,r2,r3,r4,r5,r6,hx0⟩⟩,by omega,hR4,o_ [0,1,3]⟩
def xC (p q r v:Value):aVs:=[p,q,r,v,undef,undef,v,undef,undef,undef,undef,undef,undef,undef,undef,undef,undef,undef,undef,undef,undef,undef]
theorem sS (p q r:Value):Recovers Tryz.prog (match Tryz.f26.body with|some (.seq (.region _ ops _) _)=>ops|_=>#[]) ([p,q,r]++List.replicate (22 - [p,q,r].length) undef) (xC p q r):=by
 intro cs w Q hQ;unfold wpOpsS
 simp[Tryz.f26,List.range,List.range.loop,wpOpsS,Region.wanted,yielded,execOp,resolve,invoke,builtin,act,Act.put]
 cases hrec:recoverD cs with
 | none=>exact hQ _ _ (.inr ⟨hrec,rfl,rfl⟩)
 | some x=>exact hQ _ _ (.inl hrec)
theorem pleave_ok (s:aVs)(h:Heap)(R:Ending->Heap->Prop)(p q r:Value)
  (hr:RetVC Tryz.prog Tryz.f13 s h λv h=>R (.returned v) h) :
  LeaveVC Tryz.prog Tryz.f13 ⟨.fn (.func 26) ⟨[p,q,r]⟩,#[]⟩ .returning s h R:=by
 refine LeaveVC.recovers (f:=xC p q r) .nilIface Tryz.func26 rfl (n:=22) k_ k_ rfl (.inl ⟨rfl,rfl⟩) (sS p q r) ?_;refine rR (neI aB7 a_ ?_);refine aDL ?_;exact hr
theorem pleave_err (s:aVs)(h:Heap)(R:Ending->Heap->Prop)(B:Base)(b2 b3 b4:Nat)(x y z:Value)(e:Int×Nat)
  (o0:Own B [box b2 [x] 24,box b3 [y] 27,box b4 [z] 3] h)
  (h2:sget s 2=pv b2 0) (h3:sget s 3=pv b3 0) (h4:sget s 4=pv b4 0)
  (hR:∀ h',Own B [] h'->R (.returned (.tuple ⟨[.agg ⟨[aP]⟩,iv e.1,iv e.2]⟩)) h') :
  LeaveVC Tryz.prog Tryz.f13 ⟨.fn (.func 26) ⟨[pv b2 0,pv b3 0,pv b4 0]⟩,#[]⟩ (.panicking (mG e)) s h R:=by
 refine LeaveVC.recovers (f:=xC (pv b2 0) (pv b3 0) (pv b4 0)) (.iface 68 (.agg ⟨[iv e.1,iv e.2]⟩)) Tryz.func26 rfl (n:=22) k_ k_ rfl (.inr rfl) (sS _ _ _) ?_;refine rR (neI aB7 a_ ?_);refine aDK (rR (assertOk con68 rfl ?_));refine aDH o0 ty68 λb12 m12 o12=>?_;(refine sA o12 3 ty68 ?_;intro m13 o13);refine aDL (d2_ b12 [0,1,3] [2,4] [7] [0,1,2,3,4,5,6,7] ?_);refine aDd mD ?_;refine fC st68 ?_;refine StillVCA.load1 jM rfl rfl ((o13.cellB 3 rfl _).trans rfl) ?_;refine fC st68 ?_;refine StillVCA.load1 aK rfl rfl ((o13.cellB 3 rfl _).trans rfl) ?_;(refine sB o13 0 uD ?_;intro m25 o25);refine aI ((o25.boxBlk 3 rfl).trans (o13.boxBlk 3 rfl).symm) ?_;(refine sB o25 1 jM ?_;intro m26 o26);refine aI ((o26.boxBlk 3 rfl).trans (o25.boxBlk 3 rfl).symm) ?_;(refine sB o26 2 aK ?_;intro m27 o27);exact RetVC.cell3A rfl uD rfl jM aK h2 h3 h4 (o27.cellB 0 rfl 0) (o27.cellB 1 rfl 0) (o27.cellB 2 rfl 0) (hR _ (o27.sel [] rfl))
end Go.Proofs.YtohlogbnpfofpaaGreatDoor
