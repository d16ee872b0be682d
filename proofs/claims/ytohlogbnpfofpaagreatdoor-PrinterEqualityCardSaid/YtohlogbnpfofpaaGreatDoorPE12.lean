/- Part 12 of the proof of equality: FnH4, FnH5, FnH6, FnH7, FnH8, FnH9, FnXq. -/
import Derived.Test.YtohlogbnpfofpaaGreatDoorPE11
set_option linter.all false
set_option maxHeartbeats 100000000
set_option maxRecDepth 100000
namespace Go.Proofs.YtohlogbnpfofpaaGreatDoor
open Go StillVC
theorem aBO (B:Base)(b bx:Nat)(p v:Value)(k:Int)(bs:aBs)(x:It)(z:Int)(vc vn vt vf vv vd e0 e1 e2 e3 e4 e5 e6 e7 e8:Value)(h:Heap)(hp:cO b p)(hT:jP B.h)(hOK:iZ x)(hA:dF 7 B.h vt x.terms.length (x.terms.flatMap xW))
  (o:Own B [box b [p,v,.int .i64 k] 58,row v 5 1 bs.length (bytes bs),box bx (fD x z vc vn vt vf vv vd e0 e1 e2 e3 e4 e5 e6 e7 e8) 44] h) (hl:bs.length+2000*eJ x≤50000000000000) (hk:0≤k∧k+2000*eJ x≤50000000000000) :
  Spec Tryz.prog 73 [.pointer (some ⟨b,0,none⟩),.pointer (some ⟨bx,0,none⟩)] h (IEnds B b bx bs k (2000*eJ x) (fD (clr4 x) z vc vn aN vf vv vd e0 e1 e2 e3 e4 e5 e6 e7 e8) (part4 x)):=by
 obtain⟨bkind,bname,btable,battr,bcols,bnames,bby,bn,bm,bterms,both,boat,bfixed,bvars,bconds,bexpr,lcols,lnames,lterms,lfixed,lvars,lconds⟩:=hOK
 have hsz:eJ x=1+x.cols.length+x.names.length+x.terms.length+x.fixed.length+x.vars.length+x.conds.length+fJ x.expr:=rfl;unfold fD at o
 obtain⟨ya,yc,rfl⟩:=hA.isS
 refine aC1 Tryz.func73 rfl Tryz.ntmps73 (by kernel_rfl) ?_;have hRe:part4 x=aJ [some [aD [32] [111,110]],aZ [32] x.table,some [aD [32] [97,116]],iF [32] x.n,some [aO [32] [123]],dB (fun _=>bI) x.terms]:=by
  unfold part4
  rw[seqQ_last,terms_loop]
  rfl
 refine aCY [0,1,2,3,4,5,8,9,10,11,14] [6,12] [13,15,16] [0,1,2,3,4,5,6,9,10,11,12,7,8,13,14,15,16] mixed (by kernel_rfl) rfl (fun _ _ _ _ h=>h) ?_;refine nC rfl ?_;refine fA bO rfl rfl rfl ?_;refine nC rfl ?_;refine fA aC rfl rfl rfl ?_;refine aCi o 2 rfl aL rfl rfl ?_;refine nC rfl ?_;refine fA aC rfl rfl rfl ?_;refine aCi o 2 rfl aS rfl rfl ?_;refine aCo (B:=B) ‹_› (bJ x.table _ btable) (fun h1 m1 oc1 oq1=>?_) fun h1 m1 oq1=>?_
 case refine_2=>exact⟨(by rw[hRe];simp only[cS h1,aJ,oMN,oMS]),rfl,oq1⟩
 have hnl1:=cR h1
 refine⟨oc1.ext,?_⟩
 clear oc1;refine aCs rfl rfl (by first|omega|(simp;omega)) ?_;refine aCo (B:=B) ‹_› (bK x.n _ bn.1 bn.2 (hT.ext (Own.ext (B:=B) ‹_›))) (fun h2 m2 oc2 oq2=>?_) fun h2 m2 oq2=>?_
 case refine_2=>exact⟨(by rw[hRe];simp only[aA h1,dA h2,aJ,oMN,oMS]),rfl,oq2⟩
 have hnl2:=bW h2;clear oc2;refine aCs rfl rfl (by first|omega|(simp;omega)) ?_;(refine aCS oq2 aK aL rfl rfl (by decide) (aI rfl ?_);intro b161 m161 o161);refine aH [[32,111,110],[32]++x.table,[32,97,116],[32]++Lib.itoa x.n,[32,123]] 5 30 [2] (i:=3) ‹_› rfl rfl rfl hp rfl (by omega) (by omega) (by first|(simp;done)|(simp;omega)) (by omega) (by omega) (fun p3 v3 bs3 k3 m3 hp3 hb3 hk3 hl3 oq=>?_);have o3q:=oq
 simp only[pick,lgS,lgZ]at o3q
 clear oq;refine rR (nC rfl ?_);refine rR (fA aC rfl rfl rfl ?_);refine rR (aCi o3q 2 rfl nU rfl rfl ?_);refine rR (aCq rfl nW ?_);refine aC5 [5,28,29,30,31,32,33,34,35,36,37,38,39,40,41,42,43,44,45,46,47,48,49,50,51,52,53,54,55,56,57,58,59,60,61,62,63,64,65,66,67,68,69,70,71,72,73,74,75,76,77,78,79,80,81,82,83,84,85,86,87,88,89,90,91,92,93,94,95,96,97,98,99,100,101,102,103,104,105,106,107,108,109,110] [28] (fun vs' hh=>∃(i:Nat) (p' v':Value) (bs':aBs) (k':Int) (ps:List Pc),i≤x.terms.length∧vs'=[.int .i64 i]∧cO b p'∧dB (fun _=>bI) (x.terms.take i)=some ps∧bs'=bs3++bG ps∧k'=k3+ps.length∧bs'.length≤bs3.length+1000*i∧k'≤k3+1000*i∧Own B [box b [p',v',.int .i64 k'] 58,row v' 5 1 bs'.length (bytes bs'),box bx [.int .i64 x.kind,.string ⟨⟨x.name⟩⟩,.int .i64 z,.string ⟨⟨x.table⟩⟩,.string ⟨⟨x.attr⟩⟩,vc,vn,.int .i64 x.by_,.int .i64 x.n,.int .i64 x.m,.slice ya x.terms.length yc,.string ⟨⟨x.other⟩⟩,.string ⟨⟨x.oattr⟩⟩,vf,vv,vd,e0,e1,e2,e3,e4,e5,e6,e7,e8] 44] hh) (fun vs' _=>match vs' with|[.int _ i]=>x.terms.length - i.toNat|_=>0) ?_ ?_
 ·exact⟨0,p3,v3,bs3,k3,[],by omega,rfl,hp3,rfl,by simp[bG],by simp,by omega,by omega,Own.sel ‹_› [0,1,2] rfl⟩
 rintro vs' junk hh ⟨i,p',v',bs',k',ps,hi,rfl,hp',hQ,hb',hk',hl',hkb,oh⟩;have hkge:k3≤k':=by omega
 by_cases hlt:i<x.terms.length
 ·obtain⟨el,hel⟩:=getx hlt
  have hOKel:=bterms el (aDa hel);have hm:1000*i+1000≤1000*x.terms.length:=by omega
  obtain⟨hn1,b2,b3,b4,b5,b6,b7⟩:=hOKel
  have hone:bI el=aJ [aZ [10,32,32] el.attr,gC el.measure [[101,113,117,97,108],[101,100,105,116],[106,97,99,99,97,114,100],[106,97,114,111],[110,101,97,114]],(if el.measure=5 then iF [32] el.tol else if el.tol=0 then some [] else none),some [aD [32] [108,101,97,115,116]],iF [32] el.num,(if el.den=1 then some [] else(iF [] el.den).map (aO [] [47]::·)),some [aD [32] [103,105,118,101,115]],iF [32] el.gives,(if el.takes=0 then some [] else(iF [32] el.takes).map (aD [32] [116,97,107,101,115]::·)),some [aO [] [59]]]:=rfl;refine aCV (fun c260=>?_) (fun hc=>absurd (by omega) hc);refine rR (aCt nW cL (hA.ext oh.ext) rfl (by omega) (by omega) ?_);refine rR (aCv cL (hA.ext oh.ext) (fun _=>rfl) (by decide) rfl ‹_› ?_);(refine aCT oh cL ?_;intro b263 m263 o263);(refine aCl o263 3 rfl cL rfl (by decide) (aI ⟨rfl,rfl⟩ ?_);intro m264 o264);refine aCG b263 [0,1,2,3,6,7] [4,8] [10,11,12] (.one 0 (.one 1 (.one 2 (.one 3 (.one 4 (.one 7 (.one 8 (.fork 5 9 (.one 6 (.one 9 (.one 10 (.one 11 (.one 12 .done))))) (.one 5 (.one 6 (.one 10 (.one 11 (.one 12 .done))))))))))))) mixed (by kernel_rfl) rfl (fun _ _ _ _ h=>h) ?_;refine nC rfl ?_;refine fA bO rfl rfl rfl ?_;refine fA bQ rfl rfl rfl ?_;refine StillVCA.load1 aL rfl rfl ((o264.cellB 3 rfl _).trans rfl) ?_;refine fA bQ rfl rfl rfl ?_;refine StillVCA.load1 aS rfl rfl ((o264.cellB 3 rfl _).trans rfl) ?_;refine aI ?_ ?_
  ·skip
   refine aCo (B:=B) ‹_› (bJ el.attr _ hn1) (fun h4 m4 oc4 oq4=>?_) fun h4 m4 oq4=>?_
   case refine_2=>exact⟨(by rw[hRe];simp only[aA h1,aB h2,aR hel hQ (show(fun _=>bI) i el=none by show bI el=none;rw[hone];simp only[cS h4,aJ,oMN,oMS]),aJ,oMN,oMS]),rfl,oq4⟩
   have hnl4:=cR h4;refine aI ((oq4.boxBlk 3 rfl).trans (o264.boxBlk 3 rfl).symm) ?_;refine aCs rfl rfl (by first|omega|(simp;omega)) ?_;(refine aCS oq4 aK aL rfl rfl (by decide) (aI rfl ?_);intro b411 m411 o411);refine aI ((o411.boxBlk 3 rfl).trans (oq4.boxBlk 3 rfl).symm) ?_;refine aCo (B:=B) ‹_› (dQ el.measure [[101,113,117,97,108],[101,100,105,116],[106,97,99,99,97,114,100],[106,97,114,111],[110,101,97,114]] _ _ (by omega) (by omega) (Own.boxArr ‹_› 4 rfl rfl (by decide)) (by simp) (by simp)) (fun h5 m5 oc5 oq5=>?_) fun h5 m5 oq5=>?_
   case refine_2=>exact⟨(by rw[hRe];simp only[aA h1,aB h2,aR hel hQ (show(fun _=>bI) i el=none by show bI el=none;rw[hone];simp only[aA h4,lL (of_decide_eq_false h5),aJ,oMN,oMS]),aJ,oMN,oMS]),rfl,oq5⟩
   have h5:=of_decide_eq_true h5;have hw5:=jR (n:=el.measure) h5;have hnl5:=kH (ws:=[[101,113,117,97,108],[101,100,105,116],[106,97,99,99,97,114,100],[106,97,114,111],[110,101,97,114]]) (M:=10) (by simp) (el.measure - 1).toNat;generalize ([[101,113,117,97,108],[101,100,105,116],[106,97,99,99,97,114,100],[106,97,114,111],[110,101,97,114]]:List aBs).getD (el.measure - 1).toNat []=w5 at hw5 hnl5;clear oc5;(refine aCS oq5 aK aL rfl rfl (by decide) (aI rfl ?_);intro b460 m460 o460);refine aH [[10,32,32]++el.attr,32::w5] 2 30 [2,3] (i:=5) ‹_› rfl rfl rfl hp' rfl (by omega) (by omega) (by first|(simp;done)|(simp;omega)) (by omega) (by omega) (fun p6 v6 bs6 k6 m6 hp6 hb6 hk6 hl6 oq=>?_);have o6q:=oq
   simp only[pick,lgS,lgZ]at o6q
   clear oq;by_cases hm5:el.measure=5
   ·skip
    refine rR (fA bQ rfl rfl rfl ?_);refine rR (aCi o6q 3 rfl aS rfl rfl ?_);refine aCV (fun c512=>?_) (fun hc=>absurd (by omega) hc);refine aCY [0,1,2,3,6] [4] [5,7,8] [0,1,2,3,4,5,6,7,8] mixed (by kernel_rfl) rfl (fun _ _ _ _ h=>h) ?_;refine nC rfl ?_;refine fA bO rfl rfl rfl ?_;refine fA bQ rfl rfl rfl ?_;refine aCi o6q 3 rfl aS rfl rfl ?_;refine aCo (B:=B) ‹_› (bK el.tol _ b3.1 b3.2 (hT.ext (Own.ext (B:=B) ‹_›))) (fun h7 m7 oc7 oq7=>?_) fun h7 m7 oq7=>?_
    case refine_2=>exact⟨(by rw[hRe];simp only[aA h1,aB h2,aR hel hQ (show(fun _=>bI) i el=none by show bI el=none;rw[hone];simp only[aA h4,hw5,if_pos hm5,dA h7,aJ,oMN,oMS]),aJ,oMN,oMS]),rfl,oq7⟩
    have hnl7:=bW h7;clear oc7;refine aCs rfl rfl (by first|omega|(simp;omega)) ?_;(refine aCS oq7 aK aL rfl rfl (by decide) (aI rfl ?_);intro b561 m561 o561);refine aH [[32]++Lib.itoa el.tol] 1 30 [2,3] (i:=4) ‹_› rfl rfl rfl hp6 rfl (by omega) (by omega) (by first|(simp;done)|(simp;omega)) (by omega) (by omega) (fun p8 v8 bs8 k8 m8 hp8 hb8 hk8 hl8 oq=>?_);have o8q:=oq
    simp only[pick,lgS,lgZ]at o8q
    clear oq;refine aCY [0,1,2,3,4,7] [5] [6,8,9] [0,1,2,3,4,5,6,7,8,9] mixed (by kernel_rfl) rfl (fun _ _ _ _ h=>h) ?_;refine nC rfl ?_;refine fA bO rfl rfl rfl ?_;refine fA bQ rfl rfl rfl ?_;refine fA jS rfl rfl rfl ?_;refine aCi o8q 3 rfl aS rfl rfl ?_;refine aCo (B:=B) ‹_› (bK el.num _ b4.1 b4.2 (hT.ext (Own.ext (B:=B) ‹_›))) (fun h9 m9 oc9 oq9=>?_) fun h9 m9 oq9=>?_
    case refine_2=>exact⟨(by rw[hRe];simp only[aA h1,aB h2,aR hel hQ (show(fun _=>bI) i el=none by show bI el=none;rw[hone];simp only[aA h4,hw5,if_pos hm5,aB h7,dA h9,aJ,oMN,oMS]),aJ,oMN,oMS]),rfl,oq9⟩
    have hnl9:=bW h9;clear oc9;refine aCs rfl rfl (by first|omega|(simp;omega)) ?_;(refine aCS oq9 aK aL rfl rfl (by decide) (aI rfl ?_);intro b661 m661 o661);refine aH [[32,108,101,97,115,116],[32]++Lib.itoa el.num] 2 30 [2,3] (i:=4) ‹_› rfl rfl rfl hp8 rfl (by omega) (by omega) (by first|(simp;done)|(simp;omega)) (by omega) (by omega) (fun p10 v10 bs10 k10 m10 hp10 hb10 hk10 hl10 oq=>?_);have o10q:=oq
    simp only[pick,lgS,lgZ]at o10q
    clear oq;by_cases hd1:el.den=1
    ·skip
     refine rR (fA bQ rfl rfl rfl ?_);refine rR (fA jS rfl rfl rfl ?_);refine rR (aCi o10q 3 rfl aS rfl rfl ?_);refine aCn (fun hc=>absurd (by first|omega|assumption|decide|exact rfl) hc) (fun c713=>?_);refine aCY [0,1,2,3,6] [4] [5,7,8] [0,1,2,3,4,5,6,7,8] mixed (by kernel_rfl) rfl (fun _ _ _ _ h=>h) ?_;refine nC rfl ?_;refine fA bO rfl rfl rfl ?_;refine fA bQ rfl rfl rfl ?_;refine aCi o10q 3 rfl aS rfl rfl ?_;refine aCo (B:=B) ‹_› (bK el.gives _ b6.1 b6.2 (hT.ext (Own.ext (B:=B) ‹_›))) (fun h11 m11 oc11 oq11=>?_) fun h11 m11 oq11=>?_
     case refine_2=>exact⟨(by rw[hRe];simp only[aA h1,aB h2,aR hel hQ (show(fun _=>bI) i el=none by show bI el=none;rw[hone];simp only[aA h4,hw5,if_pos hm5,aB h7,aB h9,if_pos hd1,dA h11,aJ,oMN,oMS]),aJ,oMN,oMS]),rfl,oq11⟩
     have hnl11:=bW h11;clear oc11;refine aCs rfl rfl (by first|omega|(simp;omega)) ?_;(refine aCS oq11 aK aL rfl rfl (by decide) (aI rfl ?_);intro b761 m761 o761);refine aH [[32,103,105,118,101,115],[32]++Lib.itoa el.gives] 2 30 [2,3] (i:=4) ‹_› rfl rfl rfl hp10 rfl (by omega) (by omega) (by first|(simp;done)|(simp;omega)) (by omega) (by omega) (fun p12 v12 bs12 k12 m12 hp12 hb12 hk12 hl12 oq=>?_);have o12q:=oq
     simp only[pick,lgS,lgZ]at o12q
     clear oq;by_cases htk0:el.takes=0
     ·skip
      refine rR (fA bQ rfl rfl rfl ?_);refine rR (aCi o12q 3 rfl aS rfl rfl ?_);refine aCn (fun hc=>absurd (by first|omega|assumption|decide|exact rfl) hc) (fun c812=>?_);refine rR (nC rfl ?_);refine rR (fA bO rfl rfl rfl ?_);(refine aCS o12q aK aL rfl rfl (by decide) (aI rfl ?_);intro b815 m815 o815);refine aH [[59]] 1 30 [2,3] (i:=4) ‹_› rfl rfl rfl hp12 rfl (by omega) (by omega) (by first|(simp;done)|(simp;omega)) (by omega) (by omega) (fun p13 v13 bs13 k13 m13 hp13 hb13 hk13 hl13 oq=>?_);have o13q:=oq
      simp only[pick,lgS,lgZ]at o13q
      clear oq;refine aC2 (by omega) (by omega) ?_
      refine⟨rfl,?_⟩
      exact⟨⟨i+1,p13,v13,bs13,k13,ps++([aD [10,32,32] el.attr]++([aD [32] w5]++([bP [32] el.tol]++([aD [32] [108,101,97,115,116]]++([bP [32] el.num]++([]++([aD [32] [103,105,118,101,115]]++([bP [32] el.gives]++([]++([aO [] [59]]++[])))))))))),by omega,rfl,hp13,bA hel hQ (by(first|rw[hone]|(show bI el=_;rw[hone]));simp only[aA h4,hw5,if_pos hm5,aB h7,aB h9,if_pos hd1,aB h11,if_pos htk0,aJ,oMS]),by rw[hb13,hb12,hb10,hb8,hb6,hb'];simp[bG,fM,wr,aD,aO,bP],by rw[hk13,hk12,hk10,hk8,hk6,hk'];first|(simp;done)|(simp;omega),by omega,by omega,Own.sel ‹_› [0,1,2] rfl⟩,by simp;omega⟩
     ·skip
      refine rR (fA bQ rfl rfl rfl ?_);refine rR (aCi o12q 3 rfl aS rfl rfl ?_);refine aCn (fun c912=>?_) (fun hc=>absurd hc (by first|omega|assumption|decide|exact rfl));refine aCY [0,1,2,3,6] [4] [5,7,8] [0,1,2,3,4,5,6,7,8] mixed (by kernel_rfl) rfl (fun _ _ _ _ h=>h) ?_;refine nC rfl ?_;refine fA bO rfl rfl rfl ?_;refine fA bQ rfl rfl rfl ?_;refine aCi o12q 3 rfl aS rfl rfl ?_;refine aCo (B:=B) ‹_› (bK el.takes _ b7.1 b7.2 (hT.ext (Own.ext (B:=B) ‹_›))) (fun h14 m14 oc14 oq14=>?_) fun h14 m14 oq14=>?_
      case refine_2=>exact⟨(by rw[hRe];simp only[aA h1,aB h2,aR hel hQ (show(fun _=>bI) i el=none by show bI el=none;rw[hone];simp only[aA h4,hw5,if_pos hm5,aB h7,aB h9,if_pos hd1,aB h11,if_neg htk0,dA h14,aJ,oMN,oMS]),aJ,oMN,oMS]),rfl,oq14⟩
      have hnl14:=bW h14;clear oc14;refine aCs rfl rfl (by first|omega|(simp;omega)) ?_;(refine aCS oq14 aK aL rfl rfl (by decide) (aI rfl ?_);intro b961 m961 o961);refine aH [[32,116,97,107,101,115],[32]++Lib.itoa el.takes] 2 30 [2,3] (i:=4) ‹_› rfl rfl rfl hp12 rfl (by omega) (by omega) (by first|(simp;done)|(simp;omega)) (by omega) (by omega) (fun p15 v15 bs15 k15 m15 hp15 hb15 hk15 hl15 oq=>?_);have o15q:=oq
      simp only[pick,lgS,lgZ]at o15q
      clear oq;refine rR (nC rfl ?_);refine rR (fA bO rfl rfl rfl ?_);(refine aCS o15q aK aL rfl rfl (by decide) (aI rfl ?_);intro b1012 m1012 o1012);refine aH [[59]] 1 30 [2,3] (i:=4) ‹_› rfl rfl rfl hp15 rfl (by omega) (by omega) (by first|(simp;done)|(simp;omega)) (by omega) (by omega) (fun p16 v16 bs16 k16 m16 hp16 hb16 hk16 hl16 oq=>?_);have o16q:=oq
      simp only[pick,lgS,lgZ]at o16q
      clear oq;refine aC2 (by omega) (by omega) ?_
      refine⟨rfl,?_⟩
      exact⟨⟨i+1,p16,v16,bs16,k16,ps++([aD [10,32,32] el.attr]++([aD [32] w5]++([bP [32] el.tol]++([aD [32] [108,101,97,115,116]]++([bP [32] el.num]++([]++([aD [32] [103,105,118,101,115]]++([bP [32] el.gives]++(aD [32] [116,97,107,101,115]::[bP [32] el.takes]++([aO [] [59]]++[])))))))))),by omega,rfl,hp16,bA hel hQ (by(first|rw[hone]|(show bI el=_;rw[hone]));simp only[aA h4,hw5,if_pos hm5,aB h7,aB h9,if_pos hd1,aB h11,if_neg htk0,aB h14,aJ,oMS]),by rw[hb16,hb15,hb12,hb10,hb8,hb6,hb'];simp[bG,fM,wr,aD,aO,bP],by rw[hk16,hk15,hk12,hk10,hk8,hk6,hk'];first|(simp;done)|(simp;omega),by omega,by omega,Own.sel ‹_› [0,1,2] rfl⟩,by simp;omega⟩
    ·skip
     refine rR (fA bQ rfl rfl rfl ?_);refine rR (fA jS rfl rfl rfl ?_);refine rR (aCi o10q 3 rfl aS rfl rfl ?_);refine aCn (fun c1113=>?_) (fun hc=>absurd hc (by first|omega|assumption|decide|exact rfl));refine aCY [0,1,2,3,4] [5] [6,7,8] [0,1,2,3,4,5,6,7,8] mixed (by kernel_rfl) rfl (fun _ _ _ _ h=>h) ?_;refine nC rfl ?_;refine fA bO rfl rfl rfl ?_;refine fA bQ rfl rfl rfl ?_;refine fA jS rfl rfl rfl ?_;refine aCi o10q 3 rfl aS rfl rfl ?_;refine aCo (B:=B) ‹_› (bK el.den _ b5.1 b5.2 (hT.ext (Own.ext (B:=B) ‹_›))) (fun h17 m17 oc17 oq17=>?_) fun h17 m17 oq17=>?_
     case refine_2=>exact⟨(by rw[hRe];simp only[aA h1,aB h2,aR hel hQ (show(fun _=>bI) i el=none by show bI el=none;rw[hone];simp only[aA h4,hw5,if_pos hm5,aB h7,aB h9,if_neg hd1,dA h17,aJ,oMN,oMS]),aJ,oMN,oMS]),rfl,oq17⟩
     have hnl17:=bW h17;clear oc17;(refine aCS oq17 aK aL rfl rfl (by decide) (aI rfl ?_);intro b1160 m1160 o1160);refine aH [[47],Lib.itoa el.den] 2 30 [2,3] (i:=4) ‹_› rfl rfl rfl hp10 rfl (by omega) (by omega) (by first|(simp;done)|(simp;omega)) (by omega) (by omega) (fun p18 v18 bs18 k18 m18 hp18 hb18 hk18 hl18 oq=>?_);have o18q:=oq
     simp only[pick,lgS,lgZ]at o18q
     clear oq;refine aCY [0,1,2,3,6] [4] [5,7,8] [0,1,2,3,4,5,6,7,8] mixed (by kernel_rfl) rfl (fun _ _ _ _ h=>h) ?_;refine nC rfl ?_;refine fA bO rfl rfl rfl ?_;refine fA bQ rfl rfl rfl ?_;refine aCi o18q 3 rfl aS rfl rfl ?_;refine aCo (B:=B) ‹_› (bK el.gives _ b6.1 b6.2 (hT.ext (Own.ext (B:=B) ‹_›))) (fun h19 m19 oc19 oq19=>?_) fun h19 m19 oq19=>?_
     case refine_2=>exact⟨(by rw[hRe];simp only[aA h1,aB h2,aR hel hQ (show(fun _=>bI) i el=none by show bI el=none;rw[hone];simp only[aA h4,hw5,if_pos hm5,aB h7,aB h9,if_neg hd1,aB h17,dA h19,aJ,oMN,oMS]),aJ,oMN,oMS]),rfl,oq19⟩
     have hnl19:=bW h19;clear oc19;refine aCs rfl rfl (by first|omega|(simp;omega)) ?_;(refine aCS oq19 aK aL rfl rfl (by decide) (aI rfl ?_);intro b1261 m1261 o1261);refine aH [[32,103,105,118,101,115],[32]++Lib.itoa el.gives] 2 30 [2,3] (i:=4) ‹_› rfl rfl rfl hp18 rfl (by omega) (by omega) (by first|(simp;done)|(simp;omega)) (by omega) (by omega) (fun p20 v20 bs20 k20 m20 hp20 hb20 hk20 hl20 oq=>?_);have o20q:=oq
     simp only[pick,lgS,lgZ]at o20q
     clear oq;by_cases htk0:el.takes=0
     ·skip
      refine rR (fA bQ rfl rfl rfl ?_);refine rR (aCi o20q 3 rfl aS rfl rfl ?_);refine aCn (fun hc=>absurd (by first|omega|assumption|decide|exact rfl) hc) (fun c1312=>?_);refine rR (nC rfl ?_);refine rR (fA bO rfl rfl rfl ?_);(refine aCS o20q aK aL rfl rfl (by decide) (aI rfl ?_);intro b1315 m1315 o1315);refine aH [[59]] 1 30 [2,3] (i:=4) ‹_› rfl rfl rfl hp20 rfl (by omega) (by omega) (by first|(simp;done)|(simp;omega)) (by omega) (by omega) (fun p21 v21 bs21 k21 m21 hp21 hb21 hk21 hl21 oq=>?_);have o21q:=oq
      simp only[pick,lgS,lgZ]at o21q
      clear oq;refine aC2 (by omega) (by omega) ?_
      refine⟨rfl,?_⟩
      exact⟨⟨i+1,p21,v21,bs21,k21,ps++([aD [10,32,32] el.attr]++([aD [32] w5]++([bP [32] el.tol]++([aD [32] [108,101,97,115,116]]++([bP [32] el.num]++(aO [] [47]::[bP [] el.den]++([aD [32] [103,105,118,101,115]]++([bP [32] el.gives]++([]++([aO [] [59]]++[])))))))))),by omega,rfl,hp21,bA hel hQ (by(first|rw[hone]|(show bI el=_;rw[hone]));simp only[aA h4,hw5,if_pos hm5,aB h7,aB h9,if_neg hd1,aB h17,aB h19,if_pos htk0,aJ,oMS]),by rw[hb21,hb20,hb18,hb10,hb8,hb6,hb'];simp[bG,fM,wr,aD,aO,bP],by rw[hk21,hk20,hk18,hk10,hk8,hk6,hk'];first|(simp;done)|(simp;omega),by omega,by omega,Own.sel ‹_› [0,1,2] rfl⟩,by simp;omega⟩
     ·skip
      refine rR (fA bQ rfl rfl rfl ?_);refine rR (aCi o20q 3 rfl aS rfl rfl ?_);refine aCn (fun c1412=>?_) (fun hc=>absurd hc (by first|omega|assumption|decide|exact rfl));refine aCY [0,1,2,3,6] [4] [5,7,8] [0,1,2,3,4,5,6,7,8] mixed (by kernel_rfl) rfl (fun _ _ _ _ h=>h) ?_;refine nC rfl ?_;refine fA bO rfl rfl rfl ?_;refine fA bQ rfl rfl rfl ?_;refine aCi o20q 3 rfl aS rfl rfl ?_;refine aCo (B:=B) ‹_› (bK el.takes _ b7.1 b7.2 (hT.ext (Own.ext (B:=B) ‹_›))) (fun h22 m22 oc22 oq22=>?_) fun h22 m22 oq22=>?_
      case refine_2=>exact⟨(by rw[hRe];simp only[aA h1,aB h2,aR hel hQ (show(fun _=>bI) i el=none by show bI el=none;rw[hone];simp only[aA h4,hw5,if_pos hm5,aB h7,aB h9,if_neg hd1,aB h17,aB h19,if_neg htk0,dA h22,aJ,oMN,oMS]),aJ,oMN,oMS]),rfl,oq22⟩
      have hnl22:=bW h22;clear oc22;refine aCs rfl rfl (by first|omega|(simp;omega)) ?_;(refine aCS oq22 aK aL rfl rfl (by decide) (aI rfl ?_);intro b1461 m1461 o1461);refine aH [[32,116,97,107,101,115],[32]++Lib.itoa el.takes] 2 30 [2,3] (i:=4) ‹_› rfl rfl rfl hp20 rfl (by omega) (by omega) (by first|(simp;done)|(simp;omega)) (by omega) (by omega) (fun p23 v23 bs23 k23 m23 hp23 hb23 hk23 hl23 oq=>?_);have o23q:=oq
      simp only[pick,lgS,lgZ]at o23q
      clear oq;refine rR (nC rfl ?_);refine rR (fA bO rfl rfl rfl ?_);(refine aCS o23q aK aL rfl rfl (by decide) (aI rfl ?_);intro b1512 m1512 o1512);refine aH [[59]] 1 30 [2,3] (i:=4) ‹_› rfl rfl rfl hp23 rfl (by omega) (by omega) (by first|(simp;done)|(simp;omega)) (by omega) (by omega) (fun p24 v24 bs24 k24 m24 hp24 hb24 hk24 hl24 oq=>?_);have o24q:=oq
      simp only[pick,lgS,lgZ]at o24q
      clear oq;refine aC2 (by omega) (by omega) ?_
      refine⟨rfl,?_⟩
      exact⟨⟨i+1,p24,v24,bs24,k24,ps++([aD [10,32,32] el.attr]++([aD [32] w5]++([bP [32] el.tol]++([aD [32] [108,101,97,115,116]]++([bP [32] el.num]++(aO [] [47]::[bP [] el.den]++([aD [32] [103,105,118,101,115]]++([bP [32] el.gives]++(aD [32] [116,97,107,101,115]::[bP [32] el.takes]++([aO [] [59]]++[])))))))))),by omega,rfl,hp24,bA hel hQ (by(first|rw[hone]|(show bI el=_;rw[hone]));simp only[aA h4,hw5,if_pos hm5,aB h7,aB h9,if_neg hd1,aB h17,aB h19,if_neg htk0,aB h22,aJ,oMS]),by rw[hb24,hb23,hb20,hb18,hb10,hb8,hb6,hb'];simp[bG,fM,wr,aD,aO,bP],by rw[hk24,hk23,hk20,hk18,hk10,hk8,hk6,hk'];first|(simp;done)|(simp;omega),by omega,by omega,Own.sel ‹_› [0,1,2] rfl⟩,by simp;omega⟩
   ·by_cases ht0:el.tol=0
    case neg =>
     refine rR (fA bQ rfl rfl rfl ?_);refine rR (aCi o6q 3 rfl aS rfl rfl ?_);refine aCV (fun hc=>absurd hc (by omega)) (fun c1612=>?_);refine rR (fA bQ rfl rfl rfl ?_);refine rR (aCi o6q 3 rfl aS rfl rfl ?_);refine aCo (B:=B) ‹_› (aE _ _) (fun e9 m9 _ oq=>absurd (of_decide_eq_true e9) ht0) fun e9 m9 oq=>?_
     exact⟨(by rw[hRe];simp only[aA h1,aB h2,aR hel hQ (show(fun _=>bI) i el=none by show bI el=none;rw[hone];simp only[aA h4,hw5,if_neg hm5,if_neg ht0,aJ,oMN,oMS]),aJ,oMN,oMS]),rfl,oq⟩
    refine rR (fA bQ rfl rfl rfl ?_);refine rR (aCi o6q 3 rfl aS rfl rfl ?_);refine aCV (fun hc=>absurd hc (by omega)) (fun c1662=>?_);refine rR (fA bQ rfl rfl rfl ?_);refine rR (aCi o6q 3 rfl aS rfl rfl ?_);refine aCo (B:=B) ‹_› (aE _ _) (fun e9 m9 oc oq=>?_) fun e9 m9 oq=>absurd ht0 (of_decide_eq_false e9);clear oc e9;refine aCY [0,1,2,3,4,7] [5] [6,8,9] [0,1,2,3,4,5,6,7,8,9] mixed (by kernel_rfl) rfl (fun _ _ _ _ h=>h) ?_;refine nC rfl ?_;refine fA bO rfl rfl rfl ?_;refine fA bQ rfl rfl rfl ?_;refine fA jS rfl rfl rfl ?_;refine aCi oq 3 rfl aS rfl rfl ?_;refine aCo (B:=B) ‹_› (bK el.num _ b4.1 b4.2 (hT.ext (Own.ext (B:=B) ‹_›))) (fun h25 m25 oc25 oq25=>?_) fun h25 m25 oq25=>?_
    case refine_2=>exact⟨(by rw[hRe];simp only[aA h1,aB h2,aR hel hQ (show(fun _=>bI) i el=none by show bI el=none;rw[hone];simp only[aA h4,hw5,if_neg hm5,if_pos ht0,dA h25,aJ,oMN,oMS]),aJ,oMN,oMS]),rfl,oq25⟩
    have hnl25:=bW h25;clear oc25;refine aCs rfl rfl (by first|omega|(simp;omega)) ?_;(refine aCS oq25 aK aL rfl rfl (by decide) (aI rfl ?_);intro b1761 m1761 o1761);refine aH [[32,108,101,97,115,116],[32]++Lib.itoa el.num] 2 30 [2,3] (i:=4) ‹_› rfl rfl rfl hp6 rfl (by omega) (by omega) (by first|(simp;done)|(simp;omega)) (by omega) (by omega) (fun p26 v26 bs26 k26 m26 hp26 hb26 hk26 hl26 oq=>?_);have o26q:=oq
    simp only[pick,lgS,lgZ]at o26q
    clear oq;by_cases hd1:el.den=1
    ·skip
     refine rR (fA bQ rfl rfl rfl ?_);refine rR (fA jS rfl rfl rfl ?_);refine rR (aCi o26q 3 rfl aS rfl rfl ?_);refine aCn (fun hc=>absurd (by first|omega|assumption|decide|exact rfl) hc) (fun c1813=>?_);refine aCY [0,1,2,3,6] [4] [5,7,8] [0,1,2,3,4,5,6,7,8] mixed (by kernel_rfl) rfl (fun _ _ _ _ h=>h) ?_;refine nC rfl ?_;refine fA bO rfl rfl rfl ?_;refine fA bQ rfl rfl rfl ?_;refine aCi o26q 3 rfl aS rfl rfl ?_;refine aCo (B:=B) ‹_› (bK el.gives _ b6.1 b6.2 (hT.ext (Own.ext (B:=B) ‹_›))) (fun h27 m27 oc27 oq27=>?_) fun h27 m27 oq27=>?_
     case refine_2=>exact⟨(by rw[hRe];simp only[aA h1,aB h2,aR hel hQ (show(fun _=>bI) i el=none by show bI el=none;rw[hone];simp only[aA h4,hw5,if_neg hm5,if_pos ht0,aB h25,if_pos hd1,dA h27,aJ,oMN,oMS]),aJ,oMN,oMS]),rfl,oq27⟩
     have hnl27:=bW h27;clear oc27;refine aCs rfl rfl (by first|omega|(simp;omega)) ?_;(refine aCS oq27 aK aL rfl rfl (by decide) (aI rfl ?_);intro b1861 m1861 o1861);refine aH [[32,103,105,118,101,115],[32]++Lib.itoa el.gives] 2 30 [2,3] (i:=4) ‹_› rfl rfl rfl hp26 rfl (by omega) (by omega) (by first|(simp;done)|(simp;omega)) (by omega) (by omega) (fun p28 v28 bs28 k28 m28 hp28 hb28 hk28 hl28 oq=>?_);have o28q:=oq
     simp only[pick,lgS,lgZ]at o28q
     clear oq;by_cases htk0:el.takes=0
     ·skip
      refine rR (fA bQ rfl rfl rfl ?_);refine rR (aCi o28q 3 rfl aS rfl rfl ?_);refine aCn (fun hc=>absurd (by first|omega|assumption|decide|exact rfl) hc) (fun c1912=>?_);refine rR (nC rfl ?_);refine rR (fA bO rfl rfl rfl ?_);(refine aCS o28q aK aL rfl rfl (by decide) (aI rfl ?_);intro b1915 m1915 o1915);refine aH [[59]] 1 30 [2,3] (i:=4) ‹_› rfl rfl rfl hp28 rfl (by omega) (by omega) (by first|(simp;done)|(simp;omega)) (by omega) (by omega) (fun p29 v29 bs29 k29 m29 hp29 hb29 hk29 hl29 oq=>?_);have o29q:=oq
      simp only[pick,lgS,lgZ]at o29q
      clear oq;refine aC2 (by omega) (by omega) ?_
      refine⟨rfl,?_⟩
      exact⟨⟨i+1,p29,v29,bs29,k29,ps++([aD [10,32,32] el.attr]++([aD [32] w5]++([]++([aD [32] [108,101,97,115,116]]++([bP [32] el.num]++([]++([aD [32] [103,105,118,101,115]]++([bP [32] el.gives]++([]++([aO [] [59]]++[])))))))))),by omega,rfl,hp29,bA hel hQ (by(first|rw[hone]|(show bI el=_;rw[hone]));simp only[aA h4,hw5,if_neg hm5,if_pos ht0,aB h25,if_pos hd1,aB h27,if_pos htk0,aJ,oMS]),by rw[hb29,hb28,hb26,hb6,hb'];simp[bG,fM,wr,aD,aO,bP],by rw[hk29,hk28,hk26,hk6,hk'];first|(simp;done)|(simp;omega),by omega,by omega,Own.sel ‹_› [0,1,2] rfl⟩,by simp;omega⟩
     ·skip
      refine rR (fA bQ rfl rfl rfl ?_);refine rR (aCi o28q 3 rfl aS rfl rfl ?_);refine aCn (fun c2012=>?_) (fun hc=>absurd hc (by first|omega|assumption|decide|exact rfl));refine aCY [0,1,2,3,6] [4] [5,7,8] [0,1,2,3,4,5,6,7,8] mixed (by kernel_rfl) rfl (fun _ _ _ _ h=>h) ?_;refine nC rfl ?_;refine fA bO rfl rfl rfl ?_;refine fA bQ rfl rfl rfl ?_;refine aCi o28q 3 rfl aS rfl rfl ?_;refine aCo (B:=B) ‹_› (bK el.takes _ b7.1 b7.2 (hT.ext (Own.ext (B:=B) ‹_›))) (fun h30 m30 oc30 oq30=>?_) fun h30 m30 oq30=>?_
      case refine_2=>exact⟨(by rw[hRe];simp only[aA h1,aB h2,aR hel hQ (show(fun _=>bI) i el=none by show bI el=none;rw[hone];simp only[aA h4,hw5,if_neg hm5,if_pos ht0,aB h25,if_pos hd1,aB h27,if_neg htk0,dA h30,aJ,oMN,oMS]),aJ,oMN,oMS]),rfl,oq30⟩
      have hnl30:=bW h30;clear oc30;refine aCs rfl rfl (by first|omega|(simp;omega)) ?_;(refine aCS oq30 aK aL rfl rfl (by decide) (aI rfl ?_);intro b2061 m2061 o2061);refine aH [[32,116,97,107,101,115],[32]++Lib.itoa el.takes] 2 30 [2,3] (i:=4) ‹_› rfl rfl rfl hp28 rfl (by omega) (by omega) (by first|(simp;done)|(simp;omega)) (by omega) (by omega) (fun p31 v31 bs31 k31 m31 hp31 hb31 hk31 hl31 oq=>?_);have o31q:=oq
      simp only[pick,lgS,lgZ]at o31q
      clear oq;refine rR (nC rfl ?_);refine rR (fA bO rfl rfl rfl ?_);(refine aCS o31q aK aL rfl rfl (by decide) (aI rfl ?_);intro b2112 m2112 o2112);refine aH [[59]] 1 30 [2,3] (i:=4) ‹_› rfl rfl rfl hp31 rfl (by omega) (by omega) (by first|(simp;done)|(simp;omega)) (by omega) (by omega) (fun p32 v32 bs32 k32 m32 hp32 hb32 hk32 hl32 oq=>?_);have o32q:=oq
      simp only[pick,lgS,lgZ]at o32q
      clear oq;refine aC2 (by omega) (by omega) ?_
      refine⟨rfl,?_⟩
      exact⟨⟨i+1,p32,v32,bs32,k32,ps++([aD [10,32,32] el.attr]++([aD [32] w5]++([]++([aD [32] [108,101,97,115,116]]++([bP [32] el.num]++([]++([aD [32] [103,105,118,101,115]]++([bP [32] el.gives]++(aD [32] [116,97,107,101,115]::[bP [32] el.takes]++([aO [] [59]]++[])))))))))),by omega,rfl,hp32,bA hel hQ (by(first|rw[hone]|(show bI el=_;rw[hone]));simp only[aA h4,hw5,if_neg hm5,if_pos ht0,aB h25,if_pos hd1,aB h27,if_neg htk0,aB h30,aJ,oMS]),by rw[hb32,hb31,hb28,hb26,hb6,hb'];simp[bG,fM,wr,aD,aO,bP],by rw[hk32,hk31,hk28,hk26,hk6,hk'];first|(simp;done)|(simp;omega),by omega,by omega,Own.sel ‹_› [0,1,2] rfl⟩,by simp;omega⟩
    ·skip
     refine rR (fA bQ rfl rfl rfl ?_);refine rR (fA jS rfl rfl rfl ?_);refine rR (aCi o26q 3 rfl aS rfl rfl ?_);refine aCn (fun c2213=>?_) (fun hc=>absurd hc (by first|omega|assumption|decide|exact rfl));refine aCY [0,1,2,3,4] [5] [6,7,8] [0,1,2,3,4,5,6,7,8] mixed (by kernel_rfl) rfl (fun _ _ _ _ h=>h) ?_;refine nC rfl ?_;refine fA bO rfl rfl rfl ?_;refine fA bQ rfl rfl rfl ?_;refine fA jS rfl rfl rfl ?_;refine aCi o26q 3 rfl aS rfl rfl ?_;refine aCo (B:=B) ‹_› (bK el.den _ b5.1 b5.2 (hT.ext (Own.ext (B:=B) ‹_›))) (fun h33 m33 oc33 oq33=>?_) fun h33 m33 oq33=>?_
     case refine_2=>exact⟨(by rw[hRe];simp only[aA h1,aB h2,aR hel hQ (show(fun _=>bI) i el=none by show bI el=none;rw[hone];simp only[aA h4,hw5,if_neg hm5,if_pos ht0,aB h25,if_neg hd1,dA h33,aJ,oMN,oMS]),aJ,oMN,oMS]),rfl,oq33⟩
     have hnl33:=bW h33;clear oc33;(refine aCS oq33 aK aL rfl rfl (by decide) (aI rfl ?_);intro b2260 m2260 o2260);refine aH [[47],Lib.itoa el.den] 2 30 [2,3] (i:=4) ‹_› rfl rfl rfl hp26 rfl (by omega) (by omega) (by first|(simp;done)|(simp;omega)) (by omega) (by omega) (fun p34 v34 bs34 k34 m34 hp34 hb34 hk34 hl34 oq=>?_);have o34q:=oq
     simp only[pick,lgS,lgZ]at o34q
     clear oq;refine aCY [0,1,2,3,6] [4] [5,7,8] [0,1,2,3,4,5,6,7,8] mixed (by kernel_rfl) rfl (fun _ _ _ _ h=>h) ?_;refine nC rfl ?_;refine fA bO rfl rfl rfl ?_;refine fA bQ rfl rfl rfl ?_;refine aCi o34q 3 rfl aS rfl rfl ?_;refine aCo (B:=B) ‹_› (bK el.gives _ b6.1 b6.2 (hT.ext (Own.ext (B:=B) ‹_›))) (fun h35 m35 oc35 oq35=>?_) fun h35 m35 oq35=>?_
     case refine_2=>exact⟨(by rw[hRe];simp only[aA h1,aB h2,aR hel hQ (show(fun _=>bI) i el=none by show bI el=none;rw[hone];simp only[aA h4,hw5,if_neg hm5,if_pos ht0,aB h25,if_neg hd1,aB h33,dA h35,aJ,oMN,oMS]),aJ,oMN,oMS]),rfl,oq35⟩
     have hnl35:=bW h35;clear oc35;refine aCs rfl rfl (by first|omega|(simp;omega)) ?_;(refine aCS oq35 aK aL rfl rfl (by decide) (aI rfl ?_);intro b2361 m2361 o2361);refine aH [[32,103,105,118,101,115],[32]++Lib.itoa el.gives] 2 30 [2,3] (i:=4) ‹_› rfl rfl rfl hp34 rfl (by omega) (by omega) (by first|(simp;done)|(simp;omega)) (by omega) (by omega) (fun p36 v36 bs36 k36 m36 hp36 hb36 hk36 hl36 oq=>?_);have o36q:=oq
     simp only[pick,lgS,lgZ]at o36q
     clear oq;by_cases htk0:el.takes=0
     ·skip
      refine rR (fA bQ rfl rfl rfl ?_);refine rR (aCi o36q 3 rfl aS rfl rfl ?_);refine aCn (fun hc=>absurd (by first|omega|assumption|decide|exact rfl) hc) (fun c2412=>?_);refine rR (nC rfl ?_);refine rR (fA bO rfl rfl rfl ?_);(refine aCS o36q aK aL rfl rfl (by decide) (aI rfl ?_);intro b2415 m2415 o2415);refine aH [[59]] 1 30 [2,3] (i:=4) ‹_› rfl rfl rfl hp36 rfl (by omega) (by omega) (by first|(simp;done)|(simp;omega)) (by omega) (by omega) (fun p37 v37 bs37 k37 m37 hp37 hb37 hk37 hl37 oq=>?_);have o37q:=oq
      simp only[pick,lgS,lgZ]at o37q
      clear oq;refine aC2 (by omega) (by omega) ?_
      refine⟨rfl,?_⟩
      exact⟨⟨i+1,p37,v37,bs37,k37,ps++([aD [10,32,32] el.attr]++([aD [32] w5]++([]++([aD [32] [108,101,97,115,116]]++([bP [32] el.num]++(aO [] [47]::[bP [] el.den]++([aD [32] [103,105,118,101,115]]++([bP [32] el.gives]++([]++([aO [] [59]]++[])))))))))),by omega,rfl,hp37,bA hel hQ (by(first|rw[hone]|(show bI el=_;rw[hone]));simp only[aA h4,hw5,if_neg hm5,if_pos ht0,aB h25,if_neg hd1,aB h33,aB h35,if_pos htk0,aJ,oMS]),by rw[hb37,hb36,hb34,hb26,hb6,hb'];simp[bG,fM,wr,aD,aO,bP],by rw[hk37,hk36,hk34,hk26,hk6,hk'];first|(simp;done)|(simp;omega),by omega,by omega,Own.sel ‹_› [0,1,2] rfl⟩,by simp;omega⟩
     ·skip
      refine rR (fA bQ rfl rfl rfl ?_);refine rR (aCi o36q 3 rfl aS rfl rfl ?_);refine aCn (fun c2512=>?_) (fun hc=>absurd hc (by first|omega|assumption|decide|exact rfl));refine aCY [0,1,2,3,6] [4] [5,7,8] [0,1,2,3,4,5,6,7,8] mixed (by kernel_rfl) rfl (fun _ _ _ _ h=>h) ?_;refine nC rfl ?_;refine fA bO rfl rfl rfl ?_;refine fA bQ rfl rfl rfl ?_;refine aCi o36q 3 rfl aS rfl rfl ?_;refine aCo (B:=B) ‹_› (bK el.takes _ b7.1 b7.2 (hT.ext (Own.ext (B:=B) ‹_›))) (fun h38 m38 oc38 oq38=>?_) fun h38 m38 oq38=>?_
      case refine_2=>exact⟨(by rw[hRe];simp only[aA h1,aB h2,aR hel hQ (show(fun _=>bI) i el=none by show bI el=none;rw[hone];simp only[aA h4,hw5,if_neg hm5,if_pos ht0,aB h25,if_neg hd1,aB h33,aB h35,if_neg htk0,dA h38,aJ,oMN,oMS]),aJ,oMN,oMS]),rfl,oq38⟩
      have hnl38:=bW h38;clear oc38;refine aCs rfl rfl (by first|omega|(simp;omega)) ?_;(refine aCS oq38 aK aL rfl rfl (by decide) (aI rfl ?_);intro b2561 m2561 o2561);refine aH [[32,116,97,107,101,115],[32]++Lib.itoa el.takes] 2 30 [2,3] (i:=4) ‹_› rfl rfl rfl hp36 rfl (by omega) (by omega) (by first|(simp;done)|(simp;omega)) (by omega) (by omega) (fun p39 v39 bs39 k39 m39 hp39 hb39 hk39 hl39 oq=>?_);have o39q:=oq
      simp only[pick,lgS,lgZ]at o39q
      clear oq;refine rR (nC rfl ?_);refine rR (fA bO rfl rfl rfl ?_);(refine aCS o39q aK aL rfl rfl (by decide) (aI rfl ?_);intro b2612 m2612 o2612);refine aH [[59]] 1 30 [2,3] (i:=4) ‹_› rfl rfl rfl hp39 rfl (by omega) (by omega) (by first|(simp;done)|(simp;omega)) (by omega) (by omega) (fun p40 v40 bs40 k40 m40 hp40 hb40 hk40 hl40 oq=>?_);have o40q:=oq
      simp only[pick,lgS,lgZ]at o40q
      clear oq;refine aC2 (by omega) (by omega) ?_
      refine⟨rfl,?_⟩
      exact⟨⟨i+1,p40,v40,bs40,k40,ps++([aD [10,32,32] el.attr]++([aD [32] w5]++([]++([aD [32] [108,101,97,115,116]]++([bP [32] el.num]++(aO [] [47]::[bP [] el.den]++([aD [32] [103,105,118,101,115]]++([bP [32] el.gives]++(aD [32] [116,97,107,101,115]::[bP [32] el.takes]++([aO [] [59]]++[])))))))))),by omega,rfl,hp40,bA hel hQ (by(first|rw[hone]|(show bI el=_;rw[hone]));simp only[aA h4,hw5,if_neg hm5,if_pos ht0,aB h25,if_neg hd1,aB h33,aB h35,if_neg htk0,aB h38,aJ,oMS]),by rw[hb40,hb39,hb36,hb34,hb26,hb6,hb'];simp[bG,fM,wr,aD,aO,bP],by rw[hk40,hk39,hk36,hk34,hk26,hk6,hk'];first|(simp;done)|(simp;omega),by omega,by omega,Own.sel ‹_› [0,1,2] rfl⟩,by simp;omega⟩
  ·skip
   (refine aCS o264 aK aL rfl rfl (by decide) (aI rfl ?_);intro b2710 m2710 o2710);refine aI ((o2710.boxBlk 3 rfl).trans (o264.boxBlk 3 rfl).symm) ?_;refine aCo (B:=B) ‹_› (bJ el.attr _ hn1) (fun h41 m41 oc41 oq41=>?_) fun h41 m41 oq41=>?_
   case refine_2=>exact⟨(by rw[hRe];simp only[aA h1,aB h2,aR hel hQ (show(fun _=>bI) i el=none by show bI el=none;rw[hone];simp only[cS h41,aJ,oMN,oMS]),aJ,oMN,oMS]),rfl,oq41⟩
   have hnl41:=cR h41;refine aI ((oq41.boxBlk 3 rfl).trans (o2710.boxBlk 3 rfl).symm) ?_;refine aCs rfl rfl (by first|omega|(simp;omega)) ?_;refine aCo (B:=B) ‹_› (dQ el.measure [[101,113,117,97,108],[101,100,105,116],[106,97,99,99,97,114,100],[106,97,114,111],[110,101,97,114]] _ _ (by omega) (by omega) (Own.boxArr ‹_› 4 rfl rfl (by decide)) (by simp) (by simp)) (fun h42 m42 oc42 oq42=>?_) fun h42 m42 oq42=>?_
   case refine_2=>exact⟨(by rw[hRe];simp only[aA h1,aB h2,aR hel hQ (show(fun _=>bI) i el=none by show bI el=none;rw[hone];simp only[aA h41,lL (of_decide_eq_false h42),aJ,oMN,oMS]),aJ,oMN,oMS]),rfl,oq42⟩
   have h42:=of_decide_eq_true h42;have hw42:=jR (n:=el.measure) h42;have hnl42:=kH (ws:=[[101,113,117,97,108],[101,100,105,116],[106,97,99,99,97,114,100],[106,97,114,111],[110,101,97,114]]) (M:=10) (by simp) (el.measure - 1).toNat;generalize ([[101,113,117,97,108],[101,100,105,116],[106,97,99,99,97,114,100],[106,97,114,111],[110,101,97,114]]:List aBs).getD (el.measure - 1).toNat []=w42 at hw42 hnl42;clear oc42;(refine aCS oq42 aK aL rfl rfl (by decide) (aI rfl ?_);intro b2810 m2810 o2810);refine aH [[10,32,32]++el.attr,32::w42] 2 30 [2,3] (i:=5) ‹_› rfl rfl rfl hp' rfl (by omega) (by omega) (by first|(simp;done)|(simp;omega)) (by omega) (by omega) (fun p43 v43 bs43 k43 m43 hp43 hb43 hk43 hl43 oq=>?_);have o43q:=oq
   simp only[pick,lgS,lgZ]at o43q
   clear oq;by_cases hm5:el.measure=5
   ·skip
    refine rR (fA bQ rfl rfl rfl ?_);refine rR (aCi o43q 3 rfl aS rfl rfl ?_);refine aCV (fun c2862=>?_) (fun hc=>absurd (by omega) hc);refine aCY [0,1,2,3,6] [4] [5,7,8] [0,1,2,3,4,5,6,7,8] mixed (by kernel_rfl) rfl (fun _ _ _ _ h=>h) ?_;refine nC rfl ?_;refine fA bO rfl rfl rfl ?_;refine fA bQ rfl rfl rfl ?_;refine aCi o43q 3 rfl aS rfl rfl ?_;refine aCo (B:=B) ‹_› (bK el.tol _ b3.1 b3.2 (hT.ext (Own.ext (B:=B) ‹_›))) (fun h44 m44 oc44 oq44=>?_) fun h44 m44 oq44=>?_
    case refine_2=>exact⟨(by rw[hRe];simp only[aA h1,aB h2,aR hel hQ (show(fun _=>bI) i el=none by show bI el=none;rw[hone];simp only[aA h41,hw42,if_pos hm5,dA h44,aJ,oMN,oMS]),aJ,oMN,oMS]),rfl,oq44⟩
    have hnl44:=bW h44;clear oc44;refine aCs rfl rfl (by first|omega|(simp;omega)) ?_;(refine aCS oq44 aK aL rfl rfl (by decide) (aI rfl ?_);intro b2911 m2911 o2911);refine aH [[32]++Lib.itoa el.tol] 1 30 [2,3] (i:=4) ‹_› rfl rfl rfl hp43 rfl (by omega) (by omega) (by first|(simp;done)|(simp;omega)) (by omega) (by omega) (fun p45 v45 bs45 k45 m45 hp45 hb45 hk45 hl45 oq=>?_);have o45q:=oq
    simp only[pick,lgS,lgZ]at o45q
    clear oq;refine aCY [0,1,2,3,4,7] [5] [6,8,9] [0,1,2,3,4,5,6,7,8,9] mixed (by kernel_rfl) rfl (fun _ _ _ _ h=>h) ?_;refine nC rfl ?_;refine fA bO rfl rfl rfl ?_;refine fA bQ rfl rfl rfl ?_;refine fA jS rfl rfl rfl ?_;refine aCi o45q 3 rfl aS rfl rfl ?_;refine aCo (B:=B) ‹_› (bK el.num _ b4.1 b4.2 (hT.ext (Own.ext (B:=B) ‹_›))) (fun h46 m46 oc46 oq46=>?_) fun h46 m46 oq46=>?_
    case refine_2=>exact⟨(by rw[hRe];simp only[aA h1,aB h2,aR hel hQ (show(fun _=>bI) i el=none by show bI el=none;rw[hone];simp only[aA h41,hw42,if_pos hm5,aB h44,dA h46,aJ,oMN,oMS]),aJ,oMN,oMS]),rfl,oq46⟩
    have hnl46:=bW h46;clear oc46;refine aCs rfl rfl (by first|omega|(simp;omega)) ?_;(refine aCS oq46 aK aL rfl rfl (by decide) (aI rfl ?_);intro b3011 m3011 o3011);refine aH [[32,108,101,97,115,116],[32]++Lib.itoa el.num] 2 30 [2,3] (i:=4) ‹_› rfl rfl rfl hp45 rfl (by omega) (by omega) (by first|(simp;done)|(simp;omega)) (by omega) (by omega) (fun p47 v47 bs47 k47 m47 hp47 hb47 hk47 hl47 oq=>?_);have o47q:=oq
    simp only[pick,lgS,lgZ]at o47q
    clear oq;by_cases hd1:el.den=1
    ·skip
     refine rR (fA bQ rfl rfl rfl ?_);refine rR (fA jS rfl rfl rfl ?_);refine rR (aCi o47q 3 rfl aS rfl rfl ?_);refine aCn (fun hc=>absurd (by first|omega|assumption|decide|exact rfl) hc) (fun c3063=>?_);refine aCY [0,1,2,3,6] [4] [5,7,8] [0,1,2,3,4,5,6,7,8] mixed (by kernel_rfl) rfl (fun _ _ _ _ h=>h) ?_;refine nC rfl ?_;refine fA bO rfl rfl rfl ?_;refine fA bQ rfl rfl rfl ?_;refine aCi o47q 3 rfl aS rfl rfl ?_;refine aCo (B:=B) ‹_› (bK el.gives _ b6.1 b6.2 (hT.ext (Own.ext (B:=B) ‹_›))) (fun h48 m48 oc48 oq48=>?_) fun h48 m48 oq48=>?_
     case refine_2=>exact⟨(by rw[hRe];simp only[aA h1,aB h2,aR hel hQ (show(fun _=>bI) i el=none by show bI el=none;rw[hone];simp only[aA h41,hw42,if_pos hm5,aB h44,aB h46,if_pos hd1,dA h48,aJ,oMN,oMS]),aJ,oMN,oMS]),rfl,oq48⟩
     have hnl48:=bW h48;clear oc48;refine aCs rfl rfl (by first|omega|(simp;omega)) ?_;(refine aCS oq48 aK aL rfl rfl (by decide) (aI rfl ?_);intro b3111 m3111 o3111);refine aH [[32,103,105,118,101,115],[32]++Lib.itoa el.gives] 2 30 [2,3] (i:=4) ‹_› rfl rfl rfl hp47 rfl (by omega) (by omega) (by first|(simp;done)|(simp;omega)) (by omega) (by omega) (fun p49 v49 bs49 k49 m49 hp49 hb49 hk49 hl49 oq=>?_);have o49q:=oq
     simp only[pick,lgS,lgZ]at o49q
     clear oq;by_cases htk0:el.takes=0
     ·skip
      refine rR (fA bQ rfl rfl rfl ?_);refine rR (aCi o49q 3 rfl aS rfl rfl ?_);refine aCn (fun hc=>absurd (by first|omega|assumption|decide|exact rfl) hc) (fun c3162=>?_);refine rR (nC rfl ?_);refine rR (fA bO rfl rfl rfl ?_);(refine aCS o49q aK aL rfl rfl (by decide) (aI rfl ?_);intro b3165 m3165 o3165);refine aH [[59]] 1 30 [2,3] (i:=4) ‹_› rfl rfl rfl hp49 rfl (by omega) (by omega) (by first|(simp;done)|(simp;omega)) (by omega) (by omega) (fun p50 v50 bs50 k50 m50 hp50 hb50 hk50 hl50 oq=>?_);have o50q:=oq
      simp only[pick,lgS,lgZ]at o50q
      clear oq;refine aC2 (by omega) (by omega) ?_
      refine⟨rfl,?_⟩
      exact⟨⟨i+1,p50,v50,bs50,k50,ps++([aD [10,32,32] el.attr]++([aD [32] w42]++([bP [32] el.tol]++([aD [32] [108,101,97,115,116]]++([bP [32] el.num]++([]++([aD [32] [103,105,118,101,115]]++([bP [32] el.gives]++([]++([aO [] [59]]++[])))))))))),by omega,rfl,hp50,bA hel hQ (by(first|rw[hone]|(show bI el=_;rw[hone]));simp only[aA h41,hw42,if_pos hm5,aB h44,aB h46,if_pos hd1,aB h48,if_pos htk0,aJ,oMS]),by rw[hb50,hb49,hb47,hb45,hb43,hb'];simp[bG,fM,wr,aD,aO,bP],by rw[hk50,hk49,hk47,hk45,hk43,hk'];first|(simp;done)|(simp;omega),by omega,by omega,Own.sel ‹_› [0,1,2] rfl⟩,by simp;omega⟩
     ·skip
      refine rR (fA bQ rfl rfl rfl ?_);refine rR (aCi o49q 3 rfl aS rfl rfl ?_);refine aCn (fun c3262=>?_) (fun hc=>absurd hc (by first|omega|assumption|decide|exact rfl));refine aCY [0,1,2,3,6] [4] [5,7,8] [0,1,2,3,4,5,6,7,8] mixed (by kernel_rfl) rfl (fun _ _ _ _ h=>h) ?_;refine nC rfl ?_;refine fA bO rfl rfl rfl ?_;refine fA bQ rfl rfl rfl ?_;refine aCi o49q 3 rfl aS rfl rfl ?_;refine aCo (B:=B) ‹_› (bK el.takes _ b7.1 b7.2 (hT.ext (Own.ext (B:=B) ‹_›))) (fun h51 m51 oc51 oq51=>?_) fun h51 m51 oq51=>?_
      case refine_2=>exact⟨(by rw[hRe];simp only[aA h1,aB h2,aR hel hQ (show(fun _=>bI) i el=none by show bI el=none;rw[hone];simp only[aA h41,hw42,if_pos hm5,aB h44,aB h46,if_pos hd1,aB h48,if_neg htk0,dA h51,aJ,oMN,oMS]),aJ,oMN,oMS]),rfl,oq51⟩
      have hnl51:=bW h51;clear oc51;refine aCs rfl rfl (by first|omega|(simp;omega)) ?_;(refine aCS oq51 aK aL rfl rfl (by decide) (aI rfl ?_);intro b3311 m3311 o3311);refine aH [[32,116,97,107,101,115],[32]++Lib.itoa el.takes] 2 30 [2,3] (i:=4) ‹_› rfl rfl rfl hp49 rfl (by omega) (by omega) (by first|(simp;done)|(simp;omega)) (by omega) (by omega) (fun p52 v52 bs52 k52 m52 hp52 hb52 hk52 hl52 oq=>?_);have o52q:=oq
      simp only[pick,lgS,lgZ]at o52q
      clear oq;refine rR (nC rfl ?_);refine rR (fA bO rfl rfl rfl ?_);(refine aCS o52q aK aL rfl rfl (by decide) (aI rfl ?_);intro b3362 m3362 o3362);refine aH [[59]] 1 30 [2,3] (i:=4) ‹_› rfl rfl rfl hp52 rfl (by omega) (by omega) (by first|(simp;done)|(simp;omega)) (by omega) (by omega) (fun p53 v53 bs53 k53 m53 hp53 hb53 hk53 hl53 oq=>?_);have o53q:=oq
      simp only[pick,lgS,lgZ]at o53q
      clear oq;refine aC2 (by omega) (by omega) ?_
      refine⟨rfl,?_⟩
      exact⟨⟨i+1,p53,v53,bs53,k53,ps++([aD [10,32,32] el.attr]++([aD [32] w42]++([bP [32] el.tol]++([aD [32] [108,101,97,115,116]]++([bP [32] el.num]++([]++([aD [32] [103,105,118,101,115]]++([bP [32] el.gives]++(aD [32] [116,97,107,101,115]::[bP [32] el.takes]++([aO [] [59]]++[])))))))))),by omega,rfl,hp53,bA hel hQ (by(first|rw[hone]|(show bI el=_;rw[hone]));simp only[aA h41,hw42,if_pos hm5,aB h44,aB h46,if_pos hd1,aB h48,if_neg htk0,aB h51,aJ,oMS]),by rw[hb53,hb52,hb49,hb47,hb45,hb43,hb'];simp[bG,fM,wr,aD,aO,bP],by rw[hk53,hk52,hk49,hk47,hk45,hk43,hk'];first|(simp;done)|(simp;omega),by omega,by omega,Own.sel ‹_› [0,1,2] rfl⟩,by simp;omega⟩
    ·skip
     refine rR (fA bQ rfl rfl rfl ?_);refine rR (fA jS rfl rfl rfl ?_);refine rR (aCi o47q 3 rfl aS rfl rfl ?_);refine aCn (fun c3463=>?_) (fun hc=>absurd hc (by first|omega|assumption|decide|exact rfl));refine aCY [0,1,2,3,4] [5] [6,7,8] [0,1,2,3,4,5,6,7,8] mixed (by kernel_rfl) rfl (fun _ _ _ _ h=>h) ?_;refine nC rfl ?_;refine fA bO rfl rfl rfl ?_;refine fA bQ rfl rfl rfl ?_;refine fA jS rfl rfl rfl ?_;refine aCi o47q 3 rfl aS rfl rfl ?_;refine aCo (B:=B) ‹_› (bK el.den _ b5.1 b5.2 (hT.ext (Own.ext (B:=B) ‹_›))) (fun h54 m54 oc54 oq54=>?_) fun h54 m54 oq54=>?_
     case refine_2=>exact⟨(by rw[hRe];simp only[aA h1,aB h2,aR hel hQ (show(fun _=>bI) i el=none by show bI el=none;rw[hone];simp only[aA h41,hw42,if_pos hm5,aB h44,aB h46,if_neg hd1,dA h54,aJ,oMN,oMS]),aJ,oMN,oMS]),rfl,oq54⟩
     have hnl54:=bW h54;clear oc54;(refine aCS oq54 aK aL rfl rfl (by decide) (aI rfl ?_);intro b3510 m3510 o3510);refine aH [[47],Lib.itoa el.den] 2 30 [2,3] (i:=4) ‹_› rfl rfl rfl hp47 rfl (by omega) (by omega) (by first|(simp;done)|(simp;omega)) (by omega) (by omega) (fun p55 v55 bs55 k55 m55 hp55 hb55 hk55 hl55 oq=>?_);have o55q:=oq
     simp only[pick,lgS,lgZ]at o55q
     clear oq;refine aCY [0,1,2,3,6] [4] [5,7,8] [0,1,2,3,4,5,6,7,8] mixed (by kernel_rfl) rfl (fun _ _ _ _ h=>h) ?_;refine nC rfl ?_;refine fA bO rfl rfl rfl ?_;refine fA bQ rfl rfl rfl ?_;refine aCi o55q 3 rfl aS rfl rfl ?_;refine aCo (B:=B) ‹_› (bK el.gives _ b6.1 b6.2 (hT.ext (Own.ext (B:=B) ‹_›))) (fun h56 m56 oc56 oq56=>?_) fun h56 m56 oq56=>?_
     case refine_2=>exact⟨(by rw[hRe];simp only[aA h1,aB h2,aR hel hQ (show(fun _=>bI) i el=none by show bI el=none;rw[hone];simp only[aA h41,hw42,if_pos hm5,aB h44,aB h46,if_neg hd1,aB h54,dA h56,aJ,oMN,oMS]),aJ,oMN,oMS]),rfl,oq56⟩
     have hnl56:=bW h56;clear oc56;refine aCs rfl rfl (by first|omega|(simp;omega)) ?_;(refine aCS oq56 aK aL rfl rfl (by decide) (aI rfl ?_);intro b3611 m3611 o3611);refine aH [[32,103,105,118,101,115],[32]++Lib.itoa el.gives] 2 30 [2,3] (i:=4) ‹_› rfl rfl rfl hp55 rfl (by omega) (by omega) (by first|(simp;done)|(simp;omega)) (by omega) (by omega) (fun p57 v57 bs57 k57 m57 hp57 hb57 hk57 hl57 oq=>?_);have o57q:=oq
     simp only[pick,lgS,lgZ]at o57q
     clear oq;by_cases htk0:el.takes=0
     ·skip
      refine rR (fA bQ rfl rfl rfl ?_);refine rR (aCi o57q 3 rfl aS rfl rfl ?_);refine aCn (fun hc=>absurd (by first|omega|assumption|decide|exact rfl) hc) (fun c3662=>?_);refine rR (nC rfl ?_);refine rR (fA bO rfl rfl rfl ?_);(refine aCS o57q aK aL rfl rfl (by decide) (aI rfl ?_);intro b3665 m3665 o3665);refine aH [[59]] 1 30 [2,3] (i:=4) ‹_› rfl rfl rfl hp57 rfl (by omega) (by omega) (by first|(simp;done)|(simp;omega)) (by omega) (by omega) (fun p58 v58 bs58 k58 m58 hp58 hb58 hk58 hl58 oq=>?_);have o58q:=oq
      simp only[pick,lgS,lgZ]at o58q
      clear oq;refine aC2 (by omega) (by omega) ?_
      refine⟨rfl,?_⟩
      exact⟨⟨i+1,p58,v58,bs58,k58,ps++([aD [10,32,32] el.attr]++([aD [32] w42]++([bP [32] el.tol]++([aD [32] [108,101,97,115,116]]++([bP [32] el.num]++(aO [] [47]::[bP [] el.den]++([aD [32] [103,105,118,101,115]]++([bP [32] el.gives]++([]++([aO [] [59]]++[])))))))))),by omega,rfl,hp58,bA hel hQ (by(first|rw[hone]|(show bI el=_;rw[hone]));simp only[aA h41,hw42,if_pos hm5,aB h44,aB h46,if_neg hd1,aB h54,aB h56,if_pos htk0,aJ,oMS]),by rw[hb58,hb57,hb55,hb47,hb45,hb43,hb'];simp[bG,fM,wr,aD,aO,bP],by rw[hk58,hk57,hk55,hk47,hk45,hk43,hk'];first|(simp;done)|(simp;omega),by omega,by omega,Own.sel ‹_› [0,1,2] rfl⟩,by simp;omega⟩
     ·skip
      refine rR (fA bQ rfl rfl rfl ?_);refine rR (aCi o57q 3 rfl aS rfl rfl ?_);refine aCn (fun c3762=>?_) (fun hc=>absurd hc (by first|omega|assumption|decide|exact rfl));refine aCY [0,1,2,3,6] [4] [5,7,8] [0,1,2,3,4,5,6,7,8] mixed (by kernel_rfl) rfl (fun _ _ _ _ h=>h) ?_;refine nC rfl ?_;refine fA bO rfl rfl rfl ?_;refine fA bQ rfl rfl rfl ?_;refine aCi o57q 3 rfl aS rfl rfl ?_;refine aCo (B:=B) ‹_› (bK el.takes _ b7.1 b7.2 (hT.ext (Own.ext (B:=B) ‹_›))) (fun h59 m59 oc59 oq59=>?_) fun h59 m59 oq59=>?_
      case refine_2=>exact⟨(by rw[hRe];simp only[aA h1,aB h2,aR hel hQ (show(fun _=>bI) i el=none by show bI el=none;rw[hone];simp only[aA h41,hw42,if_pos hm5,aB h44,aB h46,if_neg hd1,aB h54,aB h56,if_neg htk0,dA h59,aJ,oMN,oMS]),aJ,oMN,oMS]),rfl,oq59⟩
      have hnl59:=bW h59;clear oc59;refine aCs rfl rfl (by first|omega|(simp;omega)) ?_;(refine aCS oq59 aK aL rfl rfl (by decide) (aI rfl ?_);intro b3811 m3811 o3811);refine aH [[32,116,97,107,101,115],[32]++Lib.itoa el.takes] 2 30 [2,3] (i:=4) ‹_› rfl rfl rfl hp57 rfl (by omega) (by omega) (by first|(simp;done)|(simp;omega)) (by omega) (by omega) (fun p60 v60 bs60 k60 m60 hp60 hb60 hk60 hl60 oq=>?_);have o60q:=oq
      simp only[pick,lgS,lgZ]at o60q
      clear oq;refine rR (nC rfl ?_);refine rR (fA bO rfl rfl rfl ?_);(refine aCS o60q aK aL rfl rfl (by decide) (aI rfl ?_);intro b3862 m3862 o3862);refine aH [[59]] 1 30 [2,3] (i:=4) ‹_› rfl rfl rfl hp60 rfl (by omega) (by omega) (by first|(simp;done)|(simp;omega)) (by omega) (by omega) (fun p61 v61 bs61 k61 m61 hp61 hb61 hk61 hl61 oq=>?_);have o61q:=oq
      simp only[pick,lgS,lgZ]at o61q
      clear oq;refine aC2 (by omega) (by omega) ?_
      refine⟨rfl,?_⟩
      exact⟨⟨i+1,p61,v61,bs61,k61,ps++([aD [10,32,32] el.attr]++([aD [32] w42]++([bP [32] el.tol]++([aD [32] [108,101,97,115,116]]++([bP [32] el.num]++(aO [] [47]::[bP [] el.den]++([aD [32] [103,105,118,101,115]]++([bP [32] el.gives]++(aD [32] [116,97,107,101,115]::[bP [32] el.takes]++([aO [] [59]]++[])))))))))),by omega,rfl,hp61,bA hel hQ (by(first|rw[hone]|(show bI el=_;rw[hone]));simp only[aA h41,hw42,if_pos hm5,aB h44,aB h46,if_neg hd1,aB h54,aB h56,if_neg htk0,aB h59,aJ,oMS]),by rw[hb61,hb60,hb57,hb55,hb47,hb45,hb43,hb'];simp[bG,fM,wr,aD,aO,bP],by rw[hk61,hk60,hk57,hk55,hk47,hk45,hk43,hk'];first|(simp;done)|(simp;omega),by omega,by omega,Own.sel ‹_› [0,1,2] rfl⟩,by simp;omega⟩
   ·by_cases ht0:el.tol=0
    case neg =>
     refine rR (fA bQ rfl rfl rfl ?_);refine rR (aCi o43q 3 rfl aS rfl rfl ?_);refine aCV (fun hc=>absurd hc (by omega)) (fun c3962=>?_);refine rR (fA bQ rfl rfl rfl ?_);refine rR (aCi o43q 3 rfl aS rfl rfl ?_);refine aCo (B:=B) ‹_› (aE _ _) (fun e9 m9 _ oq=>absurd (of_decide_eq_true e9) ht0) fun e9 m9 oq=>?_
     exact⟨(by rw[hRe];simp only[aA h1,aB h2,aR hel hQ (show(fun _=>bI) i el=none by show bI el=none;rw[hone];simp only[aA h41,hw42,if_neg hm5,if_neg ht0,aJ,oMN,oMS]),aJ,oMN,oMS]),rfl,oq⟩
    refine rR (fA bQ rfl rfl rfl ?_);refine rR (aCi o43q 3 rfl aS rfl rfl ?_);refine aCV (fun hc=>absurd hc (by omega)) (fun c4012=>?_);refine rR (fA bQ rfl rfl rfl ?_);refine rR (aCi o43q 3 rfl aS rfl rfl ?_);refine aCo (B:=B) ‹_› (aE _ _) (fun e9 m9 oc oq=>?_) fun e9 m9 oq=>absurd ht0 (of_decide_eq_false e9);clear oc e9;refine aCY [0,1,2,3,4,7] [5] [6,8,9] [0,1,2,3,4,5,6,7,8,9] mixed (by kernel_rfl) rfl (fun _ _ _ _ h=>h) ?_;refine nC rfl ?_;refine fA bO rfl rfl rfl ?_;refine fA bQ rfl rfl rfl ?_;refine fA jS rfl rfl rfl ?_;refine aCi oq 3 rfl aS rfl rfl ?_;refine aCo (B:=B) ‹_› (bK el.num _ b4.1 b4.2 (hT.ext (Own.ext (B:=B) ‹_›))) (fun h62 m62 oc62 oq62=>?_) fun h62 m62 oq62=>?_
    case refine_2=>exact⟨(by rw[hRe];simp only[aA h1,aB h2,aR hel hQ (show(fun _=>bI) i el=none by show bI el=none;rw[hone];simp only[aA h41,hw42,if_neg hm5,if_pos ht0,dA h62,aJ,oMN,oMS]),aJ,oMN,oMS]),rfl,oq62⟩
    have hnl62:=bW h62;clear oc62;refine aCs rfl rfl (by first|omega|(simp;omega)) ?_;(refine aCS oq62 aK aL rfl rfl (by decide) (aI rfl ?_);intro b4111 m4111 o4111);refine aH [[32,108,101,97,115,116],[32]++Lib.itoa el.num] 2 30 [2,3] (i:=4) ‹_› rfl rfl rfl hp43 rfl (by omega) (by omega) (by first|(simp;done)|(simp;omega)) (by omega) (by omega) (fun p63 v63 bs63 k63 m63 hp63 hb63 hk63 hl63 oq=>?_);have o63q:=oq
    simp only[pick,lgS,lgZ]at o63q
    clear oq;by_cases hd1:el.den=1
    ·skip
     refine rR (fA bQ rfl rfl rfl ?_);refine rR (fA jS rfl rfl rfl ?_);refine rR (aCi o63q 3 rfl aS rfl rfl ?_);refine aCn (fun hc=>absurd (by first|omega|assumption|decide|exact rfl) hc) (fun c4163=>?_);refine aCY [0,1,2,3,6] [4] [5,7,8] [0,1,2,3,4,5,6,7,8] mixed (by kernel_rfl) rfl (fun _ _ _ _ h=>h) ?_;refine nC rfl ?_;refine fA bO rfl rfl rfl ?_;refine fA bQ rfl rfl rfl ?_;refine aCi o63q 3 rfl aS rfl rfl ?_;refine aCo (B:=B) ‹_› (bK el.gives _ b6.1 b6.2 (hT.ext (Own.ext (B:=B) ‹_›))) (fun h64 m64 oc64 oq64=>?_) fun h64 m64 oq64=>?_
     case refine_2=>exact⟨(by rw[hRe];simp only[aA h1,aB h2,aR hel hQ (show(fun _=>bI) i el=none by show bI el=none;rw[hone];simp only[aA h41,hw42,if_neg hm5,if_pos ht0,aB h62,if_pos hd1,dA h64,aJ,oMN,oMS]),aJ,oMN,oMS]),rfl,oq64⟩
     have hnl64:=bW h64;clear oc64;refine aCs rfl rfl (by first|omega|(simp;omega)) ?_;(refine aCS oq64 aK aL rfl rfl (by decide) (aI rfl ?_);intro b4211 m4211 o4211);refine aH [[32,103,105,118,101,115],[32]++Lib.itoa el.gives] 2 30 [2,3] (i:=4) ‹_› rfl rfl rfl hp63 rfl (by omega) (by omega) (by first|(simp;done)|(simp;omega)) (by omega) (by omega) (fun p65 v65 bs65 k65 m65 hp65 hb65 hk65 hl65 oq=>?_);have o65q:=oq
     simp only[pick,lgS,lgZ]at o65q
     clear oq;by_cases htk0:el.takes=0
     ·skip
      refine rR (fA bQ rfl rfl rfl ?_);refine rR (aCi o65q 3 rfl aS rfl rfl ?_);refine aCn (fun hc=>absurd (by first|omega|assumption|decide|exact rfl) hc) (fun c4262=>?_);refine rR (nC rfl ?_);refine rR (fA bO rfl rfl rfl ?_);(refine aCS o65q aK aL rfl rfl (by decide) (aI rfl ?_);intro b4265 m4265 o4265);refine aH [[59]] 1 30 [2,3] (i:=4) ‹_› rfl rfl rfl hp65 rfl (by omega) (by omega) (by first|(simp;done)|(simp;omega)) (by omega) (by omega) (fun p66 v66 bs66 k66 m66 hp66 hb66 hk66 hl66 oq=>?_);have o66q:=oq
      simp only[pick,lgS,lgZ]at o66q
      clear oq;refine aC2 (by omega) (by omega) ?_
      refine⟨rfl,?_⟩
      exact⟨⟨i+1,p66,v66,bs66,k66,ps++([aD [10,32,32] el.attr]++([aD [32] w42]++([]++([aD [32] [108,101,97,115,116]]++([bP [32] el.num]++([]++([aD [32] [103,105,118,101,115]]++([bP [32] el.gives]++([]++([aO [] [59]]++[])))))))))),by omega,rfl,hp66,bA hel hQ (by(first|rw[hone]|(show bI el=_;rw[hone]));simp only[aA h41,hw42,if_neg hm5,if_pos ht0,aB h62,if_pos hd1,aB h64,if_pos htk0,aJ,oMS]),by rw[hb66,hb65,hb63,hb43,hb'];simp[bG,fM,wr,aD,aO,bP],by rw[hk66,hk65,hk63,hk43,hk'];first|(simp;done)|(simp;omega),by omega,by omega,Own.sel ‹_› [0,1,2] rfl⟩,by simp;omega⟩
     ·skip
      refine rR (fA bQ rfl rfl rfl ?_);refine rR (aCi o65q 3 rfl aS rfl rfl ?_);refine aCn (fun c4362=>?_) (fun hc=>absurd hc (by first|omega|assumption|decide|exact rfl));refine aCY [0,1,2,3,6] [4] [5,7,8] [0,1,2,3,4,5,6,7,8] mixed (by kernel_rfl) rfl (fun _ _ _ _ h=>h) ?_;refine nC rfl ?_;refine fA bO rfl rfl rfl ?_;refine fA bQ rfl rfl rfl ?_;refine aCi o65q 3 rfl aS rfl rfl ?_;refine aCo (B:=B) ‹_› (bK el.takes _ b7.1 b7.2 (hT.ext (Own.ext (B:=B) ‹_›))) (fun h67 m67 oc67 oq67=>?_) fun h67 m67 oq67=>?_
      case refine_2=>exact⟨(by rw[hRe];simp only[aA h1,aB h2,aR hel hQ (show(fun _=>bI) i el=none by show bI el=none;rw[hone];simp only[aA h41,hw42,if_neg hm5,if_pos ht0,aB h62,if_pos hd1,aB h64,if_neg htk0,dA h67,aJ,oMN,oMS]),aJ,oMN,oMS]),rfl,oq67⟩
      have hnl67:=bW h67;clear oc67;refine aCs rfl rfl (by first|omega|(simp;omega)) ?_;(refine aCS oq67 aK aL rfl rfl (by decide) (aI rfl ?_);intro b4411 m4411 o4411);refine aH [[32,116,97,107,101,115],[32]++Lib.itoa el.takes] 2 30 [2,3] (i:=4) ‹_› rfl rfl rfl hp65 rfl (by omega) (by omega) (by first|(simp;done)|(simp;omega)) (by omega) (by omega) (fun p68 v68 bs68 k68 m68 hp68 hb68 hk68 hl68 oq=>?_);have o68q:=oq
      simp only[pick,lgS,lgZ]at o68q
      clear oq;refine rR (nC rfl ?_);refine rR (fA bO rfl rfl rfl ?_);(refine aCS o68q aK aL rfl rfl (by decide) (aI rfl ?_);intro b4462 m4462 o4462);refine aH [[59]] 1 30 [2,3] (i:=4) ‹_› rfl rfl rfl hp68 rfl (by omega) (by omega) (by first|(simp;done)|(simp;omega)) (by omega) (by omega) (fun p69 v69 bs69 k69 m69 hp69 hb69 hk69 hl69 oq=>?_);have o69q:=oq
      simp only[pick,lgS,lgZ]at o69q
      clear oq;refine aC2 (by omega) (by omega) ?_
      refine⟨rfl,?_⟩
      exact⟨⟨i+1,p69,v69,bs69,k69,ps++([aD [10,32,32] el.attr]++([aD [32] w42]++([]++([aD [32] [108,101,97,115,116]]++([bP [32] el.num]++([]++([aD [32] [103,105,118,101,115]]++([bP [32] el.gives]++(aD [32] [116,97,107,101,115]::[bP [32] el.takes]++([aO [] [59]]++[])))))))))),by omega,rfl,hp69,bA hel hQ (by(first|rw[hone]|(show bI el=_;rw[hone]));simp only[aA h41,hw42,if_neg hm5,if_pos ht0,aB h62,if_pos hd1,aB h64,if_neg htk0,aB h67,aJ,oMS]),by rw[hb69,hb68,hb65,hb63,hb43,hb'];simp[bG,fM,wr,aD,aO,bP],by rw[hk69,hk68,hk65,hk63,hk43,hk'];first|(simp;done)|(simp;omega),by omega,by omega,Own.sel ‹_› [0,1,2] rfl⟩,by simp;omega⟩
    ·skip
     refine rR (fA bQ rfl rfl rfl ?_);refine rR (fA jS rfl rfl rfl ?_);refine rR (aCi o63q 3 rfl aS rfl rfl ?_);refine aCn (fun c4563=>?_) (fun hc=>absurd hc (by first|omega|assumption|decide|exact rfl));refine aCY [0,1,2,3,4] [5] [6,7,8] [0,1,2,3,4,5,6,7,8] mixed (by kernel_rfl) rfl (fun _ _ _ _ h=>h) ?_;refine nC rfl ?_;refine fA bO rfl rfl rfl ?_;refine fA bQ rfl rfl rfl ?_;refine fA jS rfl rfl rfl ?_;refine aCi o63q 3 rfl aS rfl rfl ?_;refine aCo (B:=B) ‹_› (bK el.den _ b5.1 b5.2 (hT.ext (Own.ext (B:=B) ‹_›))) (fun h70 m70 oc70 oq70=>?_) fun h70 m70 oq70=>?_
     case refine_2=>exact⟨(by rw[hRe];simp only[aA h1,aB h2,aR hel hQ (show(fun _=>bI) i el=none by show bI el=none;rw[hone];simp only[aA h41,hw42,if_neg hm5,if_pos ht0,aB h62,if_neg hd1,dA h70,aJ,oMN,oMS]),aJ,oMN,oMS]),rfl,oq70⟩
     have hnl70:=bW h70;clear oc70;(refine aCS oq70 aK aL rfl rfl (by decide) (aI rfl ?_);intro b4610 m4610 o4610);refine aH [[47],Lib.itoa el.den] 2 30 [2,3] (i:=4) ‹_› rfl rfl rfl hp63 rfl (by omega) (by omega) (by first|(simp;done)|(simp;omega)) (by omega) (by omega) (fun p71 v71 bs71 k71 m71 hp71 hb71 hk71 hl71 oq=>?_);have o71q:=oq
     simp only[pick,lgS,lgZ]at o71q
     clear oq;refine aCY [0,1,2,3,6] [4] [5,7,8] [0,1,2,3,4,5,6,7,8] mixed (by kernel_rfl) rfl (fun _ _ _ _ h=>h) ?_;refine nC rfl ?_;refine fA bO rfl rfl rfl ?_;refine fA bQ rfl rfl rfl ?_;refine aCi o71q 3 rfl aS rfl rfl ?_;refine aCo (B:=B) ‹_› (bK el.gives _ b6.1 b6.2 (hT.ext (Own.ext (B:=B) ‹_›))) (fun h72 m72 oc72 oq72=>?_) fun h72 m72 oq72=>?_
     case refine_2=>exact⟨(by rw[hRe];simp only[aA h1,aB h2,aR hel hQ (show(fun _=>bI) i el=none by show bI el=none;rw[hone];simp only[aA h41,hw42,if_neg hm5,if_pos ht0,aB h62,if_neg hd1,aB h70,dA h72,aJ,oMN,oMS]),aJ,oMN,oMS]),rfl,oq72⟩
     have hnl72:=bW h72;clear oc72;refine aCs rfl rfl (by first|omega|(simp;omega)) ?_;(refine aCS oq72 aK aL rfl rfl (by decide) (aI rfl ?_);intro b4711 m4711 o4711);refine aH [[32,103,105,118,101,115],[32]++Lib.itoa el.gives] 2 30 [2,3] (i:=4) ‹_› rfl rfl rfl hp71 rfl (by omega) (by omega) (by first|(simp;done)|(simp;omega)) (by omega) (by omega) (fun p73 v73 bs73 k73 m73 hp73 hb73 hk73 hl73 oq=>?_);have o73q:=oq
     simp only[pick,lgS,lgZ]at o73q
     clear oq;by_cases htk0:el.takes=0
     ·skip
      refine rR (fA bQ rfl rfl rfl ?_);refine rR (aCi o73q 3 rfl aS rfl rfl ?_);refine aCn (fun hc=>absurd (by first|omega|assumption|decide|exact rfl) hc) (fun c4762=>?_);refine rR (nC rfl ?_);refine rR (fA bO rfl rfl rfl ?_);(refine aCS o73q aK aL rfl rfl (by decide) (aI rfl ?_);intro b4765 m4765 o4765);refine aH [[59]] 1 30 [2,3] (i:=4) ‹_› rfl rfl rfl hp73 rfl (by omega) (by omega) (by first|(simp;done)|(simp;omega)) (by omega) (by omega) (fun p74 v74 bs74 k74 m74 hp74 hb74 hk74 hl74 oq=>?_);have o74q:=oq
      simp only[pick,lgS,lgZ]at o74q
      clear oq;refine aC2 (by omega) (by omega) ?_
      refine⟨rfl,?_⟩
      exact⟨⟨i+1,p74,v74,bs74,k74,ps++([aD [10,32,32] el.attr]++([aD [32] w42]++([]++([aD [32] [108,101,97,115,116]]++([bP [32] el.num]++(aO [] [47]::[bP [] el.den]++([aD [32] [103,105,118,101,115]]++([bP [32] el.gives]++([]++([aO [] [59]]++[])))))))))),by omega,rfl,hp74,bA hel hQ (by(first|rw[hone]|(show bI el=_;rw[hone]));simp only[aA h41,hw42,if_neg hm5,if_pos ht0,aB h62,if_neg hd1,aB h70,aB h72,if_pos htk0,aJ,oMS]),by rw[hb74,hb73,hb71,hb63,hb43,hb'];simp[bG,fM,wr,aD,aO,bP],by rw[hk74,hk73,hk71,hk63,hk43,hk'];first|(simp;done)|(simp;omega),by omega,by omega,Own.sel ‹_› [0,1,2] rfl⟩,by simp;omega⟩
     ·skip
      refine rR (fA bQ rfl rfl rfl ?_);refine rR (aCi o73q 3 rfl aS rfl rfl ?_);refine aCn (fun c4862=>?_) (fun hc=>absurd hc (by first|omega|assumption|decide|exact rfl));refine aCY [0,1,2,3,6] [4] [5,7,8] [0,1,2,3,4,5,6,7,8] mixed (by kernel_rfl) rfl (fun _ _ _ _ h=>h) ?_;refine nC rfl ?_;refine fA bO rfl rfl rfl ?_;refine fA bQ rfl rfl rfl ?_;refine aCi o73q 3 rfl aS rfl rfl ?_;refine aCo (B:=B) ‹_› (bK el.takes _ b7.1 b7.2 (hT.ext (Own.ext (B:=B) ‹_›))) (fun h75 m75 oc75 oq75=>?_) fun h75 m75 oq75=>?_
      case refine_2=>exact⟨(by rw[hRe];simp only[aA h1,aB h2,aR hel hQ (show(fun _=>bI) i el=none by show bI el=none;rw[hone];simp only[aA h41,hw42,if_neg hm5,if_pos ht0,aB h62,if_neg hd1,aB h70,aB h72,if_neg htk0,dA h75,aJ,oMN,oMS]),aJ,oMN,oMS]),rfl,oq75⟩
      have hnl75:=bW h75;clear oc75;refine aCs rfl rfl (by first|omega|(simp;omega)) ?_;(refine aCS oq75 aK aL rfl rfl (by decide) (aI rfl ?_);intro b4911 m4911 o4911);refine aH [[32,116,97,107,101,115],[32]++Lib.itoa el.takes] 2 30 [2,3] (i:=4) ‹_› rfl rfl rfl hp73 rfl (by omega) (by omega) (by first|(simp;done)|(simp;omega)) (by omega) (by omega) (fun p76 v76 bs76 k76 m76 hp76 hb76 hk76 hl76 oq=>?_);have o76q:=oq
      simp only[pick,lgS,lgZ]at o76q
      clear oq;refine rR (nC rfl ?_);refine rR (fA bO rfl rfl rfl ?_);(refine aCS o76q aK aL rfl rfl (by decide) (aI rfl ?_);intro b4962 m4962 o4962);refine aH [[59]] 1 30 [2,3] (i:=4) ‹_› rfl rfl rfl hp76 rfl (by omega) (by omega) (by first|(simp;done)|(simp;omega)) (by omega) (by omega) (fun p77 v77 bs77 k77 m77 hp77 hb77 hk77 hl77 oq=>?_);have o77q:=oq
      simp only[pick,lgS,lgZ]at o77q
      clear oq;refine aC2 (by omega) (by omega) ?_
      refine⟨rfl,?_⟩
      exact⟨⟨i+1,p77,v77,bs77,k77,ps++([aD [10,32,32] el.attr]++([aD [32] w42]++([]++([aD [32] [108,101,97,115,116]]++([bP [32] el.num]++(aO [] [47]::[bP [] el.den]++([aD [32] [103,105,118,101,115]]++([bP [32] el.gives]++(aD [32] [116,97,107,101,115]::[bP [32] el.takes]++([aO [] [59]]++[])))))))))),by omega,rfl,hp77,bA hel hQ (by(first|rw[hone]|(show bI el=_;rw[hone]));simp only[aA h41,hw42,if_neg hm5,if_pos ht0,aB h62,if_neg hd1,aB h70,aB h72,if_neg htk0,aB h75,aJ,oMS]),by rw[hb77,hb76,hb73,hb71,hb63,hb43,hb'];simp[bG,fM,wr,aD,aO,bP],by rw[hk77,hk76,hk73,hk71,hk63,hk43,hk'];first|(simp;done)|(simp;omega),by omega,by omega,Own.sel ‹_› [0,1,2] rfl⟩,by simp;omega⟩
 have hQL:=fT (aDw hlt) hQ;refine aCV (fun hc=>absurd hc (by omega)) (fun c5060=>?_);refine rR (nC rfl ?_);refine rR (fA aC rfl rfl rfl ?_);(refine aCR oh 2 rfl aL rfl (by simp) (aI ⟨rfl,rfl⟩ ?_);intro m5063 o5063);refine rR (nC rfl ?_);refine rR (fA aC rfl rfl rfl ?_);(refine aCR o5063 2 rfl aS rfl (by simp) (aI ⟨rfl,rfl⟩ ?_);intro m5066 o5066);refine rR (nC rfl ?_);refine rR (fA aC rfl rfl rfl ?_);(refine aCR o5066 2 rfl nU rfl (by simp) (aI ⟨rfl,rfl⟩ ?_);intro m5069 o5069);refine aC4 rfl ?_;exact IEnds.done (ps:=[aD [32] [111,110]]++([aD [32] x.table]++([aD [32] [97,116]]++([bP [32] x.n]++([aO [32] [123]]++(ps++[])))))) (by rw[hRe];simp only[aA h1,aB h2,hQL,aJ,oMS]) (Own.sel ‹_› [0,1,2] rfl) hp' (by rw[hb',hb3];simp[bG,fM,wr,aD,aO,bP]) (by rw[hk',hk3];first|(simp;done)|(simp;omega)) (by omega) (by omega)
theorem wrKeep_spec (B:Base)(b bx:Nat)(p v:Value)(k:Int)(bs:aBs)(x:It)(z:Int)(vc vn vt vf vv vd e0 e1 e2 e3 e4 e5 e6 e7 e8:Value)(h:Heap)(hp:cO b p)(hT:jP B.h)(hOK:iZ x)
  (o:Own B [box b [p,v,.int .i64 k] 58,row v 5 1 bs.length (bytes bs),box bx (fD x z vc vn vt vf vv vd e0 e1 e2 e3 e4 e5 e6 e7 e8) 44] h) (hl:bs.length+2000*eJ x≤50000000000000) (hk:0≤k∧k+2000*eJ x≤50000000000000) :
  Spec Tryz.prog 74 [.pointer (some ⟨b,0,none⟩),.pointer (some ⟨bx,0,none⟩)] h (IEnds B b bx bs k (2000*eJ x) (fD (clr5 x) z vc vn vt vf vv vd e0 e1 e2 e3 e4 e5 e6 e7 e8) (part5 x)):=by
 obtain⟨bkind,bname,btable,battr,bcols,bnames,bby,bn,bm,bterms,both,boat,bfixed,bvars,bconds,bexpr,lcols,lnames,lterms,lfixed,lvars,lconds⟩:=hOK
 have hsz:eJ x=1+x.cols.length+x.names.length+x.terms.length+x.fixed.length+x.vars.length+x.conds.length+fJ x.expr:=rfl;unfold fD at o;refine aC1 Tryz.func74 rfl Tryz.ntmps74 (by kernel_rfl) ?_;have hRe:part5 x=aJ [dY x.table x.attr,some [aD [32] [98,121]],gC x.by_ [[108,97,116,101,115,116],[109,111,115,116],[116,114,117,115,116,101,100],[108,111,110,103,101,115,116],[108,101,97,115,116],[103,114,101,97,116,101,115,116]]]:=rfl;refine aCY [0,1,2,3,5,6,7] [4,8] [9] [0,1,2,3,4,5,6,7,8,9] mixed (by kernel_rfl) rfl (fun _ _ _ _ h=>h) ?_;refine nC rfl ?_;refine fA aC rfl rfl rfl ?_;refine aCi o 2 rfl aL rfl rfl ?_;refine nC rfl ?_;refine fA aC rfl rfl rfl ?_;refine aCi o 2 rfl aL rfl rfl ?_;refine WEnds.callJ [2] ‹_› rfl rfl (fun J oj=>mR ⟨B.h,J++B.T⟩ b p v k bs x.table x.attr _ hp oj (by omega) btable battr (by omega)) (fun ps1 p1 v1 bs1 k1 m1 hq1 hp1 hb1 hk1 hl1 _ hj1 oq=>?_) (fun m1 hq1 oq=>?_)
 case refine_2=>exact⟨(by rw[hRe];simp only[hq1,aJ,oMN,oMS]),rfl,oq⟩
 have o1q:=oq
 simp only[pick,lgS,lgZ]at o1q
 clear oq;refine aCY [0,1,2,3,4,5] [6] [8,9,10] [0,1,2,3,4,5,6,7,8,9,10] mixed (by kernel_rfl) rfl (fun _ _ _ _ h=>h) ?_;refine nC rfl ?_;refine fA bO rfl rfl rfl ?_;refine nC rfl ?_;refine fA aC rfl rfl rfl ?_;refine aCi o1q 2 rfl aS rfl rfl ?_;(refine aCS (Own.refl _) aK aL rfl rfl (by decide) (aI rfl ?_);intro b115 m115 o115);(refine aI o115.ext ?_;have o116:=Own.call o1q o115;simp only[lcA,lnA]at o116;clear o115);refine aCo (B:=B) ‹_› (dQ x.by_ [[108,97,116,101,115,116],[109,111,115,116],[116,114,117,115,116,101,100],[108,111,110,103,101,115,116],[108,101,97,115,116],[103,114,101,97,116,101,115,116]] _ _ (by omega) (by omega) (Own.boxArr ‹_› 3 rfl rfl (by decide)) (by simp) (by simp)) (fun h2 m2 oc2 oq2=>?_) fun h2 m2 oq2=>?_
 case refine_2=>exact⟨(by rw[hRe];simp only[hq1,lL (of_decide_eq_false h2),aJ,oMN,oMS]),rfl,oq2⟩
 have h2:=of_decide_eq_true h2;have hw2:=jR (n:=x.by_) h2;have hnl2:=kH (ws:=[[108,97,116,101,115,116],[109,111,115,116],[116,114,117,115,116,101,100],[108,111,110,103,101,115,116],[108,101,97,115,116],[103,114,101,97,116,101,115,116]]) (M:=10) (by simp) (x.by_ - 1).toNat;generalize ([[108,97,116,101,115,116],[109,111,115,116],[116,114,117,115,116,101,100],[108,111,110,103,101,115,116],[108,101,97,115,116],[103,114,101,97,116,101,115,116]]:List aBs).getD (x.by_ - 1).toNat []=w2 at hw2 hnl2;clear oc2;(refine aCS oq2 aK aL rfl rfl (by decide) (aI rfl ?_);intro b160 m160 o160);refine aH [[32,98,121],32::w2] 2 30 [2] (i:=4) ‹_› rfl rfl rfl hp1 rfl (by omega) (by omega) (by first|(simp;done)|(simp;omega)) (by omega) (by omega) (fun p3 v3 bs3 k3 m3 hp3 hb3 hk3 hl3 oq=>?_);have o3q:=oq
 simp only[pick,lgS,lgZ]at o3q
 clear oq;refine rR (nC rfl ?_);refine rR (fA aC rfl rfl rfl ?_);(refine aCR o3q 2 rfl aL rfl (by simp) (aI ⟨rfl,rfl⟩ ?_);intro m212 o212);refine rR (nC rfl ?_);refine rR (fA aC rfl rfl rfl ?_);(refine aCR o212 2 rfl aL rfl (by simp) (aI ⟨rfl,rfl⟩ ?_);intro m215 o215);refine rR (nC rfl ?_);refine rR (fA aC rfl rfl rfl ?_);(refine aCR o215 2 rfl aS rfl (by simp) (aI ⟨rfl,rfl⟩ ?_);intro m218 o218);refine aC4 rfl ?_;exact IEnds.done (ps:=ps1++([aD [32] [98,121]]++([aD [32] w2]++[]))) (by rw[hRe];simp only[hq1,hw2,aJ,oMS]) (Own.sel ‹_› [0,1,2] rfl) hp3 (by rw[hb3,hb1];simp[bG,fM,wr,aD,aO,bP]) (by rw[hk3,hk1];first|(simp;done)|(simp;omega)) (by omega) (by omega)
theorem aAP (B:Base)(b bx:Nat)(p v:Value)(k:Int)(bs:aBs)(x:It)(z:Int)(vc vn vt vf vv vd e0 e1 e2 e3 e4 e5 e6 e7 e8:Value)(h:Heap)(hp:cO b p)(hT:jP B.h)(hOK:iZ x)(hN:dF 1 B.h vn x.names.length (strs x.names))
  (o:Own B [box b [p,v,.int .i64 k] 58,row v 5 1 bs.length (bytes bs),box bx (fD x z vc vn vt vf vv vd e0 e1 e2 e3 e4 e5 e6 e7 e8) 44] h) (hl:bs.length+2000*eJ x≤50000000000000) (hk:0≤k∧k+2000*eJ x≤50000000000000) :
  Spec Tryz.prog 75 [.pointer (some ⟨b,0,none⟩),.pointer (some ⟨bx,0,none⟩)] h (IEnds B b bx bs k (2000*eJ x) (fD (clr6 x) z vc aN vt vf vv vd e0 e1 e2 e3 e4 e5 e6 e7 e8) (part6 x)):=by
 obtain⟨bkind,bname,btable,battr,bcols,bnames,bby,bn,bm,bterms,both,boat,bfixed,bvars,bconds,bexpr,lcols,lnames,lterms,lfixed,lvars,lconds⟩:=hOK
 have hsz:eJ x=1+x.cols.length+x.names.length+x.terms.length+x.fixed.length+x.vars.length+x.conds.length+fJ x.expr:=rfl;unfold fD at o;refine aC1 Tryz.func75 rfl Tryz.ntmps75 (by kernel_rfl) ?_;have hRe:part6 x=aJ [some [aD [32] [111,110]],aZ [32] x.table,some [aO [] [40]],dL aZ [] x.names,some [aO [] [41]]]:=rfl;refine aCY [0,1,2,3,4,5,8] [6] [7,9,10] [0,1,2,3,4,5,6,7,8,9,10] mixed (by kernel_rfl) rfl (fun _ _ _ _ h=>h) ?_;refine nC rfl ?_;refine fA bO rfl rfl rfl ?_;refine nC rfl ?_;refine fA aC rfl rfl rfl ?_;refine aCi o 2 rfl aL rfl rfl ?_;refine aCo (B:=B) ‹_› (bJ x.table _ btable) (fun h1 m1 oc1 oq1=>?_) fun h1 m1 oq1=>?_
 case refine_2=>exact⟨(by rw[hRe];simp only[cS h1,aJ,oMN,oMS]),rfl,oq1⟩
 have hnl1:=cR h1;clear oc1;refine aCs rfl rfl (by first|omega|(simp;omega)) ?_;(refine aCS oq1 aK aL rfl rfl (by decide) (aI rfl ?_);intro b111 m111 o111);refine aH [[32,111,110],[32]++x.table,[40]] 3 30 [2] (i:=3) ‹_› rfl rfl rfl hp rfl (by omega) (by omega) (by first|(simp;done)|(simp;omega)) (by omega) (by omega) (fun p2 v2 bs2 k2 m2 hp2 hb2 hk2 hl2 oq=>?_);have o2q:=oq
 simp only[pick,lgS,lgZ]at o2q
 clear oq;refine rR (nC rfl ?_);refine rR (fA aC rfl rfl rfl ?_);refine rR (aCi o2q 2 rfl eX rfl rfl ?_);refine WEnds.callJ [2] ‹_› rfl rfl (fun J oj=>qX ⟨B.h,J++B.T⟩ b p2 v2 k2 bs2 [] x.names _ _ hp2 (fun L h o=>(hN.ext (Own.ext (B:=⟨B.h,J++B.T⟩) o)).to1) oj (by omega) bnames (by omega) (by omega) (.inl rfl)) (fun ps3 p3 v3 bs3 k3 m3 hq3 hp3 hb3 hk3 hl3 _ hj3 oq=>?_) (fun m3 hq3 oq=>?_)
 case refine_2=>exact⟨(by rw[hRe];simp only[aA h1,hq3,aJ,oMN,oMS]),rfl,oq⟩
 have o3q:=oq
 simp only[pick,lgS,lgZ]at o3q
 clear oq;refine rR (nC rfl ?_);refine rR (fA bO rfl rfl rfl ?_);(refine aCS o3q aK aL rfl rfl (by decide) (aI rfl ?_);intro b212 m212 o212);refine aH [[41]] 1 30 [2] (i:=3) ‹_› rfl rfl rfl hp3 rfl (by omega) (by omega) (by first|(simp;done)|(simp;omega)) (by omega) (by omega) (fun p4 v4 bs4 k4 m4 hp4 hb4 hk4 hl4 oq=>?_);have o4q:=oq
 simp only[pick,lgS,lgZ]at o4q
 clear oq;refine rR (nC rfl ?_);refine rR (fA aC rfl rfl rfl ?_);(refine aCR o4q 2 rfl aL rfl (by simp) (aI ⟨rfl,rfl⟩ ?_);intro m262 o262);refine rR (nC rfl ?_);refine rR (fA aC rfl rfl rfl ?_);(refine aCR o262 2 rfl eX rfl (by simp) (aI ⟨rfl,rfl⟩ ?_);intro m265 o265);refine aC4 rfl ?_;exact IEnds.done (ps:=[aD [32] [111,110]]++([aD [32] x.table]++([aO [] [40]]++(ps3++([aO [] [41]]++[]))))) (by rw[hRe];simp only[aA h1,hq3,aJ,oMS]) (Own.sel ‹_› [0,1,2] rfl) hp4 (by rw[hb4,hb3,hb2];simp[bG,fM,wr,aD,aO,bP]) (by rw[hk4,hk3,hk2];first|(simp;done)|(simp;omega)) (by omega) (by omega)
theorem aAR (B:Base)(b bx:Nat)(p v:Value)(k:Int)(bs:aBs)(x:It)(z:Int)(vc vn vt vf vv vd e0 e1 e2 e3 e4 e5 e6 e7 e8:Value)(h:Heap)(hp:cO b p)(hT:jP B.h)(hOK:iZ x)(hN:dF 1 B.h vn x.names.length (strs x.names))(hA:dF 4 B.h vf x.fixed.length (x.fixed.flatMap yC))
  (o:Own B [box b [p,v,.int .i64 k] 58,row v 5 1 bs.length (bytes bs),box bx (fD x z vc vn vt vf vv vd e0 e1 e2 e3 e4 e5 e6 e7 e8) 44] h) (hl:bs.length+2000*eJ x≤50000000000000) (hk:0≤k∧k+2000*eJ x≤50000000000000) :
  Spec Tryz.prog 76 [.pointer (some ⟨b,0,none⟩),.pointer (some ⟨bx,0,none⟩)] h (IEnds B b bx bs k (2000*eJ x) (fD (clr7 x) z vc aN vt aN vv vd e0 e1 e2 e3 e4 e5 e6 e7 e8) (part7 x)):=by
 obtain⟨bkind,bname,btable,battr,bcols,bnames,bby,bn,bm,bterms,both,boat,bfixed,bvars,bconds,bexpr,lcols,lnames,lterms,lfixed,lvars,lconds⟩:=hOK
 have hsz:eJ x=1+x.cols.length+x.names.length+x.terms.length+x.fixed.length+x.vars.length+x.conds.length+fJ x.expr:=rfl;unfold fD at o
 obtain⟨ya,yc,rfl⟩:=hA.isS
 refine aC1 Tryz.func76 rfl Tryz.ntmps76 (by kernel_rfl) ?_;have hRe:part7 x=aJ [some [aD [32] [111,110]],aZ [32] x.table,some [aO [] [40]],dL aZ [] x.names,some [aO [] [41],aD [32] [116,111]],aZ [32] x.attr,dB fixI x.fixed]:=by unfold part7;rw[fixedQ_loop]
 refine aCY [0,1,2,3,4,5,8] [6] [7,9,10] [0,1,2,3,4,5,6,7,8,9,10] mixed (by kernel_rfl) rfl (fun _ _ _ _ h=>h) ?_;refine nC rfl ?_;refine fA bO rfl rfl rfl ?_;refine nC rfl ?_;refine fA aC rfl rfl rfl ?_;refine aCi o 2 rfl aL rfl rfl ?_;refine aCo (B:=B) ‹_› (bJ x.table _ btable) (fun h1 m1 oc1 oq1=>?_) fun h1 m1 oq1=>?_
 case refine_2=>exact⟨(by rw[hRe];simp only[cS h1,aJ,oMN,oMS]),rfl,oq1⟩
 have hnl1:=cR h1;clear oc1;refine aCs rfl rfl (by first|omega|(simp;omega)) ?_;(refine aCS oq1 aK aL rfl rfl (by decide) (aI rfl ?_);intro b111 m111 o111);refine aH [[32,111,110],[32]++x.table,[40]] 3 30 [2] (i:=3) ‹_› rfl rfl rfl hp rfl (by omega) (by omega) (by first|(simp;done)|(simp;omega)) (by omega) (by omega) (fun p2 v2 bs2 k2 m2 hp2 hb2 hk2 hl2 oq=>?_);have o2q:=oq
 simp only[pick,lgS,lgZ]at o2q
 clear oq;refine rR (nC rfl ?_);refine rR (fA aC rfl rfl rfl ?_);refine rR (aCi o2q 2 rfl eX rfl rfl ?_);refine WEnds.callJ [2] ‹_› rfl rfl (fun J oj=>qX ⟨B.h,J++B.T⟩ b p2 v2 k2 bs2 [] x.names _ _ hp2 (fun L h o=>(hN.ext (Own.ext (B:=⟨B.h,J++B.T⟩) o)).to1) oj (by omega) bnames (by omega) (by omega) (.inl rfl)) (fun ps3 p3 v3 bs3 k3 m3 hq3 hp3 hb3 hk3 hl3 _ hj3 oq=>?_) (fun m3 hq3 oq=>?_)
 case refine_2=>exact⟨(by rw[hRe];simp only[aA h1,hq3,aJ,oMN,oMS]),rfl,oq⟩
 have o3q:=oq
 simp only[pick,lgS,lgZ]at o3q
 clear oq;refine aCY [0,1,2,3,4,5,8] [6] [7,9,10] [0,1,2,3,4,5,6,7,8,9,10] mixed (by kernel_rfl) rfl (fun _ _ _ _ h=>h) ?_;refine nC rfl ?_;refine fA bO rfl rfl rfl ?_;refine nC rfl ?_;refine fA aC rfl rfl rfl ?_;refine aCi o3q 2 rfl aL rfl rfl ?_;refine aCo (B:=B) ‹_› (bJ x.attr _ battr) (fun h4 m4 oc4 oq4=>?_) fun h4 m4 oq4=>?_
 case refine_2=>exact⟨(by rw[hRe];simp only[aA h1,hq3,cS h4,aJ,oMN,oMS]),rfl,oq4⟩
 have hnl4:=cR h4;clear oc4;refine aCs rfl rfl (by first|omega|(simp;omega)) ?_;(refine aCS oq4 aK aL rfl rfl (by decide) (aI rfl ?_);intro b261 m261 o261);refine aH [[41],[32,116,111],[32]++x.attr] 3 30 [2] (i:=3) ‹_› rfl rfl rfl hp3 rfl (by omega) (by omega) (by first|(simp;done)|(simp;omega)) (by omega) (by omega) (fun p5 v5 bs5 k5 m5 hp5 hb5 hk5 hl5 oq=>?_);have o5q:=oq
 simp only[pick,lgS,lgZ]at o5q
 clear oq;refine rR (nC rfl ?_);refine rR (fA aC rfl rfl rfl ?_);refine rR (aCi o5q 2 rfl oJ rfl rfl ?_);refine rR (aCq rfl nH ?_);refine aC5 [4,6,40,41,42,43,44,45,46,47,48,49,50,51,52,53,54,55,56,57,58] [4,40] (fun vs' hh=>∃(i:Nat) (p' v':Value) (bs':aBs) (k':Int) (ps:List Pc),i≤x.fixed.length∧vs'=[.string ⟨⟨if i=0 then[32,119,104,101,114,101] else[44]⟩⟩,.int .i64 i]∧cO b p'∧dB fixI (x.fixed.take i)=some ps∧bs'=bs5++bG ps∧k'=k5+ps.length∧bs'.length≤bs5.length+1000*i∧k'≤k5+1000*i∧Own B [box b [p',v',.int .i64 k'] 58,row v' 5 1 bs'.length (bytes bs'),box bx [.int .i64 x.kind,.string ⟨⟨x.name⟩⟩,.int .i64 z,.string ⟨⟨x.table⟩⟩,.string ⟨⟨x.attr⟩⟩,vc,vn,.int .i64 x.by_,.int .i64 x.n,.int .i64 x.m,vt,.string ⟨⟨x.other⟩⟩,.string ⟨⟨x.oattr⟩⟩,.slice ya x.fixed.length yc,vv,vd,e0,e1,e2,e3,e4,e5,e6,e7,e8] 44] hh) (fun vs' _=>match vs' with|[_,.int _ i]=>x.fixed.length - i.toNat|_=>0) ?_ ?_
 ·exact⟨0,p5,v5,bs5,k5,[],by omega,rfl,hp5,rfl,by simp[bG],by simp,by omega,by omega,Own.sel ‹_› [0,1,2] rfl⟩
 rintro vs' junk hh ⟨i,p',v',bs',k',ps,hi,rfl,hp',hQ,hb',hk',hl',hkb,oh⟩;have hkge:k5≤k':=by omega
 by_cases hlt:i<x.fixed.length
 ·obtain⟨el,hel⟩:=getx hlt
  have hOKel:=bfixed el (aDa hel);have hm:1000*i+1000≤1000*x.fixed.length:=by omega
  obtain⟨hn1,hv1⟩:=hOKel
  have hone:fixI i el=(aJ [aZ [32] el.name,some [aO [32] [61]],bY el.val]).map ((if i=0 then aD [32] [119,104,101,114,101] else aO [] [44])::·):=rfl;have hbe:(if i=0 then[32,119,104,101,114,101] else[44]:aBs)=fM (if i=0 then aD [32] [119,104,101,114,101] else aO [] [44]):=by split<;>rfl
  have hbl:(fM (if i=0 then aD [32] [119,104,101,114,101] else aO [] [44])).length≤6:=by split<;>decide
  rw[hbe]
  generalize (if i=0 then aD [32] [119,104,101,114,101] else aO [] [44])=sp at hone hbl
  refine aCV (fun c360=>?_) (fun hc=>absurd (by omega) hc);refine rR (aCt nH pI (hA.ext oh.ext) rfl (by omega) (by omega) ?_);refine rR (aCv pI (hA.ext oh.ext) (fun _=>rfl) (by decide) rfl ‹_› ?_);(refine aCT oh pI ?_;intro b363 m363 o363);(refine aCl o363 3 rfl pI rfl (by decide) (aI ⟨rfl,rfl⟩ ?_);intro m364 o364);refine aCY [0,1,2,3,4,7] [5] [6,8,9] [0,1,2,3,4,5,6,7,8,9] mixed (by kernel_rfl) rfl (fun _ _ _ _ h=>h) ?_;refine nC rfl ?_;refine fA bO rfl rfl rfl ?_;refine fA aBT rfl rfl rfl ?_;refine aCi o364 3 rfl aL rfl rfl ?_;refine aCo (B:=B) ‹_› (bJ el.name _ hn1) (fun h6 m6 oc6 oq6=>?_) fun h6 m6 oq6=>?_
  case refine_2=>exact⟨(by rw[hRe];simp only[aA h1,hq3,aA h4,aR hel hQ (show fixI i el=none by rw[hone];simp only[cS h6,aJ,oMN,oMS]),aJ,oMN,oMS]),rfl,oq6⟩
  have hnl6:=cR h6;clear oc6;refine aCs rfl rfl (by first|omega|(simp;omega)) ?_;(refine aCS oq6 aK aL rfl rfl (by decide) (aI rfl ?_);intro b411 m411 o411);refine aH [fM sp,[32]++el.name,[32,61]] 3 30 [2,3] (i:=4) ‹_› rfl rfl rfl hp' rfl (by omega) (by omega) (by first|(simp;done)|(simp;omega)) (by omega) (by omega) (fun p7 v7 bs7 k7 m7 hp7 hb7 hk7 hl7 oq=>?_);have o7q:=oq
  simp only[pick,lgS,lgZ]at o7q
  clear oq;refine rR (fA aBT rfl rfl rfl ?_);refine rR (aCm o7q 3 rfl bS rfl rfl rfl ?_);refine WEnds.callJ [2,3] ‹_› rfl rfl (fun J oj=>iV ⟨B.h,J++B.T⟩ b p7 v7 k7 bs7 el.val _ hp7 hT oj (by omega) hv1.2.2 hv1.2.1 (by omega)) (fun ps8 p8 v8 bs8 k8 m8 hq8 hp8 hb8 hk8 hl8 _ hj8 oq=>?_) (fun m8 hq8 oq=>?_)
  case refine_2=>exact⟨(by rw[hRe];simp only[aA h1,hq3,aA h4,aR hel hQ (show fixI i el=none by rw[hone];simp only[aA h6,hq8,aJ,oMN,oMS]),aJ,oMN,oMS]),rfl,oq⟩
  have o8q:=oq
  simp only[pick,lgS,lgZ]at o8q
  clear oq;refine aC2 (by omega) (by omega) ?_
  refine⟨rfl,?_⟩
  refine⟨⟨i+1,p8,v8,bs8,k8,ps++(sp::([aD [32] el.name]++([aO [32] [61]]++(ps8++[])))),by omega,?_,hp8,bA hel hQ (by rw[hone];simp only[aA h6,hq8,aJ,oMS]),by rw[hb8,hb7,hb'];simp[bG,fM,wr,aD,aO,bP],by rw[hk8,hk7,hk'];first|(simp;done)|(simp;omega),by omega,by omega,Own.sel ‹_› [0,1,2] rfl⟩,by simp;omega⟩
  first|(rw[if_neg (by omega)];done)|(rw[if_neg (by omega)];rfl)
 have hQL:=fT (aDw hlt) hQ;refine aCV (fun hc=>absurd hc (by omega)) (fun c560=>?_);refine rR (nC rfl ?_);refine rR (fA aC rfl rfl rfl ?_);(refine aCR oh 2 rfl aL rfl (by simp) (aI ⟨rfl,rfl⟩ ?_);intro m563 o563);refine rR (nC rfl ?_);refine rR (fA aC rfl rfl rfl ?_);(refine aCR o563 2 rfl eX rfl (by simp) (aI ⟨rfl,rfl⟩ ?_);intro m566 o566);refine rR (nC rfl ?_);refine rR (fA aC rfl rfl rfl ?_);(refine aCR o566 2 rfl aL rfl (by simp) (aI ⟨rfl,rfl⟩ ?_);intro m569 o569);refine rR (nC rfl ?_);refine rR (fA aC rfl rfl rfl ?_);(refine aCR o569 2 rfl oJ rfl (by simp) (aI ⟨rfl,rfl⟩ ?_);intro m572 o572);refine aC4 rfl ?_;exact IEnds.done (ps:=[aD [32] [111,110]]++([aD [32] x.table]++([aO [] [40]]++(ps3++([aO [] [41],aD [32] [116,111]]++([aD [32] x.attr]++(ps++[]))))))) (by rw[hRe];simp only[aA h1,hq3,aA h4,hQL,aJ,oMS]) (Own.sel ‹_› [0,1,2] rfl) hp' (by rw[hb',hb5,hb3,hb2];simp[bG,fM,wr,aD,aO,bP]) (by rw[hk',hk5,hk3,hk2];first|(simp;done)|(simp;omega)) (by omega) (by omega)
theorem yK (B:Base)(b bx:Nat)(p v:Value)(k:Int)(bs:aBs)(x:It)(z:Int)(vc vn vt vf vv vd e0 e1 e2 e3 e4 e5 e6 e7 e8:Value)(h:Heap)(hp:cO b p)(hT:jP B.h)(hOK:iZ x)
  (o:Own B [box b [p,v,.int .i64 k] 58,row v 5 1 bs.length (bytes bs),box bx (fD x z vc vn vt vf vv vd e0 e1 e2 e3 e4 e5 e6 e7 e8) 44] h) (hl:bs.length+2000*eJ x≤50000000000000) (hk:0≤k∧k+2000*eJ x≤50000000000000) :
  Spec Tryz.prog 77 [.pointer (some ⟨b,0,none⟩),.pointer (some ⟨bx,0,none⟩)] h (IEnds B b bx bs k (2000*eJ x) (fD (clr8 x) z vc vn vt vf vv vd e0 e1 e2 e3 e4 e5 e6 e7 e8) (part8 x)):=by
 obtain⟨bkind,bname,btable,battr,bcols,bnames,bby,bn,bm,bterms,both,boat,bfixed,bvars,bconds,bexpr,lcols,lnames,lterms,lfixed,lvars,lconds⟩:=hOK
 have hsz:eJ x=1+x.cols.length+x.names.length+x.terms.length+x.fixed.length+x.vars.length+x.conds.length+fJ x.expr:=rfl;unfold fD at o;refine aC1 Tryz.func77 rfl Tryz.ntmps77 (by kernel_rfl) ?_;have hRe:part8 x=aJ [dY x.table x.attr,some [aD [32] [105,110]],dY x.other x.oattr]:=rfl;refine aCY [0,1,2,3,5,6,7] [4,8] [9] [0,1,2,3,4,5,6,7,8,9] mixed (by kernel_rfl) rfl (fun _ _ _ _ h=>h) ?_;refine nC rfl ?_;refine fA aC rfl rfl rfl ?_;refine aCi o 2 rfl aL rfl rfl ?_;refine nC rfl ?_;refine fA aC rfl rfl rfl ?_;refine aCi o 2 rfl aL rfl rfl ?_;refine WEnds.callJ [2] ‹_› rfl rfl (fun J oj=>mR ⟨B.h,J++B.T⟩ b p v k bs x.table x.attr _ hp oj (by omega) btable battr (by omega)) (fun ps1 p1 v1 bs1 k1 m1 hq1 hp1 hb1 hk1 hl1 _ hj1 oq=>?_) (fun m1 hq1 oq=>?_)
 case refine_2=>exact⟨(by rw[hRe];simp only[hq1,aJ,oMN,oMS]),rfl,oq⟩
 have o1q:=oq
 simp only[pick,lgS,lgZ]at o1q
 clear oq;refine rR (nC rfl ?_);refine rR (fA bO rfl rfl rfl ?_);(refine aCS o1q aK aL rfl rfl (by decide) (aI rfl ?_);intro b112 m112 o112);refine aH [[32,105,110]] 1 30 [2] (i:=3) ‹_› rfl rfl rfl hp1 rfl (by omega) (by omega) (by first|(simp;done)|(simp;omega)) (by omega) (by omega) (fun p2 v2 bs2 k2 m2 hp2 hb2 hk2 hl2 oq=>?_);have o2q:=oq
 simp only[pick,lgS,lgZ]at o2q
 clear oq;refine aCY [0,1,2,3,5,6,7] [4,8] [9] [0,1,2,3,4,5,6,7,8,9] mixed (by kernel_rfl) rfl (fun _ _ _ _ h=>h) ?_;refine nC rfl ?_;refine fA aC rfl rfl rfl ?_;refine aCi o2q 2 rfl aL rfl rfl ?_;refine nC rfl ?_;refine fA aC rfl rfl rfl ?_;refine aCi o2q 2 rfl aL rfl rfl ?_;refine WEnds.callJ [2] ‹_› rfl rfl (fun J oj=>mR ⟨B.h,J++B.T⟩ b p2 v2 k2 bs2 x.other x.oattr _ hp2 oj (by omega) both boat (by omega)) (fun ps3 p3 v3 bs3 k3 m3 hq3 hp3 hb3 hk3 hl3 _ hj3 oq=>?_) (fun m3 hq3 oq=>?_)
 case refine_2=>exact⟨(by rw[hRe];simp only[hq1,hq3,aJ,oMN,oMS]),rfl,oq⟩
 have o3q:=oq
 simp only[pick,lgS,lgZ]at o3q
 clear oq;refine rR (nC rfl ?_);refine rR (fA aC rfl rfl rfl ?_);(refine aCR o3q 2 rfl aL rfl (by simp) (aI ⟨rfl,rfl⟩ ?_);intro m212 o212);refine rR (nC rfl ?_);refine rR (fA aC rfl rfl rfl ?_);(refine aCR o212 2 rfl aL rfl (by simp) (aI ⟨rfl,rfl⟩ ?_);intro m215 o215);refine rR (nC rfl ?_);refine rR (fA aC rfl rfl rfl ?_);(refine aCR o215 2 rfl aL rfl (by simp) (aI ⟨rfl,rfl⟩ ?_);intro m218 o218);refine rR (nC rfl ?_);refine rR (fA aC rfl rfl rfl ?_);(refine aCR o218 2 rfl aL rfl (by simp) (aI ⟨rfl,rfl⟩ ?_);intro m221 o221);refine aC4 rfl ?_;exact IEnds.done (ps:=ps1++([aD [32] [105,110]]++(ps3++[]))) (by rw[hRe];simp only[hq1,hq3,aJ,oMS]) (Own.sel ‹_› [0,1,2] rfl) hp3 (by rw[hb3,hb2,hb1];simp[bG,fM,wr,aD,aO,bP]) (by rw[hk3,hk2,hk1];first|(simp;done)|(simp;omega)) (by omega) (by omega)
theorem wrDeny_spec (B:Base)(b bx:Nat)(p v:Value)(k:Int)(bs:aBs)(x:It)(z:Int)(vc vn vt vf vv vd e0 e1 e2 e3 e4 e5 e6 e7 e8:Value)(h:Heap)(hp:cO b p)(hT:jP B.h)(hOK:iZ x)(hA:dF 2 B.h vv x.vars.length (x.vars.flatMap vrC))(hD:dF 14 B.h vd x.conds.length (x.conds.flatMap nT))
  (o:Own B [box b [p,v,.int .i64 k] 58,row v 5 1 bs.length (bytes bs),box bx (fD x z vc vn vt vf vv vd e0 e1 e2 e3 e4 e5 e6 e7 e8) 44] h) (hl:bs.length+2000*eJ x≤50000000000000) (hk:0≤k∧k+2000*eJ x≤50000000000000) :
  Spec Tryz.prog 78 [.pointer (some ⟨b,0,none⟩),.pointer (some ⟨bx,0,none⟩)] h (IEnds B b bx bs k (2000*eJ x) (fD (clr9 x) z vc vn vt vf aN aN e0 e1 e2 e3 e4 e5 e6 e7 e8) (part9 x)):=by
 obtain⟨bkind,bname,btable,battr,bcols,bnames,bby,bn,bm,bterms,both,boat,bfixed,bvars,bconds,bexpr,lcols,lnames,lterms,lfixed,lvars,lconds⟩:=hOK
 have hsz:eJ x=1+x.cols.length+x.names.length+x.terms.length+x.fixed.length+x.vars.length+x.conds.length+fJ x.expr:=rfl;unfold fD at o
 obtain⟨ya,yc,rfl⟩:=hA.isS
 obtain⟨yd,ye,rfl⟩:=hD.isS
 refine aC1 Tryz.func78 rfl Tryz.ntmps78 (by kernel_rfl) ?_;by_cases h0:x.vars=[]
 case pos =>
  have hlen0:¬ ((0:Int)<(x.vars.length:Int)):=by rw[h0];simp
  refine rR (nC rfl ?_);refine rR (fA aC rfl rfl rfl ?_);refine rR (aCi o 2 rfl pJ rfl rfl ?_);refine rR (aCq rfl nV ?_);refine aCo (B:=B) ‹_› (aE _ _) (fun e1 m2 _ oq=>absurd (of_decide_eq_true e1) hlen0) fun e1 m2 oq=>?_
  exact⟨by show aJ [dL (fun _=>tA) [] x.vars,nR x.conds]=none;rw[h0];rfl,rfl,oq⟩
 have hRe:part9 x=aJ [dB (eA fun _=>tA) x.vars,nR x.conds]:=by unfold part9;rw[xH _ _ h0]
 have hpos:0<x.vars.length:=List.length_pos_iff.2 h0;refine rR (nC rfl ?_);refine rR (fA aC rfl rfl rfl ?_);refine rR (aCi o 2 rfl pJ rfl rfl ?_);refine rR (aCq rfl nV ?_);refine aCo (B:=B) ‹_› (aE _ _) (fun e1 m2 oc oq=>?_) fun e1 m2 oq=>absurd (of_decide_eq_false e1) (by omega);clear oc o e1;refine rR (nC rfl ?_);refine rR (fA aC rfl rfl rfl ?_);refine rR (aCi oq 2 rfl pJ rfl rfl ?_);refine rR (aCq rfl nV ?_);refine aC5 [4,5,18,19,20,21,22,23,24,25,26,27,28,29,30,31,32,33,34,35,36,37,38,39,40,41,42,43] [18] (fun vs' hh=>∃(i:Nat) (p' v':Value) (bs':aBs) (k':Int) (ps:List Pc),i≤x.vars.length∧vs'=[.int .i64 i]∧cO b p'∧dB (eA fun _=>tA) (x.vars.take i)=some ps∧bs'=bs++bG ps∧k'=k+ps.length∧bs'.length≤bs.length+1000*i∧k'≤k+1000*i∧Own B [box b [p',v',.int .i64 k'] 58,row v' 5 1 bs'.length (bytes bs'),box bx [.int .i64 x.kind,.string ⟨⟨x.name⟩⟩,.int .i64 z,.string ⟨⟨x.table⟩⟩,.string ⟨⟨x.attr⟩⟩,vc,vn,.int .i64 x.by_,.int .i64 x.n,.int .i64 x.m,vt,.string ⟨⟨x.other⟩⟩,.string ⟨⟨x.oattr⟩⟩,vf,.slice ya x.vars.length yc,.slice yd x.conds.length ye,e0,e1,e2,e3,e4,e5,e6,e7,e8] 44] hh) (fun vs' _=>match vs' with|[.int _ i]=>x.vars.length - i.toNat|_=>0) ?_ ?_
 ·exact⟨0,p,v,bs,k,[],by omega,rfl,hp,rfl,by simp[bG],by simp,by omega,by omega,Own.sel ‹_› [0,1,2] rfl⟩
 rintro vs' junk hh ⟨i,p',v',bs',k',ps,hi,rfl,hp',hQ,hb',hk',hl',hkb,oh⟩;have hkge:k≤k':=by omega
 by_cases hlt:i<x.vars.length
 ·obtain⟨el,hel⟩:=getx hlt
  have hOKel:=bvars el (aDa hel);have hm:1000*i+1000≤1000*x.vars.length:=by omega
  obtain⟨hn1,hn2⟩:=hOKel
  by_cases h0i:i=0
  ·have hone:eA (fun _=>tA) i el=aJ [aZ [32] el.table,aZ [32] el.name]:=by unfold eA;rw[if_pos h0i];rfl
   refine aCV (fun c160=>?_) (fun hc=>absurd (by omega) hc);refine rR (aCt nV lW (hA.ext oh.ext) rfl (by omega) (by omega) ?_);refine rR (aCv lW (hA.ext oh.ext) (fun _=>rfl) (by decide) rfl ‹_› ?_);(refine aCT oh lW ?_;intro b163 m163 o163);(refine aCl o163 3 rfl lW rfl (by decide) (aI ⟨rfl,rfl⟩ ?_);intro m164 o164);refine aCV (fun hc=>absurd hc (by omega)) (fun c165=>?_);refine aCY [0,1,2,3,6,7,10] [4,8] [9,11,12] [0,1,2,3,4,7,8,5,6,9,10,11,12] mixed (by kernel_rfl) rfl (fun _ _ _ _ h=>h) ?_;refine nC rfl ?_;refine fA bO rfl rfl rfl ?_;refine fA st98 rfl rfl rfl ?_;refine aCi o164 3 rfl aL rfl rfl ?_;refine fA st98 rfl rfl rfl ?_;refine aCi o164 3 rfl aL rfl rfl ?_;refine aCo (B:=B) ‹_› (bJ el.table _ hn2) (fun h1 m1 oc1 oq1=>?_) fun h1 m1 oq1=>?_
   case refine_2=>exact⟨(by rw[hRe];simp only[aR hel hQ (show(eA fun _=>tA) i el=none by rw[hone];simp only[cS h1,aJ,oMN,oMS]),aJ,oMN,oMS]),rfl,oq1⟩
   have hnl1:=cR h1
   refine⟨oc1.ext,?_⟩
   clear oc1;refine aCs rfl rfl (by first|omega|(simp;omega)) ?_;refine aCo (B:=B) ‹_› (bJ el.name _ hn1) (fun h2 m2 oc2 oq2=>?_) fun h2 m2 oq2=>?_
   case refine_2=>exact⟨(by rw[hRe];simp only[aR hel hQ (show(eA fun _=>tA) i el=none by rw[hone];simp only[aA h1,cS h2,aJ,oMN,oMS]),aJ,oMN,oMS]),rfl,oq2⟩
   have hnl2:=cR h2;clear oc2;refine aCs rfl rfl (by first|omega|(simp;omega)) ?_;(refine aCS oq2 aK aL rfl rfl (by decide) (aI rfl ?_);intro b261 m261 o261);refine aH [[32]++el.table,[32]++el.name] 2 30 [2,3] (i:=4) ‹_› rfl rfl rfl hp' rfl (by omega) (by omega) (by first|(simp;done)|(simp;omega)) (by omega) (by omega) (fun p3 v3 bs3 k3 m3 hp3 hb3 hk3 hl3 oq=>?_);have o3q:=oq
   simp only[pick,lgS,lgZ]at o3q
   clear oq;refine aC2 (by omega) (by omega) ?_
   refine⟨rfl,?_⟩
   exact⟨⟨i+1,p3,v3,bs3,k3,ps++([aD [32] el.table]++([aD [32] el.name]++[])),by omega,rfl,hp3,bA hel hQ (by(first|rw[hone]|(show bI el=_;rw[hone]));simp only[aA h1,aA h2,aJ,oMS]),by rw[hb3,hb'];simp[bG,fM,wr,aD,aO,bP],by rw[hk3,hk'];first|(simp;done)|(simp;omega),by omega,by omega,Own.sel ‹_› [0,1,2] rfl⟩,by simp;omega⟩
  ·have hone:eA (fun _=>tA) i el=(aJ [aZ [32] el.table,aZ [32] el.name]).map (aO [] [44]::·):=by unfold eA;rw[if_neg h0i];rfl
   refine aCV (fun c360=>?_) (fun hc=>absurd (by omega) hc);refine rR (aCt nV lW (hA.ext oh.ext) rfl (by omega) (by omega) ?_);refine rR (aCv lW (hA.ext oh.ext) (fun _=>rfl) (by decide) rfl ‹_› ?_);(refine aCT oh lW ?_;intro b363 m363 o363);(refine aCl o363 3 rfl lW rfl (by decide) (aI ⟨rfl,rfl⟩ ?_);intro m364 o364);refine aCV (fun c365=>?_) (fun hc=>absurd (by omega) hc);refine rR (nC rfl ?_);refine rR (fA bO rfl rfl rfl ?_);(refine aCS o364 aK aL rfl rfl (by decide) (aI rfl ?_);intro b368 m368 o368);refine aH [[44]] 1 30 [2,3] (i:=4) ‹_› rfl rfl rfl hp' rfl (by omega) (by omega) (by first|(simp;done)|(simp;omega)) (by omega) (by omega) (fun p4 v4 bs4 k4 m4 hp4 hb4 hk4 hl4 oq=>?_);have o4q:=oq
   simp only[pick,lgS,lgZ]at o4q
   clear oq;refine aCY [0,1,2,3,6,7,10] [4,8] [9,11,12] [0,1,2,3,4,7,8,5,6,9,10,11,12] mixed (by kernel_rfl) rfl (fun _ _ _ _ h=>h) ?_;refine nC rfl ?_;refine fA bO rfl rfl rfl ?_;refine fA st98 rfl rfl rfl ?_;refine aCi o4q 3 rfl aL rfl rfl ?_;refine fA st98 rfl rfl rfl ?_;refine aCi o4q 3 rfl aL rfl rfl ?_;refine aCo (B:=B) ‹_› (bJ el.table _ hn2) (fun h5 m5 oc5 oq5=>?_) fun h5 m5 oq5=>?_
   case refine_2=>exact⟨(by rw[hRe];simp only[aR hel hQ (show(eA fun _=>tA) i el=none by rw[hone];simp only[cS h5,aJ,oMN,oMS]),aJ,oMN,oMS]),rfl,oq5⟩
   have hnl5:=cR h5
   refine⟨oc5.ext,?_⟩
   clear oc5;refine aCs rfl rfl (by first|omega|(simp;omega)) ?_;refine aCo (B:=B) ‹_› (bJ el.name _ hn1) (fun h6 m6 oc6 oq6=>?_) fun h6 m6 oq6=>?_
   case refine_2=>exact⟨(by rw[hRe];simp only[aR hel hQ (show(eA fun _=>tA) i el=none by rw[hone];simp only[aA h5,cS h6,aJ,oMN,oMS]),aJ,oMN,oMS]),rfl,oq6⟩
   have hnl6:=cR h6;clear oc6;refine aCs rfl rfl (by first|omega|(simp;omega)) ?_;(refine aCS oq6 aK aL rfl rfl (by decide) (aI rfl ?_);intro b511 m511 o511);refine aH [[32]++el.table,[32]++el.name] 2 30 [2,3] (i:=4) ‹_› rfl rfl rfl hp4 rfl (by omega) (by omega) (by first|(simp;done)|(simp;omega)) (by omega) (by omega) (fun p7 v7 bs7 k7 m7 hp7 hb7 hk7 hl7 oq=>?_);have o7q:=oq
   simp only[pick,lgS,lgZ]at o7q
   clear oq;refine aC2 (by omega) (by omega) ?_
   refine⟨rfl,?_⟩
   exact⟨⟨i+1,p7,v7,bs7,k7,ps++(aO [] [44]::([aD [32] el.table]++([aD [32] el.name]++[]))),by omega,rfl,hp7,bA hel hQ (by(first|rw[hone]|(show bI el=_;rw[hone]));simp only[aA h5,aA h6,aJ,oMS]),by rw[hb7,hb4,hb'];simp[bG,fM,wr,aD,aO,bP],by rw[hk7,hk4,hk'];first|(simp;done)|(simp;omega),by omega,by omega,Own.sel ‹_› [0,1,2] rfl⟩,by simp;omega⟩
 have hQL:=fT (aDw hlt) hQ;refine aCV (fun hc=>absurd hc (by omega)) (fun c610=>?_);refine rR (nC rfl ?_);refine rR (fA aC rfl rfl rfl ?_);refine rR (aCi oh 2 rfl mO rfl rfl ?_);refine WEnds.callJ [2] ‹_› rfl rfl (fun J oj=>tZ ⟨B.h,J++B.T⟩ b p' v' k' bs' x.conds _ _ hp' hT hD bconds oj (by omega) (by omega)) (fun ps8 p8 v8 bs8 k8 m8 hq8 hp8 hb8 hk8 hl8 _ hj8 oq=>?_) (fun m8 hq8 oq=>?_)
 case refine_2=>exact⟨(by rw[hRe];simp only[hQL,hq8,aJ,oMN,oMS]),rfl,oq⟩
 have o8q:=oq
 simp only[pick,lgS,lgZ]at o8q
 clear oq;refine rR (nC rfl ?_);refine rR (fA aC rfl rfl rfl ?_);(refine aCR o8q 2 rfl pJ rfl (by simp) (aI ⟨rfl,rfl⟩ ?_);intro m662 o662);refine rR (nC rfl ?_);refine rR (fA aC rfl rfl rfl ?_);(refine aCR o662 2 rfl mO rfl (by simp) (aI ⟨rfl,rfl⟩ ?_);intro m665 o665);refine aC4 rfl ?_;exact IEnds.done (ps:=ps++(ps8++[])) (by rw[hRe];simp only[hQL,hq8,aJ,oMS]) (Own.sel ‹_› [0,1,2] rfl) hp8 (by rw[hb8,hb'];simp[bG,fM,wr,aD,aO,bP]) (by rw[hk8,hk'];first|(simp;done)|(simp;omega)) (by omega) (by omega)
theorem Ends.mono {P P':Value→Heap→Prop}{C C':List PanicEntry→Heap→Prop}(h1:∀ v h,P v h→P' v h)(h2:∀ c h,C c h→C' c h)(e:Ending)(h:Heap)(he:Ends P C e h):Ends P' C' e h:=by
 cases e with
 | returned v=>exact h1 v h he
 | panicked c=>exact h2 c h he
 | outgrown=>exact he
theorem yL (B:Base)(b bx:Nat)(p v:Value)(k:Int)(bs:aBs)(x:It)(z:Int)(vc vn vt vf vv vd e0 e1 e2 e3 e4 e5 e6 e7 e8:Value)(h:Heap)(hp:cO b p)(hT:jP B.h)(hF:gY B.h)(hOK:iZ x)(hkd:1≤x.kind∧x.kind≤10)(hc:itH B.h (fD x z vc vn vt vf vv vd e0 e1 e2 e3 e4 e5 e6 e7 e8) x)(hLev:bX x.expr≤100000000000)
  (o:Own B [box b [p,v,.int .i64 k] 58,row v 5 1 bs.length (bytes bs),box bx (fD x z vc vn vt vf vv vd e0 e1 e2 e3 e4 e5 e6 e7 e8) 44] h) (hl:bs.length+2000*eJ x≤40000000000000) (hk:0≤k∧k+2000*eJ x≤40000000000000) :
  Spec Tryz.prog (wrN x.kind) [.pointer (some ⟨b,0,none⟩),.pointer (some ⟨bx,0,none⟩)] h (WAny B b bx bs k (2000*eJ x+60) x z):=by
 obtain⟨z2,w1,w2,w3,w4,w5,w6,f0,f1,f2,f3,f4,f5,f6,f7,f8,he,q1,q2,q3,q4,q5,q6,rx⟩:=hc
 unfold fD at he
 simp only[List.cons.injEq,and_true,true_and,Value.int.injEq]at he
 obtain⟨rfl,rfl,rfl,rfl,rfl,rfl,rfl,rfl,rfl,rfl,rfl,rfl,rfl,rfl,rfl,rfl⟩:=he
 have hN:=q2
 rw[gS]at hN
 have n5:∀ H:Heap,dF 5 H aN 0 []:=fun H=>dF.nil 5 H;by_cases h1:x.kind=1
 ·have hcl:dT x=clr1 x:=by unfold dT;rw[if_pos h1]
  have hpq:hH x=part1 x:=by rw[jF,if_pos h1]
  have hwn:wrN x.kind=70:=by unfold wrN;rw[if_pos h1]
  have hzz:(if x.kind=10∧12<bX x.expr then -1 else z)=z:=if_neg (fun hh=>by omega);unfold WAny
  rw[hcl,hpq,hwn,hzz]
  refine Spec.mono (aBM B b bx p v k bs x z vc vn vt vf vv vd e0 e1 e2 e3 e4 e5 e6 e7 e8 h hp hT hOK hN q1 o (by omega) (by omega)) (fun e h' he=>Ends.mono (fun r h' ⟨ps,p',v',g1,g2,g3,g4,g5,o'⟩=>⟨ps,p',v',_,_,_,_,_,_,_,_,_,_,_,_,_,_,_,g1,g2,g3,by omega,by omega,⟨_,_,_,_,_,_,_,_,_,_,_,_,_,_,_,_,rfl,(dF.nil 5 _),(dF.nil 1 _),q3,q4,q5,q6,rx⟩,o'⟩) (fun _ _ hh=>hh) e h' he)
 by_cases h2:x.kind=2
 ·have hcl:dT x=clr2 x:=by unfold dT;rw[if_neg h1,if_pos h2]
  have hpq:hH x=part2 x:=by rw[jF,if_neg h1,if_pos h2]
  have hwn:wrN x.kind=71:=by unfold wrN;rw[if_neg h1,if_pos h2]
  have hzz:(if x.kind=10∧12<bX x.expr then -1 else z)=z:=if_neg (fun hh=>by omega);unfold WAny
  rw[hcl,hpq,hwn,hzz]
  refine Spec.mono (aAQ B b bx p v k bs x z vc vn vt vf vv vd e0 e1 e2 e3 e4 e5 e6 e7 e8 h hp hT hOK o (by omega) (by omega)) (fun e h' he=>Ends.mono (fun r h' ⟨ps,p',v',g1,g2,g3,g4,g5,o'⟩=>⟨ps,p',v',_,_,_,_,_,_,_,_,_,_,_,_,_,_,_,g1,g2,g3,by omega,by omega,⟨_,_,_,_,_,_,_,_,_,_,_,_,_,_,_,_,rfl,q1,q2,q3,q4,q5,q6,rx⟩,o'⟩) (fun _ _ hh=>hh) e h' he)
 by_cases h3:x.kind=3
 ·have hcl:dT x=aAC x:=by unfold dT;rw[if_neg h1,if_neg h2,if_pos h3]
  have hpq:hH x=part3 x:=by rw[jF,if_neg h1,if_neg h2,if_pos h3]
  have hwn:wrN x.kind=72:=by unfold wrN;rw[if_neg h1,if_neg h2,if_pos h3]
  have hzz:(if x.kind=10∧12<bX x.expr then -1 else z)=z:=if_neg (fun hh=>by omega);unfold WAny
  rw[hcl,hpq,hwn,hzz]
  refine Spec.mono (aBP B b bx p v k bs x z vc vn vt vf vv vd e0 e1 e2 e3 e4 e5 e6 e7 e8 h hp hT hOK o (by omega) (by omega)) (fun e h' he=>Ends.mono (fun r h' ⟨ps,p',v',g1,g2,g3,g4,g5,o'⟩=>⟨ps,p',v',_,_,_,_,_,_,_,_,_,_,_,_,_,_,_,g1,g2,g3,by omega,by omega,⟨_,_,_,_,_,_,_,_,_,_,_,_,_,_,_,_,rfl,q1,q2,q3,q4,q5,q6,rx⟩,o'⟩) (fun _ _ hh=>hh) e h' he)
 by_cases h4:x.kind=4
 ·have hcl:dT x=clr4 x:=by unfold dT;rw[if_neg h1,if_neg h2,if_neg h3,if_pos h4]
  have hpq:hH x=part4 x:=by rw[jF,if_neg h1,if_neg h2,if_neg h3,if_pos h4]
  have hwn:wrN x.kind=73:=by unfold wrN;rw[if_neg h1,if_neg h2,if_neg h3,if_pos h4]
  have hzz:(if x.kind=10∧12<bX x.expr then -1 else z)=z:=if_neg (fun hh=>by omega);unfold WAny
  rw[hcl,hpq,hwn,hzz]
  refine Spec.mono (aBO B b bx p v k bs x z vc vn vt vf vv vd e0 e1 e2 e3 e4 e5 e6 e7 e8 h hp hT hOK q3 o (by omega) (by omega)) (fun e h' he=>Ends.mono (fun r h' ⟨ps,p',v',g1,g2,g3,g4,g5,o'⟩=>⟨ps,p',v',_,_,_,_,_,_,_,_,_,_,_,_,_,_,_,g1,g2,g3,by omega,by omega,⟨_,_,_,_,_,_,_,_,_,_,_,_,_,_,_,_,rfl,q1,q2,(dF.nil 7 _),q4,q5,q6,rx⟩,o'⟩) (fun _ _ hh=>hh) e h' he)
 by_cases h5:x.kind=5
 ·have hcl:dT x=clr5 x:=by unfold dT;rw[if_neg h1,if_neg h2,if_neg h3,if_neg h4,if_pos h5]
  have hpq:hH x=part5 x:=by rw[jF,if_neg h1,if_neg h2,if_neg h3,if_neg h4,if_pos h5]
  have hwn:wrN x.kind=74:=by unfold wrN;rw[if_neg h1,if_neg h2,if_neg h3,if_neg h4,if_pos h5]
  have hzz:(if x.kind=10∧12<bX x.expr then -1 else z)=z:=if_neg (fun hh=>by omega);unfold WAny
  rw[hcl,hpq,hwn,hzz]
  refine Spec.mono (wrKeep_spec B b bx p v k bs x z vc vn vt vf vv vd e0 e1 e2 e3 e4 e5 e6 e7 e8 h hp hT hOK o (by omega) (by omega)) (fun e h' he=>Ends.mono (fun r h' ⟨ps,p',v',g1,g2,g3,g4,g5,o'⟩=>⟨ps,p',v',_,_,_,_,_,_,_,_,_,_,_,_,_,_,_,g1,g2,g3,by omega,by omega,⟨_,_,_,_,_,_,_,_,_,_,_,_,_,_,_,_,rfl,q1,q2,q3,q4,q5,q6,rx⟩,o'⟩) (fun _ _ hh=>hh) e h' he)
 by_cases h6:x.kind=6
 ·have hcl:dT x=clr6 x:=by unfold dT;rw[if_neg h1,if_neg h2,if_neg h3,if_neg h4,if_neg h5,if_pos h6]
  have hpq:hH x=part6 x:=by rw[jF,if_neg h1,if_neg h2,if_neg h3,if_neg h4,if_neg h5,if_pos h6]
  have hwn:wrN x.kind=75:=by unfold wrN;rw[if_neg h1,if_neg h2,if_neg h3,if_neg h4,if_neg h5,if_pos h6]
  have hzz:(if x.kind=10∧12<bX x.expr then -1 else z)=z:=if_neg (fun hh=>by omega);unfold WAny
  rw[hcl,hpq,hwn,hzz]
  refine Spec.mono (aAP B b bx p v k bs x z vc vn vt vf vv vd e0 e1 e2 e3 e4 e5 e6 e7 e8 h hp hT hOK hN o (by omega) (by omega)) (fun e h' he=>Ends.mono (fun r h' ⟨ps,p',v',g1,g2,g3,g4,g5,o'⟩=>⟨ps,p',v',_,_,_,_,_,_,_,_,_,_,_,_,_,_,_,g1,g2,g3,by omega,by omega,⟨_,_,_,_,_,_,_,_,_,_,_,_,_,_,_,_,rfl,q1,(dF.nil 1 _),q3,q4,q5,q6,rx⟩,o'⟩) (fun _ _ hh=>hh) e h' he)
 by_cases h7:x.kind=7
 ·have hcl:dT x=clr7 x:=by unfold dT;rw[if_neg h1,if_neg h2,if_neg h3,if_neg h4,if_neg h5,if_neg h6,if_pos h7]
  have hpq:hH x=part7 x:=by rw[jF,if_neg h1,if_neg h2,if_neg h3,if_neg h4,if_neg h5,if_neg h6,if_pos h7]
  have hwn:wrN x.kind=76:=by unfold wrN;rw[if_neg h1,if_neg h2,if_neg h3,if_neg h4,if_neg h5,if_neg h6,if_pos h7]
  have hzz:(if x.kind=10∧12<bX x.expr then -1 else z)=z:=if_neg (fun hh=>by omega);unfold WAny
  rw[hcl,hpq,hwn,hzz]
  refine Spec.mono (aAR B b bx p v k bs x z vc vn vt vf vv vd e0 e1 e2 e3 e4 e5 e6 e7 e8 h hp hT hOK hN q4 o (by omega) (by omega)) (fun e h' he=>Ends.mono (fun r h' ⟨ps,p',v',g1,g2,g3,g4,g5,o'⟩=>⟨ps,p',v',_,_,_,_,_,_,_,_,_,_,_,_,_,_,_,g1,g2,g3,by omega,by omega,⟨_,_,_,_,_,_,_,_,_,_,_,_,_,_,_,_,rfl,q1,(dF.nil 1 _),q3,(dF.nil 4 _),q5,q6,rx⟩,o'⟩) (fun _ _ hh=>hh) e h' he)
 by_cases h8:x.kind=8
 ·have hcl:dT x=clr8 x:=by unfold dT;rw[if_neg h1,if_neg h2,if_neg h3,if_neg h4,if_neg h5,if_neg h6,if_neg h7,if_pos h8]
  have hpq:hH x=part8 x:=by rw[jF,if_neg h1,if_neg h2,if_neg h3,if_neg h4,if_neg h5,if_neg h6,if_neg h7,if_pos h8]
  have hwn:wrN x.kind=77:=by unfold wrN;rw[if_neg h1,if_neg h2,if_neg h3,if_neg h4,if_neg h5,if_neg h6,if_neg h7,if_pos h8]
  have hzz:(if x.kind=10∧12<bX x.expr then -1 else z)=z:=if_neg (fun hh=>by omega);unfold WAny
  rw[hcl,hpq,hwn,hzz]
  refine Spec.mono (yK B b bx p v k bs x z vc vn vt vf vv vd e0 e1 e2 e3 e4 e5 e6 e7 e8 h hp hT hOK o (by omega) (by omega)) (fun e h' he=>Ends.mono (fun r h' ⟨ps,p',v',g1,g2,g3,g4,g5,o'⟩=>⟨ps,p',v',_,_,_,_,_,_,_,_,_,_,_,_,_,_,_,g1,g2,g3,by omega,by omega,⟨_,_,_,_,_,_,_,_,_,_,_,_,_,_,_,_,rfl,q1,q2,q3,q4,q5,q6,rx⟩,o'⟩) (fun _ _ hh=>hh) e h' he)
 by_cases h9:x.kind=9
 ·have hcl:dT x=clr9 x:=by unfold dT;rw[if_neg h1,if_neg h2,if_neg h3,if_neg h4,if_neg h5,if_neg h6,if_neg h7,if_neg h8,if_pos h9]
  have hpq:hH x=part9 x:=by rw[jF,if_neg h1,if_neg h2,if_neg h3,if_neg h4,if_neg h5,if_neg h6,if_neg h7,if_neg h8,if_pos h9]
  have hwn:wrN x.kind=78:=by unfold wrN;rw[if_neg h1,if_neg h2,if_neg h3,if_neg h4,if_neg h5,if_neg h6,if_neg h7,if_neg h8,if_pos h9]
  have hzz:(if x.kind=10∧12<bX x.expr then -1 else z)=z:=if_neg (fun hh=>by omega);unfold WAny
  rw[hcl,hpq,hwn,hzz]
  refine Spec.mono (wrDeny_spec B b bx p v k bs x z vc vn vt vf vv vd e0 e1 e2 e3 e4 e5 e6 e7 e8 h hp hT hOK q5 q6 o (by omega) (by omega)) (fun e h' he=>Ends.mono (fun r h' ⟨ps,p',v',g1,g2,g3,g4,g5,o'⟩=>⟨ps,p',v',_,_,_,_,_,_,_,_,_,_,_,_,_,_,_,g1,g2,g3,by omega,by omega,⟨_,_,_,_,_,_,_,_,_,_,_,_,_,_,_,_,rfl,q1,q2,q3,q4,(dF.nil 2 _),(dF.nil 14 _),rx⟩,o'⟩) (fun _ _ hh=>hh) e h' he)
 have h10:x.kind=10:=by omega
 have hcl:dT x=clr10 x:=by unfold dT;rw[if_neg h1,if_neg h2,if_neg h3,if_neg h4,if_neg h5,if_neg h6,if_neg h7,if_neg h8,if_neg h9]
 have hz0:kJ B.h [(.int .i64 0),(.string ⟨⟨[]⟩⟩),aN,aN,aN,(.string ⟨⟨[]⟩⟩),(.string ⟨⟨[]⟩⟩),(.int .i64 0),(.int .i64 0)] ex0:=mF.toH (I:=gL) (H:=B.h) trivial _ _ (iR gL);have hpq:hH x=aB1 x:=by rw[jF,if_neg h1,if_neg h2,if_neg h3,if_neg h4,if_neg h5,if_neg h6,if_neg h7,if_neg h8,if_neg h9]
 have hwn:wrN x.kind=79:=by unfold wrN;rw[if_neg h1,if_neg h2,if_neg h3,if_neg h4,if_neg h5,if_neg h6,if_neg h7,if_neg h8,if_neg h9]
 have hzz:(if x.kind=10∧12<bX x.expr then -1 else z)=(if 12<bX x.expr then -1 else z):=by by_cases hh:12<bX x.expr;rw[if_pos ⟨h10,hh⟩,if_pos hh];rw[if_neg (fun q=>hh q.2),if_neg hh]
 unfold WAny
 rw[hcl,hpq,hwn,hzz]
 refine Spec.mono (aBN B b bx p v k bs x z vc vn vt vf vv vd e0 e1 e2 e3 e4 e5 e6 e7 e8 h hp hT hF hOK rx hLev o (by omega) (by omega)) (fun e h' he=>Ends.mono (fun r h' ⟨ps,p',v',g1,g2,g3,g4,g5,o'⟩=>⟨ps,p',v',_,_,_,_,_,_,_,_,_,_,_,_,_,_,_,g1,g2,g3,by omega,by omega,⟨_,_,_,_,_,_,_,_,_,_,_,_,_,_,_,_,rfl,q1,q2,q3,q4,q5,q6,hz0⟩,o'⟩) (fun _ _ hh=>hh) e h' he)
end Go.Proofs.YtohlogbnpfofpaaGreatDoor
