/- Part 10 of the proof of matches_lifted: FnH3, FnH4, FnH5, FnH6, FnH7, FnH8, FnH9, FnXq, FnXo. -/
import Derived.Test.YtohlogbnpfofpaaGreatDoorPX09
set_option linter.all false
set_option maxHeartbeats 100000000
set_option maxRecDepth 100000
namespace Go.Proofs.YtohlogbnpfofpaaGreatDoor
open Go StillVC
theorem aCu (B:Base)(b bx:Nat)(p v:Value)(k:Int)(bs:aBs)(x:It)(z:Int)(vc vn vt vf vv vd e0 e1 e2 e3 e4 e5 e6 e7 e8:Value)(h:Heap)(hp:dI b p)(hT:kQ B.h)(hOK:fO x)
  (o:Own B [box b [p,v,iv k] 58,row v 5 1 bs.length (bytes bs),box bx (eD x z vc vn vt vf vv vd e0 e1 e2 e3 e4 e5 e6 e7 e8) 44] h) (hl:bs.length+2000*dF x<=50000000000000) (hk:0<=k/\k+2000*dF x<=50000000000000) :
  Spec Tryz.prog 72 [pv b 0,pv bx 0] h (IEnds B b bx bs k (2000*dF x) (eD (aBj x) z vc vn vt vf vv vd e0 e1 e2 e3 e4 e5 e6 e7 e8) (part3 x)):=by
 obtain⟨bkind,bname,btable,battr,bcols,bnames,bby,bn,bm,bterms,both,boat,bfixed,bvars,bconds,bexpr,lcols,lnames,lterms,lfixed,lvars,lconds⟩:=hOK
 have hsz:dF x=1+x.cols.length+x.names.length+x.terms.length+x.fixed.length+x.vars.length+x.conds.length+fD x.expr:=rfl;unfold eD at o;refine eN Tryz.func72 Tryz.ntmps72 ?_;have hRe:part3 x=aO [some [aG [32] [111,110]],fM x.table x.attr,some [aG [32] [98,121]],hO x.by_ [[101,120,97,99,116],[116,111,107,101,110],[112,114,101,102,105,120],[115,107,101,116,99,104]],(if 3<=x.by_ then iU [32] x.n else some []),(if x.by_=4 then iU [32] x.m else some [])]:=rfl;refine cB ?_;refine fB cC ?_;refine lA o aB aC λb62 m62 o62=>?_;refine aM [[32,111,110]] 1 30 [2] (i:=3) zA rfl rfl rfl hp rfl zO zO (by first|(simp;done)|(simp;omega)) zO zO (λp1 v1 bs1 k1 m1 hp1 hb1 hk1 hl1 oq=>?_);have o1q:=oq
 simp only[pick,lgS,lgZ]at o1q
 clear oq;refine d1_ [0,1,2,3,5,6,7] [4,8] [9] [0,1,2,3,4,5,6,7,8,9] ?_;refine nC rfl ?_;refine fC aA ?_;refine oC o1q 2 aC ?_;refine nC rfl ?_;refine fC aA ?_;refine oC o1q 2 aC ?_;refine WEnds.callJ [2] zA rfl rfl (λJ oj=>nU ⟨B.h,J++B.T⟩ b p1 v1 k1 bs1 x.table x.attr _ hp1 oj zO btable battr zO) (λps2 p2 v2 bs2 k2 m2 hq2 hp2 hb2 hk2 hl2 _ hj2 oq=>?_) (λm2 hq2 oq=>?_)
 case refine_2=>exact⟨(by rw[hRe];simp only[hq2,aO,oMN,oMS]),rfl,oq⟩
 have o2q:=oq
 simp only[pick,lgS,lgZ]at o2q
 clear oq;refine d1_ [0,1,2,3,4,5] [6] [8,9,10] [0,1,2,3,4,5,6,7,8,9,10] ?_;refine nC rfl ?_;refine fC cC ?_;refine nC rfl ?_;refine fC aA ?_;refine oC o2q 2 aK ?_;refine lA (Own.refl _) aB aC λb165 m165 o165=>?_;(refine aI o165.ext ?_;have o166:=Own.call o2q o165;simp only[lcA,lnA]at o166;clear o165);refine aDc (B:=B) zA (eS x.by_ [[101,120,97,99,116],[116,111,107,101,110],[112,114,101,102,105,120],[115,107,101,116,99,104]] _ _ zO zO (Own.boxArr zA 3 rfl rfl zD) zS zS) (λh3 m3 oc3 oq3=>?_) λh3 m3 oq3=>?_
 case refine_2=>exact⟨(by rw[hRe];simp only[hq2,mU (of_decide_eq_false h3),aO,oMN,oMS]),rfl,oq3⟩
 have h3:=of_decide_eq_true h3;have hw3:=lD (n:=x.by_) h3;have hnl3:=lS (ws:=[[101,120,97,99,116],[116,111,107,101,110],[112,114,101,102,105,120],[115,107,101,116,99,104]]) (M:=10) zS (x.by_ - 1).toNat;generalize ([[101,120,97,99,116],[116,111,107,101,110],[112,114,101,102,105,120],[115,107,101,116,99,104]]:List aBs).getD (x.by_ - 1).toNat []=w3 at hw3 hnl3;clear oc3;refine lA oq3 aB aC λb210 m210 o210=>?_;refine aM [[32,98,121],32::w3] 2 30 [2] (i:=4) zA rfl rfl rfl hp2 rfl zO zO (by first|(simp;done)|(simp;omega)) zO zO (λp4 v4 bs4 k4 m4 hp4 hb4 hk4 hl4 oq=>?_);have o4q:=oq
 simp only[pick,lgS,lgZ]at o4q
 clear oq;by_cases hby3:3<=x.by_
 ·by_cases hby4:x.by_=4
  ·have hc3:aBj x={ x with table:=[],attr:=[],by_:=0,n:=0,m:=0 }:=by unfold aBj;rw[if_pos hby3,if_pos hby4]
   rw[hc3]
   refine cB ?_;refine fB aA ?_;refine oB o4q 2 aK ?_;refine bB λc263=>d1_ [0,1,2,3,4,5,8] [6] [7,9,10] [0,1,2,3,4,5,6,7,8,9,10] ?_;refine nC rfl ?_;refine fC cC ?_;refine nC rfl ?_;refine fC aA ?_;refine oC o4q 2 aK ?_;refine aDc (B:=B) zA (bV x.n _ bn.1 bn.2 (hT.ext (Own.ext (B:=B) zA))) (λh5 m5 oc5 oq5=>?_) λh5 m5 oq5=>?_
   case refine_2=>exact⟨(by rw[hRe];simp only[hq2,hw3,if_pos hby3,if_pos hby4,dW h5,aO,oMN,oMS]),rfl,oq5⟩
   have hnl5:=bS h5;clear oc5;refine aDb rfl rfl w_ ?_;refine lA oq5 aB aC λb311 m311 o311=>?_;refine aM [[32]++Lib.itoa x.n] 1 30 [2] (i:=3) zA rfl rfl rfl hp4 rfl zO zO (by first|(simp;done)|(simp;omega)) zO zO (λp6 v6 bs6 k6 m6 hp6 hb6 hk6 hl6 oq=>?_);have o6q:=oq
   simp only[pick,lgS,lgZ]at o6q
   clear oq;refine cB ?_;refine fB aA ?_;(refine sB o6q 2 aK ?_;intro m362 o362);refine cB ?_;refine fB aA ?_;refine oB o362 2 aK ?_;refine bB λc366=>d1_ [0,1,2,3,4,5,8] [6] [7,9,10] [0,1,2,3,4,5,6,7,8,9,10] ?_;refine nC rfl ?_;refine fC cC ?_;refine nC rfl ?_;refine fC aA ?_;refine oC o362 2 aK ?_;refine aDc (B:=B) zA (bV x.m _ bm.1 bm.2 (hT.ext (Own.ext (B:=B) zA))) (λh7 m7 oc7 oq7=>?_) λh7 m7 oq7=>?_
   case refine_2=>exact⟨(by rw[hRe];simp only[hq2,hw3,if_pos hby3,if_pos hby4,aF h5,dW h7,aO,oMN,oMS]),rfl,oq7⟩
   have hnl7:=bS h7;clear oc7;refine aDb rfl rfl w_ ?_;refine lA oq7 aB aC λb411 m411 o411=>?_;refine aM [[32]++Lib.itoa x.m] 1 30 [2] (i:=3) zA rfl rfl rfl hp6 rfl zO zO (by first|(simp;done)|(simp;omega)) zO zO (λp8 v8 bs8 k8 m8 hp8 hb8 hk8 hl8 oq=>?_);have o8q:=oq
   simp only[pick,lgS,lgZ]at o8q
   clear oq;refine cB ?_;refine fB aA ?_;(refine sB o8q 2 aK ?_;intro m462 o462);refine cB ?_;refine fB aA ?_;(refine sB o462 2 aC ?_;intro m465 o465);refine cB ?_;refine fB aA ?_;(refine sB o465 2 aC ?_;intro m468 o468);refine cB ?_;refine fB aA ?_;(refine sB o468 2 aK ?_;intro m471 o471);refine aDS rfl ?_;exact IEnds.done (ps:=[aG [32] [111,110]]++(ps2++([aG [32] [98,121]]++([aG [32] w3]++([cI [32] x.n]++([cI [32] x.m]++[])))))) (by rw[hRe];simp only[hq2,hw3,if_pos hby3,if_pos hby4,aF h5,aF h7,aO,oMS]) (o_ [0,1,2]) hp8 (by rw[hb8,hb6,hb4,hb2,hb1];simp[bX,gX,wr,aG,aS,cI]) (by rw[hk8,hk6,hk4,hk2,hk1];first|(simp;done)|(simp;omega)) zO zO
  ·have hc3:aBj x={ x with table:=[],attr:=[],by_:=0,n:=0 }:=by unfold aBj;rw[if_pos hby3,if_neg hby4]
   rw[hc3]
   refine cB ?_;refine fB aA ?_;refine oB o4q 2 aK ?_;refine bB λc513=>d1_ [0,1,2,3,4,5,8] [6] [7,9,10] [0,1,2,3,4,5,6,7,8,9,10] ?_;refine nC rfl ?_;refine fC cC ?_;refine nC rfl ?_;refine fC aA ?_;refine oC o4q 2 aK ?_;refine aDc (B:=B) zA (bV x.n _ bn.1 bn.2 (hT.ext (Own.ext (B:=B) zA))) (λh9 m9 oc9 oq9=>?_) λh9 m9 oq9=>?_
   case refine_2=>exact⟨(by rw[hRe];simp only[hq2,hw3,if_pos hby3,if_neg hby4,dW h9,aO,oMN,oMS]),rfl,oq9⟩
   have hnl9:=bS h9;clear oc9;refine aDb rfl rfl w_ ?_;refine lA oq9 aB aC λb561 m561 o561=>?_;refine aM [[32]++Lib.itoa x.n] 1 30 [2] (i:=3) zA rfl rfl rfl hp4 rfl zO zO (by first|(simp;done)|(simp;omega)) zO zO (λp10 v10 bs10 k10 m10 hp10 hb10 hk10 hl10 oq=>?_);have o10q:=oq
   simp only[pick,lgS,lgZ]at o10q
   clear oq;refine cB ?_;refine fB aA ?_;(refine sB o10q 2 aK ?_;intro m612 o612);refine cB ?_;refine fB aA ?_;refine oB o612 2 aK ?_;refine bA λc616=>cB ?_;refine fB aA ?_;(refine sB o612 2 aC ?_;intro m619 o619);refine cB ?_;refine fB aA ?_;(refine sB o619 2 aC ?_;intro m622 o622);refine cB ?_;refine fB aA ?_;(refine sB o622 2 aK ?_;intro m625 o625);refine aDS rfl ?_;exact IEnds.done (ps:=[aG [32] [111,110]]++(ps2++([aG [32] [98,121]]++([aG [32] w3]++([cI [32] x.n]++([]++[])))))) (by rw[hRe];simp only[hq2,hw3,if_pos hby3,if_neg hby4,aF h9,aO,oMS]) (o_ [0,1,2]) hp10 (by rw[hb10,hb4,hb2,hb1];simp[bX,gX,wr,aG,aS,cI]) (by rw[hk10,hk4,hk2,hk1];first|(simp;done)|(simp;omega)) zO zO
 ·have hby4:¬ x.by_=4:=by omega
  have hc3:aBj x={ x with table:=[],attr:=[],by_:=0 }:=by unfold aBj;rw[if_neg hby3,if_neg hby4]
  rw[hc3]
  refine cB ?_;refine fB aA ?_;refine oB o4q 2 aK ?_;refine bA λc663=>cB ?_;refine fB aA ?_;refine oB o4q 2 aK ?_;refine bA λc667=>cB ?_;refine fB aA ?_;(refine sB o4q 2 aC ?_;intro m670 o670);refine cB ?_;refine fB aA ?_;(refine sB o670 2 aC ?_;intro m673 o673);refine cB ?_;refine fB aA ?_;(refine sB o673 2 aK ?_;intro m676 o676);refine aDS rfl ?_;exact IEnds.done (ps:=[aG [32] [111,110]]++(ps2++([aG [32] [98,121]]++([aG [32] w3]++([]++([]++[])))))) (by rw[hRe];simp only[hq2,hw3,if_neg hby3,if_neg hby4,aO,oMS]) (o_ [0,1,2]) hp4 (by rw[hb4,hb2,hb1];simp[bX,gX,wr,aG,aS,cI]) (by rw[hk4,hk2,hk1];first|(simp;done)|(simp;omega)) zO zO
theorem aCt (B:Base)(b bx:Nat)(p v:Value)(k:Int)(bs:aBs)(x:It)(z:Int)(vc vn vt vf vv vd e0 e1 e2 e3 e4 e5 e6 e7 e8:Value)(h:Heap)(hp:dI b p)(hT:kQ B.h)(hOK:fO x)(hA:aY 7 B.h vt x.terms.length (x.terms.flatMap wP))
  (o:Own B [box b [p,v,iv k] 58,row v 5 1 bs.length (bytes bs),box bx (eD x z vc vn vt vf vv vd e0 e1 e2 e3 e4 e5 e6 e7 e8) 44] h) (hl:bs.length+2000*dF x<=50000000000000) (hk:0<=k/\k+2000*dF x<=50000000000000) :
  Spec Tryz.prog 73 [pv b 0,pv bx 0] h (IEnds B b bx bs k (2000*dF x) (eD (clr4 x) z vc vn aP vf vv vd e0 e1 e2 e3 e4 e5 e6 e7 e8) (part4 x)):=by
 obtain⟨bkind,bname,btable,battr,bcols,bnames,bby,bn,bm,bterms,both,boat,bfixed,bvars,bconds,bexpr,lcols,lnames,lterms,lfixed,lvars,lconds⟩:=hOK
 have hsz:dF x=1+x.cols.length+x.names.length+x.terms.length+x.fixed.length+x.vars.length+x.conds.length+fD x.expr:=rfl;unfold eD at o
 obtain⟨ya,yc,rfl⟩:=hA.isS
 refine eN Tryz.func73 Tryz.ntmps73 ?_;have hRe:part4 x=aO [some [aG [32] [111,110]],bN [32] x.table,some [aG [32] [97,116]],iU [32] x.n,some [aS [32] [123]],dD (λ_=>bM) x.terms]:=by
  unfold part4
  rw[seqQ_last,aAl]
  rfl
 refine d1_ [0,1,2,3,4,5,8,9,10,11,14] [6,12] [13,15,16] [0,1,2,3,4,5,6,9,10,11,12,7,8,13,14,15,16] ?_;refine nC rfl ?_;refine fC cC ?_;refine nC rfl ?_;refine fC aA ?_;refine oC o 2 aC ?_;refine nC rfl ?_;refine fC aA ?_;refine oC o 2 aK ?_;refine aDc (B:=B) zA (bT x.table _ btable) (λh1 m1 oc1 oq1=>?_) λh1 m1 oq1=>?_
 case refine_2=>exact⟨(by rw[hRe];simp only[dM h1,aO,oMN,oMS]),rfl,oq1⟩
 have hnl1:=bJ h1
 refine⟨oc1.ext,?_⟩
 clear oc1;refine aDb rfl rfl w_ ?_;refine aDc (B:=B) zA (bV x.n _ bn.1 bn.2 (hT.ext (Own.ext (B:=B) zA))) (λh2 m2 oc2 oq2=>?_) λh2 m2 oq2=>?_
 case refine_2=>exact⟨(by rw[hRe];simp only[aD h1,dW h2,aO,oMN,oMS]),rfl,oq2⟩
 have hnl2:=bS h2;clear oc2;refine aDb rfl rfl w_ ?_;refine lA oq2 aB aC λb161 m161 o161=>?_;refine aM [[32,111,110],[32]++x.table,[32,97,116],[32]++Lib.itoa x.n,[32,123]] 5 30 [2] (i:=3) zA rfl rfl rfl hp rfl zO zO (by first|(simp;done)|(simp;omega)) zO zO (λp3 v3 bs3 k3 m3 hp3 hb3 hk3 hl3 oq=>?_);have o3q:=oq
 simp only[pick,lgS,lgZ]at o3q
 clear oq;refine cB ?_;refine fB aA ?_;refine oB o3q 2 mC ?_;refine lB mE ?_;refine aDT [5,28,29,30,31,32,33,34,35,36,37,38,39,40,41,42,43,44,45,46,47,48,49,50,51,52,53,54,55,56,57,58,59,60,61,62,63,64,65,66,67,68,69,70,71,72,73,74,75,76,77,78,79,80,81,82,83,84,85,86,87,88,89,90,91,92,93,94,95,96,97,98,99,100,101,102,103,104,105,106,107,108,109,110] [28] (λvs' hh=>∃(i:Nat) (p' v':Value) (bs':aBs) (k':Int) (ps:List Pc),i<=x.terms.length/\vs'=[.int .i64 i]/\dI b p'/\dD (λ_=>bM) (x.terms.take i)=some ps/\bs'=bs3++bX ps/\k'=k3+ps.length/\bs'.length<=bs3.length+1000*i/\k'<=k3+1000*i/\Own B [box b [p',v',.int .i64 k'] 58,row v' 5 1 bs'.length (bytes bs'),box bx [.int .i64 x.kind,.string ⟨⟨x.name⟩⟩,.int .i64 z,.string ⟨⟨x.table⟩⟩,.string ⟨⟨x.attr⟩⟩,vc,vn,.int .i64 x.by_,.int .i64 x.n,.int .i64 x.m,.slice ya x.terms.length yc,.string ⟨⟨x.other⟩⟩,.string ⟨⟨x.oattr⟩⟩,vf,vv,vd,e0,e1,e2,e3,e4,e5,e6,e7,e8] 44] hh) (λvs' _=>match vs' with|[.int _ i]=>x.terms.length - i.toNat|_=>0) ?_ ?_
 ·exact⟨0,p3,v3,bs3,k3,[],by omega,rfl,hp3,rfl,by simp[bX],by simp,by omega,by omega,o_ [0,1,2]⟩
 rintro vs' junk hh ⟨i,p',v',bs',k',ps,hi,rfl,hp',hQ,hb',hk',hl',hkb,oh⟩;have hkge:k3<=k':=by omega
 by_cases hlt:i<x.terms.length
 ·obtain⟨el,hel⟩:=getx hlt
  have hOKel:=bterms el (aDY hel);have hm:1000*i+1000<=1000*x.terms.length:=by omega
  obtain⟨hn1,b2,b3,b4,b5,b6,b7⟩:=hOKel
  have hone:bM el=aO [bN [10,32,32] el.attr,hO el.measure [[101,113,117,97,108],[101,100,105,116],[106,97,99,99,97,114,100],[106,97,114,111],[110,101,97,114]],(if el.measure=5 then iU [32] el.tol else if el.tol=0 then some [] else none),some [aG [32] [108,101,97,115,116]],iU [32] el.num,(if el.den=1 then some [] else(iU [] el.den).map (aS [] [47]::·)),some [aG [32] [103,105,118,101,115]],iU [32] el.gives,(if el.takes=0 then some [] else(iU [32] el.takes).map (aG [32] [116,97,107,101,115]::·)),some [aS [] [59]]]:=rfl;refine bB λc260=>rR (aDe mE cT (hA.ext oh.ext) rfl zO zO ?_);refine rR (aDg cT (hA.ext oh.ext) (λ_=>rfl) zD rfl zA ?_);refine aDH oh cT λb263 m263 o263=>?_;(refine sA o263 3 cT ?_;intro m264 o264);refine aDs b263 [0,1,2,3,6,7] [4,8] [10,11,12] (.one 0 (.one 1 (.one 2 (.one 3 (.one 4 (.one 7 (.one 8 (.fork 5 9 (.one 6 (.one 9 (.one 10 (.one 11 (.one 12 .done))))) (.one 5 (.one 6 (.one 10 (.one 11 (.one 12 .done))))))))))))) mixed k_ rfl (λ_ _ _ _ h=>h) ?_;refine nC rfl ?_;refine fC cC ?_;refine fC bO ?_;refine StillVCA.load1 aC rfl rfl ((o264.cellB 3 rfl _).trans rfl) ?_;refine fC bO ?_;refine StillVCA.load1 aK rfl rfl ((o264.cellB 3 rfl _).trans rfl) ?_;refine aI ?_ ?_
  ·skip
   refine aDc (B:=B) zA (bT el.attr _ hn1) (λh4 m4 oc4 oq4=>?_) λh4 m4 oq4=>?_
   case refine_2=>exact⟨(by rw[hRe];simp only[aD h1,aF h2,aV hel hQ (show(λ_=>bM) i el=none by show bM el=none;rw[hone];simp only[dM h4,aO,oMN,oMS]),aO,oMN,oMS]),rfl,oq4⟩
   have hnl4:=bJ h4;refine aI ((oq4.boxBlk 3 rfl).trans (o264.boxBlk 3 rfl).symm) ?_;refine aDb rfl rfl w_ ?_;refine lA oq4 aB aC λb411 m411 o411=>?_;refine aI ((o411.boxBlk 3 rfl).trans (oq4.boxBlk 3 rfl).symm) ?_;refine aDc (B:=B) zA (eS el.measure [[101,113,117,97,108],[101,100,105,116],[106,97,99,99,97,114,100],[106,97,114,111],[110,101,97,114]] _ _ zO zO (Own.boxArr zA 4 rfl rfl zD) zS zS) (λh5 m5 oc5 oq5=>?_) λh5 m5 oq5=>?_
   case refine_2=>exact⟨(by rw[hRe];simp only[aD h1,aF h2,aV hel hQ (show(λ_=>bM) i el=none by show bM el=none;rw[hone];simp only[aD h4,mU (of_decide_eq_false h5),aO,oMN,oMS]),aO,oMN,oMS]),rfl,oq5⟩
   have h5:=of_decide_eq_true h5;have hw5:=lD (n:=el.measure) h5;have hnl5:=lS (ws:=[[101,113,117,97,108],[101,100,105,116],[106,97,99,99,97,114,100],[106,97,114,111],[110,101,97,114]]) (M:=10) zS (el.measure - 1).toNat;generalize ([[101,113,117,97,108],[101,100,105,116],[106,97,99,99,97,114,100],[106,97,114,111],[110,101,97,114]]:List aBs).getD (el.measure - 1).toNat []=w5 at hw5 hnl5;clear oc5;refine lA oq5 aB aC λb460 m460 o460=>?_;refine aM [[10,32,32]++el.attr,32::w5] 2 30 [2,3] (i:=5) zA rfl rfl rfl hp' rfl zO zO (by first|(simp;done)|(simp;omega)) zO zO (λp6 v6 bs6 k6 m6 hp6 hb6 hk6 hl6 oq=>?_);have o6q:=oq
   simp only[pick,lgS,lgZ]at o6q
   clear oq;by_cases hm5:el.measure=5
   ·skip
    refine fB bO ?_;refine oB o6q 3 aK ?_;refine bB λc512=>d1_ [0,1,2,3,6] [4] [5,7,8] [0,1,2,3,4,5,6,7,8] ?_;refine nC rfl ?_;refine fC cC ?_;refine fC bO ?_;refine oC o6q 3 aK ?_;refine aDc (B:=B) zA (bV el.tol _ b3.1 b3.2 (hT.ext (Own.ext (B:=B) zA))) (λh7 m7 oc7 oq7=>?_) λh7 m7 oq7=>?_
    case refine_2=>exact⟨(by rw[hRe];simp only[aD h1,aF h2,aV hel hQ (show(λ_=>bM) i el=none by show bM el=none;rw[hone];simp only[aD h4,hw5,if_pos hm5,dW h7,aO,oMN,oMS]),aO,oMN,oMS]),rfl,oq7⟩
    have hnl7:=bS h7;clear oc7;refine aDb rfl rfl w_ ?_;refine lA oq7 aB aC λb561 m561 o561=>?_;refine aM [[32]++Lib.itoa el.tol] 1 30 [2,3] (i:=4) zA rfl rfl rfl hp6 rfl zO zO (by first|(simp;done)|(simp;omega)) zO zO (λp8 v8 bs8 k8 m8 hp8 hb8 hk8 hl8 oq=>?_);have o8q:=oq
    simp only[pick,lgS,lgZ]at o8q
    clear oq;refine d1_ [0,1,2,3,4,7] [5] [6,8,9] [0,1,2,3,4,5,6,7,8,9] ?_;refine nC rfl ?_;refine fC cC ?_;refine fC bO ?_;refine fC iK ?_;refine oC o8q 3 aK ?_;refine aDc (B:=B) zA (bV el.num _ b4.1 b4.2 (hT.ext (Own.ext (B:=B) zA))) (λh9 m9 oc9 oq9=>?_) λh9 m9 oq9=>?_
    case refine_2=>exact⟨(by rw[hRe];simp only[aD h1,aF h2,aV hel hQ (show(λ_=>bM) i el=none by show bM el=none;rw[hone];simp only[aD h4,hw5,if_pos hm5,aF h7,dW h9,aO,oMN,oMS]),aO,oMN,oMS]),rfl,oq9⟩
    have hnl9:=bS h9;clear oc9;refine aDb rfl rfl w_ ?_;refine lA oq9 aB aC λb661 m661 o661=>?_;refine aM [[32,108,101,97,115,116],[32]++Lib.itoa el.num] 2 30 [2,3] (i:=4) zA rfl rfl rfl hp8 rfl zO zO (by first|(simp;done)|(simp;omega)) zO zO (λp10 v10 bs10 k10 m10 hp10 hb10 hk10 hl10 oq=>?_);have o10q:=oq
    simp only[pick,lgS,lgZ]at o10q
    clear oq;by_cases hd1:el.den=1
    ·skip
     refine fB bO ?_;refine fB iK ?_;refine oB o10q 3 aK ?_;refine bC λc713=>d1_ [0,1,2,3,6] [4] [5,7,8] [0,1,2,3,4,5,6,7,8] ?_;refine nC rfl ?_;refine fC cC ?_;refine fC bO ?_;refine oC o10q 3 aK ?_;refine aDc (B:=B) zA (bV el.gives _ b6.1 b6.2 (hT.ext (Own.ext (B:=B) zA))) (λh11 m11 oc11 oq11=>?_) λh11 m11 oq11=>?_
     case refine_2=>exact⟨(by rw[hRe];simp only[aD h1,aF h2,aV hel hQ (show(λ_=>bM) i el=none by show bM el=none;rw[hone];simp only[aD h4,hw5,if_pos hm5,aF h7,aF h9,if_pos hd1,dW h11,aO,oMN,oMS]),aO,oMN,oMS]),rfl,oq11⟩
     have hnl11:=bS h11;clear oc11;refine aDb rfl rfl w_ ?_;refine lA oq11 aB aC λb761 m761 o761=>?_;refine aM [[32,103,105,118,101,115],[32]++Lib.itoa el.gives] 2 30 [2,3] (i:=4) zA rfl rfl rfl hp10 rfl zO zO (by first|(simp;done)|(simp;omega)) zO zO (λp12 v12 bs12 k12 m12 hp12 hb12 hk12 hl12 oq=>?_);have o12q:=oq
     simp only[pick,lgS,lgZ]at o12q
     clear oq;by_cases htk0:el.takes=0
     ·skip
      refine fB bO ?_;refine oB o12q 3 aK ?_;refine bC λc812=>cB ?_;refine fB cC ?_;refine lA o12q aB aC λb815 m815 o815=>?_;refine aM [[59]] 1 30 [2,3] (i:=4) zA rfl rfl rfl hp12 rfl zO zO (by first|(simp;done)|(simp;omega)) zO zO (λp13 v13 bs13 k13 m13 hp13 hb13 hk13 hl13 oq=>?_);have o13q:=oq
      simp only[pick,lgS,lgZ]at o13q
      clear oq;refine aR ?_
      refine⟨rfl,?_⟩
      exact⟨⟨i+1,p13,v13,bs13,k13,ps++([aG [10,32,32] el.attr]++([aG [32] w5]++([cI [32] el.tol]++([aG [32] [108,101,97,115,116]]++([cI [32] el.num]++([]++([aG [32] [103,105,118,101,115]]++([cI [32] el.gives]++([]++([aS [] [59]]++[])))))))))),by omega,rfl,hp13,bL hel hQ (by(first|rw[hone]|(show bM el=_;rw[hone]));simp only[aD h4,hw5,if_pos hm5,aF h7,aF h9,if_pos hd1,aF h11,if_pos htk0,aO,oMS]),by rw[hb13,hb12,hb10,hb8,hb6,hb'];simp[bX,gX,wr,aG,aS,cI],by rw[hk13,hk12,hk10,hk8,hk6,hk'];first|(simp;done)|(simp;omega),by omega,by omega,o_ [0,1,2]⟩,by simp;omega⟩
     ·skip
      refine fB bO ?_;refine oB o12q 3 aK ?_;refine bD λc912=>d1_ [0,1,2,3,6] [4] [5,7,8] [0,1,2,3,4,5,6,7,8] ?_;refine nC rfl ?_;refine fC cC ?_;refine fC bO ?_;refine oC o12q 3 aK ?_;refine aDc (B:=B) zA (bV el.takes _ b7.1 b7.2 (hT.ext (Own.ext (B:=B) zA))) (λh14 m14 oc14 oq14=>?_) λh14 m14 oq14=>?_
      case refine_2=>exact⟨(by rw[hRe];simp only[aD h1,aF h2,aV hel hQ (show(λ_=>bM) i el=none by show bM el=none;rw[hone];simp only[aD h4,hw5,if_pos hm5,aF h7,aF h9,if_pos hd1,aF h11,if_neg htk0,dW h14,aO,oMN,oMS]),aO,oMN,oMS]),rfl,oq14⟩
      have hnl14:=bS h14;clear oc14;refine aDb rfl rfl w_ ?_;refine lA oq14 aB aC λb961 m961 o961=>?_;refine aM [[32,116,97,107,101,115],[32]++Lib.itoa el.takes] 2 30 [2,3] (i:=4) zA rfl rfl rfl hp12 rfl zO zO (by first|(simp;done)|(simp;omega)) zO zO (λp15 v15 bs15 k15 m15 hp15 hb15 hk15 hl15 oq=>?_);have o15q:=oq
      simp only[pick,lgS,lgZ]at o15q
      clear oq;refine cB ?_;refine fB cC ?_;refine lA o15q aB aC λb1012 m1012 o1012=>?_;refine aM [[59]] 1 30 [2,3] (i:=4) zA rfl rfl rfl hp15 rfl zO zO (by first|(simp;done)|(simp;omega)) zO zO (λp16 v16 bs16 k16 m16 hp16 hb16 hk16 hl16 oq=>?_);have o16q:=oq
      simp only[pick,lgS,lgZ]at o16q
      clear oq;refine aR ?_
      refine⟨rfl,?_⟩
      exact⟨⟨i+1,p16,v16,bs16,k16,ps++([aG [10,32,32] el.attr]++([aG [32] w5]++([cI [32] el.tol]++([aG [32] [108,101,97,115,116]]++([cI [32] el.num]++([]++([aG [32] [103,105,118,101,115]]++([cI [32] el.gives]++(aG [32] [116,97,107,101,115]::[cI [32] el.takes]++([aS [] [59]]++[])))))))))),by omega,rfl,hp16,bL hel hQ (by(first|rw[hone]|(show bM el=_;rw[hone]));simp only[aD h4,hw5,if_pos hm5,aF h7,aF h9,if_pos hd1,aF h11,if_neg htk0,aF h14,aO,oMS]),by rw[hb16,hb15,hb12,hb10,hb8,hb6,hb'];simp[bX,gX,wr,aG,aS,cI],by rw[hk16,hk15,hk12,hk10,hk8,hk6,hk'];first|(simp;done)|(simp;omega),by omega,by omega,o_ [0,1,2]⟩,by simp;omega⟩
    ·skip
     refine fB bO ?_;refine fB iK ?_;refine oB o10q 3 aK ?_;refine bD λc1113=>d1_ [0,1,2,3,4] [5] [6,7,8] [0,1,2,3,4,5,6,7,8] ?_;refine nC rfl ?_;refine fC cC ?_;refine fC bO ?_;refine fC iK ?_;refine oC o10q 3 aK ?_;refine aDc (B:=B) zA (bV el.den _ b5.1 b5.2 (hT.ext (Own.ext (B:=B) zA))) (λh17 m17 oc17 oq17=>?_) λh17 m17 oq17=>?_
     case refine_2=>exact⟨(by rw[hRe];simp only[aD h1,aF h2,aV hel hQ (show(λ_=>bM) i el=none by show bM el=none;rw[hone];simp only[aD h4,hw5,if_pos hm5,aF h7,aF h9,if_neg hd1,dW h17,aO,oMN,oMS]),aO,oMN,oMS]),rfl,oq17⟩
     have hnl17:=bS h17;clear oc17;refine lA oq17 aB aC λb1160 m1160 o1160=>?_;refine aM [[47],Lib.itoa el.den] 2 30 [2,3] (i:=4) zA rfl rfl rfl hp10 rfl zO zO (by first|(simp;done)|(simp;omega)) zO zO (λp18 v18 bs18 k18 m18 hp18 hb18 hk18 hl18 oq=>?_);have o18q:=oq
     simp only[pick,lgS,lgZ]at o18q
     clear oq;refine d1_ [0,1,2,3,6] [4] [5,7,8] [0,1,2,3,4,5,6,7,8] ?_;refine nC rfl ?_;refine fC cC ?_;refine fC bO ?_;refine oC o18q 3 aK ?_;refine aDc (B:=B) zA (bV el.gives _ b6.1 b6.2 (hT.ext (Own.ext (B:=B) zA))) (λh19 m19 oc19 oq19=>?_) λh19 m19 oq19=>?_
     case refine_2=>exact⟨(by rw[hRe];simp only[aD h1,aF h2,aV hel hQ (show(λ_=>bM) i el=none by show bM el=none;rw[hone];simp only[aD h4,hw5,if_pos hm5,aF h7,aF h9,if_neg hd1,aF h17,dW h19,aO,oMN,oMS]),aO,oMN,oMS]),rfl,oq19⟩
     have hnl19:=bS h19;clear oc19;refine aDb rfl rfl w_ ?_;refine lA oq19 aB aC λb1261 m1261 o1261=>?_;refine aM [[32,103,105,118,101,115],[32]++Lib.itoa el.gives] 2 30 [2,3] (i:=4) zA rfl rfl rfl hp18 rfl zO zO (by first|(simp;done)|(simp;omega)) zO zO (λp20 v20 bs20 k20 m20 hp20 hb20 hk20 hl20 oq=>?_);have o20q:=oq
     simp only[pick,lgS,lgZ]at o20q
     clear oq;by_cases htk0:el.takes=0
     ·skip
      refine fB bO ?_;refine oB o20q 3 aK ?_;refine bC λc1312=>cB ?_;refine fB cC ?_;refine lA o20q aB aC λb1315 m1315 o1315=>?_;refine aM [[59]] 1 30 [2,3] (i:=4) zA rfl rfl rfl hp20 rfl zO zO (by first|(simp;done)|(simp;omega)) zO zO (λp21 v21 bs21 k21 m21 hp21 hb21 hk21 hl21 oq=>?_);have o21q:=oq
      simp only[pick,lgS,lgZ]at o21q
      clear oq;refine aR ?_
      refine⟨rfl,?_⟩
      exact⟨⟨i+1,p21,v21,bs21,k21,ps++([aG [10,32,32] el.attr]++([aG [32] w5]++([cI [32] el.tol]++([aG [32] [108,101,97,115,116]]++([cI [32] el.num]++(aS [] [47]::[cI [] el.den]++([aG [32] [103,105,118,101,115]]++([cI [32] el.gives]++([]++([aS [] [59]]++[])))))))))),by omega,rfl,hp21,bL hel hQ (by(first|rw[hone]|(show bM el=_;rw[hone]));simp only[aD h4,hw5,if_pos hm5,aF h7,aF h9,if_neg hd1,aF h17,aF h19,if_pos htk0,aO,oMS]),by rw[hb21,hb20,hb18,hb10,hb8,hb6,hb'];simp[bX,gX,wr,aG,aS,cI],by rw[hk21,hk20,hk18,hk10,hk8,hk6,hk'];first|(simp;done)|(simp;omega),by omega,by omega,o_ [0,1,2]⟩,by simp;omega⟩
     ·skip
      refine fB bO ?_;refine oB o20q 3 aK ?_;refine bD λc1412=>d1_ [0,1,2,3,6] [4] [5,7,8] [0,1,2,3,4,5,6,7,8] ?_;refine nC rfl ?_;refine fC cC ?_;refine fC bO ?_;refine oC o20q 3 aK ?_;refine aDc (B:=B) zA (bV el.takes _ b7.1 b7.2 (hT.ext (Own.ext (B:=B) zA))) (λh22 m22 oc22 oq22=>?_) λh22 m22 oq22=>?_
      case refine_2=>exact⟨(by rw[hRe];simp only[aD h1,aF h2,aV hel hQ (show(λ_=>bM) i el=none by show bM el=none;rw[hone];simp only[aD h4,hw5,if_pos hm5,aF h7,aF h9,if_neg hd1,aF h17,aF h19,if_neg htk0,dW h22,aO,oMN,oMS]),aO,oMN,oMS]),rfl,oq22⟩
      have hnl22:=bS h22;clear oc22;refine aDb rfl rfl w_ ?_;refine lA oq22 aB aC λb1461 m1461 o1461=>?_;refine aM [[32,116,97,107,101,115],[32]++Lib.itoa el.takes] 2 30 [2,3] (i:=4) zA rfl rfl rfl hp20 rfl zO zO (by first|(simp;done)|(simp;omega)) zO zO (λp23 v23 bs23 k23 m23 hp23 hb23 hk23 hl23 oq=>?_);have o23q:=oq
      simp only[pick,lgS,lgZ]at o23q
      clear oq;refine cB ?_;refine fB cC ?_;refine lA o23q aB aC λb1512 m1512 o1512=>?_;refine aM [[59]] 1 30 [2,3] (i:=4) zA rfl rfl rfl hp23 rfl zO zO (by first|(simp;done)|(simp;omega)) zO zO (λp24 v24 bs24 k24 m24 hp24 hb24 hk24 hl24 oq=>?_);have o24q:=oq
      simp only[pick,lgS,lgZ]at o24q
      clear oq;refine aR ?_
      refine⟨rfl,?_⟩
      exact⟨⟨i+1,p24,v24,bs24,k24,ps++([aG [10,32,32] el.attr]++([aG [32] w5]++([cI [32] el.tol]++([aG [32] [108,101,97,115,116]]++([cI [32] el.num]++(aS [] [47]::[cI [] el.den]++([aG [32] [103,105,118,101,115]]++([cI [32] el.gives]++(aG [32] [116,97,107,101,115]::[cI [32] el.takes]++([aS [] [59]]++[])))))))))),by omega,rfl,hp24,bL hel hQ (by(first|rw[hone]|(show bM el=_;rw[hone]));simp only[aD h4,hw5,if_pos hm5,aF h7,aF h9,if_neg hd1,aF h17,aF h19,if_neg htk0,aF h22,aO,oMS]),by rw[hb24,hb23,hb20,hb18,hb10,hb8,hb6,hb'];simp[bX,gX,wr,aG,aS,cI],by rw[hk24,hk23,hk20,hk18,hk10,hk8,hk6,hk'];first|(simp;done)|(simp;omega),by omega,by omega,o_ [0,1,2]⟩,by simp;omega⟩
   ·by_cases ht0:el.tol=0
    case neg =>
     refine fB bO ?_;refine oB o6q 3 aK ?_;refine bA λc1612=>fB bO ?_;refine oB o6q 3 aK ?_;refine aDc (B:=B) zA (aH _ _) (λe9 m9 _ oq=>absurd (of_decide_eq_true e9) ht0) λe9 m9 oq=>?_
     exact⟨(by rw[hRe];simp only[aD h1,aF h2,aV hel hQ (show(λ_=>bM) i el=none by show bM el=none;rw[hone];simp only[aD h4,hw5,if_neg hm5,if_neg ht0,aO,oMN,oMS]),aO,oMN,oMS]),rfl,oq⟩
    refine fB bO ?_;refine oB o6q 3 aK ?_;refine bA λc1662=>fB bO ?_;refine oB o6q 3 aK ?_;refine aDc (B:=B) zA (aH _ _) (λe9 m9 oc oq=>?_) λe9 m9 oq=>absurd ht0 (of_decide_eq_false e9);clear oc e9;refine d1_ [0,1,2,3,4,7] [5] [6,8,9] [0,1,2,3,4,5,6,7,8,9] ?_;refine nC rfl ?_;refine fC cC ?_;refine fC bO ?_;refine fC iK ?_;refine oC oq 3 aK ?_;refine aDc (B:=B) zA (bV el.num _ b4.1 b4.2 (hT.ext (Own.ext (B:=B) zA))) (λh25 m25 oc25 oq25=>?_) λh25 m25 oq25=>?_
    case refine_2=>exact⟨(by rw[hRe];simp only[aD h1,aF h2,aV hel hQ (show(λ_=>bM) i el=none by show bM el=none;rw[hone];simp only[aD h4,hw5,if_neg hm5,if_pos ht0,dW h25,aO,oMN,oMS]),aO,oMN,oMS]),rfl,oq25⟩
    have hnl25:=bS h25;clear oc25;refine aDb rfl rfl w_ ?_;refine lA oq25 aB aC λb1761 m1761 o1761=>?_;refine aM [[32,108,101,97,115,116],[32]++Lib.itoa el.num] 2 30 [2,3] (i:=4) zA rfl rfl rfl hp6 rfl zO zO (by first|(simp;done)|(simp;omega)) zO zO (λp26 v26 bs26 k26 m26 hp26 hb26 hk26 hl26 oq=>?_);have o26q:=oq
    simp only[pick,lgS,lgZ]at o26q
    clear oq;by_cases hd1:el.den=1
    ·skip
     refine fB bO ?_;refine fB iK ?_;refine oB o26q 3 aK ?_;refine bC λc1813=>d1_ [0,1,2,3,6] [4] [5,7,8] [0,1,2,3,4,5,6,7,8] ?_;refine nC rfl ?_;refine fC cC ?_;refine fC bO ?_;refine oC o26q 3 aK ?_;refine aDc (B:=B) zA (bV el.gives _ b6.1 b6.2 (hT.ext (Own.ext (B:=B) zA))) (λh27 m27 oc27 oq27=>?_) λh27 m27 oq27=>?_
     case refine_2=>exact⟨(by rw[hRe];simp only[aD h1,aF h2,aV hel hQ (show(λ_=>bM) i el=none by show bM el=none;rw[hone];simp only[aD h4,hw5,if_neg hm5,if_pos ht0,aF h25,if_pos hd1,dW h27,aO,oMN,oMS]),aO,oMN,oMS]),rfl,oq27⟩
     have hnl27:=bS h27;clear oc27;refine aDb rfl rfl w_ ?_;refine lA oq27 aB aC λb1861 m1861 o1861=>?_;refine aM [[32,103,105,118,101,115],[32]++Lib.itoa el.gives] 2 30 [2,3] (i:=4) zA rfl rfl rfl hp26 rfl zO zO (by first|(simp;done)|(simp;omega)) zO zO (λp28 v28 bs28 k28 m28 hp28 hb28 hk28 hl28 oq=>?_);have o28q:=oq
     simp only[pick,lgS,lgZ]at o28q
     clear oq;by_cases htk0:el.takes=0
     ·skip
      refine fB bO ?_;refine oB o28q 3 aK ?_;refine bC λc1912=>cB ?_;refine fB cC ?_;refine lA o28q aB aC λb1915 m1915 o1915=>?_;refine aM [[59]] 1 30 [2,3] (i:=4) zA rfl rfl rfl hp28 rfl zO zO (by first|(simp;done)|(simp;omega)) zO zO (λp29 v29 bs29 k29 m29 hp29 hb29 hk29 hl29 oq=>?_);have o29q:=oq
      simp only[pick,lgS,lgZ]at o29q
      clear oq;refine aR ?_
      refine⟨rfl,?_⟩
      exact⟨⟨i+1,p29,v29,bs29,k29,ps++([aG [10,32,32] el.attr]++([aG [32] w5]++([]++([aG [32] [108,101,97,115,116]]++([cI [32] el.num]++([]++([aG [32] [103,105,118,101,115]]++([cI [32] el.gives]++([]++([aS [] [59]]++[])))))))))),by omega,rfl,hp29,bL hel hQ (by(first|rw[hone]|(show bM el=_;rw[hone]));simp only[aD h4,hw5,if_neg hm5,if_pos ht0,aF h25,if_pos hd1,aF h27,if_pos htk0,aO,oMS]),by rw[hb29,hb28,hb26,hb6,hb'];simp[bX,gX,wr,aG,aS,cI],by rw[hk29,hk28,hk26,hk6,hk'];first|(simp;done)|(simp;omega),by omega,by omega,o_ [0,1,2]⟩,by simp;omega⟩
     ·skip
      refine fB bO ?_;refine oB o28q 3 aK ?_;refine bD λc2012=>d1_ [0,1,2,3,6] [4] [5,7,8] [0,1,2,3,4,5,6,7,8] ?_;refine nC rfl ?_;refine fC cC ?_;refine fC bO ?_;refine oC o28q 3 aK ?_;refine aDc (B:=B) zA (bV el.takes _ b7.1 b7.2 (hT.ext (Own.ext (B:=B) zA))) (λh30 m30 oc30 oq30=>?_) λh30 m30 oq30=>?_
      case refine_2=>exact⟨(by rw[hRe];simp only[aD h1,aF h2,aV hel hQ (show(λ_=>bM) i el=none by show bM el=none;rw[hone];simp only[aD h4,hw5,if_neg hm5,if_pos ht0,aF h25,if_pos hd1,aF h27,if_neg htk0,dW h30,aO,oMN,oMS]),aO,oMN,oMS]),rfl,oq30⟩
      have hnl30:=bS h30;clear oc30;refine aDb rfl rfl w_ ?_;refine lA oq30 aB aC λb2061 m2061 o2061=>?_;refine aM [[32,116,97,107,101,115],[32]++Lib.itoa el.takes] 2 30 [2,3] (i:=4) zA rfl rfl rfl hp28 rfl zO zO (by first|(simp;done)|(simp;omega)) zO zO (λp31 v31 bs31 k31 m31 hp31 hb31 hk31 hl31 oq=>?_);have o31q:=oq
      simp only[pick,lgS,lgZ]at o31q
      clear oq;refine cB ?_;refine fB cC ?_;refine lA o31q aB aC λb2112 m2112 o2112=>?_;refine aM [[59]] 1 30 [2,3] (i:=4) zA rfl rfl rfl hp31 rfl zO zO (by first|(simp;done)|(simp;omega)) zO zO (λp32 v32 bs32 k32 m32 hp32 hb32 hk32 hl32 oq=>?_);have o32q:=oq
      simp only[pick,lgS,lgZ]at o32q
      clear oq;refine aR ?_
      refine⟨rfl,?_⟩
      exact⟨⟨i+1,p32,v32,bs32,k32,ps++([aG [10,32,32] el.attr]++([aG [32] w5]++([]++([aG [32] [108,101,97,115,116]]++([cI [32] el.num]++([]++([aG [32] [103,105,118,101,115]]++([cI [32] el.gives]++(aG [32] [116,97,107,101,115]::[cI [32] el.takes]++([aS [] [59]]++[])))))))))),by omega,rfl,hp32,bL hel hQ (by(first|rw[hone]|(show bM el=_;rw[hone]));simp only[aD h4,hw5,if_neg hm5,if_pos ht0,aF h25,if_pos hd1,aF h27,if_neg htk0,aF h30,aO,oMS]),by rw[hb32,hb31,hb28,hb26,hb6,hb'];simp[bX,gX,wr,aG,aS,cI],by rw[hk32,hk31,hk28,hk26,hk6,hk'];first|(simp;done)|(simp;omega),by omega,by omega,o_ [0,1,2]⟩,by simp;omega⟩
    ·skip
     refine fB bO ?_;refine fB iK ?_;refine oB o26q 3 aK ?_;refine bD λc2213=>d1_ [0,1,2,3,4] [5] [6,7,8] [0,1,2,3,4,5,6,7,8] ?_;refine nC rfl ?_;refine fC cC ?_;refine fC bO ?_;refine fC iK ?_;refine oC o26q 3 aK ?_;refine aDc (B:=B) zA (bV el.den _ b5.1 b5.2 (hT.ext (Own.ext (B:=B) zA))) (λh33 m33 oc33 oq33=>?_) λh33 m33 oq33=>?_
     case refine_2=>exact⟨(by rw[hRe];simp only[aD h1,aF h2,aV hel hQ (show(λ_=>bM) i el=none by show bM el=none;rw[hone];simp only[aD h4,hw5,if_neg hm5,if_pos ht0,aF h25,if_neg hd1,dW h33,aO,oMN,oMS]),aO,oMN,oMS]),rfl,oq33⟩
     have hnl33:=bS h33;clear oc33;refine lA oq33 aB aC λb2260 m2260 o2260=>?_;refine aM [[47],Lib.itoa el.den] 2 30 [2,3] (i:=4) zA rfl rfl rfl hp26 rfl zO zO (by first|(simp;done)|(simp;omega)) zO zO (λp34 v34 bs34 k34 m34 hp34 hb34 hk34 hl34 oq=>?_);have o34q:=oq
     simp only[pick,lgS,lgZ]at o34q
     clear oq;refine d1_ [0,1,2,3,6] [4] [5,7,8] [0,1,2,3,4,5,6,7,8] ?_;refine nC rfl ?_;refine fC cC ?_;refine fC bO ?_;refine oC o34q 3 aK ?_;refine aDc (B:=B) zA (bV el.gives _ b6.1 b6.2 (hT.ext (Own.ext (B:=B) zA))) (λh35 m35 oc35 oq35=>?_) λh35 m35 oq35=>?_
     case refine_2=>exact⟨(by rw[hRe];simp only[aD h1,aF h2,aV hel hQ (show(λ_=>bM) i el=none by show bM el=none;rw[hone];simp only[aD h4,hw5,if_neg hm5,if_pos ht0,aF h25,if_neg hd1,aF h33,dW h35,aO,oMN,oMS]),aO,oMN,oMS]),rfl,oq35⟩
     have hnl35:=bS h35;clear oc35;refine aDb rfl rfl w_ ?_;refine lA oq35 aB aC λb2361 m2361 o2361=>?_;refine aM [[32,103,105,118,101,115],[32]++Lib.itoa el.gives] 2 30 [2,3] (i:=4) zA rfl rfl rfl hp34 rfl zO zO (by first|(simp;done)|(simp;omega)) zO zO (λp36 v36 bs36 k36 m36 hp36 hb36 hk36 hl36 oq=>?_);have o36q:=oq
     simp only[pick,lgS,lgZ]at o36q
     clear oq;by_cases htk0:el.takes=0
     ·skip
      refine fB bO ?_;refine oB o36q 3 aK ?_;refine bC λc2412=>cB ?_;refine fB cC ?_;refine lA o36q aB aC λb2415 m2415 o2415=>?_;refine aM [[59]] 1 30 [2,3] (i:=4) zA rfl rfl rfl hp36 rfl zO zO (by first|(simp;done)|(simp;omega)) zO zO (λp37 v37 bs37 k37 m37 hp37 hb37 hk37 hl37 oq=>?_);have o37q:=oq
      simp only[pick,lgS,lgZ]at o37q
      clear oq;refine aR ?_
      refine⟨rfl,?_⟩
      exact⟨⟨i+1,p37,v37,bs37,k37,ps++([aG [10,32,32] el.attr]++([aG [32] w5]++([]++([aG [32] [108,101,97,115,116]]++([cI [32] el.num]++(aS [] [47]::[cI [] el.den]++([aG [32] [103,105,118,101,115]]++([cI [32] el.gives]++([]++([aS [] [59]]++[])))))))))),by omega,rfl,hp37,bL hel hQ (by(first|rw[hone]|(show bM el=_;rw[hone]));simp only[aD h4,hw5,if_neg hm5,if_pos ht0,aF h25,if_neg hd1,aF h33,aF h35,if_pos htk0,aO,oMS]),by rw[hb37,hb36,hb34,hb26,hb6,hb'];simp[bX,gX,wr,aG,aS,cI],by rw[hk37,hk36,hk34,hk26,hk6,hk'];first|(simp;done)|(simp;omega),by omega,by omega,o_ [0,1,2]⟩,by simp;omega⟩
     ·skip
      refine fB bO ?_;refine oB o36q 3 aK ?_;refine bD λc2512=>d1_ [0,1,2,3,6] [4] [5,7,8] [0,1,2,3,4,5,6,7,8] ?_;refine nC rfl ?_;refine fC cC ?_;refine fC bO ?_;refine oC o36q 3 aK ?_;refine aDc (B:=B) zA (bV el.takes _ b7.1 b7.2 (hT.ext (Own.ext (B:=B) zA))) (λh38 m38 oc38 oq38=>?_) λh38 m38 oq38=>?_
      case refine_2=>exact⟨(by rw[hRe];simp only[aD h1,aF h2,aV hel hQ (show(λ_=>bM) i el=none by show bM el=none;rw[hone];simp only[aD h4,hw5,if_neg hm5,if_pos ht0,aF h25,if_neg hd1,aF h33,aF h35,if_neg htk0,dW h38,aO,oMN,oMS]),aO,oMN,oMS]),rfl,oq38⟩
      have hnl38:=bS h38;clear oc38;refine aDb rfl rfl w_ ?_;refine lA oq38 aB aC λb2561 m2561 o2561=>?_;refine aM [[32,116,97,107,101,115],[32]++Lib.itoa el.takes] 2 30 [2,3] (i:=4) zA rfl rfl rfl hp36 rfl zO zO (by first|(simp;done)|(simp;omega)) zO zO (λp39 v39 bs39 k39 m39 hp39 hb39 hk39 hl39 oq=>?_);have o39q:=oq
      simp only[pick,lgS,lgZ]at o39q
      clear oq;refine cB ?_;refine fB cC ?_;refine lA o39q aB aC λb2612 m2612 o2612=>?_;refine aM [[59]] 1 30 [2,3] (i:=4) zA rfl rfl rfl hp39 rfl zO zO (by first|(simp;done)|(simp;omega)) zO zO (λp40 v40 bs40 k40 m40 hp40 hb40 hk40 hl40 oq=>?_);have o40q:=oq
      simp only[pick,lgS,lgZ]at o40q
      clear oq;refine aR ?_
      refine⟨rfl,?_⟩
      exact⟨⟨i+1,p40,v40,bs40,k40,ps++([aG [10,32,32] el.attr]++([aG [32] w5]++([]++([aG [32] [108,101,97,115,116]]++([cI [32] el.num]++(aS [] [47]::[cI [] el.den]++([aG [32] [103,105,118,101,115]]++([cI [32] el.gives]++(aG [32] [116,97,107,101,115]::[cI [32] el.takes]++([aS [] [59]]++[])))))))))),by omega,rfl,hp40,bL hel hQ (by(first|rw[hone]|(show bM el=_;rw[hone]));simp only[aD h4,hw5,if_neg hm5,if_pos ht0,aF h25,if_neg hd1,aF h33,aF h35,if_neg htk0,aF h38,aO,oMS]),by rw[hb40,hb39,hb36,hb34,hb26,hb6,hb'];simp[bX,gX,wr,aG,aS,cI],by rw[hk40,hk39,hk36,hk34,hk26,hk6,hk'];first|(simp;done)|(simp;omega),by omega,by omega,o_ [0,1,2]⟩,by simp;omega⟩
  ·skip
   refine lA o264 aB aC λb2710 m2710 o2710=>?_;refine aI ((o2710.boxBlk 3 rfl).trans (o264.boxBlk 3 rfl).symm) ?_;refine aDc (B:=B) zA (bT el.attr _ hn1) (λh41 m41 oc41 oq41=>?_) λh41 m41 oq41=>?_
   case refine_2=>exact⟨(by rw[hRe];simp only[aD h1,aF h2,aV hel hQ (show(λ_=>bM) i el=none by show bM el=none;rw[hone];simp only[dM h41,aO,oMN,oMS]),aO,oMN,oMS]),rfl,oq41⟩
   have hnl41:=bJ h41;refine aI ((oq41.boxBlk 3 rfl).trans (o2710.boxBlk 3 rfl).symm) ?_;refine aDb rfl rfl w_ ?_;refine aDc (B:=B) zA (eS el.measure [[101,113,117,97,108],[101,100,105,116],[106,97,99,99,97,114,100],[106,97,114,111],[110,101,97,114]] _ _ zO zO (Own.boxArr zA 4 rfl rfl zD) zS zS) (λh42 m42 oc42 oq42=>?_) λh42 m42 oq42=>?_
   case refine_2=>exact⟨(by rw[hRe];simp only[aD h1,aF h2,aV hel hQ (show(λ_=>bM) i el=none by show bM el=none;rw[hone];simp only[aD h41,mU (of_decide_eq_false h42),aO,oMN,oMS]),aO,oMN,oMS]),rfl,oq42⟩
   have h42:=of_decide_eq_true h42;have hw42:=lD (n:=el.measure) h42;have hnl42:=lS (ws:=[[101,113,117,97,108],[101,100,105,116],[106,97,99,99,97,114,100],[106,97,114,111],[110,101,97,114]]) (M:=10) zS (el.measure - 1).toNat;generalize ([[101,113,117,97,108],[101,100,105,116],[106,97,99,99,97,114,100],[106,97,114,111],[110,101,97,114]]:List aBs).getD (el.measure - 1).toNat []=w42 at hw42 hnl42;clear oc42;refine lA oq42 aB aC λb2810 m2810 o2810=>?_;refine aM [[10,32,32]++el.attr,32::w42] 2 30 [2,3] (i:=5) zA rfl rfl rfl hp' rfl zO zO (by first|(simp;done)|(simp;omega)) zO zO (λp43 v43 bs43 k43 m43 hp43 hb43 hk43 hl43 oq=>?_);have o43q:=oq
   simp only[pick,lgS,lgZ]at o43q
   clear oq;by_cases hm5:el.measure=5
   ·skip
    refine fB bO ?_;refine oB o43q 3 aK ?_;refine bB λc2862=>d1_ [0,1,2,3,6] [4] [5,7,8] [0,1,2,3,4,5,6,7,8] ?_;refine nC rfl ?_;refine fC cC ?_;refine fC bO ?_;refine oC o43q 3 aK ?_;refine aDc (B:=B) zA (bV el.tol _ b3.1 b3.2 (hT.ext (Own.ext (B:=B) zA))) (λh44 m44 oc44 oq44=>?_) λh44 m44 oq44=>?_
    case refine_2=>exact⟨(by rw[hRe];simp only[aD h1,aF h2,aV hel hQ (show(λ_=>bM) i el=none by show bM el=none;rw[hone];simp only[aD h41,hw42,if_pos hm5,dW h44,aO,oMN,oMS]),aO,oMN,oMS]),rfl,oq44⟩
    have hnl44:=bS h44;clear oc44;refine aDb rfl rfl w_ ?_;refine lA oq44 aB aC λb2911 m2911 o2911=>?_;refine aM [[32]++Lib.itoa el.tol] 1 30 [2,3] (i:=4) zA rfl rfl rfl hp43 rfl zO zO (by first|(simp;done)|(simp;omega)) zO zO (λp45 v45 bs45 k45 m45 hp45 hb45 hk45 hl45 oq=>?_);have o45q:=oq
    simp only[pick,lgS,lgZ]at o45q
    clear oq;refine d1_ [0,1,2,3,4,7] [5] [6,8,9] [0,1,2,3,4,5,6,7,8,9] ?_;refine nC rfl ?_;refine fC cC ?_;refine fC bO ?_;refine fC iK ?_;refine oC o45q 3 aK ?_;refine aDc (B:=B) zA (bV el.num _ b4.1 b4.2 (hT.ext (Own.ext (B:=B) zA))) (λh46 m46 oc46 oq46=>?_) λh46 m46 oq46=>?_
    case refine_2=>exact⟨(by rw[hRe];simp only[aD h1,aF h2,aV hel hQ (show(λ_=>bM) i el=none by show bM el=none;rw[hone];simp only[aD h41,hw42,if_pos hm5,aF h44,dW h46,aO,oMN,oMS]),aO,oMN,oMS]),rfl,oq46⟩
    have hnl46:=bS h46;clear oc46;refine aDb rfl rfl w_ ?_;refine lA oq46 aB aC λb3011 m3011 o3011=>?_;refine aM [[32,108,101,97,115,116],[32]++Lib.itoa el.num] 2 30 [2,3] (i:=4) zA rfl rfl rfl hp45 rfl zO zO (by first|(simp;done)|(simp;omega)) zO zO (λp47 v47 bs47 k47 m47 hp47 hb47 hk47 hl47 oq=>?_);have o47q:=oq
    simp only[pick,lgS,lgZ]at o47q
    clear oq;by_cases hd1:el.den=1
    ·skip
     refine fB bO ?_;refine fB iK ?_;refine oB o47q 3 aK ?_;refine bC λc3063=>d1_ [0,1,2,3,6] [4] [5,7,8] [0,1,2,3,4,5,6,7,8] ?_;refine nC rfl ?_;refine fC cC ?_;refine fC bO ?_;refine oC o47q 3 aK ?_;refine aDc (B:=B) zA (bV el.gives _ b6.1 b6.2 (hT.ext (Own.ext (B:=B) zA))) (λh48 m48 oc48 oq48=>?_) λh48 m48 oq48=>?_
     case refine_2=>exact⟨(by rw[hRe];simp only[aD h1,aF h2,aV hel hQ (show(λ_=>bM) i el=none by show bM el=none;rw[hone];simp only[aD h41,hw42,if_pos hm5,aF h44,aF h46,if_pos hd1,dW h48,aO,oMN,oMS]),aO,oMN,oMS]),rfl,oq48⟩
     have hnl48:=bS h48;clear oc48;refine aDb rfl rfl w_ ?_;refine lA oq48 aB aC λb3111 m3111 o3111=>?_;refine aM [[32,103,105,118,101,115],[32]++Lib.itoa el.gives] 2 30 [2,3] (i:=4) zA rfl rfl rfl hp47 rfl zO zO (by first|(simp;done)|(simp;omega)) zO zO (λp49 v49 bs49 k49 m49 hp49 hb49 hk49 hl49 oq=>?_);have o49q:=oq
     simp only[pick,lgS,lgZ]at o49q
     clear oq;by_cases htk0:el.takes=0
     ·skip
      refine fB bO ?_;refine oB o49q 3 aK ?_;refine bC λc3162=>cB ?_;refine fB cC ?_;refine lA o49q aB aC λb3165 m3165 o3165=>?_;refine aM [[59]] 1 30 [2,3] (i:=4) zA rfl rfl rfl hp49 rfl zO zO (by first|(simp;done)|(simp;omega)) zO zO (λp50 v50 bs50 k50 m50 hp50 hb50 hk50 hl50 oq=>?_);have o50q:=oq
      simp only[pick,lgS,lgZ]at o50q
      clear oq;refine aR ?_
      refine⟨rfl,?_⟩
      exact⟨⟨i+1,p50,v50,bs50,k50,ps++([aG [10,32,32] el.attr]++([aG [32] w42]++([cI [32] el.tol]++([aG [32] [108,101,97,115,116]]++([cI [32] el.num]++([]++([aG [32] [103,105,118,101,115]]++([cI [32] el.gives]++([]++([aS [] [59]]++[])))))))))),by omega,rfl,hp50,bL hel hQ (by(first|rw[hone]|(show bM el=_;rw[hone]));simp only[aD h41,hw42,if_pos hm5,aF h44,aF h46,if_pos hd1,aF h48,if_pos htk0,aO,oMS]),by rw[hb50,hb49,hb47,hb45,hb43,hb'];simp[bX,gX,wr,aG,aS,cI],by rw[hk50,hk49,hk47,hk45,hk43,hk'];first|(simp;done)|(simp;omega),by omega,by omega,o_ [0,1,2]⟩,by simp;omega⟩
     ·skip
      refine fB bO ?_;refine oB o49q 3 aK ?_;refine bD λc3262=>d1_ [0,1,2,3,6] [4] [5,7,8] [0,1,2,3,4,5,6,7,8] ?_;refine nC rfl ?_;refine fC cC ?_;refine fC bO ?_;refine oC o49q 3 aK ?_;refine aDc (B:=B) zA (bV el.takes _ b7.1 b7.2 (hT.ext (Own.ext (B:=B) zA))) (λh51 m51 oc51 oq51=>?_) λh51 m51 oq51=>?_
      case refine_2=>exact⟨(by rw[hRe];simp only[aD h1,aF h2,aV hel hQ (show(λ_=>bM) i el=none by show bM el=none;rw[hone];simp only[aD h41,hw42,if_pos hm5,aF h44,aF h46,if_pos hd1,aF h48,if_neg htk0,dW h51,aO,oMN,oMS]),aO,oMN,oMS]),rfl,oq51⟩
      have hnl51:=bS h51;clear oc51;refine aDb rfl rfl w_ ?_;refine lA oq51 aB aC λb3311 m3311 o3311=>?_;refine aM [[32,116,97,107,101,115],[32]++Lib.itoa el.takes] 2 30 [2,3] (i:=4) zA rfl rfl rfl hp49 rfl zO zO (by first|(simp;done)|(simp;omega)) zO zO (λp52 v52 bs52 k52 m52 hp52 hb52 hk52 hl52 oq=>?_);have o52q:=oq
      simp only[pick,lgS,lgZ]at o52q
      clear oq;refine cB ?_;refine fB cC ?_;refine lA o52q aB aC λb3362 m3362 o3362=>?_;refine aM [[59]] 1 30 [2,3] (i:=4) zA rfl rfl rfl hp52 rfl zO zO (by first|(simp;done)|(simp;omega)) zO zO (λp53 v53 bs53 k53 m53 hp53 hb53 hk53 hl53 oq=>?_);have o53q:=oq
      simp only[pick,lgS,lgZ]at o53q
      clear oq;refine aR ?_
      refine⟨rfl,?_⟩
      exact⟨⟨i+1,p53,v53,bs53,k53,ps++([aG [10,32,32] el.attr]++([aG [32] w42]++([cI [32] el.tol]++([aG [32] [108,101,97,115,116]]++([cI [32] el.num]++([]++([aG [32] [103,105,118,101,115]]++([cI [32] el.gives]++(aG [32] [116,97,107,101,115]::[cI [32] el.takes]++([aS [] [59]]++[])))))))))),by omega,rfl,hp53,bL hel hQ (by(first|rw[hone]|(show bM el=_;rw[hone]));simp only[aD h41,hw42,if_pos hm5,aF h44,aF h46,if_pos hd1,aF h48,if_neg htk0,aF h51,aO,oMS]),by rw[hb53,hb52,hb49,hb47,hb45,hb43,hb'];simp[bX,gX,wr,aG,aS,cI],by rw[hk53,hk52,hk49,hk47,hk45,hk43,hk'];first|(simp;done)|(simp;omega),by omega,by omega,o_ [0,1,2]⟩,by simp;omega⟩
    ·skip
     refine fB bO ?_;refine fB iK ?_;refine oB o47q 3 aK ?_;refine bD λc3463=>d1_ [0,1,2,3,4] [5] [6,7,8] [0,1,2,3,4,5,6,7,8] ?_;refine nC rfl ?_;refine fC cC ?_;refine fC bO ?_;refine fC iK ?_;refine oC o47q 3 aK ?_;refine aDc (B:=B) zA (bV el.den _ b5.1 b5.2 (hT.ext (Own.ext (B:=B) zA))) (λh54 m54 oc54 oq54=>?_) λh54 m54 oq54=>?_
     case refine_2=>exact⟨(by rw[hRe];simp only[aD h1,aF h2,aV hel hQ (show(λ_=>bM) i el=none by show bM el=none;rw[hone];simp only[aD h41,hw42,if_pos hm5,aF h44,aF h46,if_neg hd1,dW h54,aO,oMN,oMS]),aO,oMN,oMS]),rfl,oq54⟩
     have hnl54:=bS h54;clear oc54;refine lA oq54 aB aC λb3510 m3510 o3510=>?_;refine aM [[47],Lib.itoa el.den] 2 30 [2,3] (i:=4) zA rfl rfl rfl hp47 rfl zO zO (by first|(simp;done)|(simp;omega)) zO zO (λp55 v55 bs55 k55 m55 hp55 hb55 hk55 hl55 oq=>?_);have o55q:=oq
     simp only[pick,lgS,lgZ]at o55q
     clear oq;refine d1_ [0,1,2,3,6] [4] [5,7,8] [0,1,2,3,4,5,6,7,8] ?_;refine nC rfl ?_;refine fC cC ?_;refine fC bO ?_;refine oC o55q 3 aK ?_;refine aDc (B:=B) zA (bV el.gives _ b6.1 b6.2 (hT.ext (Own.ext (B:=B) zA))) (λh56 m56 oc56 oq56=>?_) λh56 m56 oq56=>?_
     case refine_2=>exact⟨(by rw[hRe];simp only[aD h1,aF h2,aV hel hQ (show(λ_=>bM) i el=none by show bM el=none;rw[hone];simp only[aD h41,hw42,if_pos hm5,aF h44,aF h46,if_neg hd1,aF h54,dW h56,aO,oMN,oMS]),aO,oMN,oMS]),rfl,oq56⟩
     have hnl56:=bS h56;clear oc56;refine aDb rfl rfl w_ ?_;refine lA oq56 aB aC λb3611 m3611 o3611=>?_;refine aM [[32,103,105,118,101,115],[32]++Lib.itoa el.gives] 2 30 [2,3] (i:=4) zA rfl rfl rfl hp55 rfl zO zO (by first|(simp;done)|(simp;omega)) zO zO (λp57 v57 bs57 k57 m57 hp57 hb57 hk57 hl57 oq=>?_);have o57q:=oq
     simp only[pick,lgS,lgZ]at o57q
     clear oq;by_cases htk0:el.takes=0
     ·skip
      refine fB bO ?_;refine oB o57q 3 aK ?_;refine bC λc3662=>cB ?_;refine fB cC ?_;refine lA o57q aB aC λb3665 m3665 o3665=>?_;refine aM [[59]] 1 30 [2,3] (i:=4) zA rfl rfl rfl hp57 rfl zO zO (by first|(simp;done)|(simp;omega)) zO zO (λp58 v58 bs58 k58 m58 hp58 hb58 hk58 hl58 oq=>?_);have o58q:=oq
      simp only[pick,lgS,lgZ]at o58q
      clear oq;refine aR ?_
      refine⟨rfl,?_⟩
      exact⟨⟨i+1,p58,v58,bs58,k58,ps++([aG [10,32,32] el.attr]++([aG [32] w42]++([cI [32] el.tol]++([aG [32] [108,101,97,115,116]]++([cI [32] el.num]++(aS [] [47]::[cI [] el.den]++([aG [32] [103,105,118,101,115]]++([cI [32] el.gives]++([]++([aS [] [59]]++[])))))))))),by omega,rfl,hp58,bL hel hQ (by(first|rw[hone]|(show bM el=_;rw[hone]));simp only[aD h41,hw42,if_pos hm5,aF h44,aF h46,if_neg hd1,aF h54,aF h56,if_pos htk0,aO,oMS]),by rw[hb58,hb57,hb55,hb47,hb45,hb43,hb'];simp[bX,gX,wr,aG,aS,cI],by rw[hk58,hk57,hk55,hk47,hk45,hk43,hk'];first|(simp;done)|(simp;omega),by omega,by omega,o_ [0,1,2]⟩,by simp;omega⟩
     ·skip
      refine fB bO ?_;refine oB o57q 3 aK ?_;refine bD λc3762=>d1_ [0,1,2,3,6] [4] [5,7,8] [0,1,2,3,4,5,6,7,8] ?_;refine nC rfl ?_;refine fC cC ?_;refine fC bO ?_;refine oC o57q 3 aK ?_;refine aDc (B:=B) zA (bV el.takes _ b7.1 b7.2 (hT.ext (Own.ext (B:=B) zA))) (λh59 m59 oc59 oq59=>?_) λh59 m59 oq59=>?_
      case refine_2=>exact⟨(by rw[hRe];simp only[aD h1,aF h2,aV hel hQ (show(λ_=>bM) i el=none by show bM el=none;rw[hone];simp only[aD h41,hw42,if_pos hm5,aF h44,aF h46,if_neg hd1,aF h54,aF h56,if_neg htk0,dW h59,aO,oMN,oMS]),aO,oMN,oMS]),rfl,oq59⟩
      have hnl59:=bS h59;clear oc59;refine aDb rfl rfl w_ ?_;refine lA oq59 aB aC λb3811 m3811 o3811=>?_;refine aM [[32,116,97,107,101,115],[32]++Lib.itoa el.takes] 2 30 [2,3] (i:=4) zA rfl rfl rfl hp57 rfl zO zO (by first|(simp;done)|(simp;omega)) zO zO (λp60 v60 bs60 k60 m60 hp60 hb60 hk60 hl60 oq=>?_);have o60q:=oq
      simp only[pick,lgS,lgZ]at o60q
      clear oq;refine cB ?_;refine fB cC ?_;refine lA o60q aB aC λb3862 m3862 o3862=>?_;refine aM [[59]] 1 30 [2,3] (i:=4) zA rfl rfl rfl hp60 rfl zO zO (by first|(simp;done)|(simp;omega)) zO zO (λp61 v61 bs61 k61 m61 hp61 hb61 hk61 hl61 oq=>?_);have o61q:=oq
      simp only[pick,lgS,lgZ]at o61q
      clear oq;refine aR ?_
      refine⟨rfl,?_⟩
      exact⟨⟨i+1,p61,v61,bs61,k61,ps++([aG [10,32,32] el.attr]++([aG [32] w42]++([cI [32] el.tol]++([aG [32] [108,101,97,115,116]]++([cI [32] el.num]++(aS [] [47]::[cI [] el.den]++([aG [32] [103,105,118,101,115]]++([cI [32] el.gives]++(aG [32] [116,97,107,101,115]::[cI [32] el.takes]++([aS [] [59]]++[])))))))))),by omega,rfl,hp61,bL hel hQ (by(first|rw[hone]|(show bM el=_;rw[hone]));simp only[aD h41,hw42,if_pos hm5,aF h44,aF h46,if_neg hd1,aF h54,aF h56,if_neg htk0,aF h59,aO,oMS]),by rw[hb61,hb60,hb57,hb55,hb47,hb45,hb43,hb'];simp[bX,gX,wr,aG,aS,cI],by rw[hk61,hk60,hk57,hk55,hk47,hk45,hk43,hk'];first|(simp;done)|(simp;omega),by omega,by omega,o_ [0,1,2]⟩,by simp;omega⟩
   ·by_cases ht0:el.tol=0
    case neg =>
     refine fB bO ?_;refine oB o43q 3 aK ?_;refine bA λc3962=>fB bO ?_;refine oB o43q 3 aK ?_;refine aDc (B:=B) zA (aH _ _) (λe9 m9 _ oq=>absurd (of_decide_eq_true e9) ht0) λe9 m9 oq=>?_
     exact⟨(by rw[hRe];simp only[aD h1,aF h2,aV hel hQ (show(λ_=>bM) i el=none by show bM el=none;rw[hone];simp only[aD h41,hw42,if_neg hm5,if_neg ht0,aO,oMN,oMS]),aO,oMN,oMS]),rfl,oq⟩
    refine fB bO ?_;refine oB o43q 3 aK ?_;refine bA λc4012=>fB bO ?_;refine oB o43q 3 aK ?_;refine aDc (B:=B) zA (aH _ _) (λe9 m9 oc oq=>?_) λe9 m9 oq=>absurd ht0 (of_decide_eq_false e9);clear oc e9;refine d1_ [0,1,2,3,4,7] [5] [6,8,9] [0,1,2,3,4,5,6,7,8,9] ?_;refine nC rfl ?_;refine fC cC ?_;refine fC bO ?_;refine fC iK ?_;refine oC oq 3 aK ?_;refine aDc (B:=B) zA (bV el.num _ b4.1 b4.2 (hT.ext (Own.ext (B:=B) zA))) (λh62 m62 oc62 oq62=>?_) λh62 m62 oq62=>?_
    case refine_2=>exact⟨(by rw[hRe];simp only[aD h1,aF h2,aV hel hQ (show(λ_=>bM) i el=none by show bM el=none;rw[hone];simp only[aD h41,hw42,if_neg hm5,if_pos ht0,dW h62,aO,oMN,oMS]),aO,oMN,oMS]),rfl,oq62⟩
    have hnl62:=bS h62;clear oc62;refine aDb rfl rfl w_ ?_;refine lA oq62 aB aC λb4111 m4111 o4111=>?_;refine aM [[32,108,101,97,115,116],[32]++Lib.itoa el.num] 2 30 [2,3] (i:=4) zA rfl rfl rfl hp43 rfl zO zO (by first|(simp;done)|(simp;omega)) zO zO (λp63 v63 bs63 k63 m63 hp63 hb63 hk63 hl63 oq=>?_);have o63q:=oq
    simp only[pick,lgS,lgZ]at o63q
    clear oq;by_cases hd1:el.den=1
    ·skip
     refine fB bO ?_;refine fB iK ?_;refine oB o63q 3 aK ?_;refine bC λc4163=>d1_ [0,1,2,3,6] [4] [5,7,8] [0,1,2,3,4,5,6,7,8] ?_;refine nC rfl ?_;refine fC cC ?_;refine fC bO ?_;refine oC o63q 3 aK ?_;refine aDc (B:=B) zA (bV el.gives _ b6.1 b6.2 (hT.ext (Own.ext (B:=B) zA))) (λh64 m64 oc64 oq64=>?_) λh64 m64 oq64=>?_
     case refine_2=>exact⟨(by rw[hRe];simp only[aD h1,aF h2,aV hel hQ (show(λ_=>bM) i el=none by show bM el=none;rw[hone];simp only[aD h41,hw42,if_neg hm5,if_pos ht0,aF h62,if_pos hd1,dW h64,aO,oMN,oMS]),aO,oMN,oMS]),rfl,oq64⟩
     have hnl64:=bS h64;clear oc64;refine aDb rfl rfl w_ ?_;refine lA oq64 aB aC λb4211 m4211 o4211=>?_;refine aM [[32,103,105,118,101,115],[32]++Lib.itoa el.gives] 2 30 [2,3] (i:=4) zA rfl rfl rfl hp63 rfl zO zO (by first|(simp;done)|(simp;omega)) zO zO (λp65 v65 bs65 k65 m65 hp65 hb65 hk65 hl65 oq=>?_);have o65q:=oq
     simp only[pick,lgS,lgZ]at o65q
     clear oq;by_cases htk0:el.takes=0
     ·skip
      refine fB bO ?_;refine oB o65q 3 aK ?_;refine bC λc4262=>cB ?_;refine fB cC ?_;refine lA o65q aB aC λb4265 m4265 o4265=>?_;refine aM [[59]] 1 30 [2,3] (i:=4) zA rfl rfl rfl hp65 rfl zO zO (by first|(simp;done)|(simp;omega)) zO zO (λp66 v66 bs66 k66 m66 hp66 hb66 hk66 hl66 oq=>?_);have o66q:=oq
      simp only[pick,lgS,lgZ]at o66q
      clear oq;refine aR ?_
      refine⟨rfl,?_⟩
      exact⟨⟨i+1,p66,v66,bs66,k66,ps++([aG [10,32,32] el.attr]++([aG [32] w42]++([]++([aG [32] [108,101,97,115,116]]++([cI [32] el.num]++([]++([aG [32] [103,105,118,101,115]]++([cI [32] el.gives]++([]++([aS [] [59]]++[])))))))))),by omega,rfl,hp66,bL hel hQ (by(first|rw[hone]|(show bM el=_;rw[hone]));simp only[aD h41,hw42,if_neg hm5,if_pos ht0,aF h62,if_pos hd1,aF h64,if_pos htk0,aO,oMS]),by rw[hb66,hb65,hb63,hb43,hb'];simp[bX,gX,wr,aG,aS,cI],by rw[hk66,hk65,hk63,hk43,hk'];first|(simp;done)|(simp;omega),by omega,by omega,o_ [0,1,2]⟩,by simp;omega⟩
     ·skip
      refine fB bO ?_;refine oB o65q 3 aK ?_;refine bD λc4362=>d1_ [0,1,2,3,6] [4] [5,7,8] [0,1,2,3,4,5,6,7,8] ?_;refine nC rfl ?_;refine fC cC ?_;refine fC bO ?_;refine oC o65q 3 aK ?_;refine aDc (B:=B) zA (bV el.takes _ b7.1 b7.2 (hT.ext (Own.ext (B:=B) zA))) (λh67 m67 oc67 oq67=>?_) λh67 m67 oq67=>?_
      case refine_2=>exact⟨(by rw[hRe];simp only[aD h1,aF h2,aV hel hQ (show(λ_=>bM) i el=none by show bM el=none;rw[hone];simp only[aD h41,hw42,if_neg hm5,if_pos ht0,aF h62,if_pos hd1,aF h64,if_neg htk0,dW h67,aO,oMN,oMS]),aO,oMN,oMS]),rfl,oq67⟩
      have hnl67:=bS h67;clear oc67;refine aDb rfl rfl w_ ?_;refine lA oq67 aB aC λb4411 m4411 o4411=>?_;refine aM [[32,116,97,107,101,115],[32]++Lib.itoa el.takes] 2 30 [2,3] (i:=4) zA rfl rfl rfl hp65 rfl zO zO (by first|(simp;done)|(simp;omega)) zO zO (λp68 v68 bs68 k68 m68 hp68 hb68 hk68 hl68 oq=>?_);have o68q:=oq
      simp only[pick,lgS,lgZ]at o68q
      clear oq;refine cB ?_;refine fB cC ?_;refine lA o68q aB aC λb4462 m4462 o4462=>?_;refine aM [[59]] 1 30 [2,3] (i:=4) zA rfl rfl rfl hp68 rfl zO zO (by first|(simp;done)|(simp;omega)) zO zO (λp69 v69 bs69 k69 m69 hp69 hb69 hk69 hl69 oq=>?_);have o69q:=oq
      simp only[pick,lgS,lgZ]at o69q
      clear oq;refine aR ?_
      refine⟨rfl,?_⟩
      exact⟨⟨i+1,p69,v69,bs69,k69,ps++([aG [10,32,32] el.attr]++([aG [32] w42]++([]++([aG [32] [108,101,97,115,116]]++([cI [32] el.num]++([]++([aG [32] [103,105,118,101,115]]++([cI [32] el.gives]++(aG [32] [116,97,107,101,115]::[cI [32] el.takes]++([aS [] [59]]++[])))))))))),by omega,rfl,hp69,bL hel hQ (by(first|rw[hone]|(show bM el=_;rw[hone]));simp only[aD h41,hw42,if_neg hm5,if_pos ht0,aF h62,if_pos hd1,aF h64,if_neg htk0,aF h67,aO,oMS]),by rw[hb69,hb68,hb65,hb63,hb43,hb'];simp[bX,gX,wr,aG,aS,cI],by rw[hk69,hk68,hk65,hk63,hk43,hk'];first|(simp;done)|(simp;omega),by omega,by omega,o_ [0,1,2]⟩,by simp;omega⟩
    ·skip
     refine fB bO ?_;refine fB iK ?_;refine oB o63q 3 aK ?_;refine bD λc4563=>d1_ [0,1,2,3,4] [5] [6,7,8] [0,1,2,3,4,5,6,7,8] ?_;refine nC rfl ?_;refine fC cC ?_;refine fC bO ?_;refine fC iK ?_;refine oC o63q 3 aK ?_;refine aDc (B:=B) zA (bV el.den _ b5.1 b5.2 (hT.ext (Own.ext (B:=B) zA))) (λh70 m70 oc70 oq70=>?_) λh70 m70 oq70=>?_
     case refine_2=>exact⟨(by rw[hRe];simp only[aD h1,aF h2,aV hel hQ (show(λ_=>bM) i el=none by show bM el=none;rw[hone];simp only[aD h41,hw42,if_neg hm5,if_pos ht0,aF h62,if_neg hd1,dW h70,aO,oMN,oMS]),aO,oMN,oMS]),rfl,oq70⟩
     have hnl70:=bS h70;clear oc70;refine lA oq70 aB aC λb4610 m4610 o4610=>?_;refine aM [[47],Lib.itoa el.den] 2 30 [2,3] (i:=4) zA rfl rfl rfl hp63 rfl zO zO (by first|(simp;done)|(simp;omega)) zO zO (λp71 v71 bs71 k71 m71 hp71 hb71 hk71 hl71 oq=>?_);have o71q:=oq
     simp only[pick,lgS,lgZ]at o71q
     clear oq;refine d1_ [0,1,2,3,6] [4] [5,7,8] [0,1,2,3,4,5,6,7,8] ?_;refine nC rfl ?_;refine fC cC ?_;refine fC bO ?_;refine oC o71q 3 aK ?_;refine aDc (B:=B) zA (bV el.gives _ b6.1 b6.2 (hT.ext (Own.ext (B:=B) zA))) (λh72 m72 oc72 oq72=>?_) λh72 m72 oq72=>?_
     case refine_2=>exact⟨(by rw[hRe];simp only[aD h1,aF h2,aV hel hQ (show(λ_=>bM) i el=none by show bM el=none;rw[hone];simp only[aD h41,hw42,if_neg hm5,if_pos ht0,aF h62,if_neg hd1,aF h70,dW h72,aO,oMN,oMS]),aO,oMN,oMS]),rfl,oq72⟩
     have hnl72:=bS h72;clear oc72;refine aDb rfl rfl w_ ?_;refine lA oq72 aB aC λb4711 m4711 o4711=>?_;refine aM [[32,103,105,118,101,115],[32]++Lib.itoa el.gives] 2 30 [2,3] (i:=4) zA rfl rfl rfl hp71 rfl zO zO (by first|(simp;done)|(simp;omega)) zO zO (λp73 v73 bs73 k73 m73 hp73 hb73 hk73 hl73 oq=>?_);have o73q:=oq
     simp only[pick,lgS,lgZ]at o73q
     clear oq;by_cases htk0:el.takes=0
     ·skip
      refine fB bO ?_;refine oB o73q 3 aK ?_;refine bC λc4762=>cB ?_;refine fB cC ?_;refine lA o73q aB aC λb4765 m4765 o4765=>?_;refine aM [[59]] 1 30 [2,3] (i:=4) zA rfl rfl rfl hp73 rfl zO zO (by first|(simp;done)|(simp;omega)) zO zO (λp74 v74 bs74 k74 m74 hp74 hb74 hk74 hl74 oq=>?_);have o74q:=oq
      simp only[pick,lgS,lgZ]at o74q
      clear oq;refine aR ?_
      refine⟨rfl,?_⟩
      exact⟨⟨i+1,p74,v74,bs74,k74,ps++([aG [10,32,32] el.attr]++([aG [32] w42]++([]++([aG [32] [108,101,97,115,116]]++([cI [32] el.num]++(aS [] [47]::[cI [] el.den]++([aG [32] [103,105,118,101,115]]++([cI [32] el.gives]++([]++([aS [] [59]]++[])))))))))),by omega,rfl,hp74,bL hel hQ (by(first|rw[hone]|(show bM el=_;rw[hone]));simp only[aD h41,hw42,if_neg hm5,if_pos ht0,aF h62,if_neg hd1,aF h70,aF h72,if_pos htk0,aO,oMS]),by rw[hb74,hb73,hb71,hb63,hb43,hb'];simp[bX,gX,wr,aG,aS,cI],by rw[hk74,hk73,hk71,hk63,hk43,hk'];first|(simp;done)|(simp;omega),by omega,by omega,o_ [0,1,2]⟩,by simp;omega⟩
     ·skip
      refine fB bO ?_;refine oB o73q 3 aK ?_;refine bD λc4862=>d1_ [0,1,2,3,6] [4] [5,7,8] [0,1,2,3,4,5,6,7,8] ?_;refine nC rfl ?_;refine fC cC ?_;refine fC bO ?_;refine oC o73q 3 aK ?_;refine aDc (B:=B) zA (bV el.takes _ b7.1 b7.2 (hT.ext (Own.ext (B:=B) zA))) (λh75 m75 oc75 oq75=>?_) λh75 m75 oq75=>?_
      case refine_2=>exact⟨(by rw[hRe];simp only[aD h1,aF h2,aV hel hQ (show(λ_=>bM) i el=none by show bM el=none;rw[hone];simp only[aD h41,hw42,if_neg hm5,if_pos ht0,aF h62,if_neg hd1,aF h70,aF h72,if_neg htk0,dW h75,aO,oMN,oMS]),aO,oMN,oMS]),rfl,oq75⟩
      have hnl75:=bS h75;clear oc75;refine aDb rfl rfl w_ ?_;refine lA oq75 aB aC λb4911 m4911 o4911=>?_;refine aM [[32,116,97,107,101,115],[32]++Lib.itoa el.takes] 2 30 [2,3] (i:=4) zA rfl rfl rfl hp73 rfl zO zO (by first|(simp;done)|(simp;omega)) zO zO (λp76 v76 bs76 k76 m76 hp76 hb76 hk76 hl76 oq=>?_);have o76q:=oq
      simp only[pick,lgS,lgZ]at o76q
      clear oq;refine cB ?_;refine fB cC ?_;refine lA o76q aB aC λb4962 m4962 o4962=>?_;refine aM [[59]] 1 30 [2,3] (i:=4) zA rfl rfl rfl hp76 rfl zO zO (by first|(simp;done)|(simp;omega)) zO zO (λp77 v77 bs77 k77 m77 hp77 hb77 hk77 hl77 oq=>?_);have o77q:=oq
      simp only[pick,lgS,lgZ]at o77q
      clear oq;refine aR ?_
      refine⟨rfl,?_⟩
      exact⟨⟨i+1,p77,v77,bs77,k77,ps++([aG [10,32,32] el.attr]++([aG [32] w42]++([]++([aG [32] [108,101,97,115,116]]++([cI [32] el.num]++(aS [] [47]::[cI [] el.den]++([aG [32] [103,105,118,101,115]]++([cI [32] el.gives]++(aG [32] [116,97,107,101,115]::[cI [32] el.takes]++([aS [] [59]]++[])))))))))),by omega,rfl,hp77,bL hel hQ (by(first|rw[hone]|(show bM el=_;rw[hone]));simp only[aD h41,hw42,if_neg hm5,if_pos ht0,aF h62,if_neg hd1,aF h70,aF h72,if_neg htk0,aF h75,aO,oMS]),by rw[hb77,hb76,hb73,hb71,hb63,hb43,hb'];simp[bX,gX,wr,aG,aS,cI],by rw[hk77,hk76,hk73,hk71,hk63,hk43,hk'];first|(simp;done)|(simp;omega),by omega,by omega,o_ [0,1,2]⟩,by simp;omega⟩
 have hQL:=fF (aEs hlt) hQ;refine bA λc5060=>cB ?_;refine fB aA ?_;(refine sB oh 2 aC ?_;intro m5063 o5063);refine cB ?_;refine fB aA ?_;(refine sB o5063 2 aK ?_;intro m5066 o5066);refine cB ?_;refine fB aA ?_;(refine sB o5066 2 mC ?_;intro m5069 o5069);refine aDS rfl ?_;exact IEnds.done (ps:=[aG [32] [111,110]]++([aG [32] x.table]++([aG [32] [97,116]]++([cI [32] x.n]++([aS [32] [123]]++(ps++[])))))) (by rw[hRe];simp only[aD h1,aF h2,hQL,aO,oMS]) (o_ [0,1,2]) hp' (by rw[hb',hb3];simp[bX,gX,wr,aG,aS,cI]) (by rw[hk',hk3];first|(simp;done)|(simp;omega)) zO zO
theorem wrKeep_spec (B:Base)(b bx:Nat)(p v:Value)(k:Int)(bs:aBs)(x:It)(z:Int)(vc vn vt vf vv vd e0 e1 e2 e3 e4 e5 e6 e7 e8:Value)(h:Heap)(hp:dI b p)(hT:kQ B.h)(hOK:fO x)
  (o:Own B [box b [p,v,iv k] 58,row v 5 1 bs.length (bytes bs),box bx (eD x z vc vn vt vf vv vd e0 e1 e2 e3 e4 e5 e6 e7 e8) 44] h) (hl:bs.length+2000*dF x<=50000000000000) (hk:0<=k/\k+2000*dF x<=50000000000000) :
  Spec Tryz.prog 74 [pv b 0,pv bx 0] h (IEnds B b bx bs k (2000*dF x) (eD (clr5 x) z vc vn vt vf vv vd e0 e1 e2 e3 e4 e5 e6 e7 e8) (part5 x)):=by
 obtain⟨bkind,bname,btable,battr,bcols,bnames,bby,bn,bm,bterms,both,boat,bfixed,bvars,bconds,bexpr,lcols,lnames,lterms,lfixed,lvars,lconds⟩:=hOK
 have hsz:dF x=1+x.cols.length+x.names.length+x.terms.length+x.fixed.length+x.vars.length+x.conds.length+fD x.expr:=rfl;unfold eD at o;refine eN Tryz.func74 Tryz.ntmps74 ?_;have hRe:part5 x=aO [fM x.table x.attr,some [aG [32] [98,121]],hO x.by_ [[108,97,116,101,115,116],[109,111,115,116],[116,114,117,115,116,101,100],[108,111,110,103,101,115,116],[108,101,97,115,116],[103,114,101,97,116,101,115,116]]]:=rfl;refine d1_ [0,1,2,3,5,6,7] [4,8] [9] [0,1,2,3,4,5,6,7,8,9] ?_;refine nC rfl ?_;refine fC aA ?_;refine oC o 2 aC ?_;refine nC rfl ?_;refine fC aA ?_;refine oC o 2 aC ?_;refine WEnds.callJ [2] zA rfl rfl (λJ oj=>nU ⟨B.h,J++B.T⟩ b p v k bs x.table x.attr _ hp oj zO btable battr zO) (λps1 p1 v1 bs1 k1 m1 hq1 hp1 hb1 hk1 hl1 _ hj1 oq=>?_) (λm1 hq1 oq=>?_)
 case refine_2=>exact⟨(by rw[hRe];simp only[hq1,aO,oMN,oMS]),rfl,oq⟩
 have o1q:=oq
 simp only[pick,lgS,lgZ]at o1q
 clear oq;refine d1_ [0,1,2,3,4,5] [6] [8,9,10] [0,1,2,3,4,5,6,7,8,9,10] ?_;refine nC rfl ?_;refine fC cC ?_;refine nC rfl ?_;refine fC aA ?_;refine oC o1q 2 aK ?_;refine lA (Own.refl _) aB aC λb115 m115 o115=>?_;(refine aI o115.ext ?_;have o116:=Own.call o1q o115;simp only[lcA,lnA]at o116;clear o115);refine aDc (B:=B) zA (eS x.by_ [[108,97,116,101,115,116],[109,111,115,116],[116,114,117,115,116,101,100],[108,111,110,103,101,115,116],[108,101,97,115,116],[103,114,101,97,116,101,115,116]] _ _ zO zO (Own.boxArr zA 3 rfl rfl zD) zS zS) (λh2 m2 oc2 oq2=>?_) λh2 m2 oq2=>?_
 case refine_2=>exact⟨(by rw[hRe];simp only[hq1,mU (of_decide_eq_false h2),aO,oMN,oMS]),rfl,oq2⟩
 have h2:=of_decide_eq_true h2;have hw2:=lD (n:=x.by_) h2;have hnl2:=lS (ws:=[[108,97,116,101,115,116],[109,111,115,116],[116,114,117,115,116,101,100],[108,111,110,103,101,115,116],[108,101,97,115,116],[103,114,101,97,116,101,115,116]]) (M:=10) zS (x.by_ - 1).toNat;generalize ([[108,97,116,101,115,116],[109,111,115,116],[116,114,117,115,116,101,100],[108,111,110,103,101,115,116],[108,101,97,115,116],[103,114,101,97,116,101,115,116]]:List aBs).getD (x.by_ - 1).toNat []=w2 at hw2 hnl2;clear oc2;refine lA oq2 aB aC λb160 m160 o160=>?_;refine aM [[32,98,121],32::w2] 2 30 [2] (i:=4) zA rfl rfl rfl hp1 rfl zO zO (by first|(simp;done)|(simp;omega)) zO zO (λp3 v3 bs3 k3 m3 hp3 hb3 hk3 hl3 oq=>?_);have o3q:=oq
 simp only[pick,lgS,lgZ]at o3q
 clear oq;refine cB ?_;refine fB aA ?_;(refine sB o3q 2 aC ?_;intro m212 o212);refine cB ?_;refine fB aA ?_;(refine sB o212 2 aC ?_;intro m215 o215);refine cB ?_;refine fB aA ?_;(refine sB o215 2 aK ?_;intro m218 o218);refine aDS rfl ?_;exact IEnds.done (ps:=ps1++([aG [32] [98,121]]++([aG [32] w2]++[]))) (by rw[hRe];simp only[hq1,hw2,aO,oMS]) (o_ [0,1,2]) hp3 (by rw[hb3,hb1];simp[bX,gX,wr,aG,aS,cI]) (by rw[hk3,hk1];first|(simp;done)|(simp;omega)) zO zO
theorem aBC (B:Base)(b bx:Nat)(p v:Value)(k:Int)(bs:aBs)(x:It)(z:Int)(vc vn vt vf vv vd e0 e1 e2 e3 e4 e5 e6 e7 e8:Value)(h:Heap)(hp:dI b p)(hT:kQ B.h)(hOK:fO x)(hN:aY 1 B.h vn x.names.length (strs x.names))
  (o:Own B [box b [p,v,iv k] 58,row v 5 1 bs.length (bytes bs),box bx (eD x z vc vn vt vf vv vd e0 e1 e2 e3 e4 e5 e6 e7 e8) 44] h) (hl:bs.length+2000*dF x<=50000000000000) (hk:0<=k/\k+2000*dF x<=50000000000000) :
  Spec Tryz.prog 75 [pv b 0,pv bx 0] h (IEnds B b bx bs k (2000*dF x) (eD (clr6 x) z vc aP vt vf vv vd e0 e1 e2 e3 e4 e5 e6 e7 e8) (part6 x)):=by
 obtain⟨bkind,bname,btable,battr,bcols,bnames,bby,bn,bm,bterms,both,boat,bfixed,bvars,bconds,bexpr,lcols,lnames,lterms,lfixed,lvars,lconds⟩:=hOK
 have hsz:dF x=1+x.cols.length+x.names.length+x.terms.length+x.fixed.length+x.vars.length+x.conds.length+fD x.expr:=rfl;unfold eD at o;refine eN Tryz.func75 Tryz.ntmps75 ?_;have hRe:part6 x=aO [some [aG [32] [111,110]],bN [32] x.table,some [aS [] [40]],eO bN [] x.names,some [aS [] [41]]]:=rfl;refine d1_ [0,1,2,3,4,5,8] [6] [7,9,10] [0,1,2,3,4,5,6,7,8,9,10] ?_;refine nC rfl ?_;refine fC cC ?_;refine nC rfl ?_;refine fC aA ?_;refine oC o 2 aC ?_;refine aDc (B:=B) zA (bT x.table _ btable) (λh1 m1 oc1 oq1=>?_) λh1 m1 oq1=>?_
 case refine_2=>exact⟨(by rw[hRe];simp only[dM h1,aO,oMN,oMS]),rfl,oq1⟩
 have hnl1:=bJ h1;clear oc1;refine aDb rfl rfl w_ ?_;refine lA oq1 aB aC λb111 m111 o111=>?_;refine aM [[32,111,110],[32]++x.table,[40]] 3 30 [2] (i:=3) zA rfl rfl rfl hp rfl zO zO (by first|(simp;done)|(simp;omega)) zO zO (λp2 v2 bs2 k2 m2 hp2 hb2 hk2 hl2 oq=>?_);have o2q:=oq
 simp only[pick,lgS,lgZ]at o2q
 clear oq;refine cB ?_;refine fB aA ?_;refine oB o2q 2 cS ?_;refine WEnds.callJ [2] zA rfl rfl (λJ oj=>sO ⟨B.h,J++B.T⟩ b p2 v2 k2 bs2 [] x.names _ _ hp2 (λL h o=>(hN.ext (Own.ext (B:=⟨B.h,J++B.T⟩) o)).to1) oj zO bnames zO zO (.inl rfl)) (λps3 p3 v3 bs3 k3 m3 hq3 hp3 hb3 hk3 hl3 _ hj3 oq=>?_) (λm3 hq3 oq=>?_)
 case refine_2=>exact⟨(by rw[hRe];simp only[aD h1,hq3,aO,oMN,oMS]),rfl,oq⟩
 have o3q:=oq
 simp only[pick,lgS,lgZ]at o3q
 clear oq;refine cB ?_;refine fB cC ?_;refine lA o3q aB aC λb212 m212 o212=>?_;refine aM [[41]] 1 30 [2] (i:=3) zA rfl rfl rfl hp3 rfl zO zO (by first|(simp;done)|(simp;omega)) zO zO (λp4 v4 bs4 k4 m4 hp4 hb4 hk4 hl4 oq=>?_);have o4q:=oq
 simp only[pick,lgS,lgZ]at o4q
 clear oq;refine cB ?_;refine fB aA ?_;(refine sB o4q 2 aC ?_;intro m262 o262);refine cB ?_;refine fB aA ?_;(refine sB o262 2 cS ?_;intro m265 o265);refine aDS rfl ?_;exact IEnds.done (ps:=[aG [32] [111,110]]++([aG [32] x.table]++([aS [] [40]]++(ps3++([aS [] [41]]++[]))))) (by rw[hRe];simp only[aD h1,hq3,aO,oMS]) (o_ [0,1,2]) hp4 (by rw[hb4,hb3,hb2];simp[bX,gX,wr,aG,aS,cI]) (by rw[hk4,hk3,hk2];first|(simp;done)|(simp;omega)) zO zO
theorem aBE (B:Base)(b bx:Nat)(p v:Value)(k:Int)(bs:aBs)(x:It)(z:Int)(vc vn vt vf vv vd e0 e1 e2 e3 e4 e5 e6 e7 e8:Value)(h:Heap)(hp:dI b p)(hT:kQ B.h)(hOK:fO x)(hN:aY 1 B.h vn x.names.length (strs x.names))(hA:aY 4 B.h vf x.fixed.length (x.fixed.flatMap xH))
  (o:Own B [box b [p,v,iv k] 58,row v 5 1 bs.length (bytes bs),box bx (eD x z vc vn vt vf vv vd e0 e1 e2 e3 e4 e5 e6 e7 e8) 44] h) (hl:bs.length+2000*dF x<=50000000000000) (hk:0<=k/\k+2000*dF x<=50000000000000) :
  Spec Tryz.prog 76 [pv b 0,pv bx 0] h (IEnds B b bx bs k (2000*dF x) (eD (clr7 x) z vc aP vt aP vv vd e0 e1 e2 e3 e4 e5 e6 e7 e8) (part7 x)):=by
 obtain⟨bkind,bname,btable,battr,bcols,bnames,bby,bn,bm,bterms,both,boat,bfixed,bvars,bconds,bexpr,lcols,lnames,lterms,lfixed,lvars,lconds⟩:=hOK
 have hsz:dF x=1+x.cols.length+x.names.length+x.terms.length+x.fixed.length+x.vars.length+x.conds.length+fD x.expr:=rfl;unfold eD at o
 obtain⟨ya,yc,rfl⟩:=hA.isS
 refine eN Tryz.func76 Tryz.ntmps76 ?_;have hRe:part7 x=aO [some [aG [32] [111,110]],bN [32] x.table,some [aS [] [40]],eO bN [] x.names,some [aS [] [41],aG [32] [116,111]],bN [32] x.attr,dD aBJ x.fixed]:=by unfold part7;rw[zF]
 refine d1_ [0,1,2,3,4,5,8] [6] [7,9,10] [0,1,2,3,4,5,6,7,8,9,10] ?_;refine nC rfl ?_;refine fC cC ?_;refine nC rfl ?_;refine fC aA ?_;refine oC o 2 aC ?_;refine aDc (B:=B) zA (bT x.table _ btable) (λh1 m1 oc1 oq1=>?_) λh1 m1 oq1=>?_
 case refine_2=>exact⟨(by rw[hRe];simp only[dM h1,aO,oMN,oMS]),rfl,oq1⟩
 have hnl1:=bJ h1;clear oc1;refine aDb rfl rfl w_ ?_;refine lA oq1 aB aC λb111 m111 o111=>?_;refine aM [[32,111,110],[32]++x.table,[40]] 3 30 [2] (i:=3) zA rfl rfl rfl hp rfl zO zO (by first|(simp;done)|(simp;omega)) zO zO (λp2 v2 bs2 k2 m2 hp2 hb2 hk2 hl2 oq=>?_);have o2q:=oq
 simp only[pick,lgS,lgZ]at o2q
 clear oq;refine cB ?_;refine fB aA ?_;refine oB o2q 2 cS ?_;refine WEnds.callJ [2] zA rfl rfl (λJ oj=>sO ⟨B.h,J++B.T⟩ b p2 v2 k2 bs2 [] x.names _ _ hp2 (λL h o=>(hN.ext (Own.ext (B:=⟨B.h,J++B.T⟩) o)).to1) oj zO bnames zO zO (.inl rfl)) (λps3 p3 v3 bs3 k3 m3 hq3 hp3 hb3 hk3 hl3 _ hj3 oq=>?_) (λm3 hq3 oq=>?_)
 case refine_2=>exact⟨(by rw[hRe];simp only[aD h1,hq3,aO,oMN,oMS]),rfl,oq⟩
 have o3q:=oq
 simp only[pick,lgS,lgZ]at o3q
 clear oq;refine d1_ [0,1,2,3,4,5,8] [6] [7,9,10] [0,1,2,3,4,5,6,7,8,9,10] ?_;refine nC rfl ?_;refine fC cC ?_;refine nC rfl ?_;refine fC aA ?_;refine oC o3q 2 aC ?_;refine aDc (B:=B) zA (bT x.attr _ battr) (λh4 m4 oc4 oq4=>?_) λh4 m4 oq4=>?_
 case refine_2=>exact⟨(by rw[hRe];simp only[aD h1,hq3,dM h4,aO,oMN,oMS]),rfl,oq4⟩
 have hnl4:=bJ h4;clear oc4;refine aDb rfl rfl w_ ?_;refine lA oq4 aB aC λb261 m261 o261=>?_;refine aM [[41],[32,116,111],[32]++x.attr] 3 30 [2] (i:=3) zA rfl rfl rfl hp3 rfl zO zO (by first|(simp;done)|(simp;omega)) zO zO (λp5 v5 bs5 k5 m5 hp5 hb5 hk5 hl5 oq=>?_);have o5q:=oq
 simp only[pick,lgS,lgZ]at o5q
 clear oq;refine cB ?_;refine fB aA ?_;refine oB o5q 2 lZ ?_;refine lB kV ?_;refine aDT [4,6,40,41,42,43,44,45,46,47,48,49,50,51,52,53,54,55,56,57,58] [4,40] (λvs' hh=>∃(i:Nat) (p' v':Value) (bs':aBs) (k':Int) (ps:List Pc),i<=x.fixed.length/\vs'=[.string ⟨⟨if i=0 then[32,119,104,101,114,101] else[44]⟩⟩,.int .i64 i]/\dI b p'/\dD aBJ (x.fixed.take i)=some ps/\bs'=bs5++bX ps/\k'=k5+ps.length/\bs'.length<=bs5.length+1000*i/\k'<=k5+1000*i/\Own B [box b [p',v',.int .i64 k'] 58,row v' 5 1 bs'.length (bytes bs'),box bx [.int .i64 x.kind,.string ⟨⟨x.name⟩⟩,.int .i64 z,.string ⟨⟨x.table⟩⟩,.string ⟨⟨x.attr⟩⟩,vc,vn,.int .i64 x.by_,.int .i64 x.n,.int .i64 x.m,vt,.string ⟨⟨x.other⟩⟩,.string ⟨⟨x.oattr⟩⟩,.slice ya x.fixed.length yc,vv,vd,e0,e1,e2,e3,e4,e5,e6,e7,e8] 44] hh) (λvs' _=>match vs' with|[_,.int _ i]=>x.fixed.length - i.toNat|_=>0) ?_ ?_
 ·exact⟨0,p5,v5,bs5,k5,[],by omega,rfl,hp5,rfl,by simp[bX],by simp,by omega,by omega,o_ [0,1,2]⟩
 rintro vs' junk hh ⟨i,p',v',bs',k',ps,hi,rfl,hp',hQ,hb',hk',hl',hkb,oh⟩;have hkge:k5<=k':=by omega
 by_cases hlt:i<x.fixed.length
 ·obtain⟨el,hel⟩:=getx hlt
  have hOKel:=bfixed el (aDY hel);have hm:1000*i+1000<=1000*x.fixed.length:=by omega
  obtain⟨hn1,hv1⟩:=hOKel
  have hone:aBJ i el=(aO [bN [32] el.name,some [aS [32] [61]],cD el.val]).map ((if i=0 then aG [32] [119,104,101,114,101] else aS [] [44])::·):=rfl;have hbe:(if i=0 then[32,119,104,101,114,101] else[44]:aBs)=gX (if i=0 then aG [32] [119,104,101,114,101] else aS [] [44]):=by split<;>rfl
  have hbl:(gX (if i=0 then aG [32] [119,104,101,114,101] else aS [] [44])).length<=6:=by split<;>decide
  rw[hbe]
  generalize (if i=0 then aG [32] [119,104,101,114,101] else aS [] [44])=sp at hone hbl
  refine bB λc360=>rR (aDe kV oN (hA.ext oh.ext) rfl zO zO ?_);refine rR (aDg oN (hA.ext oh.ext) (λ_=>rfl) zD rfl zA ?_);refine aDH oh oN λb363 m363 o363=>?_;(refine sA o363 3 oN ?_;intro m364 o364);refine d1_ [0,1,2,3,4,7] [5] [6,8,9] [0,1,2,3,4,5,6,7,8,9] ?_;refine nC rfl ?_;refine fC cC ?_;refine fC wS ?_;refine oC o364 3 aC ?_;refine aDc (B:=B) zA (bT el.name _ hn1) (λh6 m6 oc6 oq6=>?_) λh6 m6 oq6=>?_
  case refine_2=>exact⟨(by rw[hRe];simp only[aD h1,hq3,aD h4,aV hel hQ (show aBJ i el=none by rw[hone];simp only[dM h6,aO,oMN,oMS]),aO,oMN,oMS]),rfl,oq6⟩
  have hnl6:=bJ h6;clear oc6;refine aDb rfl rfl w_ ?_;refine lA oq6 aB aC λb411 m411 o411=>?_;refine aM [gX sp,[32]++el.name,[32,61]] 3 30 [2,3] (i:=4) zA rfl rfl rfl hp' rfl zO zO (by first|(simp;done)|(simp;omega)) zO zO (λp7 v7 bs7 k7 m7 hp7 hb7 hk7 hl7 oq=>?_);have o7q:=oq
  simp only[pick,lgS,lgZ]at o7q
  clear oq;refine fB wS ?_;refine nB o7q 3 cG ?_;refine WEnds.callJ [2,3] zA rfl rfl (λJ oj=>jY ⟨B.h,J++B.T⟩ b p7 v7 k7 bs7 el.val _ hp7 hT oj zO hv1.2.2 hv1.2.1 zO) (λps8 p8 v8 bs8 k8 m8 hq8 hp8 hb8 hk8 hl8 _ hj8 oq=>?_) (λm8 hq8 oq=>?_)
  case refine_2=>exact⟨(by rw[hRe];simp only[aD h1,hq3,aD h4,aV hel hQ (show aBJ i el=none by rw[hone];simp only[aD h6,hq8,aO,oMN,oMS]),aO,oMN,oMS]),rfl,oq⟩
  have o8q:=oq
  simp only[pick,lgS,lgZ]at o8q
  clear oq;refine aR ?_
  refine⟨rfl,?_⟩
  refine⟨⟨i+1,p8,v8,bs8,k8,ps++(sp::([aG [32] el.name]++([aS [32] [61]]++(ps8++[])))),by omega,?_,hp8,bL hel hQ (by rw[hone];simp only[aD h6,hq8,aO,oMS]),by rw[hb8,hb7,hb'];simp[bX,gX,wr,aG,aS,cI],by rw[hk8,hk7,hk'];first|(simp;done)|(simp;omega),by omega,by omega,o_ [0,1,2]⟩,by simp;omega⟩
  first|(rw[if_neg zO];done)|(rw[if_neg zO];rfl)
 have hQL:=fF (aEs hlt) hQ;refine bA λc560=>cB ?_;refine fB aA ?_;(refine sB oh 2 aC ?_;intro m563 o563);refine cB ?_;refine fB aA ?_;(refine sB o563 2 cS ?_;intro m566 o566);refine cB ?_;refine fB aA ?_;(refine sB o566 2 aC ?_;intro m569 o569);refine cB ?_;refine fB aA ?_;(refine sB o569 2 lZ ?_;intro m572 o572);refine aDS rfl ?_;exact IEnds.done (ps:=[aG [32] [111,110]]++([aG [32] x.table]++([aS [] [40]]++(ps3++([aS [] [41],aG [32] [116,111]]++([aG [32] x.attr]++(ps++[]))))))) (by rw[hRe];simp only[aD h1,hq3,aD h4,hQL,aO,oMS]) (o_ [0,1,2]) hp' (by rw[hb',hb5,hb3,hb2];simp[bX,gX,wr,aG,aS,cI]) (by rw[hk',hk5,hk3,hk2];first|(simp;done)|(simp;omega)) zO zO
theorem aAe (B:Base)(b bx:Nat)(p v:Value)(k:Int)(bs:aBs)(x:It)(z:Int)(vc vn vt vf vv vd e0 e1 e2 e3 e4 e5 e6 e7 e8:Value)(h:Heap)(hp:dI b p)(hT:kQ B.h)(hOK:fO x)
  (o:Own B [box b [p,v,iv k] 58,row v 5 1 bs.length (bytes bs),box bx (eD x z vc vn vt vf vv vd e0 e1 e2 e3 e4 e5 e6 e7 e8) 44] h) (hl:bs.length+2000*dF x<=50000000000000) (hk:0<=k/\k+2000*dF x<=50000000000000) :
  Spec Tryz.prog 77 [pv b 0,pv bx 0] h (IEnds B b bx bs k (2000*dF x) (eD (clr8 x) z vc vn vt vf vv vd e0 e1 e2 e3 e4 e5 e6 e7 e8) (part8 x)):=by
 obtain⟨bkind,bname,btable,battr,bcols,bnames,bby,bn,bm,bterms,both,boat,bfixed,bvars,bconds,bexpr,lcols,lnames,lterms,lfixed,lvars,lconds⟩:=hOK
 have hsz:dF x=1+x.cols.length+x.names.length+x.terms.length+x.fixed.length+x.vars.length+x.conds.length+fD x.expr:=rfl;unfold eD at o;refine eN Tryz.func77 Tryz.ntmps77 ?_;have hRe:part8 x=aO [fM x.table x.attr,some [aG [32] [105,110]],fM x.other x.oattr]:=rfl;refine d1_ [0,1,2,3,5,6,7] [4,8] [9] [0,1,2,3,4,5,6,7,8,9] ?_;refine nC rfl ?_;refine fC aA ?_;refine oC o 2 aC ?_;refine nC rfl ?_;refine fC aA ?_;refine oC o 2 aC ?_;refine WEnds.callJ [2] zA rfl rfl (λJ oj=>nU ⟨B.h,J++B.T⟩ b p v k bs x.table x.attr _ hp oj zO btable battr zO) (λps1 p1 v1 bs1 k1 m1 hq1 hp1 hb1 hk1 hl1 _ hj1 oq=>?_) (λm1 hq1 oq=>?_)
 case refine_2=>exact⟨(by rw[hRe];simp only[hq1,aO,oMN,oMS]),rfl,oq⟩
 have o1q:=oq
 simp only[pick,lgS,lgZ]at o1q
 clear oq;refine cB ?_;refine fB cC ?_;refine lA o1q aB aC λb112 m112 o112=>?_;refine aM [[32,105,110]] 1 30 [2] (i:=3) zA rfl rfl rfl hp1 rfl zO zO (by first|(simp;done)|(simp;omega)) zO zO (λp2 v2 bs2 k2 m2 hp2 hb2 hk2 hl2 oq=>?_);have o2q:=oq
 simp only[pick,lgS,lgZ]at o2q
 clear oq;refine d1_ [0,1,2,3,5,6,7] [4,8] [9] [0,1,2,3,4,5,6,7,8,9] ?_;refine nC rfl ?_;refine fC aA ?_;refine oC o2q 2 aC ?_;refine nC rfl ?_;refine fC aA ?_;refine oC o2q 2 aC ?_;refine WEnds.callJ [2] zA rfl rfl (λJ oj=>nU ⟨B.h,J++B.T⟩ b p2 v2 k2 bs2 x.other x.oattr _ hp2 oj zO both boat zO) (λps3 p3 v3 bs3 k3 m3 hq3 hp3 hb3 hk3 hl3 _ hj3 oq=>?_) (λm3 hq3 oq=>?_)
 case refine_2=>exact⟨(by rw[hRe];simp only[hq1,hq3,aO,oMN,oMS]),rfl,oq⟩
 have o3q:=oq
 simp only[pick,lgS,lgZ]at o3q
 clear oq;refine cB ?_;refine fB aA ?_;(refine sB o3q 2 aC ?_;intro m212 o212);refine cB ?_;refine fB aA ?_;(refine sB o212 2 aC ?_;intro m215 o215);refine cB ?_;refine fB aA ?_;(refine sB o215 2 aC ?_;intro m218 o218);refine cB ?_;refine fB aA ?_;(refine sB o218 2 aC ?_;intro m221 o221);refine aDS rfl ?_;exact IEnds.done (ps:=ps1++([aG [32] [105,110]]++(ps3++[]))) (by rw[hRe];simp only[hq1,hq3,aO,oMS]) (o_ [0,1,2]) hp3 (by rw[hb3,hb2,hb1];simp[bX,gX,wr,aG,aS,cI]) (by rw[hk3,hk2,hk1];first|(simp;done)|(simp;omega)) zO zO
theorem wrDeny_spec (B:Base)(b bx:Nat)(p v:Value)(k:Int)(bs:aBs)(x:It)(z:Int)(vc vn vt vf vv vd e0 e1 e2 e3 e4 e5 e6 e7 e8:Value)(h:Heap)(hp:dI b p)(hT:kQ B.h)(hOK:fO x)(hA:aY 2 B.h vv x.vars.length (x.vars.flatMap vrC))(hD:aY 14 B.h vd x.conds.length (x.conds.flatMap nN))
  (o:Own B [box b [p,v,iv k] 58,row v 5 1 bs.length (bytes bs),box bx (eD x z vc vn vt vf vv vd e0 e1 e2 e3 e4 e5 e6 e7 e8) 44] h) (hl:bs.length+2000*dF x<=50000000000000) (hk:0<=k/\k+2000*dF x<=50000000000000) :
  Spec Tryz.prog 78 [pv b 0,pv bx 0] h (IEnds B b bx bs k (2000*dF x) (eD (clr9 x) z vc vn vt vf aP aP e0 e1 e2 e3 e4 e5 e6 e7 e8) (part9 x)):=by
 obtain⟨bkind,bname,btable,battr,bcols,bnames,bby,bn,bm,bterms,both,boat,bfixed,bvars,bconds,bexpr,lcols,lnames,lterms,lfixed,lvars,lconds⟩:=hOK
 have hsz:dF x=1+x.cols.length+x.names.length+x.terms.length+x.fixed.length+x.vars.length+x.conds.length+fD x.expr:=rfl;unfold eD at o
 obtain⟨ya,yc,rfl⟩:=hA.isS
 obtain⟨yd,ye,rfl⟩:=hD.isS
 refine eN Tryz.func78 Tryz.ntmps78 ?_;by_cases h0:x.vars=[]
 case pos =>
  have hlen0:¬ ((0:Int)<(x.vars.length:Int)):=by rw[h0];simp
  refine cB ?_;refine fB aA ?_;refine oB o 2 lK ?_;refine lB jW ?_;refine aDc (B:=B) zA (aH _ _) (λe1 m2 _ oq=>absurd (of_decide_eq_true e1) hlen0) λe1 m2 oq=>?_
  exact⟨by show aO [eO (λ_=>lI) [] x.vars,lW x.conds]=none;rw[h0];rfl,rfl,oq⟩
 have hRe:part9 x=aO [dD (eK λ_=>lI) x.vars,lW x.conds]:=by unfold part9;rw[pL _ _ h0]
 have hpos:0<x.vars.length:=List.length_pos_iff.2 h0;refine cB ?_;refine fB aA ?_;refine oB o 2 lK ?_;refine lB jW ?_;refine aDc (B:=B) zA (aH _ _) (λe1 m2 oc oq=>?_) λe1 m2 oq=>absurd (of_decide_eq_false e1) zO;clear oc o e1;refine cB ?_;refine fB aA ?_;refine oB oq 2 lK ?_;refine lB jW ?_;refine aDT [4,5,18,19,20,21,22,23,24,25,26,27,28,29,30,31,32,33,34,35,36,37,38,39,40,41,42,43] [18] (λvs' hh=>∃(i:Nat) (p' v':Value) (bs':aBs) (k':Int) (ps:List Pc),i<=x.vars.length/\vs'=[.int .i64 i]/\dI b p'/\dD (eK λ_=>lI) (x.vars.take i)=some ps/\bs'=bs++bX ps/\k'=k+ps.length/\bs'.length<=bs.length+1000*i/\k'<=k+1000*i/\Own B [box b [p',v',.int .i64 k'] 58,row v' 5 1 bs'.length (bytes bs'),box bx [.int .i64 x.kind,.string ⟨⟨x.name⟩⟩,.int .i64 z,.string ⟨⟨x.table⟩⟩,.string ⟨⟨x.attr⟩⟩,vc,vn,.int .i64 x.by_,.int .i64 x.n,.int .i64 x.m,vt,.string ⟨⟨x.other⟩⟩,.string ⟨⟨x.oattr⟩⟩,vf,.slice ya x.vars.length yc,.slice yd x.conds.length ye,e0,e1,e2,e3,e4,e5,e6,e7,e8] 44] hh) (λvs' _=>match vs' with|[.int _ i]=>x.vars.length - i.toNat|_=>0) ?_ ?_
 ·exact⟨0,p,v,bs,k,[],by omega,rfl,hp,rfl,by simp[bX],by simp,by omega,by omega,o_ [0,1,2]⟩
 rintro vs' junk hh ⟨i,p',v',bs',k',ps,hi,rfl,hp',hQ,hb',hk',hl',hkb,oh⟩;have hkge:k<=k':=by omega
 by_cases hlt:i<x.vars.length
 ·obtain⟨el,hel⟩:=getx hlt
  have hOKel:=bvars el (aDY hel);have hm:1000*i+1000<=1000*x.vars.length:=by omega
  obtain⟨hn1,hn2⟩:=hOKel
  by_cases h0i:i=0
  ·have hone:eK (λ_=>lI) i el=aO [bN [32] el.table,bN [32] el.name]:=by unfold eK;rw[if_pos h0i];rfl
   refine bB λc160=>rR (aDe jW kT (hA.ext oh.ext) rfl zO zO ?_);refine rR (aDg kT (hA.ext oh.ext) (λ_=>rfl) zD rfl zA ?_);refine aDH oh kT λb163 m163 o163=>?_;(refine sA o163 3 kT ?_;intro m164 o164);refine bA λc165=>d1_ [0,1,2,3,6,7,10] [4,8] [9,11,12] [0,1,2,3,4,7,8,5,6,9,10,11,12] ?_;refine nC rfl ?_;refine fC cC ?_;refine fC aAp ?_;refine oC o164 3 aC ?_;refine fC aAp ?_;refine oC o164 3 aC ?_;refine aDc (B:=B) zA (bT el.table _ hn2) (λh1 m1 oc1 oq1=>?_) λh1 m1 oq1=>?_
   case refine_2=>exact⟨(by rw[hRe];simp only[aV hel hQ (show(eK λ_=>lI) i el=none by rw[hone];simp only[dM h1,aO,oMN,oMS]),aO,oMN,oMS]),rfl,oq1⟩
   have hnl1:=bJ h1
   refine⟨oc1.ext,?_⟩
   clear oc1;refine aDb rfl rfl w_ ?_;refine aDc (B:=B) zA (bT el.name _ hn1) (λh2 m2 oc2 oq2=>?_) λh2 m2 oq2=>?_
   case refine_2=>exact⟨(by rw[hRe];simp only[aV hel hQ (show(eK λ_=>lI) i el=none by rw[hone];simp only[aD h1,dM h2,aO,oMN,oMS]),aO,oMN,oMS]),rfl,oq2⟩
   have hnl2:=bJ h2;clear oc2;refine aDb rfl rfl w_ ?_;refine lA oq2 aB aC λb261 m261 o261=>?_;refine aM [[32]++el.table,[32]++el.name] 2 30 [2,3] (i:=4) zA rfl rfl rfl hp' rfl zO zO (by first|(simp;done)|(simp;omega)) zO zO (λp3 v3 bs3 k3 m3 hp3 hb3 hk3 hl3 oq=>?_);have o3q:=oq
   simp only[pick,lgS,lgZ]at o3q
   clear oq;refine aR ?_
   refine⟨rfl,?_⟩
   exact⟨⟨i+1,p3,v3,bs3,k3,ps++([aG [32] el.table]++([aG [32] el.name]++[])),by omega,rfl,hp3,bL hel hQ (by(first|rw[hone]|(show bM el=_;rw[hone]));simp only[aD h1,aD h2,aO,oMS]),by rw[hb3,hb'];simp[bX,gX,wr,aG,aS,cI],by rw[hk3,hk'];first|(simp;done)|(simp;omega),by omega,by omega,o_ [0,1,2]⟩,by simp;omega⟩
  ·have hone:eK (λ_=>lI) i el=(aO [bN [32] el.table,bN [32] el.name]).map (aS [] [44]::·):=by unfold eK;rw[if_neg h0i];rfl
   refine bB λc360=>rR (aDe jW kT (hA.ext oh.ext) rfl zO zO ?_);refine rR (aDg kT (hA.ext oh.ext) (λ_=>rfl) zD rfl zA ?_);refine aDH oh kT λb363 m363 o363=>?_;(refine sA o363 3 kT ?_;intro m364 o364);refine bB λc365=>cB ?_;refine fB cC ?_;refine lA o364 aB aC λb368 m368 o368=>?_;refine aM [[44]] 1 30 [2,3] (i:=4) zA rfl rfl rfl hp' rfl zO zO (by first|(simp;done)|(simp;omega)) zO zO (λp4 v4 bs4 k4 m4 hp4 hb4 hk4 hl4 oq=>?_);have o4q:=oq
   simp only[pick,lgS,lgZ]at o4q
   clear oq;refine d1_ [0,1,2,3,6,7,10] [4,8] [9,11,12] [0,1,2,3,4,7,8,5,6,9,10,11,12] ?_;refine nC rfl ?_;refine fC cC ?_;refine fC aAp ?_;refine oC o4q 3 aC ?_;refine fC aAp ?_;refine oC o4q 3 aC ?_;refine aDc (B:=B) zA (bT el.table _ hn2) (λh5 m5 oc5 oq5=>?_) λh5 m5 oq5=>?_
   case refine_2=>exact⟨(by rw[hRe];simp only[aV hel hQ (show(eK λ_=>lI) i el=none by rw[hone];simp only[dM h5,aO,oMN,oMS]),aO,oMN,oMS]),rfl,oq5⟩
   have hnl5:=bJ h5
   refine⟨oc5.ext,?_⟩
   clear oc5;refine aDb rfl rfl w_ ?_;refine aDc (B:=B) zA (bT el.name _ hn1) (λh6 m6 oc6 oq6=>?_) λh6 m6 oq6=>?_
   case refine_2=>exact⟨(by rw[hRe];simp only[aV hel hQ (show(eK λ_=>lI) i el=none by rw[hone];simp only[aD h5,dM h6,aO,oMN,oMS]),aO,oMN,oMS]),rfl,oq6⟩
   have hnl6:=bJ h6;clear oc6;refine aDb rfl rfl w_ ?_;refine lA oq6 aB aC λb511 m511 o511=>?_;refine aM [[32]++el.table,[32]++el.name] 2 30 [2,3] (i:=4) zA rfl rfl rfl hp4 rfl zO zO (by first|(simp;done)|(simp;omega)) zO zO (λp7 v7 bs7 k7 m7 hp7 hb7 hk7 hl7 oq=>?_);have o7q:=oq
   simp only[pick,lgS,lgZ]at o7q
   clear oq;refine aR ?_
   refine⟨rfl,?_⟩
   exact⟨⟨i+1,p7,v7,bs7,k7,ps++(aS [] [44]::([aG [32] el.table]++([aG [32] el.name]++[]))),by omega,rfl,hp7,bL hel hQ (by(first|rw[hone]|(show bM el=_;rw[hone]));simp only[aD h5,aD h6,aO,oMS]),by rw[hb7,hb4,hb'];simp[bX,gX,wr,aG,aS,cI],by rw[hk7,hk4,hk'];first|(simp;done)|(simp;omega),by omega,by omega,o_ [0,1,2]⟩,by simp;omega⟩
 have hQL:=fF (aEs hlt) hQ;refine bA λc610=>cB ?_;refine fB aA ?_;refine oB oh 2 kI ?_;refine WEnds.callJ [2] zA rfl rfl (λJ oj=>vT ⟨B.h,J++B.T⟩ b p' v' k' bs' x.conds _ _ hp' hT hD bconds oj zO zO) (λps8 p8 v8 bs8 k8 m8 hq8 hp8 hb8 hk8 hl8 _ hj8 oq=>?_) (λm8 hq8 oq=>?_)
 case refine_2=>exact⟨(by rw[hRe];simp only[hQL,hq8,aO,oMN,oMS]),rfl,oq⟩
 have o8q:=oq
 simp only[pick,lgS,lgZ]at o8q
 clear oq;refine cB ?_;refine fB aA ?_;(refine sB o8q 2 lK ?_;intro m662 o662);refine cB ?_;refine fB aA ?_;(refine sB o662 2 kI ?_;intro m665 o665);refine aDS rfl ?_;exact IEnds.done (ps:=ps++(ps8++[])) (by rw[hRe];simp only[hQL,hq8,aO,oMS]) (o_ [0,1,2]) hp8 (by rw[hb8,hb'];simp[bX,gX,wr,aG,aS,cI]) (by rw[hk8,hk'];first|(simp;done)|(simp;omega)) zO zO
theorem Ends.mono {P P':Value->Heap->Prop}{C C':List PanicEntry->Heap->Prop}(h1:∀ v h,P v h->P' v h)(h2:∀ c h,C c h->C' c h)(e:Ending)(h:Heap)(he:Ends P C e h):Ends P' C' e h:=by
 cases e with
 | returned v=>exact h1 v h he
 | panicked c=>exact h2 c h he
 | outgrown=>exact he
theorem aAf (B:Base)(b bx:Nat)(p v:Value)(k:Int)(bs:aBs)(x:It)(z:Int)(vc vn vt vf vv vd e0 e1 e2 e3 e4 e5 e6 e7 e8:Value)(h:Heap)(hp:dI b p)(hT:kQ B.h)(hF:iY B.h)(hOK:fO x)(hkd:1<=x.kind/\x.kind<=10)(hc:nP B.h (eD x z vc vn vt vf vv vd e0 e1 e2 e3 e4 e5 e6 e7 e8) x)(hLev:dE x.expr<=100000000000)
  (o:Own B [box b [p,v,iv k] 58,row v 5 1 bs.length (bytes bs),box bx (eD x z vc vn vt vf vv vd e0 e1 e2 e3 e4 e5 e6 e7 e8) 44] h) (hl:bs.length+2000*dF x<=40000000000000) (hk:0<=k/\k+2000*dF x<=40000000000000) :
  Spec Tryz.prog (wrN x.kind) [pv b 0,pv bx 0] h (WAny B b bx bs k (2000*dF x+60) x z):=by
 obtain⟨z2,w1,w2,w3,w4,w5,w6,f0,f1,f2,f3,f4,f5,f6,f7,f8,he,q1,q2,q3,q4,q5,q6,rx⟩:=hc
 unfold eD at he
 simp only[List.cons.injEq,and_true,true_and,Value.int.injEq]at he
 obtain⟨rfl,rfl,rfl,rfl,rfl,rfl,rfl,rfl,rfl,rfl,rfl,rfl,rfl,rfl,rfl,rfl⟩:=he
 have hN:=q2
 rw[jC]at hN
 have n5:∀ H:Heap,aY 5 H aP 0 []:=λH=>aY.nil 5 H;by_cases h1:x.kind=1
 ·have hcl:eX x=clr1 x:=by unfold eX;rw[if_pos h1]
  have hpq:eP x=part1 x:=by rw[kK,if_pos h1]
  have hwn:wrN x.kind=70:=by unfold wrN;rw[if_pos h1]
  have hzz:(if x.kind=10/\12<dE x.expr then -1 else z)=z:=if_neg (λhh=>by omega);unfold WAny
  rw[hcl,hpq,hwn,hzz]
  refine Spec.mono (aCr B b bx p v k bs x z vc vn vt vf vv vd e0 e1 e2 e3 e4 e5 e6 e7 e8 h hp hT hOK hN q1 o zO zO) (λe h' he=>Ends.mono (λr h' ⟨ps,p',v',g1,g2,g3,g4,g5,o'⟩=>⟨ps,p',v',_,_,_,_,_,_,_,_,_,_,_,_,_,_,_,g1,g2,g3,by omega,by omega,⟨_,_,_,_,_,_,_,_,_,_,_,_,_,_,_,_,rfl,(aY.nil 5 _),(aY.nil 1 _),q3,q4,q5,q6,rx⟩,o'⟩) (λ_ _ hh=>hh) e h' he)
 by_cases h2:x.kind=2
 ·have hcl:eX x=clr2 x:=by unfold eX;rw[if_neg h1,if_pos h2]
  have hpq:eP x=part2 x:=by rw[kK,if_neg h1,if_pos h2]
  have hwn:wrN x.kind=71:=by unfold wrN;rw[if_neg h1,if_pos h2]
  have hzz:(if x.kind=10/\12<dE x.expr then -1 else z)=z:=if_neg (λhh=>by omega);unfold WAny
  rw[hcl,hpq,hwn,hzz]
  refine Spec.mono (aBD B b bx p v k bs x z vc vn vt vf vv vd e0 e1 e2 e3 e4 e5 e6 e7 e8 h hp hT hOK o zO zO) (λe h' he=>Ends.mono (λr h' ⟨ps,p',v',g1,g2,g3,g4,g5,o'⟩=>⟨ps,p',v',_,_,_,_,_,_,_,_,_,_,_,_,_,_,_,g1,g2,g3,by omega,by omega,⟨_,_,_,_,_,_,_,_,_,_,_,_,_,_,_,_,rfl,q1,q2,q3,q4,q5,q6,rx⟩,o'⟩) (λ_ _ hh=>hh) e h' he)
 by_cases h3:x.kind=3
 ·have hcl:eX x=aBj x:=by unfold eX;rw[if_neg h1,if_neg h2,if_pos h3]
  have hpq:eP x=part3 x:=by rw[kK,if_neg h1,if_neg h2,if_pos h3]
  have hwn:wrN x.kind=72:=by unfold wrN;rw[if_neg h1,if_neg h2,if_pos h3]
  have hzz:(if x.kind=10/\12<dE x.expr then -1 else z)=z:=if_neg (λhh=>by omega);unfold WAny
  rw[hcl,hpq,hwn,hzz]
  refine Spec.mono (aCu B b bx p v k bs x z vc vn vt vf vv vd e0 e1 e2 e3 e4 e5 e6 e7 e8 h hp hT hOK o zO zO) (λe h' he=>Ends.mono (λr h' ⟨ps,p',v',g1,g2,g3,g4,g5,o'⟩=>⟨ps,p',v',_,_,_,_,_,_,_,_,_,_,_,_,_,_,_,g1,g2,g3,by omega,by omega,⟨_,_,_,_,_,_,_,_,_,_,_,_,_,_,_,_,rfl,q1,q2,q3,q4,q5,q6,rx⟩,o'⟩) (λ_ _ hh=>hh) e h' he)
 by_cases h4:x.kind=4
 ·have hcl:eX x=clr4 x:=by unfold eX;rw[if_neg h1,if_neg h2,if_neg h3,if_pos h4]
  have hpq:eP x=part4 x:=by rw[kK,if_neg h1,if_neg h2,if_neg h3,if_pos h4]
  have hwn:wrN x.kind=73:=by unfold wrN;rw[if_neg h1,if_neg h2,if_neg h3,if_pos h4]
  have hzz:(if x.kind=10/\12<dE x.expr then -1 else z)=z:=if_neg (λhh=>by omega);unfold WAny
  rw[hcl,hpq,hwn,hzz]
  refine Spec.mono (aCt B b bx p v k bs x z vc vn vt vf vv vd e0 e1 e2 e3 e4 e5 e6 e7 e8 h hp hT hOK q3 o zO zO) (λe h' he=>Ends.mono (λr h' ⟨ps,p',v',g1,g2,g3,g4,g5,o'⟩=>⟨ps,p',v',_,_,_,_,_,_,_,_,_,_,_,_,_,_,_,g1,g2,g3,by omega,by omega,⟨_,_,_,_,_,_,_,_,_,_,_,_,_,_,_,_,rfl,q1,q2,(aY.nil 7 _),q4,q5,q6,rx⟩,o'⟩) (λ_ _ hh=>hh) e h' he)
 by_cases h5:x.kind=5
 ·have hcl:eX x=clr5 x:=by unfold eX;rw[if_neg h1,if_neg h2,if_neg h3,if_neg h4,if_pos h5]
  have hpq:eP x=part5 x:=by rw[kK,if_neg h1,if_neg h2,if_neg h3,if_neg h4,if_pos h5]
  have hwn:wrN x.kind=74:=by unfold wrN;rw[if_neg h1,if_neg h2,if_neg h3,if_neg h4,if_pos h5]
  have hzz:(if x.kind=10/\12<dE x.expr then -1 else z)=z:=if_neg (λhh=>by omega);unfold WAny
  rw[hcl,hpq,hwn,hzz]
  refine Spec.mono (wrKeep_spec B b bx p v k bs x z vc vn vt vf vv vd e0 e1 e2 e3 e4 e5 e6 e7 e8 h hp hT hOK o zO zO) (λe h' he=>Ends.mono (λr h' ⟨ps,p',v',g1,g2,g3,g4,g5,o'⟩=>⟨ps,p',v',_,_,_,_,_,_,_,_,_,_,_,_,_,_,_,g1,g2,g3,by omega,by omega,⟨_,_,_,_,_,_,_,_,_,_,_,_,_,_,_,_,rfl,q1,q2,q3,q4,q5,q6,rx⟩,o'⟩) (λ_ _ hh=>hh) e h' he)
 by_cases h6:x.kind=6
 ·have hcl:eX x=clr6 x:=by unfold eX;rw[if_neg h1,if_neg h2,if_neg h3,if_neg h4,if_neg h5,if_pos h6]
  have hpq:eP x=part6 x:=by rw[kK,if_neg h1,if_neg h2,if_neg h3,if_neg h4,if_neg h5,if_pos h6]
  have hwn:wrN x.kind=75:=by unfold wrN;rw[if_neg h1,if_neg h2,if_neg h3,if_neg h4,if_neg h5,if_pos h6]
  have hzz:(if x.kind=10/\12<dE x.expr then -1 else z)=z:=if_neg (λhh=>by omega);unfold WAny
  rw[hcl,hpq,hwn,hzz]
  refine Spec.mono (aBC B b bx p v k bs x z vc vn vt vf vv vd e0 e1 e2 e3 e4 e5 e6 e7 e8 h hp hT hOK hN o zO zO) (λe h' he=>Ends.mono (λr h' ⟨ps,p',v',g1,g2,g3,g4,g5,o'⟩=>⟨ps,p',v',_,_,_,_,_,_,_,_,_,_,_,_,_,_,_,g1,g2,g3,by omega,by omega,⟨_,_,_,_,_,_,_,_,_,_,_,_,_,_,_,_,rfl,q1,(aY.nil 1 _),q3,q4,q5,q6,rx⟩,o'⟩) (λ_ _ hh=>hh) e h' he)
 by_cases h7:x.kind=7
 ·have hcl:eX x=clr7 x:=by unfold eX;rw[if_neg h1,if_neg h2,if_neg h3,if_neg h4,if_neg h5,if_neg h6,if_pos h7]
  have hpq:eP x=part7 x:=by rw[kK,if_neg h1,if_neg h2,if_neg h3,if_neg h4,if_neg h5,if_neg h6,if_pos h7]
  have hwn:wrN x.kind=76:=by unfold wrN;rw[if_neg h1,if_neg h2,if_neg h3,if_neg h4,if_neg h5,if_neg h6,if_pos h7]
  have hzz:(if x.kind=10/\12<dE x.expr then -1 else z)=z:=if_neg (λhh=>by omega);unfold WAny
  rw[hcl,hpq,hwn,hzz]
  refine Spec.mono (aBE B b bx p v k bs x z vc vn vt vf vv vd e0 e1 e2 e3 e4 e5 e6 e7 e8 h hp hT hOK hN q4 o zO zO) (λe h' he=>Ends.mono (λr h' ⟨ps,p',v',g1,g2,g3,g4,g5,o'⟩=>⟨ps,p',v',_,_,_,_,_,_,_,_,_,_,_,_,_,_,_,g1,g2,g3,by omega,by omega,⟨_,_,_,_,_,_,_,_,_,_,_,_,_,_,_,_,rfl,q1,(aY.nil 1 _),q3,(aY.nil 4 _),q5,q6,rx⟩,o'⟩) (λ_ _ hh=>hh) e h' he)
 by_cases h8:x.kind=8
 ·have hcl:eX x=clr8 x:=by unfold eX;rw[if_neg h1,if_neg h2,if_neg h3,if_neg h4,if_neg h5,if_neg h6,if_neg h7,if_pos h8]
  have hpq:eP x=part8 x:=by rw[kK,if_neg h1,if_neg h2,if_neg h3,if_neg h4,if_neg h5,if_neg h6,if_neg h7,if_pos h8]
  have hwn:wrN x.kind=77:=by unfold wrN;rw[if_neg h1,if_neg h2,if_neg h3,if_neg h4,if_neg h5,if_neg h6,if_neg h7,if_pos h8]
  have hzz:(if x.kind=10/\12<dE x.expr then -1 else z)=z:=if_neg (λhh=>by omega);unfold WAny
  rw[hcl,hpq,hwn,hzz]
  refine Spec.mono (aAe B b bx p v k bs x z vc vn vt vf vv vd e0 e1 e2 e3 e4 e5 e6 e7 e8 h hp hT hOK o zO zO) (λe h' he=>Ends.mono (λr h' ⟨ps,p',v',g1,g2,g3,g4,g5,o'⟩=>⟨ps,p',v',_,_,_,_,_,_,_,_,_,_,_,_,_,_,_,g1,g2,g3,by omega,by omega,⟨_,_,_,_,_,_,_,_,_,_,_,_,_,_,_,_,rfl,q1,q2,q3,q4,q5,q6,rx⟩,o'⟩) (λ_ _ hh=>hh) e h' he)
 by_cases h9:x.kind=9
 ·have hcl:eX x=clr9 x:=by unfold eX;rw[if_neg h1,if_neg h2,if_neg h3,if_neg h4,if_neg h5,if_neg h6,if_neg h7,if_neg h8,if_pos h9]
  have hpq:eP x=part9 x:=by rw[kK,if_neg h1,if_neg h2,if_neg h3,if_neg h4,if_neg h5,if_neg h6,if_neg h7,if_neg h8,if_pos h9]
  have hwn:wrN x.kind=78:=by unfold wrN;rw[if_neg h1,if_neg h2,if_neg h3,if_neg h4,if_neg h5,if_neg h6,if_neg h7,if_neg h8,if_pos h9]
  have hzz:(if x.kind=10/\12<dE x.expr then -1 else z)=z:=if_neg (λhh=>by omega);unfold WAny
  rw[hcl,hpq,hwn,hzz]
  refine Spec.mono (wrDeny_spec B b bx p v k bs x z vc vn vt vf vv vd e0 e1 e2 e3 e4 e5 e6 e7 e8 h hp hT hOK q5 q6 o zO zO) (λe h' he=>Ends.mono (λr h' ⟨ps,p',v',g1,g2,g3,g4,g5,o'⟩=>⟨ps,p',v',_,_,_,_,_,_,_,_,_,_,_,_,_,_,_,g1,g2,g3,by omega,by omega,⟨_,_,_,_,_,_,_,_,_,_,_,_,_,_,_,_,rfl,q1,q2,q3,q4,(aY.nil 2 _),(aY.nil 14 _),rx⟩,o'⟩) (λ_ _ hh=>hh) e h' he)
 have h10:x.kind=10:=by omega
 have hcl:eX x=clr10 x:=by unfold eX;rw[if_neg h1,if_neg h2,if_neg h3,if_neg h4,if_neg h5,if_neg h6,if_neg h7,if_neg h8,if_neg h9]
 have hz0:fT B.h [(iv 0),(sv []),aP,aP,aP,(sv []),(sv []),(iv 0),(iv 0)] ex0:=nK.toH (I:=iV) (H:=B.h) trivial _ _ (jT iV);have hpq:eP x=aCP x:=by rw[kK,if_neg h1,if_neg h2,if_neg h3,if_neg h4,if_neg h5,if_neg h6,if_neg h7,if_neg h8,if_neg h9]
 have hwn:wrN x.kind=79:=by unfold wrN;rw[if_neg h1,if_neg h2,if_neg h3,if_neg h4,if_neg h5,if_neg h6,if_neg h7,if_neg h8,if_neg h9]
 have hzz:(if x.kind=10/\12<dE x.expr then -1 else z)=(if 12<dE x.expr then -1 else z):=by by_cases hh:12<dE x.expr;rw[if_pos ⟨h10,hh⟩,if_pos hh];rw[if_neg (λq=>hh q.2),if_neg hh]
 unfold WAny
 rw[hcl,hpq,hwn,hzz]
 refine Spec.mono (aCs B b bx p v k bs x z vc vn vt vf vv vd e0 e1 e2 e3 e4 e5 e6 e7 e8 h hp hT hF hOK rx hLev o zO zO) (λe h' he=>Ends.mono (λr h' ⟨ps,p',v',g1,g2,g3,g4,g5,o'⟩=>⟨ps,p',v',_,_,_,_,_,_,_,_,_,_,_,_,_,_,_,g1,g2,g3,by omega,by omega,⟨_,_,_,_,_,_,_,_,_,_,_,_,_,_,_,_,rfl,q1,q2,q3,q4,q5,q6,hz0⟩,o'⟩) (λ_ _ hh=>hh) e h' he)
def LEnds (B:Base)(b:Nat)(bs:aBs)(k:Int)(c:Nat)(x:It):Ending->Heap->Prop :=
 Ends (λr h'=>∃ ps p' v',iB x=some ps/\r=.bool (jI x)/\dI b p'/\(kD ps).length<=c/\ps.length<=c/\Own B [box b [p',v',iv (k+ps.length)] 58,row v' 5 1 (bs++kD ps).length (bytes (bs++kD ps))] h')
  λq h'=>iB x=none/\q=xZ/\Own B [] h'
theorem oD (x:It):dF (eC x)=dF x:=by unfold eC;split<;>rfl
theorem pJ (x:It):eP (eC x)=eP x:=by unfold eC;split<;>rfl
theorem jR (x:It):(eC x).kind=x.kind:=by unfold eC;split<;>rfl
theorem sX (x:It):(eC x).expr=x.expr:=by unfold eC;split<;>rfl
theorem tX {x:It}(h:fO x):fO (eC x):=by
 unfold eC;split
 ·exact h
 ·obtain⟨h1,h2,h3⟩:=h
  exact⟨h1,by simp,h3⟩
theorem zN (x:It):(eX x).kind=x.kind:=by
 unfold eX
 repeat' split
 all_goals rfl
theorem aCl {x:It}(h:fO x):fO (eX x):=by
 obtain⟨bkind,bname,btable,battr,bcols,bnames,bby,bn,bm,bterms,both,boat,bfixed,bvars,bconds,bexpr,lcols,lnames,lterms,lfixed,lvars,lconds⟩:=h
 have hx0:gK ex0:=by unfold ex0;rw[gK];simp[tS]
 unfold eX
 repeat' split
 all_goals simp only[clr1,clr2,aBj,clr4,clr5,clr6,clr7,clr8,clr9,clr10]
 all_goals refine⟨by first|assumption|(simp;done),by first|assumption|(simp;done),by first|assumption|(simp;done),by first|assumption|(simp;done),by first|assumption|(simp;done),by first|assumption|(simp;done),by first|assumption|(simp;done),?_,?_,by first|assumption|(simp;done),by first|assumption|(simp;done),by first|assumption|(simp;done),by first|assumption|(simp;done),by first|assumption|(simp;done),by first|assumption|(simp;done),by first|assumption|(simp;done),by first|assumption|(simp;done),by first|assumption|(simp;done),by first|assumption|(simp;done),by first|assumption|(simp;done),by first|assumption|(simp;done),by first|assumption|(simp;done)⟩
 all_goals try dsimp only
 all_goals first|assumption|omega|(split<;>omega)
theorem aB9 (x:It):decide ((if (eC x).kind=10/\12<dE (eC x).expr then(-1:Int) else 0)=0)=jI x:=by
 rw[jR,sX]
 unfold jI
 apply decide_eq_decide.2
 by_cases h1:x.kind=10
 ·by_cases h2:12<dE x.expr
  ·rw[if_pos ⟨h1,h2⟩]
   exact⟨λh=>absurd h zD,λh=>absurd (h h1) zO⟩
  ·rw[if_neg (λh=>h2 h.2)]
   exact⟨λ_ _=>by omega,λ_=>rfl⟩
 ·rw[if_neg (λh=>h1 h.1)]
  exact⟨λ_ h=>absurd h h1,λ_=>rfl⟩
theorem LEnds.done {B:Base}{b:Nat}{bs bs':aBs}{k k':Int}{c:Nat}{x:It}{ps:List Pc}{p v r:Value}{h:Heap}(hq:iB x=some ps)(o:Own B [box b [p,v,iv k'] 58,row v 5 1 bs'.length (bytes bs')] h)(hp:dI b p)(hb:bs'=bs++kD ps)(hk:k'=k+ps.length)
  (hc:bs'.length<=bs.length+c) (hc2:k'<=k+c) (hr:r=.bool (jI x)):LEnds B b bs k c x (.returned r) h:=by
 subst hb;subst hk
 rw[aDX]at hc
 exact⟨ps,p,v,hq,hr,hp,by omega,by omega,o⟩
theorem itemQ_eq (x:It)(hkd:1<=x.kind/\x.kind<=10):iB x=if xX (eX (eC x))=true then aO [some [aG [] (cU.getD (x.kind - 1).toNat [])],(if x.kind=5 then some [] else bN [32] x.name),eP x,some [if x.kind=4 then aS [10] [125] else aS [] [59]]] else none:=by
 rw[empty_bare hkd.1 hkd.2]
 unfold iB;by_cases hc:(gY x&&(decide (x.kind=10)||lC x.expr))=true
 ·have hc2:=hc
  simp only[aD0,aEB,decide_eq_true_eq]at hc2
  rw[if_pos ⟨hkd.1,hkd.2,hc2.1,hc2.2⟩,if_pos hc]
 ·rw[if_neg hc,if_neg]
  rintro⟨_,_,h1,h2⟩
  apply hc
  rw[h1]
  rcases h2 with h2|h2<;>simp[h2]
theorem prItem_spec (B:Base)(b:Nat)(p v:Value)(k:Int)(bs:aBs)(x:It)(c:aVs)(h:Heap)(hp:dI b p)(hT:kQ B.h)(hF:iY B.h)(hOK:fO x)(hc:nP B.h c x)(hLev:dE x.expr<=100000000000)
  (o:Own B [box b [p,v,iv k] 58,row v 5 1 bs.length (bytes bs)] h) (hl:bs.length+3000*dF x<=40000000000000) (hk:0<=k/\k+3000*dF x<=40000000000000) :
  Spec Tryz.prog 19 [pv b 0,.agg ⟨c⟩] h (LEnds B b bs k (3000*dF x) x):=by
 obtain⟨z,vc,vn,vt,vf,vv,vd,e0,e1,e2,e3,e4,e5,e6,e7,e8,rfl,q1,q2,q3,q4,q5,q6,rx⟩:=hc
 have hOK2:=hOK
 obtain⟨bkind,bname,btable,battr,bcols,bnames,bby,bn,bm,bterms,both,boat,bfixed,bvars,bconds,bexpr,lcols,lnames,lterms,lfixed,lvars,lconds⟩:=hOK
 have hsz:dF x=1+x.cols.length+x.names.length+x.terms.length+x.fixed.length+x.vars.length+x.conds.length+fD x.expr:=rfl;unfold eD;refine eN Tryz.func19 Tryz.ntmps19 ?_;by_cases hkd:1<=x.kind/\x.kind<=10
 case neg =>
  have hq:iB x=none:=by unfold iB;rw[if_neg (λh=>hkd ⟨h.1,h.2.1⟩)]
  by_cases h1:1<=x.kind
  ·refine xB o λb10 m10 o10=>?_
   refine fB aA ?_;refine oB o10 2 aK ?_;refine bB λc13=>fB aA ?_;refine oB o10 2 aK ?_;refine aDc (B:=B) zA (aH _ _) (λg1 m2 _ oq=>absurd (of_decide_eq_true g1) zO) λg1 m2 oq=>?_
   exact⟨hq,rfl,oq⟩
  ·refine xB o λb30 m30 o30=>?_
   refine fB aA ?_;refine oB o30 2 aK ?_;refine bA λc33=>aDc (B:=B) zA (aH _ _) (λg1 m2 _ oq=>by cases g1) λg1 m2 oq=>?_
   exact⟨hq,rfl,oq⟩
 have hiq:=itemQ_eq x hkd;refine xB o λb50 m50 o50=>?_;refine fB aA ?_;refine oB o50 2 aK ?_;refine bB λc53=>fB aA ?_;refine oB o50 2 aK ?_;refine aDc (B:=B) zA (aH _ _) (λg1 m2 oc oq=>?_) λg1 m2 oq=>absurd (of_decide_eq_false g1) zO;clear oc;refine d1_ [0,1,2,3,7] [4] [6,8,9] [0,1,2,3,4,5,6,7,8,9] ?_;refine nC rfl ?_;refine fC cC ?_;refine fC aA ?_;refine oC oq 2 aK ?_;refine lA (Own.refl _) aB aC λb74 m74 o74=>?_;(refine aI o74.ext ?_;have o75:=Own.call oq o74;simp only[lcA,lnA]at o75;clear o74);refine aDc (B:=B) zA (eS x.kind cU _ _ zO zO (Own.boxArr zA 3 rfl rfl zD) zD zD) (λg2 m3 oc oq=>?_) λg2 m3 oq=>absurd (of_decide_eq_false g2) (by show ¬ ¬ (1<=x.kind/\x.kind<=10);omega);have hwl:=lS (ws:=cU) (M:=10) zD (x.kind - 1).toNat;generalize hwd:cU.getD (x.kind - 1).toNat []=wd at hwl hiq;clear oc;refine aDx cE rfl ⟨_,rfl⟩ rfl zO (by show(1:Int)<=((32::wd).length:Int);simp only[aD1];omega) zO ?_;refine lA oq aB aC λb91 m91 o91=>?_
 rw[show List.drop (1:Int).toNat (List.take (((32::wd).length:Nat):Int).toNat (32::wd))=wd by simp]at *
 refine aM [wd] 1 30 [2] (i:=4) zA rfl rfl rfl hp rfl zO zO v_ zO zO (λp1 v1 bs1 k1 m1 hp1 hb1 hk1 hl1 oq=>?_);have o1:Own B [box b [p1,v1,iv k1] 58,row v1 5 1 bs1.length (bytes bs1),box b50 [iv x.kind,sv x.name,iv z,sv x.table,sv x.attr,vc,vn,iv x.by_,iv x.n,iv x.m,vt,sv x.other,sv x.oattr,vf,vv,vd,e0,e1,e2,e3,e4,e5,e6,e7,e8] 44] m1:=oq;clear oq;have hF2:∀ nm,(x.kind=5->nm=x.name)->(x.kind≠5->nm=[])->nP B.h (eD (eC x) 0 vc vn vt vf vv vd e0 e1 e2 e3 e4 e5 e6 e7 e8) (eC x)/\eD (eC x) 0 vc vn vt vf vv vd e0 e1 e2 e3 e4 e5 e6 e7 e8=[iv x.kind,sv nm,iv 0,sv x.table,sv x.attr,vc,vn,iv x.by_,iv x.n,iv x.m,vt,sv x.other,sv x.oattr,vf,vv,vd,e0,e1,e2,e3,e4,e5,e6,e7,e8]:=by
  intro nm h5 hn5
  refine⟨⟨0,_,_,_,_,_,_,_,_,_,_,_,_,_,_,_,rfl,?_⟩,?_⟩
  ·unfold eC
   split<;>exact⟨q1,q2,q3,q4,q5,q6,rx⟩
  ·unfold eC
   split
   ·rename_i h;rw[h5 h];rfl
   ·rename_i h;rw[hn5 h];rfl
 have fin:∀(nm:aBs) (p2 v2:Value) (bs2:aBs) (k2:Int) (ps2:List Pc) (m2:Heap),(if x.kind=5 then some [] else bN [32] x.name)=some ps2->True:=λ_ _ _ _ _ _ _ _=>trivial;clear fin;by_cases h5:x.kind=5
 ·obtain⟨hcN,hcE⟩:=hF2 x.name (λ_=>rfl) (λh=>absurd h5 h)
  refine fB aA ?_;(refine sB o1 2 aK ?_;intro m201 o201);refine fB aA ?_;refine oB o201 2 aK ?_;refine bC λc204=>d1_ [1,3,4] [2] [5] [1,2,4,0,3,5] ?_;refine fC aA ?_;refine oC o201 2 aK ?_;refine aDN (vG _) ?_;rintro _ m6 ⟨rfl,oc⟩;have o4:=oc.thenE (B:=B) zA
  refine⟨oc.ext,?_⟩
  clear oc;have hwA:=wrN_at hkd.1 hkd.2;refine indexA arr80 rfl rfl zO zO (by first|rfl|assumption) ?_;have o5:Own B [box b [p1,v1,iv k1] 58,row v1 5 1 bs1.length (bytes bs1),box b50 (eD (eC x) 0 vc vn vt vf vv vd e0 e1 e2 e3 e4 e5 e6 e7 e8) 44] m6:=by rw[hcE];exact o4
  have hsp:=aAf B b b50 p1 v1 k1 bs1 (eC x) 0 vc vn vt vf vv vd e0 e1 e2 e3 e4 e5 e6 e7 e8 m6 hp1 hT hF (tX hOK2) (by rw[jR];exact hkd) hcN (by rw[sX];exact hLev) o5 (by rw[oD];omega) (by rw[oD];omega)
  rw[jR,oD]at hsp
  unfold WAny at hsp;refine aDO hsp (λ_ m7 ⟨ps4,p4,v4,uc,un,ut,uf,uv,ud,f0,f1,f2,f3,f4,f5,f6,f7,f8,hq4,hr4,hp4,hl4,hl4',hI,o6⟩=>?_) (λ_ m7 ⟨hq4,hr4,o6⟩=>?_)
  case refine_2 =>
   subst hr4
   rw[pJ]at hq4
   exact⟨hiq.trans (by split;simp only[if_pos h5,hq4,aO,oMN,oMS];rfl),rfl,o6⟩
  subst hr4
  rw[pJ]at hq4
  have hyk:=zN (eC x)
  rw[jR]at hyk
  have hyok:=aCl (tX hOK2);have hfz:decide ((if (eC x).kind=10/\12<dE (eC x).expr then(-1:Int) else 0)=0)=jI x:=aB9 x;generalize (if (eC x).kind=10/\12<dE (eC x).expr then(-1:Int) else 0)=z' at o6 hI hfz;generalize eX (eC x)=y at o6 hI hyk hyok hiq;have hpl:(bs1++bX ps4).length=bs1.length+(bX ps4).length:=aDX;generalize hb4:bs1++bX ps4=bs4 at o6 hpl;have hk4:k1+(ps4.length:Int)=k1+ps4.length:=rfl;generalize hkk4:k1+(ps4.length:Int)=k4 at o6;unfold eD at o6 hI;clear o4 o5 hsp;refine nB o6 2 bU ?_;refine aDN (vU y _ _ hyok (hI.ext (Own.ext (B:=B) o6))) ?_;rintro _ m8 ⟨rfl,oc⟩;have o7:=oc.thenE (B:=B) o6;clear oc o6;refine aDc (B:=B) zA (aH _ _) (λg9 m9 oc oq=>?_) λg9 m9 oq=>?_
  case refine_2=>exact⟨hiq.trans (if_neg (by rw[g9];decide)),rfl,oq⟩
  rw[if_pos g9]at hiq
  clear oc o7;by_cases h4:x.kind=4
  ·skip
   refine fB aA ?_;refine oB oq 2 aK ?_;refine bB λc482=>cB ?_;refine fB cC ?_;refine lA oq aB aC λb485 m485 o485=>?_;refine aM [[10,125]] 1 30 [2] (i:=3) zA rfl rfl rfl hp4 rfl zO zO zS zO zO (λp6 v6 bs6 k6 m10 hp6 hb6 hk6 hl6 oz=>?_);have o8:=oz
   simp only[pick,lgS,lgZ]at o8
   clear oz;refine cB ?_;refine fB cC ?_;refine fB aAq ?_;refine aDN (qO b p6 v6 k6 bs6 10 _ _ hp6 (o8.lend [0,1] [2] rfl) zO) ?_;rintro _ m11 ⟨rfl,v7,o9⟩;have o10:=o9.back
   simp only[pick,wSt,lcA,lnA,lgS,lgZ]at o10
   clear o8 o9;refine fB aA ?_;refine oB o10 2 aK ?_;refine rO ?_;have hq:=hiq.trans (show _=some ([aG [] wd]++([]++(ps4++([aS [10] [125]]++[])))) by rw[if_pos h4];simp only[if_pos h5,hq4,aO,oMS]);have hbt:bs6++[10]=bs++kD ([aG [] wd]++([]++(ps4++([aS [10] [125]]++[])))):=by rw[hb6,← hb4,hb1];simp[kD,bX,gX,wr,aG,aS]
   have hkt:k6=k+(([aG [] wd]++([]++(ps4++([aS [10] [125]]++[]))):List Pc).length:Int):=by rw[hk6,← hkk4,hk1];first|(simp;done)|(simp;omega)
   exact LEnds.done hq (o_ [0,1]) (.inr rfl) hbt hkt (by simp only[aDX,aD1,aD2];omega) zO (congrArg Value.bool hfz)
  ·skip
   refine fB aA ?_;refine oB oq 2 aK ?_;refine bA λc542=>cB ?_;refine fB cC ?_;refine lA oq aB aC λb545 m545 o545=>?_;refine aM [[59]] 1 30 [2] (i:=3) zA rfl rfl rfl hp4 rfl zO zO zS zO zO (λp6 v6 bs6 k6 m10 hp6 hb6 hk6 hl6 oz=>?_);have o8:=oz
   simp only[pick,lgS,lgZ]at o8
   clear oz;refine cB ?_;refine fB cC ?_;refine fB aAq ?_;refine aDN (qO b p6 v6 k6 bs6 10 _ _ hp6 (o8.lend [0,1] [2] rfl) zO) ?_;rintro _ m11 ⟨rfl,v7,o9⟩;have o10:=o9.back
   simp only[pick,wSt,lcA,lnA,lgS,lgZ]at o10
   clear o8 o9;refine fB aA ?_;refine oB o10 2 aK ?_;refine rO ?_;have hq:=hiq.trans (show _=some ([aG [] wd]++([]++(ps4++([aS [] [59]]++[])))) by rw[if_neg h4];simp only[if_pos h5,hq4,aO,oMS]);have hbt:bs6++[10]=bs++kD ([aG [] wd]++([]++(ps4++([aS [] [59]]++[])))):=by rw[hb6,← hb4,hb1];simp[kD,bX,gX,wr,aG,aS]
   have hkt:k6=k+(([aG [] wd]++([]++(ps4++([aS [] [59]]++[]))):List Pc).length:Int):=by rw[hk6,← hkk4,hk1];first|(simp;done)|(simp;omega)
   exact LEnds.done hq (o_ [0,1]) (.inr rfl) hbt hkt (by simp only[aDX,aD1,aD2];omega) zO (congrArg Value.bool hfz)
 ·obtain⟨hcN,hcE⟩:=hF2 [] (λh=>absurd h h5) (λ_=>rfl)
  refine fB aA ?_;(refine sB o1 2 aK ?_;intro m301 o301);refine fB aA ?_;refine oB o301 2 aK ?_;refine bD λc304=>d1_ [0,1,2,3,6] [4] [5,7,8] [0,1,2,3,4,5,6,7,8] ?_;refine nC rfl ?_;refine fC cC ?_;refine fC aA ?_;refine oC o301 2 aC ?_;refine aDc (B:=B) zA (bT x.name _ bname) (λg3 m4 oc oq=>?_) λg3 m4 oq=>?_
  case refine_2 =>
   have hn:=dM (b:=[32]) g3
   exact⟨hiq.trans (by split;simp only[if_neg h5,hn,aO,oMN];rfl),rfl,oq⟩
  have hnl:=bJ g3;clear oc;refine aDb rfl rfl w_ ?_;refine lA oq aB aC λb331 m331 o331=>?_;refine aM [[32]++x.name] 1 30 [2] (i:=3) zA rfl rfl rfl hp1 rfl zO zO v_ zO zO (λp3 v3 bs3 k3 m5 hp3 hb3 hk3 hl3 oq=>?_);have o3:=oq
  simp only[pick,lgS,lgZ]at o3
  clear oq;refine fB aA ?_;(refine sB o3 2 aC ?_;intro m361 o361);refine d1_ [1,3,4] [2] [5] [1,2,4,0,3,5] ?_;refine fC aA ?_;refine oC o361 2 aK ?_;refine aDN (vG _) ?_;rintro _ m6 ⟨rfl,oc⟩;have o4:=oc.thenE (B:=B) zA
  refine⟨oc.ext,?_⟩
  clear oc;have hwA:=wrN_at hkd.1 hkd.2;refine indexA arr80 rfl rfl zO zO (by first|rfl|assumption) ?_;have o5:Own B [box b [p3,v3,iv k3] 58,row v3 5 1 bs3.length (bytes bs3),box b50 (eD (eC x) 0 vc vn vt vf vv vd e0 e1 e2 e3 e4 e5 e6 e7 e8) 44] m6:=by rw[hcE];exact o4
  have hsp:=aAf B b b50 p3 v3 k3 bs3 (eC x) 0 vc vn vt vf vv vd e0 e1 e2 e3 e4 e5 e6 e7 e8 m6 hp3 hT hF (tX hOK2) (by rw[jR];exact hkd) hcN (by rw[sX];exact hLev) o5 (by rw[oD];omega) (by rw[oD];omega)
  rw[jR,oD]at hsp
  unfold WAny at hsp;refine aDO hsp (λ_ m7 ⟨ps4,p4,v4,uc,un,ut,uf,uv,ud,f0,f1,f2,f3,f4,f5,f6,f7,f8,hq4,hr4,hp4,hl4,hl4',hI,o6⟩=>?_) (λ_ m7 ⟨hq4,hr4,o6⟩=>?_)
  case refine_2 =>
   subst hr4
   rw[pJ]at hq4
   exact⟨hiq.trans (by split;simp only[if_neg h5,aD g3,hq4,aO,oMN,oMS];rfl),rfl,o6⟩
  subst hr4
  rw[pJ]at hq4
  have hyk:=zN (eC x)
  rw[jR]at hyk
  have hyok:=aCl (tX hOK2);have hfz:decide ((if (eC x).kind=10/\12<dE (eC x).expr then(-1:Int) else 0)=0)=jI x:=aB9 x;generalize (if (eC x).kind=10/\12<dE (eC x).expr then(-1:Int) else 0)=z' at o6 hI hfz;generalize eX (eC x)=y at o6 hI hyk hyok hiq;have hpl:(bs3++bX ps4).length=bs3.length+(bX ps4).length:=aDX;generalize hb4:bs3++bX ps4=bs4 at o6 hpl;have hk4:k3+(ps4.length:Int)=k3+ps4.length:=rfl;generalize hkk4:k3+(ps4.length:Int)=k4 at o6;unfold eD at o6 hI;clear o4 o5 hsp;refine nB o6 2 bU ?_;refine aDN (vU y _ _ hyok (hI.ext (Own.ext (B:=B) o6))) ?_;rintro _ m8 ⟨rfl,oc⟩;have o7:=oc.thenE (B:=B) o6;clear oc o6;refine aDc (B:=B) zA (aH _ _) (λg9 m9 oc oq=>?_) λg9 m9 oq=>?_
  case refine_2=>exact⟨hiq.trans (if_neg (by rw[g9];decide)),rfl,oq⟩
  rw[if_pos g9]at hiq
  clear oc o7;by_cases h4:x.kind=4
  ·skip
   refine fB aA ?_;refine oB oq 2 aK ?_;refine bB λc782=>cB ?_;refine fB cC ?_;refine lA oq aB aC λb785 m785 o785=>?_;refine aM [[10,125]] 1 30 [2] (i:=3) zA rfl rfl rfl hp4 rfl zO zO zS zO zO (λp6 v6 bs6 k6 m10 hp6 hb6 hk6 hl6 oz=>?_);have o8:=oz
   simp only[pick,lgS,lgZ]at o8
   clear oz;refine cB ?_;refine fB cC ?_;refine fB aAq ?_;refine aDN (qO b p6 v6 k6 bs6 10 _ _ hp6 (o8.lend [0,1] [2] rfl) zO) ?_;rintro _ m11 ⟨rfl,v7,o9⟩;have o10:=o9.back
   simp only[pick,wSt,lcA,lnA,lgS,lgZ]at o10
   clear o8 o9;refine fB aA ?_;refine oB o10 2 aK ?_;refine rO ?_;have hq:=hiq.trans (show _=some ([aG [] wd]++([aG [32] x.name]++(ps4++([aS [10] [125]]++[])))) by rw[if_pos h4];simp only[if_neg h5,aD g3,hq4,aO,oMS]);have hbt:bs6++[10]=bs++kD ([aG [] wd]++([aG [32] x.name]++(ps4++([aS [10] [125]]++[])))):=by rw[hb6,← hb4,hb3,hb1];simp[kD,bX,gX,wr,aG,aS]
   have hkt:k6=k+(([aG [] wd]++([aG [32] x.name]++(ps4++([aS [10] [125]]++[]))):List Pc).length:Int):=by rw[hk6,← hkk4,hk3,hk1];first|(simp;done)|(simp;omega)
   exact LEnds.done hq (o_ [0,1]) (.inr rfl) hbt hkt (by simp only[aDX,aD1,aD2];omega) zO (congrArg Value.bool hfz)
  ·skip
   refine fB aA ?_;refine oB oq 2 aK ?_;refine bA λc842=>cB ?_;refine fB cC ?_;refine lA oq aB aC λb845 m845 o845=>?_;refine aM [[59]] 1 30 [2] (i:=3) zA rfl rfl rfl hp4 rfl zO zO zS zO zO (λp6 v6 bs6 k6 m10 hp6 hb6 hk6 hl6 oz=>?_);have o8:=oz
   simp only[pick,lgS,lgZ]at o8
   clear oz;refine cB ?_;refine fB cC ?_;refine fB aAq ?_;refine aDN (qO b p6 v6 k6 bs6 10 _ _ hp6 (o8.lend [0,1] [2] rfl) zO) ?_;rintro _ m11 ⟨rfl,v7,o9⟩;have o10:=o9.back
   simp only[pick,wSt,lcA,lnA,lgS,lgZ]at o10
   clear o8 o9;refine fB aA ?_;refine oB o10 2 aK ?_;refine rO ?_;have hq:=hiq.trans (show _=some ([aG [] wd]++([aG [32] x.name]++(ps4++([aS [] [59]]++[])))) by rw[if_neg h4];simp only[if_neg h5,aD g3,hq4,aO,oMS]);have hbt:bs6++[10]=bs++kD ([aG [] wd]++([aG [32] x.name]++(ps4++([aS [] [59]]++[])))):=by rw[hb6,← hb4,hb3,hb1];simp[kD,bX,gX,wr,aG,aS]
   have hkt:k6=k+(([aG [] wd]++([aG [32] x.name]++(ps4++([aS [] [59]]++[]))):List Pc).length:Int):=by rw[hk6,← hkk4,hk3,hk1];first|(simp;done)|(simp;omega)
   exact LEnds.done hq (o_ [0,1]) (.inr rfl) hbt hkt (by simp only[aDX,aD1,aD2];omega) zO (congrArg Value.bool hfz)
end Go.Proofs.YtohlogbnpfofpaaGreatDoor
