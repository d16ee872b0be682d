/- Part 9 of the proof of matches_lifted: FnXg2, FnXg3, FnXg7, FnXg8, FnXg, FnXm, FnXq0, FnH1, FnH2. -/
import Derived.Test.YtohlogbnpfofpaaGreatDoorPX08
set_option linter.all false
set_option maxHeartbeats 100000000
set_option maxRecDepth 100000
namespace Go.Proofs.YtohlogbnpfofpaaGreatDoor
open Go StillVC
theorem prExpr_c2 (b n:Nat)(hIH:aBA b n)(kd:Int)(tb:aBs)(ks:List Ex)(cs:List Cnd)(ns:List aBs)(a s:aBs)(g:Int)(off:Nat)(hcls:kd=2)(B:Base)(c:aVs)(be:aBs)(lev:Int)(p v:Value)(k:Int)(bs:aBs)(h:Heap)(hd:eL (.mk kd tb ks cs ns a s g off)<=n+1)(hOK:gK (.mk kd tb ks cs ns a s g off))(hc:fT B.h c (.mk kd tb ks cs ns a s g off))(hp:dI b p)(hbe:be=[]∨be=[32])(hlev:0<=lev/\lev+dE (.mk kd tb ks cs ns a s g off)<=1000000000000)(hT:kQ B.h)(hF:iY B.h)
  (o:Own B [box b [p,v,iv k] 58,row v 5 1 bs.length (bytes bs)] h) (hl:bs.length+2000*fD (.mk kd tb ks cs ns a s g off)<=50000000000000) (hk:0<=k/\k+2000*fD (.mk kd tb ks cs ns a s g off)<=50000000000000) :
  Spec Tryz.prog 128 [pv b 0,sv be,.agg ⟨c⟩,iv lev] h (XEnds B b bs k (2000*fD (.mk kd tb ks cs ns a s g off)) (gP be (.mk kd tb ks cs ns a s g off)) (lev+dE (.mk kd tb ks cs ns a s g off) - 1)):=by
  rw[eL]at hd
  rw[gK]at hOK
  rw[fT]at hc
  rw[fD]at hl hk ⊢
  rw[dE]at hlev ⊢
  rw[show lev+((dK ks+1:Nat):Int) - 1=lev+dK ks by omega]
  obtain⟨bk,btb,bks,bcs,bns,ba,bs_,bg,lk,lc,ln⟩:=hOK
  obtain⟨vk,vc,vn,z,rfl,q1,q2,xs,q3,rk⟩:=hc
  rw[jC]at q2
  obtain⟨e1,f1,rfl⟩:=q1.isS
  obtain⟨e2,f2,rfl⟩:=q2.isS
  obtain⟨e3,f3,rfl⟩:=q3.isS
  unfold kG;have hxs:xs.length=ks.length:=lU rk;have hbel:be.length<=1:=by rcases hbe with rfl|rfl<;>simp
  refine eN Tryz.func128 Tryz.ntmps128 ?_;by_cases hkd:1<=kd/\kd<=8
  case neg =>
   exact(by omega:False).elim
  have hfa:=qM hF kd hkd.1 hkd.2;have hf1:=hfa.1;refine xB o λb50 m50 o50=>?_;refine d1_ [0,2,3,4,6,7,8,9,11,12,14,15,17,18] [1,5,10,13,16] [19] [0,1,2,3,4,5,6,7,8,9,10,11,12,13,14,15,16,17,18,19] ?_;refine fC aE ?_;refine oC o50 2 aK ?_;refine bB λc53=>fC aE ?_;refine oC o50 2 aK ?_;refine bB λc56=>fC aE ?_;refine oC o50 2 cR ?_;refine aDz rfl cH ?_;refine fC aE ?_;refine oC o50 2 aK ?_;refine aDo Tryz.underlying195 rQ rfl rfl zO zO ?_;refine fC sE ?_;refine load1 aK rfl (o50.old hf1) ?_;refine aDc zA (aH _ _) (λe1 m2 oc oq=>?_) λe1 m2 oq=>?_
  case refine_2 =>
   have e1:=of_decide_eq_false e1;have hq:gP be (.mk kd tb ks cs ns a s g off)=none:=by rw[gP,if_neg (λh=>e1 (by rw[h.2.2.1]))]
   exact⟨hq,rfl,oq⟩
  have hkl:ks.length=fW kd:=by have:=of_decide_eq_true e1;omega
  clear e1 oc;by_cases hkone:kd=1
  ·exact(by omega:False).elim
  ·have hexQ:gP be (.mk kd tb ks cs ns a s g off)=if gJ kd tb cs ns a s g=true then aO [some [aG be (dV.getD (kd - 2).toNat []),aS [] [40]],dD (eK gP) ks,eW kd cs ns a s g,some [aS [] [41]]] else none:=by
    rw[gP]
    by_cases hb:gJ kd tb cs ns a s g=true
    ·rw[if_pos ⟨hkd.1,hkd.2,hkl,hb⟩,if_neg hkone,if_pos hb,oX]
    ·rw[if_neg (λh=>hb h.2.2.2),if_neg hb]
   have hf2:=hfa.2 hkone;have hol:=aAO (kd - 2).toNat;generalize dV.getD (kd - 2).toNat []=opw at hexQ hf2 hol;clear hfa;refine nB oq 2 aQ ?_;refine aDH oq aQ λb201 m201 o201=>?_;(refine sA o201 3 aQ ?_;intro m202 o202);refine fB aE ?_;(refine sB o202 3 aK ?_;intro m204 o204);refine fB aE ?_;(refine sB o204 3 cR ?_;intro m206 o206);refine fB aE ?_;(refine sB o206 3 aK ?_;intro m208 o208);refine fB aE ?_;refine oB o208 2 aK ?_;refine bA λc211=>d1_ [0,1,2,3,4,6,7,9] [5,8] [10,11] [0,1,2,3,4,5,6,7,8,9,10,11] ?_;refine nC rfl ?_;refine fC cC ?_;refine fC aE ?_;refine oC o208 2 aK ?_;refine aDo Tryz.underlying195 rQ rfl rfl zO zO ?_;refine fC sE ?_;refine load1 aC rfl (o208.old hf2) ?_;refine aDb rfl rfl w_ ?_;refine lA o208 aB aC λb220 m220 o220=>?_;refine aM [be++opw,[40]] 2 30 [2,3] (i:=4) zA rfl rfl rfl hp rfl zO zO v_ zO zO (λp1 v1 bs1 k1 m1 hp1 hb1 hk1 hl1 oq=>?_);have o4:Own B [box b [p1,v1,.int .i64 k1] 58,row v1 5 1 bs1.length (bytes bs1),box b50 [.int .i64 kd,.string ⟨⟨tb⟩⟩,.slice e3 ks.length f3,.slice e1 cs.length f1,.slice e2 ns.length f2,.string ⟨⟨a⟩⟩,.string ⟨⟨s⟩⟩,.int .i64 g,.int .i64 z] 42,box b201 [.int .i64 0,.string ⟨⟨tb⟩⟩,.slice none 0 0,.slice e1 cs.length f1,.slice e2 ns.length f2,.string ⟨⟨a⟩⟩,.string ⟨⟨s⟩⟩,.int .i64 g,.int .i64 0] 42] m1:=oq;clear oq;refine fB aE ?_;refine oB o4 2 cR ?_;refine lB cH ?_;refine aDT [10,11,12,67,68,69,70,71,72,73,74,75,76,77,78,79,80,81,82,83,84,85,86,87,88,89,90] [10,67] (λvs' hh=>∃(i:Nat) (p' v':Value) (bs':aBs) (k':Int) (ps:List Pc),i<=ks.length/\vs'=[.int .i64 (lev+dK (ks.take i)),.int .i64 i]/\dI b p'/\dD (eK gP) (ks.take i)=some ps/\bs'=bs1++bX ps/\k'=k1+ps.length/\bs'.length<=bs1.length+(2000*gI (ks.take i)+30*i)/\k'<=k1+(2000*gI (ks.take i)+30*i)/\Own B [box b [p',v',.int .i64 k'] 58,row v' 5 1 bs'.length (bytes bs'),box b50 [.int .i64 kd,.string ⟨⟨tb⟩⟩,.slice e3 ks.length f3,.slice e1 cs.length f1,.slice e2 ns.length f2,.string ⟨⟨a⟩⟩,.string ⟨⟨s⟩⟩,.int .i64 g,.int .i64 z] 42,box b201 [.int .i64 0,.string ⟨⟨tb⟩⟩,.slice none 0 0,.slice e1 cs.length f1,.slice e2 ns.length f2,.string ⟨⟨a⟩⟩,.string ⟨⟨s⟩⟩,.int .i64 g,.int .i64 0] 42] hh) (λvs' _=>match vs' with|[_,.int _ i]=>ks.length - i.toNat|_=>0) ?_ ?_
   ·exact⟨0,p1,v1,bs1,k1,[],by omega,by simp[dK],hp1,rfl,by simp[bX],by simp,by omega,by omega,o4⟩
   rintro vs' junk hh ⟨i,p',v',bs',k',ps,hi,rfl,hp',hQ,hb',hk',hl',hk2,oh⟩;clear o4;have hk2s:ks.length<=2:=by rw[hkl];unfold fW;split<;>(try split)<;>omega
   have hszl:=fJ ks i;by_cases hlt:i<ks.length
   ·obtain⟨kx,hkx⟩:=getx hlt
    obtain⟨cx,hcx,hrx⟩:=iC rk hkx
    have hdx:=fX hkx;have hsz:=mO hkx;have hszl2:=fJ ks (i+1);have hlv:=lG hkx;have hlvl:dE kx<=dK ks:=mP hkx;have hlp:=qN kx;have hxOK:=gG bks hkx;have hrx2:=hrx
    obtain⟨cxv,hcl⟩:=cx
    obtain⟨xk,xt,xks,xcs,xns,xa,xs_,xg,xo⟩:=kx
    rw[fT]at hrx2
    obtain⟨wk,wc,wn,wz,hcv,g1,g2,gx,g3,_⟩:=hrx2
    obtain⟨h1,h2,rfl⟩:=g1.isS
    obtain⟨h3,h4,rfl⟩:=g2.isS
    obtain⟨h5,h6,rfl⟩:=g3.isS
    dsimp only at hcv hrx;subst hcv;unfold kG at hcx hrx hcl;clear g1 g2 g3;by_cases h0:i=0
    ·subst h0
     refine bB λc400=>rR (aDe cH aQ (q3.ext oh.ext) rfl zO zO ?_);refine rR (aDg aQ (q3.ext oh.ext) (λy:dG=>y.2) zD rfl zA ?_);refine aDH oh aQ λb403 m403 o403=>?_;(refine sA o403 4 aQ ?_;intro m404 o404);refine aDL (d1_ [0,1,3,4,7,8,10,11] [5,6] [9] [0,1,3,6,7,8,2,4,5,9,10,11] ?_);refine aDr o404 4 rfl aQ rfl rfl rfl ?_;refine aR (lA (Own.refl _) aB aC λb406 m406 o406=>?_);(refine aI o406.ext ?_;have o407:=Own.call o404 o406;simp only[lcA,lnA]at o407;clear o406);refine idxB o407 5 rfl aB aC rfl rfl zO w_ ?_;refine oC o407 5 aC ?_;refine XEnds.callJ [2,3] zA rfl rfl (λJ oj=>hIH _ _ _ [] _ p' v' k' bs' _ (aEc hdx zO) hxOK hrx hp' (.inl rfl) zO hT hF oj zO zO) (λps2 p2 v2 bs2 k2 m2 hq2 hp2 hb2 hk2' hl2 _ hj2 oq=>?_) (λm2 hq2 oq=>?_)
     case refine_2 =>
      have:dD (eK gP) ks=none:=aV hkx hQ hq2
      exact⟨hexQ.trans (by split;simp only[this,aO,oMN];rfl),rfl,oq⟩
     have o5:Own B [box b [p2,v2,iv k2] 58,row v2 5 1 bs2.length (bytes bs2),box b50 [iv kd,sv tb,.slice e3 ks.length f3,.slice e1 cs.length f1,.slice e2 ns.length f2,sv a,sv s,iv g,iv z] 42,box b201 [iv 0,sv tb,.slice none 0 0,.slice e1 cs.length f1,.slice e2 ns.length f2,sv a,sv s,iv g,iv 0] 42] m2:=oq;clear oq;refine max2 rfl rfl ?_;refine aR ?_
     refine⟨rfl,?_⟩
     refine⟨⟨0+1,p2,v2,bs2,k2,ps++ps2,by omega,?_,hp2,bL hkx hQ hq2,by rw[hb2,hb'];simp[bX],by rw[hk2',hk'];simp;omega,by omega,by omega,o_ [0,1,2,3]⟩,by simp;omega⟩
     congr 2
     omega
    ·obtain rfl:i=1:=by omega
     refine bB λc500=>rR (aDe cH aQ (q3.ext oh.ext) rfl zO zO ?_);refine rR (aDg aQ (q3.ext oh.ext) (λy:dG=>y.2) zD rfl zA ?_);refine aDH oh aQ λb503 m503 o503=>?_;(refine sA o503 4 aQ ?_;intro m504 o504);refine aDK (cB ?_);refine fB cC ?_;refine lA o504 aB aC λb507 m507 o507=>?_;refine aM [[44]] 1 30 [2,3,4] (i:=5) zA rfl rfl rfl hp' rfl zO zO zS zO zO (λp3 v3 bs3 k3 m3 hp3 hb3 hk3 hl3 oq=>?_);have o5:=oq
     simp only[pick,lgS,lgZ]at o5
     clear oq oh;refine d1_ [0,1,3,4,7,8,10,11] [5,6] [9] [0,1,3,6,7,8,2,4,5,9,10,11] ?_;refine aDr o5 4 rfl aQ rfl rfl rfl ?_;refine aR (lA (Own.refl _) aB aC λb551 m551 o551=>?_);(refine aI o551.ext ?_;have o552:=Own.call o5 o551;simp only[lcA,lnA]at o552;clear o551);refine idxB o552 5 rfl aB aC rfl rfl zO w_ ?_;refine oC o552 5 aC ?_;refine XEnds.callJ [2,3] zA rfl rfl (λJ oj=>hIH _ _ _ [32] _ p3 v3 k3 bs3 _ (aEc hdx zO) hxOK hrx hp3 (.inr rfl) zO hT hF oj zO zO) (λps2 p2 v2 bs2 k2 m2 hq2 hp2 hb2 hk2' hl2 _ hj2 oq=>?_) (λm2 hq2 oq=>?_)
     case refine_2 =>
      have:dD (eK gP) ks=none:=aV hkx hQ (by unfold eK;rw[if_neg zD,hq2];rfl)
      exact⟨hexQ.trans (by split;simp only[this,aO,oMN];rfl),rfl,oq⟩
     have o6:Own B [box b [p2,v2,iv k2] 58,row v2 5 1 bs2.length (bytes bs2),box b50 [iv kd,sv tb,.slice e3 ks.length f3,.slice e1 cs.length f1,.slice e2 ns.length f2,sv a,sv s,iv g,iv z] 42,box b201 [iv 0,sv tb,.slice none 0 0,.slice e1 cs.length f1,.slice e2 ns.length f2,sv a,sv s,iv g,iv 0] 42] m2:=oq;clear oq;refine max2 rfl rfl ?_;refine aR ?_
     refine⟨rfl,?_⟩
     refine⟨⟨1+1,p2,v2,bs2,k2,ps++(aS [] [44]::ps2),by omega,?_,hp2,bL hkx hQ (by unfold eK;rw[if_neg zD,hq2];rfl),by rw[hb2,hb3,hb'];simp[bX,gX,wr,aS],by rw[hk2',hk3,hk'];simp;omega,by omega,by omega,o_ [0,1,2,3]⟩,by simp;omega⟩
     congr 2
     omega
   have hQ:=fF (aEs hlt) hQ
   rw[aEa (aEs hlt)]at hl' hk2 ⊢
   by_cases hk2x:kd=2
   ·subst hk2x
    have hB:gJ 2 tb cs ns a s g=true↔tb=[]/\ns.length=0/\a=[]/\s=[]/\g=0:=by simp[gJ]
    refine bA λc860=>fB aE ?_;refine oB oh 2 aK ?_;refine aDL (aDK ?_);refine fB aE ?_;refine oB oh 2 kI ?_;refine WEnds.callJ [2,3] zA rfl rfl (λJ oj=>vT _ b p' v' k' bs' cs _ _ hp' hT q1 bcs oj zO zO) (λps2 p2 v2 bs2 k2 m2 hq2 hp2 hb2 hk2' hl2 _ hj2 oq=>?_) (λm2 hq2 oq=>?_)
    case refine_2 =>
     have hR:eW 2 cs ns a s g=none:=hq2
     exact⟨hexQ.trans (by split;simp only[hQ,hR,aO,oMN,oMS];rfl),rfl,oq⟩
    have o6:Own B [box b [p2,v2,iv k2] 58,row v2 5 1 bs2.length (bytes bs2),box b50 [iv 2,sv tb,.slice e3 ks.length f3,.slice e1 cs.length f1,.slice e2 ns.length f2,sv a,sv s,iv g,iv z] 42,box b201 [iv 0,sv tb,.slice none 0 0,.slice e1 cs.length f1,.slice e2 ns.length f2,sv a,sv s,iv g,iv 0] 42] m2:=oq;clear oq oh;have hR:eW 2 cs ns a s g=some ps2:=hq2;refine fB aE ?_;(refine sB o6 3 kI ?_;intro m921 o921);refine fB aE ?_;refine oB o921 2 aK ?_;refine aDK (cB ?_);refine fB cC ?_;refine lA o921 aB aC λb926 m926 o926=>?_;refine aM [[41]] 1 30 [2,3] (i:=4) zA rfl rfl rfl hp2 rfl zO zO zS zO zO (λp9 v9 bs9 k9 m9 hp9 hb9 hk9 hl9 oq=>?_);have o9:Own B [box b [p9,v9,iv k9] 58,row v9 5 1 bs9.length (bytes bs9),box b50 [iv 2,sv tb,.slice e3 ks.length f3,.slice e1 cs.length f1,.slice e2 ns.length f2,sv a,sv s,iv g,iv z] 42,box b201 [iv 0,sv tb,.slice none 0 0,.slice none 0 0,.slice e2 ns.length f2,sv a,sv s,iv g,iv 0] 42] m9:=oq;clear oq;refine fB aE ?_;refine oB o9 3 aC ?_;refine aDJ (λc982=>?_) (λc982=>?_);refine fB aE ?_;refine oB o9 3 kI ?_;refine lB gL ?_;refine aDK (fB aE ?_);refine oB o9 3 cS ?_;refine lB aB ?_;refine aDJ (λc989=>?_) (λc989=>?_);refine fB aE ?_;refine oB o9 3 aC ?_;refine aDJ (λc992=>?_) (λc992=>?_);refine fB aE ?_;refine oB o9 3 aC ?_
    refine aDJ (λc995=>?_) (λc995=>?_);refine fB aE ?_;refine oB o9 3 aK ?_
    any_goals (refine aDc (B:=B) zA (aH false _) (λe8 m8 _ oq=>by cases e8) λe8 m8 oq=>?_;exact⟨hexQ.trans (if_neg λhb=>by obtain⟨x0,x1,x2,x3,x4⟩:=hB.1 hb;first|contradiction|omega),rfl,oq⟩)
    refine aDc (B:=B) zA (aH _ _) (λe8 m8 _ oq=>?_) λe8 m8 oq=>?_
    case refine_2 =>
     have e8:=of_decide_eq_false e8
     exact⟨hexQ.trans (if_neg λhb=>by obtain⟨x0,x1,x2,x3,x4⟩:=hB.1 hb;omega),rfl,oq⟩
    have e8:=of_decide_eq_true e8;have hbare:=hB.2 ⟨by assumption,by omega,by assumption,by assumption,by omega⟩;refine rO ?_;exact XEnds.done (ps:=[aG be opw,aS [] [40]]++(ps++(ps2++([aS [] [41]]++[])))) (hexQ.trans (by rw[if_pos hbare];simp only[hQ,hR,aO,oMS])) (oq.sel [0,1] rfl) hp9 (by rw[hb9,hb2,hb',hb1];simp[bX,gX,wr,aG,aS]) (by rw[hk9,hk2',hk',hk1];simp;omega) zO zO
   by_cases hk3x:kd=3
   ·exact(by omega:False).elim
   by_cases hk7x:kd=7
   ·exact(by omega:False).elim
   by_cases hk8x:kd=8
   ·exact(by omega:False).elim
   exact(by omega:False).elim
theorem prExpr_c3 (b n:Nat)(hIH:aBA b n)(kd:Int)(tb:aBs)(ks:List Ex)(cs:List Cnd)(ns:List aBs)(a s:aBs)(g:Int)(off:Nat)(hcls:kd=3)(B:Base)(c:aVs)(be:aBs)(lev:Int)(p v:Value)(k:Int)(bs:aBs)(h:Heap)(hd:eL (.mk kd tb ks cs ns a s g off)<=n+1)(hOK:gK (.mk kd tb ks cs ns a s g off))(hc:fT B.h c (.mk kd tb ks cs ns a s g off))(hp:dI b p)(hbe:be=[]∨be=[32])(hlev:0<=lev/\lev+dE (.mk kd tb ks cs ns a s g off)<=1000000000000)(hT:kQ B.h)(hF:iY B.h)
  (o:Own B [box b [p,v,iv k] 58,row v 5 1 bs.length (bytes bs)] h) (hl:bs.length+2000*fD (.mk kd tb ks cs ns a s g off)<=50000000000000) (hk:0<=k/\k+2000*fD (.mk kd tb ks cs ns a s g off)<=50000000000000) :
  Spec Tryz.prog 128 [pv b 0,sv be,.agg ⟨c⟩,iv lev] h (XEnds B b bs k (2000*fD (.mk kd tb ks cs ns a s g off)) (gP be (.mk kd tb ks cs ns a s g off)) (lev+dE (.mk kd tb ks cs ns a s g off) - 1)):=by
  rw[eL]at hd
  rw[gK]at hOK
  rw[fT]at hc
  rw[fD]at hl hk ⊢
  rw[dE]at hlev ⊢
  rw[show lev+((dK ks+1:Nat):Int) - 1=lev+dK ks by omega]
  obtain⟨bk,btb,bks,bcs,bns,ba,bs_,bg,lk,lc,ln⟩:=hOK
  obtain⟨vk,vc,vn,z,rfl,q1,q2,xs,q3,rk⟩:=hc
  rw[jC]at q2
  obtain⟨e1,f1,rfl⟩:=q1.isS
  obtain⟨e2,f2,rfl⟩:=q2.isS
  obtain⟨e3,f3,rfl⟩:=q3.isS
  unfold kG;have hxs:xs.length=ks.length:=lU rk;have hbel:be.length<=1:=by rcases hbe with rfl|rfl<;>simp
  refine eN Tryz.func128 Tryz.ntmps128 ?_;by_cases hkd:1<=kd/\kd<=8
  case neg =>
   exact(by omega:False).elim
  have hfa:=qM hF kd hkd.1 hkd.2;have hf1:=hfa.1;refine xB o λb50 m50 o50=>?_;refine d1_ [0,2,3,4,6,7,8,9,11,12,14,15,17,18] [1,5,10,13,16] [19] [0,1,2,3,4,5,6,7,8,9,10,11,12,13,14,15,16,17,18,19] ?_;refine fC aE ?_;refine oC o50 2 aK ?_;refine bB λc53=>fC aE ?_;refine oC o50 2 aK ?_;refine bB λc56=>fC aE ?_;refine oC o50 2 cR ?_;refine aDz rfl cH ?_;refine fC aE ?_;refine oC o50 2 aK ?_;refine aDo Tryz.underlying195 rQ rfl rfl zO zO ?_;refine fC sE ?_;refine load1 aK rfl (o50.old hf1) ?_;refine aDc zA (aH _ _) (λe1 m2 oc oq=>?_) λe1 m2 oq=>?_
  case refine_2 =>
   have e1:=of_decide_eq_false e1;have hq:gP be (.mk kd tb ks cs ns a s g off)=none:=by rw[gP,if_neg (λh=>e1 (by rw[h.2.2.1]))]
   exact⟨hq,rfl,oq⟩
  have hkl:ks.length=fW kd:=by have:=of_decide_eq_true e1;omega
  clear e1 oc;by_cases hkone:kd=1
  ·exact(by omega:False).elim
  ·have hexQ:gP be (.mk kd tb ks cs ns a s g off)=if gJ kd tb cs ns a s g=true then aO [some [aG be (dV.getD (kd - 2).toNat []),aS [] [40]],dD (eK gP) ks,eW kd cs ns a s g,some [aS [] [41]]] else none:=by
    rw[gP]
    by_cases hb:gJ kd tb cs ns a s g=true
    ·rw[if_pos ⟨hkd.1,hkd.2,hkl,hb⟩,if_neg hkone,if_pos hb,oX]
    ·rw[if_neg (λh=>hb h.2.2.2),if_neg hb]
   have hf2:=hfa.2 hkone;have hol:=aAO (kd - 2).toNat;generalize dV.getD (kd - 2).toNat []=opw at hexQ hf2 hol;clear hfa;refine nB oq 2 aQ ?_;refine aDH oq aQ λb201 m201 o201=>?_;(refine sA o201 3 aQ ?_;intro m202 o202);refine fB aE ?_;(refine sB o202 3 aK ?_;intro m204 o204);refine fB aE ?_;(refine sB o204 3 cR ?_;intro m206 o206);refine fB aE ?_;(refine sB o206 3 aK ?_;intro m208 o208);refine fB aE ?_;refine oB o208 2 aK ?_;refine bA λc211=>d1_ [0,1,2,3,4,6,7,9] [5,8] [10,11] [0,1,2,3,4,5,6,7,8,9,10,11] ?_;refine nC rfl ?_;refine fC cC ?_;refine fC aE ?_;refine oC o208 2 aK ?_;refine aDo Tryz.underlying195 rQ rfl rfl zO zO ?_;refine fC sE ?_;refine load1 aC rfl (o208.old hf2) ?_;refine aDb rfl rfl w_ ?_;refine lA o208 aB aC λb220 m220 o220=>?_;refine aM [be++opw,[40]] 2 30 [2,3] (i:=4) zA rfl rfl rfl hp rfl zO zO v_ zO zO (λp1 v1 bs1 k1 m1 hp1 hb1 hk1 hl1 oq=>?_);have o4:Own B [box b [p1,v1,.int .i64 k1] 58,row v1 5 1 bs1.length (bytes bs1),box b50 [.int .i64 kd,.string ⟨⟨tb⟩⟩,.slice e3 ks.length f3,.slice e1 cs.length f1,.slice e2 ns.length f2,.string ⟨⟨a⟩⟩,.string ⟨⟨s⟩⟩,.int .i64 g,.int .i64 z] 42,box b201 [.int .i64 0,.string ⟨⟨tb⟩⟩,.slice none 0 0,.slice e1 cs.length f1,.slice e2 ns.length f2,.string ⟨⟨a⟩⟩,.string ⟨⟨s⟩⟩,.int .i64 g,.int .i64 0] 42] m1:=oq;clear oq;refine fB aE ?_;refine oB o4 2 cR ?_;refine lB cH ?_;refine aDT [10,11,12,67,68,69,70,71,72,73,74,75,76,77,78,79,80,81,82,83,84,85,86,87,88,89,90] [10,67] (λvs' hh=>∃(i:Nat) (p' v':Value) (bs':aBs) (k':Int) (ps:List Pc),i<=ks.length/\vs'=[.int .i64 (lev+dK (ks.take i)),.int .i64 i]/\dI b p'/\dD (eK gP) (ks.take i)=some ps/\bs'=bs1++bX ps/\k'=k1+ps.length/\bs'.length<=bs1.length+(2000*gI (ks.take i)+30*i)/\k'<=k1+(2000*gI (ks.take i)+30*i)/\Own B [box b [p',v',.int .i64 k'] 58,row v' 5 1 bs'.length (bytes bs'),box b50 [.int .i64 kd,.string ⟨⟨tb⟩⟩,.slice e3 ks.length f3,.slice e1 cs.length f1,.slice e2 ns.length f2,.string ⟨⟨a⟩⟩,.string ⟨⟨s⟩⟩,.int .i64 g,.int .i64 z] 42,box b201 [.int .i64 0,.string ⟨⟨tb⟩⟩,.slice none 0 0,.slice e1 cs.length f1,.slice e2 ns.length f2,.string ⟨⟨a⟩⟩,.string ⟨⟨s⟩⟩,.int .i64 g,.int .i64 0] 42] hh) (λvs' _=>match vs' with|[_,.int _ i]=>ks.length - i.toNat|_=>0) ?_ ?_
   ·exact⟨0,p1,v1,bs1,k1,[],by omega,by simp[dK],hp1,rfl,by simp[bX],by simp,by omega,by omega,o4⟩
   rintro vs' junk hh ⟨i,p',v',bs',k',ps,hi,rfl,hp',hQ,hb',hk',hl',hk2,oh⟩;clear o4;have hk2s:ks.length<=2:=by rw[hkl];unfold fW;split<;>(try split)<;>omega
   have hszl:=fJ ks i;by_cases hlt:i<ks.length
   ·obtain⟨kx,hkx⟩:=getx hlt
    obtain⟨cx,hcx,hrx⟩:=iC rk hkx
    have hdx:=fX hkx;have hsz:=mO hkx;have hszl2:=fJ ks (i+1);have hlv:=lG hkx;have hlvl:dE kx<=dK ks:=mP hkx;have hlp:=qN kx;have hxOK:=gG bks hkx;have hrx2:=hrx
    obtain⟨cxv,hcl⟩:=cx
    obtain⟨xk,xt,xks,xcs,xns,xa,xs_,xg,xo⟩:=kx
    rw[fT]at hrx2
    obtain⟨wk,wc,wn,wz,hcv,g1,g2,gx,g3,_⟩:=hrx2
    obtain⟨h1,h2,rfl⟩:=g1.isS
    obtain⟨h3,h4,rfl⟩:=g2.isS
    obtain⟨h5,h6,rfl⟩:=g3.isS
    dsimp only at hcv hrx;subst hcv;unfold kG at hcx hrx hcl;clear g1 g2 g3;by_cases h0:i=0
    ·subst h0
     refine bB λc400=>rR (aDe cH aQ (q3.ext oh.ext) rfl zO zO ?_);refine rR (aDg aQ (q3.ext oh.ext) (λy:dG=>y.2) zD rfl zA ?_);refine aDH oh aQ λb403 m403 o403=>?_;(refine sA o403 4 aQ ?_;intro m404 o404);refine aDL (d1_ [0,1,3,4,7,8,10,11] [5,6] [9] [0,1,3,6,7,8,2,4,5,9,10,11] ?_);refine aDr o404 4 rfl aQ rfl rfl rfl ?_;refine aR (lA (Own.refl _) aB aC λb406 m406 o406=>?_);(refine aI o406.ext ?_;have o407:=Own.call o404 o406;simp only[lcA,lnA]at o407;clear o406);refine idxB o407 5 rfl aB aC rfl rfl zO w_ ?_;refine oC o407 5 aC ?_;refine XEnds.callJ [2,3] zA rfl rfl (λJ oj=>hIH _ _ _ [] _ p' v' k' bs' _ (aEc hdx zO) hxOK hrx hp' (.inl rfl) zO hT hF oj zO zO) (λps2 p2 v2 bs2 k2 m2 hq2 hp2 hb2 hk2' hl2 _ hj2 oq=>?_) (λm2 hq2 oq=>?_)
     case refine_2 =>
      have:dD (eK gP) ks=none:=aV hkx hQ hq2
      exact⟨hexQ.trans (by split;simp only[this,aO,oMN];rfl),rfl,oq⟩
     have o5:Own B [box b [p2,v2,iv k2] 58,row v2 5 1 bs2.length (bytes bs2),box b50 [iv kd,sv tb,.slice e3 ks.length f3,.slice e1 cs.length f1,.slice e2 ns.length f2,sv a,sv s,iv g,iv z] 42,box b201 [iv 0,sv tb,.slice none 0 0,.slice e1 cs.length f1,.slice e2 ns.length f2,sv a,sv s,iv g,iv 0] 42] m2:=oq;clear oq;refine max2 rfl rfl ?_;refine aR ?_
     refine⟨rfl,?_⟩
     refine⟨⟨0+1,p2,v2,bs2,k2,ps++ps2,by omega,?_,hp2,bL hkx hQ hq2,by rw[hb2,hb'];simp[bX],by rw[hk2',hk'];simp;omega,by omega,by omega,o_ [0,1,2,3]⟩,by simp;omega⟩
     congr 2
     omega
    ·obtain rfl:i=1:=by omega
     refine bB λc500=>rR (aDe cH aQ (q3.ext oh.ext) rfl zO zO ?_);refine rR (aDg aQ (q3.ext oh.ext) (λy:dG=>y.2) zD rfl zA ?_);refine aDH oh aQ λb503 m503 o503=>?_;(refine sA o503 4 aQ ?_;intro m504 o504);refine aDK (cB ?_);refine fB cC ?_;refine lA o504 aB aC λb507 m507 o507=>?_;refine aM [[44]] 1 30 [2,3,4] (i:=5) zA rfl rfl rfl hp' rfl zO zO zS zO zO (λp3 v3 bs3 k3 m3 hp3 hb3 hk3 hl3 oq=>?_);have o5:=oq
     simp only[pick,lgS,lgZ]at o5
     clear oq oh;refine d1_ [0,1,3,4,7,8,10,11] [5,6] [9] [0,1,3,6,7,8,2,4,5,9,10,11] ?_;refine aDr o5 4 rfl aQ rfl rfl rfl ?_;refine aR (lA (Own.refl _) aB aC λb551 m551 o551=>?_);(refine aI o551.ext ?_;have o552:=Own.call o5 o551;simp only[lcA,lnA]at o552;clear o551);refine idxB o552 5 rfl aB aC rfl rfl zO w_ ?_;refine oC o552 5 aC ?_;refine XEnds.callJ [2,3] zA rfl rfl (λJ oj=>hIH _ _ _ [32] _ p3 v3 k3 bs3 _ (aEc hdx zO) hxOK hrx hp3 (.inr rfl) zO hT hF oj zO zO) (λps2 p2 v2 bs2 k2 m2 hq2 hp2 hb2 hk2' hl2 _ hj2 oq=>?_) (λm2 hq2 oq=>?_)
     case refine_2 =>
      have:dD (eK gP) ks=none:=aV hkx hQ (by unfold eK;rw[if_neg zD,hq2];rfl)
      exact⟨hexQ.trans (by split;simp only[this,aO,oMN];rfl),rfl,oq⟩
     have o6:Own B [box b [p2,v2,iv k2] 58,row v2 5 1 bs2.length (bytes bs2),box b50 [iv kd,sv tb,.slice e3 ks.length f3,.slice e1 cs.length f1,.slice e2 ns.length f2,sv a,sv s,iv g,iv z] 42,box b201 [iv 0,sv tb,.slice none 0 0,.slice e1 cs.length f1,.slice e2 ns.length f2,sv a,sv s,iv g,iv 0] 42] m2:=oq;clear oq;refine max2 rfl rfl ?_;refine aR ?_
     refine⟨rfl,?_⟩
     refine⟨⟨1+1,p2,v2,bs2,k2,ps++(aS [] [44]::ps2),by omega,?_,hp2,bL hkx hQ (by unfold eK;rw[if_neg zD,hq2];rfl),by rw[hb2,hb3,hb'];simp[bX,gX,wr,aS],by rw[hk2',hk3,hk'];simp;omega,by omega,by omega,o_ [0,1,2,3]⟩,by simp;omega⟩
     congr 2
     omega
   have hQ:=fF (aEs hlt) hQ
   rw[aEa (aEs hlt)]at hl' hk2 ⊢
   by_cases hk2x:kd=2
   ·exact(by omega:False).elim
   by_cases hk3x:kd=3
   ·subst hk3x
    have hB:gJ 3 tb cs ns a s g=true↔tb=[]/\cs.length=0/\a=[]/\s=[]/\g=0:=by simp[gJ]
    have hRe:eW 3 cs ns a s g=aO [some [aG [32] [111,110]],jA bN [32] ns]:=rfl;refine bA λc1100=>fB aE ?_;refine oB oh 2 aK ?_;refine aDL (aDL ?_);refine aDK (cB ?_);refine fB cC ?_;refine lA oh aB aC λb1105 m1105 o1105=>?_;refine aM [[32,111,110]] 1 30 [2,3] (i:=4) zA rfl rfl rfl hp' rfl zO zO zS zO zO (λp2 v2 bs2 k2 m2 hp2 hb2 hk2' hl2 oq=>?_);have o6:Own B [box b [p2,v2,iv k2] 58,row v2 5 1 bs2.length (bytes bs2),box b50 [iv 3,sv tb,.slice e3 ks.length f3,.slice e1 cs.length f1,.slice e2 ns.length f2,sv a,sv s,iv g,iv z] 42,box b201 [iv 0,sv tb,.slice none 0 0,.slice e1 cs.length f1,.slice e2 ns.length f2,sv a,sv s,iv g,iv 0] 42] m2:=oq;clear oq oh;refine fB aE ?_;refine oB o6 2 cS ?_;refine WEnds.callJ [2,3] zA rfl rfl (λJ oj=>nV ⟨B.h,J++B.T⟩ b p2 v2 k2 bs2 [32] ns _ _ hp2 (λL h o=>(q2.ext (Own.ext (B:=⟨B.h,J++B.T⟩) o)).to1) oj zO bns zO zO (.inr rfl)) (λps3 p3 v3 bs3 k3 m3 hq3 hp3 hb3 hk3' hl3 _ hj3 oq=>?_) (λm3 hq3 oq=>?_)
    case refine_2 =>
     have hR:eW 3 cs ns a s g=none:=by rw[hRe];simp only[hq3,aO,oMN]
     exact⟨hexQ.trans (by split;simp only[hQ,hR,aO,oMN,oMS];rfl),rfl,oq⟩
    have o7:Own B [box b [p3,v3,iv k3] 58,row v3 5 1 bs3.length (bytes bs3),box b50 [iv 3,sv tb,.slice e3 ks.length f3,.slice e1 cs.length f1,.slice e2 ns.length f2,sv a,sv s,iv g,iv z] 42,box b201 [iv 0,sv tb,.slice none 0 0,.slice e1 cs.length f1,.slice e2 ns.length f2,sv a,sv s,iv g,iv 0] 42] m3:=oq;clear oq o6;have hR:eW 3 cs ns a s g=some ([aG [32] [111,110]]++(ps3++[])):=by rw[hRe];simp only[hq3,aO,oMS]
    refine fB aE ?_;(refine sB o7 3 cS ?_;intro m1221 o1221);refine fB aE ?_;refine oB o1221 2 aK ?_;refine aDK (cB ?_);refine fB cC ?_;refine lA o1221 aB aC λb1226 m1226 o1226=>?_;refine aM [[41]] 1 30 [2,3] (i:=4) zA rfl rfl rfl hp3 rfl zO zO zS zO zO (λp9 v9 bs9 k9 m9 hp9 hb9 hk9 hl9 oq=>?_);have o9:Own B [box b [p9,v9,iv k9] 58,row v9 5 1 bs9.length (bytes bs9),box b50 [iv 3,sv tb,.slice e3 ks.length f3,.slice e1 cs.length f1,.slice e2 ns.length f2,sv a,sv s,iv g,iv z] 42,box b201 [iv 0,sv tb,.slice none 0 0,.slice e1 cs.length f1,.slice none 0 0,sv a,sv s,iv g,iv 0] 42] m9:=oq;clear oq;refine fB aE ?_;refine oB o9 3 aC ?_;refine aDJ (λc1282=>?_) (λc1282=>?_);refine fB aE ?_;refine oB o9 3 kI ?_;refine lB gL ?_;refine aDJ (λc1286=>?_) (λc1286=>?_);refine fB aE ?_;refine oB o9 3 cS ?_;refine lB aB ?_;refine aDK (fB aE ?_);refine oB o9 3 aC ?_;refine aDJ (λc1292=>?_) (λc1292=>?_);refine fB aE ?_;refine oB o9 3 aC ?_;refine aDJ (λc1295=>?_) (λc1295=>?_);refine fB aE ?_;refine oB o9 3 aK ?_
    any_goals (refine aDc (B:=B) zA (aH false _) (λe8 m8 _ oq=>by cases e8) λe8 m8 oq=>?_;exact⟨hexQ.trans (if_neg λhb=>by obtain⟨x0,x1,x2,x3,x4⟩:=hB.1 hb;first|contradiction|omega),rfl,oq⟩)
    refine aDc (B:=B) zA (aH _ _) (λe8 m8 _ oq=>?_) λe8 m8 oq=>?_
    case refine_2 =>
     have e8:=of_decide_eq_false e8
     exact⟨hexQ.trans (if_neg λhb=>by obtain⟨x0,x1,x2,x3,x4⟩:=hB.1 hb;omega),rfl,oq⟩
    have e8:=of_decide_eq_true e8;have hbare:=hB.2 ⟨by assumption,by omega,by assumption,by assumption,by omega⟩;refine rO ?_;exact XEnds.done (ps:=[aG be opw,aS [] [40]]++(ps++(([aG [32] [111,110]]++(ps3++[]))++([aS [] [41]]++[])))) (hexQ.trans (by rw[if_pos hbare];simp only[hQ,hR,aO,oMS])) (oq.sel [0,1] rfl) hp9 (by rw[hb9,hb3,hb2,hb',hb1];simp[bX,gX,wr,aG,aS]) (by rw[hk9,hk3',hk2',hk',hk1];simp;omega) zO zO
   by_cases hk7x:kd=7
   ·exact(by omega:False).elim
   by_cases hk8x:kd=8
   ·exact(by omega:False).elim
   exact(by omega:False).elim
theorem prExpr_c7 (b n:Nat)(hIH:aBA b n)(kd:Int)(tb:aBs)(ks:List Ex)(cs:List Cnd)(ns:List aBs)(a s:aBs)(g:Int)(off:Nat)(hcls:kd=7)(B:Base)(c:aVs)(be:aBs)(lev:Int)(p v:Value)(k:Int)(bs:aBs)(h:Heap)(hd:eL (.mk kd tb ks cs ns a s g off)<=n+1)(hOK:gK (.mk kd tb ks cs ns a s g off))(hc:fT B.h c (.mk kd tb ks cs ns a s g off))(hp:dI b p)(hbe:be=[]∨be=[32])(hlev:0<=lev/\lev+dE (.mk kd tb ks cs ns a s g off)<=1000000000000)(hT:kQ B.h)(hF:iY B.h)
  (o:Own B [box b [p,v,iv k] 58,row v 5 1 bs.length (bytes bs)] h) (hl:bs.length+2000*fD (.mk kd tb ks cs ns a s g off)<=50000000000000) (hk:0<=k/\k+2000*fD (.mk kd tb ks cs ns a s g off)<=50000000000000) :
  Spec Tryz.prog 128 [pv b 0,sv be,.agg ⟨c⟩,iv lev] h (XEnds B b bs k (2000*fD (.mk kd tb ks cs ns a s g off)) (gP be (.mk kd tb ks cs ns a s g off)) (lev+dE (.mk kd tb ks cs ns a s g off) - 1)):=by
  rw[eL]at hd
  rw[gK]at hOK
  rw[fT]at hc
  rw[fD]at hl hk ⊢
  rw[dE]at hlev ⊢
  rw[show lev+((dK ks+1:Nat):Int) - 1=lev+dK ks by omega]
  obtain⟨bk,btb,bks,bcs,bns,ba,bs_,bg,lk,lc,ln⟩:=hOK
  obtain⟨vk,vc,vn,z,rfl,q1,q2,xs,q3,rk⟩:=hc
  rw[jC]at q2
  obtain⟨e1,f1,rfl⟩:=q1.isS
  obtain⟨e2,f2,rfl⟩:=q2.isS
  obtain⟨e3,f3,rfl⟩:=q3.isS
  unfold kG;have hxs:xs.length=ks.length:=lU rk;have hbel:be.length<=1:=by rcases hbe with rfl|rfl<;>simp
  refine eN Tryz.func128 Tryz.ntmps128 ?_;by_cases hkd:1<=kd/\kd<=8
  case neg =>
   exact(by omega:False).elim
  have hfa:=qM hF kd hkd.1 hkd.2;have hf1:=hfa.1;refine xB o λb50 m50 o50=>?_;refine d1_ [0,2,3,4,6,7,8,9,11,12,14,15,17,18] [1,5,10,13,16] [19] [0,1,2,3,4,5,6,7,8,9,10,11,12,13,14,15,16,17,18,19] ?_;refine fC aE ?_;refine oC o50 2 aK ?_;refine bB λc53=>fC aE ?_;refine oC o50 2 aK ?_;refine bB λc56=>fC aE ?_;refine oC o50 2 cR ?_;refine aDz rfl cH ?_;refine fC aE ?_;refine oC o50 2 aK ?_;refine aDo Tryz.underlying195 rQ rfl rfl zO zO ?_;refine fC sE ?_;refine load1 aK rfl (o50.old hf1) ?_;refine aDc zA (aH _ _) (λe1 m2 oc oq=>?_) λe1 m2 oq=>?_
  case refine_2 =>
   have e1:=of_decide_eq_false e1;have hq:gP be (.mk kd tb ks cs ns a s g off)=none:=by rw[gP,if_neg (λh=>e1 (by rw[h.2.2.1]))]
   exact⟨hq,rfl,oq⟩
  have hkl:ks.length=fW kd:=by have:=of_decide_eq_true e1;omega
  clear e1 oc;by_cases hkone:kd=1
  ·exact(by omega:False).elim
  ·have hexQ:gP be (.mk kd tb ks cs ns a s g off)=if gJ kd tb cs ns a s g=true then aO [some [aG be (dV.getD (kd - 2).toNat []),aS [] [40]],dD (eK gP) ks,eW kd cs ns a s g,some [aS [] [41]]] else none:=by
    rw[gP]
    by_cases hb:gJ kd tb cs ns a s g=true
    ·rw[if_pos ⟨hkd.1,hkd.2,hkl,hb⟩,if_neg hkone,if_pos hb,oX]
    ·rw[if_neg (λh=>hb h.2.2.2),if_neg hb]
   have hf2:=hfa.2 hkone;have hol:=aAO (kd - 2).toNat;generalize dV.getD (kd - 2).toNat []=opw at hexQ hf2 hol;clear hfa;refine nB oq 2 aQ ?_;refine aDH oq aQ λb201 m201 o201=>?_;(refine sA o201 3 aQ ?_;intro m202 o202);refine fB aE ?_;(refine sB o202 3 aK ?_;intro m204 o204);refine fB aE ?_;(refine sB o204 3 cR ?_;intro m206 o206);refine fB aE ?_;(refine sB o206 3 aK ?_;intro m208 o208);refine fB aE ?_;refine oB o208 2 aK ?_;refine bA λc211=>d1_ [0,1,2,3,4,6,7,9] [5,8] [10,11] [0,1,2,3,4,5,6,7,8,9,10,11] ?_;refine nC rfl ?_;refine fC cC ?_;refine fC aE ?_;refine oC o208 2 aK ?_;refine aDo Tryz.underlying195 rQ rfl rfl zO zO ?_;refine fC sE ?_;refine load1 aC rfl (o208.old hf2) ?_;refine aDb rfl rfl w_ ?_;refine lA o208 aB aC λb220 m220 o220=>?_;refine aM [be++opw,[40]] 2 30 [2,3] (i:=4) zA rfl rfl rfl hp rfl zO zO v_ zO zO (λp1 v1 bs1 k1 m1 hp1 hb1 hk1 hl1 oq=>?_);have o4:Own B [box b [p1,v1,.int .i64 k1] 58,row v1 5 1 bs1.length (bytes bs1),box b50 [.int .i64 kd,.string ⟨⟨tb⟩⟩,.slice e3 ks.length f3,.slice e1 cs.length f1,.slice e2 ns.length f2,.string ⟨⟨a⟩⟩,.string ⟨⟨s⟩⟩,.int .i64 g,.int .i64 z] 42,box b201 [.int .i64 0,.string ⟨⟨tb⟩⟩,.slice none 0 0,.slice e1 cs.length f1,.slice e2 ns.length f2,.string ⟨⟨a⟩⟩,.string ⟨⟨s⟩⟩,.int .i64 g,.int .i64 0] 42] m1:=oq;clear oq;refine fB aE ?_;refine oB o4 2 cR ?_;refine lB cH ?_;refine aDT [10,11,12,67,68,69,70,71,72,73,74,75,76,77,78,79,80,81,82,83,84,85,86,87,88,89,90] [10,67] (λvs' hh=>∃(i:Nat) (p' v':Value) (bs':aBs) (k':Int) (ps:List Pc),i<=ks.length/\vs'=[.int .i64 (lev+dK (ks.take i)),.int .i64 i]/\dI b p'/\dD (eK gP) (ks.take i)=some ps/\bs'=bs1++bX ps/\k'=k1+ps.length/\bs'.length<=bs1.length+(2000*gI (ks.take i)+30*i)/\k'<=k1+(2000*gI (ks.take i)+30*i)/\Own B [box b [p',v',.int .i64 k'] 58,row v' 5 1 bs'.length (bytes bs'),box b50 [.int .i64 kd,.string ⟨⟨tb⟩⟩,.slice e3 ks.length f3,.slice e1 cs.length f1,.slice e2 ns.length f2,.string ⟨⟨a⟩⟩,.string ⟨⟨s⟩⟩,.int .i64 g,.int .i64 z] 42,box b201 [.int .i64 0,.string ⟨⟨tb⟩⟩,.slice none 0 0,.slice e1 cs.length f1,.slice e2 ns.length f2,.string ⟨⟨a⟩⟩,.string ⟨⟨s⟩⟩,.int .i64 g,.int .i64 0] 42] hh) (λvs' _=>match vs' with|[_,.int _ i]=>ks.length - i.toNat|_=>0) ?_ ?_
   ·exact⟨0,p1,v1,bs1,k1,[],by omega,by simp[dK],hp1,rfl,by simp[bX],by simp,by omega,by omega,o4⟩
   rintro vs' junk hh ⟨i,p',v',bs',k',ps,hi,rfl,hp',hQ,hb',hk',hl',hk2,oh⟩;clear o4;have hk2s:ks.length<=2:=by rw[hkl];unfold fW;split<;>(try split)<;>omega
   have hszl:=fJ ks i;by_cases hlt:i<ks.length
   ·obtain⟨kx,hkx⟩:=getx hlt
    obtain⟨cx,hcx,hrx⟩:=iC rk hkx
    have hdx:=fX hkx;have hsz:=mO hkx;have hszl2:=fJ ks (i+1);have hlv:=lG hkx;have hlvl:dE kx<=dK ks:=mP hkx;have hlp:=qN kx;have hxOK:=gG bks hkx;have hrx2:=hrx
    obtain⟨cxv,hcl⟩:=cx
    obtain⟨xk,xt,xks,xcs,xns,xa,xs_,xg,xo⟩:=kx
    rw[fT]at hrx2
    obtain⟨wk,wc,wn,wz,hcv,g1,g2,gx,g3,_⟩:=hrx2
    obtain⟨h1,h2,rfl⟩:=g1.isS
    obtain⟨h3,h4,rfl⟩:=g2.isS
    obtain⟨h5,h6,rfl⟩:=g3.isS
    dsimp only at hcv hrx;subst hcv;unfold kG at hcx hrx hcl;clear g1 g2 g3;by_cases h0:i=0
    ·subst h0
     refine bB λc400=>rR (aDe cH aQ (q3.ext oh.ext) rfl zO zO ?_);refine rR (aDg aQ (q3.ext oh.ext) (λy:dG=>y.2) zD rfl zA ?_);refine aDH oh aQ λb403 m403 o403=>?_;(refine sA o403 4 aQ ?_;intro m404 o404);refine aDL (d1_ [0,1,3,4,7,8,10,11] [5,6] [9] [0,1,3,6,7,8,2,4,5,9,10,11] ?_);refine aDr o404 4 rfl aQ rfl rfl rfl ?_;refine aR (lA (Own.refl _) aB aC λb406 m406 o406=>?_);(refine aI o406.ext ?_;have o407:=Own.call o404 o406;simp only[lcA,lnA]at o407;clear o406);refine idxB o407 5 rfl aB aC rfl rfl zO w_ ?_;refine oC o407 5 aC ?_;refine XEnds.callJ [2,3] zA rfl rfl (λJ oj=>hIH _ _ _ [] _ p' v' k' bs' _ (aEc hdx zO) hxOK hrx hp' (.inl rfl) zO hT hF oj zO zO) (λps2 p2 v2 bs2 k2 m2 hq2 hp2 hb2 hk2' hl2 _ hj2 oq=>?_) (λm2 hq2 oq=>?_)
     case refine_2 =>
      have:dD (eK gP) ks=none:=aV hkx hQ hq2
      exact⟨hexQ.trans (by split;simp only[this,aO,oMN];rfl),rfl,oq⟩
     have o5:Own B [box b [p2,v2,iv k2] 58,row v2 5 1 bs2.length (bytes bs2),box b50 [iv kd,sv tb,.slice e3 ks.length f3,.slice e1 cs.length f1,.slice e2 ns.length f2,sv a,sv s,iv g,iv z] 42,box b201 [iv 0,sv tb,.slice none 0 0,.slice e1 cs.length f1,.slice e2 ns.length f2,sv a,sv s,iv g,iv 0] 42] m2:=oq;clear oq;refine max2 rfl rfl ?_;refine aR ?_
     refine⟨rfl,?_⟩
     refine⟨⟨0+1,p2,v2,bs2,k2,ps++ps2,by omega,?_,hp2,bL hkx hQ hq2,by rw[hb2,hb'];simp[bX],by rw[hk2',hk'];simp;omega,by omega,by omega,o_ [0,1,2,3]⟩,by simp;omega⟩
     congr 2
     omega
    ·obtain rfl:i=1:=by omega
     refine bB λc500=>rR (aDe cH aQ (q3.ext oh.ext) rfl zO zO ?_);refine rR (aDg aQ (q3.ext oh.ext) (λy:dG=>y.2) zD rfl zA ?_);refine aDH oh aQ λb503 m503 o503=>?_;(refine sA o503 4 aQ ?_;intro m504 o504);refine aDK (cB ?_);refine fB cC ?_;refine lA o504 aB aC λb507 m507 o507=>?_;refine aM [[44]] 1 30 [2,3,4] (i:=5) zA rfl rfl rfl hp' rfl zO zO zS zO zO (λp3 v3 bs3 k3 m3 hp3 hb3 hk3 hl3 oq=>?_);have o5:=oq
     simp only[pick,lgS,lgZ]at o5
     clear oq oh;refine d1_ [0,1,3,4,7,8,10,11] [5,6] [9] [0,1,3,6,7,8,2,4,5,9,10,11] ?_;refine aDr o5 4 rfl aQ rfl rfl rfl ?_;refine aR (lA (Own.refl _) aB aC λb551 m551 o551=>?_);(refine aI o551.ext ?_;have o552:=Own.call o5 o551;simp only[lcA,lnA]at o552;clear o551);refine idxB o552 5 rfl aB aC rfl rfl zO w_ ?_;refine oC o552 5 aC ?_;refine XEnds.callJ [2,3] zA rfl rfl (λJ oj=>hIH _ _ _ [32] _ p3 v3 k3 bs3 _ (aEc hdx zO) hxOK hrx hp3 (.inr rfl) zO hT hF oj zO zO) (λps2 p2 v2 bs2 k2 m2 hq2 hp2 hb2 hk2' hl2 _ hj2 oq=>?_) (λm2 hq2 oq=>?_)
     case refine_2 =>
      have:dD (eK gP) ks=none:=aV hkx hQ (by unfold eK;rw[if_neg zD,hq2];rfl)
      exact⟨hexQ.trans (by split;simp only[this,aO,oMN];rfl),rfl,oq⟩
     have o6:Own B [box b [p2,v2,iv k2] 58,row v2 5 1 bs2.length (bytes bs2),box b50 [iv kd,sv tb,.slice e3 ks.length f3,.slice e1 cs.length f1,.slice e2 ns.length f2,sv a,sv s,iv g,iv z] 42,box b201 [iv 0,sv tb,.slice none 0 0,.slice e1 cs.length f1,.slice e2 ns.length f2,sv a,sv s,iv g,iv 0] 42] m2:=oq;clear oq;refine max2 rfl rfl ?_;refine aR ?_
     refine⟨rfl,?_⟩
     refine⟨⟨1+1,p2,v2,bs2,k2,ps++(aS [] [44]::ps2),by omega,?_,hp2,bL hkx hQ (by unfold eK;rw[if_neg zD,hq2];rfl),by rw[hb2,hb3,hb'];simp[bX,gX,wr,aS],by rw[hk2',hk3,hk'];simp;omega,by omega,by omega,o_ [0,1,2,3]⟩,by simp;omega⟩
     congr 2
     omega
   have hQ:=fF (aEs hlt) hQ
   rw[aEa (aEs hlt)]at hl' hk2 ⊢
   by_cases hk2x:kd=2
   ·exact(by omega:False).elim
   by_cases hk3x:kd=3
   ·exact(by omega:False).elim
   by_cases hk7x:kd=7
   ·subst hk7x
    have hB:gJ 7 tb cs ns a s g=true↔tb=[]/\cs.length=0/\ns.length=0/\g=0:=by simp[gJ]
    have hRe:eW 7 cs ns a s g=aO [some [aS [] [44]],bN [32] a,some [aG [32] [97,115]],bN [32] s]:=rfl;refine bA λc1400=>fB aE ?_;refine oB oh 2 aK ?_;refine aDL (aDL ?_);refine aDL (aDK ?_);refine d1_ [0,1,2,3,6,7,10] [4,8] [9,11,12] [0,1,2,3,4,7,8,5,6,9,10,11,12] ?_;refine nC rfl ?_;refine fC cC ?_;refine fC aE ?_;refine oC oh 2 aC ?_;refine fC aE ?_;refine oC oh 2 aC ?_;refine aDc (B:=B) zA (bT a _ ba) (λea mea ocea oq=>?_) λea mea oq=>?_
    case refine_2 =>
     have hR:eW 7 cs ns a s g=none:=by rw[hRe];simp only[dM ea,aO,oMN]
     exact⟨hexQ.trans (by split;simp only[hQ,hR,aO,oMN,oMS];rfl),rfl,oq⟩
    have hnlea:=bJ ea
    refine⟨ocea.ext,?_⟩
    clear ocea;refine aDb rfl rfl w_ ?_;refine aDc (B:=B) zA (bT s _ bs_) (λes mes oces oq=>?_) λes mes oq=>?_
    case refine_2 =>
     have hR:eW 7 cs ns a s g=none:=by rw[hRe];simp only[aD ea,dM es,aO,oMN]
     exact⟨hexQ.trans (by split;simp only[hQ,hR,aO,oMN,oMS];rfl),rfl,oq⟩
    have hnles:=bJ es;clear oces oh;refine aDb rfl rfl w_ ?_;refine lA oq aB aC λb1521 m1521 o1521=>?_;refine aM [[44],[32]++a,[32,97,115],[32]++s] 4 30 [2,3] (i:=4) zA rfl rfl rfl hp' rfl zO zO v_ zO zO (λp2 v2 bs2 k2 m2 hp2 hb2 hk2' hl2 oq=>?_);have o6:Own B [box b [p2,v2,iv k2] 58,row v2 5 1 bs2.length (bytes bs2),box b50 [iv 7,sv tb,.slice e3 ks.length f3,.slice e1 cs.length f1,.slice e2 ns.length f2,sv a,sv s,iv g,iv z] 42,box b201 [iv 0,sv tb,.slice none 0 0,.slice e1 cs.length f1,.slice e2 ns.length f2,sv a,sv s,iv g,iv 0] 42] m2:=oq;clear oq;have hR:eW 7 cs ns a s g=some [aS [] [44],aG [32] a,aG [32] [97,115],aG [32] s]:=by rw[hRe];simp only[aD ea,aD es,aO,oMS];rfl
    refine fB aE ?_;(refine sB o6 3 aC ?_;intro m1581 o1581);refine fB aE ?_;(refine sB o1581 3 aC ?_;intro m1583 o1583);refine fB aE ?_;refine oB o1583 2 aK ?_;refine aDK (cB ?_);refine fB cC ?_;refine lA o1583 aB aC λb1588 m1588 o1588=>?_;refine aM [[41]] 1 30 [2,3] (i:=4) zA rfl rfl rfl hp2 rfl zO zO zS zO zO (λp9 v9 bs9 k9 m9 hp9 hb9 hk9 hl9 oq=>?_);have o9:Own B [box b [p9,v9,iv k9] 58,row v9 5 1 bs9.length (bytes bs9),box b50 [iv 7,sv tb,.slice e3 ks.length f3,.slice e1 cs.length f1,.slice e2 ns.length f2,sv a,sv s,iv g,iv z] 42,box b201 [iv 0,sv tb,.slice none 0 0,.slice e1 cs.length f1,.slice e2 ns.length f2,sv [],sv [],iv g,iv 0] 42] m9:=oq;clear oq;refine fB aE ?_;refine oB o9 3 aC ?_;refine aDJ (λc1642=>?_) (λc1642=>?_);refine fB aE ?_;refine oB o9 3 kI ?_;refine lB gL ?_;refine aDJ (λc1646=>?_) (λc1646=>?_);refine fB aE ?_;refine oB o9 3 cS ?_;refine lB aB ?_;refine aDJ (λc1650=>?_) (λc1650=>?_);refine fB aE ?_;refine oB o9 3 aC ?_;refine aDK (fB aE ?_);refine oB o9 3 aC ?_;refine aDK (fB aE ?_);refine oB o9 3 aK ?_
    any_goals (refine aDc (B:=B) zA (aH false _) (λe8 m8 _ oq=>by cases e8) λe8 m8 oq=>?_;exact⟨hexQ.trans (if_neg λhb=>by obtain⟨x0,x1,x2,x3⟩:=hB.1 hb;first|contradiction|omega),rfl,oq⟩)
    refine aDc (B:=B) zA (aH _ _) (λe8 m8 _ oq=>?_) λe8 m8 oq=>?_
    case refine_2 =>
     have e8:=of_decide_eq_false e8
     exact⟨hexQ.trans (if_neg λhb=>by obtain⟨x0,x1,x2,x3⟩:=hB.1 hb;omega),rfl,oq⟩
    have e8:=of_decide_eq_true e8;have hbare:=hB.2 ⟨by assumption,by omega,by omega,by omega⟩;refine rO ?_;exact XEnds.done (ps:=[aG be opw,aS [] [40]]++(ps++([aS [] [44],aG [32] a,aG [32] [97,115],aG [32] s]++([aS [] [41]]++[])))) (hexQ.trans (by rw[if_pos hbare];simp only[hQ,hR,aO,oMS])) (oq.sel [0,1] rfl) hp9 (by rw[hb9,hb2,hb',hb1];simp[bX,gX,wr,aG,aS]) (by rw[hk9,hk2',hk',hk1];simp;omega) zO zO
   by_cases hk8x:kd=8
   ·exact(by omega:False).elim
   exact(by omega:False).elim
theorem prExpr_c8 (b n:Nat)(hIH:aBA b n)(kd:Int)(tb:aBs)(ks:List Ex)(cs:List Cnd)(ns:List aBs)(a s:aBs)(g:Int)(off:Nat)(hcls:kd=8)(B:Base)(c:aVs)(be:aBs)(lev:Int)(p v:Value)(k:Int)(bs:aBs)(h:Heap)(hd:eL (.mk kd tb ks cs ns a s g off)<=n+1)(hOK:gK (.mk kd tb ks cs ns a s g off))(hc:fT B.h c (.mk kd tb ks cs ns a s g off))(hp:dI b p)(hbe:be=[]∨be=[32])(hlev:0<=lev/\lev+dE (.mk kd tb ks cs ns a s g off)<=1000000000000)(hT:kQ B.h)(hF:iY B.h)
  (o:Own B [box b [p,v,iv k] 58,row v 5 1 bs.length (bytes bs)] h) (hl:bs.length+2000*fD (.mk kd tb ks cs ns a s g off)<=50000000000000) (hk:0<=k/\k+2000*fD (.mk kd tb ks cs ns a s g off)<=50000000000000) :
  Spec Tryz.prog 128 [pv b 0,sv be,.agg ⟨c⟩,iv lev] h (XEnds B b bs k (2000*fD (.mk kd tb ks cs ns a s g off)) (gP be (.mk kd tb ks cs ns a s g off)) (lev+dE (.mk kd tb ks cs ns a s g off) - 1)):=by
  rw[eL]at hd
  rw[gK]at hOK
  rw[fT]at hc
  rw[fD]at hl hk ⊢
  rw[dE]at hlev ⊢
  rw[show lev+((dK ks+1:Nat):Int) - 1=lev+dK ks by omega]
  obtain⟨bk,btb,bks,bcs,bns,ba,bs_,bg,lk,lc,ln⟩:=hOK
  obtain⟨vk,vc,vn,z,rfl,q1,q2,xs,q3,rk⟩:=hc
  rw[jC]at q2
  obtain⟨e1,f1,rfl⟩:=q1.isS
  obtain⟨e2,f2,rfl⟩:=q2.isS
  obtain⟨e3,f3,rfl⟩:=q3.isS
  unfold kG;have hxs:xs.length=ks.length:=lU rk;have hbel:be.length<=1:=by rcases hbe with rfl|rfl<;>simp
  refine eN Tryz.func128 Tryz.ntmps128 ?_;by_cases hkd:1<=kd/\kd<=8
  case neg =>
   exact(by omega:False).elim
  have hfa:=qM hF kd hkd.1 hkd.2;have hf1:=hfa.1;refine xB o λb50 m50 o50=>?_;refine d1_ [0,2,3,4,6,7,8,9,11,12,14,15,17,18] [1,5,10,13,16] [19] [0,1,2,3,4,5,6,7,8,9,10,11,12,13,14,15,16,17,18,19] ?_;refine fC aE ?_;refine oC o50 2 aK ?_;refine bB λc53=>fC aE ?_;refine oC o50 2 aK ?_;refine bB λc56=>fC aE ?_;refine oC o50 2 cR ?_;refine aDz rfl cH ?_;refine fC aE ?_;refine oC o50 2 aK ?_;refine aDo Tryz.underlying195 rQ rfl rfl zO zO ?_;refine fC sE ?_;refine load1 aK rfl (o50.old hf1) ?_;refine aDc zA (aH _ _) (λe1 m2 oc oq=>?_) λe1 m2 oq=>?_
  case refine_2 =>
   have e1:=of_decide_eq_false e1;have hq:gP be (.mk kd tb ks cs ns a s g off)=none:=by rw[gP,if_neg (λh=>e1 (by rw[h.2.2.1]))]
   exact⟨hq,rfl,oq⟩
  have hkl:ks.length=fW kd:=by have:=of_decide_eq_true e1;omega
  clear e1 oc;by_cases hkone:kd=1
  ·exact(by omega:False).elim
  ·have hexQ:gP be (.mk kd tb ks cs ns a s g off)=if gJ kd tb cs ns a s g=true then aO [some [aG be (dV.getD (kd - 2).toNat []),aS [] [40]],dD (eK gP) ks,eW kd cs ns a s g,some [aS [] [41]]] else none:=by
    rw[gP]
    by_cases hb:gJ kd tb cs ns a s g=true
    ·rw[if_pos ⟨hkd.1,hkd.2,hkl,hb⟩,if_neg hkone,if_pos hb,oX]
    ·rw[if_neg (λh=>hb h.2.2.2),if_neg hb]
   have hf2:=hfa.2 hkone;have hol:=aAO (kd - 2).toNat;generalize dV.getD (kd - 2).toNat []=opw at hexQ hf2 hol;clear hfa;refine nB oq 2 aQ ?_;refine aDH oq aQ λb201 m201 o201=>?_;(refine sA o201 3 aQ ?_;intro m202 o202);refine fB aE ?_;(refine sB o202 3 aK ?_;intro m204 o204);refine fB aE ?_;(refine sB o204 3 cR ?_;intro m206 o206);refine fB aE ?_;(refine sB o206 3 aK ?_;intro m208 o208);refine fB aE ?_;refine oB o208 2 aK ?_;refine bA λc211=>d1_ [0,1,2,3,4,6,7,9] [5,8] [10,11] [0,1,2,3,4,5,6,7,8,9,10,11] ?_;refine nC rfl ?_;refine fC cC ?_;refine fC aE ?_;refine oC o208 2 aK ?_;refine aDo Tryz.underlying195 rQ rfl rfl zO zO ?_;refine fC sE ?_;refine load1 aC rfl (o208.old hf2) ?_;refine aDb rfl rfl w_ ?_;refine lA o208 aB aC λb220 m220 o220=>?_;refine aM [be++opw,[40]] 2 30 [2,3] (i:=4) zA rfl rfl rfl hp rfl zO zO v_ zO zO (λp1 v1 bs1 k1 m1 hp1 hb1 hk1 hl1 oq=>?_);have o4:Own B [box b [p1,v1,.int .i64 k1] 58,row v1 5 1 bs1.length (bytes bs1),box b50 [.int .i64 kd,.string ⟨⟨tb⟩⟩,.slice e3 ks.length f3,.slice e1 cs.length f1,.slice e2 ns.length f2,.string ⟨⟨a⟩⟩,.string ⟨⟨s⟩⟩,.int .i64 g,.int .i64 z] 42,box b201 [.int .i64 0,.string ⟨⟨tb⟩⟩,.slice none 0 0,.slice e1 cs.length f1,.slice e2 ns.length f2,.string ⟨⟨a⟩⟩,.string ⟨⟨s⟩⟩,.int .i64 g,.int .i64 0] 42] m1:=oq;clear oq;refine fB aE ?_;refine oB o4 2 cR ?_;refine lB cH ?_;refine aDT [10,11,12,67,68,69,70,71,72,73,74,75,76,77,78,79,80,81,82,83,84,85,86,87,88,89,90] [10,67] (λvs' hh=>∃(i:Nat) (p' v':Value) (bs':aBs) (k':Int) (ps:List Pc),i<=ks.length/\vs'=[.int .i64 (lev+dK (ks.take i)),.int .i64 i]/\dI b p'/\dD (eK gP) (ks.take i)=some ps/\bs'=bs1++bX ps/\k'=k1+ps.length/\bs'.length<=bs1.length+(2000*gI (ks.take i)+30*i)/\k'<=k1+(2000*gI (ks.take i)+30*i)/\Own B [box b [p',v',.int .i64 k'] 58,row v' 5 1 bs'.length (bytes bs'),box b50 [.int .i64 kd,.string ⟨⟨tb⟩⟩,.slice e3 ks.length f3,.slice e1 cs.length f1,.slice e2 ns.length f2,.string ⟨⟨a⟩⟩,.string ⟨⟨s⟩⟩,.int .i64 g,.int .i64 z] 42,box b201 [.int .i64 0,.string ⟨⟨tb⟩⟩,.slice none 0 0,.slice e1 cs.length f1,.slice e2 ns.length f2,.string ⟨⟨a⟩⟩,.string ⟨⟨s⟩⟩,.int .i64 g,.int .i64 0] 42] hh) (λvs' _=>match vs' with|[_,.int _ i]=>ks.length - i.toNat|_=>0) ?_ ?_
   ·exact⟨0,p1,v1,bs1,k1,[],by omega,by simp[dK],hp1,rfl,by simp[bX],by simp,by omega,by omega,o4⟩
   rintro vs' junk hh ⟨i,p',v',bs',k',ps,hi,rfl,hp',hQ,hb',hk',hl',hk2,oh⟩;clear o4;have hk2s:ks.length<=2:=by rw[hkl];unfold fW;split<;>(try split)<;>omega
   have hszl:=fJ ks i;by_cases hlt:i<ks.length
   ·obtain⟨kx,hkx⟩:=getx hlt
    obtain⟨cx,hcx,hrx⟩:=iC rk hkx
    have hdx:=fX hkx;have hsz:=mO hkx;have hszl2:=fJ ks (i+1);have hlv:=lG hkx;have hlvl:dE kx<=dK ks:=mP hkx;have hlp:=qN kx;have hxOK:=gG bks hkx;have hrx2:=hrx
    obtain⟨cxv,hcl⟩:=cx
    obtain⟨xk,xt,xks,xcs,xns,xa,xs_,xg,xo⟩:=kx
    rw[fT]at hrx2
    obtain⟨wk,wc,wn,wz,hcv,g1,g2,gx,g3,_⟩:=hrx2
    obtain⟨h1,h2,rfl⟩:=g1.isS
    obtain⟨h3,h4,rfl⟩:=g2.isS
    obtain⟨h5,h6,rfl⟩:=g3.isS
    dsimp only at hcv hrx;subst hcv;unfold kG at hcx hrx hcl;clear g1 g2 g3;by_cases h0:i=0
    ·subst h0
     refine bB λc400=>rR (aDe cH aQ (q3.ext oh.ext) rfl zO zO ?_);refine rR (aDg aQ (q3.ext oh.ext) (λy:dG=>y.2) zD rfl zA ?_);refine aDH oh aQ λb403 m403 o403=>?_;(refine sA o403 4 aQ ?_;intro m404 o404);refine aDL (d1_ [0,1,3,4,7,8,10,11] [5,6] [9] [0,1,3,6,7,8,2,4,5,9,10,11] ?_);refine aDr o404 4 rfl aQ rfl rfl rfl ?_;refine aR (lA (Own.refl _) aB aC λb406 m406 o406=>?_);(refine aI o406.ext ?_;have o407:=Own.call o404 o406;simp only[lcA,lnA]at o407;clear o406);refine idxB o407 5 rfl aB aC rfl rfl zO w_ ?_;refine oC o407 5 aC ?_;refine XEnds.callJ [2,3] zA rfl rfl (λJ oj=>hIH _ _ _ [] _ p' v' k' bs' _ (aEc hdx zO) hxOK hrx hp' (.inl rfl) zO hT hF oj zO zO) (λps2 p2 v2 bs2 k2 m2 hq2 hp2 hb2 hk2' hl2 _ hj2 oq=>?_) (λm2 hq2 oq=>?_)
     case refine_2 =>
      have:dD (eK gP) ks=none:=aV hkx hQ hq2
      exact⟨hexQ.trans (by split;simp only[this,aO,oMN];rfl),rfl,oq⟩
     have o5:Own B [box b [p2,v2,iv k2] 58,row v2 5 1 bs2.length (bytes bs2),box b50 [iv kd,sv tb,.slice e3 ks.length f3,.slice e1 cs.length f1,.slice e2 ns.length f2,sv a,sv s,iv g,iv z] 42,box b201 [iv 0,sv tb,.slice none 0 0,.slice e1 cs.length f1,.slice e2 ns.length f2,sv a,sv s,iv g,iv 0] 42] m2:=oq;clear oq;refine max2 rfl rfl ?_;refine aR ?_
     refine⟨rfl,?_⟩
     refine⟨⟨0+1,p2,v2,bs2,k2,ps++ps2,by omega,?_,hp2,bL hkx hQ hq2,by rw[hb2,hb'];simp[bX],by rw[hk2',hk'];simp;omega,by omega,by omega,o_ [0,1,2,3]⟩,by simp;omega⟩
     congr 2
     omega
    ·obtain rfl:i=1:=by omega
     refine bB λc500=>rR (aDe cH aQ (q3.ext oh.ext) rfl zO zO ?_);refine rR (aDg aQ (q3.ext oh.ext) (λy:dG=>y.2) zD rfl zA ?_);refine aDH oh aQ λb503 m503 o503=>?_;(refine sA o503 4 aQ ?_;intro m504 o504);refine aDK (cB ?_);refine fB cC ?_;refine lA o504 aB aC λb507 m507 o507=>?_;refine aM [[44]] 1 30 [2,3,4] (i:=5) zA rfl rfl rfl hp' rfl zO zO zS zO zO (λp3 v3 bs3 k3 m3 hp3 hb3 hk3 hl3 oq=>?_);have o5:=oq
     simp only[pick,lgS,lgZ]at o5
     clear oq oh;refine d1_ [0,1,3,4,7,8,10,11] [5,6] [9] [0,1,3,6,7,8,2,4,5,9,10,11] ?_;refine aDr o5 4 rfl aQ rfl rfl rfl ?_;refine aR (lA (Own.refl _) aB aC λb551 m551 o551=>?_);(refine aI o551.ext ?_;have o552:=Own.call o5 o551;simp only[lcA,lnA]at o552;clear o551);refine idxB o552 5 rfl aB aC rfl rfl zO w_ ?_;refine oC o552 5 aC ?_;refine XEnds.callJ [2,3] zA rfl rfl (λJ oj=>hIH _ _ _ [32] _ p3 v3 k3 bs3 _ (aEc hdx zO) hxOK hrx hp3 (.inr rfl) zO hT hF oj zO zO) (λps2 p2 v2 bs2 k2 m2 hq2 hp2 hb2 hk2' hl2 _ hj2 oq=>?_) (λm2 hq2 oq=>?_)
     case refine_2 =>
      have:dD (eK gP) ks=none:=aV hkx hQ (by unfold eK;rw[if_neg zD,hq2];rfl)
      exact⟨hexQ.trans (by split;simp only[this,aO,oMN];rfl),rfl,oq⟩
     have o6:Own B [box b [p2,v2,iv k2] 58,row v2 5 1 bs2.length (bytes bs2),box b50 [iv kd,sv tb,.slice e3 ks.length f3,.slice e1 cs.length f1,.slice e2 ns.length f2,sv a,sv s,iv g,iv z] 42,box b201 [iv 0,sv tb,.slice none 0 0,.slice e1 cs.length f1,.slice e2 ns.length f2,sv a,sv s,iv g,iv 0] 42] m2:=oq;clear oq;refine max2 rfl rfl ?_;refine aR ?_
     refine⟨rfl,?_⟩
     refine⟨⟨1+1,p2,v2,bs2,k2,ps++(aS [] [44]::ps2),by omega,?_,hp2,bL hkx hQ (by unfold eK;rw[if_neg zD,hq2];rfl),by rw[hb2,hb3,hb'];simp[bX,gX,wr,aS],by rw[hk2',hk3,hk'];simp;omega,by omega,by omega,o_ [0,1,2,3]⟩,by simp;omega⟩
     congr 2
     omega
   have hQ:=fF (aEs hlt) hQ
   rw[aEa (aEs hlt)]at hl' hk2 ⊢
   by_cases hk2x:kd=2
   ·exact(by omega:False).elim
   by_cases hk3x:kd=3
   ·exact(by omega:False).elim
   by_cases hk7x:kd=7
   ·exact(by omega:False).elim
   by_cases hk8x:kd=8
   ·subst hk8x
    have hB:gJ 8 tb cs ns a s g=true↔tb=[]/\cs.length=0:=by simp[gJ]
    by_cases hw:rP ns=true
    case neg =>
     have hR:eW 8 cs ns a s g=none:=by unfold eW;rw[if_neg zD,if_neg zD,if_neg zD,if_pos rfl,if_neg hw]
     cases ns with
     | nil=>exact absurd rfl hw
     | cons n0 nr =>
      have hn0:n0=[119,105,116,104]:=by
       have:rP (n0::nr)=decide (n0≠[119,105,116,104]):=rfl
       rw[this]at hw
       simpa using hw
      subst hn0;have hq2:aY 1 B.h (.slice e2 (([119,105,116,104]:aBs)::nr).length f2) (([119,105,116,104]:aBs)::nr).length (strs ([119,105,116,104]::nr)):=q2;have hlen:(strs (([119,105,116,104]:aBs)::nr)).length=nr.length+1:=by simp[strs]
      have hh0:(strs (([119,105,116,104]:aBs)::nr))[0]?=some (sv [119,105,116,104]):=rfl;have hA:=(hq2.ext (Own.ext oh)).to1;have hnz:¬ (((([119,105,116,104]:aBs)::nr).length:Int)=0):=by simp only[aD1];omega
      refine bA λc1760=>fB aE ?_;refine oB oh 2 aK ?_;refine aDL (aDL ?_);refine aDL (aDL ?_);refine aDK (fB aE ?_);refine oB oh 2 cS ?_;refine lB aB ?_;refine bA λc1766=>fB aE ?_;refine oB oh 2 cS ?_;refine rR (idx aB aC hA rfl zO zO ?_);refine rR (aDq hA aC rfl a_ ?_);refine aDc (B:=B) zA (aH _ _) (λe8 m8 _ oq=>absurd e8 zD) λe8 m8 oq=>?_
      exact⟨hexQ.trans (by split;simp only[hQ,hR,aO,oMN,oMS];rfl),rfl,oq⟩
    have hRe:eW 8 cs ns a s g=aO [some [aG [32] [111,110]],jA bN [32] ns,some [aG [32] [119,105,116,104]],hO g [[99,111,117,110,116],[115,117,109],[108,101,97,115,116],[103,114,101,97,116,101,115,116]],(if g=1 then(if a=[] then some [] else none) else bN [32] a),some [aG [32] [97,115]],bN [32] s]:=by unfold eW;rw[if_neg zD,if_neg zD,if_neg zD,if_pos rfl,if_pos hw]
    by_cases hn0:ns.length=0
    ·refine bA λc1820=>?_
     refine fB aE ?_;refine oB oh 2 aK ?_;refine aDL (aDL ?_);refine aDL (aDL ?_);refine aDK (fB aE ?_);refine oB oh 2 cS ?_;refine lB aB ?_;refine bB λc1826=>aDc (B:=B) zA (aH _ _) (λe8 m8 _ oq=>?_) λe8 m8 oq=>absurd e8 zD;clear oh e8;have oh:Own B [box b [p',v',iv k'] 58,row v' 5 1 bs'.length (bytes bs'),box b50 [iv 8,sv tb,.slice e3 ks.length f3,.slice e1 cs.length f1,.slice e2 ns.length f2,sv a,sv s,iv g,iv z] 42,box b201 [iv 0,sv tb,.slice none 0 0,.slice e1 cs.length f1,.slice e2 ns.length f2,sv a,sv s,iv g,iv 0] 42] m8:=oq;clear oq;refine cB ?_;refine fB cC ?_;refine lA oh aB aC λb1882 m1882 o1882=>?_;refine aM [[32,111,110]] 1 30 [2,3] (i:=4) zA rfl rfl rfl hp' rfl zO zO zS zO zO (λp2 v2 bs2 k2 m2 hp2 hb2 hk2' hl2 oq=>?_);have o6:Own B [box b [p2,v2,iv k2] 58,row v2 5 1 bs2.length (bytes bs2),box b50 [iv 8,sv tb,.slice e3 ks.length f3,.slice e1 cs.length f1,.slice e2 ns.length f2,sv a,sv s,iv g,iv z] 42,box b201 [iv 0,sv tb,.slice none 0 0,.slice e1 cs.length f1,.slice e2 ns.length f2,sv a,sv s,iv g,iv 0] 42] m2:=oq;clear oq oh;refine fB aE ?_;refine oB o6 2 cS ?_;refine WEnds.callJ [2,3] zA rfl rfl (λJ oj=>nV ⟨B.h,J++B.T⟩ b p2 v2 k2 bs2 [32] ns _ _ hp2 (λL h o=>(q2.ext (Own.ext (B:=⟨B.h,J++B.T⟩) o)).to1) oj zO bns zO zO (.inr rfl)) (λps3 p3 v3 bs3 k3 m3 hq3 hp3 hb3 hk3' hl3 _ hj3 oq=>?_) (λm3 hq3 oq=>?_)
     case refine_2 =>
      have hR:eW 8 cs ns a s g=none:=by rw[hRe];simp only[hq3,aO,oMN]
      exact⟨hexQ.trans (by split;simp only[hQ,hR,aO,oMN,oMS];rfl),rfl,oq⟩
     have o7:Own B [box b [p3,v3,iv k3] 58,row v3 5 1 bs3.length (bytes bs3),box b50 [iv 8,sv tb,.slice e3 ks.length f3,.slice e1 cs.length f1,.slice e2 ns.length f2,sv a,sv s,iv g,iv z] 42,box b201 [iv 0,sv tb,.slice none 0 0,.slice e1 cs.length f1,.slice e2 ns.length f2,sv a,sv s,iv g,iv 0] 42] m3:=oq;clear oq o6;refine d1_ [0,1,2,3] [4] [6,7,8] [0,1,2,3,4,5,6,7,8] ?_;refine nC rfl ?_;refine fC cC ?_;refine fC aE ?_;refine oC o7 2 aK ?_;refine lA (Own.refl _) aB aC λb2004 m2004 o2004=>?_;(refine aI o2004.ext ?_;have o2005:=Own.call o7 o2004;simp only[lcA,lnA]at o2005;clear o2004);refine aDc (B:=B) zA (eS _ [[99,111,117,110,116],[115,117,109],[108,101,97,115,116],[103,114,101,97,116,101,115,116]] _ _ zO zO (Own.boxArr zA 4 rfl rfl zD) zS zS) (λe4 m4 _ oq=>?_) λe4 m4 oq=>?_
     case refine_2 =>
      have e4:=of_decide_eq_false e4;have hR:eW 8 cs ns a s g=none:=by rw[hRe];simp only[hq3,show hO g [[99,111,117,110,116],[115,117,109],[108,101,97,115,116],[103,114,101,97,116,101,115,116]]=none from if_neg e4,aO,oMN]
      exact⟨hexQ.trans (by split;simp only[hQ,hR,aO,oMN,oMS];rfl),rfl,oq⟩
     have e4:=of_decide_eq_true e4;have hq4:hO g [[99,111,117,110,116],[115,117,109],[108,101,97,115,116],[103,114,101,97,116,101,115,116]]=some [aG [32] (([[99,111,117,110,116],[115,117,109],[108,101,97,115,116],[103,114,101,97,116,101,115,116]]:List aBs).getD (g - 1).toNat [])]:=if_pos e4;have hg4:1<=g/\g<=4:=e4;have hwl:(([[99,111,117,110,116],[115,117,109],[108,101,97,115,116],[103,114,101,97,116,101,115,116]]:List aBs).getD (g - 1).toNat []).length<=8:=by
      have:g=1∨g=2∨g=3∨g=4:=by omega
      rcases this with h|h|h|h<;>rw[h]<;>decide
     generalize (([[99,111,117,110,116],[115,117,109],[108,101,97,115,116],[103,114,101,97,116,101,115,116]]:List aBs).getD (g - 1).toNat [])=agw at hq4 hwl
     clear o7;refine lA oq aB aC λb2060 m2060 o2060=>?_;refine aM [[32,119,105,116,104],32::agw] 2 30 [2,3] (i:=5) zA rfl rfl rfl hp3 rfl zO zO v_ zO zO (λp5 v5 bs5 k5 m5 hp5 hb5 hk5 hl5 oq=>?_);have o8:Own B [box b [p5,v5,iv k5] 58,row v5 5 1 bs5.length (bytes bs5),box b50 [iv 8,sv tb,.slice e3 ks.length f3,.slice e1 cs.length f1,.slice e2 ns.length f2,sv a,sv s,iv g,iv z] 42,box b201 [iv 0,sv tb,.slice none 0 0,.slice e1 cs.length f1,.slice e2 ns.length f2,sv a,sv s,iv g,iv 0] 42] m5:=oq;clear oq;by_cases hg1:g=1
     ·by_cases ha0:a=[]
      case neg =>
       have hR:eW 8 cs ns a s g=none:=by rw[hRe];simp only[hq3,hq4,if_pos hg1,if_neg ha0,aO,oMN]
       refine fB aE ?_;refine oB o8 2 aK ?_;refine bB λc2122=>fB aE ?_;refine oB o8 2 aC ?_;refine aDc (B:=B) zA (aH _ _) (λe6 m6 _ oq=>absurd (of_decide_eq_true e6) ha0) λe6 m6 oq=>?_
       exact⟨hexQ.trans (by split;simp only[hQ,hR,aO,oMN,oMS];rfl),rfl,oq⟩
      refine fB aE ?_;refine oB o8 2 aK ?_;refine bB λc2182=>fB aE ?_;refine oB o8 2 aC ?_;refine aDc (B:=B) zA (aH _ _) (λe6 m6 _ oq=>?_) λe6 m6 oq=>absurd ha0 (of_decide_eq_false e6);clear o8;refine d1_ [0,1,2,3,6] [4] [5,7,8] [0,1,2,3,4,5,6,7,8] ?_;refine nC rfl ?_;refine fC cC ?_;refine fC aE ?_;refine oC oq 2 aC ?_;refine aDc (B:=B) zA (bT s _ bs_) (λes mes oces oq=>?_) λes mes oq=>?_
      case refine_2 =>
       have hR:eW 8 cs ns a s g=none:=by rw[hRe];simp only[hq3,hq4,if_pos hg1,if_pos ha0,dM es,aO,oMN]
       exact⟨hexQ.trans (by split;simp only[hQ,hR,aO,oMN,oMS];rfl),rfl,oq⟩
      have hnles:=bJ es;clear oces;refine aDb rfl rfl w_ ?_;refine lA oq aB aC λb2301 m2301 o2301=>?_;refine aM [[32,97,115],[32]++s] 2 30 [2,3] (i:=4) zA rfl rfl rfl hp5 rfl zO zO v_ zO zO (λp7 v7 bs7 k7 m7 hp7 hb7 hk7' hl7 oq=>?_);have o10:Own B [box b [p7,v7,iv k7] 58,row v7 5 1 bs7.length (bytes bs7),box b50 [iv 8,sv tb,.slice e3 ks.length f3,.slice e1 cs.length f1,.slice e2 ns.length f2,sv a,sv s,iv g,iv z] 42,box b201 [iv 0,sv tb,.slice none 0 0,.slice e1 cs.length f1,.slice e2 ns.length f2,sv a,sv s,iv g,iv 0] 42] m7:=oq;clear oq;have hR:eW 8 cs ns a s g=some ([aG [32] [111,110]]++(ps3++([aG [32] [119,105,116,104]]++([aG [32] agw]++([]++([aG [32] [97,115]]++([aG [32] s]++[]))))))):=by rw[hRe];simp only[hq3,hq4,if_pos hg1,if_pos ha0,aD es,aO,oMS]
      refine fB aE ?_;(refine sB o10 3 cS ?_;intro m2361 o2361);refine fB aE ?_;(refine sB o2361 3 aC ?_;intro m2363 o2363);refine fB aE ?_;(refine sB o2363 3 aC ?_;intro m2365 o2365);refine fB aE ?_;(refine sB o2365 3 aK ?_;intro m2367 o2367);refine fB aE ?_;refine oB o2367 2 aK ?_;refine aDK (cB ?_);refine fB cC ?_;refine lA o2367 aB aC λb2372 m2372 o2372=>?_;refine aM [[41]] 1 30 [2,3] (i:=4) zA rfl rfl rfl hp7 rfl zO zO zS zO zO (λp9 v9 bs9 k9 m9 hp9 hb9 hk9 hl9 oq=>?_);have o9:Own B [box b [p9,v9,iv k9] 58,row v9 5 1 bs9.length (bytes bs9),box b50 [iv 8,sv tb,.slice e3 ks.length f3,.slice e1 cs.length f1,.slice e2 ns.length f2,sv a,sv s,iv g,iv z] 42,box b201 [iv 0,sv tb,.slice none 0 0,.slice e1 cs.length f1,.slice none 0 0,sv [],sv [],iv 0,iv 0] 42] m9:=oq;clear oq;refine fB aE ?_;refine oB o9 3 aC ?_;refine aDJ (λc2422=>?_) (λc2422=>?_);refine fB aE ?_;refine oB o9 3 kI ?_;refine lB gL ?_;refine aDJ (λc2426=>?_) (λc2426=>?_);refine fB aE ?_;refine oB o9 3 cS ?_;refine lB aB ?_;refine aDK (fB aE ?_);refine oB o9 3 aC ?_;refine aDK (fB aE ?_);refine oB o9 3 aC ?_;refine aDK (fB aE ?_);refine oB o9 3 aK ?_
      any_goals (refine aDc (B:=B) zA (aH false _) (λe8 m8 _ oq=>by cases e8) λe8 m8 oq=>?_;exact⟨hexQ.trans (if_neg λhb=>by obtain⟨x0,x1⟩:=hB.1 hb;first|contradiction|omega),rfl,oq⟩)
      refine aDc (B:=B) zA (aH _ _) (λe8 m8 _ oq=>?_) λe8 m8 oq=>?_
      case refine_2 =>
       exact absurd e8 zD
      have hbare:=hB.2 ⟨by assumption,by omega⟩;refine rO ?_;exact XEnds.done (ps:=[aG be opw,aS [] [40]]++(ps++(([aG [32] [111,110]]++(ps3++([aG [32] [119,105,116,104]]++([aG [32] agw]++([]++([aG [32] [97,115]]++([aG [32] s]++[])))))))++([aS [] [41]]++[])))) (hexQ.trans (by rw[if_pos hbare];simp only[hQ,hR,aO,oMS])) (oq.sel [0,1] rfl) hp9 (by rw[hb9,hb7,hb5,hb3,hb2,hb',hb1];simp[bX,gX,wr,aG,aS]) (by rw[hk9,hk7',hk5,hk3',hk2',hk',hk1];simp;omega) zO zO
     ·refine fB aE ?_
      refine oB o8 2 aK ?_;refine bA λc2542=>d1_ [0,1,2,3,6] [4] [5,7,8] [0,1,2,3,4,5,6,7,8] ?_;refine nC rfl ?_;refine fC cC ?_;refine fC aE ?_;refine oC o8 2 aC ?_;refine aDc (B:=B) zA (bT a _ ba) (λea mea ocea oq=>?_) λea mea oq=>?_
      case refine_2 =>
       have hR:eW 8 cs ns a s g=none:=by rw[hRe];simp only[hq3,hq4,if_neg hg1,dM ea,aO,oMN]
       exact⟨hexQ.trans (by split;simp only[hQ,hR,aO,oMN,oMS];rfl),rfl,oq⟩
      have hnlea:=bJ ea;clear ocea o8;refine aDb rfl rfl w_ ?_;refine lA oq aB aC λb2601 m2601 o2601=>?_;refine aM [[32]++a] 1 30 [2,3] (i:=4) zA rfl rfl rfl hp5 rfl zO zO v_ zO zO (λp6 v6 bs6 k6 m6 hp6 hb6 hk6' hl6 oq=>?_);have o10:Own B [box b [p6,v6,iv k6] 58,row v6 5 1 bs6.length (bytes bs6),box b50 [iv 8,sv tb,.slice e3 ks.length f3,.slice e1 cs.length f1,.slice e2 ns.length f2,sv a,sv s,iv g,iv z] 42,box b201 [iv 0,sv tb,.slice none 0 0,.slice e1 cs.length f1,.slice e2 ns.length f2,sv a,sv s,iv g,iv 0] 42] m6:=oq;clear oq;refine d1_ [0,1,2,3,6] [4] [5,7,8] [0,1,2,3,4,5,6,7,8] ?_;refine nC rfl ?_;refine fC cC ?_;refine fC aE ?_;refine oC o10 2 aC ?_;refine aDc (B:=B) zA (bT s _ bs_) (λes mes oces oq=>?_) λes mes oq=>?_
      case refine_2 =>
       have hR:eW 8 cs ns a s g=none:=by rw[hRe];simp only[hq3,hq4,if_neg hg1,aD ea,dM es,aO,oMN]
       exact⟨hexQ.trans (by split;simp only[hQ,hR,aO,oMN,oMS];rfl),rfl,oq⟩
      have hnles:=bJ es;clear oces o10;refine aDb rfl rfl w_ ?_;refine lA oq aB aC λb2721 m2721 o2721=>?_;refine aM [[32,97,115],[32]++s] 2 30 [2,3] (i:=4) zA rfl rfl rfl hp6 rfl zO zO v_ zO zO (λp7 v7 bs7 k7 m7 hp7 hb7 hk7' hl7 oq=>?_);have o11:Own B [box b [p7,v7,iv k7] 58,row v7 5 1 bs7.length (bytes bs7),box b50 [iv 8,sv tb,.slice e3 ks.length f3,.slice e1 cs.length f1,.slice e2 ns.length f2,sv a,sv s,iv g,iv z] 42,box b201 [iv 0,sv tb,.slice none 0 0,.slice e1 cs.length f1,.slice e2 ns.length f2,sv a,sv s,iv g,iv 0] 42] m7:=oq;clear oq;have hR:eW 8 cs ns a s g=some ([aG [32] [111,110]]++(ps3++([aG [32] [119,105,116,104]]++([aG [32] agw]++([aG [32] a]++([aG [32] [97,115]]++([aG [32] s]++[]))))))):=by rw[hRe];simp only[hq3,hq4,if_neg hg1,aD ea,aD es,aO,oMS]
      refine fB aE ?_;(refine sB o11 3 cS ?_;intro m2781 o2781);refine fB aE ?_;(refine sB o2781 3 aC ?_;intro m2783 o2783);refine fB aE ?_;(refine sB o2783 3 aC ?_;intro m2785 o2785);refine fB aE ?_;(refine sB o2785 3 aK ?_;intro m2787 o2787);refine fB aE ?_;refine oB o2787 2 aK ?_;refine aDK (cB ?_);refine fB cC ?_;refine lA o2787 aB aC λb2792 m2792 o2792=>?_;refine aM [[41]] 1 30 [2,3] (i:=4) zA rfl rfl rfl hp7 rfl zO zO zS zO zO (λp9 v9 bs9 k9 m9 hp9 hb9 hk9 hl9 oq=>?_);have o9:Own B [box b [p9,v9,iv k9] 58,row v9 5 1 bs9.length (bytes bs9),box b50 [iv 8,sv tb,.slice e3 ks.length f3,.slice e1 cs.length f1,.slice e2 ns.length f2,sv a,sv s,iv g,iv z] 42,box b201 [iv 0,sv tb,.slice none 0 0,.slice e1 cs.length f1,.slice none 0 0,sv [],sv [],iv 0,iv 0] 42] m9:=oq;clear oq;refine fB aE ?_;refine oB o9 3 aC ?_;refine aDJ (λc2842=>?_) (λc2842=>?_);refine fB aE ?_;refine oB o9 3 kI ?_;refine lB gL ?_;refine aDJ (λc2846=>?_) (λc2846=>?_);refine fB aE ?_;refine oB o9 3 cS ?_;refine lB aB ?_;refine aDK (fB aE ?_);refine oB o9 3 aC ?_;refine aDK (fB aE ?_);refine oB o9 3 aC ?_;refine aDK (fB aE ?_);refine oB o9 3 aK ?_
      any_goals (refine aDc (B:=B) zA (aH false _) (λe8 m8 _ oq=>by cases e8) λe8 m8 oq=>?_;exact⟨hexQ.trans (if_neg λhb=>by obtain⟨x0,x1⟩:=hB.1 hb;first|contradiction|omega),rfl,oq⟩)
      refine aDc (B:=B) zA (aH _ _) (λe8 m8 _ oq=>?_) λe8 m8 oq=>?_
      case refine_2 =>
       exact absurd e8 zD
      have hbare:=hB.2 ⟨by assumption,by omega⟩;refine rO ?_;exact XEnds.done (ps:=[aG be opw,aS [] [40]]++(ps++(([aG [32] [111,110]]++(ps3++([aG [32] [119,105,116,104]]++([aG [32] agw]++([aG [32] a]++([aG [32] [97,115]]++([aG [32] s]++[])))))))++([aS [] [41]]++[])))) (hexQ.trans (by rw[if_pos hbare];simp only[hQ,hR,aO,oMS])) (oq.sel [0,1] rfl) hp9 (by rw[hb9,hb7,hb6,hb5,hb3,hb2,hb',hb1];simp[bX,gX,wr,aG,aS]) (by rw[hk9,hk7',hk6',hk5,hk3',hk2',hk',hk1];simp;omega) zO zO
    ·obtain⟨n0,hn1⟩:=getx (l:=ns) (i:=0) zO
     have hne:¬ n0=[119,105,116,104]:=by
      cases ns with
      | nil=>simp at hn1
      | cons y r =>
       simp at hn1
       subst hn1;exact of_decide_eq_true hw
     have hlen:(strs ns).length=ns.length:=by simp[strs]
     have hh0:(strs ns)[0]?=some (sv n0):=by simp[strs,hn1]
     have hA:=(q2.ext (Own.ext oh)).to1;refine bA λc2960=>fB aE ?_;refine oB oh 2 aK ?_;refine aDL (aDL ?_);refine aDL (aDL ?_);refine aDK (fB aE ?_);refine oB oh 2 cS ?_;refine lB aB ?_;refine bA λc2966=>fB aE ?_;refine oB oh 2 cS ?_;refine rR (idx aB aC hA rfl zO zO ?_);refine rR (aDq hA aC rfl a_ ?_);refine aDc (B:=B) zA (aH _ _) (λe8 m8 _ oq=>?_) λe8 m8 oq=>absurd e8 (by simp[hne]);clear oh e8 hA;have oh:Own B [box b [p',v',iv k'] 58,row v' 5 1 bs'.length (bytes bs'),box b50 [iv 8,sv tb,.slice e3 ks.length f3,.slice e1 cs.length f1,.slice e2 ns.length f2,sv a,sv s,iv g,iv z] 42,box b201 [iv 0,sv tb,.slice none 0 0,.slice e1 cs.length f1,.slice e2 ns.length f2,sv a,sv s,iv g,iv 0] 42] m8:=oq;clear oq;refine cB ?_;refine fB cC ?_;refine lA oh aB aC λb3022 m3022 o3022=>?_;refine aM [[32,111,110]] 1 30 [2,3] (i:=4) zA rfl rfl rfl hp' rfl zO zO zS zO zO (λp2 v2 bs2 k2 m2 hp2 hb2 hk2' hl2 oq=>?_);have o6:Own B [box b [p2,v2,iv k2] 58,row v2 5 1 bs2.length (bytes bs2),box b50 [iv 8,sv tb,.slice e3 ks.length f3,.slice e1 cs.length f1,.slice e2 ns.length f2,sv a,sv s,iv g,iv z] 42,box b201 [iv 0,sv tb,.slice none 0 0,.slice e1 cs.length f1,.slice e2 ns.length f2,sv a,sv s,iv g,iv 0] 42] m2:=oq;clear oq oh
     refine fB aE ?_;refine oB o6 2 cS ?_;refine WEnds.callJ [2,3] zA rfl rfl (λJ oj=>nV ⟨B.h,J++B.T⟩ b p2 v2 k2 bs2 [32] ns _ _ hp2 (λL h o=>(q2.ext (Own.ext (B:=⟨B.h,J++B.T⟩) o)).to1) oj zO bns zO zO (.inr rfl)) (λps3 p3 v3 bs3 k3 m3 hq3 hp3 hb3 hk3' hl3 _ hj3 oq=>?_) (λm3 hq3 oq=>?_)
     case refine_2 =>
      have hR:eW 8 cs ns a s g=none:=by rw[hRe];simp only[hq3,aO,oMN]
      exact⟨hexQ.trans (by split;simp only[hQ,hR,aO,oMN,oMS];rfl),rfl,oq⟩
     have o7:Own B [box b [p3,v3,iv k3] 58,row v3 5 1 bs3.length (bytes bs3),box b50 [iv 8,sv tb,.slice e3 ks.length f3,.slice e1 cs.length f1,.slice e2 ns.length f2,sv a,sv s,iv g,iv z] 42,box b201 [iv 0,sv tb,.slice none 0 0,.slice e1 cs.length f1,.slice e2 ns.length f2,sv a,sv s,iv g,iv 0] 42] m3:=oq;clear oq o6;refine d1_ [0,1,2,3] [4] [6,7,8] [0,1,2,3,4,5,6,7,8] ?_;refine nC rfl ?_;refine fC cC ?_;refine fC aE ?_;refine oC o7 2 aK ?_;refine lA (Own.refl _) aB aC λb3144 m3144 o3144=>?_;(refine aI o3144.ext ?_;have o3145:=Own.call o7 o3144;simp only[lcA,lnA]at o3145;clear o3144);refine aDc (B:=B) zA (eS _ [[99,111,117,110,116],[115,117,109],[108,101,97,115,116],[103,114,101,97,116,101,115,116]] _ _ zO zO (Own.boxArr zA 4 rfl rfl zD) zS zS) (λe4 m4 _ oq=>?_) λe4 m4 oq=>?_
     case refine_2 =>
      have e4:=of_decide_eq_false e4;have hR:eW 8 cs ns a s g=none:=by rw[hRe];simp only[hq3,show hO g [[99,111,117,110,116],[115,117,109],[108,101,97,115,116],[103,114,101,97,116,101,115,116]]=none from if_neg e4,aO,oMN]
      exact⟨hexQ.trans (by split;simp only[hQ,hR,aO,oMN,oMS];rfl),rfl,oq⟩
     have e4:=of_decide_eq_true e4;have hq4:hO g [[99,111,117,110,116],[115,117,109],[108,101,97,115,116],[103,114,101,97,116,101,115,116]]=some [aG [32] (([[99,111,117,110,116],[115,117,109],[108,101,97,115,116],[103,114,101,97,116,101,115,116]]:List aBs).getD (g - 1).toNat [])]:=if_pos e4;have hg4:1<=g/\g<=4:=e4;have hwl:(([[99,111,117,110,116],[115,117,109],[108,101,97,115,116],[103,114,101,97,116,101,115,116]]:List aBs).getD (g - 1).toNat []).length<=8:=by
      have:g=1∨g=2∨g=3∨g=4:=by omega
      rcases this with h|h|h|h<;>rw[h]<;>decide
     generalize (([[99,111,117,110,116],[115,117,109],[108,101,97,115,116],[103,114,101,97,116,101,115,116]]:List aBs).getD (g - 1).toNat [])=agw at hq4 hwl
     clear o7;refine lA oq aB aC λb3200 m3200 o3200=>?_;refine aM [[32,119,105,116,104],32::agw] 2 30 [2,3] (i:=5) zA rfl rfl rfl hp3 rfl zO zO v_ zO zO (λp5 v5 bs5 k5 m5 hp5 hb5 hk5 hl5 oq=>?_);have o8:Own B [box b [p5,v5,iv k5] 58,row v5 5 1 bs5.length (bytes bs5),box b50 [iv 8,sv tb,.slice e3 ks.length f3,.slice e1 cs.length f1,.slice e2 ns.length f2,sv a,sv s,iv g,iv z] 42,box b201 [iv 0,sv tb,.slice none 0 0,.slice e1 cs.length f1,.slice e2 ns.length f2,sv a,sv s,iv g,iv 0] 42] m5:=oq;clear oq;by_cases hg1:g=1
     ·by_cases ha0:a=[]
      case neg =>
       have hR:eW 8 cs ns a s g=none:=by rw[hRe];simp only[hq3,hq4,if_pos hg1,if_neg ha0,aO,oMN]
       refine fB aE ?_;refine oB o8 2 aK ?_;refine bB λc3262=>fB aE ?_;refine oB o8 2 aC ?_;refine aDc (B:=B) zA (aH _ _) (λe6 m6 _ oq=>absurd (of_decide_eq_true e6) ha0) λe6 m6 oq=>?_
       exact⟨hexQ.trans (by split;simp only[hQ,hR,aO,oMN,oMS];rfl),rfl,oq⟩
      refine fB aE ?_;refine oB o8 2 aK ?_;refine bB λc3322=>fB aE ?_;refine oB o8 2 aC ?_;refine aDc (B:=B) zA (aH _ _) (λe6 m6 _ oq=>?_) λe6 m6 oq=>absurd ha0 (of_decide_eq_false e6);clear o8;refine d1_ [0,1,2,3,6] [4] [5,7,8] [0,1,2,3,4,5,6,7,8] ?_;refine nC rfl ?_;refine fC cC ?_;refine fC aE ?_;refine oC oq 2 aC ?_;refine aDc (B:=B) zA (bT s _ bs_) (λes mes oces oq=>?_) λes mes oq=>?_
      case refine_2 =>
       have hR:eW 8 cs ns a s g=none:=by rw[hRe];simp only[hq3,hq4,if_pos hg1,if_pos ha0,dM es,aO,oMN]
       exact⟨hexQ.trans (by split;simp only[hQ,hR,aO,oMN,oMS];rfl),rfl,oq⟩
      have hnles:=bJ es;clear oces;refine aDb rfl rfl w_ ?_;refine lA oq aB aC λb3441 m3441 o3441=>?_;refine aM [[32,97,115],[32]++s] 2 30 [2,3] (i:=4) zA rfl rfl rfl hp5 rfl zO zO v_ zO zO (λp7 v7 bs7 k7 m7 hp7 hb7 hk7' hl7 oq=>?_);have o10:Own B [box b [p7,v7,iv k7] 58,row v7 5 1 bs7.length (bytes bs7),box b50 [iv 8,sv tb,.slice e3 ks.length f3,.slice e1 cs.length f1,.slice e2 ns.length f2,sv a,sv s,iv g,iv z] 42,box b201 [iv 0,sv tb,.slice none 0 0,.slice e1 cs.length f1,.slice e2 ns.length f2,sv a,sv s,iv g,iv 0] 42] m7:=oq;clear oq;have hR:eW 8 cs ns a s g=some ([aG [32] [111,110]]++(ps3++([aG [32] [119,105,116,104]]++([aG [32] agw]++([]++([aG [32] [97,115]]++([aG [32] s]++[]))))))):=by rw[hRe];simp only[hq3,hq4,if_pos hg1,if_pos ha0,aD es,aO,oMS]
      refine fB aE ?_;(refine sB o10 3 cS ?_;intro m3501 o3501);refine fB aE ?_;(refine sB o3501 3 aC ?_;intro m3503 o3503);refine fB aE ?_;(refine sB o3503 3 aC ?_;intro m3505 o3505);refine fB aE ?_;(refine sB o3505 3 aK ?_;intro m3507 o3507);refine fB aE ?_;refine oB o3507 2 aK ?_;refine aDK (cB ?_);refine fB cC ?_;refine lA o3507 aB aC λb3512 m3512 o3512=>?_;refine aM [[41]] 1 30 [2,3] (i:=4) zA rfl rfl rfl hp7 rfl zO zO zS zO zO (λp9 v9 bs9 k9 m9 hp9 hb9 hk9 hl9 oq=>?_);have o9:Own B [box b [p9,v9,iv k9] 58,row v9 5 1 bs9.length (bytes bs9),box b50 [iv 8,sv tb,.slice e3 ks.length f3,.slice e1 cs.length f1,.slice e2 ns.length f2,sv a,sv s,iv g,iv z] 42,box b201 [iv 0,sv tb,.slice none 0 0,.slice e1 cs.length f1,.slice none 0 0,sv [],sv [],iv 0,iv 0] 42] m9:=oq;clear oq;refine fB aE ?_;refine oB o9 3 aC ?_;refine aDJ (λc3562=>?_) (λc3562=>?_);refine fB aE ?_;refine oB o9 3 kI ?_;refine lB gL ?_;refine aDJ (λc3566=>?_) (λc3566=>?_);refine fB aE ?_;refine oB o9 3 cS ?_;refine lB aB ?_;refine aDK (fB aE ?_);refine oB o9 3 aC ?_;refine aDK (fB aE ?_);refine oB o9 3 aC ?_;refine aDK (fB aE ?_);refine oB o9 3 aK ?_
      any_goals (refine aDc (B:=B) zA (aH false _) (λe8 m8 _ oq=>by cases e8) λe8 m8 oq=>?_;exact⟨hexQ.trans (if_neg λhb=>by obtain⟨x0,x1⟩:=hB.1 hb;first|contradiction|omega),rfl,oq⟩)
      refine aDc (B:=B) zA (aH _ _) (λe8 m8 _ oq=>?_) λe8 m8 oq=>?_
      case refine_2 =>
       exact absurd e8 zD
      have hbare:=hB.2 ⟨by assumption,by omega⟩;refine rO ?_;exact XEnds.done (ps:=[aG be opw,aS [] [40]]++(ps++(([aG [32] [111,110]]++(ps3++([aG [32] [119,105,116,104]]++([aG [32] agw]++([]++([aG [32] [97,115]]++([aG [32] s]++[])))))))++([aS [] [41]]++[])))) (hexQ.trans (by rw[if_pos hbare];simp only[hQ,hR,aO,oMS])) (oq.sel [0,1] rfl) hp9 (by rw[hb9,hb7,hb5,hb3,hb2,hb',hb1];simp[bX,gX,wr,aG,aS]) (by rw[hk9,hk7',hk5,hk3',hk2',hk',hk1];simp;omega) zO zO
     ·refine fB aE ?_
      refine oB o8 2 aK ?_;refine bA λc3682=>d1_ [0,1,2,3,6] [4] [5,7,8] [0,1,2,3,4,5,6,7,8] ?_;refine nC rfl ?_;refine fC cC ?_;refine fC aE ?_;refine oC o8 2 aC ?_;refine aDc (B:=B) zA (bT a _ ba) (λea mea ocea oq=>?_) λea mea oq=>?_
      case refine_2 =>
       have hR:eW 8 cs ns a s g=none:=by rw[hRe];simp only[hq3,hq4,if_neg hg1,dM ea,aO,oMN]
       exact⟨hexQ.trans (by split;simp only[hQ,hR,aO,oMN,oMS];rfl),rfl,oq⟩
      have hnlea:=bJ ea;clear ocea o8;refine aDb rfl rfl w_ ?_;refine lA oq aB aC λb3741 m3741 o3741=>?_;refine aM [[32]++a] 1 30 [2,3] (i:=4) zA rfl rfl rfl hp5 rfl zO zO v_ zO zO (λp6 v6 bs6 k6 m6 hp6 hb6 hk6' hl6 oq=>?_);have o10:Own B [box b [p6,v6,iv k6] 58,row v6 5 1 bs6.length (bytes bs6),box b50 [iv 8,sv tb,.slice e3 ks.length f3,.slice e1 cs.length f1,.slice e2 ns.length f2,sv a,sv s,iv g,iv z] 42,box b201 [iv 0,sv tb,.slice none 0 0,.slice e1 cs.length f1,.slice e2 ns.length f2,sv a,sv s,iv g,iv 0] 42] m6:=oq;clear oq;refine d1_ [0,1,2,3,6] [4] [5,7,8] [0,1,2,3,4,5,6,7,8] ?_;refine nC rfl ?_;refine fC cC ?_;refine fC aE ?_;refine oC o10 2 aC ?_;refine aDc (B:=B) zA (bT s _ bs_) (λes mes oces oq=>?_) λes mes oq=>?_
      case refine_2 =>
       have hR:eW 8 cs ns a s g=none:=by rw[hRe];simp only[hq3,hq4,if_neg hg1,aD ea,dM es,aO,oMN]
       exact⟨hexQ.trans (by split;simp only[hQ,hR,aO,oMN,oMS];rfl),rfl,oq⟩
      have hnles:=bJ es;clear oces o10;refine aDb rfl rfl w_ ?_;refine lA oq aB aC λb3861 m3861 o3861=>?_;refine aM [[32,97,115],[32]++s] 2 30 [2,3] (i:=4) zA rfl rfl rfl hp6 rfl zO zO v_ zO zO (λp7 v7 bs7 k7 m7 hp7 hb7 hk7' hl7 oq=>?_);have o11:Own B [box b [p7,v7,iv k7] 58,row v7 5 1 bs7.length (bytes bs7),box b50 [iv 8,sv tb,.slice e3 ks.length f3,.slice e1 cs.length f1,.slice e2 ns.length f2,sv a,sv s,iv g,iv z] 42,box b201 [iv 0,sv tb,.slice none 0 0,.slice e1 cs.length f1,.slice e2 ns.length f2,sv a,sv s,iv g,iv 0] 42] m7:=oq;clear oq;have hR:eW 8 cs ns a s g=some ([aG [32] [111,110]]++(ps3++([aG [32] [119,105,116,104]]++([aG [32] agw]++([aG [32] a]++([aG [32] [97,115]]++([aG [32] s]++[]))))))):=by rw[hRe];simp only[hq3,hq4,if_neg hg1,aD ea,aD es,aO,oMS]
      refine fB aE ?_;(refine sB o11 3 cS ?_;intro m3921 o3921);refine fB aE ?_;(refine sB o3921 3 aC ?_;intro m3923 o3923);refine fB aE ?_;(refine sB o3923 3 aC ?_;intro m3925 o3925);refine fB aE ?_;(refine sB o3925 3 aK ?_;intro m3927 o3927);refine fB aE ?_;refine oB o3927 2 aK ?_;refine aDK (cB ?_);refine fB cC ?_;refine lA o3927 aB aC λb3932 m3932 o3932=>?_;refine aM [[41]] 1 30 [2,3] (i:=4) zA rfl rfl rfl hp7 rfl zO zO zS zO zO (λp9 v9 bs9 k9 m9 hp9 hb9 hk9 hl9 oq=>?_);have o9:Own B [box b [p9,v9,iv k9] 58,row v9 5 1 bs9.length (bytes bs9),box b50 [iv 8,sv tb,.slice e3 ks.length f3,.slice e1 cs.length f1,.slice e2 ns.length f2,sv a,sv s,iv g,iv z] 42,box b201 [iv 0,sv tb,.slice none 0 0,.slice e1 cs.length f1,.slice none 0 0,sv [],sv [],iv 0,iv 0] 42] m9:=oq;clear oq;refine fB aE ?_;refine oB o9 3 aC ?_;refine aDJ (λc3982=>?_) (λc3982=>?_);refine fB aE ?_;refine oB o9 3 kI ?_;refine lB gL ?_;refine aDJ (λc3986=>?_) (λc3986=>?_);refine fB aE ?_;refine oB o9 3 cS ?_;refine lB aB ?_;refine aDK (fB aE ?_);refine oB o9 3 aC ?_;refine aDK (fB aE ?_);refine oB o9 3 aC ?_;refine aDK (fB aE ?_);refine oB o9 3 aK ?_
      any_goals (refine aDc (B:=B) zA (aH false _) (λe8 m8 _ oq=>by cases e8) λe8 m8 oq=>?_;exact⟨hexQ.trans (if_neg λhb=>by obtain⟨x0,x1⟩:=hB.1 hb;first|contradiction|omega),rfl,oq⟩)
      refine aDc (B:=B) zA (aH _ _) (λe8 m8 _ oq=>?_) λe8 m8 oq=>?_
      case refine_2 =>
       exact absurd e8 zD
      have hbare:=hB.2 ⟨by assumption,by omega⟩;refine rO ?_;exact XEnds.done (ps:=[aG be opw,aS [] [40]]++(ps++(([aG [32] [111,110]]++(ps3++([aG [32] [119,105,116,104]]++([aG [32] agw]++([aG [32] a]++([aG [32] [97,115]]++([aG [32] s]++[])))))))++([aS [] [41]]++[])))) (hexQ.trans (by rw[if_pos hbare];simp only[hQ,hR,aO,oMS])) (oq.sel [0,1] rfl) hp9 (by rw[hb9,hb7,hb6,hb5,hb3,hb2,hb',hb1];simp[bX,gX,wr,aG,aS]) (by rw[hk9,hk7',hk6',hk5,hk3',hk2',hk',hk1];simp;omega) zO zO
   exact(by omega:False).elim
theorem yR (b:Nat):∀ n,aBA b n
 | 0=>λx _ _ _ _ _ _ _ _ _ hd=>absurd hd (by cases x;rw[eL];omega)
 | n+1=>λx B c be lev p v k bs h hd hOK hc hp hbe hlev hT hF o hl hk=>by
  have ih:=yR b n
  obtain⟨kd,tb,ks,cs,ns,a,s,g,off⟩:=x
  by_cases h2:kd=2
  ·exact prExpr_c2 b n ih kd tb ks cs ns a s g off h2 B c be lev p v k bs h hd hOK hc hp hbe hlev hT hF o hl hk
  by_cases h3:kd=3
  ·exact prExpr_c3 b n ih kd tb ks cs ns a s g off h3 B c be lev p v k bs h hd hOK hc hp hbe hlev hT hF o hl hk
  by_cases h7:kd=7
  ·exact prExpr_c7 b n ih kd tb ks cs ns a s g off h7 B c be lev p v k bs h hd hOK hc hp hbe hlev hT hF o hl hk
  by_cases h8:kd=8
  ·exact prExpr_c8 b n ih kd tb ks cs ns a s g off h8 B c be lev p v k bs h hd hOK hc hp hbe hlev hT hF o hl hk
  by_cases hD:kd=4∨kd=5∨kd=6
  ·exact prExpr_cD b n ih kd tb ks cs ns a s g off hD B c be lev p v k bs h hd hOK hc hp hbe hlev hT hF o hl hk
  ·exact prExpr_cT b n ih kd tb ks cs ns a s g off zO B c be lev p v k bs h hd hOK hc hp hbe hlev hT hF o hl hk
theorem aCs (B:Base)(b bx:Nat)(p v:Value)(k:Int)(bs:aBs)(x:It)(z:Int)(vc vn vt vf vv vd e0 e1 e2 e3 e4 e5 e6 e7 e8:Value)(h:Heap)(hp:dI b p)(hT:kQ B.h)(hF:iY B.h)(hOK:fO x)(hE:fT B.h [e0,e1,e2,e3,e4,e5,e6,e7,e8] x.expr)(hLev:dE x.expr<=100000000000)
  (o:Own B [box b [p,v,iv k] 58,row v 5 1 bs.length (bytes bs),box bx (eD x z vc vn vt vf vv vd e0 e1 e2 e3 e4 e5 e6 e7 e8) 44] h) (hl:bs.length+2000*dF x<=40000000000000) (hk:0<=k/\k+2000*dF x<=40000000000000) :
  Spec Tryz.prog 79 [pv b 0,pv bx 0] h (IEnds B b bx bs k (2000*dF x+60) (eD (clr10 x) (if 12<dE x.expr then -1 else z) vc vn vt vf vv vd (iv 0) (sv []) aP aP aP (sv []) (sv []) (iv 0) (iv 0)) (aCP x)):=by
 obtain⟨bkind,bname,btable,battr,bcols,bnames,bby,bn,bm,bterms,both,boat,bfixed,bvars,bconds,bexpr,lcols,lnames,lterms,lfixed,lvars,lconds⟩:=hOK
 have hsz:dF x=1+x.cols.length+x.names.length+x.terms.length+x.fixed.length+x.vars.length+x.conds.length+fD x.expr:=rfl;have hE2:=hE;unfold eD at o;have hRe:aCP x=aO [some [aS [32] [61]],gP [32] x.expr]:=rfl;refine eN Tryz.func79 Tryz.ntmps79 ?_;refine cB ?_;refine fB cC ?_;refine lA o aB aC λb62 m62 o62=>?_;refine aM [[32,61]] 1 30 [2] (i:=3) zA rfl rfl rfl hp rfl zO zO zS zO zO (λp1 v1 bs1 k1 m1 hp1 hb1 hk1 hl1 oq=>?_);have o1q:=oq
 simp only[pick,lgS,lgZ]at o1q
 clear oq;refine cB ?_;refine fB aA ?_;refine nB o1q 2 aQ ?_;refine XEnds.callJ [2] zA rfl rfl (λJ oj=>yR b (eL x.expr) x.expr ⟨B.h,J++B.T⟩ _ [32] 1 p1 v1 k1 bs1 _ (aD6 _) bexpr hE hp1 (.inr rfl) zO hT hF oj zO zO) (λps2 p2 v2 bs2 k2 m2 hq2 hp2 hb2 hk2 hl2 _ hj2 oq=>?_) (λm2 hq2 oq=>?_)
 case refine_2=>exact⟨(by rw[hRe];simp only[hq2,aO,oMN,oMS]),rfl,oq⟩
 have o2q:=oq
 simp only[pick,lgS,lgZ]at o2q
 clear oq;by_cases hlv:12<dE x.expr
 ·rw[if_pos hlv]
  refine bB λc160=>cB ?_;refine fB aA ?_;(refine sB o2q 2 aK ?_;intro m163 o163);refine rR (aDd aE ?_);refine cB ?_;refine fB aA ?_;(refine sB o163 2 aQ ?_;intro m167 o167);refine aDS rfl ?_;exact IEnds.done (ps:=[aS [32] [61]]++(ps2++[])) (by rw[hRe];simp only[hq2,aO,oMS]) (o_ [0,1,2]) hp2 (by rw[hb2,hb1];simp[bX,gX,wr,aS]) (by rw[hk2,hk1];first|(simp;done)|(simp;omega)) zO zO
 ·rw[if_neg hlv]
  refine bA λc210=>rR (aDd aE ?_);refine cB ?_;refine fB aA ?_;(refine sB o2q 2 aQ ?_;intro m214 o214);refine aDS rfl ?_;exact IEnds.done (ps:=[aS [32] [61]]++(ps2++[])) (by rw[hRe];simp only[hq2,aO,oMS]) (o_ [0,1,2]) hp2 (by rw[hb2,hb1];simp[bX,gX,wr,aS]) (by rw[hk2,hk1];first|(simp;done)|(simp;omega)) zO zO
def wrN (k:Int):FuncId:=if k=1 then 70 else if k=2 then 71 else if k=3 then 72 else if k=4 then 73 else if k=5 then 74 else if k=6 then 75 else if k=7 then 76 else if k=8 then 77 else if k=9 then 78 else 79
theorem wrN_at {k:Int}(h1:1<=k)(h10:k<=10):wrFs[k.toNat]?=some (.func (.func (wrN k)) #[] #[]):=by
 have:k=1∨k=2∨k=3∨k=4∨k=5∨k=6∨k=7∨k=8∨k=9∨k=10:=by omega
 rcases this with rfl|rfl|rfl|rfl|rfl|rfl|rfl|rfl|rfl|rfl<;>rfl
def WAny (B:Base)(b bx:Nat)(bs:aBs)(k:Int)(c:Nat)(x:It)(z:Int):Ending->Heap->Prop :=
 Ends (λr h'=>∃ ps p' v' vc vn vt vf vv vd e0 e1 e2 e3 e4 e5 e6 e7 e8,eP x=some ps/\r=.tuple #[]/\dI b p'/\(bX ps).length<=c/\ps.length<=c/\nP B.h (eD (eX x) (if x.kind=10/\12<dE x.expr then -1 else z) vc vn vt vf vv vd e0 e1 e2 e3 e4 e5 e6 e7 e8) (eX x) /\
   Own B [box b [p',v',iv (k+ps.length)] 58,row v' 5 1 (bs++bX ps).length (bytes (bs++bX ps)),box bx (eD (eX x) (if x.kind=10/\12<dE x.expr then -1 else z) vc vn vt vf vv vd e0 e1 e2 e3 e4 e5 e6 e7 e8) 44] h')
  λq h'=>eP x=none/\q=xZ/\Own B [] h'
theorem aCr (B:Base)(b bx:Nat)(p v:Value)(k:Int)(bs:aBs)(x:It)(z:Int)(vc vn vt vf vv vd e0 e1 e2 e3 e4 e5 e6 e7 e8:Value)(h:Heap)(hp:dI b p)(hT:kQ B.h)(hOK:fO x)(hN:aY 1 B.h vn x.names.length (strs x.names))(hA:aY 5 B.h vc x.cols.length (x.cols.flatMap vE))
  (o:Own B [box b [p,v,iv k] 58,row v 5 1 bs.length (bytes bs),box bx (eD x z vc vn vt vf vv vd e0 e1 e2 e3 e4 e5 e6 e7 e8) 44] h) (hl:bs.length+2000*dF x<=50000000000000) (hk:0<=k/\k+2000*dF x<=50000000000000) :
  Spec Tryz.prog 70 [pv b 0,pv bx 0] h (IEnds B b bx bs k (2000*dF x) (eD (clr1 x) z aP aP vt vf vv vd e0 e1 e2 e3 e4 e5 e6 e7 e8) (part1 x)):=by
 obtain⟨bkind,bname,btable,battr,bcols,bnames,bby,bn,bm,bterms,both,boat,bfixed,bvars,bconds,bexpr,lcols,lnames,lterms,lfixed,lvars,lconds⟩:=hOK
 have hsz:dF x=1+x.cols.length+x.names.length+x.terms.length+x.fixed.length+x.vars.length+x.conds.length+fD x.expr:=rfl;unfold eD at o
 obtain⟨ya,yc,rfl⟩:=hA.isS
 refine eN Tryz.func70 Tryz.ntmps70 ?_;by_cases h0:x.cols=[]
 case pos =>
  have hlen0:¬ ((0:Int)<(x.cols.length:Int)):=by rw[h0];simp
  refine cB ?_;refine fB aA ?_;refine oB o 2 kU ?_;refine lB iQ ?_;refine aDc (B:=B) zA (aH _ _) (λe1 m2 _ oq=>absurd (of_decide_eq_true e1) hlen0) λe1 m2 oq=>?_
  exact⟨by show aO [some [aS [] [40]],eO iP [] x.cols,some [aS [] [41],aG [32] [107,101,121]],eO bN [32] x.names]=none;rw[h0];rfl,rfl,oq⟩
 have hRe:part1 x=aO [some [aS [] [40]],dD (eK iP) x.cols,some [aS [] [41],aG [32] [107,101,121]],eO bN [32] x.names]:=by unfold part1;rw[pL _ _ h0]
 have hpos:0<x.cols.length:=List.length_pos_iff.2 h0;refine cB ?_;refine fB aA ?_;refine oB o 2 kU ?_;refine lB iQ ?_;refine aDc (B:=B) zA (aH _ _) (λe1 m2 oc oq=>?_) λe1 m2 oq=>absurd (of_decide_eq_false e1) zO;clear oc o e1;refine cB ?_;refine fB cC ?_;refine lA oq aB aC λb112 m112 o112=>?_;refine aM [[40]] 1 30 [2] (i:=3) zA rfl rfl rfl hp rfl zO zO (by first|(simp;done)|(simp;omega)) zO zO (λp1 v1 bs1 k1 m1 hp1 hb1 hk1 hl1 oq=>?_);have o1q:=oq
 simp only[pick,lgS,lgZ]at o1q
 clear oq;refine cB ?_;refine fB aA ?_;refine oB o1q 2 kU ?_;refine lB iQ ?_;refine aDT [4,5,6,24,25,26,27,28,29,30,31,32,33,34,35,36,37,38,39,40,41,42,43,44,45,46,47,48,49,50,51,52,53,54,55,56,57,58,59,60,61,62,63] [24] (λvs' hh=>∃(i:Nat) (p' v':Value) (bs':aBs) (k':Int) (ps:List Pc),i<=x.cols.length/\vs'=[.int .i64 i]/\dI b p'/\dD (eK iP) (x.cols.take i)=some ps/\bs'=bs1++bX ps/\k'=k1+ps.length/\bs'.length<=bs1.length+1000*i/\k'<=k1+1000*i/\Own B [box b [p',v',.int .i64 k'] 58,row v' 5 1 bs'.length (bytes bs'),box bx [.int .i64 x.kind,.string ⟨⟨x.name⟩⟩,.int .i64 z,.string ⟨⟨x.table⟩⟩,.string ⟨⟨x.attr⟩⟩,.slice ya x.cols.length yc,vn,.int .i64 x.by_,.int .i64 x.n,.int .i64 x.m,vt,.string ⟨⟨x.other⟩⟩,.string ⟨⟨x.oattr⟩⟩,vf,vv,vd,e0,e1,e2,e3,e4,e5,e6,e7,e8] 44] hh) (λvs' _=>match vs' with|[.int _ i]=>x.cols.length - i.toNat|_=>0) ?_ ?_
 ·exact⟨0,p1,v1,bs1,k1,[],by omega,rfl,hp1,rfl,by simp[bX],by simp,by omega,by omega,o_ [0,1,2]⟩
 rintro vs' junk hh ⟨i,p',v',bs',k',ps,hi,rfl,hp',hQ,hb',hk',hl',hkb,oh⟩;have hkge:k1<=k':=by omega
 by_cases hlt:i<x.cols.length
 ·obtain⟨el,hel⟩:=getx hlt
  have hOKel:=bcols el (aDY hel);have hm:1000*i+1000<=1000*x.cols.length:=by omega
  obtain⟨hn1,hn2,hv1⟩:=hOKel
  by_cases h0i:i=0
  ·have hone:eK iP i el=aO [bN [] el.name,hO el.kind [[116,101,120,116],[110,117,109,98,101,114],[100,97,121],[102,108,97,103]],(if el.dflt.k=0/\el.dflt.n=0/\el.dflt.t=[] then some [] else(cD el.dflt).map (aS [32] [61]::·))]:=by unfold eK;rw[if_pos h0i];rfl
   refine bB λc210=>rR (aDe iQ eV (hA.ext oh.ext) rfl zO zO ?_);refine rR (aDg eV (hA.ext oh.ext) (λ_=>rfl) zD rfl zA ?_);refine aDH oh eV λb213 m213 o213=>?_;(refine sA o213 3 eV ?_;intro m214 o214);refine bA λc215=>aDs b213 [0,1,2,3,4,7,8] [5,9] [11,12,13] (.one 0 (.one 1 (.one 2 (.one 3 (.one 4 (.one 5 (.one 8 (.one 9 (.fork 6 10 (.one 7 (.one 10 (.one 11 (.one 12 (.one 13 .done))))) (.one 6 (.one 7 (.one 11 (.one 12 (.one 13 .done)))))))))))))) mixed k_ rfl (λ_ _ _ _ h=>h) ?_;refine nC rfl ?_;refine fC cC ?_;refine fC iG ?_;refine StillVCA.load1 aC rfl rfl ((o214.cellB 3 rfl _).trans rfl) ?_;refine fC iG ?_;refine StillVCA.load1 aK rfl rfl ((o214.cellB 3 rfl _).trans rfl) ?_;refine aI ?_ ?_
   ·skip
    refine aDc (B:=B) zA (bT el.name _ hn1) (λh2 m2 oc2 oq2=>?_) λh2 m2 oq2=>?_
    case refine_2=>exact⟨(by rw[hRe];simp only[aV hel hQ (show(eK iP) i el=none by rw[hone];simp only[dM h2,aO,oMN,oMS]),aO,oMN,oMS]),rfl,oq2⟩
    have hnl2:=bJ h2;refine aI ((oq2.boxBlk 3 rfl).trans (o214.boxBlk 3 rfl).symm) ?_;refine aDb rfl rfl w_ ?_;refine lA oq2 aB aC λb361 m361 o361=>?_;refine aI ((o361.boxBlk 3 rfl).trans (oq2.boxBlk 3 rfl).symm) ?_;refine aDc (B:=B) zA (eS el.kind [[116,101,120,116],[110,117,109,98,101,114],[100,97,121],[102,108,97,103]] _ _ zO zO (Own.boxArr zA 4 rfl rfl zD) zS zS) (λh3 m3 oc3 oq3=>?_) λh3 m3 oq3=>?_
    case refine_2=>exact⟨(by rw[hRe];simp only[aV hel hQ (show(eK iP) i el=none by rw[hone];simp only[aD h2,mU (of_decide_eq_false h3),aO,oMN,oMS]),aO,oMN,oMS]),rfl,oq3⟩
    have h3:=of_decide_eq_true h3;have hw3:=lD (n:=el.kind) h3;have hnl3:=lS (ws:=[[116,101,120,116],[110,117,109,98,101,114],[100,97,121],[102,108,97,103]]) (M:=10) zS (el.kind - 1).toNat;generalize ([[116,101,120,116],[110,117,109,98,101,114],[100,97,121],[102,108,97,103]]:List aBs).getD (el.kind - 1).toNat []=w3 at hw3 hnl3;clear oc3;refine lA oq3 aB aC λb410 m410 o410=>?_;refine aM [[]++el.name,32::w3] 2 30 [2,3] (i:=5) zA rfl rfl rfl hp' rfl zO zO (by first|(simp;done)|(simp;omega)) zO zO (λp4 v4 bs4 k4 m4 hp4 hb4 hk4 hl4 oq=>?_);have o4q:=oq
    simp only[pick,lgS,lgZ]at o4q
    clear oq;by_cases hz:el.dflt.k=0/\el.dflt.n=0/\el.dflt.t=[]
    ·have hzb:(!(decide (el.dflt.k=0)&&(decide (el.dflt.n=0)&&(decide (el.dflt.t=[])&&true))))=false:=by simp[hz.1,hz.2.1,hz.2.2]
     refine fB iG ?_;refine nB o4q 3 cG ?_;refine rR (aDd bP ?_);refine rR (neS nW rfl rfl rfl rfl ?_);refine Br.ffE hzb ?_;refine aR ?_
     refine⟨rfl,?_⟩
     exact⟨⟨i+1,p4,v4,bs4,k4,ps++(([aG [] el.name]++([aG [32] w3]++([]++[])))),by omega,rfl,hp4,bL hel hQ (by rw[hone];simp only[aD h2,hw3,if_pos hz,aO,oMS]),by rw[hb4,hb'];simp[bX,gX,wr,aG,aS,cI],by rw[hk4,hk'];first|(simp;done)|(simp;omega),by omega,by omega,o_ [0,1,2]⟩,by simp;omega⟩
    ·have hzb:(!(decide (el.dflt.k=0)&&(decide (el.dflt.n=0)&&(decide (el.dflt.t=[])&&true))))=true:=by
      rw[aEn,aEh]
      intro hh
      simp at hh
      exact hz hh
     refine fB iG ?_;refine nB o4q 3 cG ?_;refine rR (aDd bP ?_);refine rR (neS nW rfl rfl rfl rfl ?_);refine Br.ttE hzb ?_;refine cB ?_;refine fB cC ?_;refine lA o4q aB aC λb517 m517 o517=>?_;refine aM [[32,61]] 1 30 [2,3] (i:=4) zA rfl rfl rfl hp4 rfl zO zO (by first|(simp;done)|(simp;omega)) zO zO (λp5 v5 bs5 k5 m5 hp5 hb5 hk5 hl5 oq=>?_);have o5q:=oq
     simp only[pick,lgS,lgZ]at o5q
     clear oq;refine fB iG ?_;refine nB o5q 3 cG ?_;refine WEnds.callJ [2,3] zA rfl rfl (λJ oj=>jY ⟨B.h,J++B.T⟩ b p5 v5 k5 bs5 el.dflt _ hp5 hT oj zO hv1.2.2 hv1.2.1 zO) (λps6 p6 v6 bs6 k6 m6 hq6 hp6 hb6 hk6 hl6 _ hj6 oq=>?_) (λm6 hq6 oq=>?_)
     case refine_2=>exact⟨(by rw[hRe];simp only[aV hel hQ (show(eK iP) i el=none by rw[hone];simp only[aD h2,hw3,if_neg hz,hq6,aO,oMN,oMS]),aO,oMN,oMS]),rfl,oq⟩
     have o6q:=oq
     simp only[pick,lgS,lgZ]at o6q
     clear oq;refine aR ?_
     refine⟨rfl,?_⟩
     exact⟨⟨i+1,p6,v6,bs6,k6,ps++(([aG [] el.name]++([aG [32] w3]++(aS [32] [61]::ps6++[])))),by omega,rfl,hp6,bL hel hQ (by(first|rw[hone]|(show bM el=_;rw[hone]));simp only[aD h2,hw3,if_neg hz,hq6,aO,oMS]),by rw[hb6,hb5,hb4,hb'];simp[bX,gX,wr,aG,aS,cI],by rw[hk6,hk5,hk4,hk'];first|(simp;done)|(simp;omega),by omega,by omega,o_ [0,1,2]⟩,by simp;omega⟩
   ·skip
    refine lA o214 aB aC λb660 m660 o660=>?_;refine aI ((o660.boxBlk 3 rfl).trans (o214.boxBlk 3 rfl).symm) ?_;refine aDc (B:=B) zA (bT el.name _ hn1) (λh7 m7 oc7 oq7=>?_) λh7 m7 oq7=>?_
    case refine_2=>exact⟨(by rw[hRe];simp only[aV hel hQ (show(eK iP) i el=none by rw[hone];simp only[dM h7,aO,oMN,oMS]),aO,oMN,oMS]),rfl,oq7⟩
    have hnl7:=bJ h7;refine aI ((oq7.boxBlk 3 rfl).trans (o660.boxBlk 3 rfl).symm) ?_;refine aDb rfl rfl w_ ?_;refine aDc (B:=B) zA (eS el.kind [[116,101,120,116],[110,117,109,98,101,114],[100,97,121],[102,108,97,103]] _ _ zO zO (Own.boxArr zA 4 rfl rfl zD) zS zS) (λh8 m8 oc8 oq8=>?_) λh8 m8 oq8=>?_
    case refine_2=>exact⟨(by rw[hRe];simp only[aV hel hQ (show(eK iP) i el=none by rw[hone];simp only[aD h7,mU (of_decide_eq_false h8),aO,oMN,oMS]),aO,oMN,oMS]),rfl,oq8⟩
    have h8:=of_decide_eq_true h8;have hw8:=lD (n:=el.kind) h8;have hnl8:=lS (ws:=[[116,101,120,116],[110,117,109,98,101,114],[100,97,121],[102,108,97,103]]) (M:=10) zS (el.kind - 1).toNat;generalize ([[116,101,120,116],[110,117,109,98,101,114],[100,97,121],[102,108,97,103]]:List aBs).getD (el.kind - 1).toNat []=w8 at hw8 hnl8;clear oc8;refine lA oq8 aB aC λb760 m760 o760=>?_;refine aM [[]++el.name,32::w8] 2 30 [2,3] (i:=5) zA rfl rfl rfl hp' rfl zO zO (by first|(simp;done)|(simp;omega)) zO zO (λp9 v9 bs9 k9 m9 hp9 hb9 hk9 hl9 oq=>?_);have o9q:=oq
    simp only[pick,lgS,lgZ]at o9q
    clear oq;by_cases hz:el.dflt.k=0/\el.dflt.n=0/\el.dflt.t=[]
    ·have hzb:(!(decide (el.dflt.k=0)&&(decide (el.dflt.n=0)&&(decide (el.dflt.t=[])&&true))))=false:=by simp[hz.1,hz.2.1,hz.2.2]
     refine fB iG ?_;refine nB o9q 3 cG ?_;refine rR (aDd bP ?_);refine rR (neS nW rfl rfl rfl rfl ?_);refine Br.ffE hzb ?_;refine aR ?_
     refine⟨rfl,?_⟩
     exact⟨⟨i+1,p9,v9,bs9,k9,ps++(([aG [] el.name]++([aG [32] w8]++([]++[])))),by omega,rfl,hp9,bL hel hQ (by rw[hone];simp only[aD h7,hw8,if_pos hz,aO,oMS]),by rw[hb9,hb'];simp[bX,gX,wr,aG,aS,cI],by rw[hk9,hk'];first|(simp;done)|(simp;omega),by omega,by omega,o_ [0,1,2]⟩,by simp;omega⟩
    ·have hzb:(!(decide (el.dflt.k=0)&&(decide (el.dflt.n=0)&&(decide (el.dflt.t=[])&&true))))=true:=by
      rw[aEn,aEh]
      intro hh
      simp at hh
      exact hz hh
     refine fB iG ?_;refine nB o9q 3 cG ?_;refine rR (aDd bP ?_);refine rR (neS nW rfl rfl rfl rfl ?_);refine Br.ttE hzb ?_;refine cB ?_;refine fB cC ?_;refine lA o9q aB aC λb867 m867 o867=>?_;refine aM [[32,61]] 1 30 [2,3] (i:=4) zA rfl rfl rfl hp9 rfl zO zO (by first|(simp;done)|(simp;omega)) zO zO (λp10 v10 bs10 k10 m10 hp10 hb10 hk10 hl10 oq=>?_);have o10q:=oq
     simp only[pick,lgS,lgZ]at o10q
     clear oq;refine fB iG ?_;refine nB o10q 3 cG ?_;refine WEnds.callJ [2,3] zA rfl rfl (λJ oj=>jY ⟨B.h,J++B.T⟩ b p10 v10 k10 bs10 el.dflt _ hp10 hT oj zO hv1.2.2 hv1.2.1 zO) (λps11 p11 v11 bs11 k11 m11 hq11 hp11 hb11 hk11 hl11 _ hj11 oq=>?_) (λm11 hq11 oq=>?_)
     case refine_2=>exact⟨(by rw[hRe];simp only[aV hel hQ (show(eK iP) i el=none by rw[hone];simp only[aD h7,hw8,if_neg hz,hq11,aO,oMN,oMS]),aO,oMN,oMS]),rfl,oq⟩
     have o11q:=oq
     simp only[pick,lgS,lgZ]at o11q
     clear oq;refine aR ?_
     refine⟨rfl,?_⟩
     exact⟨⟨i+1,p11,v11,bs11,k11,ps++(([aG [] el.name]++([aG [32] w8]++(aS [32] [61]::ps11++[])))),by omega,rfl,hp11,bL hel hQ (by(first|rw[hone]|(show bM el=_;rw[hone]));simp only[aD h7,hw8,if_neg hz,hq11,aO,oMS]),by rw[hb11,hb10,hb9,hb'];simp[bX,gX,wr,aG,aS,cI],by rw[hk11,hk10,hk9,hk'];first|(simp;done)|(simp;omega),by omega,by omega,o_ [0,1,2]⟩,by simp;omega⟩
  ·have hone:eK iP i el=(aO [bN [32] el.name,hO el.kind [[116,101,120,116],[110,117,109,98,101,114],[100,97,121],[102,108,97,103]],(if el.dflt.k=0/\el.dflt.n=0/\el.dflt.t=[] then some [] else(cD el.dflt).map (aS [32] [61]::·))]).map (aS [] [44]::·):=by unfold eK;rw[if_neg h0i];rfl
   refine bB λc1010=>rR (aDe iQ eV (hA.ext oh.ext) rfl zO zO ?_);refine rR (aDg eV (hA.ext oh.ext) (λ_=>rfl) zD rfl zA ?_);refine aDH oh eV λb1013 m1013 o1013=>?_;(refine sA o1013 3 eV ?_;intro m1014 o1014);refine bB λc1015=>cB ?_;refine fB cC ?_;refine lA o1014 aB aC λb1018 m1018 o1018=>?_;refine aM [[44]] 1 30 [2,3] (i:=4) zA rfl rfl rfl hp' rfl zO zO (by first|(simp;done)|(simp;omega)) zO zO (λp12 v12 bs12 k12 m12 hp12 hb12 hk12 hl12 oq=>?_);have o12q:=oq
   simp only[pick,lgS,lgZ]at o12q
   clear oq;refine aDs b1013 [0,1,2,3,4,7,8] [5,9] [11,12,13] (.one 0 (.one 1 (.one 2 (.one 3 (.one 4 (.one 5 (.one 8 (.one 9 (.fork 6 10 (.one 7 (.one 10 (.one 11 (.one 12 (.one 13 .done))))) (.one 6 (.one 7 (.one 11 (.one 12 (.one 13 .done)))))))))))))) mixed k_ rfl (λ_ _ _ _ h=>h) ?_;refine nC rfl ?_;refine fC cC ?_;refine fC iG ?_;refine StillVCA.load1 aC rfl rfl ((o12q.cellB 3 rfl _).trans rfl) ?_;refine fC iG ?_;refine StillVCA.load1 aK rfl rfl ((o12q.cellB 3 rfl _).trans rfl) ?_;refine aI ?_ ?_
   ·skip
    refine aDc (B:=B) zA (bT el.name _ hn1) (λh13 m13 oc13 oq13=>?_) λh13 m13 oq13=>?_
    case refine_2=>exact⟨(by rw[hRe];simp only[aV hel hQ (show(eK iP) i el=none by rw[hone];simp only[dM h13,aO,oMN,oMS]),aO,oMN,oMS]),rfl,oq13⟩
    have hnl13:=bJ h13;refine aI ((oq13.boxBlk 3 rfl).trans (o12q.boxBlk 3 rfl).symm) ?_;refine aDb rfl rfl w_ ?_;refine lA oq13 aB aC λb1211 m1211 o1211=>?_;refine aI ((o1211.boxBlk 3 rfl).trans (oq13.boxBlk 3 rfl).symm) ?_;refine aDc (B:=B) zA (eS el.kind [[116,101,120,116],[110,117,109,98,101,114],[100,97,121],[102,108,97,103]] _ _ zO zO (Own.boxArr zA 4 rfl rfl zD) zS zS) (λh14 m14 oc14 oq14=>?_) λh14 m14 oq14=>?_
    case refine_2=>exact⟨(by rw[hRe];simp only[aV hel hQ (show(eK iP) i el=none by rw[hone];simp only[aD h13,mU (of_decide_eq_false h14),aO,oMN,oMS]),aO,oMN,oMS]),rfl,oq14⟩
    have h14:=of_decide_eq_true h14;have hw14:=lD (n:=el.kind) h14;have hnl14:=lS (ws:=[[116,101,120,116],[110,117,109,98,101,114],[100,97,121],[102,108,97,103]]) (M:=10) zS (el.kind - 1).toNat;generalize ([[116,101,120,116],[110,117,109,98,101,114],[100,97,121],[102,108,97,103]]:List aBs).getD (el.kind - 1).toNat []=w14 at hw14 hnl14;clear oc14;refine lA oq14 aB aC λb1260 m1260 o1260=>?_;refine aM [[32]++el.name,32::w14] 2 30 [2,3] (i:=5) zA rfl rfl rfl hp12 rfl zO zO (by first|(simp;done)|(simp;omega)) zO zO (λp15 v15 bs15 k15 m15 hp15 hb15 hk15 hl15 oq=>?_);have o15q:=oq
    simp only[pick,lgS,lgZ]at o15q
    clear oq;by_cases hz:el.dflt.k=0/\el.dflt.n=0/\el.dflt.t=[]
    ·have hzb:(!(decide (el.dflt.k=0)&&(decide (el.dflt.n=0)&&(decide (el.dflt.t=[])&&true))))=false:=by simp[hz.1,hz.2.1,hz.2.2]
     refine fB iG ?_;refine nB o15q 3 cG ?_;refine rR (aDd bP ?_);refine rR (neS nW rfl rfl rfl rfl ?_);refine Br.ffE hzb ?_;refine aR ?_
     refine⟨rfl,?_⟩
     exact⟨⟨i+1,p15,v15,bs15,k15,ps++(aS [] [44]::([aG [32] el.name]++([aG [32] w14]++([]++[])))),by omega,rfl,hp15,bL hel hQ (by rw[hone];simp only[aD h13,hw14,if_pos hz,aO,oMS]),by rw[hb15,hb12,hb'];simp[bX,gX,wr,aG,aS,cI],by rw[hk15,hk12,hk'];first|(simp;done)|(simp;omega),by omega,by omega,o_ [0,1,2]⟩,by simp;omega⟩
    ·have hzb:(!(decide (el.dflt.k=0)&&(decide (el.dflt.n=0)&&(decide (el.dflt.t=[])&&true))))=true:=by
      rw[aEn,aEh]
      intro hh
      simp at hh
      exact hz hh
     refine fB iG ?_;refine nB o15q 3 cG ?_;refine rR (aDd bP ?_);refine rR (neS nW rfl rfl rfl rfl ?_);refine Br.ttE hzb ?_;refine cB ?_;refine fB cC ?_;refine lA o15q aB aC λb1367 m1367 o1367=>?_;refine aM [[32,61]] 1 30 [2,3] (i:=4) zA rfl rfl rfl hp15 rfl zO zO (by first|(simp;done)|(simp;omega)) zO zO (λp16 v16 bs16 k16 m16 hp16 hb16 hk16 hl16 oq=>?_);have o16q:=oq
     simp only[pick,lgS,lgZ]at o16q
     clear oq;refine fB iG ?_;refine nB o16q 3 cG ?_;refine WEnds.callJ [2,3] zA rfl rfl (λJ oj=>jY ⟨B.h,J++B.T⟩ b p16 v16 k16 bs16 el.dflt _ hp16 hT oj zO hv1.2.2 hv1.2.1 zO) (λps17 p17 v17 bs17 k17 m17 hq17 hp17 hb17 hk17 hl17 _ hj17 oq=>?_) (λm17 hq17 oq=>?_)
     case refine_2=>exact⟨(by rw[hRe];simp only[aV hel hQ (show(eK iP) i el=none by rw[hone];simp only[aD h13,hw14,if_neg hz,hq17,aO,oMN,oMS]),aO,oMN,oMS]),rfl,oq⟩
     have o17q:=oq
     simp only[pick,lgS,lgZ]at o17q
     clear oq;refine aR ?_
     refine⟨rfl,?_⟩
     exact⟨⟨i+1,p17,v17,bs17,k17,ps++(aS [] [44]::([aG [32] el.name]++([aG [32] w14]++(aS [32] [61]::ps17++[])))),by omega,rfl,hp17,bL hel hQ (by(first|rw[hone]|(show bM el=_;rw[hone]));simp only[aD h13,hw14,if_neg hz,hq17,aO,oMS]),by rw[hb17,hb16,hb15,hb12,hb'];simp[bX,gX,wr,aG,aS,cI],by rw[hk17,hk16,hk15,hk12,hk'];first|(simp;done)|(simp;omega),by omega,by omega,o_ [0,1,2]⟩,by simp;omega⟩
   ·skip
    refine lA o12q aB aC λb1510 m1510 o1510=>?_;refine aI ((o1510.boxBlk 3 rfl).trans (o12q.boxBlk 3 rfl).symm) ?_;refine aDc (B:=B) zA (bT el.name _ hn1) (λh18 m18 oc18 oq18=>?_) λh18 m18 oq18=>?_
    case refine_2=>exact⟨(by rw[hRe];simp only[aV hel hQ (show(eK iP) i el=none by rw[hone];simp only[dM h18,aO,oMN,oMS]),aO,oMN,oMS]),rfl,oq18⟩
    have hnl18:=bJ h18;refine aI ((oq18.boxBlk 3 rfl).trans (o1510.boxBlk 3 rfl).symm) ?_;refine aDb rfl rfl w_ ?_;refine aDc (B:=B) zA (eS el.kind [[116,101,120,116],[110,117,109,98,101,114],[100,97,121],[102,108,97,103]] _ _ zO zO (Own.boxArr zA 4 rfl rfl zD) zS zS) (λh19 m19 oc19 oq19=>?_) λh19 m19 oq19=>?_
    case refine_2=>exact⟨(by rw[hRe];simp only[aV hel hQ (show(eK iP) i el=none by rw[hone];simp only[aD h18,mU (of_decide_eq_false h19),aO,oMN,oMS]),aO,oMN,oMS]),rfl,oq19⟩
    have h19:=of_decide_eq_true h19;have hw19:=lD (n:=el.kind) h19;have hnl19:=lS (ws:=[[116,101,120,116],[110,117,109,98,101,114],[100,97,121],[102,108,97,103]]) (M:=10) zS (el.kind - 1).toNat;generalize ([[116,101,120,116],[110,117,109,98,101,114],[100,97,121],[102,108,97,103]]:List aBs).getD (el.kind - 1).toNat []=w19 at hw19 hnl19;clear oc19;refine lA oq19 aB aC λb1610 m1610 o1610=>?_;refine aM [[32]++el.name,32::w19] 2 30 [2,3] (i:=5) zA rfl rfl rfl hp12 rfl zO zO (by first|(simp;done)|(simp;omega)) zO zO (λp20 v20 bs20 k20 m20 hp20 hb20 hk20 hl20 oq=>?_);have o20q:=oq
    simp only[pick,lgS,lgZ]at o20q
    clear oq;by_cases hz:el.dflt.k=0/\el.dflt.n=0/\el.dflt.t=[]
    ·have hzb:(!(decide (el.dflt.k=0)&&(decide (el.dflt.n=0)&&(decide (el.dflt.t=[])&&true))))=false:=by simp[hz.1,hz.2.1,hz.2.2]
     refine fB iG ?_;refine nB o20q 3 cG ?_;refine rR (aDd bP ?_);refine rR (neS nW rfl rfl rfl rfl ?_);refine Br.ffE hzb ?_;refine aR ?_
     refine⟨rfl,?_⟩
     exact⟨⟨i+1,p20,v20,bs20,k20,ps++(aS [] [44]::([aG [32] el.name]++([aG [32] w19]++([]++[])))),by omega,rfl,hp20,bL hel hQ (by rw[hone];simp only[aD h18,hw19,if_pos hz,aO,oMS]),by rw[hb20,hb12,hb'];simp[bX,gX,wr,aG,aS,cI],by rw[hk20,hk12,hk'];first|(simp;done)|(simp;omega),by omega,by omega,o_ [0,1,2]⟩,by simp;omega⟩
    ·have hzb:(!(decide (el.dflt.k=0)&&(decide (el.dflt.n=0)&&(decide (el.dflt.t=[])&&true))))=true:=by
      rw[aEn,aEh]
      intro hh
      simp at hh
      exact hz hh
     refine fB iG ?_;refine nB o20q 3 cG ?_;refine rR (aDd bP ?_);refine rR (neS nW rfl rfl rfl rfl ?_);refine Br.ttE hzb ?_;refine cB ?_;refine fB cC ?_;refine lA o20q aB aC λb1717 m1717 o1717=>?_;refine aM [[32,61]] 1 30 [2,3] (i:=4) zA rfl rfl rfl hp20 rfl zO zO (by first|(simp;done)|(simp;omega)) zO zO (λp21 v21 bs21 k21 m21 hp21 hb21 hk21 hl21 oq=>?_);have o21q:=oq
     simp only[pick,lgS,lgZ]at o21q
     clear oq;refine fB iG ?_;refine nB o21q 3 cG ?_;refine WEnds.callJ [2,3] zA rfl rfl (λJ oj=>jY ⟨B.h,J++B.T⟩ b p21 v21 k21 bs21 el.dflt _ hp21 hT oj zO hv1.2.2 hv1.2.1 zO) (λps22 p22 v22 bs22 k22 m22 hq22 hp22 hb22 hk22 hl22 _ hj22 oq=>?_) (λm22 hq22 oq=>?_)
     case refine_2=>exact⟨(by rw[hRe];simp only[aV hel hQ (show(eK iP) i el=none by rw[hone];simp only[aD h18,hw19,if_neg hz,hq22,aO,oMN,oMS]),aO,oMN,oMS]),rfl,oq⟩
     have o22q:=oq
     simp only[pick,lgS,lgZ]at o22q
     clear oq;refine aR ?_
     refine⟨rfl,?_⟩
     exact⟨⟨i+1,p22,v22,bs22,k22,ps++(aS [] [44]::([aG [32] el.name]++([aG [32] w19]++(aS [32] [61]::ps22++[])))),by omega,rfl,hp22,bL hel hQ (by(first|rw[hone]|(show bM el=_;rw[hone]));simp only[aD h18,hw19,if_neg hz,hq22,aO,oMS]),by rw[hb22,hb21,hb20,hb12,hb'];simp[bX,gX,wr,aG,aS,cI],by rw[hk22,hk21,hk20,hk12,hk'];first|(simp;done)|(simp;omega),by omega,by omega,o_ [0,1,2]⟩,by simp;omega⟩
 have hQL:=fF (aEs hlt) hQ;refine bA λc1860=>cB ?_;refine fB cC ?_;refine lA oh aB aC λb1863 m1863 o1863=>?_;refine aM [[41],[32,107,101,121]] 2 30 [2] (i:=3) zA rfl rfl rfl hp' rfl zO zO (by first|(simp;done)|(simp;omega)) zO zO (λp23 v23 bs23 k23 m23 hp23 hb23 hk23 hl23 oq=>?_);have o23q:=oq
 simp only[pick,lgS,lgZ]at o23q
 clear oq;refine cB ?_;refine fB aA ?_;refine oB o23q 2 cS ?_;refine WEnds.callJ [2] zA rfl rfl (λJ oj=>sO ⟨B.h,J++B.T⟩ b p23 v23 k23 bs23 [32] x.names _ _ hp23 (λL h o=>(hN.ext (Own.ext (B:=⟨B.h,J++B.T⟩) o)).to1) oj zO bnames zO zO (.inr rfl)) (λps24 p24 v24 bs24 k24 m24 hq24 hp24 hb24 hk24 hl24 _ hj24 oq=>?_) (λm24 hq24 oq=>?_)
 case refine_2=>exact⟨(by rw[hRe];simp only[hQL,hq24,aO,oMN,oMS]),rfl,oq⟩
 have o24q:=oq
 simp only[pick,lgS,lgZ]at o24q
 clear oq;refine cB ?_;refine fB aA ?_;(refine sB o24q 2 kU ?_;intro m1962 o1962);refine cB ?_;refine fB aA ?_;(refine sB o1962 2 cS ?_;intro m1965 o1965);refine aDS rfl ?_;exact IEnds.done (ps:=[aS [] [40]]++(ps++([aS [] [41],aG [32] [107,101,121]]++(ps24++[])))) (by rw[hRe];simp only[hQL,hq24,aO,oMS]) (o_ [0,1,2]) hp24 (by rw[hb24,hb23,hb',hb1];simp[bX,gX,wr,aG,aS,cI]) (by rw[hk24,hk23,hk',hk1];first|(simp;done)|(simp;omega)) zO zO
theorem aBD (B:Base)(b bx:Nat)(p v:Value)(k:Int)(bs:aBs)(x:It)(z:Int)(vc vn vt vf vv vd e0 e1 e2 e3 e4 e5 e6 e7 e8:Value)(h:Heap)(hp:dI b p)(hT:kQ B.h)(hOK:fO x)
  (o:Own B [box b [p,v,iv k] 58,row v 5 1 bs.length (bytes bs),box bx (eD x z vc vn vt vf vv vd e0 e1 e2 e3 e4 e5 e6 e7 e8) 44] h) (hl:bs.length+2000*dF x<=50000000000000) (hk:0<=k/\k+2000*dF x<=50000000000000) :
  Spec Tryz.prog 71 [pv b 0,pv bx 0] h (IEnds B b bx bs k (2000*dF x) (eD (clr2 x) z vc vn vt vf vv vd e0 e1 e2 e3 e4 e5 e6 e7 e8) (part2 x)):=by
 obtain⟨bkind,bname,btable,battr,bcols,bnames,bby,bn,bm,bterms,both,boat,bfixed,bvars,bconds,bexpr,lcols,lnames,lterms,lfixed,lvars,lconds⟩:=hOK
 have hsz:dF x=1+x.cols.length+x.names.length+x.terms.length+x.fixed.length+x.vars.length+x.conds.length+fD x.expr:=rfl;unfold eD at o;refine eN Tryz.func71 Tryz.ntmps71 ?_;have hRe:part2 x=aO [some [aG [32] [116,114,117,115,116]],iU [32] x.n]:=rfl;refine d1_ [0,1,2,3,4,5,8] [6] [7,9,10] [0,1,2,3,4,5,6,7,8,9,10] ?_;refine nC rfl ?_;refine fC cC ?_;refine nC rfl ?_;refine fC aA ?_;refine oC o 2 aK ?_;refine aDc (B:=B) zA (bV x.n _ bn.1 bn.2 (hT.ext (Own.ext (B:=B) zA))) (λh1 m1 oc1 oq1=>?_) λh1 m1 oq1=>?_
 case refine_2=>exact⟨(by rw[hRe];simp only[dW h1,aO,oMN,oMS]),rfl,oq1⟩
 have hnl1:=bS h1;clear oc1;refine aDb rfl rfl w_ ?_;refine lA oq1 aB aC λb111 m111 o111=>?_;refine aM [[32,116,114,117,115,116],[32]++Lib.itoa x.n] 2 30 [2] (i:=3) zA rfl rfl rfl hp rfl zO zO (by first|(simp;done)|(simp;omega)) zO zO (λp2 v2 bs2 k2 m2 hp2 hb2 hk2 hl2 oq=>?_);have o2q:=oq
 simp only[pick,lgS,lgZ]at o2q
 clear oq;refine cB ?_;refine fB aA ?_;(refine sB o2q 2 aK ?_;intro m162 o162);refine aDS rfl ?_;exact IEnds.done (ps:=[aG [32] [116,114,117,115,116]]++([cI [32] x.n]++[])) (by rw[hRe];simp only[aF h1,aO,oMS]) (o_ [0,1,2]) hp2 (by rw[hb2];simp[bX,gX,wr,aG,aS,cI]) (by rw[hk2];first|(simp;done)|(simp;omega)) zO zO
end Go.Proofs.YtohlogbnpfofpaaGreatDoor
