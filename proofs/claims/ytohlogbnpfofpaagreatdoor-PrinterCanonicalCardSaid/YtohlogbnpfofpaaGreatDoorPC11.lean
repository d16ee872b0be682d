/- Part 11 of the proof of canonical: FnXg3, FnXg7, FnXg8, FnXg, FnXm, FnXq0, FnH1, FnH2. -/
import Derived.Test.YtohlogbnpfofpaaGreatDoorPC10
set_option linter.all false
set_option maxHeartbeats 100000000
set_option maxRecDepth 100000
namespace Go.Proofs.YtohlogbnpfofpaaGreatDoor
open Go StillVC
theorem prExpr_c3 (b n:Nat)(hIH:aBp b n)(kd:Int)(tb:aBs)(ks:List Ex)(cs:List Cnd)(ns:List aBs)(a s:aBs)(g:Int)(off:Nat)(hcls:kd=3)(B:Base)(c:aVs)(be:aBs)(lev:Int)(p v:Value)(k:Int)(bs:aBs)(h:Heap)(hd:kU (.mk kd tb ks cs ns a s g off)≤n+1)(hOK:lH (.mk kd tb ks cs ns a s g off))(hc:sS B.h c (.mk kd tb ks cs ns a s g off))(hp:cW b p)(hbe:be=[]∨be=[32])(hlev:0≤lev∧lev+bZ (.mk kd tb ks cs ns a s g off)≤1000000000000)(hT:kJ B.h)(hF:iQ B.h)
  (o:Own B [box b [p,v,.int .i64 k] 58,row v 5 1 bs.length (bytes bs)] h) (hl:bs.length+2000*fQ (.mk kd tb ks cs ns a s g off)≤50000000000000) (hk:0≤k∧k+2000*fQ (.mk kd tb ks cs ns a s g off)≤50000000000000) :
  Spec Tryz.prog 128 [.pointer (some ⟨b,0,none⟩),.string ⟨⟨be⟩⟩,.agg ⟨c⟩,.int .i64 lev] h (XEnds B b bs k (2000*fQ (.mk kd tb ks cs ns a s g off)) (gM be (.mk kd tb ks cs ns a s g off)) (lev+bZ (.mk kd tb ks cs ns a s g off) - 1)):=by
  rw[kU]at hd
  rw[lH]at hOK
  rw[sS]at hc
  rw[fQ]at hl hk ⊢
  rw[bZ]at hlev ⊢
  rw[show lev+((cC ks+1:Nat):Int) - 1=lev+cC ks by omega]
  obtain⟨bk,btb,bks,bcs,bns,ba,bs_,bg,lk,lc,ln⟩:=hOK
  obtain⟨vk,vc,vn,z,rfl,q1,q2,xs,q3,rk⟩:=hc
  rw[iL]at q2
  obtain⟨e1,f1,rfl⟩:=q1.isS
  obtain⟨e2,f2,rfl⟩:=q2.isS
  obtain⟨e3,f3,rfl⟩:=q3.isS
  unfold wA;have hxs:xs.length=ks.length:=oG rk;have hbel:be.length≤1:=by rcases hbe with rfl|rfl<;>simp
  refine aDX Tryz.func128 rfl Tryz.ntmps128 (by kernel_rfl) ?_;by_cases hkd:1≤kd∧kd≤8
  case neg =>
   exact(by omega:False).elim
  have hfa:=pU hF kd hkd.1 hkd.2;have hf1:=hfa.1;(refine aDz o rfl ?_;intro b50 m50 o50);refine aDU [0,2,3,4,6,7,8,9,11,12,14,15,17,18] [1,5,10,13,16] [19] [0,1,2,3,4,5,6,7,8,9,10,11,12,13,14,15,16,17,18,19] mixed (by kernel_rfl) rfl (fun _ _ _ _ h=>h) ?_;refine fA aM rfl rfl rfl ?_;refine aDe o50 2 rfl aY rfl rfl ?_;refine aDR (fun c53=>?_) (fun hc=>absurd (by omega) hc);refine fA aM rfl rfl rfl ?_;refine aDe o50 2 rfl aY rfl rfl ?_;refine aDR (fun c56=>?_) (fun hc=>absurd (by omega) hc);refine fA aM rfl rfl rfl ?_;refine aDe o50 2 rfl dC rfl rfl ?_;refine aDn rfl cE ?_;refine fA aM rfl rfl rfl ?_;refine aDe o50 2 rfl aY rfl rfl ?_;refine aDx Tryz.underlying195 qX rfl rfl (by omega) (by omega) ?_;refine fA rO rfl rfl rfl ?_;refine load1 aY rfl (o50.old hf1) ?_;refine aDj ‹_› (aE _ _) (fun e1 m2 oc oq=>?_) fun e1 m2 oq=>?_
  case refine_2 =>
   have e1:=of_decide_eq_false e1;have hq:gM be (.mk kd tb ks cs ns a s g off)=none:=by rw[gM,if_neg (fun h=>e1 (by rw[h.2.2.1]))]
   exact⟨hq,rfl,oq⟩
  have hkl:ks.length=fU kd:=by have:=of_decide_eq_true e1;omega
  clear e1 oc;by_cases hkone:kd=1
  ·exact(by omega:False).elim
  ·have hexQ:gM be (.mk kd tb ks cs ns a s g off)=if fC kd tb cs ns a s g=true then aG [some [aD be (cJ.getD (kd - 2).toNat []),aL [] [40]],dD (eM gM) ks,dZ kd cs ns a s g,some [aL [] [41]]] else none:=by
    rw[gM]
    by_cases hb:fC kd tb cs ns a s g=true
    ·rw[if_pos ⟨hkd.1,hkd.2,hkl,hb⟩,if_neg hkone,if_pos hb,oE]
    ·rw[if_neg (fun h=>hb h.2.2.2),if_neg hb]
   have hf2:=hfa.2 hkone;have hol:=aAC (kd - 2).toNat;generalize cJ.getD (kd - 2).toNat []=opw at hexQ hf2 hol;clear hfa;refine rR (aDi oq 2 rfl aU rfl rfl rfl ?_);(refine aDP oq aU ?_;intro b201 m201 o201);(refine aDh o201 3 rfl aU rfl (by decide) (aI ⟨rfl,rfl⟩ ?_);intro m202 o202);refine rR (fA aM rfl rfl rfl ?_);(refine aDN o202 3 rfl aY rfl (by simp) (aI ⟨rfl,rfl⟩ ?_);intro m204 o204);refine rR (fA aM rfl rfl rfl ?_);(refine aDN o204 3 rfl dC rfl (by simp) (aI ⟨rfl,rfl⟩ ?_);intro m206 o206);refine rR (fA aM rfl rfl rfl ?_);(refine aDN o206 3 rfl aY rfl (by simp) (aI ⟨rfl,rfl⟩ ?_);intro m208 o208);refine rR (fA aM rfl rfl rfl ?_);refine rR (aDe o208 2 rfl aY rfl rfl ?_);refine aDR (fun hc=>absurd hc (by omega)) (fun c211=>?_);refine aDU [0,1,2,3,4,6,7,9] [5,8] [10,11] [0,1,2,3,4,5,6,7,8,9,10,11] mixed (by kernel_rfl) rfl (fun _ _ _ _ h=>h) ?_;refine nC rfl ?_;refine fA bS rfl rfl rfl ?_;refine fA aM rfl rfl rfl ?_;refine aDe o208 2 rfl aY rfl rfl ?_;refine aDx Tryz.underlying195 qX rfl rfl (by omega) (by omega) ?_;refine fA rO rfl rfl rfl ?_;refine load1 aO rfl (o208.old hf2) ?_;refine aDm rfl rfl (by first|omega|(simp;omega)) ?_;(refine aDO o208 aJ aO rfl rfl (by decide) (aI rfl ?_);intro b220 m220 o220);refine aH [be++opw,[40]] 2 30 [2,3] (i:=4) ‹_› rfl rfl rfl hp rfl (by omega) (by omega) (by simp;omega) (by omega) (by omega) (fun p1 v1 bs1 k1 m1 hp1 hb1 hk1 hl1 oq=>?_);have o4:Own B [box b [p1,v1,.int .i64 k1] 58,row v1 5 1 bs1.length (bytes bs1),box b50 [.int .i64 kd,.string ⟨⟨tb⟩⟩,.slice e3 ks.length f3,.slice e1 cs.length f1,.slice e2 ns.length f2,.string ⟨⟨a⟩⟩,.string ⟨⟨s⟩⟩,.int .i64 g,.int .i64 z] 42,box b201 [.int .i64 0,.string ⟨⟨tb⟩⟩,.slice none 0 0,.slice e1 cs.length f1,.slice e2 ns.length f2,.string ⟨⟨a⟩⟩,.string ⟨⟨s⟩⟩,.int .i64 g,.int .i64 0] 42] m1:=oq
   clear oq;refine rR (fA aM rfl rfl rfl ?_);refine rR (aDe o4 2 rfl dC rfl rfl ?_);refine rR (aDn rfl cE ?_);refine aD1 [10,11,12,67,68,69,70,71,72,73,74,75,76,77,78,79,80,81,82,83,84,85,86,87,88,89,90] [10,67] (fun vs' hh=>∃(i:Nat) (p' v':Value) (bs':aBs) (k':Int) (ps:List Pc),i≤ks.length∧vs'=[.int .i64 (lev+cC (ks.take i)),.int .i64 i]∧cW b p'∧dD (eM gM) (ks.take i)=some ps∧bs'=bs1++bK ps∧k'=k1+ps.length∧bs'.length≤bs1.length+(2000*gK (ks.take i)+30*i)∧k'≤k1+(2000*gK (ks.take i)+30*i)∧Own B [box b [p',v',.int .i64 k'] 58,row v' 5 1 bs'.length (bytes bs'),box b50 [.int .i64 kd,.string ⟨⟨tb⟩⟩,.slice e3 ks.length f3,.slice e1 cs.length f1,.slice e2 ns.length f2,.string ⟨⟨a⟩⟩,.string ⟨⟨s⟩⟩,.int .i64 g,.int .i64 z] 42,box b201 [.int .i64 0,.string ⟨⟨tb⟩⟩,.slice none 0 0,.slice e1 cs.length f1,.slice e2 ns.length f2,.string ⟨⟨a⟩⟩,.string ⟨⟨s⟩⟩,.int .i64 g,.int .i64 0] 42] hh) (fun vs' _=>match vs' with|[_,.int _ i]=>ks.length - i.toNat|_=>0) ?_ ?_
   ·exact⟨0,p1,v1,bs1,k1,[],by omega,by simp[cC],hp1,rfl,by simp[bK],by simp,by omega,by omega,o4⟩
   rintro vs' junk hh ⟨i,p',v',bs',k',ps,hi,rfl,hp',hQ,hb',hk',hl',hk2,oh⟩;clear o4;have hk2s:ks.length≤2:=by rw[hkl];unfold fU;split<;>(try split)<;>omega
   have hszl:=eP ks i;by_cases hlt:i<ks.length
   ·obtain⟨kx,hkx⟩:=getx hlt
    obtain⟨cx,hcx,hrx⟩:=pW rk hkx
    have hdx:=jG hkx;have hsz:=mC hkx;have hszl2:=eP ks (i+1);have hlv:=kT hkx;have hlvl:bZ kx≤cC ks:=mD hkx;have hlp:=pY kx;have hxOK:=nQ bks hkx;have hrx2:=hrx
    obtain⟨cxv,hcl⟩:=cx
    obtain⟨xk,xt,xks,xcs,xns,xa,xs_,xg,xo⟩:=kx
    rw[sS]at hrx2
    obtain⟨wk,wc,wn,wz,hcv,g1,g2,gx,g3,_⟩:=hrx2
    obtain⟨h1,h2,rfl⟩:=g1.isS
    obtain⟨h3,h4,rfl⟩:=g2.isS
    obtain⟨h5,h6,rfl⟩:=g3.isS
    dsimp only at hcv hrx;subst hcv;unfold wA at hcx hrx hcl;clear g1 g2 g3;by_cases h0:i=0
    ·subst h0
     refine aDR (fun c400=>?_) (fun hc=>absurd (by omega) hc);refine rR (aDo cE aU (q3.ext oh.ext) rfl (by omega) (by omega) ?_);refine rR (aDr aU (q3.ext oh.ext) (fun y:dM=>y.2) (by decide) rfl ‹_› ?_);(refine aDP oh aU ?_;intro b403 m403 o403);(refine aDh o403 4 rfl aU rfl (by decide) (aI ⟨rfl,rfl⟩ ?_);intro m404 o404);refine aDT ?_;refine aDU [0,1,3,4,7,8,10,11] [5,6] [9] [0,1,3,6,7,8,2,4,5,9,10,11] mixed (by kernel_rfl) rfl (fun _ _ _ _ h=>h) ?_;refine aDi o404 4 rfl aU rfl rfl rfl ?_;refine aDY (by omega) (by omega) ?_;(refine aDO (Own.refl _) aJ aO rfl rfl (by decide) (aI rfl ?_);intro b406 m406 o406);(refine aI o406.ext ?_;have o407:=Own.call o404 o406;simp only[lcA,lnA]at o407;clear o406);refine idxB o407 5 rfl aJ aO rfl rfl (by omega) (by first|omega|(simp;omega)) ?_;refine aDe o407 5 rfl aO rfl rfl ?_;refine XEnds.callJ [2,3] ‹_› rfl rfl (fun J oj=>hIH _ _ _ [] _ p' v' k' bs' _ (aEm hdx (by omega)) hxOK hrx hp' (.inl rfl) (by omega) hT hF oj (by omega) (by omega)) (fun ps2 p2 v2 bs2 k2 m2 hq2 hp2 hb2 hk2' hl2 _ hj2 oq=>?_) (fun m2 hq2 oq=>?_)
     case refine_2 =>
      have:dD (eM gM) ks=none:=aS hkx hQ hq2
      exact⟨hexQ.trans (by split;simp only[this,aG,oMN];rfl),rfl,oq⟩
     have o5:Own B [box b [p2,v2,.int .i64 k2] 58,row v2 5 1 bs2.length (bytes bs2),box b50 [.int .i64 kd,.string ⟨⟨tb⟩⟩,.slice e3 ks.length f3,.slice e1 cs.length f1,.slice e2 ns.length f2,.string ⟨⟨a⟩⟩,.string ⟨⟨s⟩⟩,.int .i64 g,.int .i64 z] 42,box b201 [.int .i64 0,.string ⟨⟨tb⟩⟩,.slice none 0 0,.slice e1 cs.length f1,.slice e2 ns.length f2,.string ⟨⟨a⟩⟩,.string ⟨⟨s⟩⟩,.int .i64 g,.int .i64 0] 42] m2:=oq;clear oq;refine max2 rfl rfl ?_;refine aDY (by omega) (by omega) ?_
     refine⟨rfl,?_⟩
     refine⟨⟨0+1,p2,v2,bs2,k2,ps++ps2,by omega,?_,hp2,bE hkx hQ hq2,by rw[hb2,hb'];simp[bK],by rw[hk2',hk'];simp;omega,by omega,by omega,Own.sel ‹_› [0,1,2,3] rfl⟩,by simp;omega⟩
     congr 2
     omega
    ·obtain rfl:i=1:=by omega
     refine aDR (fun c500=>?_) (fun hc=>absurd (by omega) hc);refine rR (aDo cE aU (q3.ext oh.ext) rfl (by omega) (by omega) ?_);refine rR (aDr aU (q3.ext oh.ext) (fun y:dM=>y.2) (by decide) rfl ‹_› ?_);(refine aDP oh aU ?_;intro b503 m503 o503);(refine aDh o503 4 rfl aU rfl (by decide) (aI ⟨rfl,rfl⟩ ?_);intro m504 o504);refine aDS ?_;refine rR (nC rfl ?_);refine rR (fA bS rfl rfl rfl ?_);(refine aDO o504 aJ aO rfl rfl (by decide) (aI rfl ?_);intro b507 m507 o507);refine aH [[44]] 1 30 [2,3,4] (i:=5) ‹_› rfl rfl rfl hp' rfl (by omega) (by omega) (by simp) (by omega) (by omega) (fun p3 v3 bs3 k3 m3 hp3 hb3 hk3 hl3 oq=>?_);have o5:=oq
     simp only[pick,lgS,lgZ]at o5
     clear oq oh;refine aDU [0,1,3,4,7,8,10,11] [5,6] [9] [0,1,3,6,7,8,2,4,5,9,10,11] mixed (by kernel_rfl) rfl (fun _ _ _ _ h=>h) ?_;refine aDi o5 4 rfl aU rfl rfl rfl ?_;refine aDY (by omega) (by omega) ?_;(refine aDO (Own.refl _) aJ aO rfl rfl (by decide) (aI rfl ?_);intro b551 m551 o551);(refine aI o551.ext ?_;have o552:=Own.call o5 o551;simp only[lcA,lnA]at o552;clear o551);refine idxB o552 5 rfl aJ aO rfl rfl (by omega) (by first|omega|(simp;omega)) ?_;refine aDe o552 5 rfl aO rfl rfl ?_;refine XEnds.callJ [2,3] ‹_› rfl rfl (fun J oj=>hIH _ _ _ [32] _ p3 v3 k3 bs3 _ (aEm hdx (by omega)) hxOK hrx hp3 (.inr rfl) (by omega) hT hF oj (by omega) (by omega)) (fun ps2 p2 v2 bs2 k2 m2 hq2 hp2 hb2 hk2' hl2 _ hj2 oq=>?_) (fun m2 hq2 oq=>?_)
     case refine_2 =>
      have:dD (eM gM) ks=none:=aS hkx hQ (by unfold eM;rw[if_neg (by decide),hq2];rfl)
      exact⟨hexQ.trans (by split;simp only[this,aG,oMN];rfl),rfl,oq⟩
     have o6:Own B [box b [p2,v2,.int .i64 k2] 58,row v2 5 1 bs2.length (bytes bs2),box b50 [.int .i64 kd,.string ⟨⟨tb⟩⟩,.slice e3 ks.length f3,.slice e1 cs.length f1,.slice e2 ns.length f2,.string ⟨⟨a⟩⟩,.string ⟨⟨s⟩⟩,.int .i64 g,.int .i64 z] 42,box b201 [.int .i64 0,.string ⟨⟨tb⟩⟩,.slice none 0 0,.slice e1 cs.length f1,.slice e2 ns.length f2,.string ⟨⟨a⟩⟩,.string ⟨⟨s⟩⟩,.int .i64 g,.int .i64 0] 42] m2:=oq;clear oq;refine max2 rfl rfl ?_;refine aDY (by omega) (by omega) ?_
     refine⟨rfl,?_⟩
     refine⟨⟨1+1,p2,v2,bs2,k2,ps++(aL [] [44]::ps2),by omega,?_,hp2,bE hkx hQ (by unfold eM;rw[if_neg (by decide),hq2];rfl),by rw[hb2,hb3,hb'];simp[bK,gE,wr,aL],by rw[hk2',hk3,hk'];simp;omega,by omega,by omega,Own.sel ‹_› [0,1,2,3] rfl⟩,by simp;omega⟩
     congr 2
     omega
   have hQ:=gN (aEs hlt) hQ
   rw[aEk (aEs hlt)]at hl' hk2 ⊢
   by_cases hk2x:kd=2
   ·exact(by omega:False).elim
   by_cases hk3x:kd=3
   ·subst hk3x
    have hB:fC 3 tb cs ns a s g=true↔tb=[]∧cs.length=0∧a=[]∧s=[]∧g=0:=by simp[fC]
    have hRe:dZ 3 cs ns a s g=aG [some [aD [32] [111,110]],gV bB [32] ns]:=rfl;refine aDR (fun hc=>absurd hc (by omega)) (fun c1100=>?_);refine rR (fA aM rfl rfl rfl ?_);refine rR (aDe oh 2 rfl aY rfl rfl ?_);refine aDT ?_;refine aDT ?_;refine aDS ?_;refine rR (nC rfl ?_);refine rR (fA bS rfl rfl rfl ?_);(refine aDO oh aJ aO rfl rfl (by decide) (aI rfl ?_);intro b1105 m1105 o1105);refine aH [[32,111,110]] 1 30 [2,3] (i:=4) ‹_› rfl rfl rfl hp' rfl (by omega) (by omega) (by simp) (by omega) (by omega) (fun p2 v2 bs2 k2 m2 hp2 hb2 hk2' hl2 oq=>?_);have o6:Own B [box b [p2,v2,.int .i64 k2] 58,row v2 5 1 bs2.length (bytes bs2),box b50 [.int .i64 3,.string ⟨⟨tb⟩⟩,.slice e3 ks.length f3,.slice e1 cs.length f1,.slice e2 ns.length f2,.string ⟨⟨a⟩⟩,.string ⟨⟨s⟩⟩,.int .i64 g,.int .i64 z] 42,box b201 [.int .i64 0,.string ⟨⟨tb⟩⟩,.slice none 0 0,.slice e1 cs.length f1,.slice e2 ns.length f2,.string ⟨⟨a⟩⟩,.string ⟨⟨s⟩⟩,.int .i64 g,.int .i64 0] 42] m2:=oq;clear oq oh;refine rR (fA aM rfl rfl rfl ?_);refine rR (aDe o6 2 rfl fG rfl rfl ?_);refine WEnds.callJ [2,3] ‹_› rfl rfl (fun J oj=>nK ⟨B.h,J++B.T⟩ b p2 v2 k2 bs2 [32] ns _ _ hp2 (fun L h o=>(q2.ext (Own.ext (B:=⟨B.h,J++B.T⟩) o)).to1) oj (by omega) bns (by omega) (by omega) (.inr rfl)) (fun ps3 p3 v3 bs3 k3 m3 hq3 hp3 hb3 hk3' hl3 _ hj3 oq=>?_) (fun m3 hq3 oq=>?_)
    case refine_2 =>
     have hR:dZ 3 cs ns a s g=none:=by rw[hRe];simp only[hq3,aG,oMN]
     exact⟨hexQ.trans (by split;simp only[hQ,hR,aG,oMN,oMS];rfl),rfl,oq⟩
    have o7:Own B [box b [p3,v3,.int .i64 k3] 58,row v3 5 1 bs3.length (bytes bs3),box b50 [.int .i64 3,.string ⟨⟨tb⟩⟩,.slice e3 ks.length f3,.slice e1 cs.length f1,.slice e2 ns.length f2,.string ⟨⟨a⟩⟩,.string ⟨⟨s⟩⟩,.int .i64 g,.int .i64 z] 42,box b201 [.int .i64 0,.string ⟨⟨tb⟩⟩,.slice none 0 0,.slice e1 cs.length f1,.slice e2 ns.length f2,.string ⟨⟨a⟩⟩,.string ⟨⟨s⟩⟩,.int .i64 g,.int .i64 0] 42] m3:=oq;clear oq o6;have hR:dZ 3 cs ns a s g=some ([aD [32] [111,110]]++(ps3++[])):=by rw[hRe];simp only[hq3,aG,oMS]
    refine rR (fA aM rfl rfl rfl ?_);(refine aDN o7 3 rfl fG rfl (by simp) (aI ⟨rfl,rfl⟩ ?_);intro m1221 o1221);refine rR (fA aM rfl rfl rfl ?_);refine rR (aDe o1221 2 rfl aY rfl rfl ?_);refine aDS ?_;refine rR (nC rfl ?_);refine rR (fA bS rfl rfl rfl ?_);(refine aDO o1221 aJ aO rfl rfl (by decide) (aI rfl ?_);intro b1226 m1226 o1226);refine aH [[41]] 1 30 [2,3] (i:=4) ‹_› rfl rfl rfl hp3 rfl (by omega) (by omega) (by simp) (by omega) (by omega) (fun p9 v9 bs9 k9 m9 hp9 hb9 hk9 hl9 oq=>?_);have o9:Own B [box b [p9,v9,.int .i64 k9] 58,row v9 5 1 bs9.length (bytes bs9),box b50 [.int .i64 3,.string ⟨⟨tb⟩⟩,.slice e3 ks.length f3,.slice e1 cs.length f1,.slice e2 ns.length f2,.string ⟨⟨a⟩⟩,.string ⟨⟨s⟩⟩,.int .i64 g,.int .i64 z] 42,box b201 [.int .i64 0,.string ⟨⟨tb⟩⟩,.slice none 0 0,.slice e1 cs.length f1,.slice none 0 0,.string ⟨⟨a⟩⟩,.string ⟨⟨s⟩⟩,.int .i64 g,.int .i64 0] 42] m9:=oq;clear oq;refine rR (fA aM rfl rfl rfl ?_);refine rR (aDe o9 3 rfl aO rfl rfl ?_);refine aDR (fun c1282=>?_) (fun c1282=>?_);refine rR (fA aM rfl rfl rfl ?_);refine rR (aDe o9 3 rfl nA rfl rfl ?_);refine rR (aDn rfl nI ?_);refine aDR (fun c1286=>?_) (fun c1286=>?_);refine rR (fA aM rfl rfl rfl ?_);refine rR (aDe o9 3 rfl fG rfl rfl ?_);refine rR (aDn rfl aJ ?_);refine aDS ?_;refine rR (fA aM rfl rfl rfl ?_);refine rR (aDe o9 3 rfl aO rfl rfl ?_);refine aDR (fun c1292=>?_) (fun c1292=>?_);refine rR (fA aM rfl rfl rfl ?_);refine rR (aDe o9 3 rfl aO rfl rfl ?_);refine aDR (fun c1295=>?_) (fun c1295=>?_);refine rR (fA aM rfl rfl rfl ?_)
    refine rR (aDe o9 3 rfl aY rfl rfl ?_)
    any_goals (refine aDj (B:=B) ‹_› (aE false _) (fun e8 m8 _ oq=>by cases e8) fun e8 m8 oq=>?_;exact⟨hexQ.trans (if_neg fun hb=>by obtain⟨x0,x1,x2,x3,x4⟩:=hB.1 hb;first|contradiction|omega),rfl,oq⟩)
    refine aDj (B:=B) ‹_› (aE _ _) (fun e8 m8 _ oq=>?_) fun e8 m8 oq=>?_
    case refine_2 =>
     have e8:=of_decide_eq_false e8
     exact⟨hexQ.trans (if_neg fun hb=>by obtain⟨x0,x1,x2,x3,x4⟩:=hB.1 hb;omega),rfl,oq⟩
    have e8:=of_decide_eq_true e8;have hbare:=hB.2 ⟨by assumption,by omega,by assumption,by assumption,by omega⟩;refine aDZ rfl ?_;exact XEnds.done (ps:=[aD be opw,aL [] [40]]++(ps++(([aD [32] [111,110]]++(ps3++[]))++([aL [] [41]]++[])))) (hexQ.trans (by rw[if_pos hbare];simp only[hQ,hR,aG,oMS])) (oq.sel [0,1] rfl) hp9 (by rw[hb9,hb3,hb2,hb',hb1];simp[bK,gE,wr,aD,aL]) (by rw[hk9,hk3',hk2',hk',hk1];simp;omega) (by omega) (by omega)
   by_cases hk7x:kd=7
   ·exact(by omega:False).elim
   by_cases hk8x:kd=8
   ·exact(by omega:False).elim
   exact(by omega:False).elim
theorem prExpr_c7 (b n:Nat)(hIH:aBp b n)(kd:Int)(tb:aBs)(ks:List Ex)(cs:List Cnd)(ns:List aBs)(a s:aBs)(g:Int)(off:Nat)(hcls:kd=7)(B:Base)(c:aVs)(be:aBs)(lev:Int)(p v:Value)(k:Int)(bs:aBs)(h:Heap)(hd:kU (.mk kd tb ks cs ns a s g off)≤n+1)(hOK:lH (.mk kd tb ks cs ns a s g off))(hc:sS B.h c (.mk kd tb ks cs ns a s g off))(hp:cW b p)(hbe:be=[]∨be=[32])(hlev:0≤lev∧lev+bZ (.mk kd tb ks cs ns a s g off)≤1000000000000)(hT:kJ B.h)(hF:iQ B.h)
  (o:Own B [box b [p,v,.int .i64 k] 58,row v 5 1 bs.length (bytes bs)] h) (hl:bs.length+2000*fQ (.mk kd tb ks cs ns a s g off)≤50000000000000) (hk:0≤k∧k+2000*fQ (.mk kd tb ks cs ns a s g off)≤50000000000000) :
  Spec Tryz.prog 128 [.pointer (some ⟨b,0,none⟩),.string ⟨⟨be⟩⟩,.agg ⟨c⟩,.int .i64 lev] h (XEnds B b bs k (2000*fQ (.mk kd tb ks cs ns a s g off)) (gM be (.mk kd tb ks cs ns a s g off)) (lev+bZ (.mk kd tb ks cs ns a s g off) - 1)):=by
  rw[kU]at hd
  rw[lH]at hOK
  rw[sS]at hc
  rw[fQ]at hl hk ⊢
  rw[bZ]at hlev ⊢
  rw[show lev+((cC ks+1:Nat):Int) - 1=lev+cC ks by omega]
  obtain⟨bk,btb,bks,bcs,bns,ba,bs_,bg,lk,lc,ln⟩:=hOK
  obtain⟨vk,vc,vn,z,rfl,q1,q2,xs,q3,rk⟩:=hc
  rw[iL]at q2
  obtain⟨e1,f1,rfl⟩:=q1.isS
  obtain⟨e2,f2,rfl⟩:=q2.isS
  obtain⟨e3,f3,rfl⟩:=q3.isS
  unfold wA;have hxs:xs.length=ks.length:=oG rk;have hbel:be.length≤1:=by rcases hbe with rfl|rfl<;>simp
  refine aDX Tryz.func128 rfl Tryz.ntmps128 (by kernel_rfl) ?_;by_cases hkd:1≤kd∧kd≤8
  case neg =>
   exact(by omega:False).elim
  have hfa:=pU hF kd hkd.1 hkd.2;have hf1:=hfa.1;(refine aDz o rfl ?_;intro b50 m50 o50);refine aDU [0,2,3,4,6,7,8,9,11,12,14,15,17,18] [1,5,10,13,16] [19] [0,1,2,3,4,5,6,7,8,9,10,11,12,13,14,15,16,17,18,19] mixed (by kernel_rfl) rfl (fun _ _ _ _ h=>h) ?_;refine fA aM rfl rfl rfl ?_;refine aDe o50 2 rfl aY rfl rfl ?_;refine aDR (fun c53=>?_) (fun hc=>absurd (by omega) hc);refine fA aM rfl rfl rfl ?_;refine aDe o50 2 rfl aY rfl rfl ?_;refine aDR (fun c56=>?_) (fun hc=>absurd (by omega) hc);refine fA aM rfl rfl rfl ?_;refine aDe o50 2 rfl dC rfl rfl ?_;refine aDn rfl cE ?_;refine fA aM rfl rfl rfl ?_;refine aDe o50 2 rfl aY rfl rfl ?_;refine aDx Tryz.underlying195 qX rfl rfl (by omega) (by omega) ?_;refine fA rO rfl rfl rfl ?_;refine load1 aY rfl (o50.old hf1) ?_;refine aDj ‹_› (aE _ _) (fun e1 m2 oc oq=>?_) fun e1 m2 oq=>?_
  case refine_2 =>
   have e1:=of_decide_eq_false e1;have hq:gM be (.mk kd tb ks cs ns a s g off)=none:=by rw[gM,if_neg (fun h=>e1 (by rw[h.2.2.1]))]
   exact⟨hq,rfl,oq⟩
  have hkl:ks.length=fU kd:=by have:=of_decide_eq_true e1;omega
  clear e1 oc;by_cases hkone:kd=1
  ·exact(by omega:False).elim
  ·have hexQ:gM be (.mk kd tb ks cs ns a s g off)=if fC kd tb cs ns a s g=true then aG [some [aD be (cJ.getD (kd - 2).toNat []),aL [] [40]],dD (eM gM) ks,dZ kd cs ns a s g,some [aL [] [41]]] else none:=by
    rw[gM]
    by_cases hb:fC kd tb cs ns a s g=true
    ·rw[if_pos ⟨hkd.1,hkd.2,hkl,hb⟩,if_neg hkone,if_pos hb,oE]
    ·rw[if_neg (fun h=>hb h.2.2.2),if_neg hb]
   have hf2:=hfa.2 hkone;have hol:=aAC (kd - 2).toNat;generalize cJ.getD (kd - 2).toNat []=opw at hexQ hf2 hol;clear hfa;refine rR (aDi oq 2 rfl aU rfl rfl rfl ?_);(refine aDP oq aU ?_;intro b201 m201 o201);(refine aDh o201 3 rfl aU rfl (by decide) (aI ⟨rfl,rfl⟩ ?_);intro m202 o202);refine rR (fA aM rfl rfl rfl ?_);(refine aDN o202 3 rfl aY rfl (by simp) (aI ⟨rfl,rfl⟩ ?_);intro m204 o204);refine rR (fA aM rfl rfl rfl ?_);(refine aDN o204 3 rfl dC rfl (by simp) (aI ⟨rfl,rfl⟩ ?_);intro m206 o206);refine rR (fA aM rfl rfl rfl ?_);(refine aDN o206 3 rfl aY rfl (by simp) (aI ⟨rfl,rfl⟩ ?_);intro m208 o208);refine rR (fA aM rfl rfl rfl ?_);refine rR (aDe o208 2 rfl aY rfl rfl ?_);refine aDR (fun hc=>absurd hc (by omega)) (fun c211=>?_);refine aDU [0,1,2,3,4,6,7,9] [5,8] [10,11] [0,1,2,3,4,5,6,7,8,9,10,11] mixed (by kernel_rfl) rfl (fun _ _ _ _ h=>h) ?_;refine nC rfl ?_;refine fA bS rfl rfl rfl ?_;refine fA aM rfl rfl rfl ?_;refine aDe o208 2 rfl aY rfl rfl ?_;refine aDx Tryz.underlying195 qX rfl rfl (by omega) (by omega) ?_;refine fA rO rfl rfl rfl ?_;refine load1 aO rfl (o208.old hf2) ?_;refine aDm rfl rfl (by first|omega|(simp;omega)) ?_;(refine aDO o208 aJ aO rfl rfl (by decide) (aI rfl ?_);intro b220 m220 o220);refine aH [be++opw,[40]] 2 30 [2,3] (i:=4) ‹_› rfl rfl rfl hp rfl (by omega) (by omega) (by simp;omega) (by omega) (by omega) (fun p1 v1 bs1 k1 m1 hp1 hb1 hk1 hl1 oq=>?_);have o4:Own B [box b [p1,v1,.int .i64 k1] 58,row v1 5 1 bs1.length (bytes bs1),box b50 [.int .i64 kd,.string ⟨⟨tb⟩⟩,.slice e3 ks.length f3,.slice e1 cs.length f1,.slice e2 ns.length f2,.string ⟨⟨a⟩⟩,.string ⟨⟨s⟩⟩,.int .i64 g,.int .i64 z] 42,box b201 [.int .i64 0,.string ⟨⟨tb⟩⟩,.slice none 0 0,.slice e1 cs.length f1,.slice e2 ns.length f2,.string ⟨⟨a⟩⟩,.string ⟨⟨s⟩⟩,.int .i64 g,.int .i64 0] 42] m1:=oq
   clear oq;refine rR (fA aM rfl rfl rfl ?_);refine rR (aDe o4 2 rfl dC rfl rfl ?_);refine rR (aDn rfl cE ?_);refine aD1 [10,11,12,67,68,69,70,71,72,73,74,75,76,77,78,79,80,81,82,83,84,85,86,87,88,89,90] [10,67] (fun vs' hh=>∃(i:Nat) (p' v':Value) (bs':aBs) (k':Int) (ps:List Pc),i≤ks.length∧vs'=[.int .i64 (lev+cC (ks.take i)),.int .i64 i]∧cW b p'∧dD (eM gM) (ks.take i)=some ps∧bs'=bs1++bK ps∧k'=k1+ps.length∧bs'.length≤bs1.length+(2000*gK (ks.take i)+30*i)∧k'≤k1+(2000*gK (ks.take i)+30*i)∧Own B [box b [p',v',.int .i64 k'] 58,row v' 5 1 bs'.length (bytes bs'),box b50 [.int .i64 kd,.string ⟨⟨tb⟩⟩,.slice e3 ks.length f3,.slice e1 cs.length f1,.slice e2 ns.length f2,.string ⟨⟨a⟩⟩,.string ⟨⟨s⟩⟩,.int .i64 g,.int .i64 z] 42,box b201 [.int .i64 0,.string ⟨⟨tb⟩⟩,.slice none 0 0,.slice e1 cs.length f1,.slice e2 ns.length f2,.string ⟨⟨a⟩⟩,.string ⟨⟨s⟩⟩,.int .i64 g,.int .i64 0] 42] hh) (fun vs' _=>match vs' with|[_,.int _ i]=>ks.length - i.toNat|_=>0) ?_ ?_
   ·exact⟨0,p1,v1,bs1,k1,[],by omega,by simp[cC],hp1,rfl,by simp[bK],by simp,by omega,by omega,o4⟩
   rintro vs' junk hh ⟨i,p',v',bs',k',ps,hi,rfl,hp',hQ,hb',hk',hl',hk2,oh⟩;clear o4;have hk2s:ks.length≤2:=by rw[hkl];unfold fU;split<;>(try split)<;>omega
   have hszl:=eP ks i;by_cases hlt:i<ks.length
   ·obtain⟨kx,hkx⟩:=getx hlt
    obtain⟨cx,hcx,hrx⟩:=pW rk hkx
    have hdx:=jG hkx;have hsz:=mC hkx;have hszl2:=eP ks (i+1);have hlv:=kT hkx;have hlvl:bZ kx≤cC ks:=mD hkx;have hlp:=pY kx;have hxOK:=nQ bks hkx;have hrx2:=hrx
    obtain⟨cxv,hcl⟩:=cx
    obtain⟨xk,xt,xks,xcs,xns,xa,xs_,xg,xo⟩:=kx
    rw[sS]at hrx2
    obtain⟨wk,wc,wn,wz,hcv,g1,g2,gx,g3,_⟩:=hrx2
    obtain⟨h1,h2,rfl⟩:=g1.isS
    obtain⟨h3,h4,rfl⟩:=g2.isS
    obtain⟨h5,h6,rfl⟩:=g3.isS
    dsimp only at hcv hrx;subst hcv;unfold wA at hcx hrx hcl;clear g1 g2 g3;by_cases h0:i=0
    ·subst h0
     refine aDR (fun c400=>?_) (fun hc=>absurd (by omega) hc);refine rR (aDo cE aU (q3.ext oh.ext) rfl (by omega) (by omega) ?_);refine rR (aDr aU (q3.ext oh.ext) (fun y:dM=>y.2) (by decide) rfl ‹_› ?_);(refine aDP oh aU ?_;intro b403 m403 o403);(refine aDh o403 4 rfl aU rfl (by decide) (aI ⟨rfl,rfl⟩ ?_);intro m404 o404);refine aDT ?_;refine aDU [0,1,3,4,7,8,10,11] [5,6] [9] [0,1,3,6,7,8,2,4,5,9,10,11] mixed (by kernel_rfl) rfl (fun _ _ _ _ h=>h) ?_;refine aDi o404 4 rfl aU rfl rfl rfl ?_;refine aDY (by omega) (by omega) ?_;(refine aDO (Own.refl _) aJ aO rfl rfl (by decide) (aI rfl ?_);intro b406 m406 o406);(refine aI o406.ext ?_;have o407:=Own.call o404 o406;simp only[lcA,lnA]at o407;clear o406);refine idxB o407 5 rfl aJ aO rfl rfl (by omega) (by first|omega|(simp;omega)) ?_;refine aDe o407 5 rfl aO rfl rfl ?_;refine XEnds.callJ [2,3] ‹_› rfl rfl (fun J oj=>hIH _ _ _ [] _ p' v' k' bs' _ (aEm hdx (by omega)) hxOK hrx hp' (.inl rfl) (by omega) hT hF oj (by omega) (by omega)) (fun ps2 p2 v2 bs2 k2 m2 hq2 hp2 hb2 hk2' hl2 _ hj2 oq=>?_) (fun m2 hq2 oq=>?_)
     case refine_2 =>
      have:dD (eM gM) ks=none:=aS hkx hQ hq2
      exact⟨hexQ.trans (by split;simp only[this,aG,oMN];rfl),rfl,oq⟩
     have o5:Own B [box b [p2,v2,.int .i64 k2] 58,row v2 5 1 bs2.length (bytes bs2),box b50 [.int .i64 kd,.string ⟨⟨tb⟩⟩,.slice e3 ks.length f3,.slice e1 cs.length f1,.slice e2 ns.length f2,.string ⟨⟨a⟩⟩,.string ⟨⟨s⟩⟩,.int .i64 g,.int .i64 z] 42,box b201 [.int .i64 0,.string ⟨⟨tb⟩⟩,.slice none 0 0,.slice e1 cs.length f1,.slice e2 ns.length f2,.string ⟨⟨a⟩⟩,.string ⟨⟨s⟩⟩,.int .i64 g,.int .i64 0] 42] m2:=oq;clear oq;refine max2 rfl rfl ?_;refine aDY (by omega) (by omega) ?_
     refine⟨rfl,?_⟩
     refine⟨⟨0+1,p2,v2,bs2,k2,ps++ps2,by omega,?_,hp2,bE hkx hQ hq2,by rw[hb2,hb'];simp[bK],by rw[hk2',hk'];simp;omega,by omega,by omega,Own.sel ‹_› [0,1,2,3] rfl⟩,by simp;omega⟩
     congr 2
     omega
    ·obtain rfl:i=1:=by omega
     refine aDR (fun c500=>?_) (fun hc=>absurd (by omega) hc);refine rR (aDo cE aU (q3.ext oh.ext) rfl (by omega) (by omega) ?_);refine rR (aDr aU (q3.ext oh.ext) (fun y:dM=>y.2) (by decide) rfl ‹_› ?_);(refine aDP oh aU ?_;intro b503 m503 o503);(refine aDh o503 4 rfl aU rfl (by decide) (aI ⟨rfl,rfl⟩ ?_);intro m504 o504);refine aDS ?_;refine rR (nC rfl ?_);refine rR (fA bS rfl rfl rfl ?_);(refine aDO o504 aJ aO rfl rfl (by decide) (aI rfl ?_);intro b507 m507 o507);refine aH [[44]] 1 30 [2,3,4] (i:=5) ‹_› rfl rfl rfl hp' rfl (by omega) (by omega) (by simp) (by omega) (by omega) (fun p3 v3 bs3 k3 m3 hp3 hb3 hk3 hl3 oq=>?_);have o5:=oq
     simp only[pick,lgS,lgZ]at o5
     clear oq oh;refine aDU [0,1,3,4,7,8,10,11] [5,6] [9] [0,1,3,6,7,8,2,4,5,9,10,11] mixed (by kernel_rfl) rfl (fun _ _ _ _ h=>h) ?_;refine aDi o5 4 rfl aU rfl rfl rfl ?_;refine aDY (by omega) (by omega) ?_;(refine aDO (Own.refl _) aJ aO rfl rfl (by decide) (aI rfl ?_);intro b551 m551 o551);(refine aI o551.ext ?_;have o552:=Own.call o5 o551;simp only[lcA,lnA]at o552;clear o551);refine idxB o552 5 rfl aJ aO rfl rfl (by omega) (by first|omega|(simp;omega)) ?_;refine aDe o552 5 rfl aO rfl rfl ?_;refine XEnds.callJ [2,3] ‹_› rfl rfl (fun J oj=>hIH _ _ _ [32] _ p3 v3 k3 bs3 _ (aEm hdx (by omega)) hxOK hrx hp3 (.inr rfl) (by omega) hT hF oj (by omega) (by omega)) (fun ps2 p2 v2 bs2 k2 m2 hq2 hp2 hb2 hk2' hl2 _ hj2 oq=>?_) (fun m2 hq2 oq=>?_)
     case refine_2 =>
      have:dD (eM gM) ks=none:=aS hkx hQ (by unfold eM;rw[if_neg (by decide),hq2];rfl)
      exact⟨hexQ.trans (by split;simp only[this,aG,oMN];rfl),rfl,oq⟩
     have o6:Own B [box b [p2,v2,.int .i64 k2] 58,row v2 5 1 bs2.length (bytes bs2),box b50 [.int .i64 kd,.string ⟨⟨tb⟩⟩,.slice e3 ks.length f3,.slice e1 cs.length f1,.slice e2 ns.length f2,.string ⟨⟨a⟩⟩,.string ⟨⟨s⟩⟩,.int .i64 g,.int .i64 z] 42,box b201 [.int .i64 0,.string ⟨⟨tb⟩⟩,.slice none 0 0,.slice e1 cs.length f1,.slice e2 ns.length f2,.string ⟨⟨a⟩⟩,.string ⟨⟨s⟩⟩,.int .i64 g,.int .i64 0] 42] m2:=oq;clear oq;refine max2 rfl rfl ?_;refine aDY (by omega) (by omega) ?_
     refine⟨rfl,?_⟩
     refine⟨⟨1+1,p2,v2,bs2,k2,ps++(aL [] [44]::ps2),by omega,?_,hp2,bE hkx hQ (by unfold eM;rw[if_neg (by decide),hq2];rfl),by rw[hb2,hb3,hb'];simp[bK,gE,wr,aL],by rw[hk2',hk3,hk'];simp;omega,by omega,by omega,Own.sel ‹_› [0,1,2,3] rfl⟩,by simp;omega⟩
     congr 2
     omega
   have hQ:=gN (aEs hlt) hQ
   rw[aEk (aEs hlt)]at hl' hk2 ⊢
   by_cases hk2x:kd=2
   ·exact(by omega:False).elim
   by_cases hk3x:kd=3
   ·exact(by omega:False).elim
   by_cases hk7x:kd=7
   ·subst hk7x
    have hB:fC 7 tb cs ns a s g=true↔tb=[]∧cs.length=0∧ns.length=0∧g=0:=by simp[fC]
    have hRe:dZ 7 cs ns a s g=aG [some [aL [] [44]],bB [32] a,some [aD [32] [97,115]],bB [32] s]:=rfl;refine aDR (fun hc=>absurd hc (by omega)) (fun c1400=>?_);refine rR (fA aM rfl rfl rfl ?_);refine rR (aDe oh 2 rfl aY rfl rfl ?_);refine aDT ?_;refine aDT ?_;refine aDT ?_;refine aDS ?_;refine aDU [0,1,2,3,6,7,10] [4,8] [9,11,12] [0,1,2,3,4,7,8,5,6,9,10,11,12] mixed (by kernel_rfl) rfl (fun _ _ _ _ h=>h) ?_;refine nC rfl ?_;refine fA bS rfl rfl rfl ?_;refine fA aM rfl rfl rfl ?_;refine aDe oh 2 rfl aO rfl rfl ?_;refine fA aM rfl rfl rfl ?_;refine aDe oh 2 rfl aO rfl rfl ?_;refine aDj (B:=B) ‹_› (bM a _ ba) (fun ea mea ocea oq=>?_) fun ea mea oq=>?_
    case refine_2 =>
     have hR:dZ 7 cs ns a s g=none:=by rw[hRe];simp only[cZ ea,aG,oMN]
     exact⟨hexQ.trans (by split;simp only[hQ,hR,aG,oMN,oMS];rfl),rfl,oq⟩
    have hnlea:=cU ea
    refine⟨ocea.ext,?_⟩
    clear ocea;refine aDm rfl rfl (by first|omega|(simp;omega)) ?_;refine aDj (B:=B) ‹_› (bM s _ bs_) (fun es mes oces oq=>?_) fun es mes oq=>?_
    case refine_2 =>
     have hR:dZ 7 cs ns a s g=none:=by rw[hRe];simp only[aB ea,cZ es,aG,oMN]
     exact⟨hexQ.trans (by split;simp only[hQ,hR,aG,oMN,oMS];rfl),rfl,oq⟩
    have hnles:=cU es;clear oces oh;refine aDm rfl rfl (by first|omega|(simp;omega)) ?_;(refine aDO oq aJ aO rfl rfl (by decide) (aI rfl ?_);intro b1521 m1521 o1521);refine aH [[44],[32]++a,[32,97,115],[32]++s] 4 30 [2,3] (i:=4) ‹_› rfl rfl rfl hp' rfl (by omega) (by omega) (by simp;omega) (by omega) (by omega) (fun p2 v2 bs2 k2 m2 hp2 hb2 hk2' hl2 oq=>?_);have o6:Own B [box b [p2,v2,.int .i64 k2] 58,row v2 5 1 bs2.length (bytes bs2),box b50 [.int .i64 7,.string ⟨⟨tb⟩⟩,.slice e3 ks.length f3,.slice e1 cs.length f1,.slice e2 ns.length f2,.string ⟨⟨a⟩⟩,.string ⟨⟨s⟩⟩,.int .i64 g,.int .i64 z] 42,box b201 [.int .i64 0,.string ⟨⟨tb⟩⟩,.slice none 0 0,.slice e1 cs.length f1,.slice e2 ns.length f2,.string ⟨⟨a⟩⟩,.string ⟨⟨s⟩⟩,.int .i64 g,.int .i64 0] 42] m2:=oq;clear oq;have hR:dZ 7 cs ns a s g=some [aL [] [44],aD [32] a,aD [32] [97,115],aD [32] s]:=by rw[hRe];simp only[aB ea,aB es,aG,oMS];rfl
    refine rR (fA aM rfl rfl rfl ?_);(refine aDN o6 3 rfl aO rfl (by simp) (aI ⟨rfl,rfl⟩ ?_);intro m1581 o1581);refine rR (fA aM rfl rfl rfl ?_);(refine aDN o1581 3 rfl aO rfl (by simp) (aI ⟨rfl,rfl⟩ ?_);intro m1583 o1583);refine rR (fA aM rfl rfl rfl ?_);refine rR (aDe o1583 2 rfl aY rfl rfl ?_);refine aDS ?_;refine rR (nC rfl ?_);refine rR (fA bS rfl rfl rfl ?_);(refine aDO o1583 aJ aO rfl rfl (by decide) (aI rfl ?_);intro b1588 m1588 o1588);refine aH [[41]] 1 30 [2,3] (i:=4) ‹_› rfl rfl rfl hp2 rfl (by omega) (by omega) (by simp) (by omega) (by omega) (fun p9 v9 bs9 k9 m9 hp9 hb9 hk9 hl9 oq=>?_);have o9:Own B [box b [p9,v9,.int .i64 k9] 58,row v9 5 1 bs9.length (bytes bs9),box b50 [.int .i64 7,.string ⟨⟨tb⟩⟩,.slice e3 ks.length f3,.slice e1 cs.length f1,.slice e2 ns.length f2,.string ⟨⟨a⟩⟩,.string ⟨⟨s⟩⟩,.int .i64 g,.int .i64 z] 42,box b201 [.int .i64 0,.string ⟨⟨tb⟩⟩,.slice none 0 0,.slice e1 cs.length f1,.slice e2 ns.length f2,.string ⟨⟨[]⟩⟩,.string ⟨⟨[]⟩⟩,.int .i64 g,.int .i64 0] 42] m9:=oq;clear oq;refine rR (fA aM rfl rfl rfl ?_);refine rR (aDe o9 3 rfl aO rfl rfl ?_);refine aDR (fun c1642=>?_) (fun c1642=>?_);refine rR (fA aM rfl rfl rfl ?_);refine rR (aDe o9 3 rfl nA rfl rfl ?_);refine rR (aDn rfl nI ?_);refine aDR (fun c1646=>?_) (fun c1646=>?_);refine rR (fA aM rfl rfl rfl ?_);refine rR (aDe o9 3 rfl fG rfl rfl ?_);refine rR (aDn rfl aJ ?_);refine aDR (fun c1650=>?_) (fun c1650=>?_);refine rR (fA aM rfl rfl rfl ?_);refine rR (aDe o9 3 rfl aO rfl rfl ?_);refine aDS ?_;refine rR (fA aM rfl rfl rfl ?_)
    refine rR (aDe o9 3 rfl aO rfl rfl ?_);refine aDS ?_;refine rR (fA aM rfl rfl rfl ?_);refine rR (aDe o9 3 rfl aY rfl rfl ?_)
    any_goals (refine aDj (B:=B) ‹_› (aE false _) (fun e8 m8 _ oq=>by cases e8) fun e8 m8 oq=>?_;exact⟨hexQ.trans (if_neg fun hb=>by obtain⟨x0,x1,x2,x3⟩:=hB.1 hb;first|contradiction|omega),rfl,oq⟩)
    refine aDj (B:=B) ‹_› (aE _ _) (fun e8 m8 _ oq=>?_) fun e8 m8 oq=>?_
    case refine_2 =>
     have e8:=of_decide_eq_false e8
     exact⟨hexQ.trans (if_neg fun hb=>by obtain⟨x0,x1,x2,x3⟩:=hB.1 hb;omega),rfl,oq⟩
    have e8:=of_decide_eq_true e8;have hbare:=hB.2 ⟨by assumption,by omega,by omega,by omega⟩;refine aDZ rfl ?_;exact XEnds.done (ps:=[aD be opw,aL [] [40]]++(ps++([aL [] [44],aD [32] a,aD [32] [97,115],aD [32] s]++([aL [] [41]]++[])))) (hexQ.trans (by rw[if_pos hbare];simp only[hQ,hR,aG,oMS])) (oq.sel [0,1] rfl) hp9 (by rw[hb9,hb2,hb',hb1];simp[bK,gE,wr,aD,aL]) (by rw[hk9,hk2',hk',hk1];simp;omega) (by omega) (by omega)
   by_cases hk8x:kd=8
   ·exact(by omega:False).elim
   exact(by omega:False).elim
theorem prExpr_c8 (b n:Nat)(hIH:aBp b n)(kd:Int)(tb:aBs)(ks:List Ex)(cs:List Cnd)(ns:List aBs)(a s:aBs)(g:Int)(off:Nat)(hcls:kd=8)(B:Base)(c:aVs)(be:aBs)(lev:Int)(p v:Value)(k:Int)(bs:aBs)(h:Heap)(hd:kU (.mk kd tb ks cs ns a s g off)≤n+1)(hOK:lH (.mk kd tb ks cs ns a s g off))(hc:sS B.h c (.mk kd tb ks cs ns a s g off))(hp:cW b p)(hbe:be=[]∨be=[32])(hlev:0≤lev∧lev+bZ (.mk kd tb ks cs ns a s g off)≤1000000000000)(hT:kJ B.h)(hF:iQ B.h)
  (o:Own B [box b [p,v,.int .i64 k] 58,row v 5 1 bs.length (bytes bs)] h) (hl:bs.length+2000*fQ (.mk kd tb ks cs ns a s g off)≤50000000000000) (hk:0≤k∧k+2000*fQ (.mk kd tb ks cs ns a s g off)≤50000000000000) :
  Spec Tryz.prog 128 [.pointer (some ⟨b,0,none⟩),.string ⟨⟨be⟩⟩,.agg ⟨c⟩,.int .i64 lev] h (XEnds B b bs k (2000*fQ (.mk kd tb ks cs ns a s g off)) (gM be (.mk kd tb ks cs ns a s g off)) (lev+bZ (.mk kd tb ks cs ns a s g off) - 1)):=by
  rw[kU]at hd
  rw[lH]at hOK
  rw[sS]at hc
  rw[fQ]at hl hk ⊢
  rw[bZ]at hlev ⊢
  rw[show lev+((cC ks+1:Nat):Int) - 1=lev+cC ks by omega]
  obtain⟨bk,btb,bks,bcs,bns,ba,bs_,bg,lk,lc,ln⟩:=hOK
  obtain⟨vk,vc,vn,z,rfl,q1,q2,xs,q3,rk⟩:=hc
  rw[iL]at q2
  obtain⟨e1,f1,rfl⟩:=q1.isS
  obtain⟨e2,f2,rfl⟩:=q2.isS
  obtain⟨e3,f3,rfl⟩:=q3.isS
  unfold wA;have hxs:xs.length=ks.length:=oG rk;have hbel:be.length≤1:=by rcases hbe with rfl|rfl<;>simp
  refine aDX Tryz.func128 rfl Tryz.ntmps128 (by kernel_rfl) ?_;by_cases hkd:1≤kd∧kd≤8
  case neg =>
   exact(by omega:False).elim
  have hfa:=pU hF kd hkd.1 hkd.2;have hf1:=hfa.1;(refine aDz o rfl ?_;intro b50 m50 o50);refine aDU [0,2,3,4,6,7,8,9,11,12,14,15,17,18] [1,5,10,13,16] [19] [0,1,2,3,4,5,6,7,8,9,10,11,12,13,14,15,16,17,18,19] mixed (by kernel_rfl) rfl (fun _ _ _ _ h=>h) ?_;refine fA aM rfl rfl rfl ?_;refine aDe o50 2 rfl aY rfl rfl ?_;refine aDR (fun c53=>?_) (fun hc=>absurd (by omega) hc);refine fA aM rfl rfl rfl ?_;refine aDe o50 2 rfl aY rfl rfl ?_;refine aDR (fun c56=>?_) (fun hc=>absurd (by omega) hc);refine fA aM rfl rfl rfl ?_;refine aDe o50 2 rfl dC rfl rfl ?_;refine aDn rfl cE ?_;refine fA aM rfl rfl rfl ?_;refine aDe o50 2 rfl aY rfl rfl ?_;refine aDx Tryz.underlying195 qX rfl rfl (by omega) (by omega) ?_;refine fA rO rfl rfl rfl ?_;refine load1 aY rfl (o50.old hf1) ?_;refine aDj ‹_› (aE _ _) (fun e1 m2 oc oq=>?_) fun e1 m2 oq=>?_
  case refine_2 =>
   have e1:=of_decide_eq_false e1;have hq:gM be (.mk kd tb ks cs ns a s g off)=none:=by rw[gM,if_neg (fun h=>e1 (by rw[h.2.2.1]))]
   exact⟨hq,rfl,oq⟩
  have hkl:ks.length=fU kd:=by have:=of_decide_eq_true e1;omega
  clear e1 oc;by_cases hkone:kd=1
  ·exact(by omega:False).elim
  ·have hexQ:gM be (.mk kd tb ks cs ns a s g off)=if fC kd tb cs ns a s g=true then aG [some [aD be (cJ.getD (kd - 2).toNat []),aL [] [40]],dD (eM gM) ks,dZ kd cs ns a s g,some [aL [] [41]]] else none:=by
    rw[gM]
    by_cases hb:fC kd tb cs ns a s g=true
    ·rw[if_pos ⟨hkd.1,hkd.2,hkl,hb⟩,if_neg hkone,if_pos hb,oE]
    ·rw[if_neg (fun h=>hb h.2.2.2),if_neg hb]
   have hf2:=hfa.2 hkone;have hol:=aAC (kd - 2).toNat;generalize cJ.getD (kd - 2).toNat []=opw at hexQ hf2 hol;clear hfa;refine rR (aDi oq 2 rfl aU rfl rfl rfl ?_);(refine aDP oq aU ?_;intro b201 m201 o201);(refine aDh o201 3 rfl aU rfl (by decide) (aI ⟨rfl,rfl⟩ ?_);intro m202 o202);refine rR (fA aM rfl rfl rfl ?_);(refine aDN o202 3 rfl aY rfl (by simp) (aI ⟨rfl,rfl⟩ ?_);intro m204 o204);refine rR (fA aM rfl rfl rfl ?_);(refine aDN o204 3 rfl dC rfl (by simp) (aI ⟨rfl,rfl⟩ ?_);intro m206 o206);refine rR (fA aM rfl rfl rfl ?_);(refine aDN o206 3 rfl aY rfl (by simp) (aI ⟨rfl,rfl⟩ ?_);intro m208 o208);refine rR (fA aM rfl rfl rfl ?_);refine rR (aDe o208 2 rfl aY rfl rfl ?_);refine aDR (fun hc=>absurd hc (by omega)) (fun c211=>?_);refine aDU [0,1,2,3,4,6,7,9] [5,8] [10,11] [0,1,2,3,4,5,6,7,8,9,10,11] mixed (by kernel_rfl) rfl (fun _ _ _ _ h=>h) ?_;refine nC rfl ?_;refine fA bS rfl rfl rfl ?_;refine fA aM rfl rfl rfl ?_;refine aDe o208 2 rfl aY rfl rfl ?_;refine aDx Tryz.underlying195 qX rfl rfl (by omega) (by omega) ?_;refine fA rO rfl rfl rfl ?_;refine load1 aO rfl (o208.old hf2) ?_;refine aDm rfl rfl (by first|omega|(simp;omega)) ?_;(refine aDO o208 aJ aO rfl rfl (by decide) (aI rfl ?_);intro b220 m220 o220);refine aH [be++opw,[40]] 2 30 [2,3] (i:=4) ‹_› rfl rfl rfl hp rfl (by omega) (by omega) (by simp;omega) (by omega) (by omega) (fun p1 v1 bs1 k1 m1 hp1 hb1 hk1 hl1 oq=>?_);have o4:Own B [box b [p1,v1,.int .i64 k1] 58,row v1 5 1 bs1.length (bytes bs1),box b50 [.int .i64 kd,.string ⟨⟨tb⟩⟩,.slice e3 ks.length f3,.slice e1 cs.length f1,.slice e2 ns.length f2,.string ⟨⟨a⟩⟩,.string ⟨⟨s⟩⟩,.int .i64 g,.int .i64 z] 42,box b201 [.int .i64 0,.string ⟨⟨tb⟩⟩,.slice none 0 0,.slice e1 cs.length f1,.slice e2 ns.length f2,.string ⟨⟨a⟩⟩,.string ⟨⟨s⟩⟩,.int .i64 g,.int .i64 0] 42] m1:=oq
   clear oq;refine rR (fA aM rfl rfl rfl ?_);refine rR (aDe o4 2 rfl dC rfl rfl ?_);refine rR (aDn rfl cE ?_);refine aD1 [10,11,12,67,68,69,70,71,72,73,74,75,76,77,78,79,80,81,82,83,84,85,86,87,88,89,90] [10,67] (fun vs' hh=>∃(i:Nat) (p' v':Value) (bs':aBs) (k':Int) (ps:List Pc),i≤ks.length∧vs'=[.int .i64 (lev+cC (ks.take i)),.int .i64 i]∧cW b p'∧dD (eM gM) (ks.take i)=some ps∧bs'=bs1++bK ps∧k'=k1+ps.length∧bs'.length≤bs1.length+(2000*gK (ks.take i)+30*i)∧k'≤k1+(2000*gK (ks.take i)+30*i)∧Own B [box b [p',v',.int .i64 k'] 58,row v' 5 1 bs'.length (bytes bs'),box b50 [.int .i64 kd,.string ⟨⟨tb⟩⟩,.slice e3 ks.length f3,.slice e1 cs.length f1,.slice e2 ns.length f2,.string ⟨⟨a⟩⟩,.string ⟨⟨s⟩⟩,.int .i64 g,.int .i64 z] 42,box b201 [.int .i64 0,.string ⟨⟨tb⟩⟩,.slice none 0 0,.slice e1 cs.length f1,.slice e2 ns.length f2,.string ⟨⟨a⟩⟩,.string ⟨⟨s⟩⟩,.int .i64 g,.int .i64 0] 42] hh) (fun vs' _=>match vs' with|[_,.int _ i]=>ks.length - i.toNat|_=>0) ?_ ?_
   ·exact⟨0,p1,v1,bs1,k1,[],by omega,by simp[cC],hp1,rfl,by simp[bK],by simp,by omega,by omega,o4⟩
   rintro vs' junk hh ⟨i,p',v',bs',k',ps,hi,rfl,hp',hQ,hb',hk',hl',hk2,oh⟩;clear o4;have hk2s:ks.length≤2:=by rw[hkl];unfold fU;split<;>(try split)<;>omega
   have hszl:=eP ks i;by_cases hlt:i<ks.length
   ·obtain⟨kx,hkx⟩:=getx hlt
    obtain⟨cx,hcx,hrx⟩:=pW rk hkx
    have hdx:=jG hkx;have hsz:=mC hkx;have hszl2:=eP ks (i+1);have hlv:=kT hkx;have hlvl:bZ kx≤cC ks:=mD hkx;have hlp:=pY kx;have hxOK:=nQ bks hkx;have hrx2:=hrx
    obtain⟨cxv,hcl⟩:=cx
    obtain⟨xk,xt,xks,xcs,xns,xa,xs_,xg,xo⟩:=kx
    rw[sS]at hrx2
    obtain⟨wk,wc,wn,wz,hcv,g1,g2,gx,g3,_⟩:=hrx2
    obtain⟨h1,h2,rfl⟩:=g1.isS
    obtain⟨h3,h4,rfl⟩:=g2.isS
    obtain⟨h5,h6,rfl⟩:=g3.isS
    dsimp only at hcv hrx;subst hcv;unfold wA at hcx hrx hcl;clear g1 g2 g3;by_cases h0:i=0
    ·subst h0
     refine aDR (fun c400=>?_) (fun hc=>absurd (by omega) hc);refine rR (aDo cE aU (q3.ext oh.ext) rfl (by omega) (by omega) ?_);refine rR (aDr aU (q3.ext oh.ext) (fun y:dM=>y.2) (by decide) rfl ‹_› ?_);(refine aDP oh aU ?_;intro b403 m403 o403);(refine aDh o403 4 rfl aU rfl (by decide) (aI ⟨rfl,rfl⟩ ?_);intro m404 o404);refine aDT ?_;refine aDU [0,1,3,4,7,8,10,11] [5,6] [9] [0,1,3,6,7,8,2,4,5,9,10,11] mixed (by kernel_rfl) rfl (fun _ _ _ _ h=>h) ?_;refine aDi o404 4 rfl aU rfl rfl rfl ?_;refine aDY (by omega) (by omega) ?_;(refine aDO (Own.refl _) aJ aO rfl rfl (by decide) (aI rfl ?_);intro b406 m406 o406);(refine aI o406.ext ?_;have o407:=Own.call o404 o406;simp only[lcA,lnA]at o407;clear o406);refine idxB o407 5 rfl aJ aO rfl rfl (by omega) (by first|omega|(simp;omega)) ?_;refine aDe o407 5 rfl aO rfl rfl ?_;refine XEnds.callJ [2,3] ‹_› rfl rfl (fun J oj=>hIH _ _ _ [] _ p' v' k' bs' _ (aEm hdx (by omega)) hxOK hrx hp' (.inl rfl) (by omega) hT hF oj (by omega) (by omega)) (fun ps2 p2 v2 bs2 k2 m2 hq2 hp2 hb2 hk2' hl2 _ hj2 oq=>?_) (fun m2 hq2 oq=>?_)
     case refine_2 =>
      have:dD (eM gM) ks=none:=aS hkx hQ hq2
      exact⟨hexQ.trans (by split;simp only[this,aG,oMN];rfl),rfl,oq⟩
     have o5:Own B [box b [p2,v2,.int .i64 k2] 58,row v2 5 1 bs2.length (bytes bs2),box b50 [.int .i64 kd,.string ⟨⟨tb⟩⟩,.slice e3 ks.length f3,.slice e1 cs.length f1,.slice e2 ns.length f2,.string ⟨⟨a⟩⟩,.string ⟨⟨s⟩⟩,.int .i64 g,.int .i64 z] 42,box b201 [.int .i64 0,.string ⟨⟨tb⟩⟩,.slice none 0 0,.slice e1 cs.length f1,.slice e2 ns.length f2,.string ⟨⟨a⟩⟩,.string ⟨⟨s⟩⟩,.int .i64 g,.int .i64 0] 42] m2:=oq;clear oq;refine max2 rfl rfl ?_;refine aDY (by omega) (by omega) ?_
     refine⟨rfl,?_⟩
     refine⟨⟨0+1,p2,v2,bs2,k2,ps++ps2,by omega,?_,hp2,bE hkx hQ hq2,by rw[hb2,hb'];simp[bK],by rw[hk2',hk'];simp;omega,by omega,by omega,Own.sel ‹_› [0,1,2,3] rfl⟩,by simp;omega⟩
     congr 2
     omega
    ·obtain rfl:i=1:=by omega
     refine aDR (fun c500=>?_) (fun hc=>absurd (by omega) hc);refine rR (aDo cE aU (q3.ext oh.ext) rfl (by omega) (by omega) ?_);refine rR (aDr aU (q3.ext oh.ext) (fun y:dM=>y.2) (by decide) rfl ‹_› ?_);(refine aDP oh aU ?_;intro b503 m503 o503);(refine aDh o503 4 rfl aU rfl (by decide) (aI ⟨rfl,rfl⟩ ?_);intro m504 o504);refine aDS ?_;refine rR (nC rfl ?_);refine rR (fA bS rfl rfl rfl ?_);(refine aDO o504 aJ aO rfl rfl (by decide) (aI rfl ?_);intro b507 m507 o507);refine aH [[44]] 1 30 [2,3,4] (i:=5) ‹_› rfl rfl rfl hp' rfl (by omega) (by omega) (by simp) (by omega) (by omega) (fun p3 v3 bs3 k3 m3 hp3 hb3 hk3 hl3 oq=>?_);have o5:=oq
     simp only[pick,lgS,lgZ]at o5
     clear oq oh;refine aDU [0,1,3,4,7,8,10,11] [5,6] [9] [0,1,3,6,7,8,2,4,5,9,10,11] mixed (by kernel_rfl) rfl (fun _ _ _ _ h=>h) ?_;refine aDi o5 4 rfl aU rfl rfl rfl ?_;refine aDY (by omega) (by omega) ?_;(refine aDO (Own.refl _) aJ aO rfl rfl (by decide) (aI rfl ?_);intro b551 m551 o551);(refine aI o551.ext ?_;have o552:=Own.call o5 o551;simp only[lcA,lnA]at o552;clear o551);refine idxB o552 5 rfl aJ aO rfl rfl (by omega) (by first|omega|(simp;omega)) ?_;refine aDe o552 5 rfl aO rfl rfl ?_;refine XEnds.callJ [2,3] ‹_› rfl rfl (fun J oj=>hIH _ _ _ [32] _ p3 v3 k3 bs3 _ (aEm hdx (by omega)) hxOK hrx hp3 (.inr rfl) (by omega) hT hF oj (by omega) (by omega)) (fun ps2 p2 v2 bs2 k2 m2 hq2 hp2 hb2 hk2' hl2 _ hj2 oq=>?_) (fun m2 hq2 oq=>?_)
     case refine_2 =>
      have:dD (eM gM) ks=none:=aS hkx hQ (by unfold eM;rw[if_neg (by decide),hq2];rfl)
      exact⟨hexQ.trans (by split;simp only[this,aG,oMN];rfl),rfl,oq⟩
     have o6:Own B [box b [p2,v2,.int .i64 k2] 58,row v2 5 1 bs2.length (bytes bs2),box b50 [.int .i64 kd,.string ⟨⟨tb⟩⟩,.slice e3 ks.length f3,.slice e1 cs.length f1,.slice e2 ns.length f2,.string ⟨⟨a⟩⟩,.string ⟨⟨s⟩⟩,.int .i64 g,.int .i64 z] 42,box b201 [.int .i64 0,.string ⟨⟨tb⟩⟩,.slice none 0 0,.slice e1 cs.length f1,.slice e2 ns.length f2,.string ⟨⟨a⟩⟩,.string ⟨⟨s⟩⟩,.int .i64 g,.int .i64 0] 42] m2:=oq;clear oq;refine max2 rfl rfl ?_;refine aDY (by omega) (by omega) ?_
     refine⟨rfl,?_⟩
     refine⟨⟨1+1,p2,v2,bs2,k2,ps++(aL [] [44]::ps2),by omega,?_,hp2,bE hkx hQ (by unfold eM;rw[if_neg (by decide),hq2];rfl),by rw[hb2,hb3,hb'];simp[bK,gE,wr,aL],by rw[hk2',hk3,hk'];simp;omega,by omega,by omega,Own.sel ‹_› [0,1,2,3] rfl⟩,by simp;omega⟩
     congr 2
     omega
   have hQ:=gN (aEs hlt) hQ
   rw[aEk (aEs hlt)]at hl' hk2 ⊢
   by_cases hk2x:kd=2
   ·exact(by omega:False).elim
   by_cases hk3x:kd=3
   ·exact(by omega:False).elim
   by_cases hk7x:kd=7
   ·exact(by omega:False).elim
   by_cases hk8x:kd=8
   ·subst hk8x
    have hB:fC 8 tb cs ns a s g=true↔tb=[]∧cs.length=0:=by simp[fC]
    by_cases hw:aBJ ns=true
    case neg =>
     have hR:dZ 8 cs ns a s g=none:=by unfold dZ;rw[if_neg (by decide),if_neg (by decide),if_neg (by decide),if_pos rfl,if_neg hw]
     cases ns with
     | nil=>exact absurd rfl hw
     | cons n0 nr =>
      have hn0:n0=[119,105,116,104]:=by
       have:aBJ (n0::nr)=decide (n0≠[119,105,116,104]):=rfl
       rw[this]at hw
       simpa using hw
      subst hn0;have hq2:dS 1 B.h (.slice e2 (([119,105,116,104]:aBs)::nr).length f2) (([119,105,116,104]:aBs)::nr).length (strs ([119,105,116,104]::nr)):=q2;have hlen:(strs (([119,105,116,104]:aBs)::nr)).length=nr.length+1:=by simp[strs]
      have hh0:(strs (([119,105,116,104]:aBs)::nr))[0]?=some (.string ⟨⟨[119,105,116,104]⟩⟩):=rfl;have hA:=(hq2.ext (Own.ext oh)).to1;have hnz:¬ (((([119,105,116,104]:aBs)::nr).length:Int)=0):=by simp only[aEa];omega
      refine aDR (fun hc=>absurd hc (by omega)) (fun c1760=>?_);refine rR (fA aM rfl rfl rfl ?_);refine rR (aDe oh 2 rfl aY rfl rfl ?_);refine aDT ?_;refine aDT ?_;refine aDT ?_;refine aDT ?_;refine aDS ?_;refine rR (fA aM rfl rfl rfl ?_);refine rR (aDe oh 2 rfl fG rfl rfl ?_);refine rR (aDn rfl aJ ?_);refine aDR (fun hc=>absurd hc (by omega)) (fun c1766=>?_);refine rR (fA aM rfl rfl rfl ?_);refine rR (aDe oh 2 rfl fG rfl rfl ?_);refine rR (idx aJ aO hA rfl (by omega) (by omega) ?_);refine rR (aDG hA aO rfl (by first|assumption|rfl) ?_);refine aDj (B:=B) ‹_› (aE _ _) (fun e8 m8 _ oq=>absurd e8 (by decide)) fun e8 m8 oq=>?_
      exact⟨hexQ.trans (by split;simp only[hQ,hR,aG,oMN,oMS];rfl),rfl,oq⟩
    have hRe:dZ 8 cs ns a s g=aG [some [aD [32] [111,110]],gV bB [32] ns,some [aD [32] [119,105,116,104]],fZ g [[99,111,117,110,116],[115,117,109],[108,101,97,115,116],[103,114,101,97,116,101,115,116]],(if g=1 then(if a=[] then some [] else none) else bB [32] a),some [aD [32] [97,115]],bB [32] s]:=by unfold dZ;rw[if_neg (by decide),if_neg (by decide),if_neg (by decide),if_pos rfl,if_pos hw]
    by_cases hn0:ns.length=0
    ·refine aDR (fun hc=>absurd hc (by omega)) (fun c1820=>?_)
     refine rR (fA aM rfl rfl rfl ?_);refine rR (aDe oh 2 rfl aY rfl rfl ?_);refine aDT ?_;refine aDT ?_;refine aDT ?_;refine aDT ?_;refine aDS ?_;refine rR (fA aM rfl rfl rfl ?_);refine rR (aDe oh 2 rfl fG rfl rfl ?_);refine rR (aDn rfl aJ ?_);refine aDR (fun c1826=>?_) (fun hc=>absurd (by omega) hc);refine aDj (B:=B) ‹_› (aE _ _) (fun e8 m8 _ oq=>?_) fun e8 m8 oq=>absurd e8 (by decide);clear oh e8;have oh:Own B [box b [p',v',.int .i64 k'] 58,row v' 5 1 bs'.length (bytes bs'),box b50 [.int .i64 8,.string ⟨⟨tb⟩⟩,.slice e3 ks.length f3,.slice e1 cs.length f1,.slice e2 ns.length f2,.string ⟨⟨a⟩⟩,.string ⟨⟨s⟩⟩,.int .i64 g,.int .i64 z] 42,box b201 [.int .i64 0,.string ⟨⟨tb⟩⟩,.slice none 0 0,.slice e1 cs.length f1,.slice e2 ns.length f2,.string ⟨⟨a⟩⟩,.string ⟨⟨s⟩⟩,.int .i64 g,.int .i64 0] 42] m8:=oq;clear oq;refine rR (nC rfl ?_);refine rR (fA bS rfl rfl rfl ?_);(refine aDO oh aJ aO rfl rfl (by decide) (aI rfl ?_);intro b1882 m1882 o1882);refine aH [[32,111,110]] 1 30 [2,3] (i:=4) ‹_› rfl rfl rfl hp' rfl (by omega) (by omega) (by simp) (by omega) (by omega) (fun p2 v2 bs2 k2 m2 hp2 hb2 hk2' hl2 oq=>?_);have o6:Own B [box b [p2,v2,.int .i64 k2] 58,row v2 5 1 bs2.length (bytes bs2),box b50 [.int .i64 8,.string ⟨⟨tb⟩⟩,.slice e3 ks.length f3,.slice e1 cs.length f1,.slice e2 ns.length f2,.string ⟨⟨a⟩⟩,.string ⟨⟨s⟩⟩,.int .i64 g,.int .i64 z] 42,box b201 [.int .i64 0,.string ⟨⟨tb⟩⟩,.slice none 0 0,.slice e1 cs.length f1,.slice e2 ns.length f2,.string ⟨⟨a⟩⟩,.string ⟨⟨s⟩⟩,.int .i64 g,.int .i64 0] 42] m2:=oq
     clear oq oh;refine rR (fA aM rfl rfl rfl ?_);refine rR (aDe o6 2 rfl fG rfl rfl ?_);refine WEnds.callJ [2,3] ‹_› rfl rfl (fun J oj=>nK ⟨B.h,J++B.T⟩ b p2 v2 k2 bs2 [32] ns _ _ hp2 (fun L h o=>(q2.ext (Own.ext (B:=⟨B.h,J++B.T⟩) o)).to1) oj (by omega) bns (by omega) (by omega) (.inr rfl)) (fun ps3 p3 v3 bs3 k3 m3 hq3 hp3 hb3 hk3' hl3 _ hj3 oq=>?_) (fun m3 hq3 oq=>?_)
     case refine_2 =>
      have hR:dZ 8 cs ns a s g=none:=by rw[hRe];simp only[hq3,aG,oMN]
      exact⟨hexQ.trans (by split;simp only[hQ,hR,aG,oMN,oMS];rfl),rfl,oq⟩
     have o7:Own B [box b [p3,v3,.int .i64 k3] 58,row v3 5 1 bs3.length (bytes bs3),box b50 [.int .i64 8,.string ⟨⟨tb⟩⟩,.slice e3 ks.length f3,.slice e1 cs.length f1,.slice e2 ns.length f2,.string ⟨⟨a⟩⟩,.string ⟨⟨s⟩⟩,.int .i64 g,.int .i64 z] 42,box b201 [.int .i64 0,.string ⟨⟨tb⟩⟩,.slice none 0 0,.slice e1 cs.length f1,.slice e2 ns.length f2,.string ⟨⟨a⟩⟩,.string ⟨⟨s⟩⟩,.int .i64 g,.int .i64 0] 42] m3:=oq;clear oq o6;refine aDU [0,1,2,3] [4] [6,7,8] [0,1,2,3,4,5,6,7,8] mixed (by kernel_rfl) rfl (fun _ _ _ _ h=>h) ?_;refine nC rfl ?_;refine fA bS rfl rfl rfl ?_;refine fA aM rfl rfl rfl ?_;refine aDe o7 2 rfl aY rfl rfl ?_;(refine aDO (Own.refl _) aJ aO rfl rfl (by decide) (aI rfl ?_);intro b2004 m2004 o2004);(refine aI o2004.ext ?_;have o2005:=Own.call o7 o2004;simp only[lcA,lnA]at o2005;clear o2004);refine aDj (B:=B) ‹_› (eE _ [[99,111,117,110,116],[115,117,109],[108,101,97,115,116],[103,114,101,97,116,101,115,116]] _ _ (by omega) (by omega) (Own.boxArr ‹_› 4 rfl rfl (by decide)) (by simp) (by simp)) (fun e4 m4 _ oq=>?_) fun e4 m4 oq=>?_
     case refine_2 =>
      have e4:=of_decide_eq_false e4;have hR:dZ 8 cs ns a s g=none:=by rw[hRe];simp only[hq3,show fZ g [[99,111,117,110,116],[115,117,109],[108,101,97,115,116],[103,114,101,97,116,101,115,116]]=none from if_neg e4,aG,oMN]
      exact⟨hexQ.trans (by split;simp only[hQ,hR,aG,oMN,oMS];rfl),rfl,oq⟩
     have e4:=of_decide_eq_true e4;have hq4:fZ g [[99,111,117,110,116],[115,117,109],[108,101,97,115,116],[103,114,101,97,116,101,115,116]]=some [aD [32] (([[99,111,117,110,116],[115,117,109],[108,101,97,115,116],[103,114,101,97,116,101,115,116]]:List aBs).getD (g - 1).toNat [])]:=if_pos e4;have hg4:1≤g∧g≤4:=e4;have hwl:(([[99,111,117,110,116],[115,117,109],[108,101,97,115,116],[103,114,101,97,116,101,115,116]]:List aBs).getD (g - 1).toNat []).length≤8:=by
      have:g=1∨g=2∨g=3∨g=4:=by omega
      rcases this with h|h|h|h<;>rw[h]<;>decide
     generalize (([[99,111,117,110,116],[115,117,109],[108,101,97,115,116],[103,114,101,97,116,101,115,116]]:List aBs).getD (g - 1).toNat [])=agw at hq4 hwl
     clear o7;(refine aDO oq aJ aO rfl rfl (by decide) (aI rfl ?_);intro b2060 m2060 o2060);refine aH [[32,119,105,116,104],32::agw] 2 30 [2,3] (i:=5) ‹_› rfl rfl rfl hp3 rfl (by omega) (by omega) (by simp;omega) (by omega) (by omega) (fun p5 v5 bs5 k5 m5 hp5 hb5 hk5 hl5 oq=>?_);have o8:Own B [box b [p5,v5,.int .i64 k5] 58,row v5 5 1 bs5.length (bytes bs5),box b50 [.int .i64 8,.string ⟨⟨tb⟩⟩,.slice e3 ks.length f3,.slice e1 cs.length f1,.slice e2 ns.length f2,.string ⟨⟨a⟩⟩,.string ⟨⟨s⟩⟩,.int .i64 g,.int .i64 z] 42,box b201 [.int .i64 0,.string ⟨⟨tb⟩⟩,.slice none 0 0,.slice e1 cs.length f1,.slice e2 ns.length f2,.string ⟨⟨a⟩⟩,.string ⟨⟨s⟩⟩,.int .i64 g,.int .i64 0] 42] m5:=oq;clear oq;by_cases hg1:g=1
     ·by_cases ha0:a=[]
      case neg =>
       have hR:dZ 8 cs ns a s g=none:=by rw[hRe];simp only[hq3,hq4,if_pos hg1,if_neg ha0,aG,oMN]
       refine rR (fA aM rfl rfl rfl ?_);refine rR (aDe o8 2 rfl aY rfl rfl ?_);refine aDR (fun c2122=>?_) (fun hc=>absurd (by omega) hc);refine rR (fA aM rfl rfl rfl ?_);refine rR (aDe o8 2 rfl aO rfl rfl ?_);refine aDj (B:=B) ‹_› (aE _ _) (fun e6 m6 _ oq=>absurd (of_decide_eq_true e6) ha0) fun e6 m6 oq=>?_
       exact⟨hexQ.trans (by split;simp only[hQ,hR,aG,oMN,oMS];rfl),rfl,oq⟩
      refine rR (fA aM rfl rfl rfl ?_);refine rR (aDe o8 2 rfl aY rfl rfl ?_);refine aDR (fun c2182=>?_) (fun hc=>absurd (by omega) hc);refine rR (fA aM rfl rfl rfl ?_);refine rR (aDe o8 2 rfl aO rfl rfl ?_);refine aDj (B:=B) ‹_› (aE _ _) (fun e6 m6 _ oq=>?_) fun e6 m6 oq=>absurd ha0 (of_decide_eq_false e6);clear o8;refine aDU [0,1,2,3,6] [4] [5,7,8] [0,1,2,3,4,5,6,7,8] mixed (by kernel_rfl) rfl (fun _ _ _ _ h=>h) ?_;refine nC rfl ?_;refine fA bS rfl rfl rfl ?_;refine fA aM rfl rfl rfl ?_;refine aDe oq 2 rfl aO rfl rfl ?_;refine aDj (B:=B) ‹_› (bM s _ bs_) (fun es mes oces oq=>?_) fun es mes oq=>?_
      case refine_2 =>
       have hR:dZ 8 cs ns a s g=none:=by rw[hRe];simp only[hq3,hq4,if_pos hg1,if_pos ha0,cZ es,aG,oMN]
       exact⟨hexQ.trans (by split;simp only[hQ,hR,aG,oMN,oMS];rfl),rfl,oq⟩
      have hnles:=cU es;clear oces;refine aDm rfl rfl (by first|omega|(simp;omega)) ?_;(refine aDO oq aJ aO rfl rfl (by decide) (aI rfl ?_);intro b2301 m2301 o2301);refine aH [[32,97,115],[32]++s] 2 30 [2,3] (i:=4) ‹_› rfl rfl rfl hp5 rfl (by omega) (by omega) (by simp;omega) (by omega) (by omega) (fun p7 v7 bs7 k7 m7 hp7 hb7 hk7' hl7 oq=>?_);have o10:Own B [box b [p7,v7,.int .i64 k7] 58,row v7 5 1 bs7.length (bytes bs7),box b50 [.int .i64 8,.string ⟨⟨tb⟩⟩,.slice e3 ks.length f3,.slice e1 cs.length f1,.slice e2 ns.length f2,.string ⟨⟨a⟩⟩,.string ⟨⟨s⟩⟩,.int .i64 g,.int .i64 z] 42,box b201 [.int .i64 0,.string ⟨⟨tb⟩⟩,.slice none 0 0,.slice e1 cs.length f1,.slice e2 ns.length f2,.string ⟨⟨a⟩⟩,.string ⟨⟨s⟩⟩,.int .i64 g,.int .i64 0] 42] m7:=oq;clear oq;have hR:dZ 8 cs ns a s g=some ([aD [32] [111,110]]++(ps3++([aD [32] [119,105,116,104]]++([aD [32] agw]++([]++([aD [32] [97,115]]++([aD [32] s]++[]))))))):=by rw[hRe];simp only[hq3,hq4,if_pos hg1,if_pos ha0,aB es,aG,oMS]
      refine rR (fA aM rfl rfl rfl ?_);(refine aDN o10 3 rfl fG rfl (by simp) (aI ⟨rfl,rfl⟩ ?_);intro m2361 o2361);refine rR (fA aM rfl rfl rfl ?_);(refine aDN o2361 3 rfl aO rfl (by simp) (aI ⟨rfl,rfl⟩ ?_);intro m2363 o2363);refine rR (fA aM rfl rfl rfl ?_);(refine aDN o2363 3 rfl aO rfl (by simp) (aI ⟨rfl,rfl⟩ ?_);intro m2365 o2365);refine rR (fA aM rfl rfl rfl ?_);(refine aDN o2365 3 rfl aY rfl (by simp) (aI ⟨rfl,rfl⟩ ?_);intro m2367 o2367);refine rR (fA aM rfl rfl rfl ?_);refine rR (aDe o2367 2 rfl aY rfl rfl ?_);refine aDS ?_;refine rR (nC rfl ?_);refine rR (fA bS rfl rfl rfl ?_);(refine aDO o2367 aJ aO rfl rfl (by decide) (aI rfl ?_);intro b2372 m2372 o2372);refine aH [[41]] 1 30 [2,3] (i:=4) ‹_› rfl rfl rfl hp7 rfl (by omega) (by omega) (by simp) (by omega) (by omega) (fun p9 v9 bs9 k9 m9 hp9 hb9 hk9 hl9 oq=>?_);have o9:Own B [box b [p9,v9,.int .i64 k9] 58,row v9 5 1 bs9.length (bytes bs9),box b50 [.int .i64 8,.string ⟨⟨tb⟩⟩,.slice e3 ks.length f3,.slice e1 cs.length f1,.slice e2 ns.length f2,.string ⟨⟨a⟩⟩,.string ⟨⟨s⟩⟩,.int .i64 g,.int .i64 z] 42,box b201 [.int .i64 0,.string ⟨⟨tb⟩⟩,.slice none 0 0,.slice e1 cs.length f1,.slice none 0 0,.string ⟨⟨[]⟩⟩,.string ⟨⟨[]⟩⟩,.int .i64 0,.int .i64 0] 42] m9:=oq;clear oq;refine rR (fA aM rfl rfl rfl ?_);refine rR (aDe o9 3 rfl aO rfl rfl ?_);refine aDR (fun c2422=>?_) (fun c2422=>?_);refine rR (fA aM rfl rfl rfl ?_);refine rR (aDe o9 3 rfl nA rfl rfl ?_);refine rR (aDn rfl nI ?_);refine aDR (fun c2426=>?_) (fun c2426=>?_);refine rR (fA aM rfl rfl rfl ?_)
      refine rR (aDe o9 3 rfl fG rfl rfl ?_);refine rR (aDn rfl aJ ?_);refine aDS ?_;refine rR (fA aM rfl rfl rfl ?_);refine rR (aDe o9 3 rfl aO rfl rfl ?_);refine aDS ?_;refine rR (fA aM rfl rfl rfl ?_);refine rR (aDe o9 3 rfl aO rfl rfl ?_);refine aDS ?_;refine rR (fA aM rfl rfl rfl ?_);refine rR (aDe o9 3 rfl aY rfl rfl ?_)
      any_goals (refine aDj (B:=B) ‹_› (aE false _) (fun e8 m8 _ oq=>by cases e8) fun e8 m8 oq=>?_;exact⟨hexQ.trans (if_neg fun hb=>by obtain⟨x0,x1⟩:=hB.1 hb;first|contradiction|omega),rfl,oq⟩)
      refine aDj (B:=B) ‹_› (aE _ _) (fun e8 m8 _ oq=>?_) fun e8 m8 oq=>?_
      case refine_2 =>
       exact absurd e8 (by decide)
      have hbare:=hB.2 ⟨by assumption,by omega⟩;refine aDZ rfl ?_;exact XEnds.done (ps:=[aD be opw,aL [] [40]]++(ps++(([aD [32] [111,110]]++(ps3++([aD [32] [119,105,116,104]]++([aD [32] agw]++([]++([aD [32] [97,115]]++([aD [32] s]++[])))))))++([aL [] [41]]++[])))) (hexQ.trans (by rw[if_pos hbare];simp only[hQ,hR,aG,oMS])) (oq.sel [0,1] rfl) hp9 (by rw[hb9,hb7,hb5,hb3,hb2,hb',hb1];simp[bK,gE,wr,aD,aL]) (by rw[hk9,hk7',hk5,hk3',hk2',hk',hk1];simp;omega) (by omega) (by omega)
     ·refine rR (fA aM rfl rfl rfl ?_)
      refine rR (aDe o8 2 rfl aY rfl rfl ?_);refine aDR (fun hc=>absurd hc (by omega)) (fun c2542=>?_);refine aDU [0,1,2,3,6] [4] [5,7,8] [0,1,2,3,4,5,6,7,8] mixed (by kernel_rfl) rfl (fun _ _ _ _ h=>h) ?_;refine nC rfl ?_;refine fA bS rfl rfl rfl ?_;refine fA aM rfl rfl rfl ?_;refine aDe o8 2 rfl aO rfl rfl ?_;refine aDj (B:=B) ‹_› (bM a _ ba) (fun ea mea ocea oq=>?_) fun ea mea oq=>?_
      case refine_2 =>
       have hR:dZ 8 cs ns a s g=none:=by rw[hRe];simp only[hq3,hq4,if_neg hg1,cZ ea,aG,oMN]
       exact⟨hexQ.trans (by split;simp only[hQ,hR,aG,oMN,oMS];rfl),rfl,oq⟩
      have hnlea:=cU ea;clear ocea o8;refine aDm rfl rfl (by first|omega|(simp;omega)) ?_;(refine aDO oq aJ aO rfl rfl (by decide) (aI rfl ?_);intro b2601 m2601 o2601);refine aH [[32]++a] 1 30 [2,3] (i:=4) ‹_› rfl rfl rfl hp5 rfl (by omega) (by omega) (by simp;omega) (by omega) (by omega) (fun p6 v6 bs6 k6 m6 hp6 hb6 hk6' hl6 oq=>?_);have o10:Own B [box b [p6,v6,.int .i64 k6] 58,row v6 5 1 bs6.length (bytes bs6),box b50 [.int .i64 8,.string ⟨⟨tb⟩⟩,.slice e3 ks.length f3,.slice e1 cs.length f1,.slice e2 ns.length f2,.string ⟨⟨a⟩⟩,.string ⟨⟨s⟩⟩,.int .i64 g,.int .i64 z] 42,box b201 [.int .i64 0,.string ⟨⟨tb⟩⟩,.slice none 0 0,.slice e1 cs.length f1,.slice e2 ns.length f2,.string ⟨⟨a⟩⟩,.string ⟨⟨s⟩⟩,.int .i64 g,.int .i64 0] 42] m6:=oq;clear oq;refine aDU [0,1,2,3,6] [4] [5,7,8] [0,1,2,3,4,5,6,7,8] mixed (by kernel_rfl) rfl (fun _ _ _ _ h=>h) ?_;refine nC rfl ?_;refine fA bS rfl rfl rfl ?_;refine fA aM rfl rfl rfl ?_;refine aDe o10 2 rfl aO rfl rfl ?_;refine aDj (B:=B) ‹_› (bM s _ bs_) (fun es mes oces oq=>?_) fun es mes oq=>?_
      case refine_2 =>
       have hR:dZ 8 cs ns a s g=none:=by rw[hRe];simp only[hq3,hq4,if_neg hg1,aB ea,cZ es,aG,oMN]
       exact⟨hexQ.trans (by split;simp only[hQ,hR,aG,oMN,oMS];rfl),rfl,oq⟩
      have hnles:=cU es;clear oces o10;refine aDm rfl rfl (by first|omega|(simp;omega)) ?_;(refine aDO oq aJ aO rfl rfl (by decide) (aI rfl ?_);intro b2721 m2721 o2721);refine aH [[32,97,115],[32]++s] 2 30 [2,3] (i:=4) ‹_› rfl rfl rfl hp6 rfl (by omega) (by omega) (by simp;omega) (by omega) (by omega) (fun p7 v7 bs7 k7 m7 hp7 hb7 hk7' hl7 oq=>?_);have o11:Own B [box b [p7,v7,.int .i64 k7] 58,row v7 5 1 bs7.length (bytes bs7),box b50 [.int .i64 8,.string ⟨⟨tb⟩⟩,.slice e3 ks.length f3,.slice e1 cs.length f1,.slice e2 ns.length f2,.string ⟨⟨a⟩⟩,.string ⟨⟨s⟩⟩,.int .i64 g,.int .i64 z] 42,box b201 [.int .i64 0,.string ⟨⟨tb⟩⟩,.slice none 0 0,.slice e1 cs.length f1,.slice e2 ns.length f2,.string ⟨⟨a⟩⟩,.string ⟨⟨s⟩⟩,.int .i64 g,.int .i64 0] 42] m7:=oq;clear oq;have hR:dZ 8 cs ns a s g=some ([aD [32] [111,110]]++(ps3++([aD [32] [119,105,116,104]]++([aD [32] agw]++([aD [32] a]++([aD [32] [97,115]]++([aD [32] s]++[]))))))):=by rw[hRe];simp only[hq3,hq4,if_neg hg1,aB ea,aB es,aG,oMS]
      refine rR (fA aM rfl rfl rfl ?_);(refine aDN o11 3 rfl fG rfl (by simp) (aI ⟨rfl,rfl⟩ ?_);intro m2781 o2781);refine rR (fA aM rfl rfl rfl ?_);(refine aDN o2781 3 rfl aO rfl (by simp) (aI ⟨rfl,rfl⟩ ?_);intro m2783 o2783);refine rR (fA aM rfl rfl rfl ?_);(refine aDN o2783 3 rfl aO rfl (by simp) (aI ⟨rfl,rfl⟩ ?_);intro m2785 o2785);refine rR (fA aM rfl rfl rfl ?_);(refine aDN o2785 3 rfl aY rfl (by simp) (aI ⟨rfl,rfl⟩ ?_);intro m2787 o2787);refine rR (fA aM rfl rfl rfl ?_);refine rR (aDe o2787 2 rfl aY rfl rfl ?_);refine aDS ?_;refine rR (nC rfl ?_);refine rR (fA bS rfl rfl rfl ?_);(refine aDO o2787 aJ aO rfl rfl (by decide) (aI rfl ?_);intro b2792 m2792 o2792);refine aH [[41]] 1 30 [2,3] (i:=4) ‹_› rfl rfl rfl hp7 rfl (by omega) (by omega) (by simp) (by omega) (by omega) (fun p9 v9 bs9 k9 m9 hp9 hb9 hk9 hl9 oq=>?_);have o9:Own B [box b [p9,v9,.int .i64 k9] 58,row v9 5 1 bs9.length (bytes bs9),box b50 [.int .i64 8,.string ⟨⟨tb⟩⟩,.slice e3 ks.length f3,.slice e1 cs.length f1,.slice e2 ns.length f2,.string ⟨⟨a⟩⟩,.string ⟨⟨s⟩⟩,.int .i64 g,.int .i64 z] 42,box b201 [.int .i64 0,.string ⟨⟨tb⟩⟩,.slice none 0 0,.slice e1 cs.length f1,.slice none 0 0,.string ⟨⟨[]⟩⟩,.string ⟨⟨[]⟩⟩,.int .i64 0,.int .i64 0] 42] m9:=oq;clear oq;refine rR (fA aM rfl rfl rfl ?_);refine rR (aDe o9 3 rfl aO rfl rfl ?_);refine aDR (fun c2842=>?_) (fun c2842=>?_);refine rR (fA aM rfl rfl rfl ?_);refine rR (aDe o9 3 rfl nA rfl rfl ?_);refine rR (aDn rfl nI ?_);refine aDR (fun c2846=>?_) (fun c2846=>?_);refine rR (fA aM rfl rfl rfl ?_)
      refine rR (aDe o9 3 rfl fG rfl rfl ?_);refine rR (aDn rfl aJ ?_);refine aDS ?_;refine rR (fA aM rfl rfl rfl ?_);refine rR (aDe o9 3 rfl aO rfl rfl ?_);refine aDS ?_;refine rR (fA aM rfl rfl rfl ?_);refine rR (aDe o9 3 rfl aO rfl rfl ?_);refine aDS ?_;refine rR (fA aM rfl rfl rfl ?_);refine rR (aDe o9 3 rfl aY rfl rfl ?_)
      any_goals (refine aDj (B:=B) ‹_› (aE false _) (fun e8 m8 _ oq=>by cases e8) fun e8 m8 oq=>?_;exact⟨hexQ.trans (if_neg fun hb=>by obtain⟨x0,x1⟩:=hB.1 hb;first|contradiction|omega),rfl,oq⟩)
      refine aDj (B:=B) ‹_› (aE _ _) (fun e8 m8 _ oq=>?_) fun e8 m8 oq=>?_
      case refine_2 =>
       exact absurd e8 (by decide)
      have hbare:=hB.2 ⟨by assumption,by omega⟩;refine aDZ rfl ?_;exact XEnds.done (ps:=[aD be opw,aL [] [40]]++(ps++(([aD [32] [111,110]]++(ps3++([aD [32] [119,105,116,104]]++([aD [32] agw]++([aD [32] a]++([aD [32] [97,115]]++([aD [32] s]++[])))))))++([aL [] [41]]++[])))) (hexQ.trans (by rw[if_pos hbare];simp only[hQ,hR,aG,oMS])) (oq.sel [0,1] rfl) hp9 (by rw[hb9,hb7,hb6,hb5,hb3,hb2,hb',hb1];simp[bK,gE,wr,aD,aL]) (by rw[hk9,hk7',hk6',hk5,hk3',hk2',hk',hk1];simp;omega) (by omega) (by omega)
    ·obtain⟨n0,hn1⟩:=getx (l:=ns) (i:=0) (by omega)
     have hne:¬ n0=[119,105,116,104]:=by
      cases ns with
      | nil=>simp at hn1
      | cons y r =>
       simp at hn1
       subst hn1;exact of_decide_eq_true hw
     have hlen:(strs ns).length=ns.length:=by simp[strs]
     have hh0:(strs ns)[0]?=some (.string ⟨⟨n0⟩⟩):=by simp[strs,hn1]
     have hA:=(q2.ext (Own.ext oh)).to1;refine aDR (fun hc=>absurd hc (by omega)) (fun c2960=>?_);refine rR (fA aM rfl rfl rfl ?_);refine rR (aDe oh 2 rfl aY rfl rfl ?_);refine aDT ?_;refine aDT ?_;refine aDT ?_;refine aDT ?_;refine aDS ?_;refine rR (fA aM rfl rfl rfl ?_);refine rR (aDe oh 2 rfl fG rfl rfl ?_);refine rR (aDn rfl aJ ?_);refine aDR (fun hc=>absurd hc (by omega)) (fun c2966=>?_);refine rR (fA aM rfl rfl rfl ?_);refine rR (aDe oh 2 rfl fG rfl rfl ?_);refine rR (idx aJ aO hA rfl (by omega) (by omega) ?_);refine rR (aDG hA aO rfl (by first|assumption|rfl) ?_);refine aDj (B:=B) ‹_› (aE _ _) (fun e8 m8 _ oq=>?_) fun e8 m8 oq=>absurd e8 (by simp[hne]);clear oh e8 hA;have oh:Own B [box b [p',v',.int .i64 k'] 58,row v' 5 1 bs'.length (bytes bs'),box b50 [.int .i64 8,.string ⟨⟨tb⟩⟩,.slice e3 ks.length f3,.slice e1 cs.length f1,.slice e2 ns.length f2,.string ⟨⟨a⟩⟩,.string ⟨⟨s⟩⟩,.int .i64 g,.int .i64 z] 42,box b201 [.int .i64 0,.string ⟨⟨tb⟩⟩,.slice none 0 0,.slice e1 cs.length f1,.slice e2 ns.length f2,.string ⟨⟨a⟩⟩,.string ⟨⟨s⟩⟩,.int .i64 g,.int .i64 0] 42] m8:=oq;clear oq;refine rR (nC rfl ?_);refine rR (fA bS rfl rfl rfl ?_);(refine aDO oh aJ aO rfl rfl (by decide) (aI rfl ?_);intro b3022 m3022 o3022);refine aH [[32,111,110]] 1 30 [2,3] (i:=4) ‹_› rfl rfl rfl hp' rfl (by omega) (by omega) (by simp) (by omega) (by omega) (fun p2 v2 bs2 k2 m2 hp2 hb2 hk2' hl2 oq=>?_);have o6:Own B [box b [p2,v2,.int .i64 k2] 58,row v2 5 1 bs2.length (bytes bs2),box b50 [.int .i64 8,.string ⟨⟨tb⟩⟩,.slice e3 ks.length f3,.slice e1 cs.length f1,.slice e2 ns.length f2,.string ⟨⟨a⟩⟩,.string ⟨⟨s⟩⟩,.int .i64 g,.int .i64 z] 42,box b201 [.int .i64 0,.string ⟨⟨tb⟩⟩,.slice none 0 0,.slice e1 cs.length f1,.slice e2 ns.length f2,.string ⟨⟨a⟩⟩,.string ⟨⟨s⟩⟩,.int .i64 g,.int .i64 0] 42] m2:=oq
     clear oq oh;refine rR (fA aM rfl rfl rfl ?_);refine rR (aDe o6 2 rfl fG rfl rfl ?_);refine WEnds.callJ [2,3] ‹_› rfl rfl (fun J oj=>nK ⟨B.h,J++B.T⟩ b p2 v2 k2 bs2 [32] ns _ _ hp2 (fun L h o=>(q2.ext (Own.ext (B:=⟨B.h,J++B.T⟩) o)).to1) oj (by omega) bns (by omega) (by omega) (.inr rfl)) (fun ps3 p3 v3 bs3 k3 m3 hq3 hp3 hb3 hk3' hl3 _ hj3 oq=>?_) (fun m3 hq3 oq=>?_)
     case refine_2 =>
      have hR:dZ 8 cs ns a s g=none:=by rw[hRe];simp only[hq3,aG,oMN]
      exact⟨hexQ.trans (by split;simp only[hQ,hR,aG,oMN,oMS];rfl),rfl,oq⟩
     have o7:Own B [box b [p3,v3,.int .i64 k3] 58,row v3 5 1 bs3.length (bytes bs3),box b50 [.int .i64 8,.string ⟨⟨tb⟩⟩,.slice e3 ks.length f3,.slice e1 cs.length f1,.slice e2 ns.length f2,.string ⟨⟨a⟩⟩,.string ⟨⟨s⟩⟩,.int .i64 g,.int .i64 z] 42,box b201 [.int .i64 0,.string ⟨⟨tb⟩⟩,.slice none 0 0,.slice e1 cs.length f1,.slice e2 ns.length f2,.string ⟨⟨a⟩⟩,.string ⟨⟨s⟩⟩,.int .i64 g,.int .i64 0] 42] m3:=oq;clear oq o6;refine aDU [0,1,2,3] [4] [6,7,8] [0,1,2,3,4,5,6,7,8] mixed (by kernel_rfl) rfl (fun _ _ _ _ h=>h) ?_;refine nC rfl ?_;refine fA bS rfl rfl rfl ?_;refine fA aM rfl rfl rfl ?_;refine aDe o7 2 rfl aY rfl rfl ?_;(refine aDO (Own.refl _) aJ aO rfl rfl (by decide) (aI rfl ?_);intro b3144 m3144 o3144);(refine aI o3144.ext ?_;have o3145:=Own.call o7 o3144;simp only[lcA,lnA]at o3145;clear o3144);refine aDj (B:=B) ‹_› (eE _ [[99,111,117,110,116],[115,117,109],[108,101,97,115,116],[103,114,101,97,116,101,115,116]] _ _ (by omega) (by omega) (Own.boxArr ‹_› 4 rfl rfl (by decide)) (by simp) (by simp)) (fun e4 m4 _ oq=>?_) fun e4 m4 oq=>?_
     case refine_2 =>
      have e4:=of_decide_eq_false e4;have hR:dZ 8 cs ns a s g=none:=by rw[hRe];simp only[hq3,show fZ g [[99,111,117,110,116],[115,117,109],[108,101,97,115,116],[103,114,101,97,116,101,115,116]]=none from if_neg e4,aG,oMN]
      exact⟨hexQ.trans (by split;simp only[hQ,hR,aG,oMN,oMS];rfl),rfl,oq⟩
     have e4:=of_decide_eq_true e4;have hq4:fZ g [[99,111,117,110,116],[115,117,109],[108,101,97,115,116],[103,114,101,97,116,101,115,116]]=some [aD [32] (([[99,111,117,110,116],[115,117,109],[108,101,97,115,116],[103,114,101,97,116,101,115,116]]:List aBs).getD (g - 1).toNat [])]:=if_pos e4;have hg4:1≤g∧g≤4:=e4;have hwl:(([[99,111,117,110,116],[115,117,109],[108,101,97,115,116],[103,114,101,97,116,101,115,116]]:List aBs).getD (g - 1).toNat []).length≤8:=by
      have:g=1∨g=2∨g=3∨g=4:=by omega
      rcases this with h|h|h|h<;>rw[h]<;>decide
     generalize (([[99,111,117,110,116],[115,117,109],[108,101,97,115,116],[103,114,101,97,116,101,115,116]]:List aBs).getD (g - 1).toNat [])=agw at hq4 hwl
     clear o7;(refine aDO oq aJ aO rfl rfl (by decide) (aI rfl ?_);intro b3200 m3200 o3200);refine aH [[32,119,105,116,104],32::agw] 2 30 [2,3] (i:=5) ‹_› rfl rfl rfl hp3 rfl (by omega) (by omega) (by simp;omega) (by omega) (by omega) (fun p5 v5 bs5 k5 m5 hp5 hb5 hk5 hl5 oq=>?_);have o8:Own B [box b [p5,v5,.int .i64 k5] 58,row v5 5 1 bs5.length (bytes bs5),box b50 [.int .i64 8,.string ⟨⟨tb⟩⟩,.slice e3 ks.length f3,.slice e1 cs.length f1,.slice e2 ns.length f2,.string ⟨⟨a⟩⟩,.string ⟨⟨s⟩⟩,.int .i64 g,.int .i64 z] 42,box b201 [.int .i64 0,.string ⟨⟨tb⟩⟩,.slice none 0 0,.slice e1 cs.length f1,.slice e2 ns.length f2,.string ⟨⟨a⟩⟩,.string ⟨⟨s⟩⟩,.int .i64 g,.int .i64 0] 42] m5:=oq;clear oq;by_cases hg1:g=1
     ·by_cases ha0:a=[]
      case neg =>
       have hR:dZ 8 cs ns a s g=none:=by rw[hRe];simp only[hq3,hq4,if_pos hg1,if_neg ha0,aG,oMN]
       refine rR (fA aM rfl rfl rfl ?_);refine rR (aDe o8 2 rfl aY rfl rfl ?_);refine aDR (fun c3262=>?_) (fun hc=>absurd (by omega) hc);refine rR (fA aM rfl rfl rfl ?_);refine rR (aDe o8 2 rfl aO rfl rfl ?_);refine aDj (B:=B) ‹_› (aE _ _) (fun e6 m6 _ oq=>absurd (of_decide_eq_true e6) ha0) fun e6 m6 oq=>?_
       exact⟨hexQ.trans (by split;simp only[hQ,hR,aG,oMN,oMS];rfl),rfl,oq⟩
      refine rR (fA aM rfl rfl rfl ?_);refine rR (aDe o8 2 rfl aY rfl rfl ?_);refine aDR (fun c3322=>?_) (fun hc=>absurd (by omega) hc);refine rR (fA aM rfl rfl rfl ?_);refine rR (aDe o8 2 rfl aO rfl rfl ?_);refine aDj (B:=B) ‹_› (aE _ _) (fun e6 m6 _ oq=>?_) fun e6 m6 oq=>absurd ha0 (of_decide_eq_false e6);clear o8;refine aDU [0,1,2,3,6] [4] [5,7,8] [0,1,2,3,4,5,6,7,8] mixed (by kernel_rfl) rfl (fun _ _ _ _ h=>h) ?_;refine nC rfl ?_;refine fA bS rfl rfl rfl ?_;refine fA aM rfl rfl rfl ?_;refine aDe oq 2 rfl aO rfl rfl ?_;refine aDj (B:=B) ‹_› (bM s _ bs_) (fun es mes oces oq=>?_) fun es mes oq=>?_
      case refine_2 =>
       have hR:dZ 8 cs ns a s g=none:=by rw[hRe];simp only[hq3,hq4,if_pos hg1,if_pos ha0,cZ es,aG,oMN]
       exact⟨hexQ.trans (by split;simp only[hQ,hR,aG,oMN,oMS];rfl),rfl,oq⟩
      have hnles:=cU es;clear oces;refine aDm rfl rfl (by first|omega|(simp;omega)) ?_;(refine aDO oq aJ aO rfl rfl (by decide) (aI rfl ?_);intro b3441 m3441 o3441);refine aH [[32,97,115],[32]++s] 2 30 [2,3] (i:=4) ‹_› rfl rfl rfl hp5 rfl (by omega) (by omega) (by simp;omega) (by omega) (by omega) (fun p7 v7 bs7 k7 m7 hp7 hb7 hk7' hl7 oq=>?_);have o10:Own B [box b [p7,v7,.int .i64 k7] 58,row v7 5 1 bs7.length (bytes bs7),box b50 [.int .i64 8,.string ⟨⟨tb⟩⟩,.slice e3 ks.length f3,.slice e1 cs.length f1,.slice e2 ns.length f2,.string ⟨⟨a⟩⟩,.string ⟨⟨s⟩⟩,.int .i64 g,.int .i64 z] 42,box b201 [.int .i64 0,.string ⟨⟨tb⟩⟩,.slice none 0 0,.slice e1 cs.length f1,.slice e2 ns.length f2,.string ⟨⟨a⟩⟩,.string ⟨⟨s⟩⟩,.int .i64 g,.int .i64 0] 42] m7:=oq;clear oq;have hR:dZ 8 cs ns a s g=some ([aD [32] [111,110]]++(ps3++([aD [32] [119,105,116,104]]++([aD [32] agw]++([]++([aD [32] [97,115]]++([aD [32] s]++[]))))))):=by rw[hRe];simp only[hq3,hq4,if_pos hg1,if_pos ha0,aB es,aG,oMS]
      refine rR (fA aM rfl rfl rfl ?_);(refine aDN o10 3 rfl fG rfl (by simp) (aI ⟨rfl,rfl⟩ ?_);intro m3501 o3501);refine rR (fA aM rfl rfl rfl ?_);(refine aDN o3501 3 rfl aO rfl (by simp) (aI ⟨rfl,rfl⟩ ?_);intro m3503 o3503);refine rR (fA aM rfl rfl rfl ?_);(refine aDN o3503 3 rfl aO rfl (by simp) (aI ⟨rfl,rfl⟩ ?_);intro m3505 o3505);refine rR (fA aM rfl rfl rfl ?_);(refine aDN o3505 3 rfl aY rfl (by simp) (aI ⟨rfl,rfl⟩ ?_);intro m3507 o3507);refine rR (fA aM rfl rfl rfl ?_);refine rR (aDe o3507 2 rfl aY rfl rfl ?_);refine aDS ?_;refine rR (nC rfl ?_);refine rR (fA bS rfl rfl rfl ?_);(refine aDO o3507 aJ aO rfl rfl (by decide) (aI rfl ?_);intro b3512 m3512 o3512);refine aH [[41]] 1 30 [2,3] (i:=4) ‹_› rfl rfl rfl hp7 rfl (by omega) (by omega) (by simp) (by omega) (by omega) (fun p9 v9 bs9 k9 m9 hp9 hb9 hk9 hl9 oq=>?_);have o9:Own B [box b [p9,v9,.int .i64 k9] 58,row v9 5 1 bs9.length (bytes bs9),box b50 [.int .i64 8,.string ⟨⟨tb⟩⟩,.slice e3 ks.length f3,.slice e1 cs.length f1,.slice e2 ns.length f2,.string ⟨⟨a⟩⟩,.string ⟨⟨s⟩⟩,.int .i64 g,.int .i64 z] 42,box b201 [.int .i64 0,.string ⟨⟨tb⟩⟩,.slice none 0 0,.slice e1 cs.length f1,.slice none 0 0,.string ⟨⟨[]⟩⟩,.string ⟨⟨[]⟩⟩,.int .i64 0,.int .i64 0] 42] m9:=oq;clear oq;refine rR (fA aM rfl rfl rfl ?_);refine rR (aDe o9 3 rfl aO rfl rfl ?_);refine aDR (fun c3562=>?_) (fun c3562=>?_);refine rR (fA aM rfl rfl rfl ?_);refine rR (aDe o9 3 rfl nA rfl rfl ?_);refine rR (aDn rfl nI ?_);refine aDR (fun c3566=>?_) (fun c3566=>?_);refine rR (fA aM rfl rfl rfl ?_)
      refine rR (aDe o9 3 rfl fG rfl rfl ?_);refine rR (aDn rfl aJ ?_);refine aDS ?_;refine rR (fA aM rfl rfl rfl ?_);refine rR (aDe o9 3 rfl aO rfl rfl ?_);refine aDS ?_;refine rR (fA aM rfl rfl rfl ?_);refine rR (aDe o9 3 rfl aO rfl rfl ?_);refine aDS ?_;refine rR (fA aM rfl rfl rfl ?_);refine rR (aDe o9 3 rfl aY rfl rfl ?_)
      any_goals (refine aDj (B:=B) ‹_› (aE false _) (fun e8 m8 _ oq=>by cases e8) fun e8 m8 oq=>?_;exact⟨hexQ.trans (if_neg fun hb=>by obtain⟨x0,x1⟩:=hB.1 hb;first|contradiction|omega),rfl,oq⟩)
      refine aDj (B:=B) ‹_› (aE _ _) (fun e8 m8 _ oq=>?_) fun e8 m8 oq=>?_
      case refine_2 =>
       exact absurd e8 (by decide)
      have hbare:=hB.2 ⟨by assumption,by omega⟩;refine aDZ rfl ?_;exact XEnds.done (ps:=[aD be opw,aL [] [40]]++(ps++(([aD [32] [111,110]]++(ps3++([aD [32] [119,105,116,104]]++([aD [32] agw]++([]++([aD [32] [97,115]]++([aD [32] s]++[])))))))++([aL [] [41]]++[])))) (hexQ.trans (by rw[if_pos hbare];simp only[hQ,hR,aG,oMS])) (oq.sel [0,1] rfl) hp9 (by rw[hb9,hb7,hb5,hb3,hb2,hb',hb1];simp[bK,gE,wr,aD,aL]) (by rw[hk9,hk7',hk5,hk3',hk2',hk',hk1];simp;omega) (by omega) (by omega)
     ·refine rR (fA aM rfl rfl rfl ?_)
      refine rR (aDe o8 2 rfl aY rfl rfl ?_);refine aDR (fun hc=>absurd hc (by omega)) (fun c3682=>?_);refine aDU [0,1,2,3,6] [4] [5,7,8] [0,1,2,3,4,5,6,7,8] mixed (by kernel_rfl) rfl (fun _ _ _ _ h=>h) ?_;refine nC rfl ?_;refine fA bS rfl rfl rfl ?_;refine fA aM rfl rfl rfl ?_;refine aDe o8 2 rfl aO rfl rfl ?_;refine aDj (B:=B) ‹_› (bM a _ ba) (fun ea mea ocea oq=>?_) fun ea mea oq=>?_
      case refine_2 =>
       have hR:dZ 8 cs ns a s g=none:=by rw[hRe];simp only[hq3,hq4,if_neg hg1,cZ ea,aG,oMN]
       exact⟨hexQ.trans (by split;simp only[hQ,hR,aG,oMN,oMS];rfl),rfl,oq⟩
      have hnlea:=cU ea;clear ocea o8;refine aDm rfl rfl (by first|omega|(simp;omega)) ?_;(refine aDO oq aJ aO rfl rfl (by decide) (aI rfl ?_);intro b3741 m3741 o3741);refine aH [[32]++a] 1 30 [2,3] (i:=4) ‹_› rfl rfl rfl hp5 rfl (by omega) (by omega) (by simp;omega) (by omega) (by omega) (fun p6 v6 bs6 k6 m6 hp6 hb6 hk6' hl6 oq=>?_);have o10:Own B [box b [p6,v6,.int .i64 k6] 58,row v6 5 1 bs6.length (bytes bs6),box b50 [.int .i64 8,.string ⟨⟨tb⟩⟩,.slice e3 ks.length f3,.slice e1 cs.length f1,.slice e2 ns.length f2,.string ⟨⟨a⟩⟩,.string ⟨⟨s⟩⟩,.int .i64 g,.int .i64 z] 42,box b201 [.int .i64 0,.string ⟨⟨tb⟩⟩,.slice none 0 0,.slice e1 cs.length f1,.slice e2 ns.length f2,.string ⟨⟨a⟩⟩,.string ⟨⟨s⟩⟩,.int .i64 g,.int .i64 0] 42] m6:=oq;clear oq;refine aDU [0,1,2,3,6] [4] [5,7,8] [0,1,2,3,4,5,6,7,8] mixed (by kernel_rfl) rfl (fun _ _ _ _ h=>h) ?_;refine nC rfl ?_;refine fA bS rfl rfl rfl ?_;refine fA aM rfl rfl rfl ?_;refine aDe o10 2 rfl aO rfl rfl ?_;refine aDj (B:=B) ‹_› (bM s _ bs_) (fun es mes oces oq=>?_) fun es mes oq=>?_
      case refine_2 =>
       have hR:dZ 8 cs ns a s g=none:=by rw[hRe];simp only[hq3,hq4,if_neg hg1,aB ea,cZ es,aG,oMN]
       exact⟨hexQ.trans (by split;simp only[hQ,hR,aG,oMN,oMS];rfl),rfl,oq⟩
      have hnles:=cU es;clear oces o10;refine aDm rfl rfl (by first|omega|(simp;omega)) ?_;(refine aDO oq aJ aO rfl rfl (by decide) (aI rfl ?_);intro b3861 m3861 o3861);refine aH [[32,97,115],[32]++s] 2 30 [2,3] (i:=4) ‹_› rfl rfl rfl hp6 rfl (by omega) (by omega) (by simp;omega) (by omega) (by omega) (fun p7 v7 bs7 k7 m7 hp7 hb7 hk7' hl7 oq=>?_);have o11:Own B [box b [p7,v7,.int .i64 k7] 58,row v7 5 1 bs7.length (bytes bs7),box b50 [.int .i64 8,.string ⟨⟨tb⟩⟩,.slice e3 ks.length f3,.slice e1 cs.length f1,.slice e2 ns.length f2,.string ⟨⟨a⟩⟩,.string ⟨⟨s⟩⟩,.int .i64 g,.int .i64 z] 42,box b201 [.int .i64 0,.string ⟨⟨tb⟩⟩,.slice none 0 0,.slice e1 cs.length f1,.slice e2 ns.length f2,.string ⟨⟨a⟩⟩,.string ⟨⟨s⟩⟩,.int .i64 g,.int .i64 0] 42] m7:=oq;clear oq;have hR:dZ 8 cs ns a s g=some ([aD [32] [111,110]]++(ps3++([aD [32] [119,105,116,104]]++([aD [32] agw]++([aD [32] a]++([aD [32] [97,115]]++([aD [32] s]++[]))))))):=by rw[hRe];simp only[hq3,hq4,if_neg hg1,aB ea,aB es,aG,oMS]
      refine rR (fA aM rfl rfl rfl ?_);(refine aDN o11 3 rfl fG rfl (by simp) (aI ⟨rfl,rfl⟩ ?_);intro m3921 o3921);refine rR (fA aM rfl rfl rfl ?_);(refine aDN o3921 3 rfl aO rfl (by simp) (aI ⟨rfl,rfl⟩ ?_);intro m3923 o3923);refine rR (fA aM rfl rfl rfl ?_);(refine aDN o3923 3 rfl aO rfl (by simp) (aI ⟨rfl,rfl⟩ ?_);intro m3925 o3925);refine rR (fA aM rfl rfl rfl ?_);(refine aDN o3925 3 rfl aY rfl (by simp) (aI ⟨rfl,rfl⟩ ?_);intro m3927 o3927);refine rR (fA aM rfl rfl rfl ?_);refine rR (aDe o3927 2 rfl aY rfl rfl ?_);refine aDS ?_;refine rR (nC rfl ?_);refine rR (fA bS rfl rfl rfl ?_);(refine aDO o3927 aJ aO rfl rfl (by decide) (aI rfl ?_);intro b3932 m3932 o3932);refine aH [[41]] 1 30 [2,3] (i:=4) ‹_› rfl rfl rfl hp7 rfl (by omega) (by omega) (by simp) (by omega) (by omega) (fun p9 v9 bs9 k9 m9 hp9 hb9 hk9 hl9 oq=>?_);have o9:Own B [box b [p9,v9,.int .i64 k9] 58,row v9 5 1 bs9.length (bytes bs9),box b50 [.int .i64 8,.string ⟨⟨tb⟩⟩,.slice e3 ks.length f3,.slice e1 cs.length f1,.slice e2 ns.length f2,.string ⟨⟨a⟩⟩,.string ⟨⟨s⟩⟩,.int .i64 g,.int .i64 z] 42,box b201 [.int .i64 0,.string ⟨⟨tb⟩⟩,.slice none 0 0,.slice e1 cs.length f1,.slice none 0 0,.string ⟨⟨[]⟩⟩,.string ⟨⟨[]⟩⟩,.int .i64 0,.int .i64 0] 42] m9:=oq;clear oq;refine rR (fA aM rfl rfl rfl ?_);refine rR (aDe o9 3 rfl aO rfl rfl ?_);refine aDR (fun c3982=>?_) (fun c3982=>?_);refine rR (fA aM rfl rfl rfl ?_);refine rR (aDe o9 3 rfl nA rfl rfl ?_);refine rR (aDn rfl nI ?_);refine aDR (fun c3986=>?_) (fun c3986=>?_);refine rR (fA aM rfl rfl rfl ?_)
      refine rR (aDe o9 3 rfl fG rfl rfl ?_);refine rR (aDn rfl aJ ?_);refine aDS ?_;refine rR (fA aM rfl rfl rfl ?_);refine rR (aDe o9 3 rfl aO rfl rfl ?_);refine aDS ?_;refine rR (fA aM rfl rfl rfl ?_);refine rR (aDe o9 3 rfl aO rfl rfl ?_);refine aDS ?_;refine rR (fA aM rfl rfl rfl ?_);refine rR (aDe o9 3 rfl aY rfl rfl ?_)
      any_goals (refine aDj (B:=B) ‹_› (aE false _) (fun e8 m8 _ oq=>by cases e8) fun e8 m8 oq=>?_;exact⟨hexQ.trans (if_neg fun hb=>by obtain⟨x0,x1⟩:=hB.1 hb;first|contradiction|omega),rfl,oq⟩)
      refine aDj (B:=B) ‹_› (aE _ _) (fun e8 m8 _ oq=>?_) fun e8 m8 oq=>?_
      case refine_2 =>
       exact absurd e8 (by decide)
      have hbare:=hB.2 ⟨by assumption,by omega⟩;refine aDZ rfl ?_;exact XEnds.done (ps:=[aD be opw,aL [] [40]]++(ps++(([aD [32] [111,110]]++(ps3++([aD [32] [119,105,116,104]]++([aD [32] agw]++([aD [32] a]++([aD [32] [97,115]]++([aD [32] s]++[])))))))++([aL [] [41]]++[])))) (hexQ.trans (by rw[if_pos hbare];simp only[hQ,hR,aG,oMS])) (oq.sel [0,1] rfl) hp9 (by rw[hb9,hb7,hb6,hb5,hb3,hb2,hb',hb1];simp[bK,gE,wr,aD,aL]) (by rw[hk9,hk7',hk6',hk5,hk3',hk2',hk',hk1];simp;omega) (by omega) (by omega)
   exact(by omega:False).elim
theorem yN (b:Nat):∀ n,aBp b n
 | 0=>fun x _ _ _ _ _ _ _ _ _ hd=>absurd hd (by cases x;rw[kU];omega)
 | n+1=>fun x B c be lev p v k bs h hd hOK hc hp hbe hlev hT hF o hl hk=>by
  have ih:=yN b n
  obtain⟨kd,tb,ks,cs,ns,a,s,g,off⟩:=x
  by_cases h2:kd=2
  ·exact prExpr_c2 b n ih kd tb ks cs ns a s g off h2 B c be lev p v k bs h hd hOK hc hp hbe hlev hT hF o hl hk
  by_cases h3:kd=3
  ·exact prExpr_c3 b n ih kd tb ks cs ns a s g off h3 B c be lev p v k bs h hd hOK hc hp hbe hlev hT hF o hl hk
  by_cases h7:kd=7
  ·exact prExpr_c7 b n ih kd tb ks cs ns a s g off h7 B c be lev p v k bs h hd hOK hc hp hbe hlev hT hF o hl hk
  by_cases h8:kd=8
  ·exact prExpr_c8 b n ih kd tb ks cs ns a s g off h8 B c be lev p v k bs h hd hOK hc hp hbe hlev hT hF o hl hk
  by_cases hD:kd=4∨kd=5∨kd=6
  ·exact prExpr_cD b n ih kd tb ks cs ns a s g off hD B c be lev p v k bs h hd hOK hc hp hbe hlev hT hF o hl hk
  ·exact prExpr_cT b n ih kd tb ks cs ns a s g off (by omega) B c be lev p v k bs h hd hOK hc hp hbe hlev hT hF o hl hk
theorem aCD (B:Base)(b bx:Nat)(p v:Value)(k:Int)(bs:aBs)(x:It)(z:Int)(vc vn vt vf vv vd e0 e1 e2 e3 e4 e5 e6 e7 e8:Value)(h:Heap)(hp:cW b p)(hT:kJ B.h)(hF:iQ B.h)(hOK:nM x)(hE:sS B.h [e0,e1,e2,e3,e4,e5,e6,e7,e8] x.expr)(hLev:bZ x.expr≤100000000000)
  (o:Own B [box b [p,v,.int .i64 k] 58,row v 5 1 bs.length (bytes bs),box bx (gF x z vc vn vt vf vv vd e0 e1 e2 e3 e4 e5 e6 e7 e8) 44] h) (hl:bs.length+2000*eU x≤40000000000000) (hk:0≤k∧k+2000*eU x≤40000000000000) :
  Spec Tryz.prog 79 [.pointer (some ⟨b,0,none⟩),.pointer (some ⟨bx,0,none⟩)] h (IEnds B b bx bs k (2000*eU x+60) (gF (clr10 x) (if 12<bZ x.expr then -1 else z) vc vn vt vf vv vd (.int .i64 0) (.string ⟨⟨[]⟩⟩) aK aK aK (.string ⟨⟨[]⟩⟩) (.string ⟨⟨[]⟩⟩) (.int .i64 0) (.int .i64 0)) (aCU x)):=by
 obtain⟨bkind,bname,btable,battr,bcols,bnames,bby,bn,bm,bterms,both,boat,bfixed,bvars,bconds,bexpr,lcols,lnames,lterms,lfixed,lvars,lconds⟩:=hOK
 have hsz:eU x=1+x.cols.length+x.names.length+x.terms.length+x.fixed.length+x.vars.length+x.conds.length+fQ x.expr:=rfl;have hE2:=hE;unfold gF at o;have hRe:aCU x=aG [some [aL [32] [61]],gM [32] x.expr]:=rfl;refine aDX Tryz.func79 rfl Tryz.ntmps79 (by kernel_rfl) ?_;refine rR (nC rfl ?_);refine rR (fA bS rfl rfl rfl ?_);(refine aDO o aJ aO rfl rfl (by decide) (aI rfl ?_);intro b62 m62 o62);refine aH [[32,61]] 1 30 [2] (i:=3) ‹_› rfl rfl rfl hp rfl (by omega) (by omega) (by simp) (by omega) (by omega) (fun p1 v1 bs1 k1 m1 hp1 hb1 hk1 hl1 oq=>?_);have o1q:=oq
 simp only[pick,lgS,lgZ]at o1q
 clear oq;refine rR (nC rfl ?_);refine rR (fA aT rfl rfl rfl ?_);refine rR (aDi o1q 2 rfl aU rfl rfl rfl ?_);refine XEnds.callJ [2] ‹_› rfl rfl (fun J oj=>yN b (kU x.expr) x.expr ⟨B.h,J++B.T⟩ _ [32] 1 p1 v1 k1 bs1 _ (aEf _) bexpr hE hp1 (.inr rfl) (by omega) hT hF oj (by omega) (by omega)) (fun ps2 p2 v2 bs2 k2 m2 hq2 hp2 hb2 hk2 hl2 _ hj2 oq=>?_) (fun m2 hq2 oq=>?_)
 case refine_2=>exact⟨(by rw[hRe];simp only[hq2,aG,oMN,oMS]),rfl,oq⟩
 have o2q:=oq
 simp only[pick,lgS,lgZ]at o2q
 clear oq;by_cases hlv:12<bZ x.expr
 ·rw[if_pos hlv]
  refine aDR (fun c160=>?_) (fun hc=>absurd (by omega) hc);refine rR (nC rfl ?_);refine rR (fA aT rfl rfl rfl ?_);(refine aDN o2q 2 rfl aY rfl (by simp) (aI ⟨rfl,rfl⟩ ?_);intro m163 o163);refine rR (aDl aM ?_);refine rR (nC rfl ?_);refine rR (fA aT rfl rfl rfl ?_);(refine aDN o163 2 rfl aU rfl (by simp) (aI ⟨rfl,rfl⟩ ?_);intro m167 o167);refine aD0 rfl ?_;exact IEnds.done (ps:=[aL [32] [61]]++(ps2++[])) (by rw[hRe];simp only[hq2,aG,oMS]) (Own.sel ‹_› [0,1,2] rfl) hp2 (by rw[hb2,hb1];simp[bK,gE,wr,aL]) (by rw[hk2,hk1];first|(simp;done)|(simp;omega)) (by omega) (by omega)
 ·rw[if_neg hlv]
  refine aDR (fun hc=>absurd hc (by omega)) (fun c210=>?_);refine rR (aDl aM ?_);refine rR (nC rfl ?_);refine rR (fA aT rfl rfl rfl ?_);(refine aDN o2q 2 rfl aU rfl (by simp) (aI ⟨rfl,rfl⟩ ?_);intro m214 o214);refine aD0 rfl ?_;exact IEnds.done (ps:=[aL [32] [61]]++(ps2++[])) (by rw[hRe];simp only[hq2,aG,oMS]) (Own.sel ‹_› [0,1,2] rfl) hp2 (by rw[hb2,hb1];simp[bK,gE,wr,aL]) (by rw[hk2,hk1];first|(simp;done)|(simp;omega)) (by omega) (by omega)
def wrN (k:Int):FuncId:=if k=1 then 70 else if k=2 then 71 else if k=3 then 72 else if k=4 then 73 else if k=5 then 74 else if k=6 then 75 else if k=7 then 76 else if k=8 then 77 else if k=9 then 78 else 79
theorem wrN_at {k:Int}(h1:1≤k)(h10:k≤10):wrFs[k.toNat]?=some (.func (.func (wrN k)) #[] #[]):=by
 have:k=1∨k=2∨k=3∨k=4∨k=5∨k=6∨k=7∨k=8∨k=9∨k=10:=by omega
 rcases this with rfl|rfl|rfl|rfl|rfl|rfl|rfl|rfl|rfl|rfl<;>rfl
def WAny (B:Base)(b bx:Nat)(bs:aBs)(k:Int)(c:Nat)(x:It)(z:Int):Ending→Heap→Prop :=
 Ends (fun r h'=>∃ ps p' v' vc vn vt vf vv vd e0 e1 e2 e3 e4 e5 e6 e7 e8,dV x=some ps∧r=.tuple #[]∧cW b p'∧(bK ps).length≤c∧ps.length≤c∧itH B.h (gF (eI x) (if x.kind=10∧12<bZ x.expr then -1 else z) vc vn vt vf vv vd e0 e1 e2 e3 e4 e5 e6 e7 e8) (eI x) ∧
   Own B [box b [p',v',.int .i64 (k+ps.length)] 58,row v' 5 1 (bs++bK ps).length (bytes (bs++bK ps)),box bx (gF (eI x) (if x.kind=10∧12<bZ x.expr then -1 else z) vc vn vt vf vv vd e0 e1 e2 e3 e4 e5 e6 e7 e8) 44] h')
  fun q h'=>dV x=none∧q=xZ∧Own B [] h'
theorem aCC (B:Base)(b bx:Nat)(p v:Value)(k:Int)(bs:aBs)(x:It)(z:Int)(vc vn vt vf vv vd e0 e1 e2 e3 e4 e5 e6 e7 e8:Value)(h:Heap)(hp:cW b p)(hT:kJ B.h)(hOK:nM x)(hN:dS 1 B.h vn x.names.length (strs x.names))(hA:dS 5 B.h vc x.cols.length (x.cols.flatMap aBC))
  (o:Own B [box b [p,v,.int .i64 k] 58,row v 5 1 bs.length (bytes bs),box bx (gF x z vc vn vt vf vv vd e0 e1 e2 e3 e4 e5 e6 e7 e8) 44] h) (hl:bs.length+2000*eU x≤50000000000000) (hk:0≤k∧k+2000*eU x≤50000000000000) :
  Spec Tryz.prog 70 [.pointer (some ⟨b,0,none⟩),.pointer (some ⟨bx,0,none⟩)] h (IEnds B b bx bs k (2000*eU x) (gF (clr1 x) z aK aK vt vf vv vd e0 e1 e2 e3 e4 e5 e6 e7 e8) (part1 x)):=by
 obtain⟨bkind,bname,btable,battr,bcols,bnames,bby,bn,bm,bterms,both,boat,bfixed,bvars,bconds,bexpr,lcols,lnames,lterms,lfixed,lvars,lconds⟩:=hOK
 have hsz:eU x=1+x.cols.length+x.names.length+x.terms.length+x.fixed.length+x.vars.length+x.conds.length+fQ x.expr:=rfl;unfold gF at o
 obtain⟨ya,yc,rfl⟩:=hA.isS
 refine aDX Tryz.func70 rfl Tryz.ntmps70 (by kernel_rfl) ?_;by_cases h0:x.cols=[]
 case pos =>
  have hlen0:¬ ((0:Int)<(x.cols.length:Int)):=by rw[h0];simp
  refine rR (nC rfl ?_);refine rR (fA aT rfl rfl rfl ?_);refine rR (aDe o 2 rfl rD rfl rfl ?_);refine rR (aDn rfl oW ?_);refine aDj (B:=B) ‹_› (aE _ _) (fun e1 m2 _ oq=>absurd (of_decide_eq_true e1) hlen0) fun e1 m2 oq=>?_
  exact⟨by show aG [some [aL [] [40]],dG mV [] x.cols,some [aL [] [41],aD [32] [107,101,121]],dG bB [32] x.names]=none;rw[h0];rfl,rfl,oq⟩
 have hRe:part1 x=aG [some [aL [] [40]],dD (eM mV) x.cols,some [aL [] [41],aD [32] [107,101,121]],dG bB [32] x.names]:=by unfold part1;rw[yV _ _ h0]
 have hpos:0<x.cols.length:=List.length_pos_iff.2 h0;refine rR (nC rfl ?_);refine rR (fA aT rfl rfl rfl ?_);refine rR (aDe o 2 rfl rD rfl rfl ?_);refine rR (aDn rfl oW ?_);refine aDj (B:=B) ‹_› (aE _ _) (fun e1 m2 oc oq=>?_) fun e1 m2 oq=>absurd (of_decide_eq_false e1) (by omega);clear oc o e1;refine rR (nC rfl ?_);refine rR (fA bS rfl rfl rfl ?_);(refine aDO oq aJ aO rfl rfl (by decide) (aI rfl ?_);intro b112 m112 o112);refine aH [[40]] 1 30 [2] (i:=3) ‹_› rfl rfl rfl hp rfl (by omega) (by omega) (by first|(simp;done)|(simp;omega)) (by omega) (by omega) (fun p1 v1 bs1 k1 m1 hp1 hb1 hk1 hl1 oq=>?_);have o1q:=oq
 simp only[pick,lgS,lgZ]at o1q
 clear oq;refine rR (nC rfl ?_);refine rR (fA aT rfl rfl rfl ?_);refine rR (aDe o1q 2 rfl rD rfl rfl ?_);refine rR (aDn rfl oW ?_);refine aD1 [4,5,6,24,25,26,27,28,29,30,31,32,33,34,35,36,37,38,39,40,41,42,43,44,45,46,47,48,49,50,51,52,53,54,55,56,57,58,59,60,61,62,63] [24] (fun vs' hh=>∃(i:Nat) (p' v':Value) (bs':aBs) (k':Int) (ps:List Pc),i≤x.cols.length∧vs'=[.int .i64 i]∧cW b p'∧dD (eM mV) (x.cols.take i)=some ps∧bs'=bs1++bK ps∧k'=k1+ps.length∧bs'.length≤bs1.length+1000*i∧k'≤k1+1000*i∧Own B [box b [p',v',.int .i64 k'] 58,row v' 5 1 bs'.length (bytes bs'),box bx [.int .i64 x.kind,.string ⟨⟨x.name⟩⟩,.int .i64 z,.string ⟨⟨x.table⟩⟩,.string ⟨⟨x.attr⟩⟩,.slice ya x.cols.length yc,vn,.int .i64 x.by_,.int .i64 x.n,.int .i64 x.m,vt,.string ⟨⟨x.other⟩⟩,.string ⟨⟨x.oattr⟩⟩,vf,vv,vd,e0,e1,e2,e3,e4,e5,e6,e7,e8] 44] hh) (fun vs' _=>match vs' with|[.int _ i]=>x.cols.length - i.toNat|_=>0) ?_ ?_
 ·exact⟨0,p1,v1,bs1,k1,[],by omega,rfl,hp1,rfl,by simp[bK],by simp,by omega,by omega,Own.sel ‹_› [0,1,2] rfl⟩
 rintro vs' junk hh ⟨i,p',v',bs',k',ps,hi,rfl,hp',hQ,hb',hk',hl',hkb,oh⟩;have hkge:k1≤k':=by omega
 by_cases hlt:i<x.cols.length
 ·obtain⟨el,hel⟩:=getx hlt
  have hOKel:=bcols el (aD6 hel);have hm:1000*i+1000≤1000*x.cols.length:=by omega
  obtain⟨hn1,hn2,hv1⟩:=hOKel
  by_cases h0i:i=0
  ·have hone:eM mV i el=aG [bB [] el.name,fZ el.kind [[116,101,120,116],[110,117,109,98,101,114],[100,97,121],[102,108,97,103]],(if el.dflt.k=0∧el.dflt.n=0∧el.dflt.t=[] then some [] else(bT el.dflt).map (aL [32] [61]::·))]:=by unfold eM;rw[if_pos h0i];rfl
   refine aDR (fun c210=>?_) (fun hc=>absurd (by omega) hc);refine rR (aDo oW fL (hA.ext oh.ext) rfl (by omega) (by omega) ?_);refine rR (aDr fL (hA.ext oh.ext) (fun _=>rfl) (by decide) rfl ‹_› ?_);(refine aDP oh fL ?_;intro b213 m213 o213);(refine aDh o213 3 rfl fL rfl (by decide) (aI ⟨rfl,rfl⟩ ?_);intro m214 o214);refine aDR (fun hc=>absurd hc (by omega)) (fun c215=>?_);refine aDB b213 [0,1,2,3,4,7,8] [5,9] [11,12,13] (.one 0 (.one 1 (.one 2 (.one 3 (.one 4 (.one 5 (.one 8 (.one 9 (.fork 6 10 (.one 7 (.one 10 (.one 11 (.one 12 (.one 13 .done))))) (.one 6 (.one 7 (.one 11 (.one 12 (.one 13 .done)))))))))))))) mixed (by kernel_rfl) rfl (fun _ _ _ _ h=>h) ?_;refine nC rfl ?_;refine fA bS rfl rfl rfl ?_;refine fA lP rfl rfl rfl ?_;refine StillVCA.load1 aO rfl rfl ((o214.cellB 3 rfl _).trans rfl) ?_;refine fA lP rfl rfl rfl ?_;refine StillVCA.load1 aY rfl rfl ((o214.cellB 3 rfl _).trans rfl) ?_;refine aI ?_ ?_
   ·skip
    refine aDj (B:=B) ‹_› (bM el.name _ hn1) (fun h2 m2 oc2 oq2=>?_) fun h2 m2 oq2=>?_
    case refine_2=>exact⟨(by rw[hRe];simp only[aS hel hQ (show(eM mV) i el=none by rw[hone];simp only[cZ h2,aG,oMN,oMS]),aG,oMN,oMS]),rfl,oq2⟩
    have hnl2:=cU h2;refine aI ((oq2.boxBlk 3 rfl).trans (o214.boxBlk 3 rfl).symm) ?_;refine aDm rfl rfl (by first|omega|(simp;omega)) ?_;(refine aDO oq2 aJ aO rfl rfl (by decide) (aI rfl ?_);intro b361 m361 o361);refine aI ((o361.boxBlk 3 rfl).trans (oq2.boxBlk 3 rfl).symm) ?_;refine aDj (B:=B) ‹_› (eE el.kind [[116,101,120,116],[110,117,109,98,101,114],[100,97,121],[102,108,97,103]] _ _ (by omega) (by omega) (Own.boxArr ‹_› 4 rfl rfl (by decide)) (by simp) (by simp)) (fun h3 m3 oc3 oq3=>?_) fun h3 m3 oq3=>?_
    case refine_2=>exact⟨(by rw[hRe];simp only[aS hel hQ (show(eM mV) i el=none by rw[hone];simp only[aB h2,mO (of_decide_eq_false h3),aG,oMN,oMS]),aG,oMN,oMS]),rfl,oq3⟩
    have h3:=of_decide_eq_true h3;have hw3:=kL (n:=el.kind) h3;have hnl3:=lD (ws:=[[116,101,120,116],[110,117,109,98,101,114],[100,97,121],[102,108,97,103]]) (M:=10) (by simp) (el.kind - 1).toNat;generalize ([[116,101,120,116],[110,117,109,98,101,114],[100,97,121],[102,108,97,103]]:List aBs).getD (el.kind - 1).toNat []=w3 at hw3 hnl3;clear oc3;(refine aDO oq3 aJ aO rfl rfl (by decide) (aI rfl ?_);intro b410 m410 o410);refine aH [[]++el.name,32::w3] 2 30 [2,3] (i:=5) ‹_› rfl rfl rfl hp' rfl (by omega) (by omega) (by first|(simp;done)|(simp;omega)) (by omega) (by omega) (fun p4 v4 bs4 k4 m4 hp4 hb4 hk4 hl4 oq=>?_);have o4q:=oq
    simp only[pick,lgS,lgZ]at o4q
    clear oq;by_cases hz:el.dflt.k=0∧el.dflt.n=0∧el.dflt.t=[]
    ·have hzb:(!(decide (el.dflt.k=0)&&(decide (el.dflt.n=0)&&(decide (el.dflt.t=[])&&true))))=false:=by simp[hz.1,hz.2.1,hz.2.2]
     refine rR (fA lP rfl rfl rfl ?_);refine rR (aDi o4q 3 rfl bW rfl rfl rfl ?_);refine rR (aDl eJ ?_);refine rR (neS rE rfl rfl rfl rfl ?_);refine Br.ffE hzb ?_;refine aDY (by omega) (by omega) ?_
     refine⟨rfl,?_⟩
     exact⟨⟨i+1,p4,v4,bs4,k4,ps++(([aD [] el.name]++([aD [32] w3]++([]++[])))),by omega,rfl,hp4,bE hel hQ (by rw[hone];simp only[aB h2,hw3,if_pos hz,aG,oMS]),by rw[hb4,hb'];simp[bK,gE,wr,aD,aL,bU],by rw[hk4,hk'];first|(simp;done)|(simp;omega),by omega,by omega,Own.sel ‹_› [0,1,2] rfl⟩,by simp;omega⟩
    ·have hzb:(!(decide (el.dflt.k=0)&&(decide (el.dflt.n=0)&&(decide (el.dflt.t=[])&&true))))=true:=by
      rw[aEu,aEw]
      intro hh
      simp at hh
      exact hz hh
     refine rR (fA lP rfl rfl rfl ?_);refine rR (aDi o4q 3 rfl bW rfl rfl rfl ?_);refine rR (aDl eJ ?_);refine rR (neS rE rfl rfl rfl rfl ?_);refine Br.ttE hzb ?_;refine rR (nC rfl ?_);refine rR (fA bS rfl rfl rfl ?_);(refine aDO o4q aJ aO rfl rfl (by decide) (aI rfl ?_);intro b517 m517 o517);refine aH [[32,61]] 1 30 [2,3] (i:=4) ‹_› rfl rfl rfl hp4 rfl (by omega) (by omega) (by first|(simp;done)|(simp;omega)) (by omega) (by omega) (fun p5 v5 bs5 k5 m5 hp5 hb5 hk5 hl5 oq=>?_);have o5q:=oq
     simp only[pick,lgS,lgZ]at o5q
     clear oq;refine rR (fA lP rfl rfl rfl ?_);refine rR (aDi o5q 3 rfl bW rfl rfl rfl ?_);refine WEnds.callJ [2,3] ‹_› rfl rfl (fun J oj=>jL ⟨B.h,J++B.T⟩ b p5 v5 k5 bs5 el.dflt _ hp5 hT oj (by omega) hv1.2.2 hv1.2.1 (by omega)) (fun ps6 p6 v6 bs6 k6 m6 hq6 hp6 hb6 hk6 hl6 _ hj6 oq=>?_) (fun m6 hq6 oq=>?_)
     case refine_2=>exact⟨(by rw[hRe];simp only[aS hel hQ (show(eM mV) i el=none by rw[hone];simp only[aB h2,hw3,if_neg hz,hq6,aG,oMN,oMS]),aG,oMN,oMS]),rfl,oq⟩
     have o6q:=oq
     simp only[pick,lgS,lgZ]at o6q
     clear oq;refine aDY (by omega) (by omega) ?_
     refine⟨rfl,?_⟩
     exact⟨⟨i+1,p6,v6,bs6,k6,ps++(([aD [] el.name]++([aD [32] w3]++(aL [32] [61]::ps6++[])))),by omega,rfl,hp6,bE hel hQ (by(first|rw[hone]|(show bG el=_;rw[hone]));simp only[aB h2,hw3,if_neg hz,hq6,aG,oMS]),by rw[hb6,hb5,hb4,hb'];simp[bK,gE,wr,aD,aL,bU],by rw[hk6,hk5,hk4,hk'];first|(simp;done)|(simp;omega),by omega,by omega,Own.sel ‹_› [0,1,2] rfl⟩,by simp;omega⟩
   ·skip
    (refine aDO o214 aJ aO rfl rfl (by decide) (aI rfl ?_);intro b660 m660 o660);refine aI ((o660.boxBlk 3 rfl).trans (o214.boxBlk 3 rfl).symm) ?_;refine aDj (B:=B) ‹_› (bM el.name _ hn1) (fun h7 m7 oc7 oq7=>?_) fun h7 m7 oq7=>?_
    case refine_2=>exact⟨(by rw[hRe];simp only[aS hel hQ (show(eM mV) i el=none by rw[hone];simp only[cZ h7,aG,oMN,oMS]),aG,oMN,oMS]),rfl,oq7⟩
    have hnl7:=cU h7;refine aI ((oq7.boxBlk 3 rfl).trans (o660.boxBlk 3 rfl).symm) ?_;refine aDm rfl rfl (by first|omega|(simp;omega)) ?_;refine aDj (B:=B) ‹_› (eE el.kind [[116,101,120,116],[110,117,109,98,101,114],[100,97,121],[102,108,97,103]] _ _ (by omega) (by omega) (Own.boxArr ‹_› 4 rfl rfl (by decide)) (by simp) (by simp)) (fun h8 m8 oc8 oq8=>?_) fun h8 m8 oq8=>?_
    case refine_2=>exact⟨(by rw[hRe];simp only[aS hel hQ (show(eM mV) i el=none by rw[hone];simp only[aB h7,mO (of_decide_eq_false h8),aG,oMN,oMS]),aG,oMN,oMS]),rfl,oq8⟩
    have h8:=of_decide_eq_true h8;have hw8:=kL (n:=el.kind) h8;have hnl8:=lD (ws:=[[116,101,120,116],[110,117,109,98,101,114],[100,97,121],[102,108,97,103]]) (M:=10) (by simp) (el.kind - 1).toNat;generalize ([[116,101,120,116],[110,117,109,98,101,114],[100,97,121],[102,108,97,103]]:List aBs).getD (el.kind - 1).toNat []=w8 at hw8 hnl8;clear oc8;(refine aDO oq8 aJ aO rfl rfl (by decide) (aI rfl ?_);intro b760 m760 o760);refine aH [[]++el.name,32::w8] 2 30 [2,3] (i:=5) ‹_› rfl rfl rfl hp' rfl (by omega) (by omega) (by first|(simp;done)|(simp;omega)) (by omega) (by omega) (fun p9 v9 bs9 k9 m9 hp9 hb9 hk9 hl9 oq=>?_);have o9q:=oq
    simp only[pick,lgS,lgZ]at o9q
    clear oq;by_cases hz:el.dflt.k=0∧el.dflt.n=0∧el.dflt.t=[]
    ·have hzb:(!(decide (el.dflt.k=0)&&(decide (el.dflt.n=0)&&(decide (el.dflt.t=[])&&true))))=false:=by simp[hz.1,hz.2.1,hz.2.2]
     refine rR (fA lP rfl rfl rfl ?_);refine rR (aDi o9q 3 rfl bW rfl rfl rfl ?_);refine rR (aDl eJ ?_);refine rR (neS rE rfl rfl rfl rfl ?_);refine Br.ffE hzb ?_;refine aDY (by omega) (by omega) ?_
     refine⟨rfl,?_⟩
     exact⟨⟨i+1,p9,v9,bs9,k9,ps++(([aD [] el.name]++([aD [32] w8]++([]++[])))),by omega,rfl,hp9,bE hel hQ (by rw[hone];simp only[aB h7,hw8,if_pos hz,aG,oMS]),by rw[hb9,hb'];simp[bK,gE,wr,aD,aL,bU],by rw[hk9,hk'];first|(simp;done)|(simp;omega),by omega,by omega,Own.sel ‹_› [0,1,2] rfl⟩,by simp;omega⟩
    ·have hzb:(!(decide (el.dflt.k=0)&&(decide (el.dflt.n=0)&&(decide (el.dflt.t=[])&&true))))=true:=by
      rw[aEu,aEw]
      intro hh
      simp at hh
      exact hz hh
     refine rR (fA lP rfl rfl rfl ?_);refine rR (aDi o9q 3 rfl bW rfl rfl rfl ?_);refine rR (aDl eJ ?_);refine rR (neS rE rfl rfl rfl rfl ?_);refine Br.ttE hzb ?_;refine rR (nC rfl ?_);refine rR (fA bS rfl rfl rfl ?_);(refine aDO o9q aJ aO rfl rfl (by decide) (aI rfl ?_);intro b867 m867 o867);refine aH [[32,61]] 1 30 [2,3] (i:=4) ‹_› rfl rfl rfl hp9 rfl (by omega) (by omega) (by first|(simp;done)|(simp;omega)) (by omega) (by omega) (fun p10 v10 bs10 k10 m10 hp10 hb10 hk10 hl10 oq=>?_);have o10q:=oq
     simp only[pick,lgS,lgZ]at o10q
     clear oq;refine rR (fA lP rfl rfl rfl ?_);refine rR (aDi o10q 3 rfl bW rfl rfl rfl ?_);refine WEnds.callJ [2,3] ‹_› rfl rfl (fun J oj=>jL ⟨B.h,J++B.T⟩ b p10 v10 k10 bs10 el.dflt _ hp10 hT oj (by omega) hv1.2.2 hv1.2.1 (by omega)) (fun ps11 p11 v11 bs11 k11 m11 hq11 hp11 hb11 hk11 hl11 _ hj11 oq=>?_) (fun m11 hq11 oq=>?_)
     case refine_2=>exact⟨(by rw[hRe];simp only[aS hel hQ (show(eM mV) i el=none by rw[hone];simp only[aB h7,hw8,if_neg hz,hq11,aG,oMN,oMS]),aG,oMN,oMS]),rfl,oq⟩
     have o11q:=oq
     simp only[pick,lgS,lgZ]at o11q
     clear oq;refine aDY (by omega) (by omega) ?_
     refine⟨rfl,?_⟩
     exact⟨⟨i+1,p11,v11,bs11,k11,ps++(([aD [] el.name]++([aD [32] w8]++(aL [32] [61]::ps11++[])))),by omega,rfl,hp11,bE hel hQ (by(first|rw[hone]|(show bG el=_;rw[hone]));simp only[aB h7,hw8,if_neg hz,hq11,aG,oMS]),by rw[hb11,hb10,hb9,hb'];simp[bK,gE,wr,aD,aL,bU],by rw[hk11,hk10,hk9,hk'];first|(simp;done)|(simp;omega),by omega,by omega,Own.sel ‹_› [0,1,2] rfl⟩,by simp;omega⟩
  ·have hone:eM mV i el=(aG [bB [32] el.name,fZ el.kind [[116,101,120,116],[110,117,109,98,101,114],[100,97,121],[102,108,97,103]],(if el.dflt.k=0∧el.dflt.n=0∧el.dflt.t=[] then some [] else(bT el.dflt).map (aL [32] [61]::·))]).map (aL [] [44]::·):=by unfold eM;rw[if_neg h0i];rfl
   refine aDR (fun c1010=>?_) (fun hc=>absurd (by omega) hc);refine rR (aDo oW fL (hA.ext oh.ext) rfl (by omega) (by omega) ?_);refine rR (aDr fL (hA.ext oh.ext) (fun _=>rfl) (by decide) rfl ‹_› ?_);(refine aDP oh fL ?_;intro b1013 m1013 o1013);(refine aDh o1013 3 rfl fL rfl (by decide) (aI ⟨rfl,rfl⟩ ?_);intro m1014 o1014);refine aDR (fun c1015=>?_) (fun hc=>absurd (by omega) hc);refine rR (nC rfl ?_);refine rR (fA bS rfl rfl rfl ?_);(refine aDO o1014 aJ aO rfl rfl (by decide) (aI rfl ?_);intro b1018 m1018 o1018);refine aH [[44]] 1 30 [2,3] (i:=4) ‹_› rfl rfl rfl hp' rfl (by omega) (by omega) (by first|(simp;done)|(simp;omega)) (by omega) (by omega) (fun p12 v12 bs12 k12 m12 hp12 hb12 hk12 hl12 oq=>?_);have o12q:=oq
   simp only[pick,lgS,lgZ]at o12q
   clear oq;refine aDB b1013 [0,1,2,3,4,7,8] [5,9] [11,12,13] (.one 0 (.one 1 (.one 2 (.one 3 (.one 4 (.one 5 (.one 8 (.one 9 (.fork 6 10 (.one 7 (.one 10 (.one 11 (.one 12 (.one 13 .done))))) (.one 6 (.one 7 (.one 11 (.one 12 (.one 13 .done)))))))))))))) mixed (by kernel_rfl) rfl (fun _ _ _ _ h=>h) ?_;refine nC rfl ?_;refine fA bS rfl rfl rfl ?_;refine fA lP rfl rfl rfl ?_;refine StillVCA.load1 aO rfl rfl ((o12q.cellB 3 rfl _).trans rfl) ?_;refine fA lP rfl rfl rfl ?_;refine StillVCA.load1 aY rfl rfl ((o12q.cellB 3 rfl _).trans rfl) ?_;refine aI ?_ ?_
   ·skip
    refine aDj (B:=B) ‹_› (bM el.name _ hn1) (fun h13 m13 oc13 oq13=>?_) fun h13 m13 oq13=>?_
    case refine_2=>exact⟨(by rw[hRe];simp only[aS hel hQ (show(eM mV) i el=none by rw[hone];simp only[cZ h13,aG,oMN,oMS]),aG,oMN,oMS]),rfl,oq13⟩
    have hnl13:=cU h13;refine aI ((oq13.boxBlk 3 rfl).trans (o12q.boxBlk 3 rfl).symm) ?_;refine aDm rfl rfl (by first|omega|(simp;omega)) ?_;(refine aDO oq13 aJ aO rfl rfl (by decide) (aI rfl ?_);intro b1211 m1211 o1211);refine aI ((o1211.boxBlk 3 rfl).trans (oq13.boxBlk 3 rfl).symm) ?_;refine aDj (B:=B) ‹_› (eE el.kind [[116,101,120,116],[110,117,109,98,101,114],[100,97,121],[102,108,97,103]] _ _ (by omega) (by omega) (Own.boxArr ‹_› 4 rfl rfl (by decide)) (by simp) (by simp)) (fun h14 m14 oc14 oq14=>?_) fun h14 m14 oq14=>?_
    case refine_2=>exact⟨(by rw[hRe];simp only[aS hel hQ (show(eM mV) i el=none by rw[hone];simp only[aB h13,mO (of_decide_eq_false h14),aG,oMN,oMS]),aG,oMN,oMS]),rfl,oq14⟩
    have h14:=of_decide_eq_true h14;have hw14:=kL (n:=el.kind) h14;have hnl14:=lD (ws:=[[116,101,120,116],[110,117,109,98,101,114],[100,97,121],[102,108,97,103]]) (M:=10) (by simp) (el.kind - 1).toNat;generalize ([[116,101,120,116],[110,117,109,98,101,114],[100,97,121],[102,108,97,103]]:List aBs).getD (el.kind - 1).toNat []=w14 at hw14 hnl14;clear oc14;(refine aDO oq14 aJ aO rfl rfl (by decide) (aI rfl ?_);intro b1260 m1260 o1260);refine aH [[32]++el.name,32::w14] 2 30 [2,3] (i:=5) ‹_› rfl rfl rfl hp12 rfl (by omega) (by omega) (by first|(simp;done)|(simp;omega)) (by omega) (by omega) (fun p15 v15 bs15 k15 m15 hp15 hb15 hk15 hl15 oq=>?_);have o15q:=oq
    simp only[pick,lgS,lgZ]at o15q
    clear oq;by_cases hz:el.dflt.k=0∧el.dflt.n=0∧el.dflt.t=[]
    ·have hzb:(!(decide (el.dflt.k=0)&&(decide (el.dflt.n=0)&&(decide (el.dflt.t=[])&&true))))=false:=by simp[hz.1,hz.2.1,hz.2.2]
     refine rR (fA lP rfl rfl rfl ?_);refine rR (aDi o15q 3 rfl bW rfl rfl rfl ?_);refine rR (aDl eJ ?_);refine rR (neS rE rfl rfl rfl rfl ?_);refine Br.ffE hzb ?_;refine aDY (by omega) (by omega) ?_
     refine⟨rfl,?_⟩
     exact⟨⟨i+1,p15,v15,bs15,k15,ps++(aL [] [44]::([aD [32] el.name]++([aD [32] w14]++([]++[])))),by omega,rfl,hp15,bE hel hQ (by rw[hone];simp only[aB h13,hw14,if_pos hz,aG,oMS]),by rw[hb15,hb12,hb'];simp[bK,gE,wr,aD,aL,bU],by rw[hk15,hk12,hk'];first|(simp;done)|(simp;omega),by omega,by omega,Own.sel ‹_› [0,1,2] rfl⟩,by simp;omega⟩
    ·have hzb:(!(decide (el.dflt.k=0)&&(decide (el.dflt.n=0)&&(decide (el.dflt.t=[])&&true))))=true:=by
      rw[aEu,aEw]
      intro hh
      simp at hh
      exact hz hh
     refine rR (fA lP rfl rfl rfl ?_);refine rR (aDi o15q 3 rfl bW rfl rfl rfl ?_);refine rR (aDl eJ ?_);refine rR (neS rE rfl rfl rfl rfl ?_);refine Br.ttE hzb ?_;refine rR (nC rfl ?_);refine rR (fA bS rfl rfl rfl ?_);(refine aDO o15q aJ aO rfl rfl (by decide) (aI rfl ?_);intro b1367 m1367 o1367);refine aH [[32,61]] 1 30 [2,3] (i:=4) ‹_› rfl rfl rfl hp15 rfl (by omega) (by omega) (by first|(simp;done)|(simp;omega)) (by omega) (by omega) (fun p16 v16 bs16 k16 m16 hp16 hb16 hk16 hl16 oq=>?_);have o16q:=oq
     simp only[pick,lgS,lgZ]at o16q
     clear oq;refine rR (fA lP rfl rfl rfl ?_);refine rR (aDi o16q 3 rfl bW rfl rfl rfl ?_);refine WEnds.callJ [2,3] ‹_› rfl rfl (fun J oj=>jL ⟨B.h,J++B.T⟩ b p16 v16 k16 bs16 el.dflt _ hp16 hT oj (by omega) hv1.2.2 hv1.2.1 (by omega)) (fun ps17 p17 v17 bs17 k17 m17 hq17 hp17 hb17 hk17 hl17 _ hj17 oq=>?_) (fun m17 hq17 oq=>?_)
     case refine_2=>exact⟨(by rw[hRe];simp only[aS hel hQ (show(eM mV) i el=none by rw[hone];simp only[aB h13,hw14,if_neg hz,hq17,aG,oMN,oMS]),aG,oMN,oMS]),rfl,oq⟩
     have o17q:=oq
     simp only[pick,lgS,lgZ]at o17q
     clear oq;refine aDY (by omega) (by omega) ?_
     refine⟨rfl,?_⟩
     exact⟨⟨i+1,p17,v17,bs17,k17,ps++(aL [] [44]::([aD [32] el.name]++([aD [32] w14]++(aL [32] [61]::ps17++[])))),by omega,rfl,hp17,bE hel hQ (by(first|rw[hone]|(show bG el=_;rw[hone]));simp only[aB h13,hw14,if_neg hz,hq17,aG,oMS]),by rw[hb17,hb16,hb15,hb12,hb'];simp[bK,gE,wr,aD,aL,bU],by rw[hk17,hk16,hk15,hk12,hk'];first|(simp;done)|(simp;omega),by omega,by omega,Own.sel ‹_› [0,1,2] rfl⟩,by simp;omega⟩
   ·skip
    (refine aDO o12q aJ aO rfl rfl (by decide) (aI rfl ?_);intro b1510 m1510 o1510);refine aI ((o1510.boxBlk 3 rfl).trans (o12q.boxBlk 3 rfl).symm) ?_;refine aDj (B:=B) ‹_› (bM el.name _ hn1) (fun h18 m18 oc18 oq18=>?_) fun h18 m18 oq18=>?_
    case refine_2=>exact⟨(by rw[hRe];simp only[aS hel hQ (show(eM mV) i el=none by rw[hone];simp only[cZ h18,aG,oMN,oMS]),aG,oMN,oMS]),rfl,oq18⟩
    have hnl18:=cU h18;refine aI ((oq18.boxBlk 3 rfl).trans (o1510.boxBlk 3 rfl).symm) ?_;refine aDm rfl rfl (by first|omega|(simp;omega)) ?_;refine aDj (B:=B) ‹_› (eE el.kind [[116,101,120,116],[110,117,109,98,101,114],[100,97,121],[102,108,97,103]] _ _ (by omega) (by omega) (Own.boxArr ‹_› 4 rfl rfl (by decide)) (by simp) (by simp)) (fun h19 m19 oc19 oq19=>?_) fun h19 m19 oq19=>?_
    case refine_2=>exact⟨(by rw[hRe];simp only[aS hel hQ (show(eM mV) i el=none by rw[hone];simp only[aB h18,mO (of_decide_eq_false h19),aG,oMN,oMS]),aG,oMN,oMS]),rfl,oq19⟩
    have h19:=of_decide_eq_true h19;have hw19:=kL (n:=el.kind) h19;have hnl19:=lD (ws:=[[116,101,120,116],[110,117,109,98,101,114],[100,97,121],[102,108,97,103]]) (M:=10) (by simp) (el.kind - 1).toNat;generalize ([[116,101,120,116],[110,117,109,98,101,114],[100,97,121],[102,108,97,103]]:List aBs).getD (el.kind - 1).toNat []=w19 at hw19 hnl19;clear oc19;(refine aDO oq19 aJ aO rfl rfl (by decide) (aI rfl ?_);intro b1610 m1610 o1610);refine aH [[32]++el.name,32::w19] 2 30 [2,3] (i:=5) ‹_› rfl rfl rfl hp12 rfl (by omega) (by omega) (by first|(simp;done)|(simp;omega)) (by omega) (by omega) (fun p20 v20 bs20 k20 m20 hp20 hb20 hk20 hl20 oq=>?_);have o20q:=oq
    simp only[pick,lgS,lgZ]at o20q
    clear oq;by_cases hz:el.dflt.k=0∧el.dflt.n=0∧el.dflt.t=[]
    ·have hzb:(!(decide (el.dflt.k=0)&&(decide (el.dflt.n=0)&&(decide (el.dflt.t=[])&&true))))=false:=by simp[hz.1,hz.2.1,hz.2.2]
     refine rR (fA lP rfl rfl rfl ?_);refine rR (aDi o20q 3 rfl bW rfl rfl rfl ?_);refine rR (aDl eJ ?_);refine rR (neS rE rfl rfl rfl rfl ?_);refine Br.ffE hzb ?_;refine aDY (by omega) (by omega) ?_
     refine⟨rfl,?_⟩
     exact⟨⟨i+1,p20,v20,bs20,k20,ps++(aL [] [44]::([aD [32] el.name]++([aD [32] w19]++([]++[])))),by omega,rfl,hp20,bE hel hQ (by rw[hone];simp only[aB h18,hw19,if_pos hz,aG,oMS]),by rw[hb20,hb12,hb'];simp[bK,gE,wr,aD,aL,bU],by rw[hk20,hk12,hk'];first|(simp;done)|(simp;omega),by omega,by omega,Own.sel ‹_› [0,1,2] rfl⟩,by simp;omega⟩
    ·have hzb:(!(decide (el.dflt.k=0)&&(decide (el.dflt.n=0)&&(decide (el.dflt.t=[])&&true))))=true:=by
      rw[aEu,aEw]
      intro hh
      simp at hh
      exact hz hh
     refine rR (fA lP rfl rfl rfl ?_);refine rR (aDi o20q 3 rfl bW rfl rfl rfl ?_);refine rR (aDl eJ ?_);refine rR (neS rE rfl rfl rfl rfl ?_);refine Br.ttE hzb ?_;refine rR (nC rfl ?_);refine rR (fA bS rfl rfl rfl ?_);(refine aDO o20q aJ aO rfl rfl (by decide) (aI rfl ?_);intro b1717 m1717 o1717);refine aH [[32,61]] 1 30 [2,3] (i:=4) ‹_› rfl rfl rfl hp20 rfl (by omega) (by omega) (by first|(simp;done)|(simp;omega)) (by omega) (by omega) (fun p21 v21 bs21 k21 m21 hp21 hb21 hk21 hl21 oq=>?_);have o21q:=oq
     simp only[pick,lgS,lgZ]at o21q
     clear oq;refine rR (fA lP rfl rfl rfl ?_);refine rR (aDi o21q 3 rfl bW rfl rfl rfl ?_);refine WEnds.callJ [2,3] ‹_› rfl rfl (fun J oj=>jL ⟨B.h,J++B.T⟩ b p21 v21 k21 bs21 el.dflt _ hp21 hT oj (by omega) hv1.2.2 hv1.2.1 (by omega)) (fun ps22 p22 v22 bs22 k22 m22 hq22 hp22 hb22 hk22 hl22 _ hj22 oq=>?_) (fun m22 hq22 oq=>?_)
     case refine_2=>exact⟨(by rw[hRe];simp only[aS hel hQ (show(eM mV) i el=none by rw[hone];simp only[aB h18,hw19,if_neg hz,hq22,aG,oMN,oMS]),aG,oMN,oMS]),rfl,oq⟩
     have o22q:=oq
     simp only[pick,lgS,lgZ]at o22q
     clear oq;refine aDY (by omega) (by omega) ?_
     refine⟨rfl,?_⟩
     exact⟨⟨i+1,p22,v22,bs22,k22,ps++(aL [] [44]::([aD [32] el.name]++([aD [32] w19]++(aL [32] [61]::ps22++[])))),by omega,rfl,hp22,bE hel hQ (by(first|rw[hone]|(show bG el=_;rw[hone]));simp only[aB h18,hw19,if_neg hz,hq22,aG,oMS]),by rw[hb22,hb21,hb20,hb12,hb'];simp[bK,gE,wr,aD,aL,bU],by rw[hk22,hk21,hk20,hk12,hk'];first|(simp;done)|(simp;omega),by omega,by omega,Own.sel ‹_› [0,1,2] rfl⟩,by simp;omega⟩
 have hQL:=gN (aEs hlt) hQ;refine aDR (fun hc=>absurd hc (by omega)) (fun c1860=>?_);refine rR (nC rfl ?_);refine rR (fA bS rfl rfl rfl ?_);(refine aDO oh aJ aO rfl rfl (by decide) (aI rfl ?_);intro b1863 m1863 o1863);refine aH [[41],[32,107,101,121]] 2 30 [2] (i:=3) ‹_› rfl rfl rfl hp' rfl (by omega) (by omega) (by first|(simp;done)|(simp;omega)) (by omega) (by omega) (fun p23 v23 bs23 k23 m23 hp23 hb23 hk23 hl23 oq=>?_);have o23q:=oq
 simp only[pick,lgS,lgZ]at o23q
 clear oq;refine rR (nC rfl ?_);refine rR (fA aT rfl rfl rfl ?_);refine rR (aDe o23q 2 rfl fG rfl rfl ?_);refine WEnds.callJ [2] ‹_› rfl rfl (fun J oj=>rZ ⟨B.h,J++B.T⟩ b p23 v23 k23 bs23 [32] x.names _ _ hp23 (fun L h o=>(hN.ext (Own.ext (B:=⟨B.h,J++B.T⟩) o)).to1) oj (by omega) bnames (by omega) (by omega) (.inr rfl)) (fun ps24 p24 v24 bs24 k24 m24 hq24 hp24 hb24 hk24 hl24 _ hj24 oq=>?_) (fun m24 hq24 oq=>?_)
 case refine_2=>exact⟨(by rw[hRe];simp only[hQL,hq24,aG,oMN,oMS]),rfl,oq⟩
 have o24q:=oq
 simp only[pick,lgS,lgZ]at o24q
 clear oq;refine rR (nC rfl ?_);refine rR (fA aT rfl rfl rfl ?_);(refine aDN o24q 2 rfl rD rfl (by simp) (aI ⟨rfl,rfl⟩ ?_);intro m1962 o1962);refine rR (nC rfl ?_);refine rR (fA aT rfl rfl rfl ?_);(refine aDN o1962 2 rfl fG rfl (by simp) (aI ⟨rfl,rfl⟩ ?_);intro m1965 o1965);refine aD0 rfl ?_;exact IEnds.done (ps:=[aL [] [40]]++(ps++([aL [] [41],aD [32] [107,101,121]]++(ps24++[])))) (by rw[hRe];simp only[hQL,hq24,aG,oMS]) (Own.sel ‹_› [0,1,2] rfl) hp24 (by rw[hb24,hb23,hb',hb1];simp[bK,gE,wr,aD,aL,bU]) (by rw[hk24,hk23,hk',hk1];first|(simp;done)|(simp;omega)) (by omega) (by omega)
theorem aBt (B:Base)(b bx:Nat)(p v:Value)(k:Int)(bs:aBs)(x:It)(z:Int)(vc vn vt vf vv vd e0 e1 e2 e3 e4 e5 e6 e7 e8:Value)(h:Heap)(hp:cW b p)(hT:kJ B.h)(hOK:nM x)
  (o:Own B [box b [p,v,.int .i64 k] 58,row v 5 1 bs.length (bytes bs),box bx (gF x z vc vn vt vf vv vd e0 e1 e2 e3 e4 e5 e6 e7 e8) 44] h) (hl:bs.length+2000*eU x≤50000000000000) (hk:0≤k∧k+2000*eU x≤50000000000000) :
  Spec Tryz.prog 71 [.pointer (some ⟨b,0,none⟩),.pointer (some ⟨bx,0,none⟩)] h (IEnds B b bx bs k (2000*eU x) (gF (clr2 x) z vc vn vt vf vv vd e0 e1 e2 e3 e4 e5 e6 e7 e8) (part2 x)):=by
 obtain⟨bkind,bname,btable,battr,bcols,bnames,bby,bn,bm,bterms,both,boat,bfixed,bvars,bconds,bexpr,lcols,lnames,lterms,lfixed,lvars,lconds⟩:=hOK
 have hsz:eU x=1+x.cols.length+x.names.length+x.terms.length+x.fixed.length+x.vars.length+x.conds.length+fQ x.expr:=rfl;unfold gF at o;refine aDX Tryz.func71 rfl Tryz.ntmps71 (by kernel_rfl) ?_;have hRe:part2 x=aG [some [aD [32] [116,114,117,115,116]],iD [32] x.n]:=rfl;refine aDU [0,1,2,3,4,5,8] [6] [7,9,10] [0,1,2,3,4,5,6,7,8,9,10] mixed (by kernel_rfl) rfl (fun _ _ _ _ h=>h) ?_;refine nC rfl ?_;refine fA bS rfl rfl rfl ?_;refine nC rfl ?_;refine fA aT rfl rfl rfl ?_;refine aDe o 2 rfl aY rfl rfl ?_;refine aDj (B:=B) ‹_› (bN x.n _ bn.1 bn.2 (hT.ext (Own.ext (B:=B) ‹_›))) (fun h1 m1 oc1 oq1=>?_) fun h1 m1 oq1=>?_
 case refine_2=>exact⟨(by rw[hRe];simp only[dF h1,aG,oMN,oMS]),rfl,oq1⟩
 have hnl1:=cB h1;clear oc1;refine aDm rfl rfl (by first|omega|(simp;omega)) ?_;(refine aDO oq1 aJ aO rfl rfl (by decide) (aI rfl ?_);intro b111 m111 o111);refine aH [[32,116,114,117,115,116],[32]++Lib.itoa x.n] 2 30 [2] (i:=3) ‹_› rfl rfl rfl hp rfl (by omega) (by omega) (by first|(simp;done)|(simp;omega)) (by omega) (by omega) (fun p2 v2 bs2 k2 m2 hp2 hb2 hk2 hl2 oq=>?_);have o2q:=oq
 simp only[pick,lgS,lgZ]at o2q
 clear oq;refine rR (nC rfl ?_);refine rR (fA aT rfl rfl rfl ?_);(refine aDN o2q 2 rfl aY rfl (by simp) (aI ⟨rfl,rfl⟩ ?_);intro m162 o162);refine aD0 rfl ?_;exact IEnds.done (ps:=[aD [32] [116,114,117,115,116]]++([bU [32] x.n]++[])) (by rw[hRe];simp only[aC h1,aG,oMS]) (Own.sel ‹_› [0,1,2] rfl) hp2 (by rw[hb2];simp[bK,gE,wr,aD,aL,bU]) (by rw[hk2];first|(simp;done)|(simp;omega)) (by omega) (by omega)
end Go.Proofs.YtohlogbnpfofpaaGreatDoor
