/- Part 11 of the proof of inverse: FnXg8, FnXg, FnXm, FnXq0, FnH1, FnH2, FnH3. -/
import Derived.Test.YtohlogbnpfofpaaGreatDoorPV10
set_option linter.all false
set_option maxHeartbeats 100000000
set_option maxRecDepth 100000
namespace Go.Proofs.YtohlogbnpfofpaaGreatDoor
open Go StillVC
theorem prExpr_c8 (b n:Nat)(hIH:aAH b n)(kd:Int)(tb:aBs)(ks:List Ex)(cs:List Cnd)(ns:List aBs)(a s:aBs)(g:Int)(off:Nat)(hcls:kd=8)(B:Base)(c:aVs)(be:aBs)(lev:Int)(p v:Value)(k:Int)(bs:aBs)(h:Heap)(hd:fY (.mk kd tb ks cs ns a s g off)≤n+1)(hOK:gA (.mk kd tb ks cs ns a s g off))(hc:kN B.h c (.mk kd tb ks cs ns a s g off))(hp:cO b p)(hbe:be=[]∨be=[32])(hlev:0≤lev∧lev+bY (.mk kd tb ks cs ns a s g off)≤1000000000000)(hT:jO B.h)(hF:gX B.h)
  (o:Own B [box b [p,v,.int .i64 k] 58,row v 5 1 bs.length (bytes bs)] h) (hl:bs.length+2000*fI (.mk kd tb ks cs ns a s g off)≤50000000000000) (hk:0≤k∧k+2000*fI (.mk kd tb ks cs ns a s g off)≤50000000000000) :
  Spec Tryz.prog 128 [.pointer (some ⟨b,0,none⟩),.string ⟨⟨be⟩⟩,.agg ⟨c⟩,.int .i64 lev] h (XEnds B b bs k (2000*fI (.mk kd tb ks cs ns a s g off)) (fZ be (.mk kd tb ks cs ns a s g off)) (lev+bY (.mk kd tb ks cs ns a s g off) - 1)):=by
  rw[fY]at hd
  rw[gA]at hOK
  rw[kN]at hc
  rw[fI]at hl hk ⊢
  rw[bY]at hlev ⊢
  rw[show lev+((cK ks+1:Nat):Int) - 1=lev+cK ks by omega]
  obtain⟨bk,btb,bks,bcs,bns,ba,bs_,bg,lk,lc,ln⟩:=hOK
  obtain⟨vk,vc,vn,z,rfl,q1,q2,xs,q3,rk⟩:=hc
  rw[gR]at q2
  obtain⟨e1,f1,rfl⟩:=q1.isS
  obtain⟨e2,f2,rfl⟩:=q2.isS
  obtain⟨e3,f3,rfl⟩:=q3.isS
  unfold qE;have hxs:xs.length=ks.length:=kH rk;have hbel:be.length≤1:=by rcases hbe with rfl|rfl<;>simp
  refine aCV Tryz.func128 rfl Tryz.ntmps128 (by kernel_rfl) ?_;by_cases hkd:1≤kd∧kd≤8
  case neg =>
   exact(by omega:False).elim
  have hfa:=oY hF kd hkd.1 hkd.2;have hf1:=hfa.1;(refine aCq o rfl ?_;intro b50 m50 o50);refine aCS [0,2,3,4,6,7,8,9,11,12,14,15,17,18] [1,5,10,13,16] [19] [0,1,2,3,4,5,6,7,8,9,10,11,12,13,14,15,16,17,18,19] mixed (by kernel_rfl) rfl (fun _ _ _ _ h=>h) ?_;refine fA aM rfl rfl rfl ?_;refine aCc o50 2 rfl aT rfl rfl ?_;refine aCP (fun c53=>?_) (fun hc=>absurd (by omega) hc);refine fA aM rfl rfl rfl ?_;refine aCc o50 2 rfl aT rfl rfl ?_;refine aCP (fun c56=>?_) (fun hc=>absurd (by omega) hc);refine fA aM rfl rfl rfl ?_;refine aCc o50 2 rfl cQ rfl rfl ?_;refine aCk rfl bV ?_;refine fA aM rfl rfl rfl ?_;refine aCc o50 2 rfl aT rfl rfl ?_;refine aCw Tryz.underlying195 pW rfl rfl (by omega) (by omega) ?_;refine fA qL rfl rfl rfl ?_;refine load1 aT rfl (o50.old hf1) ?_;refine aCh ‹_› (aE _ _) (fun e1 m2 oc oq=>?_) fun e1 m2 oq=>?_
  case refine_2 =>
   have e1:=of_decide_eq_false e1;have hq:fZ be (.mk kd tb ks cs ns a s g off)=none:=by rw[fZ,if_neg (fun h=>e1 (by rw[h.2.2.1]))]
   exact⟨hq,rfl,oq⟩
  have hkl:ks.length=iM kd:=by have:=of_decide_eq_true e1;omega
  clear e1 oc;by_cases hkone:kd=1
  ·exact(by omega:False).elim
  ·have hexQ:fZ be (.mk kd tb ks cs ns a s g off)=if gD kd tb cs ns a s g=true then aJ [some [aD be (cG.getD (kd - 2).toNat []),aO [] [40]],cZ (dY fZ) ks,dT kd cs ns a s g,some [aO [] [41]]] else none:=by
    rw[fZ]
    by_cases hb:gD kd tb cs ns a s g=true
    ·rw[if_pos ⟨hkd.1,hkd.2,hkl,hb⟩,if_neg hkone,if_pos hb,nK]
    ·rw[if_neg (fun h=>hb h.2.2.2),if_neg hb]
   have hf2:=hfa.2 hkone;have hol:=zL (kd - 2).toNat;generalize cG.getD (kd - 2).toNat []=opw at hexQ hf2 hol;clear hfa;refine rR (aCg oq 2 rfl aS rfl rfl rfl ?_);(refine aCN oq aS ?_;intro b201 m201 o201);(refine aCf o201 3 rfl aS rfl (by decide) (aI ⟨rfl,rfl⟩ ?_);intro m202 o202);refine rR (fA aM rfl rfl rfl ?_);(refine aCL o202 3 rfl aT rfl (by simp) (aI ⟨rfl,rfl⟩ ?_);intro m204 o204);refine rR (fA aM rfl rfl rfl ?_);(refine aCL o204 3 rfl cQ rfl (by simp) (aI ⟨rfl,rfl⟩ ?_);intro m206 o206);refine rR (fA aM rfl rfl rfl ?_);(refine aCL o206 3 rfl aT rfl (by simp) (aI ⟨rfl,rfl⟩ ?_);intro m208 o208);refine rR (fA aM rfl rfl rfl ?_);refine rR (aCc o208 2 rfl aT rfl rfl ?_);refine aCP (fun hc=>absurd hc (by omega)) (fun c211=>?_);refine aCS [0,1,2,3,4,6,7,9] [5,8] [10,11] [0,1,2,3,4,5,6,7,8,9,10,11] mixed (by kernel_rfl) rfl (fun _ _ _ _ h=>h) ?_;refine nC rfl ?_;refine fA bO rfl rfl rfl ?_;refine fA aM rfl rfl rfl ?_;refine aCc o208 2 rfl aT rfl rfl ?_;refine aCw Tryz.underlying195 pW rfl rfl (by omega) (by omega) ?_;refine fA qL rfl rfl rfl ?_;refine load1 aL rfl (o208.old hf2) ?_;refine aCm rfl rfl (by first|omega|(simp;omega)) ?_;(refine aCM o208 aK aL rfl rfl (by decide) (aI rfl ?_);intro b220 m220 o220);refine aH [be++opw,[40]] 2 30 [2,3] (i:=4) ‹_› rfl rfl rfl hp rfl (by omega) (by omega) (by simp;omega) (by omega) (by omega) (fun p1 v1 bs1 k1 m1 hp1 hb1 hk1 hl1 oq=>?_);have o4:Own B [box b [p1,v1,.int .i64 k1] 58,row v1 5 1 bs1.length (bytes bs1),box b50 [.int .i64 kd,.string ⟨⟨tb⟩⟩,.slice e3 ks.length f3,.slice e1 cs.length f1,.slice e2 ns.length f2,.string ⟨⟨a⟩⟩,.string ⟨⟨s⟩⟩,.int .i64 g,.int .i64 z] 42,box b201 [.int .i64 0,.string ⟨⟨tb⟩⟩,.slice none 0 0,.slice e1 cs.length f1,.slice e2 ns.length f2,.string ⟨⟨a⟩⟩,.string ⟨⟨s⟩⟩,.int .i64 g,.int .i64 0] 42] m1:=oq
   clear oq;refine rR (fA aM rfl rfl rfl ?_);refine rR (aCc o4 2 rfl cQ rfl rfl ?_);refine rR (aCk rfl bV ?_);refine aCZ [10,11,12,67,68,69,70,71,72,73,74,75,76,77,78,79,80,81,82,83,84,85,86,87,88,89,90] [10,67] (fun vs' hh=>∃(i:Nat) (p' v':Value) (bs':aBs) (k':Int) (ps:List Pc),i≤ks.length∧vs'=[.int .i64 (lev+cK (ks.take i)),.int .i64 i]∧cO b p'∧cZ (dY fZ) (ks.take i)=some ps∧bs'=bs1++bG ps∧k'=k1+ps.length∧bs'.length≤bs1.length+(2000*fS (ks.take i)+30*i)∧k'≤k1+(2000*fS (ks.take i)+30*i)∧Own B [box b [p',v',.int .i64 k'] 58,row v' 5 1 bs'.length (bytes bs'),box b50 [.int .i64 kd,.string ⟨⟨tb⟩⟩,.slice e3 ks.length f3,.slice e1 cs.length f1,.slice e2 ns.length f2,.string ⟨⟨a⟩⟩,.string ⟨⟨s⟩⟩,.int .i64 g,.int .i64 z] 42,box b201 [.int .i64 0,.string ⟨⟨tb⟩⟩,.slice none 0 0,.slice e1 cs.length f1,.slice e2 ns.length f2,.string ⟨⟨a⟩⟩,.string ⟨⟨s⟩⟩,.int .i64 g,.int .i64 0] 42] hh) (fun vs' _=>match vs' with|[_,.int _ i]=>ks.length - i.toNat|_=>0) ?_ ?_
   ·exact⟨0,p1,v1,bs1,k1,[],by omega,by simp[cK],hp1,rfl,by simp[bG],by simp,by omega,by omega,o4⟩
   rintro vs' junk hh ⟨i,p',v',bs',k',ps,hi,rfl,hp',hQ,hb',hk',hl',hk2,oh⟩;clear o4;have hk2s:ks.length≤2:=by rw[hkl];unfold iM;split<;>(try split)<;>omega
   have hszl:=eB ks i;by_cases hlt:i<ks.length
   ·obtain⟨kx,hkx⟩:=getx hlt
    obtain⟨cx,hcx,hrx⟩:=jF rk hkx
    have hdx:=gJ hkx;have hsz:=kY hkx;have hszl2:=eB ks (i+1);have hlv:=jV hkx;have hlvl:bY kx≤cK ks:=kZ hkx;have hlp:=oZ kx;have hxOK:=gU bks hkx;have hrx2:=hrx
    obtain⟨cxv,hcl⟩:=cx
    obtain⟨xk,xt,xks,xcs,xns,xa,xs_,xg,xo⟩:=kx
    rw[kN]at hrx2
    obtain⟨wk,wc,wn,wz,hcv,g1,g2,gx,g3,_⟩:=hrx2
    obtain⟨h1,h2,rfl⟩:=g1.isS
    obtain⟨h3,h4,rfl⟩:=g2.isS
    obtain⟨h5,h6,rfl⟩:=g3.isS
    dsimp only at hcv hrx;subst hcv;unfold qE at hcx hrx hcl;clear g1 g2 g3;by_cases h0:i=0
    ·subst h0
     refine aCP (fun c400=>?_) (fun hc=>absurd (by omega) hc);refine rR (aCn bV aS (q3.ext oh.ext) rfl (by omega) (by omega) ?_);refine rR (aCp aS (q3.ext oh.ext) (fun y:cX=>y.2) (by decide) rfl ‹_› ?_);(refine aCN oh aS ?_;intro b403 m403 o403);(refine aCf o403 4 rfl aS rfl (by decide) (aI ⟨rfl,rfl⟩ ?_);intro m404 o404);refine aCR ?_;refine aCS [0,1,3,4,7,8,10,11] [5,6] [9] [0,1,3,6,7,8,2,4,5,9,10,11] mixed (by kernel_rfl) rfl (fun _ _ _ _ h=>h) ?_;refine aCg o404 4 rfl aS rfl rfl rfl ?_;refine aCW (by omega) (by omega) ?_;(refine aCM (Own.refl _) aK aL rfl rfl (by decide) (aI rfl ?_);intro b406 m406 o406);(refine aI o406.ext ?_;have o407:=Own.call o404 o406;simp only[lcA,lnA]at o407;clear o406);refine idxB o407 5 rfl aK aL rfl rfl (by omega) (by first|omega|(simp;omega)) ?_;refine aCc o407 5 rfl aL rfl rfl ?_;refine XEnds.callJ [2,3] ‹_› rfl rfl (fun J oj=>hIH _ _ _ [] _ p' v' k' bs' _ (aDk hdx (by omega)) hxOK hrx hp' (.inl rfl) (by omega) hT hF oj (by omega) (by omega)) (fun ps2 p2 v2 bs2 k2 m2 hq2 hp2 hb2 hk2' hl2 _ hj2 oq=>?_) (fun m2 hq2 oq=>?_)
     case refine_2 =>
      have:cZ (dY fZ) ks=none:=aR hkx hQ hq2
      exact⟨hexQ.trans (by split;simp only[this,aJ,oMN];rfl),rfl,oq⟩
     have o5:Own B [box b [p2,v2,.int .i64 k2] 58,row v2 5 1 bs2.length (bytes bs2),box b50 [.int .i64 kd,.string ⟨⟨tb⟩⟩,.slice e3 ks.length f3,.slice e1 cs.length f1,.slice e2 ns.length f2,.string ⟨⟨a⟩⟩,.string ⟨⟨s⟩⟩,.int .i64 g,.int .i64 z] 42,box b201 [.int .i64 0,.string ⟨⟨tb⟩⟩,.slice none 0 0,.slice e1 cs.length f1,.slice e2 ns.length f2,.string ⟨⟨a⟩⟩,.string ⟨⟨s⟩⟩,.int .i64 g,.int .i64 0] 42] m2:=oq;clear oq;refine max2 rfl rfl ?_;refine aCW (by omega) (by omega) ?_
     refine⟨rfl,?_⟩
     refine⟨⟨0+1,p2,v2,bs2,k2,ps++ps2,by omega,?_,hp2,bA hkx hQ hq2,by rw[hb2,hb'];simp[bG],by rw[hk2',hk'];simp;omega,by omega,by omega,Own.sel ‹_› [0,1,2,3] rfl⟩,by simp;omega⟩
     congr 2
     omega
    ·obtain rfl:i=1:=by omega
     refine aCP (fun c500=>?_) (fun hc=>absurd (by omega) hc);refine rR (aCn bV aS (q3.ext oh.ext) rfl (by omega) (by omega) ?_);refine rR (aCp aS (q3.ext oh.ext) (fun y:cX=>y.2) (by decide) rfl ‹_› ?_);(refine aCN oh aS ?_;intro b503 m503 o503);(refine aCf o503 4 rfl aS rfl (by decide) (aI ⟨rfl,rfl⟩ ?_);intro m504 o504);refine aCQ ?_;refine rR (nC rfl ?_);refine rR (fA bO rfl rfl rfl ?_);(refine aCM o504 aK aL rfl rfl (by decide) (aI rfl ?_);intro b507 m507 o507);refine aH [[44]] 1 30 [2,3,4] (i:=5) ‹_› rfl rfl rfl hp' rfl (by omega) (by omega) (by simp) (by omega) (by omega) (fun p3 v3 bs3 k3 m3 hp3 hb3 hk3 hl3 oq=>?_);have o5:=oq
     simp only[pick,lgS,lgZ]at o5
     clear oq oh;refine aCS [0,1,3,4,7,8,10,11] [5,6] [9] [0,1,3,6,7,8,2,4,5,9,10,11] mixed (by kernel_rfl) rfl (fun _ _ _ _ h=>h) ?_;refine aCg o5 4 rfl aS rfl rfl rfl ?_;refine aCW (by omega) (by omega) ?_;(refine aCM (Own.refl _) aK aL rfl rfl (by decide) (aI rfl ?_);intro b551 m551 o551);(refine aI o551.ext ?_;have o552:=Own.call o5 o551;simp only[lcA,lnA]at o552;clear o551);refine idxB o552 5 rfl aK aL rfl rfl (by omega) (by first|omega|(simp;omega)) ?_;refine aCc o552 5 rfl aL rfl rfl ?_;refine XEnds.callJ [2,3] ‹_› rfl rfl (fun J oj=>hIH _ _ _ [32] _ p3 v3 k3 bs3 _ (aDk hdx (by omega)) hxOK hrx hp3 (.inr rfl) (by omega) hT hF oj (by omega) (by omega)) (fun ps2 p2 v2 bs2 k2 m2 hq2 hp2 hb2 hk2' hl2 _ hj2 oq=>?_) (fun m2 hq2 oq=>?_)
     case refine_2 =>
      have:cZ (dY fZ) ks=none:=aR hkx hQ (by unfold dY;rw[if_neg (by decide),hq2];rfl)
      exact⟨hexQ.trans (by split;simp only[this,aJ,oMN];rfl),rfl,oq⟩
     have o6:Own B [box b [p2,v2,.int .i64 k2] 58,row v2 5 1 bs2.length (bytes bs2),box b50 [.int .i64 kd,.string ⟨⟨tb⟩⟩,.slice e3 ks.length f3,.slice e1 cs.length f1,.slice e2 ns.length f2,.string ⟨⟨a⟩⟩,.string ⟨⟨s⟩⟩,.int .i64 g,.int .i64 z] 42,box b201 [.int .i64 0,.string ⟨⟨tb⟩⟩,.slice none 0 0,.slice e1 cs.length f1,.slice e2 ns.length f2,.string ⟨⟨a⟩⟩,.string ⟨⟨s⟩⟩,.int .i64 g,.int .i64 0] 42] m2:=oq;clear oq;refine max2 rfl rfl ?_;refine aCW (by omega) (by omega) ?_
     refine⟨rfl,?_⟩
     refine⟨⟨1+1,p2,v2,bs2,k2,ps++(aO [] [44]::ps2),by omega,?_,hp2,bA hkx hQ (by unfold dY;rw[if_neg (by decide),hq2];rfl),by rw[hb2,hb3,hb'];simp[bG,fL,wr,aO],by rw[hk2',hk3,hk'];simp;omega,by omega,by omega,Own.sel ‹_› [0,1,2,3] rfl⟩,by simp;omega⟩
     congr 2
     omega
   have hQ:=fR (aDt hlt) hQ
   rw[aDm (aDt hlt)]at hl' hk2 ⊢
   by_cases hk2x:kd=2
   ·exact(by omega:False).elim
   by_cases hk3x:kd=3
   ·exact(by omega:False).elim
   by_cases hk7x:kd=7
   ·exact(by omega:False).elim
   by_cases hk8x:kd=8
   ·subst hk8x
    have hB:gD 8 tb cs ns a s g=true↔tb=[]∧cs.length=0:=by simp[gD]
    by_cases hw:withQ ns=true
    case neg =>
     have hR:dT 8 cs ns a s g=none:=by unfold dT;rw[if_neg (by decide),if_neg (by decide),if_neg (by decide),if_pos rfl,if_neg hw]
     cases ns with
     | nil=>exact absurd rfl hw
     | cons n0 nr =>
      have hn0:n0=[119,105,116,104]:=by
       have:withQ (n0::nr)=decide (n0≠[119,105,116,104]):=rfl
       rw[this]at hw
       simpa using hw
      subst hn0;have hq2:dD 1 B.h (.slice e2 (([119,105,116,104]:aBs)::nr).length f2) (([119,105,116,104]:aBs)::nr).length (strs ([119,105,116,104]::nr)):=q2;have hlen:(strs (([119,105,116,104]:aBs)::nr)).length=nr.length+1:=by simp[strs]
      have hh0:(strs (([119,105,116,104]:aBs)::nr))[0]?=some (.string ⟨⟨[119,105,116,104]⟩⟩):=rfl;have hA:=(hq2.ext (Own.ext oh)).to1;have hnz:¬ (((([119,105,116,104]:aBs)::nr).length:Int)=0):=by simp only[aDb];omega
      refine aCP (fun hc=>absurd hc (by omega)) (fun c1760=>?_);refine rR (fA aM rfl rfl rfl ?_);refine rR (aCc oh 2 rfl aT rfl rfl ?_);refine aCR ?_;refine aCR ?_;refine aCR ?_;refine aCR ?_;refine aCQ ?_;refine rR (fA aM rfl rfl rfl ?_);refine rR (aCc oh 2 rfl eV rfl rfl ?_);refine rR (aCk rfl aK ?_);refine aCP (fun hc=>absurd hc (by omega)) (fun c1766=>?_);refine rR (fA aM rfl rfl rfl ?_);refine rR (aCc oh 2 rfl eV rfl rfl ?_);refine rR (idx aK aL hA rfl (by omega) (by omega) ?_);refine rR (aCE hA aL rfl (by first|assumption|rfl) ?_);refine aCh (B:=B) ‹_› (aE _ _) (fun e8 m8 _ oq=>absurd e8 (by decide)) fun e8 m8 oq=>?_
      exact⟨hexQ.trans (by split;simp only[hQ,hR,aJ,oMN,oMS];rfl),rfl,oq⟩
    have hRe:dT 8 cs ns a s g=aJ [some [aD [32] [111,110]],hH aZ [32] ns,some [aD [32] [119,105,116,104]],gB g [[99,111,117,110,116],[115,117,109],[108,101,97,115,116],[103,114,101,97,116,101,115,116]],(if g=1 then(if a=[] then some [] else none) else aZ [32] a),some [aD [32] [97,115]],aZ [32] s]:=by unfold dT;rw[if_neg (by decide),if_neg (by decide),if_neg (by decide),if_pos rfl,if_pos hw]
    by_cases hn0:ns.length=0
    ·refine aCP (fun hc=>absurd hc (by omega)) (fun c1820=>?_)
     refine rR (fA aM rfl rfl rfl ?_);refine rR (aCc oh 2 rfl aT rfl rfl ?_);refine aCR ?_;refine aCR ?_;refine aCR ?_;refine aCR ?_;refine aCQ ?_;refine rR (fA aM rfl rfl rfl ?_);refine rR (aCc oh 2 rfl eV rfl rfl ?_);refine rR (aCk rfl aK ?_);refine aCP (fun c1826=>?_) (fun hc=>absurd (by omega) hc);refine aCh (B:=B) ‹_› (aE _ _) (fun e8 m8 _ oq=>?_) fun e8 m8 oq=>absurd e8 (by decide);clear oh e8;have oh:Own B [box b [p',v',.int .i64 k'] 58,row v' 5 1 bs'.length (bytes bs'),box b50 [.int .i64 8,.string ⟨⟨tb⟩⟩,.slice e3 ks.length f3,.slice e1 cs.length f1,.slice e2 ns.length f2,.string ⟨⟨a⟩⟩,.string ⟨⟨s⟩⟩,.int .i64 g,.int .i64 z] 42,box b201 [.int .i64 0,.string ⟨⟨tb⟩⟩,.slice none 0 0,.slice e1 cs.length f1,.slice e2 ns.length f2,.string ⟨⟨a⟩⟩,.string ⟨⟨s⟩⟩,.int .i64 g,.int .i64 0] 42] m8:=oq;clear oq;refine rR (nC rfl ?_);refine rR (fA bO rfl rfl rfl ?_);(refine aCM oh aK aL rfl rfl (by decide) (aI rfl ?_);intro b1882 m1882 o1882);refine aH [[32,111,110]] 1 30 [2,3] (i:=4) ‹_› rfl rfl rfl hp' rfl (by omega) (by omega) (by simp) (by omega) (by omega) (fun p2 v2 bs2 k2 m2 hp2 hb2 hk2' hl2 oq=>?_);have o6:Own B [box b [p2,v2,.int .i64 k2] 58,row v2 5 1 bs2.length (bytes bs2),box b50 [.int .i64 8,.string ⟨⟨tb⟩⟩,.slice e3 ks.length f3,.slice e1 cs.length f1,.slice e2 ns.length f2,.string ⟨⟨a⟩⟩,.string ⟨⟨s⟩⟩,.int .i64 g,.int .i64 z] 42,box b201 [.int .i64 0,.string ⟨⟨tb⟩⟩,.slice none 0 0,.slice e1 cs.length f1,.slice e2 ns.length f2,.string ⟨⟨a⟩⟩,.string ⟨⟨s⟩⟩,.int .i64 g,.int .i64 0] 42] m2:=oq
     clear oq oh;refine rR (fA aM rfl rfl rfl ?_);refine rR (aCc o6 2 rfl eV rfl rfl ?_);refine WEnds.callJ [2,3] ‹_› rfl rfl (fun J oj=>mO ⟨B.h,J++B.T⟩ b p2 v2 k2 bs2 [32] ns _ _ hp2 (fun L h o=>(q2.ext (Own.ext (B:=⟨B.h,J++B.T⟩) o)).to1) oj (by omega) bns (by omega) (by omega) (.inr rfl)) (fun ps3 p3 v3 bs3 k3 m3 hq3 hp3 hb3 hk3' hl3 _ hj3 oq=>?_) (fun m3 hq3 oq=>?_)
     case refine_2 =>
      have hR:dT 8 cs ns a s g=none:=by rw[hRe];simp only[hq3,aJ,oMN]
      exact⟨hexQ.trans (by split;simp only[hQ,hR,aJ,oMN,oMS];rfl),rfl,oq⟩
     have o7:Own B [box b [p3,v3,.int .i64 k3] 58,row v3 5 1 bs3.length (bytes bs3),box b50 [.int .i64 8,.string ⟨⟨tb⟩⟩,.slice e3 ks.length f3,.slice e1 cs.length f1,.slice e2 ns.length f2,.string ⟨⟨a⟩⟩,.string ⟨⟨s⟩⟩,.int .i64 g,.int .i64 z] 42,box b201 [.int .i64 0,.string ⟨⟨tb⟩⟩,.slice none 0 0,.slice e1 cs.length f1,.slice e2 ns.length f2,.string ⟨⟨a⟩⟩,.string ⟨⟨s⟩⟩,.int .i64 g,.int .i64 0] 42] m3:=oq;clear oq o6;refine aCS [0,1,2,3] [4] [6,7,8] [0,1,2,3,4,5,6,7,8] mixed (by kernel_rfl) rfl (fun _ _ _ _ h=>h) ?_;refine nC rfl ?_;refine fA bO rfl rfl rfl ?_;refine fA aM rfl rfl rfl ?_;refine aCc o7 2 rfl aT rfl rfl ?_;(refine aCM (Own.refl _) aK aL rfl rfl (by decide) (aI rfl ?_);intro b2004 m2004 o2004);(refine aI o2004.ext ?_;have o2005:=Own.call o7 o2004;simp only[lcA,lnA]at o2005;clear o2004);refine aCh (B:=B) ‹_› (dO _ [[99,111,117,110,116],[115,117,109],[108,101,97,115,116],[103,114,101,97,116,101,115,116]] _ _ (by omega) (by omega) (Own.boxArr ‹_› 4 rfl rfl (by decide)) (by simp) (by simp)) (fun e4 m4 _ oq=>?_) fun e4 m4 oq=>?_
     case refine_2 =>
      have e4:=of_decide_eq_false e4;have hR:dT 8 cs ns a s g=none:=by rw[hRe];simp only[hq3,show gB g [[99,111,117,110,116],[115,117,109],[108,101,97,115,116],[103,114,101,97,116,101,115,116]]=none from if_neg e4,aJ,oMN]
      exact⟨hexQ.trans (by split;simp only[hQ,hR,aJ,oMN,oMS];rfl),rfl,oq⟩
     have e4:=of_decide_eq_true e4;have hq4:gB g [[99,111,117,110,116],[115,117,109],[108,101,97,115,116],[103,114,101,97,116,101,115,116]]=some [aD [32] (([[99,111,117,110,116],[115,117,109],[108,101,97,115,116],[103,114,101,97,116,101,115,116]]:List aBs).getD (g - 1).toNat [])]:=if_pos e4;have hg4:1≤g∧g≤4:=e4;have hwl:(([[99,111,117,110,116],[115,117,109],[108,101,97,115,116],[103,114,101,97,116,101,115,116]]:List aBs).getD (g - 1).toNat []).length≤8:=by
      have:g=1∨g=2∨g=3∨g=4:=by omega
      rcases this with h|h|h|h<;>rw[h]<;>decide
     generalize (([[99,111,117,110,116],[115,117,109],[108,101,97,115,116],[103,114,101,97,116,101,115,116]]:List aBs).getD (g - 1).toNat [])=agw at hq4 hwl
     clear o7;(refine aCM oq aK aL rfl rfl (by decide) (aI rfl ?_);intro b2060 m2060 o2060);refine aH [[32,119,105,116,104],32::agw] 2 30 [2,3] (i:=5) ‹_› rfl rfl rfl hp3 rfl (by omega) (by omega) (by simp;omega) (by omega) (by omega) (fun p5 v5 bs5 k5 m5 hp5 hb5 hk5 hl5 oq=>?_);have o8:Own B [box b [p5,v5,.int .i64 k5] 58,row v5 5 1 bs5.length (bytes bs5),box b50 [.int .i64 8,.string ⟨⟨tb⟩⟩,.slice e3 ks.length f3,.slice e1 cs.length f1,.slice e2 ns.length f2,.string ⟨⟨a⟩⟩,.string ⟨⟨s⟩⟩,.int .i64 g,.int .i64 z] 42,box b201 [.int .i64 0,.string ⟨⟨tb⟩⟩,.slice none 0 0,.slice e1 cs.length f1,.slice e2 ns.length f2,.string ⟨⟨a⟩⟩,.string ⟨⟨s⟩⟩,.int .i64 g,.int .i64 0] 42] m5:=oq;clear oq;by_cases hg1:g=1
     ·by_cases ha0:a=[]
      case neg =>
       have hR:dT 8 cs ns a s g=none:=by rw[hRe];simp only[hq3,hq4,if_pos hg1,if_neg ha0,aJ,oMN]
       refine rR (fA aM rfl rfl rfl ?_);refine rR (aCc o8 2 rfl aT rfl rfl ?_);refine aCP (fun c2122=>?_) (fun hc=>absurd (by omega) hc);refine rR (fA aM rfl rfl rfl ?_);refine rR (aCc o8 2 rfl aL rfl rfl ?_);refine aCh (B:=B) ‹_› (aE _ _) (fun e6 m6 _ oq=>absurd (of_decide_eq_true e6) ha0) fun e6 m6 oq=>?_
       exact⟨hexQ.trans (by split;simp only[hQ,hR,aJ,oMN,oMS];rfl),rfl,oq⟩
      refine rR (fA aM rfl rfl rfl ?_);refine rR (aCc o8 2 rfl aT rfl rfl ?_);refine aCP (fun c2182=>?_) (fun hc=>absurd (by omega) hc);refine rR (fA aM rfl rfl rfl ?_);refine rR (aCc o8 2 rfl aL rfl rfl ?_);refine aCh (B:=B) ‹_› (aE _ _) (fun e6 m6 _ oq=>?_) fun e6 m6 oq=>absurd ha0 (of_decide_eq_false e6);clear o8;refine aCS [0,1,2,3,6] [4] [5,7,8] [0,1,2,3,4,5,6,7,8] mixed (by kernel_rfl) rfl (fun _ _ _ _ h=>h) ?_;refine nC rfl ?_;refine fA bO rfl rfl rfl ?_;refine fA aM rfl rfl rfl ?_;refine aCc oq 2 rfl aL rfl rfl ?_;refine aCh (B:=B) ‹_› (bJ s _ bs_) (fun es mes oces oq=>?_) fun es mes oq=>?_
      case refine_2 =>
       have hR:dT 8 cs ns a s g=none:=by rw[hRe];simp only[hq3,hq4,if_pos hg1,if_pos ha0,cS es,aJ,oMN]
       exact⟨hexQ.trans (by split;simp only[hQ,hR,aJ,oMN,oMS];rfl),rfl,oq⟩
      have hnles:=cR es;clear oces;refine aCm rfl rfl (by first|omega|(simp;omega)) ?_;(refine aCM oq aK aL rfl rfl (by decide) (aI rfl ?_);intro b2301 m2301 o2301);refine aH [[32,97,115],[32]++s] 2 30 [2,3] (i:=4) ‹_› rfl rfl rfl hp5 rfl (by omega) (by omega) (by simp;omega) (by omega) (by omega) (fun p7 v7 bs7 k7 m7 hp7 hb7 hk7' hl7 oq=>?_);have o10:Own B [box b [p7,v7,.int .i64 k7] 58,row v7 5 1 bs7.length (bytes bs7),box b50 [.int .i64 8,.string ⟨⟨tb⟩⟩,.slice e3 ks.length f3,.slice e1 cs.length f1,.slice e2 ns.length f2,.string ⟨⟨a⟩⟩,.string ⟨⟨s⟩⟩,.int .i64 g,.int .i64 z] 42,box b201 [.int .i64 0,.string ⟨⟨tb⟩⟩,.slice none 0 0,.slice e1 cs.length f1,.slice e2 ns.length f2,.string ⟨⟨a⟩⟩,.string ⟨⟨s⟩⟩,.int .i64 g,.int .i64 0] 42] m7:=oq;clear oq;have hR:dT 8 cs ns a s g=some ([aD [32] [111,110]]++(ps3++([aD [32] [119,105,116,104]]++([aD [32] agw]++([]++([aD [32] [97,115]]++([aD [32] s]++[]))))))):=by rw[hRe];simp only[hq3,hq4,if_pos hg1,if_pos ha0,aA es,aJ,oMS]
      refine rR (fA aM rfl rfl rfl ?_);(refine aCL o10 3 rfl eV rfl (by simp) (aI ⟨rfl,rfl⟩ ?_);intro m2361 o2361);refine rR (fA aM rfl rfl rfl ?_);(refine aCL o2361 3 rfl aL rfl (by simp) (aI ⟨rfl,rfl⟩ ?_);intro m2363 o2363);refine rR (fA aM rfl rfl rfl ?_);(refine aCL o2363 3 rfl aL rfl (by simp) (aI ⟨rfl,rfl⟩ ?_);intro m2365 o2365);refine rR (fA aM rfl rfl rfl ?_);(refine aCL o2365 3 rfl aT rfl (by simp) (aI ⟨rfl,rfl⟩ ?_);intro m2367 o2367);refine rR (fA aM rfl rfl rfl ?_);refine rR (aCc o2367 2 rfl aT rfl rfl ?_);refine aCQ ?_;refine rR (nC rfl ?_);refine rR (fA bO rfl rfl rfl ?_);(refine aCM o2367 aK aL rfl rfl (by decide) (aI rfl ?_);intro b2372 m2372 o2372);refine aH [[41]] 1 30 [2,3] (i:=4) ‹_› rfl rfl rfl hp7 rfl (by omega) (by omega) (by simp) (by omega) (by omega) (fun p9 v9 bs9 k9 m9 hp9 hb9 hk9 hl9 oq=>?_);have o9:Own B [box b [p9,v9,.int .i64 k9] 58,row v9 5 1 bs9.length (bytes bs9),box b50 [.int .i64 8,.string ⟨⟨tb⟩⟩,.slice e3 ks.length f3,.slice e1 cs.length f1,.slice e2 ns.length f2,.string ⟨⟨a⟩⟩,.string ⟨⟨s⟩⟩,.int .i64 g,.int .i64 z] 42,box b201 [.int .i64 0,.string ⟨⟨tb⟩⟩,.slice none 0 0,.slice e1 cs.length f1,.slice none 0 0,.string ⟨⟨[]⟩⟩,.string ⟨⟨[]⟩⟩,.int .i64 0,.int .i64 0] 42] m9:=oq;clear oq;refine rR (fA aM rfl rfl rfl ?_);refine rR (aCc o9 3 rfl aL rfl rfl ?_);refine aCP (fun c2422=>?_) (fun c2422=>?_);refine rR (fA aM rfl rfl rfl ?_);refine rR (aCc o9 3 rfl mL rfl rfl ?_);refine rR (aCk rfl jA ?_);refine aCP (fun c2426=>?_) (fun c2426=>?_);refine rR (fA aM rfl rfl rfl ?_)
      refine rR (aCc o9 3 rfl eV rfl rfl ?_);refine rR (aCk rfl aK ?_);refine aCQ ?_;refine rR (fA aM rfl rfl rfl ?_);refine rR (aCc o9 3 rfl aL rfl rfl ?_);refine aCQ ?_;refine rR (fA aM rfl rfl rfl ?_);refine rR (aCc o9 3 rfl aL rfl rfl ?_);refine aCQ ?_;refine rR (fA aM rfl rfl rfl ?_);refine rR (aCc o9 3 rfl aT rfl rfl ?_)
      any_goals (refine aCh (B:=B) ‹_› (aE false _) (fun e8 m8 _ oq=>by cases e8) fun e8 m8 oq=>?_;exact⟨hexQ.trans (if_neg fun hb=>by obtain⟨x0,x1⟩:=hB.1 hb;first|contradiction|omega),rfl,oq⟩)
      refine aCh (B:=B) ‹_› (aE _ _) (fun e8 m8 _ oq=>?_) fun e8 m8 oq=>?_
      case refine_2 =>
       exact absurd e8 (by decide)
      have hbare:=hB.2 ⟨by assumption,by omega⟩;refine aCX rfl ?_;exact XEnds.done (ps:=[aD be opw,aO [] [40]]++(ps++(([aD [32] [111,110]]++(ps3++([aD [32] [119,105,116,104]]++([aD [32] agw]++([]++([aD [32] [97,115]]++([aD [32] s]++[])))))))++([aO [] [41]]++[])))) (hexQ.trans (by rw[if_pos hbare];simp only[hQ,hR,aJ,oMS])) (oq.sel [0,1] rfl) hp9 (by rw[hb9,hb7,hb5,hb3,hb2,hb',hb1];simp[bG,fL,wr,aD,aO]) (by rw[hk9,hk7',hk5,hk3',hk2',hk',hk1];simp;omega) (by omega) (by omega)
     ·refine rR (fA aM rfl rfl rfl ?_)
      refine rR (aCc o8 2 rfl aT rfl rfl ?_);refine aCP (fun hc=>absurd hc (by omega)) (fun c2542=>?_);refine aCS [0,1,2,3,6] [4] [5,7,8] [0,1,2,3,4,5,6,7,8] mixed (by kernel_rfl) rfl (fun _ _ _ _ h=>h) ?_;refine nC rfl ?_;refine fA bO rfl rfl rfl ?_;refine fA aM rfl rfl rfl ?_;refine aCc o8 2 rfl aL rfl rfl ?_;refine aCh (B:=B) ‹_› (bJ a _ ba) (fun ea mea ocea oq=>?_) fun ea mea oq=>?_
      case refine_2 =>
       have hR:dT 8 cs ns a s g=none:=by rw[hRe];simp only[hq3,hq4,if_neg hg1,cS ea,aJ,oMN]
       exact⟨hexQ.trans (by split;simp only[hQ,hR,aJ,oMN,oMS];rfl),rfl,oq⟩
      have hnlea:=cR ea;clear ocea o8;refine aCm rfl rfl (by first|omega|(simp;omega)) ?_;(refine aCM oq aK aL rfl rfl (by decide) (aI rfl ?_);intro b2601 m2601 o2601);refine aH [[32]++a] 1 30 [2,3] (i:=4) ‹_› rfl rfl rfl hp5 rfl (by omega) (by omega) (by simp;omega) (by omega) (by omega) (fun p6 v6 bs6 k6 m6 hp6 hb6 hk6' hl6 oq=>?_);have o10:Own B [box b [p6,v6,.int .i64 k6] 58,row v6 5 1 bs6.length (bytes bs6),box b50 [.int .i64 8,.string ⟨⟨tb⟩⟩,.slice e3 ks.length f3,.slice e1 cs.length f1,.slice e2 ns.length f2,.string ⟨⟨a⟩⟩,.string ⟨⟨s⟩⟩,.int .i64 g,.int .i64 z] 42,box b201 [.int .i64 0,.string ⟨⟨tb⟩⟩,.slice none 0 0,.slice e1 cs.length f1,.slice e2 ns.length f2,.string ⟨⟨a⟩⟩,.string ⟨⟨s⟩⟩,.int .i64 g,.int .i64 0] 42] m6:=oq;clear oq;refine aCS [0,1,2,3,6] [4] [5,7,8] [0,1,2,3,4,5,6,7,8] mixed (by kernel_rfl) rfl (fun _ _ _ _ h=>h) ?_;refine nC rfl ?_;refine fA bO rfl rfl rfl ?_;refine fA aM rfl rfl rfl ?_;refine aCc o10 2 rfl aL rfl rfl ?_;refine aCh (B:=B) ‹_› (bJ s _ bs_) (fun es mes oces oq=>?_) fun es mes oq=>?_
      case refine_2 =>
       have hR:dT 8 cs ns a s g=none:=by rw[hRe];simp only[hq3,hq4,if_neg hg1,aA ea,cS es,aJ,oMN]
       exact⟨hexQ.trans (by split;simp only[hQ,hR,aJ,oMN,oMS];rfl),rfl,oq⟩
      have hnles:=cR es;clear oces o10;refine aCm rfl rfl (by first|omega|(simp;omega)) ?_;(refine aCM oq aK aL rfl rfl (by decide) (aI rfl ?_);intro b2721 m2721 o2721);refine aH [[32,97,115],[32]++s] 2 30 [2,3] (i:=4) ‹_› rfl rfl rfl hp6 rfl (by omega) (by omega) (by simp;omega) (by omega) (by omega) (fun p7 v7 bs7 k7 m7 hp7 hb7 hk7' hl7 oq=>?_);have o11:Own B [box b [p7,v7,.int .i64 k7] 58,row v7 5 1 bs7.length (bytes bs7),box b50 [.int .i64 8,.string ⟨⟨tb⟩⟩,.slice e3 ks.length f3,.slice e1 cs.length f1,.slice e2 ns.length f2,.string ⟨⟨a⟩⟩,.string ⟨⟨s⟩⟩,.int .i64 g,.int .i64 z] 42,box b201 [.int .i64 0,.string ⟨⟨tb⟩⟩,.slice none 0 0,.slice e1 cs.length f1,.slice e2 ns.length f2,.string ⟨⟨a⟩⟩,.string ⟨⟨s⟩⟩,.int .i64 g,.int .i64 0] 42] m7:=oq;clear oq;have hR:dT 8 cs ns a s g=some ([aD [32] [111,110]]++(ps3++([aD [32] [119,105,116,104]]++([aD [32] agw]++([aD [32] a]++([aD [32] [97,115]]++([aD [32] s]++[]))))))):=by rw[hRe];simp only[hq3,hq4,if_neg hg1,aA ea,aA es,aJ,oMS]
      refine rR (fA aM rfl rfl rfl ?_);(refine aCL o11 3 rfl eV rfl (by simp) (aI ⟨rfl,rfl⟩ ?_);intro m2781 o2781);refine rR (fA aM rfl rfl rfl ?_);(refine aCL o2781 3 rfl aL rfl (by simp) (aI ⟨rfl,rfl⟩ ?_);intro m2783 o2783);refine rR (fA aM rfl rfl rfl ?_);(refine aCL o2783 3 rfl aL rfl (by simp) (aI ⟨rfl,rfl⟩ ?_);intro m2785 o2785);refine rR (fA aM rfl rfl rfl ?_);(refine aCL o2785 3 rfl aT rfl (by simp) (aI ⟨rfl,rfl⟩ ?_);intro m2787 o2787);refine rR (fA aM rfl rfl rfl ?_);refine rR (aCc o2787 2 rfl aT rfl rfl ?_);refine aCQ ?_;refine rR (nC rfl ?_);refine rR (fA bO rfl rfl rfl ?_);(refine aCM o2787 aK aL rfl rfl (by decide) (aI rfl ?_);intro b2792 m2792 o2792);refine aH [[41]] 1 30 [2,3] (i:=4) ‹_› rfl rfl rfl hp7 rfl (by omega) (by omega) (by simp) (by omega) (by omega) (fun p9 v9 bs9 k9 m9 hp9 hb9 hk9 hl9 oq=>?_);have o9:Own B [box b [p9,v9,.int .i64 k9] 58,row v9 5 1 bs9.length (bytes bs9),box b50 [.int .i64 8,.string ⟨⟨tb⟩⟩,.slice e3 ks.length f3,.slice e1 cs.length f1,.slice e2 ns.length f2,.string ⟨⟨a⟩⟩,.string ⟨⟨s⟩⟩,.int .i64 g,.int .i64 z] 42,box b201 [.int .i64 0,.string ⟨⟨tb⟩⟩,.slice none 0 0,.slice e1 cs.length f1,.slice none 0 0,.string ⟨⟨[]⟩⟩,.string ⟨⟨[]⟩⟩,.int .i64 0,.int .i64 0] 42] m9:=oq;clear oq;refine rR (fA aM rfl rfl rfl ?_);refine rR (aCc o9 3 rfl aL rfl rfl ?_);refine aCP (fun c2842=>?_) (fun c2842=>?_);refine rR (fA aM rfl rfl rfl ?_);refine rR (aCc o9 3 rfl mL rfl rfl ?_);refine rR (aCk rfl jA ?_);refine aCP (fun c2846=>?_) (fun c2846=>?_);refine rR (fA aM rfl rfl rfl ?_)
      refine rR (aCc o9 3 rfl eV rfl rfl ?_);refine rR (aCk rfl aK ?_);refine aCQ ?_;refine rR (fA aM rfl rfl rfl ?_);refine rR (aCc o9 3 rfl aL rfl rfl ?_);refine aCQ ?_;refine rR (fA aM rfl rfl rfl ?_);refine rR (aCc o9 3 rfl aL rfl rfl ?_);refine aCQ ?_;refine rR (fA aM rfl rfl rfl ?_);refine rR (aCc o9 3 rfl aT rfl rfl ?_)
      any_goals (refine aCh (B:=B) ‹_› (aE false _) (fun e8 m8 _ oq=>by cases e8) fun e8 m8 oq=>?_;exact⟨hexQ.trans (if_neg fun hb=>by obtain⟨x0,x1⟩:=hB.1 hb;first|contradiction|omega),rfl,oq⟩)
      refine aCh (B:=B) ‹_› (aE _ _) (fun e8 m8 _ oq=>?_) fun e8 m8 oq=>?_
      case refine_2 =>
       exact absurd e8 (by decide)
      have hbare:=hB.2 ⟨by assumption,by omega⟩;refine aCX rfl ?_;exact XEnds.done (ps:=[aD be opw,aO [] [40]]++(ps++(([aD [32] [111,110]]++(ps3++([aD [32] [119,105,116,104]]++([aD [32] agw]++([aD [32] a]++([aD [32] [97,115]]++([aD [32] s]++[])))))))++([aO [] [41]]++[])))) (hexQ.trans (by rw[if_pos hbare];simp only[hQ,hR,aJ,oMS])) (oq.sel [0,1] rfl) hp9 (by rw[hb9,hb7,hb6,hb5,hb3,hb2,hb',hb1];simp[bG,fL,wr,aD,aO]) (by rw[hk9,hk7',hk6',hk5,hk3',hk2',hk',hk1];simp;omega) (by omega) (by omega)
    ·obtain⟨n0,hn1⟩:=getx (l:=ns) (i:=0) (by omega)
     have hne:¬ n0=[119,105,116,104]:=by
      cases ns with
      | nil=>simp at hn1
      | cons y r =>
       simp at hn1
       subst hn1;exact of_decide_eq_true hw
     have hlen:(strs ns).length=ns.length:=by simp[strs]
     have hh0:(strs ns)[0]?=some (.string ⟨⟨n0⟩⟩):=by simp[strs,hn1]
     have hA:=(q2.ext (Own.ext oh)).to1;refine aCP (fun hc=>absurd hc (by omega)) (fun c2960=>?_);refine rR (fA aM rfl rfl rfl ?_);refine rR (aCc oh 2 rfl aT rfl rfl ?_);refine aCR ?_;refine aCR ?_;refine aCR ?_;refine aCR ?_;refine aCQ ?_;refine rR (fA aM rfl rfl rfl ?_);refine rR (aCc oh 2 rfl eV rfl rfl ?_);refine rR (aCk rfl aK ?_);refine aCP (fun hc=>absurd hc (by omega)) (fun c2966=>?_);refine rR (fA aM rfl rfl rfl ?_);refine rR (aCc oh 2 rfl eV rfl rfl ?_);refine rR (idx aK aL hA rfl (by omega) (by omega) ?_);refine rR (aCE hA aL rfl (by first|assumption|rfl) ?_);refine aCh (B:=B) ‹_› (aE _ _) (fun e8 m8 _ oq=>?_) fun e8 m8 oq=>absurd e8 (by simp[hne]);clear oh e8 hA;have oh:Own B [box b [p',v',.int .i64 k'] 58,row v' 5 1 bs'.length (bytes bs'),box b50 [.int .i64 8,.string ⟨⟨tb⟩⟩,.slice e3 ks.length f3,.slice e1 cs.length f1,.slice e2 ns.length f2,.string ⟨⟨a⟩⟩,.string ⟨⟨s⟩⟩,.int .i64 g,.int .i64 z] 42,box b201 [.int .i64 0,.string ⟨⟨tb⟩⟩,.slice none 0 0,.slice e1 cs.length f1,.slice e2 ns.length f2,.string ⟨⟨a⟩⟩,.string ⟨⟨s⟩⟩,.int .i64 g,.int .i64 0] 42] m8:=oq;clear oq;refine rR (nC rfl ?_);refine rR (fA bO rfl rfl rfl ?_);(refine aCM oh aK aL rfl rfl (by decide) (aI rfl ?_);intro b3022 m3022 o3022);refine aH [[32,111,110]] 1 30 [2,3] (i:=4) ‹_› rfl rfl rfl hp' rfl (by omega) (by omega) (by simp) (by omega) (by omega) (fun p2 v2 bs2 k2 m2 hp2 hb2 hk2' hl2 oq=>?_);have o6:Own B [box b [p2,v2,.int .i64 k2] 58,row v2 5 1 bs2.length (bytes bs2),box b50 [.int .i64 8,.string ⟨⟨tb⟩⟩,.slice e3 ks.length f3,.slice e1 cs.length f1,.slice e2 ns.length f2,.string ⟨⟨a⟩⟩,.string ⟨⟨s⟩⟩,.int .i64 g,.int .i64 z] 42,box b201 [.int .i64 0,.string ⟨⟨tb⟩⟩,.slice none 0 0,.slice e1 cs.length f1,.slice e2 ns.length f2,.string ⟨⟨a⟩⟩,.string ⟨⟨s⟩⟩,.int .i64 g,.int .i64 0] 42] m2:=oq
     clear oq oh;refine rR (fA aM rfl rfl rfl ?_);refine rR (aCc o6 2 rfl eV rfl rfl ?_);refine WEnds.callJ [2,3] ‹_› rfl rfl (fun J oj=>mO ⟨B.h,J++B.T⟩ b p2 v2 k2 bs2 [32] ns _ _ hp2 (fun L h o=>(q2.ext (Own.ext (B:=⟨B.h,J++B.T⟩) o)).to1) oj (by omega) bns (by omega) (by omega) (.inr rfl)) (fun ps3 p3 v3 bs3 k3 m3 hq3 hp3 hb3 hk3' hl3 _ hj3 oq=>?_) (fun m3 hq3 oq=>?_)
     case refine_2 =>
      have hR:dT 8 cs ns a s g=none:=by rw[hRe];simp only[hq3,aJ,oMN]
      exact⟨hexQ.trans (by split;simp only[hQ,hR,aJ,oMN,oMS];rfl),rfl,oq⟩
     have o7:Own B [box b [p3,v3,.int .i64 k3] 58,row v3 5 1 bs3.length (bytes bs3),box b50 [.int .i64 8,.string ⟨⟨tb⟩⟩,.slice e3 ks.length f3,.slice e1 cs.length f1,.slice e2 ns.length f2,.string ⟨⟨a⟩⟩,.string ⟨⟨s⟩⟩,.int .i64 g,.int .i64 z] 42,box b201 [.int .i64 0,.string ⟨⟨tb⟩⟩,.slice none 0 0,.slice e1 cs.length f1,.slice e2 ns.length f2,.string ⟨⟨a⟩⟩,.string ⟨⟨s⟩⟩,.int .i64 g,.int .i64 0] 42] m3:=oq;clear oq o6;refine aCS [0,1,2,3] [4] [6,7,8] [0,1,2,3,4,5,6,7,8] mixed (by kernel_rfl) rfl (fun _ _ _ _ h=>h) ?_;refine nC rfl ?_;refine fA bO rfl rfl rfl ?_;refine fA aM rfl rfl rfl ?_;refine aCc o7 2 rfl aT rfl rfl ?_;(refine aCM (Own.refl _) aK aL rfl rfl (by decide) (aI rfl ?_);intro b3144 m3144 o3144);(refine aI o3144.ext ?_;have o3145:=Own.call o7 o3144;simp only[lcA,lnA]at o3145;clear o3144);refine aCh (B:=B) ‹_› (dO _ [[99,111,117,110,116],[115,117,109],[108,101,97,115,116],[103,114,101,97,116,101,115,116]] _ _ (by omega) (by omega) (Own.boxArr ‹_› 4 rfl rfl (by decide)) (by simp) (by simp)) (fun e4 m4 _ oq=>?_) fun e4 m4 oq=>?_
     case refine_2 =>
      have e4:=of_decide_eq_false e4;have hR:dT 8 cs ns a s g=none:=by rw[hRe];simp only[hq3,show gB g [[99,111,117,110,116],[115,117,109],[108,101,97,115,116],[103,114,101,97,116,101,115,116]]=none from if_neg e4,aJ,oMN]
      exact⟨hexQ.trans (by split;simp only[hQ,hR,aJ,oMN,oMS];rfl),rfl,oq⟩
     have e4:=of_decide_eq_true e4;have hq4:gB g [[99,111,117,110,116],[115,117,109],[108,101,97,115,116],[103,114,101,97,116,101,115,116]]=some [aD [32] (([[99,111,117,110,116],[115,117,109],[108,101,97,115,116],[103,114,101,97,116,101,115,116]]:List aBs).getD (g - 1).toNat [])]:=if_pos e4;have hg4:1≤g∧g≤4:=e4;have hwl:(([[99,111,117,110,116],[115,117,109],[108,101,97,115,116],[103,114,101,97,116,101,115,116]]:List aBs).getD (g - 1).toNat []).length≤8:=by
      have:g=1∨g=2∨g=3∨g=4:=by omega
      rcases this with h|h|h|h<;>rw[h]<;>decide
     generalize (([[99,111,117,110,116],[115,117,109],[108,101,97,115,116],[103,114,101,97,116,101,115,116]]:List aBs).getD (g - 1).toNat [])=agw at hq4 hwl
     clear o7;(refine aCM oq aK aL rfl rfl (by decide) (aI rfl ?_);intro b3200 m3200 o3200);refine aH [[32,119,105,116,104],32::agw] 2 30 [2,3] (i:=5) ‹_› rfl rfl rfl hp3 rfl (by omega) (by omega) (by simp;omega) (by omega) (by omega) (fun p5 v5 bs5 k5 m5 hp5 hb5 hk5 hl5 oq=>?_);have o8:Own B [box b [p5,v5,.int .i64 k5] 58,row v5 5 1 bs5.length (bytes bs5),box b50 [.int .i64 8,.string ⟨⟨tb⟩⟩,.slice e3 ks.length f3,.slice e1 cs.length f1,.slice e2 ns.length f2,.string ⟨⟨a⟩⟩,.string ⟨⟨s⟩⟩,.int .i64 g,.int .i64 z] 42,box b201 [.int .i64 0,.string ⟨⟨tb⟩⟩,.slice none 0 0,.slice e1 cs.length f1,.slice e2 ns.length f2,.string ⟨⟨a⟩⟩,.string ⟨⟨s⟩⟩,.int .i64 g,.int .i64 0] 42] m5:=oq;clear oq;by_cases hg1:g=1
     ·by_cases ha0:a=[]
      case neg =>
       have hR:dT 8 cs ns a s g=none:=by rw[hRe];simp only[hq3,hq4,if_pos hg1,if_neg ha0,aJ,oMN]
       refine rR (fA aM rfl rfl rfl ?_);refine rR (aCc o8 2 rfl aT rfl rfl ?_);refine aCP (fun c3262=>?_) (fun hc=>absurd (by omega) hc);refine rR (fA aM rfl rfl rfl ?_);refine rR (aCc o8 2 rfl aL rfl rfl ?_);refine aCh (B:=B) ‹_› (aE _ _) (fun e6 m6 _ oq=>absurd (of_decide_eq_true e6) ha0) fun e6 m6 oq=>?_
       exact⟨hexQ.trans (by split;simp only[hQ,hR,aJ,oMN,oMS];rfl),rfl,oq⟩
      refine rR (fA aM rfl rfl rfl ?_);refine rR (aCc o8 2 rfl aT rfl rfl ?_);refine aCP (fun c3322=>?_) (fun hc=>absurd (by omega) hc);refine rR (fA aM rfl rfl rfl ?_);refine rR (aCc o8 2 rfl aL rfl rfl ?_);refine aCh (B:=B) ‹_› (aE _ _) (fun e6 m6 _ oq=>?_) fun e6 m6 oq=>absurd ha0 (of_decide_eq_false e6);clear o8;refine aCS [0,1,2,3,6] [4] [5,7,8] [0,1,2,3,4,5,6,7,8] mixed (by kernel_rfl) rfl (fun _ _ _ _ h=>h) ?_;refine nC rfl ?_;refine fA bO rfl rfl rfl ?_;refine fA aM rfl rfl rfl ?_;refine aCc oq 2 rfl aL rfl rfl ?_;refine aCh (B:=B) ‹_› (bJ s _ bs_) (fun es mes oces oq=>?_) fun es mes oq=>?_
      case refine_2 =>
       have hR:dT 8 cs ns a s g=none:=by rw[hRe];simp only[hq3,hq4,if_pos hg1,if_pos ha0,cS es,aJ,oMN]
       exact⟨hexQ.trans (by split;simp only[hQ,hR,aJ,oMN,oMS];rfl),rfl,oq⟩
      have hnles:=cR es;clear oces;refine aCm rfl rfl (by first|omega|(simp;omega)) ?_;(refine aCM oq aK aL rfl rfl (by decide) (aI rfl ?_);intro b3441 m3441 o3441);refine aH [[32,97,115],[32]++s] 2 30 [2,3] (i:=4) ‹_› rfl rfl rfl hp5 rfl (by omega) (by omega) (by simp;omega) (by omega) (by omega) (fun p7 v7 bs7 k7 m7 hp7 hb7 hk7' hl7 oq=>?_);have o10:Own B [box b [p7,v7,.int .i64 k7] 58,row v7 5 1 bs7.length (bytes bs7),box b50 [.int .i64 8,.string ⟨⟨tb⟩⟩,.slice e3 ks.length f3,.slice e1 cs.length f1,.slice e2 ns.length f2,.string ⟨⟨a⟩⟩,.string ⟨⟨s⟩⟩,.int .i64 g,.int .i64 z] 42,box b201 [.int .i64 0,.string ⟨⟨tb⟩⟩,.slice none 0 0,.slice e1 cs.length f1,.slice e2 ns.length f2,.string ⟨⟨a⟩⟩,.string ⟨⟨s⟩⟩,.int .i64 g,.int .i64 0] 42] m7:=oq;clear oq;have hR:dT 8 cs ns a s g=some ([aD [32] [111,110]]++(ps3++([aD [32] [119,105,116,104]]++([aD [32] agw]++([]++([aD [32] [97,115]]++([aD [32] s]++[]))))))):=by rw[hRe];simp only[hq3,hq4,if_pos hg1,if_pos ha0,aA es,aJ,oMS]
      refine rR (fA aM rfl rfl rfl ?_);(refine aCL o10 3 rfl eV rfl (by simp) (aI ⟨rfl,rfl⟩ ?_);intro m3501 o3501);refine rR (fA aM rfl rfl rfl ?_);(refine aCL o3501 3 rfl aL rfl (by simp) (aI ⟨rfl,rfl⟩ ?_);intro m3503 o3503);refine rR (fA aM rfl rfl rfl ?_);(refine aCL o3503 3 rfl aL rfl (by simp) (aI ⟨rfl,rfl⟩ ?_);intro m3505 o3505);refine rR (fA aM rfl rfl rfl ?_);(refine aCL o3505 3 rfl aT rfl (by simp) (aI ⟨rfl,rfl⟩ ?_);intro m3507 o3507);refine rR (fA aM rfl rfl rfl ?_);refine rR (aCc o3507 2 rfl aT rfl rfl ?_);refine aCQ ?_;refine rR (nC rfl ?_);refine rR (fA bO rfl rfl rfl ?_);(refine aCM o3507 aK aL rfl rfl (by decide) (aI rfl ?_);intro b3512 m3512 o3512);refine aH [[41]] 1 30 [2,3] (i:=4) ‹_› rfl rfl rfl hp7 rfl (by omega) (by omega) (by simp) (by omega) (by omega) (fun p9 v9 bs9 k9 m9 hp9 hb9 hk9 hl9 oq=>?_);have o9:Own B [box b [p9,v9,.int .i64 k9] 58,row v9 5 1 bs9.length (bytes bs9),box b50 [.int .i64 8,.string ⟨⟨tb⟩⟩,.slice e3 ks.length f3,.slice e1 cs.length f1,.slice e2 ns.length f2,.string ⟨⟨a⟩⟩,.string ⟨⟨s⟩⟩,.int .i64 g,.int .i64 z] 42,box b201 [.int .i64 0,.string ⟨⟨tb⟩⟩,.slice none 0 0,.slice e1 cs.length f1,.slice none 0 0,.string ⟨⟨[]⟩⟩,.string ⟨⟨[]⟩⟩,.int .i64 0,.int .i64 0] 42] m9:=oq;clear oq;refine rR (fA aM rfl rfl rfl ?_);refine rR (aCc o9 3 rfl aL rfl rfl ?_);refine aCP (fun c3562=>?_) (fun c3562=>?_);refine rR (fA aM rfl rfl rfl ?_);refine rR (aCc o9 3 rfl mL rfl rfl ?_);refine rR (aCk rfl jA ?_);refine aCP (fun c3566=>?_) (fun c3566=>?_);refine rR (fA aM rfl rfl rfl ?_)
      refine rR (aCc o9 3 rfl eV rfl rfl ?_);refine rR (aCk rfl aK ?_);refine aCQ ?_;refine rR (fA aM rfl rfl rfl ?_);refine rR (aCc o9 3 rfl aL rfl rfl ?_);refine aCQ ?_;refine rR (fA aM rfl rfl rfl ?_);refine rR (aCc o9 3 rfl aL rfl rfl ?_);refine aCQ ?_;refine rR (fA aM rfl rfl rfl ?_);refine rR (aCc o9 3 rfl aT rfl rfl ?_)
      any_goals (refine aCh (B:=B) ‹_› (aE false _) (fun e8 m8 _ oq=>by cases e8) fun e8 m8 oq=>?_;exact⟨hexQ.trans (if_neg fun hb=>by obtain⟨x0,x1⟩:=hB.1 hb;first|contradiction|omega),rfl,oq⟩)
      refine aCh (B:=B) ‹_› (aE _ _) (fun e8 m8 _ oq=>?_) fun e8 m8 oq=>?_
      case refine_2 =>
       exact absurd e8 (by decide)
      have hbare:=hB.2 ⟨by assumption,by omega⟩;refine aCX rfl ?_;exact XEnds.done (ps:=[aD be opw,aO [] [40]]++(ps++(([aD [32] [111,110]]++(ps3++([aD [32] [119,105,116,104]]++([aD [32] agw]++([]++([aD [32] [97,115]]++([aD [32] s]++[])))))))++([aO [] [41]]++[])))) (hexQ.trans (by rw[if_pos hbare];simp only[hQ,hR,aJ,oMS])) (oq.sel [0,1] rfl) hp9 (by rw[hb9,hb7,hb5,hb3,hb2,hb',hb1];simp[bG,fL,wr,aD,aO]) (by rw[hk9,hk7',hk5,hk3',hk2',hk',hk1];simp;omega) (by omega) (by omega)
     ·refine rR (fA aM rfl rfl rfl ?_)
      refine rR (aCc o8 2 rfl aT rfl rfl ?_);refine aCP (fun hc=>absurd hc (by omega)) (fun c3682=>?_);refine aCS [0,1,2,3,6] [4] [5,7,8] [0,1,2,3,4,5,6,7,8] mixed (by kernel_rfl) rfl (fun _ _ _ _ h=>h) ?_;refine nC rfl ?_;refine fA bO rfl rfl rfl ?_;refine fA aM rfl rfl rfl ?_;refine aCc o8 2 rfl aL rfl rfl ?_;refine aCh (B:=B) ‹_› (bJ a _ ba) (fun ea mea ocea oq=>?_) fun ea mea oq=>?_
      case refine_2 =>
       have hR:dT 8 cs ns a s g=none:=by rw[hRe];simp only[hq3,hq4,if_neg hg1,cS ea,aJ,oMN]
       exact⟨hexQ.trans (by split;simp only[hQ,hR,aJ,oMN,oMS];rfl),rfl,oq⟩
      have hnlea:=cR ea;clear ocea o8;refine aCm rfl rfl (by first|omega|(simp;omega)) ?_;(refine aCM oq aK aL rfl rfl (by decide) (aI rfl ?_);intro b3741 m3741 o3741);refine aH [[32]++a] 1 30 [2,3] (i:=4) ‹_› rfl rfl rfl hp5 rfl (by omega) (by omega) (by simp;omega) (by omega) (by omega) (fun p6 v6 bs6 k6 m6 hp6 hb6 hk6' hl6 oq=>?_);have o10:Own B [box b [p6,v6,.int .i64 k6] 58,row v6 5 1 bs6.length (bytes bs6),box b50 [.int .i64 8,.string ⟨⟨tb⟩⟩,.slice e3 ks.length f3,.slice e1 cs.length f1,.slice e2 ns.length f2,.string ⟨⟨a⟩⟩,.string ⟨⟨s⟩⟩,.int .i64 g,.int .i64 z] 42,box b201 [.int .i64 0,.string ⟨⟨tb⟩⟩,.slice none 0 0,.slice e1 cs.length f1,.slice e2 ns.length f2,.string ⟨⟨a⟩⟩,.string ⟨⟨s⟩⟩,.int .i64 g,.int .i64 0] 42] m6:=oq;clear oq;refine aCS [0,1,2,3,6] [4] [5,7,8] [0,1,2,3,4,5,6,7,8] mixed (by kernel_rfl) rfl (fun _ _ _ _ h=>h) ?_;refine nC rfl ?_;refine fA bO rfl rfl rfl ?_;refine fA aM rfl rfl rfl ?_;refine aCc o10 2 rfl aL rfl rfl ?_;refine aCh (B:=B) ‹_› (bJ s _ bs_) (fun es mes oces oq=>?_) fun es mes oq=>?_
      case refine_2 =>
       have hR:dT 8 cs ns a s g=none:=by rw[hRe];simp only[hq3,hq4,if_neg hg1,aA ea,cS es,aJ,oMN]
       exact⟨hexQ.trans (by split;simp only[hQ,hR,aJ,oMN,oMS];rfl),rfl,oq⟩
      have hnles:=cR es;clear oces o10;refine aCm rfl rfl (by first|omega|(simp;omega)) ?_;(refine aCM oq aK aL rfl rfl (by decide) (aI rfl ?_);intro b3861 m3861 o3861);refine aH [[32,97,115],[32]++s] 2 30 [2,3] (i:=4) ‹_› rfl rfl rfl hp6 rfl (by omega) (by omega) (by simp;omega) (by omega) (by omega) (fun p7 v7 bs7 k7 m7 hp7 hb7 hk7' hl7 oq=>?_);have o11:Own B [box b [p7,v7,.int .i64 k7] 58,row v7 5 1 bs7.length (bytes bs7),box b50 [.int .i64 8,.string ⟨⟨tb⟩⟩,.slice e3 ks.length f3,.slice e1 cs.length f1,.slice e2 ns.length f2,.string ⟨⟨a⟩⟩,.string ⟨⟨s⟩⟩,.int .i64 g,.int .i64 z] 42,box b201 [.int .i64 0,.string ⟨⟨tb⟩⟩,.slice none 0 0,.slice e1 cs.length f1,.slice e2 ns.length f2,.string ⟨⟨a⟩⟩,.string ⟨⟨s⟩⟩,.int .i64 g,.int .i64 0] 42] m7:=oq;clear oq;have hR:dT 8 cs ns a s g=some ([aD [32] [111,110]]++(ps3++([aD [32] [119,105,116,104]]++([aD [32] agw]++([aD [32] a]++([aD [32] [97,115]]++([aD [32] s]++[]))))))):=by rw[hRe];simp only[hq3,hq4,if_neg hg1,aA ea,aA es,aJ,oMS]
      refine rR (fA aM rfl rfl rfl ?_);(refine aCL o11 3 rfl eV rfl (by simp) (aI ⟨rfl,rfl⟩ ?_);intro m3921 o3921);refine rR (fA aM rfl rfl rfl ?_);(refine aCL o3921 3 rfl aL rfl (by simp) (aI ⟨rfl,rfl⟩ ?_);intro m3923 o3923);refine rR (fA aM rfl rfl rfl ?_);(refine aCL o3923 3 rfl aL rfl (by simp) (aI ⟨rfl,rfl⟩ ?_);intro m3925 o3925);refine rR (fA aM rfl rfl rfl ?_);(refine aCL o3925 3 rfl aT rfl (by simp) (aI ⟨rfl,rfl⟩ ?_);intro m3927 o3927);refine rR (fA aM rfl rfl rfl ?_);refine rR (aCc o3927 2 rfl aT rfl rfl ?_);refine aCQ ?_;refine rR (nC rfl ?_);refine rR (fA bO rfl rfl rfl ?_);(refine aCM o3927 aK aL rfl rfl (by decide) (aI rfl ?_);intro b3932 m3932 o3932);refine aH [[41]] 1 30 [2,3] (i:=4) ‹_› rfl rfl rfl hp7 rfl (by omega) (by omega) (by simp) (by omega) (by omega) (fun p9 v9 bs9 k9 m9 hp9 hb9 hk9 hl9 oq=>?_);have o9:Own B [box b [p9,v9,.int .i64 k9] 58,row v9 5 1 bs9.length (bytes bs9),box b50 [.int .i64 8,.string ⟨⟨tb⟩⟩,.slice e3 ks.length f3,.slice e1 cs.length f1,.slice e2 ns.length f2,.string ⟨⟨a⟩⟩,.string ⟨⟨s⟩⟩,.int .i64 g,.int .i64 z] 42,box b201 [.int .i64 0,.string ⟨⟨tb⟩⟩,.slice none 0 0,.slice e1 cs.length f1,.slice none 0 0,.string ⟨⟨[]⟩⟩,.string ⟨⟨[]⟩⟩,.int .i64 0,.int .i64 0] 42] m9:=oq;clear oq;refine rR (fA aM rfl rfl rfl ?_);refine rR (aCc o9 3 rfl aL rfl rfl ?_);refine aCP (fun c3982=>?_) (fun c3982=>?_);refine rR (fA aM rfl rfl rfl ?_);refine rR (aCc o9 3 rfl mL rfl rfl ?_);refine rR (aCk rfl jA ?_);refine aCP (fun c3986=>?_) (fun c3986=>?_);refine rR (fA aM rfl rfl rfl ?_)
      refine rR (aCc o9 3 rfl eV rfl rfl ?_);refine rR (aCk rfl aK ?_);refine aCQ ?_;refine rR (fA aM rfl rfl rfl ?_);refine rR (aCc o9 3 rfl aL rfl rfl ?_);refine aCQ ?_;refine rR (fA aM rfl rfl rfl ?_);refine rR (aCc o9 3 rfl aL rfl rfl ?_);refine aCQ ?_;refine rR (fA aM rfl rfl rfl ?_);refine rR (aCc o9 3 rfl aT rfl rfl ?_)
      any_goals (refine aCh (B:=B) ‹_› (aE false _) (fun e8 m8 _ oq=>by cases e8) fun e8 m8 oq=>?_;exact⟨hexQ.trans (if_neg fun hb=>by obtain⟨x0,x1⟩:=hB.1 hb;first|contradiction|omega),rfl,oq⟩)
      refine aCh (B:=B) ‹_› (aE _ _) (fun e8 m8 _ oq=>?_) fun e8 m8 oq=>?_
      case refine_2 =>
       exact absurd e8 (by decide)
      have hbare:=hB.2 ⟨by assumption,by omega⟩;refine aCX rfl ?_;exact XEnds.done (ps:=[aD be opw,aO [] [40]]++(ps++(([aD [32] [111,110]]++(ps3++([aD [32] [119,105,116,104]]++([aD [32] agw]++([aD [32] a]++([aD [32] [97,115]]++([aD [32] s]++[])))))))++([aO [] [41]]++[])))) (hexQ.trans (by rw[if_pos hbare];simp only[hQ,hR,aJ,oMS])) (oq.sel [0,1] rfl) hp9 (by rw[hb9,hb7,hb6,hb5,hb3,hb2,hb',hb1];simp[bG,fL,wr,aD,aO]) (by rw[hk9,hk7',hk6',hk5,hk3',hk2',hk',hk1];simp;omega) (by omega) (by omega)
   exact(by omega:False).elim
theorem wV (b:Nat):∀ n,aAH b n
 | 0=>fun x _ _ _ _ _ _ _ _ _ hd=>absurd hd (by cases x;rw[fY];omega)
 | n+1=>fun x B c be lev p v k bs h hd hOK hc hp hbe hlev hT hF o hl hk=>by
  have ih:=wV b n
  obtain⟨kd,tb,ks,cs,ns,a,s,g,off⟩:=x
  by_cases h2:kd=2
  ·exact prExpr_c2 b n ih kd tb ks cs ns a s g off h2 B c be lev p v k bs h hd hOK hc hp hbe hlev hT hF o hl hk
  by_cases h3:kd=3
  ·exact prExpr_c3 b n ih kd tb ks cs ns a s g off h3 B c be lev p v k bs h hd hOK hc hp hbe hlev hT hF o hl hk
  by_cases h7:kd=7
  ·exact prExpr_c7 b n ih kd tb ks cs ns a s g off h7 B c be lev p v k bs h hd hOK hc hp hbe hlev hT hF o hl hk
  by_cases h8:kd=8
  ·exact prExpr_c8 b n ih kd tb ks cs ns a s g off h8 B c be lev p v k bs h hd hOK hc hp hbe hlev hT hF o hl hk
  by_cases hD:kd=4∨kd=5∨kd=6
  ·exact prExpr_cD b n ih kd tb ks cs ns a s g off hD B c be lev p v k bs h hd hOK hc hp hbe hlev hT hF o hl hk
  ·exact prExpr_cT b n ih kd tb ks cs ns a s g off (by omega) B c be lev p v k bs h hd hOK hc hp hbe hlev hT hF o hl hk
theorem aBI (B:Base)(b bx:Nat)(p v:Value)(k:Int)(bs:aBs)(x:It)(z:Int)(vc vn vt vf vv vd e0 e1 e2 e3 e4 e5 e6 e7 e8:Value)(h:Heap)(hp:cO b p)(hT:jO B.h)(hF:gX B.h)(hOK:iQ x)(hE:kN B.h [e0,e1,e2,e3,e4,e5,e6,e7,e8] x.expr)(hLev:bY x.expr≤100000000000)
  (o:Own B [box b [p,v,.int .i64 k] 58,row v 5 1 bs.length (bytes bs),box bx (fE x z vc vn vt vf vv vd e0 e1 e2 e3 e4 e5 e6 e7 e8) 44] h) (hl:bs.length+2000*eI x≤40000000000000) (hk:0≤k∧k+2000*eI x≤40000000000000) :
  Spec Tryz.prog 79 [.pointer (some ⟨b,0,none⟩),.pointer (some ⟨bx,0,none⟩)] h (IEnds B b bx bs k (2000*eI x+60) (fE (clr10 x) (if 12<bY x.expr then -1 else z) vc vn vt vf vv vd (.int .i64 0) (.string ⟨⟨[]⟩⟩) aN aN aN (.string ⟨⟨[]⟩⟩) (.string ⟨⟨[]⟩⟩) (.int .i64 0) (.int .i64 0)) (aBX x)):=by
 obtain⟨bkind,bname,btable,battr,bcols,bnames,bby,bn,bm,bterms,both,boat,bfixed,bvars,bconds,bexpr,lcols,lnames,lterms,lfixed,lvars,lconds⟩:=hOK
 have hsz:eI x=1+x.cols.length+x.names.length+x.terms.length+x.fixed.length+x.vars.length+x.conds.length+fI x.expr:=rfl;have hE2:=hE;unfold fE at o;have hRe:aBX x=aJ [some [aO [32] [61]],fZ [32] x.expr]:=rfl;refine aCV Tryz.func79 rfl Tryz.ntmps79 (by kernel_rfl) ?_;refine rR (nC rfl ?_);refine rR (fA bO rfl rfl rfl ?_);(refine aCM o aK aL rfl rfl (by decide) (aI rfl ?_);intro b62 m62 o62);refine aH [[32,61]] 1 30 [2] (i:=3) ‹_› rfl rfl rfl hp rfl (by omega) (by omega) (by simp) (by omega) (by omega) (fun p1 v1 bs1 k1 m1 hp1 hb1 hk1 hl1 oq=>?_);have o1q:=oq
 simp only[pick,lgS,lgZ]at o1q
 clear oq;refine rR (nC rfl ?_);refine rR (fA aC rfl rfl rfl ?_);refine rR (aCg o1q 2 rfl aS rfl rfl rfl ?_);refine XEnds.callJ [2] ‹_› rfl rfl (fun J oj=>wV b (fY x.expr) x.expr ⟨B.h,J++B.T⟩ _ [32] 1 p1 v1 k1 bs1 _ (aDg _) bexpr hE hp1 (.inr rfl) (by omega) hT hF oj (by omega) (by omega)) (fun ps2 p2 v2 bs2 k2 m2 hq2 hp2 hb2 hk2 hl2 _ hj2 oq=>?_) (fun m2 hq2 oq=>?_)
 case refine_2=>exact⟨(by rw[hRe];simp only[hq2,aJ,oMN,oMS]),rfl,oq⟩
 have o2q:=oq
 simp only[pick,lgS,lgZ]at o2q
 clear oq;by_cases hlv:12<bY x.expr
 ·rw[if_pos hlv]
  refine aCP (fun c160=>?_) (fun hc=>absurd (by omega) hc);refine rR (nC rfl ?_);refine rR (fA aC rfl rfl rfl ?_);(refine aCL o2q 2 rfl aT rfl (by simp) (aI ⟨rfl,rfl⟩ ?_);intro m163 o163);refine rR (aCl aM ?_);refine rR (nC rfl ?_);refine rR (fA aC rfl rfl rfl ?_);(refine aCL o163 2 rfl aS rfl (by simp) (aI ⟨rfl,rfl⟩ ?_);intro m167 o167);refine aCY rfl ?_;exact IEnds.done (ps:=[aO [32] [61]]++(ps2++[])) (by rw[hRe];simp only[hq2,aJ,oMS]) (Own.sel ‹_› [0,1,2] rfl) hp2 (by rw[hb2,hb1];simp[bG,fL,wr,aO]) (by rw[hk2,hk1];first|(simp;done)|(simp;omega)) (by omega) (by omega)
 ·rw[if_neg hlv]
  refine aCP (fun hc=>absurd hc (by omega)) (fun c210=>?_);refine rR (aCl aM ?_);refine rR (nC rfl ?_);refine rR (fA aC rfl rfl rfl ?_);(refine aCL o2q 2 rfl aS rfl (by simp) (aI ⟨rfl,rfl⟩ ?_);intro m214 o214);refine aCY rfl ?_;exact IEnds.done (ps:=[aO [32] [61]]++(ps2++[])) (by rw[hRe];simp only[hq2,aJ,oMS]) (Own.sel ‹_› [0,1,2] rfl) hp2 (by rw[hb2,hb1];simp[bG,fL,wr,aO]) (by rw[hk2,hk1];first|(simp;done)|(simp;omega)) (by omega) (by omega)
def wrN (k:Int):FuncId:=if k=1 then 70 else if k=2 then 71 else if k=3 then 72 else if k=4 then 73 else if k=5 then 74 else if k=6 then 75 else if k=7 then 76 else if k=8 then 77 else if k=9 then 78 else 79
theorem wrN_at {k:Int}(h1:1≤k)(h10:k≤10):wrFs[k.toNat]?=some (.func (.func (wrN k)) #[] #[]):=by
 have:k=1∨k=2∨k=3∨k=4∨k=5∨k=6∨k=7∨k=8∨k=9∨k=10:=by omega
 rcases this with rfl|rfl|rfl|rfl|rfl|rfl|rfl|rfl|rfl|rfl<;>rfl
def WAny (B:Base)(b bx:Nat)(bs:aBs)(k:Int)(c:Nat)(x:It)(z:Int):Ending→Heap→Prop :=
 Ends (fun r h'=>∃ ps p' v' vc vn vt vf vv vd e0 e1 e2 e3 e4 e5 e6 e7 e8,jD x=some ps∧r=.tuple #[]∧cO b p'∧(bG ps).length≤c∧ps.length≤c∧itH B.h (fE (dR x) (if x.kind=10∧12<bY x.expr then -1 else z) vc vn vt vf vv vd e0 e1 e2 e3 e4 e5 e6 e7 e8) (dR x) ∧
   Own B [box b [p',v',.int .i64 (k+ps.length)] 58,row v' 5 1 (bs++bG ps).length (bytes (bs++bG ps)),box bx (fE (dR x) (if x.kind=10∧12<bY x.expr then -1 else z) vc vn vt vf vv vd e0 e1 e2 e3 e4 e5 e6 e7 e8) 44] h')
  fun q h'=>jD x=none∧q=wG∧Own B [] h'
theorem aBH (B:Base)(b bx:Nat)(p v:Value)(k:Int)(bs:aBs)(x:It)(z:Int)(vc vn vt vf vv vd e0 e1 e2 e3 e4 e5 e6 e7 e8:Value)(h:Heap)(hp:cO b p)(hT:jO B.h)(hOK:iQ x)(hN:dD 1 B.h vn x.names.length (strs x.names))(hA:dD 5 B.h vc x.cols.length (x.cols.flatMap uT))
  (o:Own B [box b [p,v,.int .i64 k] 58,row v 5 1 bs.length (bytes bs),box bx (fE x z vc vn vt vf vv vd e0 e1 e2 e3 e4 e5 e6 e7 e8) 44] h) (hl:bs.length+2000*eI x≤50000000000000) (hk:0≤k∧k+2000*eI x≤50000000000000) :
  Spec Tryz.prog 70 [.pointer (some ⟨b,0,none⟩),.pointer (some ⟨bx,0,none⟩)] h (IEnds B b bx bs k (2000*eI x) (fE (clr1 x) z aN aN vt vf vv vd e0 e1 e2 e3 e4 e5 e6 e7 e8) (part1 x)):=by
 obtain⟨bkind,bname,btable,battr,bcols,bnames,bby,bn,bm,bterms,both,boat,bfixed,bvars,bconds,bexpr,lcols,lnames,lterms,lfixed,lvars,lconds⟩:=hOK
 have hsz:eI x=1+x.cols.length+x.names.length+x.terms.length+x.fixed.length+x.vars.length+x.conds.length+fI x.expr:=rfl;unfold fE at o
 obtain⟨ya,yc,rfl⟩:=hA.isS
 refine aCV Tryz.func70 rfl Tryz.ntmps70 (by kernel_rfl) ?_;by_cases h0:x.cols=[]
 case pos =>
  have hlen0:¬ ((0:Int)<(x.cols.length:Int)):=by rw[h0];simp
  refine rR (nC rfl ?_);refine rR (fA aC rfl rfl rfl ?_);refine rR (aCc o 2 rfl lS rfl rfl ?_);refine rR (aCk rfl kI ?_);refine aCh (B:=B) ‹_› (aE _ _) (fun e1 m2 _ oq=>absurd (of_decide_eq_true e1) hlen0) fun e1 m2 oq=>?_
  exact⟨by show aJ [some [aO [] [40]],dJ mR [] x.cols,some [aO [] [41],aD [32] [107,101,121]],dJ aZ [32] x.names]=none;rw[h0];rfl,rfl,oq⟩
 have hRe:part1 x=aJ [some [aO [] [40]],cZ (dY mR) x.cols,some [aO [] [41],aD [32] [107,101,121]],dJ aZ [32] x.names]:=by unfold part1;rw[xE _ _ h0]
 have hpos:0<x.cols.length:=List.length_pos_iff.2 h0;refine rR (nC rfl ?_);refine rR (fA aC rfl rfl rfl ?_);refine rR (aCc o 2 rfl lS rfl rfl ?_);refine rR (aCk rfl kI ?_);refine aCh (B:=B) ‹_› (aE _ _) (fun e1 m2 oc oq=>?_) fun e1 m2 oq=>absurd (of_decide_eq_false e1) (by omega);clear oc o e1;refine rR (nC rfl ?_);refine rR (fA bO rfl rfl rfl ?_);(refine aCM oq aK aL rfl rfl (by decide) (aI rfl ?_);intro b112 m112 o112);refine aH [[40]] 1 30 [2] (i:=3) ‹_› rfl rfl rfl hp rfl (by omega) (by omega) (by first|(simp;done)|(simp;omega)) (by omega) (by omega) (fun p1 v1 bs1 k1 m1 hp1 hb1 hk1 hl1 oq=>?_);have o1q:=oq
 simp only[pick,lgS,lgZ]at o1q
 clear oq;refine rR (nC rfl ?_);refine rR (fA aC rfl rfl rfl ?_);refine rR (aCc o1q 2 rfl lS rfl rfl ?_);refine rR (aCk rfl kI ?_);refine aCZ [4,5,6,24,25,26,27,28,29,30,31,32,33,34,35,36,37,38,39,40,41,42,43,44,45,46,47,48,49,50,51,52,53,54,55,56,57,58,59,60,61,62,63] [24] (fun vs' hh=>∃(i:Nat) (p' v':Value) (bs':aBs) (k':Int) (ps:List Pc),i≤x.cols.length∧vs'=[.int .i64 i]∧cO b p'∧cZ (dY mR) (x.cols.take i)=some ps∧bs'=bs1++bG ps∧k'=k1+ps.length∧bs'.length≤bs1.length+1000*i∧k'≤k1+1000*i∧Own B [box b [p',v',.int .i64 k'] 58,row v' 5 1 bs'.length (bytes bs'),box bx [.int .i64 x.kind,.string ⟨⟨x.name⟩⟩,.int .i64 z,.string ⟨⟨x.table⟩⟩,.string ⟨⟨x.attr⟩⟩,.slice ya x.cols.length yc,vn,.int .i64 x.by_,.int .i64 x.n,.int .i64 x.m,vt,.string ⟨⟨x.other⟩⟩,.string ⟨⟨x.oattr⟩⟩,vf,vv,vd,e0,e1,e2,e3,e4,e5,e6,e7,e8] 44] hh) (fun vs' _=>match vs' with|[.int _ i]=>x.cols.length - i.toNat|_=>0) ?_ ?_
 ·exact⟨0,p1,v1,bs1,k1,[],by omega,rfl,hp1,rfl,by simp[bG],by simp,by omega,by omega,Own.sel ‹_› [0,1,2] rfl⟩
 rintro vs' junk hh ⟨i,p',v',bs',k',ps,hi,rfl,hp',hQ,hb',hk',hl',hkb,oh⟩;have hkge:k1≤k':=by omega
 by_cases hlt:i<x.cols.length
 ·obtain⟨el,hel⟩:=getx hlt
  have hOKel:=bcols el (aC7 hel);have hm:1000*i+1000≤1000*x.cols.length:=by omega
  obtain⟨hn1,hn2,hv1⟩:=hOKel
  by_cases h0i:i=0
  ·have hone:dY mR i el=aJ [aZ [] el.name,gB el.kind [[116,101,120,116],[110,117,109,98,101,114],[100,97,121],[102,108,97,103]],(if el.dflt.k=0∧el.dflt.n=0∧el.dflt.t=[] then some [] else(bX el.dflt).map (aO [32] [61]::·))]:=by unfold dY;rw[if_pos h0i];rfl
   refine aCP (fun c210=>?_) (fun hc=>absurd (by omega) hc);refine rR (aCn kI eY (hA.ext oh.ext) rfl (by omega) (by omega) ?_);refine rR (aCp eY (hA.ext oh.ext) (fun _=>rfl) (by decide) rfl ‹_› ?_);(refine aCN oh eY ?_;intro b213 m213 o213);(refine aCf o213 3 rfl eY rfl (by decide) (aI ⟨rfl,rfl⟩ ?_);intro m214 o214);refine aCP (fun hc=>absurd hc (by omega)) (fun c215=>?_);refine aCz b213 [0,1,2,3,4,7,8] [5,9] [11,12,13] (.one 0 (.one 1 (.one 2 (.one 3 (.one 4 (.one 5 (.one 8 (.one 9 (.fork 6 10 (.one 7 (.one 10 (.one 11 (.one 12 (.one 13 .done))))) (.one 6 (.one 7 (.one 11 (.one 12 (.one 13 .done)))))))))))))) mixed (by kernel_rfl) rfl (fun _ _ _ _ h=>h) ?_;refine nC rfl ?_;refine fA bO rfl rfl rfl ?_;refine fA kL rfl rfl rfl ?_;refine StillVCA.load1 aL rfl rfl ((o214.cellB 3 rfl _).trans rfl) ?_;refine fA kL rfl rfl rfl ?_;refine StillVCA.load1 aT rfl rfl ((o214.cellB 3 rfl _).trans rfl) ?_;refine aI ?_ ?_
   ·skip
    refine aCh (B:=B) ‹_› (bJ el.name _ hn1) (fun h2 m2 oc2 oq2=>?_) fun h2 m2 oq2=>?_
    case refine_2=>exact⟨(by rw[hRe];simp only[aR hel hQ (show(dY mR) i el=none by rw[hone];simp only[cS h2,aJ,oMN,oMS]),aJ,oMN,oMS]),rfl,oq2⟩
    have hnl2:=cR h2;refine aI ((oq2.boxBlk 3 rfl).trans (o214.boxBlk 3 rfl).symm) ?_;refine aCm rfl rfl (by first|omega|(simp;omega)) ?_;(refine aCM oq2 aK aL rfl rfl (by decide) (aI rfl ?_);intro b361 m361 o361);refine aI ((o361.boxBlk 3 rfl).trans (oq2.boxBlk 3 rfl).symm) ?_;refine aCh (B:=B) ‹_› (dO el.kind [[116,101,120,116],[110,117,109,98,101,114],[100,97,121],[102,108,97,103]] _ _ (by omega) (by omega) (Own.boxArr ‹_› 4 rfl rfl (by decide)) (by simp) (by simp)) (fun h3 m3 oc3 oq3=>?_) fun h3 m3 oq3=>?_
    case refine_2=>exact⟨(by rw[hRe];simp only[aR hel hQ (show(dY mR) i el=none by rw[hone];simp only[aA h2,lH (of_decide_eq_false h3),aJ,oMN,oMS]),aJ,oMN,oMS]),rfl,oq3⟩
    have h3:=of_decide_eq_true h3;have hw3:=jQ (n:=el.kind) h3;have hnl3:=kF (ws:=[[116,101,120,116],[110,117,109,98,101,114],[100,97,121],[102,108,97,103]]) (M:=10) (by simp) (el.kind - 1).toNat;generalize ([[116,101,120,116],[110,117,109,98,101,114],[100,97,121],[102,108,97,103]]:List aBs).getD (el.kind - 1).toNat []=w3 at hw3 hnl3;clear oc3;(refine aCM oq3 aK aL rfl rfl (by decide) (aI rfl ?_);intro b410 m410 o410);refine aH [[]++el.name,32::w3] 2 30 [2,3] (i:=5) ‹_› rfl rfl rfl hp' rfl (by omega) (by omega) (by first|(simp;done)|(simp;omega)) (by omega) (by omega) (fun p4 v4 bs4 k4 m4 hp4 hb4 hk4 hl4 oq=>?_);have o4q:=oq
    simp only[pick,lgS,lgZ]at o4q
    clear oq;by_cases hz:el.dflt.k=0∧el.dflt.n=0∧el.dflt.t=[]
    ·have hzb:(!(decide (el.dflt.k=0)&&(decide (el.dflt.n=0)&&(decide (el.dflt.t=[])&&true))))=false:=by simp[hz.1,hz.2.1,hz.2.2]
     refine rR (fA kL rfl rfl rfl ?_);refine rR (aCg o4q 3 rfl bS rfl rfl rfl ?_);refine rR (aCl cN ?_);refine rR (neS qD rfl rfl rfl rfl ?_);refine Br.ffE hzb ?_;refine aCW (by omega) (by omega) ?_
     refine⟨rfl,?_⟩
     exact⟨⟨i+1,p4,v4,bs4,k4,ps++(([aD [] el.name]++([aD [32] w3]++([]++[])))),by omega,rfl,hp4,bA hel hQ (by rw[hone];simp only[aA h2,hw3,if_pos hz,aJ,oMS]),by rw[hb4,hb'];simp[bG,fL,wr,aD,aO,bP],by rw[hk4,hk'];first|(simp;done)|(simp;omega),by omega,by omega,Own.sel ‹_› [0,1,2] rfl⟩,by simp;omega⟩
    ·have hzb:(!(decide (el.dflt.k=0)&&(decide (el.dflt.n=0)&&(decide (el.dflt.t=[])&&true))))=true:=by
      rw[aDs,aDq]
      intro hh
      simp at hh
      exact hz hh
     refine rR (fA kL rfl rfl rfl ?_);refine rR (aCg o4q 3 rfl bS rfl rfl rfl ?_);refine rR (aCl cN ?_);refine rR (neS qD rfl rfl rfl rfl ?_);refine Br.ttE hzb ?_;refine rR (nC rfl ?_);refine rR (fA bO rfl rfl rfl ?_);(refine aCM o4q aK aL rfl rfl (by decide) (aI rfl ?_);intro b517 m517 o517);refine aH [[32,61]] 1 30 [2,3] (i:=4) ‹_› rfl rfl rfl hp4 rfl (by omega) (by omega) (by first|(simp;done)|(simp;omega)) (by omega) (by omega) (fun p5 v5 bs5 k5 m5 hp5 hb5 hk5 hl5 oq=>?_);have o5q:=oq
     simp only[pick,lgS,lgZ]at o5q
     clear oq;refine rR (fA kL rfl rfl rfl ?_);refine rR (aCg o5q 3 rfl bS rfl rfl rfl ?_);refine WEnds.callJ [2,3] ‹_› rfl rfl (fun J oj=>iT ⟨B.h,J++B.T⟩ b p5 v5 k5 bs5 el.dflt _ hp5 hT oj (by omega) hv1.2.2 hv1.2.1 (by omega)) (fun ps6 p6 v6 bs6 k6 m6 hq6 hp6 hb6 hk6 hl6 _ hj6 oq=>?_) (fun m6 hq6 oq=>?_)
     case refine_2=>exact⟨(by rw[hRe];simp only[aR hel hQ (show(dY mR) i el=none by rw[hone];simp only[aA h2,hw3,if_neg hz,hq6,aJ,oMN,oMS]),aJ,oMN,oMS]),rfl,oq⟩
     have o6q:=oq
     simp only[pick,lgS,lgZ]at o6q
     clear oq;refine aCW (by omega) (by omega) ?_
     refine⟨rfl,?_⟩
     exact⟨⟨i+1,p6,v6,bs6,k6,ps++(([aD [] el.name]++([aD [32] w3]++(aO [32] [61]::ps6++[])))),by omega,rfl,hp6,bA hel hQ (by(first|rw[hone]|(show bI el=_;rw[hone]));simp only[aA h2,hw3,if_neg hz,hq6,aJ,oMS]),by rw[hb6,hb5,hb4,hb'];simp[bG,fL,wr,aD,aO,bP],by rw[hk6,hk5,hk4,hk'];first|(simp;done)|(simp;omega),by omega,by omega,Own.sel ‹_› [0,1,2] rfl⟩,by simp;omega⟩
   ·skip
    (refine aCM o214 aK aL rfl rfl (by decide) (aI rfl ?_);intro b660 m660 o660);refine aI ((o660.boxBlk 3 rfl).trans (o214.boxBlk 3 rfl).symm) ?_;refine aCh (B:=B) ‹_› (bJ el.name _ hn1) (fun h7 m7 oc7 oq7=>?_) fun h7 m7 oq7=>?_
    case refine_2=>exact⟨(by rw[hRe];simp only[aR hel hQ (show(dY mR) i el=none by rw[hone];simp only[cS h7,aJ,oMN,oMS]),aJ,oMN,oMS]),rfl,oq7⟩
    have hnl7:=cR h7;refine aI ((oq7.boxBlk 3 rfl).trans (o660.boxBlk 3 rfl).symm) ?_;refine aCm rfl rfl (by first|omega|(simp;omega)) ?_;refine aCh (B:=B) ‹_› (dO el.kind [[116,101,120,116],[110,117,109,98,101,114],[100,97,121],[102,108,97,103]] _ _ (by omega) (by omega) (Own.boxArr ‹_› 4 rfl rfl (by decide)) (by simp) (by simp)) (fun h8 m8 oc8 oq8=>?_) fun h8 m8 oq8=>?_
    case refine_2=>exact⟨(by rw[hRe];simp only[aR hel hQ (show(dY mR) i el=none by rw[hone];simp only[aA h7,lH (of_decide_eq_false h8),aJ,oMN,oMS]),aJ,oMN,oMS]),rfl,oq8⟩
    have h8:=of_decide_eq_true h8;have hw8:=jQ (n:=el.kind) h8;have hnl8:=kF (ws:=[[116,101,120,116],[110,117,109,98,101,114],[100,97,121],[102,108,97,103]]) (M:=10) (by simp) (el.kind - 1).toNat;generalize ([[116,101,120,116],[110,117,109,98,101,114],[100,97,121],[102,108,97,103]]:List aBs).getD (el.kind - 1).toNat []=w8 at hw8 hnl8;clear oc8;(refine aCM oq8 aK aL rfl rfl (by decide) (aI rfl ?_);intro b760 m760 o760);refine aH [[]++el.name,32::w8] 2 30 [2,3] (i:=5) ‹_› rfl rfl rfl hp' rfl (by omega) (by omega) (by first|(simp;done)|(simp;omega)) (by omega) (by omega) (fun p9 v9 bs9 k9 m9 hp9 hb9 hk9 hl9 oq=>?_);have o9q:=oq
    simp only[pick,lgS,lgZ]at o9q
    clear oq;by_cases hz:el.dflt.k=0∧el.dflt.n=0∧el.dflt.t=[]
    ·have hzb:(!(decide (el.dflt.k=0)&&(decide (el.dflt.n=0)&&(decide (el.dflt.t=[])&&true))))=false:=by simp[hz.1,hz.2.1,hz.2.2]
     refine rR (fA kL rfl rfl rfl ?_);refine rR (aCg o9q 3 rfl bS rfl rfl rfl ?_);refine rR (aCl cN ?_);refine rR (neS qD rfl rfl rfl rfl ?_);refine Br.ffE hzb ?_;refine aCW (by omega) (by omega) ?_
     refine⟨rfl,?_⟩
     exact⟨⟨i+1,p9,v9,bs9,k9,ps++(([aD [] el.name]++([aD [32] w8]++([]++[])))),by omega,rfl,hp9,bA hel hQ (by rw[hone];simp only[aA h7,hw8,if_pos hz,aJ,oMS]),by rw[hb9,hb'];simp[bG,fL,wr,aD,aO,bP],by rw[hk9,hk'];first|(simp;done)|(simp;omega),by omega,by omega,Own.sel ‹_› [0,1,2] rfl⟩,by simp;omega⟩
    ·have hzb:(!(decide (el.dflt.k=0)&&(decide (el.dflt.n=0)&&(decide (el.dflt.t=[])&&true))))=true:=by
      rw[aDs,aDq]
      intro hh
      simp at hh
      exact hz hh
     refine rR (fA kL rfl rfl rfl ?_);refine rR (aCg o9q 3 rfl bS rfl rfl rfl ?_);refine rR (aCl cN ?_);refine rR (neS qD rfl rfl rfl rfl ?_);refine Br.ttE hzb ?_;refine rR (nC rfl ?_);refine rR (fA bO rfl rfl rfl ?_);(refine aCM o9q aK aL rfl rfl (by decide) (aI rfl ?_);intro b867 m867 o867);refine aH [[32,61]] 1 30 [2,3] (i:=4) ‹_› rfl rfl rfl hp9 rfl (by omega) (by omega) (by first|(simp;done)|(simp;omega)) (by omega) (by omega) (fun p10 v10 bs10 k10 m10 hp10 hb10 hk10 hl10 oq=>?_);have o10q:=oq
     simp only[pick,lgS,lgZ]at o10q
     clear oq;refine rR (fA kL rfl rfl rfl ?_);refine rR (aCg o10q 3 rfl bS rfl rfl rfl ?_);refine WEnds.callJ [2,3] ‹_› rfl rfl (fun J oj=>iT ⟨B.h,J++B.T⟩ b p10 v10 k10 bs10 el.dflt _ hp10 hT oj (by omega) hv1.2.2 hv1.2.1 (by omega)) (fun ps11 p11 v11 bs11 k11 m11 hq11 hp11 hb11 hk11 hl11 _ hj11 oq=>?_) (fun m11 hq11 oq=>?_)
     case refine_2=>exact⟨(by rw[hRe];simp only[aR hel hQ (show(dY mR) i el=none by rw[hone];simp only[aA h7,hw8,if_neg hz,hq11,aJ,oMN,oMS]),aJ,oMN,oMS]),rfl,oq⟩
     have o11q:=oq
     simp only[pick,lgS,lgZ]at o11q
     clear oq;refine aCW (by omega) (by omega) ?_
     refine⟨rfl,?_⟩
     exact⟨⟨i+1,p11,v11,bs11,k11,ps++(([aD [] el.name]++([aD [32] w8]++(aO [32] [61]::ps11++[])))),by omega,rfl,hp11,bA hel hQ (by(first|rw[hone]|(show bI el=_;rw[hone]));simp only[aA h7,hw8,if_neg hz,hq11,aJ,oMS]),by rw[hb11,hb10,hb9,hb'];simp[bG,fL,wr,aD,aO,bP],by rw[hk11,hk10,hk9,hk'];first|(simp;done)|(simp;omega),by omega,by omega,Own.sel ‹_› [0,1,2] rfl⟩,by simp;omega⟩
  ·have hone:dY mR i el=(aJ [aZ [32] el.name,gB el.kind [[116,101,120,116],[110,117,109,98,101,114],[100,97,121],[102,108,97,103]],(if el.dflt.k=0∧el.dflt.n=0∧el.dflt.t=[] then some [] else(bX el.dflt).map (aO [32] [61]::·))]).map (aO [] [44]::·):=by unfold dY;rw[if_neg h0i];rfl
   refine aCP (fun c1010=>?_) (fun hc=>absurd (by omega) hc);refine rR (aCn kI eY (hA.ext oh.ext) rfl (by omega) (by omega) ?_);refine rR (aCp eY (hA.ext oh.ext) (fun _=>rfl) (by decide) rfl ‹_› ?_);(refine aCN oh eY ?_;intro b1013 m1013 o1013);(refine aCf o1013 3 rfl eY rfl (by decide) (aI ⟨rfl,rfl⟩ ?_);intro m1014 o1014);refine aCP (fun c1015=>?_) (fun hc=>absurd (by omega) hc);refine rR (nC rfl ?_);refine rR (fA bO rfl rfl rfl ?_);(refine aCM o1014 aK aL rfl rfl (by decide) (aI rfl ?_);intro b1018 m1018 o1018);refine aH [[44]] 1 30 [2,3] (i:=4) ‹_› rfl rfl rfl hp' rfl (by omega) (by omega) (by first|(simp;done)|(simp;omega)) (by omega) (by omega) (fun p12 v12 bs12 k12 m12 hp12 hb12 hk12 hl12 oq=>?_);have o12q:=oq
   simp only[pick,lgS,lgZ]at o12q
   clear oq;refine aCz b1013 [0,1,2,3,4,7,8] [5,9] [11,12,13] (.one 0 (.one 1 (.one 2 (.one 3 (.one 4 (.one 5 (.one 8 (.one 9 (.fork 6 10 (.one 7 (.one 10 (.one 11 (.one 12 (.one 13 .done))))) (.one 6 (.one 7 (.one 11 (.one 12 (.one 13 .done)))))))))))))) mixed (by kernel_rfl) rfl (fun _ _ _ _ h=>h) ?_;refine nC rfl ?_;refine fA bO rfl rfl rfl ?_;refine fA kL rfl rfl rfl ?_;refine StillVCA.load1 aL rfl rfl ((o12q.cellB 3 rfl _).trans rfl) ?_;refine fA kL rfl rfl rfl ?_;refine StillVCA.load1 aT rfl rfl ((o12q.cellB 3 rfl _).trans rfl) ?_;refine aI ?_ ?_
   ·skip
    refine aCh (B:=B) ‹_› (bJ el.name _ hn1) (fun h13 m13 oc13 oq13=>?_) fun h13 m13 oq13=>?_
    case refine_2=>exact⟨(by rw[hRe];simp only[aR hel hQ (show(dY mR) i el=none by rw[hone];simp only[cS h13,aJ,oMN,oMS]),aJ,oMN,oMS]),rfl,oq13⟩
    have hnl13:=cR h13;refine aI ((oq13.boxBlk 3 rfl).trans (o12q.boxBlk 3 rfl).symm) ?_;refine aCm rfl rfl (by first|omega|(simp;omega)) ?_;(refine aCM oq13 aK aL rfl rfl (by decide) (aI rfl ?_);intro b1211 m1211 o1211);refine aI ((o1211.boxBlk 3 rfl).trans (oq13.boxBlk 3 rfl).symm) ?_;refine aCh (B:=B) ‹_› (dO el.kind [[116,101,120,116],[110,117,109,98,101,114],[100,97,121],[102,108,97,103]] _ _ (by omega) (by omega) (Own.boxArr ‹_› 4 rfl rfl (by decide)) (by simp) (by simp)) (fun h14 m14 oc14 oq14=>?_) fun h14 m14 oq14=>?_
    case refine_2=>exact⟨(by rw[hRe];simp only[aR hel hQ (show(dY mR) i el=none by rw[hone];simp only[aA h13,lH (of_decide_eq_false h14),aJ,oMN,oMS]),aJ,oMN,oMS]),rfl,oq14⟩
    have h14:=of_decide_eq_true h14;have hw14:=jQ (n:=el.kind) h14;have hnl14:=kF (ws:=[[116,101,120,116],[110,117,109,98,101,114],[100,97,121],[102,108,97,103]]) (M:=10) (by simp) (el.kind - 1).toNat;generalize ([[116,101,120,116],[110,117,109,98,101,114],[100,97,121],[102,108,97,103]]:List aBs).getD (el.kind - 1).toNat []=w14 at hw14 hnl14;clear oc14;(refine aCM oq14 aK aL rfl rfl (by decide) (aI rfl ?_);intro b1260 m1260 o1260);refine aH [[32]++el.name,32::w14] 2 30 [2,3] (i:=5) ‹_› rfl rfl rfl hp12 rfl (by omega) (by omega) (by first|(simp;done)|(simp;omega)) (by omega) (by omega) (fun p15 v15 bs15 k15 m15 hp15 hb15 hk15 hl15 oq=>?_);have o15q:=oq
    simp only[pick,lgS,lgZ]at o15q
    clear oq;by_cases hz:el.dflt.k=0∧el.dflt.n=0∧el.dflt.t=[]
    ·have hzb:(!(decide (el.dflt.k=0)&&(decide (el.dflt.n=0)&&(decide (el.dflt.t=[])&&true))))=false:=by simp[hz.1,hz.2.1,hz.2.2]
     refine rR (fA kL rfl rfl rfl ?_);refine rR (aCg o15q 3 rfl bS rfl rfl rfl ?_);refine rR (aCl cN ?_);refine rR (neS qD rfl rfl rfl rfl ?_);refine Br.ffE hzb ?_;refine aCW (by omega) (by omega) ?_
     refine⟨rfl,?_⟩
     exact⟨⟨i+1,p15,v15,bs15,k15,ps++(aO [] [44]::([aD [32] el.name]++([aD [32] w14]++([]++[])))),by omega,rfl,hp15,bA hel hQ (by rw[hone];simp only[aA h13,hw14,if_pos hz,aJ,oMS]),by rw[hb15,hb12,hb'];simp[bG,fL,wr,aD,aO,bP],by rw[hk15,hk12,hk'];first|(simp;done)|(simp;omega),by omega,by omega,Own.sel ‹_› [0,1,2] rfl⟩,by simp;omega⟩
    ·have hzb:(!(decide (el.dflt.k=0)&&(decide (el.dflt.n=0)&&(decide (el.dflt.t=[])&&true))))=true:=by
      rw[aDs,aDq]
      intro hh
      simp at hh
      exact hz hh
     refine rR (fA kL rfl rfl rfl ?_);refine rR (aCg o15q 3 rfl bS rfl rfl rfl ?_);refine rR (aCl cN ?_);refine rR (neS qD rfl rfl rfl rfl ?_);refine Br.ttE hzb ?_;refine rR (nC rfl ?_);refine rR (fA bO rfl rfl rfl ?_);(refine aCM o15q aK aL rfl rfl (by decide) (aI rfl ?_);intro b1367 m1367 o1367);refine aH [[32,61]] 1 30 [2,3] (i:=4) ‹_› rfl rfl rfl hp15 rfl (by omega) (by omega) (by first|(simp;done)|(simp;omega)) (by omega) (by omega) (fun p16 v16 bs16 k16 m16 hp16 hb16 hk16 hl16 oq=>?_);have o16q:=oq
     simp only[pick,lgS,lgZ]at o16q
     clear oq;refine rR (fA kL rfl rfl rfl ?_);refine rR (aCg o16q 3 rfl bS rfl rfl rfl ?_);refine WEnds.callJ [2,3] ‹_› rfl rfl (fun J oj=>iT ⟨B.h,J++B.T⟩ b p16 v16 k16 bs16 el.dflt _ hp16 hT oj (by omega) hv1.2.2 hv1.2.1 (by omega)) (fun ps17 p17 v17 bs17 k17 m17 hq17 hp17 hb17 hk17 hl17 _ hj17 oq=>?_) (fun m17 hq17 oq=>?_)
     case refine_2=>exact⟨(by rw[hRe];simp only[aR hel hQ (show(dY mR) i el=none by rw[hone];simp only[aA h13,hw14,if_neg hz,hq17,aJ,oMN,oMS]),aJ,oMN,oMS]),rfl,oq⟩
     have o17q:=oq
     simp only[pick,lgS,lgZ]at o17q
     clear oq;refine aCW (by omega) (by omega) ?_
     refine⟨rfl,?_⟩
     exact⟨⟨i+1,p17,v17,bs17,k17,ps++(aO [] [44]::([aD [32] el.name]++([aD [32] w14]++(aO [32] [61]::ps17++[])))),by omega,rfl,hp17,bA hel hQ (by(first|rw[hone]|(show bI el=_;rw[hone]));simp only[aA h13,hw14,if_neg hz,hq17,aJ,oMS]),by rw[hb17,hb16,hb15,hb12,hb'];simp[bG,fL,wr,aD,aO,bP],by rw[hk17,hk16,hk15,hk12,hk'];first|(simp;done)|(simp;omega),by omega,by omega,Own.sel ‹_› [0,1,2] rfl⟩,by simp;omega⟩
   ·skip
    (refine aCM o12q aK aL rfl rfl (by decide) (aI rfl ?_);intro b1510 m1510 o1510);refine aI ((o1510.boxBlk 3 rfl).trans (o12q.boxBlk 3 rfl).symm) ?_;refine aCh (B:=B) ‹_› (bJ el.name _ hn1) (fun h18 m18 oc18 oq18=>?_) fun h18 m18 oq18=>?_
    case refine_2=>exact⟨(by rw[hRe];simp only[aR hel hQ (show(dY mR) i el=none by rw[hone];simp only[cS h18,aJ,oMN,oMS]),aJ,oMN,oMS]),rfl,oq18⟩
    have hnl18:=cR h18;refine aI ((oq18.boxBlk 3 rfl).trans (o1510.boxBlk 3 rfl).symm) ?_;refine aCm rfl rfl (by first|omega|(simp;omega)) ?_;refine aCh (B:=B) ‹_› (dO el.kind [[116,101,120,116],[110,117,109,98,101,114],[100,97,121],[102,108,97,103]] _ _ (by omega) (by omega) (Own.boxArr ‹_› 4 rfl rfl (by decide)) (by simp) (by simp)) (fun h19 m19 oc19 oq19=>?_) fun h19 m19 oq19=>?_
    case refine_2=>exact⟨(by rw[hRe];simp only[aR hel hQ (show(dY mR) i el=none by rw[hone];simp only[aA h18,lH (of_decide_eq_false h19),aJ,oMN,oMS]),aJ,oMN,oMS]),rfl,oq19⟩
    have h19:=of_decide_eq_true h19;have hw19:=jQ (n:=el.kind) h19;have hnl19:=kF (ws:=[[116,101,120,116],[110,117,109,98,101,114],[100,97,121],[102,108,97,103]]) (M:=10) (by simp) (el.kind - 1).toNat;generalize ([[116,101,120,116],[110,117,109,98,101,114],[100,97,121],[102,108,97,103]]:List aBs).getD (el.kind - 1).toNat []=w19 at hw19 hnl19;clear oc19;(refine aCM oq19 aK aL rfl rfl (by decide) (aI rfl ?_);intro b1610 m1610 o1610);refine aH [[32]++el.name,32::w19] 2 30 [2,3] (i:=5) ‹_› rfl rfl rfl hp12 rfl (by omega) (by omega) (by first|(simp;done)|(simp;omega)) (by omega) (by omega) (fun p20 v20 bs20 k20 m20 hp20 hb20 hk20 hl20 oq=>?_);have o20q:=oq
    simp only[pick,lgS,lgZ]at o20q
    clear oq;by_cases hz:el.dflt.k=0∧el.dflt.n=0∧el.dflt.t=[]
    ·have hzb:(!(decide (el.dflt.k=0)&&(decide (el.dflt.n=0)&&(decide (el.dflt.t=[])&&true))))=false:=by simp[hz.1,hz.2.1,hz.2.2]
     refine rR (fA kL rfl rfl rfl ?_);refine rR (aCg o20q 3 rfl bS rfl rfl rfl ?_);refine rR (aCl cN ?_);refine rR (neS qD rfl rfl rfl rfl ?_);refine Br.ffE hzb ?_;refine aCW (by omega) (by omega) ?_
     refine⟨rfl,?_⟩
     exact⟨⟨i+1,p20,v20,bs20,k20,ps++(aO [] [44]::([aD [32] el.name]++([aD [32] w19]++([]++[])))),by omega,rfl,hp20,bA hel hQ (by rw[hone];simp only[aA h18,hw19,if_pos hz,aJ,oMS]),by rw[hb20,hb12,hb'];simp[bG,fL,wr,aD,aO,bP],by rw[hk20,hk12,hk'];first|(simp;done)|(simp;omega),by omega,by omega,Own.sel ‹_› [0,1,2] rfl⟩,by simp;omega⟩
    ·have hzb:(!(decide (el.dflt.k=0)&&(decide (el.dflt.n=0)&&(decide (el.dflt.t=[])&&true))))=true:=by
      rw[aDs,aDq]
      intro hh
      simp at hh
      exact hz hh
     refine rR (fA kL rfl rfl rfl ?_);refine rR (aCg o20q 3 rfl bS rfl rfl rfl ?_);refine rR (aCl cN ?_);refine rR (neS qD rfl rfl rfl rfl ?_);refine Br.ttE hzb ?_;refine rR (nC rfl ?_);refine rR (fA bO rfl rfl rfl ?_);(refine aCM o20q aK aL rfl rfl (by decide) (aI rfl ?_);intro b1717 m1717 o1717);refine aH [[32,61]] 1 30 [2,3] (i:=4) ‹_› rfl rfl rfl hp20 rfl (by omega) (by omega) (by first|(simp;done)|(simp;omega)) (by omega) (by omega) (fun p21 v21 bs21 k21 m21 hp21 hb21 hk21 hl21 oq=>?_);have o21q:=oq
     simp only[pick,lgS,lgZ]at o21q
     clear oq;refine rR (fA kL rfl rfl rfl ?_);refine rR (aCg o21q 3 rfl bS rfl rfl rfl ?_);refine WEnds.callJ [2,3] ‹_› rfl rfl (fun J oj=>iT ⟨B.h,J++B.T⟩ b p21 v21 k21 bs21 el.dflt _ hp21 hT oj (by omega) hv1.2.2 hv1.2.1 (by omega)) (fun ps22 p22 v22 bs22 k22 m22 hq22 hp22 hb22 hk22 hl22 _ hj22 oq=>?_) (fun m22 hq22 oq=>?_)
     case refine_2=>exact⟨(by rw[hRe];simp only[aR hel hQ (show(dY mR) i el=none by rw[hone];simp only[aA h18,hw19,if_neg hz,hq22,aJ,oMN,oMS]),aJ,oMN,oMS]),rfl,oq⟩
     have o22q:=oq
     simp only[pick,lgS,lgZ]at o22q
     clear oq;refine aCW (by omega) (by omega) ?_
     refine⟨rfl,?_⟩
     exact⟨⟨i+1,p22,v22,bs22,k22,ps++(aO [] [44]::([aD [32] el.name]++([aD [32] w19]++(aO [32] [61]::ps22++[])))),by omega,rfl,hp22,bA hel hQ (by(first|rw[hone]|(show bI el=_;rw[hone]));simp only[aA h18,hw19,if_neg hz,hq22,aJ,oMS]),by rw[hb22,hb21,hb20,hb12,hb'];simp[bG,fL,wr,aD,aO,bP],by rw[hk22,hk21,hk20,hk12,hk'];first|(simp;done)|(simp;omega),by omega,by omega,Own.sel ‹_› [0,1,2] rfl⟩,by simp;omega⟩
 have hQL:=fR (aDt hlt) hQ;refine aCP (fun hc=>absurd hc (by omega)) (fun c1860=>?_);refine rR (nC rfl ?_);refine rR (fA bO rfl rfl rfl ?_);(refine aCM oh aK aL rfl rfl (by decide) (aI rfl ?_);intro b1863 m1863 o1863);refine aH [[41],[32,107,101,121]] 2 30 [2] (i:=3) ‹_› rfl rfl rfl hp' rfl (by omega) (by omega) (by first|(simp;done)|(simp;omega)) (by omega) (by omega) (fun p23 v23 bs23 k23 m23 hp23 hb23 hk23 hl23 oq=>?_);have o23q:=oq
 simp only[pick,lgS,lgZ]at o23q
 clear oq;refine rR (nC rfl ?_);refine rR (fA aC rfl rfl rfl ?_);refine rR (aCc o23q 2 rfl eV rfl rfl ?_);refine WEnds.callJ [2] ‹_› rfl rfl (fun J oj=>qU ⟨B.h,J++B.T⟩ b p23 v23 k23 bs23 [32] x.names _ _ hp23 (fun L h o=>(hN.ext (Own.ext (B:=⟨B.h,J++B.T⟩) o)).to1) oj (by omega) bnames (by omega) (by omega) (.inr rfl)) (fun ps24 p24 v24 bs24 k24 m24 hq24 hp24 hb24 hk24 hl24 _ hj24 oq=>?_) (fun m24 hq24 oq=>?_)
 case refine_2=>exact⟨(by rw[hRe];simp only[hQL,hq24,aJ,oMN,oMS]),rfl,oq⟩
 have o24q:=oq
 simp only[pick,lgS,lgZ]at o24q
 clear oq;refine rR (nC rfl ?_);refine rR (fA aC rfl rfl rfl ?_);(refine aCL o24q 2 rfl lS rfl (by simp) (aI ⟨rfl,rfl⟩ ?_);intro m1962 o1962);refine rR (nC rfl ?_);refine rR (fA aC rfl rfl rfl ?_);(refine aCL o1962 2 rfl eV rfl (by simp) (aI ⟨rfl,rfl⟩ ?_);intro m1965 o1965);refine aCY rfl ?_;exact IEnds.done (ps:=[aO [] [40]]++(ps++([aO [] [41],aD [32] [107,101,121]]++(ps24++[])))) (by rw[hRe];simp only[hQL,hq24,aJ,oMS]) (Own.sel ‹_› [0,1,2] rfl) hp24 (by rw[hb24,hb23,hb',hb1];simp[bG,fL,wr,aD,aO,bP]) (by rw[hk24,hk23,hk',hk1];first|(simp;done)|(simp;omega)) (by omega) (by omega)
theorem aAL (B:Base)(b bx:Nat)(p v:Value)(k:Int)(bs:aBs)(x:It)(z:Int)(vc vn vt vf vv vd e0 e1 e2 e3 e4 e5 e6 e7 e8:Value)(h:Heap)(hp:cO b p)(hT:jO B.h)(hOK:iQ x)
  (o:Own B [box b [p,v,.int .i64 k] 58,row v 5 1 bs.length (bytes bs),box bx (fE x z vc vn vt vf vv vd e0 e1 e2 e3 e4 e5 e6 e7 e8) 44] h) (hl:bs.length+2000*eI x≤50000000000000) (hk:0≤k∧k+2000*eI x≤50000000000000) :
  Spec Tryz.prog 71 [.pointer (some ⟨b,0,none⟩),.pointer (some ⟨bx,0,none⟩)] h (IEnds B b bx bs k (2000*eI x) (fE (clr2 x) z vc vn vt vf vv vd e0 e1 e2 e3 e4 e5 e6 e7 e8) (part2 x)):=by
 obtain⟨bkind,bname,btable,battr,bcols,bnames,bby,bn,bm,bterms,both,boat,bfixed,bvars,bconds,bexpr,lcols,lnames,lterms,lfixed,lvars,lconds⟩:=hOK
 have hsz:eI x=1+x.cols.length+x.names.length+x.terms.length+x.fixed.length+x.vars.length+x.conds.length+fI x.expr:=rfl;unfold fE at o;refine aCV Tryz.func71 rfl Tryz.ntmps71 (by kernel_rfl) ?_;have hRe:part2 x=aJ [some [aD [32] [116,114,117,115,116]],iD [32] x.n]:=rfl;refine aCS [0,1,2,3,4,5,8] [6] [7,9,10] [0,1,2,3,4,5,6,7,8,9,10] mixed (by kernel_rfl) rfl (fun _ _ _ _ h=>h) ?_;refine nC rfl ?_;refine fA bO rfl rfl rfl ?_;refine nC rfl ?_;refine fA aC rfl rfl rfl ?_;refine aCc o 2 rfl aT rfl rfl ?_;refine aCh (B:=B) ‹_› (bK x.n _ bn.1 bn.2 (hT.ext (Own.ext (B:=B) ‹_›))) (fun h1 m1 oc1 oq1=>?_) fun h1 m1 oq1=>?_
 case refine_2=>exact⟨(by rw[hRe];simp only[cY h1,aJ,oMN,oMS]),rfl,oq1⟩
 have hnl1:=bW h1;clear oc1;refine aCm rfl rfl (by first|omega|(simp;omega)) ?_;(refine aCM oq1 aK aL rfl rfl (by decide) (aI rfl ?_);intro b111 m111 o111);refine aH [[32,116,114,117,115,116],[32]++Lib.itoa x.n] 2 30 [2] (i:=3) ‹_› rfl rfl rfl hp rfl (by omega) (by omega) (by first|(simp;done)|(simp;omega)) (by omega) (by omega) (fun p2 v2 bs2 k2 m2 hp2 hb2 hk2 hl2 oq=>?_);have o2q:=oq
 simp only[pick,lgS,lgZ]at o2q
 clear oq;refine rR (nC rfl ?_);refine rR (fA aC rfl rfl rfl ?_);(refine aCL o2q 2 rfl aT rfl (by simp) (aI ⟨rfl,rfl⟩ ?_);intro m162 o162);refine aCY rfl ?_;exact IEnds.done (ps:=[aD [32] [116,114,117,115,116]]++([bP [32] x.n]++[])) (by rw[hRe];simp only[aB h1,aJ,oMS]) (Own.sel ‹_› [0,1,2] rfl) hp2 (by rw[hb2];simp[bG,fL,wr,aD,aO,bP]) (by rw[hk2];first|(simp;done)|(simp;omega)) (by omega) (by omega)
theorem aBK (B:Base)(b bx:Nat)(p v:Value)(k:Int)(bs:aBs)(x:It)(z:Int)(vc vn vt vf vv vd e0 e1 e2 e3 e4 e5 e6 e7 e8:Value)(h:Heap)(hp:cO b p)(hT:jO B.h)(hOK:iQ x)
  (o:Own B [box b [p,v,.int .i64 k] 58,row v 5 1 bs.length (bytes bs),box bx (fE x z vc vn vt vf vv vd e0 e1 e2 e3 e4 e5 e6 e7 e8) 44] h) (hl:bs.length+2000*eI x≤50000000000000) (hk:0≤k∧k+2000*eI x≤50000000000000) :
  Spec Tryz.prog 72 [.pointer (some ⟨b,0,none⟩),.pointer (some ⟨bx,0,none⟩)] h (IEnds B b bx bs k (2000*eI x) (fE (aAy x) z vc vn vt vf vv vd e0 e1 e2 e3 e4 e5 e6 e7 e8) (part3 x)):=by
 obtain⟨bkind,bname,btable,battr,bcols,bnames,bby,bn,bm,bterms,both,boat,bfixed,bvars,bconds,bexpr,lcols,lnames,lterms,lfixed,lvars,lconds⟩:=hOK
 have hsz:eI x=1+x.cols.length+x.names.length+x.terms.length+x.fixed.length+x.vars.length+x.conds.length+fI x.expr:=rfl;unfold fE at o;refine aCV Tryz.func72 rfl Tryz.ntmps72 (by kernel_rfl) ?_;have hRe:part3 x=aJ [some [aD [32] [111,110]],dW x.table x.attr,some [aD [32] [98,121]],gB x.by_ [[101,120,97,99,116],[116,111,107,101,110],[112,114,101,102,105,120],[115,107,101,116,99,104]],(if 3≤x.by_ then iD [32] x.n else some []),(if x.by_=4 then iD [32] x.m else some [])]:=rfl;refine rR (nC rfl ?_);refine rR (fA bO rfl rfl rfl ?_);(refine aCM o aK aL rfl rfl (by decide) (aI rfl ?_);intro b62 m62 o62);refine aH [[32,111,110]] 1 30 [2] (i:=3) ‹_› rfl rfl rfl hp rfl (by omega) (by omega) (by first|(simp;done)|(simp;omega)) (by omega) (by omega) (fun p1 v1 bs1 k1 m1 hp1 hb1 hk1 hl1 oq=>?_);have o1q:=oq
 simp only[pick,lgS,lgZ]at o1q
 clear oq;refine aCS [0,1,2,3,5,6,7] [4,8] [9] [0,1,2,3,4,5,6,7,8,9] mixed (by kernel_rfl) rfl (fun _ _ _ _ h=>h) ?_;refine nC rfl ?_;refine fA aC rfl rfl rfl ?_;refine aCc o1q 2 rfl aL rfl rfl ?_;refine nC rfl ?_;refine fA aC rfl rfl rfl ?_;refine aCc o1q 2 rfl aL rfl rfl ?_;refine WEnds.callJ [2] ‹_› rfl rfl (fun J oj=>mN ⟨B.h,J++B.T⟩ b p1 v1 k1 bs1 x.table x.attr _ hp1 oj (by omega) btable battr (by omega)) (fun ps2 p2 v2 bs2 k2 m2 hq2 hp2 hb2 hk2 hl2 _ hj2 oq=>?_) (fun m2 hq2 oq=>?_)
 case refine_2=>exact⟨(by rw[hRe];simp only[hq2,aJ,oMN,oMS]),rfl,oq⟩
 have o2q:=oq
 simp only[pick,lgS,lgZ]at o2q
 clear oq;refine aCS [0,1,2,3,4,5] [6] [8,9,10] [0,1,2,3,4,5,6,7,8,9,10] mixed (by kernel_rfl) rfl (fun _ _ _ _ h=>h) ?_;refine nC rfl ?_;refine fA bO rfl rfl rfl ?_;refine nC rfl ?_;refine fA aC rfl rfl rfl ?_;refine aCc o2q 2 rfl aT rfl rfl ?_;(refine aCM (Own.refl _) aK aL rfl rfl (by decide) (aI rfl ?_);intro b165 m165 o165);(refine aI o165.ext ?_;have o166:=Own.call o2q o165;simp only[lcA,lnA]at o166;clear o165);refine aCh (B:=B) ‹_› (dO x.by_ [[101,120,97,99,116],[116,111,107,101,110],[112,114,101,102,105,120],[115,107,101,116,99,104]] _ _ (by omega) (by omega) (Own.boxArr ‹_› 3 rfl rfl (by decide)) (by simp) (by simp)) (fun h3 m3 oc3 oq3=>?_) fun h3 m3 oq3=>?_
 case refine_2=>exact⟨(by rw[hRe];simp only[hq2,lH (of_decide_eq_false h3),aJ,oMN,oMS]),rfl,oq3⟩
 have h3:=of_decide_eq_true h3;have hw3:=jQ (n:=x.by_) h3;have hnl3:=kF (ws:=[[101,120,97,99,116],[116,111,107,101,110],[112,114,101,102,105,120],[115,107,101,116,99,104]]) (M:=10) (by simp) (x.by_ - 1).toNat;generalize ([[101,120,97,99,116],[116,111,107,101,110],[112,114,101,102,105,120],[115,107,101,116,99,104]]:List aBs).getD (x.by_ - 1).toNat []=w3 at hw3 hnl3;clear oc3;(refine aCM oq3 aK aL rfl rfl (by decide) (aI rfl ?_);intro b210 m210 o210);refine aH [[32,98,121],32::w3] 2 30 [2] (i:=4) ‹_› rfl rfl rfl hp2 rfl (by omega) (by omega) (by first|(simp;done)|(simp;omega)) (by omega) (by omega) (fun p4 v4 bs4 k4 m4 hp4 hb4 hk4 hl4 oq=>?_);have o4q:=oq
 simp only[pick,lgS,lgZ]at o4q
 clear oq;by_cases hby3:3≤x.by_
 ·by_cases hby4:x.by_=4
  ·have hc3:aAy x={ x with table:=[],attr:=[],by_:=0,n:=0,m:=0 }:=by unfold aAy;rw[if_pos hby3,if_pos hby4]
   rw[hc3]
   refine rR (nC rfl ?_);refine rR (fA aC rfl rfl rfl ?_);refine rR (aCc o4q 2 rfl aT rfl rfl ?_);refine aCP (fun c263=>?_) (fun hc=>absurd (by omega) hc);refine aCS [0,1,2,3,4,5,8] [6] [7,9,10] [0,1,2,3,4,5,6,7,8,9,10] mixed (by kernel_rfl) rfl (fun _ _ _ _ h=>h) ?_;refine nC rfl ?_;refine fA bO rfl rfl rfl ?_;refine nC rfl ?_;refine fA aC rfl rfl rfl ?_;refine aCc o4q 2 rfl aT rfl rfl ?_;refine aCh (B:=B) ‹_› (bK x.n _ bn.1 bn.2 (hT.ext (Own.ext (B:=B) ‹_›))) (fun h5 m5 oc5 oq5=>?_) fun h5 m5 oq5=>?_
   case refine_2=>exact⟨(by rw[hRe];simp only[hq2,hw3,if_pos hby3,if_pos hby4,cY h5,aJ,oMN,oMS]),rfl,oq5⟩
   have hnl5:=bW h5;clear oc5;refine aCm rfl rfl (by first|omega|(simp;omega)) ?_;(refine aCM oq5 aK aL rfl rfl (by decide) (aI rfl ?_);intro b311 m311 o311);refine aH [[32]++Lib.itoa x.n] 1 30 [2] (i:=3) ‹_› rfl rfl rfl hp4 rfl (by omega) (by omega) (by first|(simp;done)|(simp;omega)) (by omega) (by omega) (fun p6 v6 bs6 k6 m6 hp6 hb6 hk6 hl6 oq=>?_);have o6q:=oq
   simp only[pick,lgS,lgZ]at o6q
   clear oq;refine rR (nC rfl ?_);refine rR (fA aC rfl rfl rfl ?_);(refine aCL o6q 2 rfl aT rfl (by simp) (aI ⟨rfl,rfl⟩ ?_);intro m362 o362);refine rR (nC rfl ?_);refine rR (fA aC rfl rfl rfl ?_);refine rR (aCc o362 2 rfl aT rfl rfl ?_);refine aCP (fun c366=>?_) (fun hc=>absurd (by omega) hc);refine aCS [0,1,2,3,4,5,8] [6] [7,9,10] [0,1,2,3,4,5,6,7,8,9,10] mixed (by kernel_rfl) rfl (fun _ _ _ _ h=>h) ?_;refine nC rfl ?_;refine fA bO rfl rfl rfl ?_;refine nC rfl ?_;refine fA aC rfl rfl rfl ?_;refine aCc o362 2 rfl aT rfl rfl ?_;refine aCh (B:=B) ‹_› (bK x.m _ bm.1 bm.2 (hT.ext (Own.ext (B:=B) ‹_›))) (fun h7 m7 oc7 oq7=>?_) fun h7 m7 oq7=>?_
   case refine_2=>exact⟨(by rw[hRe];simp only[hq2,hw3,if_pos hby3,if_pos hby4,aB h5,cY h7,aJ,oMN,oMS]),rfl,oq7⟩
   have hnl7:=bW h7;clear oc7;refine aCm rfl rfl (by first|omega|(simp;omega)) ?_;(refine aCM oq7 aK aL rfl rfl (by decide) (aI rfl ?_);intro b411 m411 o411);refine aH [[32]++Lib.itoa x.m] 1 30 [2] (i:=3) ‹_› rfl rfl rfl hp6 rfl (by omega) (by omega) (by first|(simp;done)|(simp;omega)) (by omega) (by omega) (fun p8 v8 bs8 k8 m8 hp8 hb8 hk8 hl8 oq=>?_);have o8q:=oq
   simp only[pick,lgS,lgZ]at o8q
   clear oq;refine rR (nC rfl ?_);refine rR (fA aC rfl rfl rfl ?_);(refine aCL o8q 2 rfl aT rfl (by simp) (aI ⟨rfl,rfl⟩ ?_);intro m462 o462);refine rR (nC rfl ?_);refine rR (fA aC rfl rfl rfl ?_);(refine aCL o462 2 rfl aL rfl (by simp) (aI ⟨rfl,rfl⟩ ?_);intro m465 o465);refine rR (nC rfl ?_);refine rR (fA aC rfl rfl rfl ?_);(refine aCL o465 2 rfl aL rfl (by simp) (aI ⟨rfl,rfl⟩ ?_);intro m468 o468);refine rR (nC rfl ?_);refine rR (fA aC rfl rfl rfl ?_);(refine aCL o468 2 rfl aT rfl (by simp) (aI ⟨rfl,rfl⟩ ?_);intro m471 o471);refine aCY rfl ?_;exact IEnds.done (ps:=[aD [32] [111,110]]++(ps2++([aD [32] [98,121]]++([aD [32] w3]++([bP [32] x.n]++([bP [32] x.m]++[])))))) (by rw[hRe];simp only[hq2,hw3,if_pos hby3,if_pos hby4,aB h5,aB h7,aJ,oMS]) (Own.sel ‹_› [0,1,2] rfl) hp8 (by rw[hb8,hb6,hb4,hb2,hb1];simp[bG,fL,wr,aD,aO,bP]) (by rw[hk8,hk6,hk4,hk2,hk1];first|(simp;done)|(simp;omega)) (by omega) (by omega)
  ·have hc3:aAy x={ x with table:=[],attr:=[],by_:=0,n:=0 }:=by unfold aAy;rw[if_pos hby3,if_neg hby4]
   rw[hc3]
   refine rR (nC rfl ?_);refine rR (fA aC rfl rfl rfl ?_);refine rR (aCc o4q 2 rfl aT rfl rfl ?_);refine aCP (fun c513=>?_) (fun hc=>absurd (by omega) hc);refine aCS [0,1,2,3,4,5,8] [6] [7,9,10] [0,1,2,3,4,5,6,7,8,9,10] mixed (by kernel_rfl) rfl (fun _ _ _ _ h=>h) ?_;refine nC rfl ?_;refine fA bO rfl rfl rfl ?_;refine nC rfl ?_;refine fA aC rfl rfl rfl ?_;refine aCc o4q 2 rfl aT rfl rfl ?_;refine aCh (B:=B) ‹_› (bK x.n _ bn.1 bn.2 (hT.ext (Own.ext (B:=B) ‹_›))) (fun h9 m9 oc9 oq9=>?_) fun h9 m9 oq9=>?_
   case refine_2=>exact⟨(by rw[hRe];simp only[hq2,hw3,if_pos hby3,if_neg hby4,cY h9,aJ,oMN,oMS]),rfl,oq9⟩
   have hnl9:=bW h9;clear oc9;refine aCm rfl rfl (by first|omega|(simp;omega)) ?_;(refine aCM oq9 aK aL rfl rfl (by decide) (aI rfl ?_);intro b561 m561 o561);refine aH [[32]++Lib.itoa x.n] 1 30 [2] (i:=3) ‹_› rfl rfl rfl hp4 rfl (by omega) (by omega) (by first|(simp;done)|(simp;omega)) (by omega) (by omega) (fun p10 v10 bs10 k10 m10 hp10 hb10 hk10 hl10 oq=>?_);have o10q:=oq
   simp only[pick,lgS,lgZ]at o10q
   clear oq;refine rR (nC rfl ?_);refine rR (fA aC rfl rfl rfl ?_);(refine aCL o10q 2 rfl aT rfl (by simp) (aI ⟨rfl,rfl⟩ ?_);intro m612 o612);refine rR (nC rfl ?_);refine rR (fA aC rfl rfl rfl ?_);refine rR (aCc o612 2 rfl aT rfl rfl ?_);refine aCP (fun hc=>absurd hc (by omega)) (fun c616=>?_);refine rR (nC rfl ?_);refine rR (fA aC rfl rfl rfl ?_);(refine aCL o612 2 rfl aL rfl (by simp) (aI ⟨rfl,rfl⟩ ?_);intro m619 o619);refine rR (nC rfl ?_);refine rR (fA aC rfl rfl rfl ?_);(refine aCL o619 2 rfl aL rfl (by simp) (aI ⟨rfl,rfl⟩ ?_);intro m622 o622);refine rR (nC rfl ?_);refine rR (fA aC rfl rfl rfl ?_);(refine aCL o622 2 rfl aT rfl (by simp) (aI ⟨rfl,rfl⟩ ?_);intro m625 o625);refine aCY rfl ?_;exact IEnds.done (ps:=[aD [32] [111,110]]++(ps2++([aD [32] [98,121]]++([aD [32] w3]++([bP [32] x.n]++([]++[])))))) (by rw[hRe];simp only[hq2,hw3,if_pos hby3,if_neg hby4,aB h9,aJ,oMS]) (Own.sel ‹_› [0,1,2] rfl) hp10 (by rw[hb10,hb4,hb2,hb1];simp[bG,fL,wr,aD,aO,bP]) (by rw[hk10,hk4,hk2,hk1];first|(simp;done)|(simp;omega)) (by omega) (by omega)
 ·have hby4:¬ x.by_=4:=by omega
  have hc3:aAy x={ x with table:=[],attr:=[],by_:=0 }:=by unfold aAy;rw[if_neg hby3,if_neg hby4]
  rw[hc3]
  refine rR (nC rfl ?_);refine rR (fA aC rfl rfl rfl ?_);refine rR (aCc o4q 2 rfl aT rfl rfl ?_);refine aCP (fun hc=>absurd hc (by omega)) (fun c663=>?_);refine rR (nC rfl ?_);refine rR (fA aC rfl rfl rfl ?_);refine rR (aCc o4q 2 rfl aT rfl rfl ?_);refine aCP (fun hc=>absurd hc (by omega)) (fun c667=>?_);refine rR (nC rfl ?_);refine rR (fA aC rfl rfl rfl ?_);(refine aCL o4q 2 rfl aL rfl (by simp) (aI ⟨rfl,rfl⟩ ?_);intro m670 o670);refine rR (nC rfl ?_);refine rR (fA aC rfl rfl rfl ?_);(refine aCL o670 2 rfl aL rfl (by simp) (aI ⟨rfl,rfl⟩ ?_);intro m673 o673);refine rR (nC rfl ?_);refine rR (fA aC rfl rfl rfl ?_);(refine aCL o673 2 rfl aT rfl (by simp) (aI ⟨rfl,rfl⟩ ?_);intro m676 o676);refine aCY rfl ?_;exact IEnds.done (ps:=[aD [32] [111,110]]++(ps2++([aD [32] [98,121]]++([aD [32] w3]++([]++([]++[])))))) (by rw[hRe];simp only[hq2,hw3,if_neg hby3,if_neg hby4,aJ,oMS]) (Own.sel ‹_› [0,1,2] rfl) hp4 (by rw[hb4,hb2,hb1];simp[bG,fL,wr,aD,aO,bP]) (by rw[hk4,hk2,hk1];first|(simp;done)|(simp;omega)) (by omega) (by omega)
end Go.Proofs.YtohlogbnpfofpaaGreatDoor
