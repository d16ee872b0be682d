/- Part 13 of the proof of inverse: FnXo, FnXr, FnXp, FnQj, FnXs, FnEr, FnJo, FnYh, FnYs, FnYt. -/
import Derived.Lib.Builder
import Derived.Test.YtohlogbnpfofpaaGreatDoorPV12
set_option linter.all false
set_option maxHeartbeats 100000000
set_option maxRecDepth 100000
namespace Go.Proofs.YtohlogbnpfofpaaGreatDoor
open Go StillVC
def LEnds (B:Base)(b:Nat)(bs:aBs)(k:Int)(c:Nat)(x:It):Ending→Heap→Prop :=
 Ends (fun r h'=>∃ ps p' v',mH x=some ps∧r=.bool (kG x)∧cO b p'∧(gC ps).length≤c∧ps.length≤c∧Own B [box b [p',v',.int .i64 (k+ps.length)] 58,row v' 5 1 (bs++gC ps).length (bytes (bs++gC ps))] h')
  fun q h'=>mH x=none∧q=wG∧Own B [] h'
theorem mT (x:It):eI (dH x)=eI x:=by unfold dH;split<;>rfl
theorem oC (x:It):jD (dH x)=jD x:=by unfold dH;split<;>rfl
theorem iI (x:It):(dH x).kind=x.kind:=by unfold dH;split<;>rfl
theorem rB (x:It):(dH x).expr=x.expr:=by unfold dH;split<;>rfl
theorem sD {x:It}(h:iQ x):iQ (dH x):=by
 unfold dH;split
 ·exact h
 ·obtain⟨h1,h2,h3⟩:=h
  exact⟨h1,by simp,h3⟩
theorem xQ (x:It):(dR x).kind=x.kind:=by
 unfold dR
 repeat' split
 all_goals rfl
theorem aBA {x:It}(h:iQ x):iQ (dR x):=by
 obtain⟨bkind,bname,btable,battr,bcols,bnames,bby,bn,bm,bterms,both,boat,bfixed,bvars,bconds,bexpr,lcols,lnames,lterms,lfixed,lvars,lconds⟩:=h
 have hx0:gA ex0:=by unfold ex0;rw[gA];simp[oF]
 unfold dR
 repeat' split
 all_goals simp only[clr1,clr2,aAy,clr4,clr5,clr6,clr7,clr8,clr9,clr10]
 all_goals refine⟨by first|assumption|(simp;done),by first|assumption|(simp;done),by first|assumption|(simp;done),by first|assumption|(simp;done),by first|assumption|(simp;done),by first|assumption|(simp;done),by first|assumption|(simp;done),?_,?_,by first|assumption|(simp;done),by first|assumption|(simp;done),by first|assumption|(simp;done),by first|assumption|(simp;done),by first|assumption|(simp;done),by first|assumption|(simp;done),by first|assumption|(simp;done),by first|assumption|(simp;done),by first|assumption|(simp;done),by first|assumption|(simp;done),by first|assumption|(simp;done),by first|assumption|(simp;done),by first|assumption|(simp;done)⟩
 all_goals try dsimp only
 all_goals first|assumption|omega|(split<;>omega)
theorem aBr (x:It):decide ((if (dH x).kind=10∧12<bY (dH x).expr then(-1:Int) else 0)=0)=kG x:=by
 rw[iI,rB]
 unfold kG
 apply decide_eq_decide.2
 by_cases h1:x.kind=10
 ·by_cases h2:12<bY x.expr
  ·rw[if_pos ⟨h1,h2⟩]
   exact⟨fun h=>absurd h (by decide),fun h=>absurd (h h1) (by omega)⟩
  ·rw[if_neg (fun h=>h2 h.2)]
   exact⟨fun _ _=>by omega,fun _=>rfl⟩
 ·rw[if_neg (fun h=>h1 h.1)]
  exact⟨fun _ h=>absurd h h1,fun _=>rfl⟩
theorem LEnds.done {B:Base}{b:Nat}{bs bs':aBs}{k k':Int}{c:Nat}{x:It}{ps:List Pc}{p v r:Value}{h:Heap}(hq:mH x=some ps)(o:Own B [box b [p,v,.int .i64 k'] 58,row v 5 1 bs'.length (bytes bs')] h)(hp:cO b p)(hb:bs'=bs++gC ps)(hk:k'=k+ps.length)
  (hc:bs'.length≤bs.length+c) (hc2:k'≤k+c) (hr:r=.bool (kG x)):LEnds B b bs k c x (.returned r) h:=by
 subst hb;subst hk
 rw[aDa]at hc
 exact⟨ps,p,v,hq,hr,hp,by omega,by omega,o⟩
theorem itemQ_eq (x:It)(hkd:1≤x.kind∧x.kind≤10):mH x=if wE (dR (dH x))=true then aJ [some [aD [] (dS.getD (x.kind - 1).toNat [])],(if x.kind=5 then some [] else aZ [32] x.name),jD x,some [if x.kind=4 then aO [10] [125] else aO [] [59]]] else none:=by
 rw[empty_bare hkd.1 hkd.2]
 unfold mH;by_cases hc:(bareI x&&(decide (x.kind=10)||aAU x.expr))=true
 ·have hc2:=hc
  simp only[aC8,aDR,decide_eq_true_eq]at hc2
  rw[if_pos ⟨hkd.1,hkd.2,hc2.1,hc2.2⟩,if_pos hc]
 ·rw[if_neg hc,if_neg]
  rintro⟨_,_,h1,h2⟩
  apply hc
  rw[h1]
  rcases h2 with h2|h2<;>simp[h2]
theorem prItem_spec (B:Base)(b:Nat)(p v:Value)(k:Int)(bs:aBs)(x:It)(c:aVs)(h:Heap)(hp:cO b p)(hT:jO B.h)(hF:gX B.h)(hOK:iQ x)(hc:itH B.h c x)(hLev:bY x.expr≤100000000000)
  (o:Own B [box b [p,v,.int .i64 k] 58,row v 5 1 bs.length (bytes bs)] h) (hl:bs.length+3000*eI x≤40000000000000) (hk:0≤k∧k+3000*eI x≤40000000000000) :
  Spec Tryz.prog 19 [.pointer (some ⟨b,0,none⟩),.agg ⟨c⟩] h (LEnds B b bs k (3000*eI x) x):=by
 obtain⟨z,vc,vn,vt,vf,vv,vd,e0,e1,e2,e3,e4,e5,e6,e7,e8,rfl,q1,q2,q3,q4,q5,q6,rx⟩:=hc
 have hOK2:=hOK
 obtain⟨bkind,bname,btable,battr,bcols,bnames,bby,bn,bm,bterms,both,boat,bfixed,bvars,bconds,bexpr,lcols,lnames,lterms,lfixed,lvars,lconds⟩:=hOK
 have hsz:eI x=1+x.cols.length+x.names.length+x.terms.length+x.fixed.length+x.vars.length+x.conds.length+fI x.expr:=rfl;unfold fE;refine aCV Tryz.func19 rfl Tryz.ntmps19 (by kernel_rfl) ?_;by_cases hkd:1≤x.kind∧x.kind≤10
 case neg =>
  have hq:mH x=none:=by unfold mH;rw[if_neg (fun h=>hkd ⟨h.1,h.2.1⟩)]
  by_cases h1:1≤x.kind
  ·(refine aCq o rfl ?_;intro b10 m10 o10)
   refine rR (fA aC rfl rfl rfl ?_);refine rR (aCc o10 2 rfl aT rfl rfl ?_);refine aCP (fun c13=>?_) (fun hc=>absurd (by omega) hc);refine rR (fA aC rfl rfl rfl ?_);refine rR (aCc o10 2 rfl aT rfl rfl ?_);refine aCh (B:=B) ‹_› (aE _ _) (fun g1 m2 _ oq=>absurd (of_decide_eq_true g1) (by omega)) fun g1 m2 oq=>?_
   exact⟨hq,rfl,oq⟩
  ·(refine aCq o rfl ?_;intro b30 m30 o30)
   refine rR (fA aC rfl rfl rfl ?_);refine rR (aCc o30 2 rfl aT rfl rfl ?_);refine aCP (fun hc=>absurd hc (by omega)) (fun c33=>?_);refine aCh (B:=B) ‹_› (aE _ _) (fun g1 m2 _ oq=>by cases g1) fun g1 m2 oq=>?_
   exact⟨hq,rfl,oq⟩
 have hiq:=itemQ_eq x hkd;(refine aCq o rfl ?_;intro b50 m50 o50);refine rR (fA aC rfl rfl rfl ?_);refine rR (aCc o50 2 rfl aT rfl rfl ?_);refine aCP (fun c53=>?_) (fun hc=>absurd (by omega) hc);refine rR (fA aC rfl rfl rfl ?_);refine rR (aCc o50 2 rfl aT rfl rfl ?_);refine aCh (B:=B) ‹_› (aE _ _) (fun g1 m2 oc oq=>?_) fun g1 m2 oq=>absurd (of_decide_eq_false g1) (by omega);clear oc;refine aCS [0,1,2,3,7] [4] [6,8,9] [0,1,2,3,4,5,6,7,8,9] mixed (by kernel_rfl) rfl (fun _ _ _ _ h=>h) ?_;refine nC rfl ?_;refine fA bO rfl rfl rfl ?_;refine fA aC rfl rfl rfl ?_;refine aCc oq 2 rfl aT rfl rfl ?_;(refine aCM (Own.refl _) aK aL rfl rfl (by decide) (aI rfl ?_);intro b74 m74 o74);(refine aI o74.ext ?_;have o75:=Own.call oq o74;simp only[lcA,lnA]at o75;clear o74);refine aCh (B:=B) ‹_› (dO x.kind dS _ _ (by omega) (by omega) (Own.boxArr ‹_› 3 rfl rfl (by decide)) (by decide) (by decide)) (fun g2 m3 oc oq=>?_) fun g2 m3 oq=>absurd (of_decide_eq_false g2) (by show ¬ ¬ (1≤x.kind∧x.kind≤10);omega);have hwl:=kF (ws:=dS) (M:=10) (by decide) (x.kind - 1).toNat;generalize hwd:dS.getD (x.kind - 1).toNat []=wd at hwl hiq;clear oc;refine aCF cT rfl ⟨_,rfl⟩ rfl (by omega) (by show(1:Int)≤((32::wd).length:Int);simp only[aDb];omega) (by omega) ?_;(refine aCM oq aK aL rfl rfl (by decide) (aI rfl ?_);intro b91 m91 o91)
 rw[show List.drop (1:Int).toNat (List.take (((32::wd).length:Nat):Int).toNat (32::wd))=wd by simp]at *
 refine aH [wd] 1 30 [2] (i:=4) ‹_› rfl rfl rfl hp rfl (by omega) (by omega) (by simp;omega) (by omega) (by omega) (fun p1 v1 bs1 k1 m1 hp1 hb1 hk1 hl1 oq=>?_);have o1:Own B [box b [p1,v1,.int .i64 k1] 58,row v1 5 1 bs1.length (bytes bs1),box b50 [.int .i64 x.kind,.string ⟨⟨x.name⟩⟩,.int .i64 z,.string ⟨⟨x.table⟩⟩,.string ⟨⟨x.attr⟩⟩,vc,vn,.int .i64 x.by_,.int .i64 x.n,.int .i64 x.m,vt,.string ⟨⟨x.other⟩⟩,.string ⟨⟨x.oattr⟩⟩,vf,vv,vd,e0,e1,e2,e3,e4,e5,e6,e7,e8] 44] m1:=oq;clear oq;have hF2:∀ nm,(x.kind=5→nm=x.name)→(x.kind≠5→nm=[])→itH B.h (fE (dH x) 0 vc vn vt vf vv vd e0 e1 e2 e3 e4 e5 e6 e7 e8) (dH x)∧fE (dH x) 0 vc vn vt vf vv vd e0 e1 e2 e3 e4 e5 e6 e7 e8=[.int .i64 x.kind,.string ⟨⟨nm⟩⟩,.int .i64 0,.string ⟨⟨x.table⟩⟩,.string ⟨⟨x.attr⟩⟩,vc,vn,.int .i64 x.by_,.int .i64 x.n,.int .i64 x.m,vt,.string ⟨⟨x.other⟩⟩,.string ⟨⟨x.oattr⟩⟩,vf,vv,vd,e0,e1,e2,e3,e4,e5,e6,e7,e8]:=by
  intro nm h5 hn5
  refine⟨⟨0,_,_,_,_,_,_,_,_,_,_,_,_,_,_,_,rfl,?_⟩,?_⟩
  ·unfold dH
   split<;>exact⟨q1,q2,q3,q4,q5,q6,rx⟩
  ·unfold dH
   split
   ·rename_i h;rw[h5 h];rfl
   ·rename_i h;rw[hn5 h];rfl
 have fin:∀(nm:aBs) (p2 v2:Value) (bs2:aBs) (k2:Int) (ps2:List Pc) (m2:Heap),(if x.kind=5 then some [] else aZ [32] x.name)=some ps2→True:=fun _ _ _ _ _ _ _ _=>trivial;clear fin;by_cases h5:x.kind=5
 ·obtain⟨hcN,hcE⟩:=hF2 x.name (fun _=>rfl) (fun h=>absurd h5 h)
  refine rR (fA aC rfl rfl rfl ?_);(refine aCL o1 2 rfl aT rfl (by simp) (aI ⟨rfl,rfl⟩ ?_);intro m201 o201);refine rR (fA aC rfl rfl rfl ?_);refine rR (aCc o201 2 rfl aT rfl rfl ?_);refine aCi (fun hc=>absurd (by first|omega|assumption|decide|exact rfl) hc) (fun c204=>?_);refine aCS [1,3,4] [2] [5] [1,2,4,0,3,5] mixed (by kernel_rfl) rfl (fun _ _ _ _ h=>h) ?_;refine fA aC rfl rfl rfl ?_;refine aCc o201 2 rfl aT rfl rfl ?_;refine aCT (tK _) ?_;rintro _ m6 ⟨rfl,oc⟩;have o4:=oc.thenE (B:=B) ‹_›
  refine⟨oc.ext,?_⟩
  clear oc;have hwA:=wrN_at hkd.1 hkd.2;refine indexA arr80 rfl rfl (by omega) (by omega) (by first|rfl|assumption) ?_;have o5:Own B [box b [p1,v1,.int .i64 k1] 58,row v1 5 1 bs1.length (bytes bs1),box b50 (fE (dH x) 0 vc vn vt vf vv vd e0 e1 e2 e3 e4 e5 e6 e7 e8) 44] m6:=by rw[hcE];exact o4
  have hsp:=yI B b b50 p1 v1 k1 bs1 (dH x) 0 vc vn vt vf vv vd e0 e1 e2 e3 e4 e5 e6 e7 e8 m6 hp1 hT hF (sD hOK2) (by rw[iI];exact hkd) hcN (by rw[rB];exact hLev) o5 (by rw[mT];omega) (by rw[mT];omega)
  rw[iI,mT]at hsp
  unfold WAny at hsp;refine aCU hsp (fun _ m7 ⟨ps4,p4,v4,uc,un,ut,uf,uv,ud,f0,f1,f2,f3,f4,f5,f6,f7,f8,hq4,hr4,hp4,hl4,hl4',hI,o6⟩=>?_) (fun _ m7 ⟨hq4,hr4,o6⟩=>?_)
  case refine_2 =>
   subst hr4
   rw[oC]at hq4
   exact⟨hiq.trans (by split;simp only[if_pos h5,hq4,aJ,oMN,oMS];rfl),rfl,o6⟩
  subst hr4
  rw[oC]at hq4
  have hyk:=xQ (dH x)
  rw[iI]at hyk
  have hyok:=aBA (sD hOK2);have hfz:decide ((if (dH x).kind=10∧12<bY (dH x).expr then(-1:Int) else 0)=0)=kG x:=aBr x;generalize (if (dH x).kind=10∧12<bY (dH x).expr then(-1:Int) else 0)=z' at o6 hI hfz;generalize dR (dH x)=y at o6 hI hyk hyok hiq;have hpl:(bs1++bG ps4).length=bs1.length+(bG ps4).length:=aDa;generalize hb4:bs1++bG ps4=bs4 at o6 hpl;have hk4:k1+(ps4.length:Int)=k1+ps4.length:=rfl;generalize hkk4:k1+(ps4.length:Int)=k4 at o6;unfold fE at o6 hI;clear o4 o5 hsp;refine rR (aCg o6 2 rfl iC rfl rfl rfl ?_);refine aCT (tW y _ _ hyok (hI.ext (Own.ext (B:=B) o6))) ?_;rintro _ m8 ⟨rfl,oc⟩;have o7:=oc.thenE (B:=B) o6;clear oc o6;refine aCh (B:=B) ‹_› (aE _ _) (fun g9 m9 oc oq=>?_) fun g9 m9 oq=>?_
  case refine_2=>exact⟨hiq.trans (if_neg (by rw[g9];decide)),rfl,oq⟩
  rw[if_pos g9]at hiq
  clear oc o7;by_cases h4:x.kind=4
  ·skip
   refine rR (fA aC rfl rfl rfl ?_);refine rR (aCc oq 2 rfl aT rfl rfl ?_);refine aCP (fun c482=>?_) (fun hc=>absurd (by omega) hc);refine rR (nC rfl ?_);refine rR (fA bO rfl rfl rfl ?_);(refine aCM oq aK aL rfl rfl (by decide) (aI rfl ?_);intro b485 m485 o485);refine aH [[10,125]] 1 30 [2] (i:=3) ‹_› rfl rfl rfl hp4 rfl (by omega) (by omega) (by simp) (by omega) (by omega) (fun p6 v6 bs6 k6 m10 hp6 hb6 hk6 hl6 oz=>?_);have o8:=oz
   simp only[pick,lgS,lgZ]at o8
   clear oz;refine rR (nC rfl ?_);refine rR (fA bO rfl rfl rfl ?_);refine rR (fA yV rfl rfl rfl ?_);refine aCT (pD b p6 v6 k6 bs6 10 _ _ hp6 (o8.lend [0,1] [2] rfl) (by omega)) ?_;rintro _ m11 ⟨rfl,v7,o9⟩;have o10:=o9.back
   simp only[pick,wSt,lcA,lnA,lgS,lgZ]at o10
   clear o8 o9;refine rR (fA aC rfl rfl rfl ?_);refine rR (aCc o10 2 rfl aT rfl rfl ?_);refine aCX rfl ?_;have hq:=hiq.trans (show _=some ([aD [] wd]++([]++(ps4++([aO [10] [125]]++[])))) by rw[if_pos h4];simp only[if_pos h5,hq4,aJ,oMS]);have hbt:bs6++[10]=bs++gC ([aD [] wd]++([]++(ps4++([aO [10] [125]]++[])))):=by rw[hb6,← hb4,hb1];simp[gC,bG,fL,wr,aD,aO]
   have hkt:k6=k+(([aD [] wd]++([]++(ps4++([aO [10] [125]]++[]))):List Pc).length:Int):=by rw[hk6,← hkk4,hk1];first|(simp;done)|(simp;omega)
   exact LEnds.done hq (Own.sel ‹_› [0,1] rfl) (.inr rfl) hbt hkt (by simp only[aDa,aDb,aDn];omega) (by omega) (congrArg Value.bool hfz)
  ·skip
   refine rR (fA aC rfl rfl rfl ?_);refine rR (aCc oq 2 rfl aT rfl rfl ?_);refine aCP (fun hc=>absurd hc (by omega)) (fun c542=>?_);refine rR (nC rfl ?_);refine rR (fA bO rfl rfl rfl ?_);(refine aCM oq aK aL rfl rfl (by decide) (aI rfl ?_);intro b545 m545 o545);refine aH [[59]] 1 30 [2] (i:=3) ‹_› rfl rfl rfl hp4 rfl (by omega) (by omega) (by simp) (by omega) (by omega) (fun p6 v6 bs6 k6 m10 hp6 hb6 hk6 hl6 oz=>?_);have o8:=oz
   simp only[pick,lgS,lgZ]at o8
   clear oz;refine rR (nC rfl ?_);refine rR (fA bO rfl rfl rfl ?_);refine rR (fA yV rfl rfl rfl ?_);refine aCT (pD b p6 v6 k6 bs6 10 _ _ hp6 (o8.lend [0,1] [2] rfl) (by omega)) ?_;rintro _ m11 ⟨rfl,v7,o9⟩;have o10:=o9.back
   simp only[pick,wSt,lcA,lnA,lgS,lgZ]at o10
   clear o8 o9;refine rR (fA aC rfl rfl rfl ?_);refine rR (aCc o10 2 rfl aT rfl rfl ?_);refine aCX rfl ?_;have hq:=hiq.trans (show _=some ([aD [] wd]++([]++(ps4++([aO [] [59]]++[])))) by rw[if_neg h4];simp only[if_pos h5,hq4,aJ,oMS]);have hbt:bs6++[10]=bs++gC ([aD [] wd]++([]++(ps4++([aO [] [59]]++[])))):=by rw[hb6,← hb4,hb1];simp[gC,bG,fL,wr,aD,aO]
   have hkt:k6=k+(([aD [] wd]++([]++(ps4++([aO [] [59]]++[]))):List Pc).length:Int):=by rw[hk6,← hkk4,hk1];first|(simp;done)|(simp;omega)
   exact LEnds.done hq (Own.sel ‹_› [0,1] rfl) (.inr rfl) hbt hkt (by simp only[aDa,aDb,aDn];omega) (by omega) (congrArg Value.bool hfz)
 ·obtain⟨hcN,hcE⟩:=hF2 [] (fun h=>absurd h h5) (fun _=>rfl)
  refine rR (fA aC rfl rfl rfl ?_);(refine aCL o1 2 rfl aT rfl (by simp) (aI ⟨rfl,rfl⟩ ?_);intro m301 o301);refine rR (fA aC rfl rfl rfl ?_);refine rR (aCc o301 2 rfl aT rfl rfl ?_);refine aCi (fun c304=>?_) (fun hc=>absurd hc (by first|omega|assumption|decide|exact rfl));refine aCS [0,1,2,3,6] [4] [5,7,8] [0,1,2,3,4,5,6,7,8] mixed (by kernel_rfl) rfl (fun _ _ _ _ h=>h) ?_;refine nC rfl ?_;refine fA bO rfl rfl rfl ?_;refine fA aC rfl rfl rfl ?_;refine aCc o301 2 rfl aL rfl rfl ?_;refine aCh (B:=B) ‹_› (bJ x.name _ bname) (fun g3 m4 oc oq=>?_) fun g3 m4 oq=>?_
  case refine_2 =>
   have hn:=cS (b:=[32]) g3
   exact⟨hiq.trans (by split;simp only[if_neg h5,hn,aJ,oMN];rfl),rfl,oq⟩
  have hnl:=cR g3;clear oc;refine aCm rfl rfl (by first|omega|(simp;omega)) ?_;(refine aCM oq aK aL rfl rfl (by decide) (aI rfl ?_);intro b331 m331 o331);refine aH [[32]++x.name] 1 30 [2] (i:=3) ‹_› rfl rfl rfl hp1 rfl (by omega) (by omega) (by simp;omega) (by omega) (by omega) (fun p3 v3 bs3 k3 m5 hp3 hb3 hk3 hl3 oq=>?_);have o3:=oq
  simp only[pick,lgS,lgZ]at o3
  clear oq;refine rR (fA aC rfl rfl rfl ?_);(refine aCL o3 2 rfl aL rfl (by simp) (aI ⟨rfl,rfl⟩ ?_);intro m361 o361);refine aCS [1,3,4] [2] [5] [1,2,4,0,3,5] mixed (by kernel_rfl) rfl (fun _ _ _ _ h=>h) ?_;refine fA aC rfl rfl rfl ?_;refine aCc o361 2 rfl aT rfl rfl ?_;refine aCT (tK _) ?_;rintro _ m6 ⟨rfl,oc⟩;have o4:=oc.thenE (B:=B) ‹_›
  refine⟨oc.ext,?_⟩
  clear oc;have hwA:=wrN_at hkd.1 hkd.2;refine indexA arr80 rfl rfl (by omega) (by omega) (by first|rfl|assumption) ?_;have o5:Own B [box b [p3,v3,.int .i64 k3] 58,row v3 5 1 bs3.length (bytes bs3),box b50 (fE (dH x) 0 vc vn vt vf vv vd e0 e1 e2 e3 e4 e5 e6 e7 e8) 44] m6:=by rw[hcE];exact o4
  have hsp:=yI B b b50 p3 v3 k3 bs3 (dH x) 0 vc vn vt vf vv vd e0 e1 e2 e3 e4 e5 e6 e7 e8 m6 hp3 hT hF (sD hOK2) (by rw[iI];exact hkd) hcN (by rw[rB];exact hLev) o5 (by rw[mT];omega) (by rw[mT];omega)
  rw[iI,mT]at hsp
  unfold WAny at hsp;refine aCU hsp (fun _ m7 ⟨ps4,p4,v4,uc,un,ut,uf,uv,ud,f0,f1,f2,f3,f4,f5,f6,f7,f8,hq4,hr4,hp4,hl4,hl4',hI,o6⟩=>?_) (fun _ m7 ⟨hq4,hr4,o6⟩=>?_)
  case refine_2 =>
   subst hr4
   rw[oC]at hq4
   exact⟨hiq.trans (by split;simp only[if_neg h5,aA g3,hq4,aJ,oMN,oMS];rfl),rfl,o6⟩
  subst hr4
  rw[oC]at hq4
  have hyk:=xQ (dH x)
  rw[iI]at hyk
  have hyok:=aBA (sD hOK2);have hfz:decide ((if (dH x).kind=10∧12<bY (dH x).expr then(-1:Int) else 0)=0)=kG x:=aBr x;generalize (if (dH x).kind=10∧12<bY (dH x).expr then(-1:Int) else 0)=z' at o6 hI hfz;generalize dR (dH x)=y at o6 hI hyk hyok hiq;have hpl:(bs3++bG ps4).length=bs3.length+(bG ps4).length:=aDa;generalize hb4:bs3++bG ps4=bs4 at o6 hpl;have hk4:k3+(ps4.length:Int)=k3+ps4.length:=rfl;generalize hkk4:k3+(ps4.length:Int)=k4 at o6;unfold fE at o6 hI;clear o4 o5 hsp;refine rR (aCg o6 2 rfl iC rfl rfl rfl ?_);refine aCT (tW y _ _ hyok (hI.ext (Own.ext (B:=B) o6))) ?_;rintro _ m8 ⟨rfl,oc⟩;have o7:=oc.thenE (B:=B) o6;clear oc o6;refine aCh (B:=B) ‹_› (aE _ _) (fun g9 m9 oc oq=>?_) fun g9 m9 oq=>?_
  case refine_2=>exact⟨hiq.trans (if_neg (by rw[g9];decide)),rfl,oq⟩
  rw[if_pos g9]at hiq
  clear oc o7;by_cases h4:x.kind=4
  ·skip
   refine rR (fA aC rfl rfl rfl ?_);refine rR (aCc oq 2 rfl aT rfl rfl ?_);refine aCP (fun c782=>?_) (fun hc=>absurd (by omega) hc);refine rR (nC rfl ?_);refine rR (fA bO rfl rfl rfl ?_);(refine aCM oq aK aL rfl rfl (by decide) (aI rfl ?_);intro b785 m785 o785);refine aH [[10,125]] 1 30 [2] (i:=3) ‹_› rfl rfl rfl hp4 rfl (by omega) (by omega) (by simp) (by omega) (by omega) (fun p6 v6 bs6 k6 m10 hp6 hb6 hk6 hl6 oz=>?_);have o8:=oz
   simp only[pick,lgS,lgZ]at o8
   clear oz;refine rR (nC rfl ?_);refine rR (fA bO rfl rfl rfl ?_);refine rR (fA yV rfl rfl rfl ?_);refine aCT (pD b p6 v6 k6 bs6 10 _ _ hp6 (o8.lend [0,1] [2] rfl) (by omega)) ?_;rintro _ m11 ⟨rfl,v7,o9⟩;have o10:=o9.back
   simp only[pick,wSt,lcA,lnA,lgS,lgZ]at o10
   clear o8 o9;refine rR (fA aC rfl rfl rfl ?_);refine rR (aCc o10 2 rfl aT rfl rfl ?_);refine aCX rfl ?_;have hq:=hiq.trans (show _=some ([aD [] wd]++([aD [32] x.name]++(ps4++([aO [10] [125]]++[])))) by rw[if_pos h4];simp only[if_neg h5,aA g3,hq4,aJ,oMS]);have hbt:bs6++[10]=bs++gC ([aD [] wd]++([aD [32] x.name]++(ps4++([aO [10] [125]]++[])))):=by rw[hb6,← hb4,hb3,hb1];simp[gC,bG,fL,wr,aD,aO]
   have hkt:k6=k+(([aD [] wd]++([aD [32] x.name]++(ps4++([aO [10] [125]]++[]))):List Pc).length:Int):=by rw[hk6,← hkk4,hk3,hk1];first|(simp;done)|(simp;omega)
   exact LEnds.done hq (Own.sel ‹_› [0,1] rfl) (.inr rfl) hbt hkt (by simp only[aDa,aDb,aDn];omega) (by omega) (congrArg Value.bool hfz)
  ·skip
   refine rR (fA aC rfl rfl rfl ?_);refine rR (aCc oq 2 rfl aT rfl rfl ?_);refine aCP (fun hc=>absurd hc (by omega)) (fun c842=>?_);refine rR (nC rfl ?_);refine rR (fA bO rfl rfl rfl ?_);(refine aCM oq aK aL rfl rfl (by decide) (aI rfl ?_);intro b845 m845 o845);refine aH [[59]] 1 30 [2] (i:=3) ‹_› rfl rfl rfl hp4 rfl (by omega) (by omega) (by simp) (by omega) (by omega) (fun p6 v6 bs6 k6 m10 hp6 hb6 hk6 hl6 oz=>?_);have o8:=oz
   simp only[pick,lgS,lgZ]at o8
   clear oz;refine rR (nC rfl ?_);refine rR (fA bO rfl rfl rfl ?_);refine rR (fA yV rfl rfl rfl ?_);refine aCT (pD b p6 v6 k6 bs6 10 _ _ hp6 (o8.lend [0,1] [2] rfl) (by omega)) ?_;rintro _ m11 ⟨rfl,v7,o9⟩;have o10:=o9.back
   simp only[pick,wSt,lcA,lnA,lgS,lgZ]at o10
   clear o8 o9;refine rR (fA aC rfl rfl rfl ?_);refine rR (aCc o10 2 rfl aT rfl rfl ?_);refine aCX rfl ?_;have hq:=hiq.trans (show _=some ([aD [] wd]++([aD [32] x.name]++(ps4++([aO [] [59]]++[])))) by rw[if_neg h4];simp only[if_neg h5,aA g3,hq4,aJ,oMS]);have hbt:bs6++[10]=bs++gC ([aD [] wd]++([aD [32] x.name]++(ps4++([aO [] [59]]++[])))):=by rw[hb6,← hb4,hb3,hb1];simp[gC,bG,fL,wr,aD,aO]
   have hkt:k6=k+(([aD [] wd]++([aD [32] x.name]++(ps4++([aO [] [59]]++[]))):List Pc).length:Int):=by rw[hk6,← hkk4,hk3,hk1];first|(simp;done)|(simp;omega)
   exact LEnds.done hq (Own.sel ‹_› [0,1] rfl) (.inr rfl) hbt hkt (by simp only[aDa,aDb,aDn];omega) (by omega) (congrArg Value.bool hfz)
theorem xX {P:Program}{s:aVs}{h:Heap}{fn:Func}{a b ta tb:Nat}{za zb:aVs}{ya yb pa pb:Nat}{u v:Value}(hf:fn.results=#[.cell a ta,.cell b tb])
  (hA:TyI P ta false za ya) (hB:TyI P tb false zb yb) (ea:sget s a=.pointer (some ⟨pa,0,none⟩)) (eb:sget s b=.pointer (some ⟨pb,0,none⟩))
  (ca:aY h ⟨pa,0,none⟩=some u) (cb:aY h ⟨pb,0,none⟩=some v) (w:World) (hw:w.heap=h) :
  (results fn s.toArray).run P w=.ok (.tuple ⟨[u,v]⟩) w:=by
 have e1:s.toArray.getD a undef=.pointer (some ⟨pa,0,none⟩):=by rw[← ea,← dE];simp
 have e2:s.toArray.getD b undef=.pointer (some ⟨pb,0,none⟩):=by rw[← eb,← dE];simp
 simp only[Array.getD_eq_getD_getElem?,aDo]at e1 e2
 subst hw
 rw[← gV]at ca cb
 simp[results,hf,e1,e2,asAddr,loadVar,hA.isAgg,hB.isAgg,run_load,ca,cb]
theorem RetVC.cell22 {P:Program}{s:aVs}{h:Heap}{fn:Func}{R:Value→Heap→Prop}{a b ta tb:Nat}{za zb:aVs}{ya yb pa pb:Nat}{u v:Value}(hf:fn.results=#[.cell a ta,.cell b tb])
  (hA:TyI P ta false za ya) (hB:TyI P tb false zb yb) (ea:sget s a=.pointer (some ⟨pa,0,none⟩)) (eb:sget s b=.pointer (some ⟨pb,0,none⟩))
  (ca:aY h ⟨pa,0,none⟩=some u) (cb:aY h ⟨pb,0,none⟩=some v) (hr:R (.tuple ⟨[u,v]⟩) h):RetVC P fn s h R where
 ex:=⟨_,fun w hw=>xX hf hA hB ea eb ca cb w hw,hr⟩
theorem StillVC.assertOne {pr:Bool}{P:Program}{ty:TypeId}{s:aVs}{h:Heap}{K:KK}{t tx:TypeId}{x:Operand}{v:Value}(hb:jW P t=true)(hx:ev s x=.iface t v)(hk:K v false h):StillVC pr P (.typeAssert x tx t false) ty s h K:=by
 refine .pure' _ false (fun w=>?_) hk;unfold jW at hb;split at hb
 ·cases hb
 ·rename_i d hd hne
  simp only[execOp,hx,Instr.typeAssert,Sem.run_bind,run_underlying hne,Result.andThen_ok]
  cases d<;>simp_all
 ·cases hb
def vE (p q v:Value):aVs:=[p,q,v,v,undef,undef,undef,undef]
theorem qT (p q:Value):Recovers Tryz.prog (match Tryz.f18.body with|some (.seq (.region _ ops _) _)=>ops|_=>#[]) ([p,q]++List.replicate (8 - [p,q].length) undef) (vE p q):=by
 intro cs w Q hQ;unfold wpOpsS
 simp[Tryz.f18,List.range,List.range.loop,wpOpsS,Region.wanted,yielded,execOp,resolve,invoke,builtin,act,Act.put]
 cases hrec:recoverD cs with
 | none=>exact hQ _ _ (.inr ⟨hrec,rfl,rfl⟩)
 | some x=>exact hQ _ _ (.inl hrec)
theorem oN (s:aVs)(h:Heap)(R:Ending→Heap→Prop)(p q:Value)
  (hr:RetVC Tryz.prog Tryz.f11 s h fun v h=>R (.returned v) h) :
  LeaveVC Tryz.prog Tryz.f11 ⟨.fn (.func 18) ⟨[p,q]⟩,#[]⟩ .returning s h R:=by
 refine LeaveVC.recovers (f:=vE p q) .nilIface Tryz.func18 rfl (n:=8) (by kernel_rfl) (by kernel_rfl) rfl (.inl ⟨rfl,rfl⟩) (qT p q) ?_;refine rR (neI aBp (by first|assumption|rfl) ?_);refine aCR ?_;exact hr
theorem wleave_err (s:aVs)(h:Heap)(R:Ending→Heap→Prop)(B:Base)(b2 b3:Nat)(x y:Value)
  (o0:Own B [box b2 [x] 9,box b3 [y] 27] h)
  (h2:sget s 2=.pointer (some ⟨b2,0,none⟩)) (h3:sget s 3=.pointer (some ⟨b3,0,none⟩))
  (hR:∀ h',Own B [] h'→R (.returned (.tuple ⟨[.string ⟨⟨[]⟩⟩,.int .i64 1]⟩)) h') :
  LeaveVC Tryz.prog Tryz.f11 ⟨.fn (.func 18) ⟨[.pointer (some ⟨b2,0,none⟩),.pointer (some ⟨b3,0,none⟩)]⟩,#[]⟩ (.panicking wG) s h R:=by
 refine LeaveVC.recovers (f:=vE (.pointer (some ⟨b2,0,none⟩)) (.pointer (some ⟨b3,0,none⟩))) (.iface 27 (.int .i64 1)) Tryz.func18 rfl (n:=8) (by kernel_rfl) (by kernel_rfl) rfl (.inr rfl) (qT _ _) ?_;refine rR (neI aBp (by first|assumption|rfl) ?_);refine aCQ ?_;refine aCS [0,1] [] [2,3] [0,1,2,3] mixed (by kernel_rfl) rfl (fun _ _ _ _ h=>h) ?_;refine assertOne (by kernel_rfl) rfl ?_;(refine aCL o0 0 rfl aL rfl (by simp) (aI ⟨rfl,rfl⟩ ?_);intro m12 o12);(refine aCL o12 1 rfl iE rfl (by simp) (aI ⟨rfl,rfl⟩ ?_);intro m13 o13);exact RetVC.cell22 rfl aL iE h2 h3 (o13.cellB 0 rfl 0) (o13.cellB 1 rfl 0) (hR _ (o13.sel [] rfl))
theorem aB4 {w:World}{p:Addr}{n i:Nat}(h:i≠p.block):(w.freeze p n).heap[i]?=w.heap[i]?:=by
 unfold World.freeze;split
 ·rfl
 ·show(w.heap.modify p.block _)[i]?=_
  rw[Array.getElem?_modify,if_neg (fun e=>h e.symm)]
section
variable {P : Program} {ty : TypeId} {s : aVs} {B : Base} {h : Heap} {L : List Item} {K : KK} {Q : QQ}
theorem RunVC.unsafeStrB {pt it e:TypeId}{x y:Operand}{g n cap:Nat}{bs:aBs}(o:Own B L h)(k:Nat)(hk:L[k]?=some (row (.slice (some ⟨g,0,none⟩) n cap) e 1 n (bytes bs)))(hp:P.underlying pt=some (.pointer e))(hc:P.cellsOf e=1)(hb:bs≠[])
  (hx:ev s x=.pointer (some ⟨g,0,none⟩)) (hy:ev s y=.int .i64 n) (hK:∀ h',Own B (L.set k gK) h'→K (.string ⟨⟨bs⟩⟩) false h'):RunVC P (.call ⟨.builtin .unsafeString,⟨[x,y]⟩,⟨[pt,it]⟩⟩) ty s h K Q:=by
 refine .of fun w hw=>?_;subst hw;have hm:=aC7 hk;have hr:sK w.heap e 1 (.slice (some ⟨g,0,none⟩) n cap) n (bytes bs):=o.sat _ hm;have hlo:B.h.size≤g:=OwnR.lo o _ (aDT _ hm) g rfl
 obtain⟨hlen,hr⟩:=hr
 have hn:n=bs.length:=by simp at hlen;omega
 subst hn
 rcases hr with ⟨hv,_⟩|⟨g',cap',cur,hv,hg,hnc,hcm,hcs,ht⟩
 ·cases hv
 ·cases hv
  have hown:w.ownsRow B.h.size e 1 (.slice (some ⟨g,0,none⟩) bs.length cap) bs.length (bytes bs):=⟨hlen,.inr ⟨g,cap,cur,rfl,hlo,hg,hnc,hcm,hcs,ht⟩⟩;have hUS:=Lib.run_unsafeString_row (P:=P) w pt it ty e hp hc g cur.size (by simp[World.shape?,hg]) bs hb (by omega) (by unfold maxLen at hcm;omega) (fun j x hj=>hown.cells (g:=g) rfl j (.int .u8 x.toNat) (by simp[bytes,hj]));have hB:=Lib.below_freeze (RowKit.Below.refl B.h.size w) (p:=⟨g,0,none⟩) hlo bs.length
  refine⟨_,false,w.freeze ⟨g,0,none⟩ bs.length,by simp[execOp,resolve,invoke,builtin,hx,hy,hUS],⟨hB.os,hB.tape,hB.output,hB.size⟩,hK _ ?_⟩
  exact o.set hk hB.size (fun i _ hi=>aB4 (fun e=>hi (by subst e;rfl))) trivial (fun _ hf=>hf.elim) (fun _ hf=>hf.elim)
end
theorem wText2_spec (b:Nat)(p v:Value)(k:Int)(bs:aBs)(h:Heap)(h0:Base)(hv:bs=[]→v=.slice none 0 0)(o0:Own h0 [box b [p,v,.int .i64 k] 58,row v 5 1 bs.length (bytes bs)] h) :
  bZ Tryz.prog 21 [.pointer (some ⟨b,0,none⟩)] h fun r h'=>r=.string ⟨⟨bs⟩⟩∧Own h0 [] h':=by
 refine aCV Tryz.func21 rfl Tryz.ntmps21 (by kernel_rfl) ?_;by_cases hb:bs=[]
 ·obtain rfl:=hv hb
  subst hb;refine aCS [0,1,2,5,6,7,9,11] [3,8] [10] [0,1,2,3,5,6,7,8,9,4,10,11] mixed (by kernel_rfl) rfl (fun _ _ _ _ h=>h) ?_;refine nC rfl ?_;refine fA vB rfl rfl rfl ?_;refine aCc o0 0 rfl lR rfl rfl ?_;refine nC rfl ?_;refine fA vB rfl rfl rfl ?_;refine aCc o0 0 rfl lR rfl rfl ?_;refine aCk rfl fT ?_;refine RunVC.sliceDataNil rfl ?_;refine aI (Ext.refl _) ?_;refine RunVC.unsafeStrNil rfl rfl ?_;refine aCX rfl ?_
  exact⟨rfl,o0.sel [] rfl⟩
 ·have hr:sK h 5 1 v bs.length (bytes bs):=o0.sat _ (aC7 (i:=1) rfl)
  have hl:bs.length≠0:=by simpa using hb
  obtain⟨g,cap,hc,rfl⟩:∃ g cap,cap≠0∧v=.slice (some ⟨g,0,none⟩) bs.length cap:=by
   rcases hr.2 with ⟨_,e⟩|⟨g,cap,cur,hv,_,hnc,_⟩
   ·exact absurd e hl
   ·exact⟨g,cap,by omega,hv⟩
  refine aCS [0,1,2,5,6,7,9,11] [3,8] [10] [0,1,2,3,5,6,7,8,9,4,10,11] mixed (by kernel_rfl) rfl (fun _ _ _ _ h=>h) ?_;refine nC rfl ?_;refine fA vB rfl rfl rfl ?_;refine aCc o0 0 rfl lR rfl rfl ?_;refine nC rfl ?_;refine fA vB rfl rfl rfl ?_;refine aCc o0 0 rfl lR rfl rfl ?_;refine aCk rfl fT ?_;refine RunVC.sliceData rfl hc ?_;refine aI (Ext.refl _) ?_;refine RunVC.unsafeStrB o0 1 rfl (by kernel_rfl) (by kernel_rfl) hb rfl rfl ?_;intro h1 o1;clear o0;have o2:=o1.sel [] rfl;clear o1;refine aCX rfl ?_
  exact⟨rfl,o2⟩
mutual
theorem exQ_strip (b:aBs):∀(x:Ex),fZ b (eS x)=fZ b x
 | .mk k tb ks cs ns a as_ g o=>by
  rw[eS,fZ,fZ,xJ [] ks,qK ks]
theorem xJ (b:aBs):∀(l:List Ex),kE b (eQ l)=kE b l
 | []=>rfl
 | x::r=>by
  rw[eQ,kE,kE,exQ_strip b x,xJ [32] r]
  cases r with
  | nil=>rfl
  | cons y r=>rfl
theorem qK:∀(l:List Ex),(eQ l).length=l.length
 | []=>rfl
 | x::r=>by rw[eQ,aDb,aDb,qK r]
end
mutual
theorem yE:∀(x y:Ex),ExQ lM x y↔eS x=eS y
 | .mk k t ks c n a s g o,.mk k' t' ks' c' n' a' s' g' o'=>by
  rw[ExQ,eS,eS,exsQ_iff ks ks']
  constructor
  ·rintro⟨rfl,rfl,rfl,rfl,rfl,rfl,rfl,_,h⟩
   rw[h]
  ·intro h
   injection h with h1 h2 h3 h4 h5 h6 h7 h8
   exact⟨h1,h2,h4,h5,h6,h7,h8,trivial,h3⟩
theorem exsQ_iff:∀(xs ys:List Ex),tJ lM xs ys↔eQ xs=eQ ys
 | [],[]=>by simp[tJ]
 | x::xs,y::ys=>by
  rw[tJ,eQ,eQ,yE x y,exsQ_iff xs ys,List.cons.injEq]
 | [],_::_=>by simp[tJ,eQ]
 | _::_,[]=>by simp[tJ,eQ]
end
theorem itQ_iff (x y:It):uX lM x y↔eE x=eE y:=by
 constructor
 ·rintro⟨o,e,rfl,_,h⟩
  unfold eE
  simp only[(yE _ _).1 h]
 ·intro h
  refine⟨y.off,y.expr,?_,trivial,(yE _ _).2 (congrArg It.expr h)⟩
  cases x
  cases y
  simp only[eE,It.mk.injEq]at h ⊢
  simp[h]
theorem aAd:∀(xs ys:List It),sM lM xs ys↔xs.map eE=ys.map eE
 | [],[]=>by simp[sM]
 | x::xs,y::ys=>by rw[sM,itQ_iff,aAd xs ys,aDx,aDx,List.cons.injEq]
 | [],_::_=>by simp[sM]
 | _::_,[]=>by simp[sM]
mutual
theorem tN:∀(x:Ex),eS (eS x)=eS x
 | .mk k t ks c n a s g o=>by rw[eS,eS,sP ks]
theorem sP:∀(l:List Ex),eQ (eQ l)=eQ l
 | []=>rfl
 | x::r=>by rw[eQ,eQ,tN x,sP r]
end
theorem aBN (xs:List It):(xs.map eE).map eE=xs.map eE:=by
 rw[List.map_map]
 refine List.map_congr_left fun x _=>?_;show eE (eE x)=eE x;unfold eE
 simp only[tN]
theorem printM_ok {xs:List It}(h:(eM xs).2=0):∃ ls,fB xs=some ls∧xs.all kG=true∧xs.length≤200∧nN ls≤5000∧(kJ ls).length≤20000∧(eM xs).1=kJ ls:=by
 unfold eM at h ⊢;cases hi:fB xs with
 | none=>rw[hi]at h;cases h
 | some ls =>
  rw[hi]at h
  simp only at h ⊢;split at h
  ·rename_i hc
   rw[if_pos hc]
   exact⟨ls,rfl,hc.1,hc.2.1,hc.2.2.1,hc.2.2.2,rfl⟩
  ·cases h
theorem aBV (xs:List It):(eM xs).2=0∨((eM xs).2=1∧(eM xs).1=[]∧fB xs=none)∨((eM xs).2=3∧(eM xs).1=[]∧∃ ls,fB xs=some ls):=by
 unfold eM;cases hi:fB xs with
 | none=>exact .inr (.inl ⟨rfl,rfl,rfl⟩)
 | some ls =>
  simp only
  split
  ·exact .inl rfl
  ·exact .inr (.inr ⟨rfl,rfl,ls,rfl⟩)
theorem aAQ {xs:List It}(h:(eM xs).2=0):(eM xs).1.length≤20000∧∃ ys,kU (eM xs).1=.ok ys∧sM lM xs ys:=by
 obtain⟨ls,h1,h2,h3,h4,h5,h6⟩:=printM_ok h
 rw[h6]
 obtain⟨ys,e,hq⟩:=text_parse h1 h2 h3 h4
 refine⟨h5,ys,e,(aAd _ _).2 ?_⟩
 have:=(aAd _ _).1 hq
 rw[aBN]at this
 exact this.symm
theorem oL (a b:List It):fB (a++b)=match fB a,fB b with
  | some x,some y=>some (x++y)
  | _,_=>none:=by
 unfold fB
 rw[List.mapM_append]
 cases a.mapM mH<;>cases b.mapM mH<;>rfl
theorem Spec.enterD1 {P:Program}{f:FuncId}{fn:Func}{r0 rest:Code}{id n:Nat}{ops:Array Oper}{args:aVs}{h:Heap}{R:Ending→Heap→Prop}
  (hf:P.funcs[f]?=some fn) (hb:fn.body=some (.seq r0 (.seq (.region id ops false) rest))) (hn:fn.ntmps=n) (hname:(fn.name == "runtime.NumGoroutine")=false)
  (hv:nM args n fun s=>vcode P r0 (onN (fun s h=>DeferVC P fn id ops rest R s h) (aAs P fn R)) s h):Spec P f args h R:=by
 refine⟨⟨fn,hf,by simp[hb],hname⟩,fun w hw=>?_⟩
 subst hw
 rw[pB]at hv
 have he:act (args++List.replicate (n - args.length) undef) []={ tmps:=args.toArray++Array.replicate (fn.ntmps - args.toArray.size) undef,defers:=[] }:=by
  simp[act,hn]
 have leave0:∀ e s' w',Same w w'→aAs P fn R e s' w'.heap→bodyPostD P fn (fun e w'=>Same w w'∧R e w'.heap) e (act s' []) w':=by
  intro e s' w' hs hq;cases e with
  | normal=>obtain⟨v,hr,hR⟩:=hq.ex;exact⟨v,hr w' rfl,hs,hR⟩
  | ret=>obtain⟨v,hr,hR⟩:=hq.ex;exact⟨v,hr w' rfl,hs,hR⟩
  | panic c=>exact⟨hs,hq⟩
  | _=>exact hq.elim
 refine calls_of_wp_defers hf hb ?_
 rw[← he]
 refine wp_seq (wp_mono (dK (w0:=w) (ds:=[]) r0 _ _ w (.refl w) hv) ?_);rintro e a w2 ⟨s2,rfl,hs2,hq⟩;cases e with
 | normal =>
  obtain⟨s3,d,hd,hr⟩:=hq.ex
  refine wp_seq (hd w2 _ (wp_mono (dK (w0:=w) (ds:=[d]) rest _ _ w2 hs2 (mW rest (Q':=aAa P fn d R) (fun e s h hq=>?_) _ _ hr)) ?_))
  ·cases e<;>first|exact hq|exact hq.elim
  ·rintro e a w3 ⟨s4,rfl,hs3,hq⟩
   cases e with
   | normal=>exact hq.lv w w3 hs3 rfl
   | ret=>exact hq.lv w w3 hs3 rfl
   | panic c=>exact hq.lv w w3 hs3 rfl
   | _=>exact hq.elim
 | ret=>exact leave0 .ret s2 w2 hs2 hq
 | panic c=>exact leave0 (.panic c) s2 w2 hs2 hq
 | _=>exact hq.elim
theorem pI (xs:List It)(va:Value)(h:Heap)(hT:jO h)(hF:gX h)(hP:nG h va xs)(hOK:∀ x∈xs,iQ x)(hsz:∀ x∈xs,eI x≤50000000)(hn:xs.length≤210) :
  bZ Tryz.prog 11 [.agg ⟨[va]⟩] h fun r h'=>r=.tuple ⟨[.string ⟨⟨(eM xs).1⟩⟩,.int .i64 (eM xs).2]⟩∧Own h [] h':=by
 obtain⟨ca,q1,q2,q3⟩:=hP
 obtain⟨ya,yc,rfl⟩:=q1.isS
 refine Spec.enterD1 Tryz.func11 rfl (n:=54) (by kernel_rfl) (by kernel_rfl) ?_;have o0:=Own.refl h;(refine aCq o0 rfl ?_;intro b10 m10 o10);(refine aCN o10 aL ?_;intro b11 m11 o11);(refine aCN o11 iE ?_;intro b12 m12 o12);refine DeferVC.closureP (fun c s hh=>c=wG∧fB xs=none∧sget s 2=.pointer (some ⟨b11,0,none⟩)∧sget s 3=.pointer (some ⟨b12,0,none⟩)∧Own h [box b11 [.string ⟨⟨[]⟩⟩] 9,box b12 [.int .i64 0] 27] hh) (by simp) ?_;refine aI ?_ ?_
 ·rintro c s hh ⟨rfl,hno,s2,s3,oo⟩
  refine wleave_err s hh _ h b11 b12 _ _ oo s2 s3 fun h' o'=>?_;have hp:eM xs=([],1):=by unfold eM;rw[hno]
  exact⟨by rw[hp],o'⟩
 refine rR (aCl bO ?_);(refine aCq o12 rfl ?_;intro b41 m41 o41);refine rR (fA pG rfl rfl rfl ?_);refine rR (aCc o41 0 rfl sW rfl rfl ?_);refine rR (aCk rfl nE ?_);have on:Own h [box b41 [.pointer none,.slice none 0 0,.int .i64 0] 58,row (.slice none 0 0) 5 1 0 [],box b11 [.string ⟨⟨[]⟩⟩] 9,box b12 [.int .i64 0] 27,box b10 [.slice ya xs.length yc] 24] m41:=(o41.nilRow 5 1).sel [3,4,1,2,0] rfl;clear o41;refine aCZ [5,7,14,15,16,17,18,19,20,21,22,23,24] [5,14] (fun vs hh=>∃(i:Nat) (p' v':Value) (bs':aBs) (k':Int) (ls:List (List Pc)),i≤xs.length∧vs=[.bool ((xs.take i).all kG),.int .i64 i]∧cO b41 p'∧fB (xs.take i)=some ls∧bs'=kJ ls∧k'=nN ls∧(bs'=[]→v'=.slice none 0 0)∧bs'.length≤150000000000*i∧k'≤150000000000*i∧Own h [box b41 [p',v',.int .i64 k'] 58,row v' 5 1 bs'.length (bytes bs'),box b11 [.string ⟨⟨[]⟩⟩] 9,box b12 [.int .i64 0] 27,box b10 [.slice ya xs.length yc] 24] hh) (fun vs _=>match vs with|[_,.int _ i]=>xs.length - i.toNat|_=>0) ?_ ?_
 ·exact⟨0,_,_,[],0,[],by omega,rfl,.inl rfl,rfl,rfl,rfl,fun _=>rfl,by simp,by omega,on⟩
 rintro vs junk hh ⟨i,p',v',bs',k',ls,hi,rfl,hp',hQ,hb',hk',hnil,hbl,hkl,oh⟩;clear on;by_cases hlt:i<xs.length
 ·obtain⟨x,hx⟩:=getx hlt
  obtain⟨cx,hcx,hrx⟩:=q3 i x hx
  have hxOK:=hOK x (aC7 hx);have hxs:=hsz x (aC7 hx);have hrx2:=hrx
  obtain⟨cxv,hcl⟩:=cx
  have hlev:=exLev_le x.expr;have hszx:fI x.expr≤eI x:=by unfold eI;omega
  obtain⟨z,vc,vn,vt,vf,vv,vd,e0,e1,e2,e3,e4,e5,e6,e7,e8,hcv,w1,w2,w3,w4,w5,w6,rx⟩:=hrx2
  dsimp only at hcv hrx;subst hcv;have hlevx:bY x.expr≤100000000000:=by omega
  cases hex:x.expr with
  | mk xk xt xks xcs xns xa xs_ xg xo =>
  rw[hex,kN]at rx
  obtain⟨wk,wc,wn,wz,hcv,g1,g2,gx,g3,_⟩:=rx
  obtain⟨h1,h2,rfl⟩:=g1.isS
  obtain⟨h3,h4,rfl⟩:=g2.isS
  obtain⟨h5,h6,rfl⟩:=g3.isS
  unfold qE at hcv
  simp only[List.cons.injEq,and_true]at hcv
  obtain⟨rfl,rfl,rfl,rfl,rfl,rfl,rfl,rfl,rfl⟩:=hcv
  obtain⟨i1,j1,rfl⟩:=w1.isS
  obtain⟨i2,j2,rfl⟩:=w2.isS
  obtain⟨i3,j3,rfl⟩:=w3.isS
  obtain⟨i4,j4,rfl⟩:=w4.isS
  obtain⟨i5,j5,rfl⟩:=w5.isS
  obtain⟨i6,j6,rfl⟩:=w6.isS
  unfold fE at hcx hrx hcl;clear w1 w2 w3 w4 w5 w6 g1 g2 g3;refine aCP (fun c100=>?_) (fun hc=>absurd (by omega) hc);refine rR (aCn nE iC (q1.ext oh.ext) rfl (by omega) (by omega) ?_);refine rR (aCp iC (q1.ext oh.ext) (fun y:jJ=>y.2) (by decide) rfl ‹_› ?_);(refine aCN oh iC ?_;intro b103 m103 o103);(refine aCf o103 5 rfl iC rfl (by decide) (aI ⟨rfl,rfl⟩ ?_);intro m104 o104);refine rR (aCg o104 5 rfl iC rfl rfl rfl ?_);have hsp:=prItem_spec ⟨h,[box b11 [.string ⟨⟨[]⟩⟩] 9,box b12 [.int .i64 0] 27,box b10 [.slice ya xs.length yc] 24]⟩ b41 p' v' k' bs' x _ _ hp' hT hF hxOK hrx (by first|exact hlevx|(rw[hex];exact hlevx)) ((o104.sel [0,1,2,3,4] rfl).lend [0,1] [2,3,4] rfl) (by omega) (by omega);unfold LEnds at hsp;have ht:xs.take (i+1)=xs.take i++[x]:=by rw[aDN,hx];simp
  refine aCU hsp (fun _ m2 ⟨ps,p2,v2,hq,hr,hp2,hl2,hl3,o2⟩=>?_) (fun _ m2 ⟨hq,hr,o2⟩=>?_)
  case refine_2 =>
   subst hr;have o3:Own h [box b11 [.string ⟨⟨[]⟩⟩] 9,box b12 [.int .i64 0] 27,box b10 [.slice ya xs.length yc] 24] m2:=Own.back (B:=⟨h,[]⟩) (J:=[box b11 [.string ⟨⟨[]⟩⟩] 9,box b12 [.int .i64 0] 27,box b10 [.slice ya xs.length yc] 24]) (K:=[]) o2;have h1:fB [x]=none:=by simp[fB,hq]
   have h2:fB (xs.take i++[x])=none:=by rw[oL,hQ,h1]
   have h3:fB xs=none:=by
    have:=oL (xs.take i++[x]) (xs.drop (i+1))
    rw[h2,← ht,aDJ]at this
    exact this
   exact⟨rfl,h3,rfl,rfl,o3.sel [0,1] rfl⟩
  subst hr;have o3:Own h [box b41 [p2,v2,.int .i64 (k'+ps.length)] 58,row v2 5 1 (bs'++gC ps).length (bytes (bs'++gC ps)),box b11 [.string ⟨⟨[]⟩⟩] 9,box b12 [.int .i64 0] 27,box b10 [.slice ya xs.length yc] 24] m2:=Own.back (B:=⟨h,[]⟩) (J:=[box b11 [.string ⟨⟨[]⟩⟩] 9,box b12 [.int .i64 0] 27,box b10 [.slice ya xs.length yc] 24]) (K:=[box b41 [p2,v2,.int .i64 (k'+ps.length)] 58,row v2 5 1 (bs'++gC ps).length (bytes (bs'++gC ps))]) o2;clear o2 hsp o104;have h1:fB [x]=some [ps]:=by simp[fB,hq]
  have h2:fB (xs.take (i+1))=some (ls++[ps]):=by rw[ht,oL,hQ,h1]
  have htx:bs'++gC ps=kJ (ls++[ps]):=by rw[hb'];simp[kJ]
  have hct:k'+(ps.length:Int)=(nN (ls++[ps]):Nat):=by rw[hk'];simp[nN]
  have hne:bs'++gC ps=[]→v2=.slice none 0 0:=fun h=>by simp[gC]at h
  have hal:(xs.take (i+1)).all kG=((xs.take i).all kG&&kG x):=by rw[ht,List.all_append];simp
  have hlen:(bs'++gC ps).length≤150000000000*(i+1):=by rw[aDa];omega
  cases hfx:kG x with
  | true =>
   refine aCQ ?_;refine aCW (by omega) (by omega) ?_
   refine⟨rfl,?_⟩
   exact⟨⟨i+1,p2,v2,_,_,ls++[ps],by omega,by rw[hal,hfx,Bool.and_true];rfl,hp2,h2,htx,hct,hne,hlen,by omega,Own.sel ‹_› [0,1,2,3,4] rfl⟩,by simp;omega⟩
  | false =>
   refine aCR ?_;refine aCW (by omega) (by omega) ?_
   refine⟨rfl,?_⟩
   exact⟨⟨i+1,p2,v2,_,_,ls++[ps],by omega,by rw[hal,hfx,Bool.and_false];rfl,hp2,h2,htx,hct,hne,hlen,by omega,Own.sel ‹_› [0,1,2,3,4] rfl⟩,by simp;omega⟩
 ·have hd:xs.take i=xs:=aDm (by omega)
  rw[hd]at hQ ⊢
  have hM:eM xs=if xs.all kG=true∧xs.length≤200∧nN ls≤5000∧(kJ ls).length≤20000 then(kJ ls,0) else([],3):=by unfold eM;rw[hQ]
  by_cases hf:xs.all kG=true
  case neg =>
   have hpr:eM xs=([],3):=hM.trans (if_neg (fun hh=>hf hh.1));have hfb:(!xs.all kG)=true:=by simpa using hf
   refine aCP (fun hc=>absurd hc (by omega)) (fun c400=>?_);refine Br.ttE hfb ?_;refine aCQ ?_;(refine aCf oh 2 rfl aL rfl (by decide) (aI ⟨rfl,rfl⟩ ?_);intro m402 o402);(refine aCf o402 3 rfl iE rfl (by decide) (aI ⟨rfl,rfl⟩ ?_);intro m403 o403);refine oN _ _ _ _ _ ?_;refine RetVC.cell22 rfl aL iE rfl rfl (Own.cellB ‹_› 2 rfl 0) (Own.cellB ‹_› 3 rfl 0) ?_
   exact⟨by rw[hpr],Own.sel ‹_› [] rfl⟩
  have hfb:(!xs.all kG)=false:=by rw[hf];rfl
  by_cases hn2:xs.length≤200
  case neg =>
   have hpr:eM xs=([],3):=hM.trans (if_neg (fun hh=>hn2 hh.2.1));refine aCP (fun hc=>absurd hc (by omega)) (fun c450=>?_);refine Br.ffE hfb ?_;refine rR (fA pG rfl rfl rfl ?_);refine rR (aCc oh 4 rfl sW rfl rfl ?_);refine rR (aCk rfl nE ?_);refine aCP (fun c455=>?_) (fun hc=>absurd (by omega) hc);refine aCQ ?_;(refine aCf oh 2 rfl aL rfl (by decide) (aI ⟨rfl,rfl⟩ ?_);intro m456 o456);(refine aCf o456 3 rfl iE rfl (by decide) (aI ⟨rfl,rfl⟩ ?_);intro m457 o457);refine oN _ _ _ _ _ ?_;refine RetVC.cell22 rfl aL iE rfl rfl (Own.cellB ‹_› 2 rfl 0) (Own.cellB ‹_› 3 rfl 0) ?_
   exact⟨by rw[hpr],Own.sel ‹_› [] rfl⟩
  by_cases hc:nN ls≤5000
  case neg =>
   have hpr:eM xs=([],3):=hM.trans (if_neg (fun hh=>hc hh.2.2.1));refine aCP (fun hc=>absurd hc (by omega)) (fun c500=>?_);refine Br.ffE hfb ?_;refine rR (fA pG rfl rfl rfl ?_);refine rR (aCc oh 4 rfl sW rfl rfl ?_);refine rR (aCk rfl nE ?_);refine aCP (fun hc=>absurd hc (by omega)) (fun c505=>?_);refine rR (nC rfl ?_);refine rR (fA bO rfl rfl rfl ?_);refine rR (fA yV rfl rfl rfl ?_);refine rR (aCc oh 0 rfl aT rfl rfl ?_);refine aCP (fun c510=>?_) (fun hc=>absurd (by omega) hc);refine aCQ ?_;(refine aCf oh 2 rfl aL rfl (by decide) (aI ⟨rfl,rfl⟩ ?_);intro m511 o511);(refine aCf o511 3 rfl iE rfl (by decide) (aI ⟨rfl,rfl⟩ ?_);intro m512 o512);refine oN _ _ _ _ _ ?_;refine RetVC.cell22 rfl aL iE rfl rfl (Own.cellB ‹_› 2 rfl 0) (Own.cellB ‹_› 3 rfl 0) ?_
   exact⟨by rw[hpr],Own.sel ‹_› [] rfl⟩
  refine aCP (fun hc=>absurd hc (by omega)) (fun c550=>?_);refine Br.ffE hfb ?_;refine rR (fA pG rfl rfl rfl ?_);refine rR (aCc oh 4 rfl sW rfl rfl ?_);refine rR (aCk rfl nE ?_);refine aCP (fun hc=>absurd hc (by omega)) (fun c555=>?_);refine rR (nC rfl ?_);refine rR (fA bO rfl rfl rfl ?_);refine rR (fA yV rfl rfl rfl ?_);refine rR (aCc oh 0 rfl aT rfl rfl ?_);refine aCP (fun hc=>absurd hc (by omega)) (fun c560=>?_);refine rR (nC rfl ?_);refine rR (fA bO rfl rfl rfl ?_);refine rR (fA yV rfl rfl rfl ?_);refine aCT (wLen_spec b41 p' v' k' bs' _ ⟨h,[box b11 [.string ⟨⟨[]⟩⟩] 9,box b12 [.int .i64 0] 27,box b10 [.slice ya xs.length yc] 24]⟩ (oh.lend [0,1] [2,3,4] rfl)) ?_;rintro _ m6 ⟨rfl,oc⟩;have o6:=oc.thenE (B:=h) oh;by_cases hlen:(kJ ls).length≤20000
  case neg =>
   have hpr:eM xs=([],3):=hM.trans (if_neg (fun hh=>hlen hh.2.2.2))
   rw[← hb']at hlen
   refine aCP (fun c600=>?_) (fun hc=>absurd (by omega) hc);(refine aCf o6 2 rfl aL rfl (by decide) (aI ⟨rfl,rfl⟩ ?_);intro m601 o601);(refine aCf o601 3 rfl iE rfl (by decide) (aI ⟨rfl,rfl⟩ ?_);intro m602 o602);refine oN _ _ _ _ _ ?_;refine RetVC.cell22 rfl aL iE rfl rfl (Own.cellB ‹_› 2 rfl 0) (Own.cellB ‹_› 3 rfl 0) ?_
   exact⟨by rw[hpr],Own.sel ‹_› [] rfl⟩
  have hpr:eM xs=(kJ ls,0):=hM.trans (if_pos ⟨hf,hn2,hc,hlen⟩)
  rw[← hb']at hlen
  refine aCP (fun hc=>absurd hc (by omega)) (fun c650=>?_);refine rR (nC rfl ?_);refine rR (fA bO rfl rfl rfl ?_);refine rR (fA yV rfl rfl rfl ?_);refine aCT (wText2_spec b41 p' v' k' bs' _ ⟨h,[box b11 [.string ⟨⟨[]⟩⟩] 9,box b12 [.int .i64 0] 27,box b10 [.slice ya xs.length yc] 24]⟩ hnil (o6.lend [0,1] [2,3,4] rfl)) ?_;rintro _ m7 ⟨rfl,oc7⟩;have o7:Own h [box b11 [.string ⟨⟨[]⟩⟩] 9,box b12 [.int .i64 0] 27,box b10 [.slice ya xs.length yc] 24] m7:=Own.back (B:=⟨h,[]⟩) (J:=[box b11 [.string ⟨⟨[]⟩⟩] 9,box b12 [.int .i64 0] 27,box b10 [.slice ya xs.length yc] 24]) (K:=[]) oc7;clear oc7 o6;(refine aCf o7 0 rfl aL rfl (by decide) (aI ⟨rfl,rfl⟩ ?_);intro m700 o700);(refine aCf o700 1 rfl iE rfl (by decide) (aI ⟨rfl,rfl⟩ ?_);intro m701 o701);refine oN _ _ _ _ _ ?_;refine RetVC.cell22 rfl aL iE rfl rfl (Own.cellB ‹_› 0 rfl 0) (Own.cellB ‹_› 1 rfl 0) ?_
  exact⟨by rw[hpr,hb'],Own.sel ‹_› [] rfl⟩
def aF {α:Type}(m:PM α):Prop:=∀ ts e o,m ts=.error (e,o)→e≠0
theorem aF.pure {α:Type}(a:α):aF (Pure.pure a:PM α):=by
 intro ts e o h;cases h
theorem aF.bind {α β:Type}{m:PM α}{f:α→PM β}(hm:aF m)(hf:∀ a,aF (f a)):aF (m >>= f):=by
 intro ts e o h;cases hq:m ts with
 | error y=>rw[aCe hq]at h;cases h;exact hm _ _ _ hq
 | ok p =>
  obtain⟨a,q⟩:=p
  rw[aCd hq]at h
  exact hf a _ _ _ h
theorem aF.take (s:aBs):aF (cM s):=fun ts e o h=>absurd h (cU _ _ _)
theorem stopE_ne (z:Nat) {e:Int}(he:e≠0)(ts:List Tok):(aA0 z e ts).1≠0:=by
 cases ts with
 | nil=>show(7:Int)≠0;decide
 | cons t r=>exact he
theorem aF.fail {α:Type}(z:Nat)(e:Int)(he:e≠0):aF (pZ z e:PM α):=by
 intro ts e' o h;have h':(Except.error (aA0 z e ts):Except (Int×Nat) (α×List Tok))=.error (e',o):=h
 have:=stopE_ne z he ts
 injection h' with h'
 rw[h']at this
 exact this
theorem aF.kind (z:Nat)(k:Int):aF (fO z k):=by
 intro ts e o h;cases ts with
 | nil=>cases h;decide
 | cons t r =>
  unfold fO at h;dsimp only at h;split at h
  ·cases h
  ·cases h;decide
theorem aF.name (z:Nat):aF (cV z):=aF.bind (aF.kind z 1) fun _=>aF.pure _
theorem aF.num (z:Nat):aF (lU z):=aF.bind (aF.kind z 2) fun _=>aF.pure _
theorem aF.need:∀(z:Nat)(ss:List aBs),aF (aW z ss)
 | _,[]=>aF.pure _
 | z,s::ss=>aF.bind (aF.bind (aF.take s) fun b=>by cases b<;>first|exact aF.fail _ _ (by decide)|exact aF.pure _) fun _=>aF.need z ss
theorem aF.word:∀(z:Nat)(ss:List aBs)(i:Int),aF (eC z ss i)
 | z,[],_=>aF.fail z 4 (by decide)
 | z,s::ss,i=>aF.bind (aF.take s) fun b=>by cases b<;>first|exact aF.word z ss (i+1)|exact aF.pure _
theorem aF.ifP {α:Type}{c:Bool}{m:PM α}{d:α}(h:aF m):aF (ifP c m d):=by
 unfold Go.Proofs.YtohlogbnpfofpaaGreatDoor.ifP;split
 ·exact h
 ·exact aF.pure _
theorem aF.opt {α:Type}{s:aBs}{m n:PM α}(h1:aF m)(h2:aF n):aF (cM s >>= fun b=>if b=true then m else n):=aF.bind (aF.take s) fun b=>by cases b<;>assumption
theorem aF.lit (z:Nat):aF (oK z) :=
 aF.opt (aF.bind (aF.num z) fun _=>aF.pure _) (aF.opt (aF.bind (aF.num z) fun _=>aF.pure _) (aF.opt (aF.pure _) (aF.opt (aF.pure _) (aF.opt (aF.pure _) (aF.pure _)))))
theorem aF.literal (z:Nat):aF (dM z):=by
 intro ts e o h;cases ts with
 | nil=>cases h
 | cons t q =>
  unfold dM at h;dsimp only at h;split at h
  ·cases h
  ·split at h
   ·cases h
   ·exact aF.lit z _ _ _ h
theorem aF.value (z:Nat):aF (mX z):=aF.bind (aF.literal z) fun o=>by cases o<;>first|exact aF.fail _ _ (by decide)|exact aF.pure _
theorem aF.side (z:Nat):aF (nY z):=aF.bind (aF.literal z) fun o=>by
 cases o with
 | some v=>exact aF.pure _
 | none=>exact aF.bind (aF.name z) fun _=>aF.opt (aF.bind (aF.name z) fun _=>aF.pure _) (aF.pure _)
theorem aF.cond (z:Nat):aF (sR z) :=
 aF.bind (aF.side z) fun _=>aF.bind (aF.word _ _ _) fun _=>aF.bind (aF.side z) fun _=>aF.opt (aF.bind (aF.num z) fun _=>aF.pure _) (aF.opt (aF.bind (aF.num z) fun _=>aF.pure _) (aF.pure _))
theorem aF.column (z:Nat):aF (lE z) :=
 aF.bind (aF.name z) fun _=>aF.bind (aF.word _ _ _) fun _=>aF.opt (aF.bind (aF.value z) fun _=>aF.pure _) (aF.pure _)
theorem aF.fixed (z:Nat):aF (lY z):=aF.bind (aF.name z) fun _=>aF.bind (aF.need _ _) fun _=>aF.bind (aF.value z) fun _=>aF.pure _
theorem aF.var (z:Nat):aF (yM z):=aF.bind (aF.name z) fun _=>aF.bind (aF.name z) fun _=>aF.pure _
theorem aF.term (z:Nat):aF (mG z) :=
 aF.bind (aF.name z) fun _=>aF.bind (aF.word _ _ _) fun _=>aF.bind (aF.ifP (aF.num z)) fun _=>aF.bind (aF.need _ _) fun _=>aF.bind (aF.num z) fun _=>aF.bind (aF.opt (aF.num z) (aF.pure _)) fun _=>aF.bind (aF.need _ _) fun _=>aF.bind (aF.num z) fun _ =>
  aF.bind (aF.opt (aF.num z) (aF.pure _)) fun _=>aF.bind (aF.need _ _) fun _=>aF.pure _
theorem aF.listA {α:Type}{sep:aBs}{one:PM α}(h:aF one):∀(n:Nat)(acc:List α),aF (Go.Proofs.YtohlogbnpfofpaaGreatDoor.listA sep one n acc)
 | 0,_=>aF.pure _
 | n+1,acc=>aF.opt (aF.bind h fun _=>aF.listA h n _) (aF.pure _)
theorem aF.list {α:Type}{sep:aBs}{one:PM α}(h:aF one):aF (hO sep one):=aF.bind h fun _ ts e o h'=>aF.listA h _ _ ts e o h'
theorem aF.names (z:Nat):aF (nI z):=aF.list (aF.name z)
theorem aF.namesU (z:Nat)(s:aBs):aF (Go.Proofs.YtohlogbnpfofpaaGreatDoor.namesU z s):=by
 intro ts e o h;cases hb:bC [s] ts with
 | true=>rw[nH hb]at h;cases h
 | false=>rw[kV hb]at h;exact aF.names z _ _ _ h
theorem aF.conds (z:Nat):aF (mC z):=aF.bind (aF.need _ _) fun _=>aF.list (aF.cond z)
theorem aF.place (z:Nat):aF (kA z):=aF.bind (aF.name z) fun _=>aF.bind (aF.need _ _) fun _=>aF.bind (aF.name z) fun _=>aF.pure _
theorem aF.termsA (z:Nat):∀(n:Nat)(acc:List Trm),aF (Go.Proofs.YtohlogbnpfofpaaGreatDoor.termsA z n acc)
 | 0,_=>aF.pure _
 | n+1,acc=>by
  intro ts e o h;cases hb:bC [[125]] ts with
  | true=>rw[kQ hb]at h;cases h
  | false=>rw[mS hb]at h;exact(aF.bind (aF.term z) fun _=>aF.termsA z n _) _ _ _ h
theorem aF.rest (z i off:Nat)(kids:List Ex):aF (dZ z i off kids):=by
 match i with
 | 0=>exact aF.bind (aF.conds z) fun _=>aF.pure _
 | 1=>exact aF.bind (aF.need _ _) fun _=>aF.bind (aF.namesU _ _) fun _=>aF.pure _
 | 2=>exact aF.pure _
 | 3=>exact aF.pure _
 | 4=>exact aF.pure _
 | 5=>exact aF.bind (aF.need _ _) fun _=>aF.bind (aF.name z) fun _=>aF.bind (aF.need _ _) fun _=>aF.bind (aF.name z) fun _=>aF.pure _
 | 6=>exact aF.bind (aF.need _ _) fun _=>aF.bind (aF.namesU _ _) fun _=>aF.bind (aF.need _ _) fun _=>aF.bind (aF.word _ _ _) fun _=>aF.bind (aF.ifP (aF.name z)) fun _=>aF.bind (aF.need _ _) fun _=>aF.bind (aF.name z) fun _=>aF.pure _
 | n+7=>exact aF.pure _
theorem aF.expr (z:Nat):∀(n:Nat),aF (bT z n)
 | 0=>aF.fail z 3 (by decide)
 | n+1=>by
  intro ts e o h
  rw[bT]at h
  cases ho:gP ts with
  | none =>
   simp only[ho]at h
   exact(aF.bind (aF.name z) fun _=>aF.pure _) _ _ _ h
  | some i =>
   simp only[ho]at h
   exact(aF.bind (aF.need _ _) fun _=>aF.bind (aF.expr z n) fun _=>aF.bind (aF.ifP (aF.bind (aF.need _ _) fun _=>aF.bind (aF.expr z n) fun _=>aF.pure _)) fun _=>aF.bind (aF.rest _ _ _ _) fun _=>aF.bind (aF.need _ _) fun _=>aF.pure _) _ _ _ h
theorem aF.ite {α:Type}{p:Prop} [Decidable p] {m n:PM α}(hm:aF m)(hn:aF n):aF (if p then m else n):=by
 split
 ·exact hm
 ·exact hn
theorem aF.unique (z:Nat)(x:It):aF (jG z x):=aF.bind (aF.need _ _) fun _=>aF.bind (aF.name z) fun _=>aF.bind (aF.need _ _) fun _=>aF.bind (aF.names z) fun _=>aF.bind (aF.need _ _) fun _=>aF.pure _
theorem aF.part (z:Nat)(k:Int)(x:It):aF (jU z k x):=by
 unfold jU;refine aF.ite ?_ (aF.ite ?_ (aF.ite ?_ (aF.ite ?_ (aF.ite ?_ (aF.ite ?_ (aF.ite ?_ (aF.ite ?_ (aF.ite ?_ ?_))))))))
 ·exact aF.bind (aF.need _ _) fun _=>aF.bind (aF.list (aF.column z)) fun _=>aF.bind (aF.need _ _) fun _=>aF.bind (aF.names z) fun _=>aF.pure _
 ·exact aF.bind (aF.need _ _) fun _=>aF.bind (aF.num z) fun _=>aF.pure _
 ·exact aF.bind (aF.need _ _) fun _=>aF.bind (aF.place z) fun _=>aF.bind (aF.need _ _) fun _=>aF.bind (aF.word _ _ _) fun _=>aF.ite (aF.bind (aF.num z) fun _=>aF.pure _) (aF.ite (aF.bind (aF.num z) fun _=>aF.bind (aF.num z) fun _=>aF.pure _) (aF.pure _))
 ·exact aF.bind (aF.need _ _) fun _=>aF.bind (aF.name z) fun _=>aF.bind (aF.need _ _) fun _=>aF.bind (aF.num z) fun _=>aF.bind (aF.need _ _) fun _=>aF.bind (fun ts e o h=>aF.termsA z _ _ ts e o h) fun _=>aF.pure _
 ·exact aF.bind (aF.place z) fun _=>aF.bind (aF.need _ _) fun _=>aF.bind (aF.word _ _ _) fun _=>aF.pure _
 ·exact aF.unique z x
 ·exact aF.bind (aF.unique z x) fun _=>aF.bind (aF.need _ _) fun _=>aF.bind (aF.name z) fun _=>aF.opt (aF.bind (aF.list (aF.fixed z)) fun _=>aF.pure _) (aF.pure _)
 ·exact aF.bind (aF.place z) fun _=>aF.bind (aF.need _ _) fun _=>aF.bind (aF.place z) fun _=>aF.pure _
 ·exact aF.bind (aF.list (aF.var z)) fun _=>aF.bind (aF.conds z) fun _=>aF.pure _
 ·exact aF.bind (aF.need _ _) fun _=>aF.bind (aF.expr z 12) fun _=>aF.pure _
theorem aF.item (z:Nat):aF (iA z):=by
 intro ts e o h;cases ts with
 | nil=>cases h;decide
 | cons t r =>
  unfold iA at h
  refine(aF.bind (aF.word z dS 1) fun k=>aF.bind (aF.ifP (aF.name z)) fun nm=>aF.bind (aF.part z k _) fun x=>?_) _ _ _ h
  by_cases hk:k=4
  ·simp only[if_pos hk]
   exact aF.bind (aF.need _ _) fun _=>aF.pure _
  ·simp only[if_neg hk]
   exact aF.bind (aF.need _ _) fun _=>aF.pure _
theorem xM (z:Nat):∀(f:Nat)(acc:List It)(ts:List Tok)(e:Int)(o:Nat),iY z f acc ts=.error (e,o)→e≠0
 | 0,_,_,_,_,h=>by cases h
 | f+1,acc,[],_,_,h=>by cases h
 | f+1,acc,t::q,e,o,h=>by
  by_cases hfull:acc.length=200
  ·rw[iY,if_pos hfull]at h;cases h;decide
  ·rw[iY,if_neg hfull]at h
   cases hp:iA z (t::q) with
   | error y=>rw[hp]at h;cases h;exact aF.item z _ _ _ hp
   | ok y =>
    obtain⟨x,r⟩:=y
    rw[hp]at h
    exact xM z f _ r e o h
theorem wW {t:aBs}(hl:t.length≤20000)(h:Heap)(hW:lB h) :
  bZ Tryz.prog 13 [.string ⟨⟨t⟩⟩] h fun v h'=>(∃ e i,kU t=.error (e,i)∧e≠0∧v=.tuple ⟨[.agg ⟨[aN]⟩,.int .i64 e,.int .i64 i]⟩∧Own h [] h') ∨
   (∃ xs ts u c I,kU t=.ok xs∧sL t=.ok ts∧Its t.length ts xs∧xs.length≤200∧v=.tuple ⟨[.agg ⟨[.slice u xs.length c]⟩,.int .i64 0,.int .i64 0]⟩∧oS I (.slice u xs.length c) xs∧Own h [I] h'):=by
 refine(parse_spec t h (by omega) hW).mono fun v h' hp=>?_
 rw[iW,if_neg (by omega)]at hp
 cases hM:kU t with
 | error y =>
  obtain⟨e,i⟩:=y
  rw[hM]at hp
  refine .inl ⟨e,i,rfl,?_,hp⟩;unfold kU at hM;cases hL:sL t with
  | error y=>rw[hL]at hM;cases hM;exact tC.1 _ _ hL
  | ok ts=>rw[hL]at hM;exact xM _ _ _ _ _ _ hM
 | ok xs =>
  rw[hM]at hp
  obtain⟨u,I,rfl,hr,ho⟩:=hp
  have hL:∃ ts,sL t=.ok ts:=by
   unfold kU at hM;cases hL:sL t with
   | error y=>rw[hL]at hM;cases hM
   | ok ts=>exact⟨ts,rfl⟩
  obtain⟨ts,hL⟩:=hL
  obtain⟨h1,h2⟩:=(aBb hL).1 hM
  obtain⟨cs,r1,r2⟩:=hr
  obtain⟨a,c,rfl⟩:=r1.isS (Own.satK ho 0 rfl)
  exact .inr ⟨xs,ts,a,c,I,rfl,hL,h1,h2,rfl,⟨cs,r1,r2⟩,ho⟩
instance (v:Vl):Decidable (VlOK v):=by unfold VlOK;infer_instance
instance (x:Opd):Decidable (aBE x):=by unfold aBE;infer_instance
instance (x:Cnd):Decidable (xS x):=by unfold xS;infer_instance
instance (x:Col):Decidable (ColOK x):=by unfold ColOK;infer_instance
instance (x:Trm):Decidable (TrmOK x):=by unfold TrmOK;infer_instance
instance (x:Nmd):Decidable (NmdOK x):=by unfold NmdOK;infer_instance
instance (x:Vr):Decidable (VrOK x):=by unfold VrOK;infer_instance
mutual
def exOkB:Ex→Bool
 | .mk k t ks cs ns a s g _=>decide ((-9223372036854775808≤k∧k≤9223372036854775807)∧t.length≤1000000000000000∧(∀ c∈cs,xS c)∧(∀ n∈ns,n.length≤1000000000000000)∧a.length≤1000000000000000∧s.length≤1000000000000000∧(-9223372036854775808≤g∧g≤9223372036854775807)∧ks.length≤1000000000000000∧cs.length≤1000000000000000∧ns.length≤1000000000000000)&&aB6 ks
def aB6:List Ex→Bool
 | []=>true
 | x::xs=>exOkB x&&aB6 xs
end
mutual
theorem exOkB_ok:∀(x:Ex),exOkB x=true→gA x
 | .mk k t ks cs ns a s g o,h=>by
  rw[exOkB,aC8,decide_eq_true_eq]at h
  obtain⟨⟨h1,h2,h3,h4,h5,h6,h7,h8,h9,h10⟩,h11⟩:=h
  rw[gA]
  exact⟨h1,h2,aBv ks h11,h3,h4,h5,h6,h7,h8,h9,h10⟩
theorem aBv:∀(l:List Ex),aB6 l=true→oF l
 | [],_=>trivial
 | x::xs,h=>by
  rw[aB6,aC8]at h
  rw[oF]
  exact⟨exOkB_ok x h.1,aBv xs h.2⟩
end
def itOkB (x:It):Bool:=decide ((-9223372036854775808≤x.kind∧x.kind≤9223372036854775807)∧x.name.length≤1000000000000000∧x.table.length≤1000000000000000∧x.attr.length≤1000000000000000∧(∀ c∈x.cols,ColOK c)∧(∀ n∈x.names,n.length≤1000000000000000) ∧
 (-9223372036854775808≤x.by_∧x.by_≤9223372036854775807)∧(-9223372036854775808≤x.n∧x.n≤9223372036854775807)∧(-9223372036854775808≤x.m∧x.m≤9223372036854775807)∧(∀ t∈x.terms,TrmOK t)∧x.other.length≤1000000000000000∧x.oattr.length≤1000000000000000 ∧
 (∀ f∈x.fixed,NmdOK f)∧(∀ v∈x.vars,VrOK v)∧(∀ c∈x.conds,xS c))&&decide (x.cols.length≤1000000000000000∧x.names.length≤1000000000000000∧x.terms.length≤1000000000000000∧x.fixed.length≤1000000000000000∧x.vars.length≤1000000000000000∧x.conds.length≤1000000000000000∧eI x≤50000000)&&exOkB x.expr
theorem itOkB_ok {x:It}(h:itOkB x=true):iQ x∧eI x≤50000000:=by
 unfold itOkB at h
 rw[aC8,aC8,decide_eq_true_eq,decide_eq_true_eq]at h
 obtain⟨⟨⟨h1,h2,h3,h4,h5,h6,h7,h8,h9,h10,h11,h12,h13,h14,h15⟩,k1,k2,k3,k4,k5,k6,k7⟩,hx⟩:=h
 exact⟨⟨h1,h2,h3,h4,h5,h6,h7,h8,h9,h10,h11,h12,h13,h14,h15,exOkB_ok _ hx,k1,k2,k3,k4,k5,k6⟩,k7⟩
mutual
theorem tD:∀(x:Ex),gA (eS x)↔gA x
 | .mk k t ks cs ns a s g o=>by
  rw[eS,gA,gA,xN ks,qK ks]
theorem xN:∀(l:List Ex),oF (eQ l)↔oF l
 | []=>Iff.rfl
 | x::xs=>by rw[eQ,oF,oF,tD x,xN xs]
end
theorem itsQ_ok:∀ {xs ys:List It},sM lM xs ys→(∀ x∈xs,iQ x)→∀ y∈ys,iQ y
 | [],[],_,_,y,hy=>by cases hy
 | x::xs,y::ys,h,hx,z,hz=>by
  rcases aDl.1 hz with rfl|hz
  ·obtain⟨o,e,rfl,_,he⟩:=h.1
   obtain⟨h1,h2,h3,h4,h5,h6,h7,h8,h9,h10,h11,h12,h13,h14,h15,h16,h17⟩:=hx x (by simp)
   refine⟨h1,h2,h3,h4,h5,h6,h7,h8,h9,h10,h11,h12,h13,h14,h15,?_,h17⟩
   rw[← tD,← (yE _ _).1 he,tD]
   exact h16
  ·exact itsQ_ok h.2 (fun x hx'=>hx x (by simp[hx'])) z hz
 | [],_::_,h,_,_,_=>h.elim
 | _::_,[],h,_,_,_=>h.elim
def tI (t:aBs):Bool×aBs×Int:=match kU t with
 | .ok xs=>(xs.all itOkB,eM xs)
 | .error _=>(false,[],99)
theorem nG.isS {h:Heap}{v:Value}{xs:List It}(r:nG h v xs):∃ a c,v=.slice a xs.length c:=by
 obtain⟨ca,q1,_⟩:=r
 exact q1.isS
theorem pV (t out:aBs)(h:Heap)(hl:t.length≤20000)(hm:tI t=(true,out,0))(hW:lB h)(hT:jO h)(hF:gX h) :
  bZ Tryz.prog 15 [.string ⟨⟨t⟩⟩] h fun r h'=>r=.string ⟨⟨out⟩⟩∧Own h [] h':=by
 refine aCV Tryz.func15 rfl Tryz.ntmps15 (by kernel_rfl) ?_;have o0:=Own.refl h;refine aCT (wW hl _ (hW.ext (Own.ext (B:=h) ‹_›))) ?_;rintro _ h2 (⟨e,i,hM,hne,rfl,oc⟩|⟨xs,ts,ua,uc,I,hM,hL,hI,hlen,rfl,hp,oc⟩)
 ·unfold tI at hm
  rw[hM]at hm
  cases hm
 have hm2:xs.all itOkB=true∧eM xs=(out,0):=by unfold tI at hm;rw[hM]at hm;exact⟨congrArg Prod.fst hm,congrArg Prod.snd hm⟩
 have o2:=Own.call ‹_› oc
 simp only[lcA,lnA]at o2
 clear oc;have k1:∀ x∈xs,iQ x:=fun x hx=>(itOkB_ok (aDh.1 hm2.1 x hx)).1;have k2:∀ x∈xs,eI x≤50000000:=fun x hx=>(itOkB_ok (aDh.1 hm2.1 x hx)).2;(refine aCN o2 qC ?_;intro b20 m20 o20);(refine aCf o20 1 rfl qC rfl (by decide) (aI ⟨rfl,rfl⟩ ?_);intro m21 o21);refine rR (aCg o21 1 rfl qC rfl rfl rfl ?_);refine aCT (pI xs _ _ (hT.ext (Own.ext (B:=h) ‹_›)) (hF.ext (Own.ext (B:=h) ‹_›)) (by first|exact oS.toH (Own.satK ‹_› 0 rfl) hp|exact oS.toH (Own.satK ‹_› 1 rfl) hp|exact oS.toH (Own.satK ‹_› 2 rfl) hp) k1 k2 (by omega)) ?_;rintro _ h3 ⟨rfl,oc⟩
 rw[hm2.2]
 have o3:=oc.thenE (B:=h) ‹_›;clear oc;refine aCR ?_;refine aCi (fun hc=>absurd (by first|omega|assumption|decide|exact rfl) hc) (fun c40=>?_);refine aCX rfl ?_
 exact⟨rfl,Own.sel ‹_› [] rfl⟩
theorem ag1:tI [115,111,117,114,99,101,32,32,115,32,116,114,117,115,116,32,48,48,53,32,59]=(true,[115,111,117,114,99,101,32,115,32,116,114,117,115,116,32,53,59,10],0):=by kernel_rfl
theorem ag2:tI [113,117,101,114,121,32,113,61,112,114,111,106,101,99,116,32,40,32,115,101,108,101,99,116,40,116,32,119,104,101,114,101,32,97,61,45,32,49,43,50,41,32,111,110,32,41,59]=(true,[113,117,101,114,121,32,113,32,61,32,112,114,111,106,101,99,116,40,115,101,108,101,99,116,40,116,32,119,104,101,114,101,32,97,32,61,32,45,49,32,43,32,50,41,32,111,110,41,59,10],0):=by kernel_rfl
theorem ag3:tI [109,97,116,99,104,32,109,32,111,110,32,116,32,97,116,32,53,32,123,32,97,32,110,101,97,114,32,51,32,108,101,97,115,116,32,50,47,52,32,103,105,118,101,115,32,49,32,116,97,107,101,115,32,48,32,59,32,125]=(true,[109,97,116,99,104,32,109,32,111,110,32,116,32,97,116,32,53,32,123,10,32,32,97,32,110,101,97,114,32,51,32,108,101,97,115,116,32,50,47,52,32,103,105,118,101,115,32,49,59,10,125,10],0):=by kernel_rfl
theorem ag4:tI [116,97,98,108,101,32,116,40,97,32,116,101,120,116,61,34,120,92,110,34,44,98,32,100,97,121,32,61,32,64,51,41,107,101,121,32,97,44,98,59,100,101,110,121,32,100,32,116,32,120,32,119,104,101,114,101,32,120,46,97,60,61,110,117,108,108,32,97,110,100,32,116,114,117,101,33,61,98,59]=(true,[116,97,98,108,101,32,116,40,97,32,116,101,120,116,32,61,32,34,120,92,110,34,44,32,98,32,100,97,121,32,61,32,64,51,41,32,107,101,121,32,97,44,32,98,59,10,100,101,110,121,32,100,32,116,32,120,32,119,104,101,114,101,32,120,46,97,32,60,61,32,110,117,108,108,32,97,110,100,32,116,114,117,101,32,33,61,32,98,59,10],0):=by kernel_rfl
def xs1:List It:=[{ it0 with kind:=2,name:=[49] }]
theorem pr1:eM xs1=([],1):=by kernel_rfl
theorem pr0:eM []=([],0):=by kernel_rfl
theorem xs1_ok:∀ x∈xs1,iQ x:=fun x hx=>by
 simp[xs1]at hx
 subst hx;unfold iQ
 refine⟨by decide,by decide,by decide,by decide,by simp[it0],by simp[it0],by decide,by decide,by decide,by simp[it0],by decide,by decide,by simp[it0],by simp[it0],by simp[it0],?_,by decide,by decide,by decide,by decide,by decide,by decide⟩
 show gA (.mk 0 [] [] [] [] [] [] 0 0)
 rw[gA]
 exact⟨by omega,by simp,trivial,by simp,by simp,by simp,by simp,by omega,by simp,by simp,by simp⟩
theorem head9_spec (h:Heap)(hW:lB h)(hT:jO h)(hF:gX h):bZ Tryz.prog 9 [] h fun v h'=>v=.bool true∧Own h [] h':=by
 refine aCV Tryz.func9 rfl Tryz.ntmps9 (by kernel_rfl) ?_;have o0:=Own.refl h;refine aCT (pV _ _ _ (by decide) ag1 (hW.ext (Own.ext (B:=h) ‹_›)) (hT.ext (Own.ext (B:=h) ‹_›)) (hF.ext (Own.ext (B:=h) ‹_›))) ?_;rintro _ g1 ⟨rfl,oc⟩;have z1:=oc.thenE (B:=h) ‹_›;clear oc;refine aCQ ?_;refine aCT (pV _ _ _ (by decide) ag2 (hW.ext (Own.ext (B:=h) ‹_›)) (hT.ext (Own.ext (B:=h) ‹_›)) (hF.ext (Own.ext (B:=h) ‹_›))) ?_;rintro _ g2 ⟨rfl,oc⟩;have z2:=oc.thenE (B:=h) ‹_›;clear oc;refine aCT (pV _ _ _ (by decide) ag3 (hW.ext (Own.ext (B:=h) ‹_›)) (hT.ext (Own.ext (B:=h) ‹_›)) (hF.ext (Own.ext (B:=h) ‹_›))) ?_;rintro _ g3 ⟨rfl,oc⟩;have z3:=oc.thenE (B:=h) ‹_›;clear oc;refine rR (aCl aC ?_);refine aI rfl ?_;refine aI rfl ?_;(refine aCB z3 nE iC rfl rfl (by decide) ?_);refine aI rfl ?_;intro b402 m402 o402;refine rR (aCl pG ?_);refine aI rfl ?_;have hw:nG m402 (.slice (some ⟨b402,0,none⟩) 1 1) xs1:=by
  have or:=o402.boxRow 0 rfl 25 1 1 rfl (aDg _) (by decide);have oa:=or.rowArrN 0 rfl
  refine⟨[⟨_,rfl⟩],by simpa[xs1] using oa,rfl,fun i x hx=>?_⟩
  cases i with
  | succ i=>simp[xs1]at hx
  | zero =>
   simp[xs1]at hx
   subst hx
   refine⟨_,rfl,0,_,_,_,_,_,_,_,_,_,_,_,_,_,_,_,rfl,dD.nil _ _,dD.nil _ _,dD.nil _ _,dD.nil _ _,dD.nil _ _,dD.nil _ _,?_⟩
   show kN m402 _ (.mk 0 [] [] [] [] [] [] 0 0)
   rw[kN]
   exact⟨_,_,_,0,rfl,dD.nil _ _,dD.nil _ _,[],dD.nil _ _,trivial⟩
 refine aCT (pI xs1 _ _ (hT.ext (Own.ext (B:=h) ‹_›)) (hF.ext (Own.ext (B:=h) ‹_›)) hw xs1_ok (by decide) (by decide)) ?_;rintro _ g4 ⟨rfl,oc⟩
 rw[pr1]
 have z4:=oc.thenE (B:=h) ‹_›;clear oc;refine rR (aCl pG ?_);refine aCT (pI [] _ _ (hT.ext (Own.ext (B:=h) ‹_›)) (hF.ext (Own.ext (B:=h) ‹_›)) ⟨[],dD.nil _ _,rfl,fun i x hx=>by simp at hx⟩ (by simp) (by simp) (by simp)) ?_;rintro _ g5 ⟨rfl,oc⟩
 rw[pr0]
 have z5:=oc.thenE (B:=h) ‹_›;clear oc;refine aCT (pV _ _ _ (by decide) ag4 (hW.ext (Own.ext (B:=h) ‹_›)) (hT.ext (Own.ext (B:=h) ‹_›)) (hF.ext (Own.ext (B:=h) ‹_›))) ?_;rintro _ g6 ⟨rfl,oc⟩;have z6:=oc.thenE (B:=h) ‹_›;clear oc;refine aCQ ?_;refine aCQ ?_;refine aCQ ?_;refine aCQ ?_;refine aCQ ?_;refine aCX rfl ?_
 exact⟨rfl,Own.sel ‹_› [] rfl⟩
mutual
def exN:Ex→Nat
 | .mk _ _ ks _ _ _ _ _ _=>1+nU ks
def nU:List Ex→Nat
 | []=>0
 | x::xs=>exN x+nU xs
end
mutual
def lW:Ex→Nat→Bool
 | .mk _ _ ks cs ns _ _ _ _,n=>decide (ks.length≤2∧cs.length≤20∧ns.length≤20)&&(ks.isEmpty||(decide (n≠0)&&kD ks (n - 1)))
def kD:List Ex→Nat→Bool
 | [],_=>true
 | x::xs,n=>lW x n&&kD xs n
end
mutual
theorem zY:∀(x:Ex)(n:Nat),lW x n=true→fI x≤41*exN x
 | .mk k t ks cs ns a s g o,n,h=>by
  rw[lW]at h
  simp only[aC8,decide_eq_true_eq,aDR]at h
  rw[fI,exN]
  obtain⟨h1,h2⟩:=h
  rcases h2 with h2|h2
  ·have:ks=[]:=by simpa using h2
   subst this
   rw[fS,nU]
   omega
  ·have:=xF ks (n - 1) h2.2
   omega
theorem xF:∀(l:List Ex)(n:Nat),kD l n=true→fS l≤41*nU l
 | [],_,_=>by rw[fS,nU];omega
 | x::xs,n,h=>by
  rw[kD,aC8]at h
  have h1:=zY x n h.1;have h2:=xF xs n h.2
  rw[fS,nU]
  omega
end
theorem aBw:∀ {l:List Ex}{i:Nat}{x:Ex},l[i]?=some x→nU (l.take (i+1))=nU (l.take i)+exN x
 | [],_,_,h=>by simp at h
 | y::l,0,x,h=>by simp at h;subst h;simp[nU]
 | y::l,i+1,x,h=>by
  have:=aBw (l:=l) (i:=i) (x:=x) (by simpa using h)
  rw[aDv,aDv,nU,nU,this]
  omega
theorem aB7 (l:List Ex)(i:Nat):nU (l.take i)≤nU l:=by
 induction l generalizing i with
 | nil=>simp
 | cons x l ih =>
  cases i with
  | zero=>simp[nU]
  | succ i=>rw[aDv,nU,nU];have:=ih i;omega
theorem rE:∀ {l:List Ex}{n:Nat},kD l n=true↔∀ x∈l,lW x n=true
 | [],n=>by simp[kD]
 | y::l,n=>by rw[kD,aC8,rE (l:=l)];simp
theorem uP:∀(n:Nat)(x:Ex)(c:aVs)(h:Heap)(most:Int)(_:fY x≤n)(_:gA x)(_:kN h c x)(_:0≤most∧most≤100000),
  bZ Tryz.prog 16 [.agg ⟨c⟩,.int .i64 most] h fun r h'=>r=.int .i64 (min (exN x) (most+1))∧Own h [] h'
 | 0,.mk _ _ _ _ _ _ _ _ _,_,_,_,hd,_,_,_=>absurd hd (by rw[fY];omega)
 | n+1,.mk k t ks cs ns a s g o,c,h,most,hd,hB,hc,hm=>by
  rw[fY]at hd
  rw[gA]at hB
  rw[kN]at hc
  obtain⟨_,_,hOK,_,_,_,_,_,hkl,_,_⟩:=hB
  obtain⟨vk,vc,vn,z,rfl,r1,r2,xs,r3,rk⟩:=hc
  unfold qE
  obtain⟨y1,z1,rfl⟩:=dD.isS r3
  refine aCV Tryz.func16 rfl Tryz.ntmps16 (by kernel_rfl) ?_;have o0:=Own.refl h
  rw[exN]
  (refine aCq o0 rfl ?_;intro b10 m10 o10);refine aCZ [5,6,7,8,9,10,11,12,13,14,15,16,17,18,19,20,21,22,23,24,25,26,27,28,29] [5,6] (fun vs hh=>∃(i:Nat),i≤ks.length∧vs=[.int .i64 (min ((1+nU (ks.take i):Nat):Int) (most+1)),.int .i64 i]∧Own h [box b10 [.int .i64 k,.string ⟨⟨t⟩⟩,.slice y1 ks.length z1,vc,vn,.string ⟨⟨a⟩⟩,.string ⟨⟨s⟩⟩,.int .i64 g,.int .i64 z] 42] hh) (fun vs _=>match vs with|[_,.int _ i]=>ks.length - i.toNat|_=>0) ?_ ?_
  ·refine⟨0,by omega,?_,o10⟩
   have:min ((1+nU (ks.take 0):Nat):Int) (most+1)=1:=by simp[nU];omega
   rw[this]
   rfl
  rintro vs junk hh ⟨i,hi,rfl,oh⟩;clear o10;have hle:=aB7 ks i;by_cases hlt:i<ks.length
  ·by_cases hm1:((1+nU (ks.take i):Nat):Int)≤most
   ·obtain⟨kx,hkx⟩:=getx hlt
    obtain⟨cx,hcx,hrx⟩:=jF rk hkx
    have hdx:=gJ hkx;have htk:=aBw hkx
    rw[show min ((1+nU (ks.take i):Nat):Int) (most+1)=((1+nU (ks.take i):Nat):Int) by omega]
    refine rR (fA aM rfl rfl rfl ?_);refine rR (aCc oh 0 rfl cQ rfl rfl ?_);refine rR (aCk rfl bV ?_);refine aCP (fun c53=>?_) (fun hc=>absurd (by omega) hc);refine aCP (fun c54=>?_) (fun hc=>absurd (by omega) hc);refine rR (fA aM rfl rfl rfl ?_);refine rR (aCc oh 0 rfl cQ rfl rfl ?_);refine rR (aCn bV aS (r3.ext oh.ext) rfl (by omega) (by omega) ?_);refine rR (aCp aS (r3.ext oh.ext) (fun y:cX=>y.2) (by decide) rfl ‹_› ?_);refine aCW (by omega) (by omega) ?_;refine aCT (uP n kx cx.1 _ _ (aDk hdx (by omega)) (gU hOK hkx) (kN.ext oh.ext _ _ hrx) (by omega)) ?_;rintro _ m3 ⟨rfl,oc⟩;have o3:=oc.thenE oh;refine aCW (by omega) (by omega) ?_;refine aCW (by omega) (by omega) ?_
    refine⟨rfl,?_⟩
    refine⟨⟨i+1,by omega,?_,Own.sel ‹_› [0] rfl⟩,by simp;omega⟩
    rw[htk]
    congr 2
    omega
   ·refine rR (fA aM rfl rfl rfl ?_)
    refine rR (aCc oh 0 rfl cQ rfl rfl ?_);refine rR (aCk rfl bV ?_);refine aCP (fun c153=>?_) (fun hc=>absurd (by omega) hc);refine aCP (fun hc=>absurd hc (by omega)) (fun c154=>?_);refine aCX rfl ?_
    exact⟨congrArg (Value.int .i64) (by omega),Own.sel ‹_› [] rfl⟩
  ·have hd:ks.take i=ks:=aDm (by omega)
   rw[hd]
   refine rR (fA aM rfl rfl rfl ?_);refine rR (aCc oh 0 rfl cQ rfl rfl ?_);refine rR (aCk rfl bV ?_);refine aCP (fun hc=>absurd hc (by omega)) (fun c203=>?_);refine aCR ?_;refine aCX rfl ?_
   exact⟨rfl,Own.sel ‹_› [] rfl⟩
theorem light_iff (k:Int)(t:aBs)(ks:List Ex)(cs:List Cnd)(ns:List aBs)(a s:aBs)(g:Int)(o n:Nat):lW (.mk k t ks cs ns a s g o) n=(decide (ks.length≤2∧cs.length≤20∧ns.length≤20)&&(ks.isEmpty||(decide (n≠0)&&kD ks (n - 1)))):=by rw[lW]
theorem uI:∀(n:Nat)(x:Ex)(c:aVs)(h:Heap)(lev:Nat)(_:fY x≤n)(_:gA x)(_:kN h c x)(_:lev≤1000),
  bZ Tryz.prog 17 [.agg ⟨c⟩,.int .i64 lev] h fun r h'=>r=.bool (lW x lev)∧Own h [] h'
 | 0,.mk _ _ _ _ _ _ _ _ _,_,_,_,hd,_,_,_=>absurd hd (by rw[fY];omega)
 | n+1,.mk k t ks cs ns a s g o,c,h,lev,hd,hB,hc,hm=>by
  rw[fY]at hd
  rw[gA]at hB
  rw[kN]at hc
  obtain⟨_,_,hOK,_,_,_,_,_,hkl,hcl,hnl⟩:=hB
  obtain⟨vk,vc,vn,z,rfl,r1,r2,xs,r3,rk⟩:=hc
  obtain⟨y1,z1,rfl⟩:=dD.isS r3
  obtain⟨y2,z2,rfl⟩:=dD.isS r1
  obtain⟨y3,z3,rfl⟩:=dD.isS r2
  unfold qE;refine aCV Tryz.func17 rfl Tryz.ntmps17 (by kernel_rfl) ?_;have o0:=Own.refl h
  rw[light_iff]
  (refine aCq o0 rfl ?_;intro b10 m10 o10);refine aCZ [4,5,6,7,8,9,10,11,12,13,14,15,16,17,18,19,20,21,22,23,24,25] [5] (fun vs hh=>∃(i:Nat),i≤ks.length∧vs=[.int .i64 i]∧(∀(j:Nat) (x:Ex),j<i→ks[j]?=some x→lev≠0∧lW x (lev - 1)=true)∧Own h [box b10 [.int .i64 k,.string ⟨⟨t⟩⟩,.slice y1 ks.length z1,.slice y2 cs.length z2,.slice y3 ns.length z3,.string ⟨⟨a⟩⟩,.string ⟨⟨s⟩⟩,.int .i64 g,.int .i64 z] 42] hh) (fun vs _=>match vs with|[.int _ i]=>ks.length - i.toNat|_=>0) ?_ ?_
  ·exact⟨0,by omega,rfl,fun j x hj=>by omega,o10⟩
  rintro vs junk hh ⟨i,hi,rfl,hpre,oh⟩;clear o10;by_cases hlt:i<ks.length
  ·obtain⟨kx,hkx⟩:=getx hlt
   obtain⟨cx,hcx,hrx⟩:=jF rk hkx
   have hdx:=gJ hkx;have hne:ks.isEmpty=false:=by cases ks<;>simp_all
   by_cases hl0:lev=0
   ·subst hl0
    refine rR (fA aM rfl rfl rfl ?_);refine rR (aCc oh 0 rfl cQ rfl rfl ?_);refine rR (aCk rfl bV ?_);refine aCP (fun c53=>?_) (fun hc=>absurd (by omega) hc);refine aCQ ?_;refine aCQ ?_;refine aCX rfl ?_
    refine⟨congrArg Value.bool ?_,Own.sel ‹_› [] rfl⟩
    rw[hne]
    simp
   ·refine rR (fA aM rfl rfl rfl ?_)
    refine rR (aCc oh 0 rfl cQ rfl rfl ?_);refine rR (aCk rfl bV ?_);refine aCP (fun c103=>?_) (fun hc=>absurd (by omega) hc);refine aCP (fun hc=>absurd hc (by omega)) (fun c104=>?_);refine rR (fA aM rfl rfl rfl ?_);refine rR (aCc oh 0 rfl cQ rfl rfl ?_);refine rR (aCn bV aS (r3.ext oh.ext) rfl (by omega) (by omega) ?_);refine rR (aCp aS (r3.ext oh.ext) (fun y:cX=>y.2) (by decide) rfl ‹_› ?_);refine aCW (by omega) (by omega) ?_
    rw[show(lev:Int) - 1=((lev - 1:Nat):Int) by omega]
    refine aCT (uI n kx cx.1 _ _ (aDk hdx (by omega)) (gU hOK hkx) (kN.ext oh.ext _ _ hrx) (by omega)) ?_;rintro _ m3 ⟨rfl,oc⟩;have o3:=oc.thenE oh;cases hb:lW kx (lev - 1) with
    | true =>
     refine aCR ?_;refine aCW (by omega) (by omega) ?_
     refine⟨rfl,?_⟩
     refine⟨⟨i+1,by omega,rfl,fun j x hj hx=>?_,Own.sel ‹_› [0] rfl⟩,by simp;omega⟩
     by_cases e:j=i
     ·subst e
      rw[hkx]at hx
      cases hx
      exact⟨hl0,hb⟩
     ·exact hpre j x (by omega) hx
    | false =>
     refine aCQ ?_;refine aCX rfl ?_
     refine⟨congrArg Value.bool ?_,Own.sel ‹_› [] rfl⟩
     have hls:kD ks (lev - 1)=false:=by
      rw[aDq]
      intro hh
      have:=rE.1 hh kx (aC7 hkx)
      rw[hb]at this
      cases this
     rw[hne,hls]
     simp
  ·have hall:(ks.isEmpty||(decide (lev≠0)&&kD ks (lev - 1)))=true:=by
    cases hks:ks with
    | nil=>rfl
    | cons y r =>
     have h0:=hpre 0 y (by rw[hks]at hlt;simp at hlt;omega) (by rw[hks];rfl)
     have:kD (y::r) (lev - 1)=true:=rE.2 fun x hx=>by
      obtain⟨j,hj⟩:=aDz.1 hx
      rw[← hks]at hj
      exact(hpre j x (by have:=(aC6.1 hj).1;omega) hj).2
     rw[this]
     simp[h0.1]
   rw[hall,Bool.and_true]
   refine rR (fA aM rfl rfl rfl ?_);refine rR (aCc oh 0 rfl cQ rfl rfl ?_);refine rR (aCk rfl bV ?_);refine aCP (fun hc=>absurd hc (by omega)) (fun c253=>?_);refine rR (fA aM rfl rfl rfl ?_);refine rR (aCc oh 0 rfl cQ rfl rfl ?_);refine rR (aCk rfl bV ?_);refine aCP (fun c257=>?_) (fun c257=>?_);refine rR (fA aM rfl rfl rfl ?_);refine rR (aCc oh 0 rfl mL rfl rfl ?_);refine rR (aCk rfl jA ?_);refine aCP (fun c261=>?_) (fun c261=>?_);refine rR (fA aM rfl rfl rfl ?_);refine rR (aCc oh 0 rfl eV rfl rfl ?_);refine rR (aCk rfl aK ?_);refine aCX rfl ?_
   rotate_left
   refine aCX rfl ?_
   rotate_left
   refine aCX rfl ?_
   all_goals first
    | exact⟨congrArg Value.bool (decide_eq_false (fun h=>by omega)).symm,Own.sel ‹_› [] rfl⟩
    | exact⟨congrArg Value.bool (decide_eq_decide.2 ⟨fun h=>by omega,fun h=>by omega⟩),Own.sel ‹_› [] rfl⟩
def pH (x:It):Bool:=decide ((x.cols.length:Int)+x.names.length+x.terms.length+x.fixed.length+x.vars.length+x.conds.length≤60∧exN x.expr≤300)&&lW x.expr 20
def sZ (xs:List It):Bool:=xs.all pH&&decide (xs.length≤210)
theorem short_size {x:It}(h:pH x=true):eI x≤50000000:=by
 unfold pH at h
 simp only[aC8,decide_eq_true_eq]at h
 have:=zY x.expr 20 h.2
 unfold eI
 omega
theorem aBP (xs:List It)(va:Value)(h:Heap)(hOK:∀ x∈xs,iQ x)(hl:xs.length≤1000000000000000)(hP:nG h va xs) :
  bZ Tryz.prog 10 [.agg ⟨[va]⟩] h fun r h'=>r=.bool (sZ xs)∧Own h [] h':=by
 obtain⟨ca,q1,q2,q3⟩:=hP
 obtain⟨ya,yc,rfl⟩:=q1.isS
 refine aCV Tryz.func10 rfl Tryz.ntmps10 (by kernel_rfl) ?_;have o0:=Own.refl h;(refine aCq o0 rfl ?_;intro b10 m10 o10);refine aCZ [2,3,4,5,6,7,8,9,10,11,12,13,14,15,16,17,18,19,20,21,22,23,24,25,26,27,28,29,30,31,32,33,34,35,36,37,38,39,40,41,42,43,44,45,46,47,48,49,50,51,52] [3] (fun vs hh=>∃(i:Nat),i≤xs.length∧vs=[.int .i64 i]∧(∀(j:Nat) (x:It),j<i→xs[j]?=some x→pH x=true)∧Own h [box b10 [.slice ya xs.length yc] 24] hh) (fun vs _=>match vs with|[.int _ i]=>xs.length - i.toNat|_=>0) ?_ ?_
 ·exact⟨0,by omega,rfl,fun j x hj=>by omega,o10⟩
 rintro vs junk hh ⟨i,hi,rfl,hpre,oh⟩;clear o10;by_cases hlt:i<xs.length
 ·obtain⟨x,hx⟩:=getx hlt
  obtain⟨cx,hcx,hrx⟩:=q3 i x hx
  have hxOK:=hOK x (aC7 hx);have hbx:gA x.expr:=hxOK.2.2.2.2.2.2.2.2.2.2.2.2.2.2.2.1;have hll:=hxOK.2.2.2.2.2.2.2.2.2.2.2.2.2.2.2.2
  obtain⟨cxv,hcl⟩:=cx
  obtain⟨z,vc,vn,vt,vf,vv,vd,e0,e1,e2,e3,e4,e5,e6,e7,e8,hcv,w1,w2,w3,w4,w5,w6,rx⟩:=hrx
  dsimp only at hcv;subst hcv;have rx2:=rx;cases hex:x.expr with
  | mk xk xt xks xcs xns xa xs_ xg xo =>
  rw[hex,kN]at rx2
  obtain⟨wk,wc,wn,wz,hcv,g1,g2,gx,g3,_⟩:=rx2
  obtain⟨h1,h2,rfl⟩:=g1.isS
  obtain⟨h3,h4,rfl⟩:=g2.isS
  obtain⟨h5,h6,rfl⟩:=g3.isS
  unfold qE at hcv
  simp only[List.cons.injEq,and_true]at hcv
  obtain⟨rfl,rfl,rfl,rfl,rfl,rfl,rfl,rfl,rfl⟩:=hcv
  obtain⟨i1,j1,rfl⟩:=w1.isS
  obtain⟨i2,j2,rfl⟩:=w2.isS
  obtain⟨i3,j3,rfl⟩:=w3.isS
  obtain⟨i4,j4,rfl⟩:=w4.isS
  obtain⟨i5,j5,rfl⟩:=w5.isS
  obtain⟨i6,j6,rfl⟩:=w6.isS
  unfold fE at hcx hcl;clear w1 w2 w3 w4 w5 w6 g1 g2 g3
  try rw[hex]at rx hbx
  have hno:pH x=false→sZ xs=false:=fun hs=>by
   unfold sZ
   have:xs.all pH=false:=by
    rw[aDq]
    intro hh
    have:=aDh.1 hh x (aC7 hx)
    rw[hs]at this
    cases this
   rw[this]
   rfl
  have hsh:pH x=(decide ((x.cols.length:Int)+x.names.length+x.terms.length+x.fixed.length+x.vars.length+x.conds.length≤60∧exN (.mk xk xt xks xcs xns xa xs_ xg xo)≤300)&&lW (.mk xk xt xks xcs xns xa xs_ xg xo) 20):=by unfold pH;rw[hex]
  by_cases h60:(x.cols.length:Int)+x.names.length+x.terms.length+x.fixed.length+x.vars.length+x.conds.length≤60
  case neg =>
   refine rR (fA pG rfl rfl rfl ?_);refine rR (aCc oh 0 rfl sW rfl rfl ?_);refine rR (aCk rfl nE ?_);refine aCP (fun c103=>?_) (fun hc=>absurd (by omega) hc);refine rR (fA pG rfl rfl rfl ?_);refine rR (aCc oh 0 rfl sW rfl rfl ?_);refine rR (aCn nE iC (q1.ext oh.ext) rfl (by omega) (by omega) ?_);refine rR (aCp iC (q1.ext oh.ext) (fun y:jJ=>y.2) (by decide) rfl ‹_› ?_);(refine aCN oh iC ?_;intro b108 m108 o108);(refine aCf o108 1 rfl iC rfl (by decide) (aI ⟨rfl,rfl⟩ ?_);intro m109 o109);refine rR (fA aC rfl rfl rfl ?_);refine rR (aCc o109 1 rfl lS rfl rfl ?_);refine rR (aCk rfl kI ?_);refine rR (fA aC rfl rfl rfl ?_);refine rR (aCc o109 1 rfl eV rfl rfl ?_);refine rR (aCk rfl aK ?_);refine aCW (by omega) (by omega) ?_;refine rR (fA aC rfl rfl rfl ?_);refine rR (aCc o109 1 rfl nQ rfl rfl ?_);refine rR (aCk rfl nT ?_);refine aCW (by omega) (by omega) ?_;refine rR (fA aC rfl rfl rfl ?_);refine rR (aCc o109 1 rfl oG rfl rfl ?_);refine rR (aCk rfl nD ?_);refine aCW (by omega) (by omega) ?_;refine rR (fA aC rfl rfl rfl ?_);refine rR (aCc o109 1 rfl pF rfl rfl ?_);refine rR (aCk rfl nR ?_);refine aCW (by omega) (by omega) ?_;refine rR (fA aC rfl rfl rfl ?_);refine rR (aCc o109 1 rfl mL rfl rfl ?_);refine rR (aCk rfl jA ?_);refine aCW (by omega) (by omega) ?_;refine aCP (fun c128=>?_) (fun hc=>absurd (by omega) hc);refine aCQ ?_;refine aCX rfl ?_
   refine⟨congrArg Value.bool (hno ?_).symm,Own.sel ‹_› [] rfl⟩
   rw[hsh,decide_eq_false (fun hh=>h60 hh.1)]
   rfl
  refine rR (fA pG rfl rfl rfl ?_);refine rR (aCc oh 0 rfl sW rfl rfl ?_);refine rR (aCk rfl nE ?_);refine aCP (fun c153=>?_) (fun hc=>absurd (by omega) hc);refine rR (fA pG rfl rfl rfl ?_);refine rR (aCc oh 0 rfl sW rfl rfl ?_);refine rR (aCn nE iC (q1.ext oh.ext) rfl (by omega) (by omega) ?_);refine rR (aCp iC (q1.ext oh.ext) (fun y:jJ=>y.2) (by decide) rfl ‹_› ?_);(refine aCN oh iC ?_;intro b158 m158 o158);(refine aCf o158 1 rfl iC rfl (by decide) (aI ⟨rfl,rfl⟩ ?_);intro m159 o159);refine rR (fA aC rfl rfl rfl ?_);refine rR (aCc o159 1 rfl lS rfl rfl ?_);refine rR (aCk rfl kI ?_);refine rR (fA aC rfl rfl rfl ?_);refine rR (aCc o159 1 rfl eV rfl rfl ?_);refine rR (aCk rfl aK ?_);refine aCW (by omega) (by omega) ?_;refine rR (fA aC rfl rfl rfl ?_);refine rR (aCc o159 1 rfl nQ rfl rfl ?_);refine rR (aCk rfl nT ?_);refine aCW (by omega) (by omega) ?_;refine rR (fA aC rfl rfl rfl ?_);refine rR (aCc o159 1 rfl oG rfl rfl ?_);refine rR (aCk rfl nD ?_);refine aCW (by omega) (by omega) ?_;refine rR (fA aC rfl rfl rfl ?_);refine rR (aCc o159 1 rfl pF rfl rfl ?_);refine rR (aCk rfl nR ?_);refine aCW (by omega) (by omega) ?_;refine rR (fA aC rfl rfl rfl ?_);refine rR (aCc o159 1 rfl mL rfl rfl ?_);refine rR (aCk rfl jA ?_);refine aCW (by omega) (by omega) ?_;refine aCP (fun hc=>absurd hc (by omega)) (fun c178=>?_);refine rR (fA aC rfl rfl rfl ?_);refine rR (aCg o159 1 rfl aS rfl rfl rfl ?_);refine aCT (uP _ (.mk xk xt xks xcs xns xa xs_ xg xo) _ _ 300 (aDg _) hbx (kN.ext (Own.ext (B:=h) ‹_›) _ _ rx) (by omega)) ?_
  rintro _ m3 ⟨rfl,oc⟩;have o3:=oc.thenE (B:=h) ‹_›;by_cases h300:exN (.mk xk xt xks xcs xns xa xs_ xg xo)≤300
  case neg =>
   refine aCP (fun c200=>?_) (fun hc=>absurd (by omega) hc);refine aCQ ?_;refine aCX rfl ?_
   refine⟨congrArg Value.bool (hno ?_).symm,Own.sel ‹_› [] rfl⟩
   rw[hsh,decide_eq_false (fun hh=>h300 hh.2)]
   rfl
  refine aCP (fun hc=>absurd hc (by omega)) (fun c250=>?_);refine rR (fA aC rfl rfl rfl ?_);refine rR (aCg o3 1 rfl aS rfl rfl rfl ?_);refine aCT (uI _ (.mk xk xt xks xcs xns xa xs_ xg xo) _ _ 20 (aDg _) hbx (kN.ext (Own.ext (B:=h) ‹_›) _ _ rx) (by omega)) ?_;rintro _ m4 ⟨rfl,oc4⟩;have o4:=oc4.thenE (B:=h) ‹_›;cases hb:lW (.mk xk xt xks xcs xns xa xs_ xg xo) 20 with
  | true =>
   refine aCR ?_;refine aCW (by omega) (by omega) ?_
   refine⟨rfl,?_⟩
   refine⟨⟨i+1,by omega,rfl,fun j y hj hy=>?_,Own.sel ‹_› [0] rfl⟩,by simp;omega⟩
   by_cases e:j=i
   ·subst e
    rw[hx]at hy
    cases hy
    rw[hsh,hb,decide_eq_true ⟨h60,h300⟩]
    rfl
   ·exact hpre j y (by omega) hy
  | false =>
   refine aCQ ?_;refine aCX rfl ?_
   refine⟨congrArg Value.bool (hno ?_).symm,Own.sel ‹_› [] rfl⟩
   rw[hsh,hb,Bool.and_false]
 ·refine rR (fA pG rfl rfl rfl ?_)
  refine rR (aCc oh 0 rfl sW rfl rfl ?_);refine rR (aCk rfl nE ?_);refine aCP (fun hc=>absurd hc (by omega)) (fun c403=>?_);refine rR (fA pG rfl rfl rfl ?_);refine rR (aCc oh 0 rfl sW rfl rfl ?_);refine rR (aCk rfl nE ?_);refine aCX rfl ?_;have hall:xs.all pH=true:=aDh.2 fun x hx=>by
   obtain⟨j,hj⟩:=aDz.1 hx
   exact hpre j x (by have:=(aC6.1 hj).1;omega) hj
  refine⟨congrArg Value.bool ?_,Own.sel ‹_› [] rfl⟩
  unfold sZ
  rw[hall,Bool.true_and]
  exact decide_eq_decide.2 (by omega)
end Go.Proofs.YtohlogbnpfofpaaGreatDoor
