/- Part 13 of the proof of canonical: FnXo, FnXr, FnXp, FnQj, FnXs, FnEr, FnJo, FnYh, FnQk, FnQl, FnQm, FnQn, FnYp, FnYu. -/
import Derived.Lib.Builder
import Derived.Test.YtohlogbnpfofpaaGreatDoorPC12
set_option linter.all false
set_option maxHeartbeats 100000000
set_option maxRecDepth 100000
namespace Go.Proofs.YtohlogbnpfofpaaGreatDoor
open Go StillVC
def LEnds (B:Base)(b:Nat)(bs:aBs)(k:Int)(c:Nat)(x:It):Ending→Heap→Prop :=
 Ends (fun r h'=>∃ ps p' v',gW x=some ps∧r=.bool (gC x)∧cW b p'∧(gY ps).length≤c∧ps.length≤c∧Own B [box b [p',v',.int .i64 (k+ps.length)] 58,row v' 5 1 (bs++gY ps).length (bytes (bs++gY ps))] h')
  fun q h'=>gW x=none∧q=xZ∧Own B [] h'
theorem nO (x:It):eU (dP x)=eU x:=by unfold dP;split<;>rfl
theorem oR (x:It):dV (dP x)=dV x:=by unfold dP;split<;>rfl
theorem jD (x:It):(dP x).kind=x.kind:=by unfold dP;split<;>rfl
theorem sJ (x:It):(dP x).expr=x.expr:=by unfold dP;split<;>rfl
theorem tL {x:It}(h:nM x):nM (dP x):=by
 unfold dP;split
 ·exact h
 ·obtain⟨h1,h2,h3⟩:=h
  exact⟨h1,by simp,h3⟩
theorem zI (x:It):(eI x).kind=x.kind:=by
 unfold eI
 repeat' split
 all_goals rfl
theorem aCs {x:It}(h:nM x):nM (eI x):=by
 obtain⟨bkind,bname,btable,battr,bcols,bnames,bby,bn,bm,bterms,both,boat,bfixed,bvars,bconds,bexpr,lcols,lnames,lterms,lfixed,lvars,lconds⟩:=h
 have hx0:lH ex0:=by unfold ex0;rw[lH];simp[uB]
 unfold eI
 repeat' split
 all_goals simp only[clr1,clr2,aBe,clr4,clr5,clr6,clr7,clr8,clr9,clr10]
 all_goals refine⟨by first|assumption|(simp;done),by first|assumption|(simp;done),by first|assumption|(simp;done),by first|assumption|(simp;done),by first|assumption|(simp;done),by first|assumption|(simp;done),by first|assumption|(simp;done),?_,?_,by first|assumption|(simp;done),by first|assumption|(simp;done),by first|assumption|(simp;done),by first|assumption|(simp;done),by first|assumption|(simp;done),by first|assumption|(simp;done),by first|assumption|(simp;done),by first|assumption|(simp;done),by first|assumption|(simp;done),by first|assumption|(simp;done),by first|assumption|(simp;done),by first|assumption|(simp;done),by first|assumption|(simp;done)⟩
 all_goals try dsimp only
 all_goals first|assumption|omega|(split<;>omega)
theorem aCh (x:It):decide ((if (dP x).kind=10∧12<bZ (dP x).expr then(-1:Int) else 0)=0)=gC x:=by
 rw[jD,sJ]
 unfold gC
 apply decide_eq_decide.2
 by_cases h1:x.kind=10
 ·by_cases h2:12<bZ x.expr
  ·rw[if_pos ⟨h1,h2⟩]
   exact⟨fun h=>absurd h (by decide),fun h=>absurd (h h1) (by omega)⟩
  ·rw[if_neg (fun h=>h2 h.2)]
   exact⟨fun _ _=>by omega,fun _=>rfl⟩
 ·rw[if_neg (fun h=>h1 h.1)]
  exact⟨fun _ h=>absurd h h1,fun _=>rfl⟩
theorem LEnds.done {B:Base}{b:Nat}{bs bs':aBs}{k k':Int}{c:Nat}{x:It}{ps:List Pc}{p v r:Value}{h:Heap}(hq:gW x=some ps)(o:Own B [box b [p,v,.int .i64 k'] 58,row v 5 1 bs'.length (bytes bs')] h)(hp:cW b p)(hb:bs'=bs++gY ps)(hk:k'=k+ps.length)
  (hc:bs'.length≤bs.length+c) (hc2:k'≤k+c) (hr:r=.bool (gC x)):LEnds B b bs k c x (.returned r) h:=by
 subst hb;subst hk
 rw[aD9]at hc
 exact⟨ps,p,v,hq,hr,hp,by omega,by omega,o⟩
theorem itemQ_eq (x:It)(hkd:1≤x.kind∧x.kind≤10):gW x=if xV (eI (dP x))=true then aG [some [aD [] (eF.getD (x.kind - 1).toNat [])],(if x.kind=5 then some [] else bB [32] x.name),dV x,some [if x.kind=4 then aL [10] [125] else aL [] [59]]] else none:=by
 rw[empty_bare hkd.1 hkd.2]
 unfold gW;by_cases hc:(fN x&&(decide (x.kind=10)||gR x.expr))=true
 ·have hc2:=hc
  simp only[aD8,aES,decide_eq_true_eq]at hc2
  rw[if_pos ⟨hkd.1,hkd.2,hc2.1,hc2.2⟩,if_pos hc]
 ·rw[if_neg hc,if_neg]
  rintro⟨_,_,h1,h2⟩
  apply hc
  rw[h1]
  rcases h2 with h2|h2<;>simp[h2]
theorem prItem_spec (B:Base)(b:Nat)(p v:Value)(k:Int)(bs:aBs)(x:It)(c:aVs)(h:Heap)(hp:cW b p)(hT:kJ B.h)(hF:iQ B.h)(hOK:nM x)(hc:itH B.h c x)(hLev:bZ x.expr≤100000000000)
  (o:Own B [box b [p,v,.int .i64 k] 58,row v 5 1 bs.length (bytes bs)] h) (hl:bs.length+3000*eU x≤40000000000000) (hk:0≤k∧k+3000*eU x≤40000000000000) :
  Spec Tryz.prog 19 [.pointer (some ⟨b,0,none⟩),.agg ⟨c⟩] h (LEnds B b bs k (3000*eU x) x):=by
 obtain⟨z,vc,vn,vt,vf,vv,vd,e0,e1,e2,e3,e4,e5,e6,e7,e8,rfl,q1,q2,q3,q4,q5,q6,rx⟩:=hc
 have hOK2:=hOK
 obtain⟨bkind,bname,btable,battr,bcols,bnames,bby,bn,bm,bterms,both,boat,bfixed,bvars,bconds,bexpr,lcols,lnames,lterms,lfixed,lvars,lconds⟩:=hOK
 have hsz:eU x=1+x.cols.length+x.names.length+x.terms.length+x.fixed.length+x.vars.length+x.conds.length+fQ x.expr:=rfl;unfold gF;refine aDX Tryz.func19 rfl Tryz.ntmps19 (by kernel_rfl) ?_;by_cases hkd:1≤x.kind∧x.kind≤10
 case neg =>
  have hq:gW x=none:=by unfold gW;rw[if_neg (fun h=>hkd ⟨h.1,h.2.1⟩)]
  by_cases h1:1≤x.kind
  ·(refine aDz o rfl ?_;intro b10 m10 o10)
   refine rR (fA aT rfl rfl rfl ?_);refine rR (aDe o10 2 rfl aY rfl rfl ?_);refine aDR (fun c13=>?_) (fun hc=>absurd (by omega) hc);refine rR (fA aT rfl rfl rfl ?_);refine rR (aDe o10 2 rfl aY rfl rfl ?_);refine aDj (B:=B) ‹_› (aE _ _) (fun g1 m2 _ oq=>absurd (of_decide_eq_true g1) (by omega)) fun g1 m2 oq=>?_
   exact⟨hq,rfl,oq⟩
  ·(refine aDz o rfl ?_;intro b30 m30 o30)
   refine rR (fA aT rfl rfl rfl ?_);refine rR (aDe o30 2 rfl aY rfl rfl ?_);refine aDR (fun hc=>absurd hc (by omega)) (fun c33=>?_);refine aDj (B:=B) ‹_› (aE _ _) (fun g1 m2 _ oq=>by cases g1) fun g1 m2 oq=>?_
   exact⟨hq,rfl,oq⟩
 have hiq:=itemQ_eq x hkd;(refine aDz o rfl ?_;intro b50 m50 o50);refine rR (fA aT rfl rfl rfl ?_);refine rR (aDe o50 2 rfl aY rfl rfl ?_);refine aDR (fun c53=>?_) (fun hc=>absurd (by omega) hc);refine rR (fA aT rfl rfl rfl ?_);refine rR (aDe o50 2 rfl aY rfl rfl ?_);refine aDj (B:=B) ‹_› (aE _ _) (fun g1 m2 oc oq=>?_) fun g1 m2 oq=>absurd (of_decide_eq_false g1) (by omega);clear oc;refine aDU [0,1,2,3,7] [4] [6,8,9] [0,1,2,3,4,5,6,7,8,9] mixed (by kernel_rfl) rfl (fun _ _ _ _ h=>h) ?_;refine nC rfl ?_;refine fA bS rfl rfl rfl ?_;refine fA aT rfl rfl rfl ?_;refine aDe oq 2 rfl aY rfl rfl ?_;(refine aDO (Own.refl _) aJ aO rfl rfl (by decide) (aI rfl ?_);intro b74 m74 o74);(refine aI o74.ext ?_;have o75:=Own.call oq o74;simp only[lcA,lnA]at o75;clear o74);refine aDj (B:=B) ‹_› (eE x.kind eF _ _ (by omega) (by omega) (Own.boxArr ‹_› 3 rfl rfl (by decide)) (by decide) (by decide)) (fun g2 m3 oc oq=>?_) fun g2 m3 oq=>absurd (of_decide_eq_false g2) (by show ¬ ¬ (1≤x.kind∧x.kind≤10);omega);have hwl:=lD (ws:=eF) (M:=10) (by decide) (x.kind - 1).toNat;generalize hwd:eF.getD (x.kind - 1).toNat []=wd at hwl hiq;clear oc;refine aDH cX rfl ⟨_,rfl⟩ rfl (by omega) (by show(1:Int)≤((32::wd).length:Int);simp only[aEa];omega) (by omega) ?_;(refine aDO oq aJ aO rfl rfl (by decide) (aI rfl ?_);intro b91 m91 o91)
 rw[show List.drop (1:Int).toNat (List.take (((32::wd).length:Nat):Int).toNat (32::wd))=wd by simp]at *
 refine aH [wd] 1 30 [2] (i:=4) ‹_› rfl rfl rfl hp rfl (by omega) (by omega) (by simp;omega) (by omega) (by omega) (fun p1 v1 bs1 k1 m1 hp1 hb1 hk1 hl1 oq=>?_);have o1:Own B [box b [p1,v1,.int .i64 k1] 58,row v1 5 1 bs1.length (bytes bs1),box b50 [.int .i64 x.kind,.string ⟨⟨x.name⟩⟩,.int .i64 z,.string ⟨⟨x.table⟩⟩,.string ⟨⟨x.attr⟩⟩,vc,vn,.int .i64 x.by_,.int .i64 x.n,.int .i64 x.m,vt,.string ⟨⟨x.other⟩⟩,.string ⟨⟨x.oattr⟩⟩,vf,vv,vd,e0,e1,e2,e3,e4,e5,e6,e7,e8] 44] m1:=oq;clear oq;have hF2:∀ nm,(x.kind=5→nm=x.name)→(x.kind≠5→nm=[])→itH B.h (gF (dP x) 0 vc vn vt vf vv vd e0 e1 e2 e3 e4 e5 e6 e7 e8) (dP x)∧gF (dP x) 0 vc vn vt vf vv vd e0 e1 e2 e3 e4 e5 e6 e7 e8=[.int .i64 x.kind,.string ⟨⟨nm⟩⟩,.int .i64 0,.string ⟨⟨x.table⟩⟩,.string ⟨⟨x.attr⟩⟩,vc,vn,.int .i64 x.by_,.int .i64 x.n,.int .i64 x.m,vt,.string ⟨⟨x.other⟩⟩,.string ⟨⟨x.oattr⟩⟩,vf,vv,vd,e0,e1,e2,e3,e4,e5,e6,e7,e8]:=by
  intro nm h5 hn5
  refine⟨⟨0,_,_,_,_,_,_,_,_,_,_,_,_,_,_,_,rfl,?_⟩,?_⟩
  ·unfold dP
   split<;>exact⟨q1,q2,q3,q4,q5,q6,rx⟩
  ·unfold dP
   split
   ·rename_i h;rw[h5 h];rfl
   ·rename_i h;rw[hn5 h];rfl
 have fin:∀(nm:aBs) (p2 v2:Value) (bs2:aBs) (k2:Int) (ps2:List Pc) (m2:Heap),(if x.kind=5 then some [] else bB [32] x.name)=some ps2→True:=fun _ _ _ _ _ _ _ _=>trivial;clear fin;by_cases h5:x.kind=5
 ·obtain⟨hcN,hcE⟩:=hF2 x.name (fun _=>rfl) (fun h=>absurd h5 h)
  refine rR (fA aT rfl rfl rfl ?_);(refine aDN o1 2 rfl aY rfl (by simp) (aI ⟨rfl,rfl⟩ ?_);intro m201 o201);refine rR (fA aT rfl rfl rfl ?_);refine rR (aDe o201 2 rfl aY rfl rfl ?_);refine aDp (fun hc=>absurd (by first|omega|assumption|decide|exact rfl) hc) (fun c204=>?_);refine aDU [1,3,4] [2] [5] [1,2,4,0,3,5] mixed (by kernel_rfl) rfl (fun _ _ _ _ h=>h) ?_;refine fA aT rfl rfl rfl ?_;refine aDe o201 2 rfl aY rfl rfl ?_;refine aDV (uW _) ?_;rintro _ m6 ⟨rfl,oc⟩;have o4:=oc.thenE (B:=B) ‹_›
  refine⟨oc.ext,?_⟩
  clear oc;have hwA:=wrN_at hkd.1 hkd.2;refine indexA arr80 rfl rfl (by omega) (by omega) (by first|rfl|assumption) ?_;have o5:Own B [box b [p1,v1,.int .i64 k1] 58,row v1 5 1 bs1.length (bytes bs1),box b50 (gF (dP x) 0 vc vn vt vf vv vd e0 e1 e2 e3 e4 e5 e6 e7 e8) 44] m6:=by rw[hcE];exact o4
  have hsp:=aAe B b b50 p1 v1 k1 bs1 (dP x) 0 vc vn vt vf vv vd e0 e1 e2 e3 e4 e5 e6 e7 e8 m6 hp1 hT hF (tL hOK2) (by rw[jD];exact hkd) hcN (by rw[sJ];exact hLev) o5 (by rw[nO];omega) (by rw[nO];omega)
  rw[jD,nO]at hsp
  unfold WAny at hsp;refine aDW hsp (fun _ m7 ⟨ps4,p4,v4,uc,un,ut,uf,uv,ud,f0,f1,f2,f3,f4,f5,f6,f7,f8,hq4,hr4,hp4,hl4,hl4',hI,o6⟩=>?_) (fun _ m7 ⟨hq4,hr4,o6⟩=>?_)
  case refine_2 =>
   subst hr4
   rw[oR]at hq4
   exact⟨hiq.trans (by split;simp only[if_pos h5,hq4,aG,oMN,oMS];rfl),rfl,o6⟩
  subst hr4
  rw[oR]at hq4
  have hyk:=zI (dP x)
  rw[jD]at hyk
  have hyok:=aCs (tL hOK2);have hfz:decide ((if (dP x).kind=10∧12<bZ (dP x).expr then(-1:Int) else 0)=0)=gC x:=aCh x;generalize (if (dP x).kind=10∧12<bZ (dP x).expr then(-1:Int) else 0)=z' at o6 hI hfz;generalize eI (dP x)=y at o6 hI hyk hyok hiq;have hpl:(bs1++bK ps4).length=bs1.length+(bK ps4).length:=aD9;generalize hb4:bs1++bK ps4=bs4 at o6 hpl;have hk4:k1+(ps4.length:Int)=k1+ps4.length:=rfl;generalize hkk4:k1+(ps4.length:Int)=k4 at o6;unfold gF at o6 hI;clear o4 o5 hsp;refine rR (aDi o6 2 rfl lJ rfl rfl rfl ?_);refine aDV (vJ y _ _ hyok (hI.ext (Own.ext (B:=B) o6))) ?_;rintro _ m8 ⟨rfl,oc⟩;have o7:=oc.thenE (B:=B) o6;clear oc o6;refine aDj (B:=B) ‹_› (aE _ _) (fun g9 m9 oc oq=>?_) fun g9 m9 oq=>?_
  case refine_2=>exact⟨hiq.trans (if_neg (by rw[g9];decide)),rfl,oq⟩
  rw[if_pos g9]at hiq
  clear oc o7;by_cases h4:x.kind=4
  ·skip
   refine rR (fA aT rfl rfl rfl ?_);refine rR (aDe oq 2 rfl aY rfl rfl ?_);refine aDR (fun c482=>?_) (fun hc=>absurd (by omega) hc);refine rR (nC rfl ?_);refine rR (fA bS rfl rfl rfl ?_);(refine aDO oq aJ aO rfl rfl (by decide) (aI rfl ?_);intro b485 m485 o485);refine aH [[10,125]] 1 30 [2] (i:=3) ‹_› rfl rfl rfl hp4 rfl (by omega) (by omega) (by simp) (by omega) (by omega) (fun p6 v6 bs6 k6 m10 hp6 hb6 hk6 hl6 oz=>?_);have o8:=oz
   simp only[pick,lgS,lgZ]at o8
   clear oz;refine rR (nC rfl ?_);refine rR (fA bS rfl rfl rfl ?_);refine rR (fA aAq rfl rfl rfl ?_);refine aDV (qC b p6 v6 k6 bs6 10 _ _ hp6 (o8.lend [0,1] [2] rfl) (by omega)) ?_;rintro _ m11 ⟨rfl,v7,o9⟩;have o10:=o9.back
   simp only[pick,wSt,lcA,lnA,lgS,lgZ]at o10
   clear o8 o9;refine rR (fA aT rfl rfl rfl ?_);refine rR (aDe o10 2 rfl aY rfl rfl ?_);refine aDZ rfl ?_;have hq:=hiq.trans (show _=some ([aD [] wd]++([]++(ps4++([aL [10] [125]]++[])))) by rw[if_pos h4];simp only[if_pos h5,hq4,aG,oMS]);have hbt:bs6++[10]=bs++gY ([aD [] wd]++([]++(ps4++([aL [10] [125]]++[])))):=by rw[hb6,← hb4,hb1];simp[gY,bK,gE,wr,aD,aL]
   have hkt:k6=k+(([aD [] wd]++([]++(ps4++([aL [10] [125]]++[]))):List Pc).length:Int):=by rw[hk6,← hkk4,hk1];first|(simp;done)|(simp;omega)
   exact LEnds.done hq (Own.sel ‹_› [0,1] rfl) (.inr rfl) hbt hkt (by simp only[aD9,aEa,aEr];omega) (by omega) (congrArg Value.bool hfz)
  ·skip
   refine rR (fA aT rfl rfl rfl ?_);refine rR (aDe oq 2 rfl aY rfl rfl ?_);refine aDR (fun hc=>absurd hc (by omega)) (fun c542=>?_);refine rR (nC rfl ?_);refine rR (fA bS rfl rfl rfl ?_);(refine aDO oq aJ aO rfl rfl (by decide) (aI rfl ?_);intro b545 m545 o545);refine aH [[59]] 1 30 [2] (i:=3) ‹_› rfl rfl rfl hp4 rfl (by omega) (by omega) (by simp) (by omega) (by omega) (fun p6 v6 bs6 k6 m10 hp6 hb6 hk6 hl6 oz=>?_);have o8:=oz
   simp only[pick,lgS,lgZ]at o8
   clear oz;refine rR (nC rfl ?_);refine rR (fA bS rfl rfl rfl ?_);refine rR (fA aAq rfl rfl rfl ?_);refine aDV (qC b p6 v6 k6 bs6 10 _ _ hp6 (o8.lend [0,1] [2] rfl) (by omega)) ?_;rintro _ m11 ⟨rfl,v7,o9⟩;have o10:=o9.back
   simp only[pick,wSt,lcA,lnA,lgS,lgZ]at o10
   clear o8 o9;refine rR (fA aT rfl rfl rfl ?_);refine rR (aDe o10 2 rfl aY rfl rfl ?_);refine aDZ rfl ?_;have hq:=hiq.trans (show _=some ([aD [] wd]++([]++(ps4++([aL [] [59]]++[])))) by rw[if_neg h4];simp only[if_pos h5,hq4,aG,oMS]);have hbt:bs6++[10]=bs++gY ([aD [] wd]++([]++(ps4++([aL [] [59]]++[])))):=by rw[hb6,← hb4,hb1];simp[gY,bK,gE,wr,aD,aL]
   have hkt:k6=k+(([aD [] wd]++([]++(ps4++([aL [] [59]]++[]))):List Pc).length:Int):=by rw[hk6,← hkk4,hk1];first|(simp;done)|(simp;omega)
   exact LEnds.done hq (Own.sel ‹_› [0,1] rfl) (.inr rfl) hbt hkt (by simp only[aD9,aEa,aEr];omega) (by omega) (congrArg Value.bool hfz)
 ·obtain⟨hcN,hcE⟩:=hF2 [] (fun h=>absurd h h5) (fun _=>rfl)
  refine rR (fA aT rfl rfl rfl ?_);(refine aDN o1 2 rfl aY rfl (by simp) (aI ⟨rfl,rfl⟩ ?_);intro m301 o301);refine rR (fA aT rfl rfl rfl ?_);refine rR (aDe o301 2 rfl aY rfl rfl ?_);refine aDp (fun c304=>?_) (fun hc=>absurd hc (by first|omega|assumption|decide|exact rfl));refine aDU [0,1,2,3,6] [4] [5,7,8] [0,1,2,3,4,5,6,7,8] mixed (by kernel_rfl) rfl (fun _ _ _ _ h=>h) ?_;refine nC rfl ?_;refine fA bS rfl rfl rfl ?_;refine fA aT rfl rfl rfl ?_;refine aDe o301 2 rfl aO rfl rfl ?_;refine aDj (B:=B) ‹_› (bM x.name _ bname) (fun g3 m4 oc oq=>?_) fun g3 m4 oq=>?_
  case refine_2 =>
   have hn:=cZ (b:=[32]) g3
   exact⟨hiq.trans (by split;simp only[if_neg h5,hn,aG,oMN];rfl),rfl,oq⟩
  have hnl:=cU g3;clear oc;refine aDm rfl rfl (by first|omega|(simp;omega)) ?_;(refine aDO oq aJ aO rfl rfl (by decide) (aI rfl ?_);intro b331 m331 o331);refine aH [[32]++x.name] 1 30 [2] (i:=3) ‹_› rfl rfl rfl hp1 rfl (by omega) (by omega) (by simp;omega) (by omega) (by omega) (fun p3 v3 bs3 k3 m5 hp3 hb3 hk3 hl3 oq=>?_);have o3:=oq
  simp only[pick,lgS,lgZ]at o3
  clear oq;refine rR (fA aT rfl rfl rfl ?_);(refine aDN o3 2 rfl aO rfl (by simp) (aI ⟨rfl,rfl⟩ ?_);intro m361 o361);refine aDU [1,3,4] [2] [5] [1,2,4,0,3,5] mixed (by kernel_rfl) rfl (fun _ _ _ _ h=>h) ?_;refine fA aT rfl rfl rfl ?_;refine aDe o361 2 rfl aY rfl rfl ?_;refine aDV (uW _) ?_;rintro _ m6 ⟨rfl,oc⟩;have o4:=oc.thenE (B:=B) ‹_›
  refine⟨oc.ext,?_⟩
  clear oc;have hwA:=wrN_at hkd.1 hkd.2;refine indexA arr80 rfl rfl (by omega) (by omega) (by first|rfl|assumption) ?_;have o5:Own B [box b [p3,v3,.int .i64 k3] 58,row v3 5 1 bs3.length (bytes bs3),box b50 (gF (dP x) 0 vc vn vt vf vv vd e0 e1 e2 e3 e4 e5 e6 e7 e8) 44] m6:=by rw[hcE];exact o4
  have hsp:=aAe B b b50 p3 v3 k3 bs3 (dP x) 0 vc vn vt vf vv vd e0 e1 e2 e3 e4 e5 e6 e7 e8 m6 hp3 hT hF (tL hOK2) (by rw[jD];exact hkd) hcN (by rw[sJ];exact hLev) o5 (by rw[nO];omega) (by rw[nO];omega)
  rw[jD,nO]at hsp
  unfold WAny at hsp;refine aDW hsp (fun _ m7 ⟨ps4,p4,v4,uc,un,ut,uf,uv,ud,f0,f1,f2,f3,f4,f5,f6,f7,f8,hq4,hr4,hp4,hl4,hl4',hI,o6⟩=>?_) (fun _ m7 ⟨hq4,hr4,o6⟩=>?_)
  case refine_2 =>
   subst hr4
   rw[oR]at hq4
   exact⟨hiq.trans (by split;simp only[if_neg h5,aB g3,hq4,aG,oMN,oMS];rfl),rfl,o6⟩
  subst hr4
  rw[oR]at hq4
  have hyk:=zI (dP x)
  rw[jD]at hyk
  have hyok:=aCs (tL hOK2);have hfz:decide ((if (dP x).kind=10∧12<bZ (dP x).expr then(-1:Int) else 0)=0)=gC x:=aCh x;generalize (if (dP x).kind=10∧12<bZ (dP x).expr then(-1:Int) else 0)=z' at o6 hI hfz;generalize eI (dP x)=y at o6 hI hyk hyok hiq;have hpl:(bs3++bK ps4).length=bs3.length+(bK ps4).length:=aD9;generalize hb4:bs3++bK ps4=bs4 at o6 hpl;have hk4:k3+(ps4.length:Int)=k3+ps4.length:=rfl;generalize hkk4:k3+(ps4.length:Int)=k4 at o6;unfold gF at o6 hI;clear o4 o5 hsp;refine rR (aDi o6 2 rfl lJ rfl rfl rfl ?_);refine aDV (vJ y _ _ hyok (hI.ext (Own.ext (B:=B) o6))) ?_;rintro _ m8 ⟨rfl,oc⟩;have o7:=oc.thenE (B:=B) o6;clear oc o6;refine aDj (B:=B) ‹_› (aE _ _) (fun g9 m9 oc oq=>?_) fun g9 m9 oq=>?_
  case refine_2=>exact⟨hiq.trans (if_neg (by rw[g9];decide)),rfl,oq⟩
  rw[if_pos g9]at hiq
  clear oc o7;by_cases h4:x.kind=4
  ·skip
   refine rR (fA aT rfl rfl rfl ?_);refine rR (aDe oq 2 rfl aY rfl rfl ?_);refine aDR (fun c782=>?_) (fun hc=>absurd (by omega) hc);refine rR (nC rfl ?_);refine rR (fA bS rfl rfl rfl ?_);(refine aDO oq aJ aO rfl rfl (by decide) (aI rfl ?_);intro b785 m785 o785);refine aH [[10,125]] 1 30 [2] (i:=3) ‹_› rfl rfl rfl hp4 rfl (by omega) (by omega) (by simp) (by omega) (by omega) (fun p6 v6 bs6 k6 m10 hp6 hb6 hk6 hl6 oz=>?_);have o8:=oz
   simp only[pick,lgS,lgZ]at o8
   clear oz;refine rR (nC rfl ?_);refine rR (fA bS rfl rfl rfl ?_);refine rR (fA aAq rfl rfl rfl ?_);refine aDV (qC b p6 v6 k6 bs6 10 _ _ hp6 (o8.lend [0,1] [2] rfl) (by omega)) ?_;rintro _ m11 ⟨rfl,v7,o9⟩;have o10:=o9.back
   simp only[pick,wSt,lcA,lnA,lgS,lgZ]at o10
   clear o8 o9;refine rR (fA aT rfl rfl rfl ?_);refine rR (aDe o10 2 rfl aY rfl rfl ?_);refine aDZ rfl ?_;have hq:=hiq.trans (show _=some ([aD [] wd]++([aD [32] x.name]++(ps4++([aL [10] [125]]++[])))) by rw[if_pos h4];simp only[if_neg h5,aB g3,hq4,aG,oMS]);have hbt:bs6++[10]=bs++gY ([aD [] wd]++([aD [32] x.name]++(ps4++([aL [10] [125]]++[])))):=by rw[hb6,← hb4,hb3,hb1];simp[gY,bK,gE,wr,aD,aL]
   have hkt:k6=k+(([aD [] wd]++([aD [32] x.name]++(ps4++([aL [10] [125]]++[]))):List Pc).length:Int):=by rw[hk6,← hkk4,hk3,hk1];first|(simp;done)|(simp;omega)
   exact LEnds.done hq (Own.sel ‹_› [0,1] rfl) (.inr rfl) hbt hkt (by simp only[aD9,aEa,aEr];omega) (by omega) (congrArg Value.bool hfz)
  ·skip
   refine rR (fA aT rfl rfl rfl ?_);refine rR (aDe oq 2 rfl aY rfl rfl ?_);refine aDR (fun hc=>absurd hc (by omega)) (fun c842=>?_);refine rR (nC rfl ?_);refine rR (fA bS rfl rfl rfl ?_);(refine aDO oq aJ aO rfl rfl (by decide) (aI rfl ?_);intro b845 m845 o845);refine aH [[59]] 1 30 [2] (i:=3) ‹_› rfl rfl rfl hp4 rfl (by omega) (by omega) (by simp) (by omega) (by omega) (fun p6 v6 bs6 k6 m10 hp6 hb6 hk6 hl6 oz=>?_);have o8:=oz
   simp only[pick,lgS,lgZ]at o8
   clear oz;refine rR (nC rfl ?_);refine rR (fA bS rfl rfl rfl ?_);refine rR (fA aAq rfl rfl rfl ?_);refine aDV (qC b p6 v6 k6 bs6 10 _ _ hp6 (o8.lend [0,1] [2] rfl) (by omega)) ?_;rintro _ m11 ⟨rfl,v7,o9⟩;have o10:=o9.back
   simp only[pick,wSt,lcA,lnA,lgS,lgZ]at o10
   clear o8 o9;refine rR (fA aT rfl rfl rfl ?_);refine rR (aDe o10 2 rfl aY rfl rfl ?_);refine aDZ rfl ?_;have hq:=hiq.trans (show _=some ([aD [] wd]++([aD [32] x.name]++(ps4++([aL [] [59]]++[])))) by rw[if_neg h4];simp only[if_neg h5,aB g3,hq4,aG,oMS]);have hbt:bs6++[10]=bs++gY ([aD [] wd]++([aD [32] x.name]++(ps4++([aL [] [59]]++[])))):=by rw[hb6,← hb4,hb3,hb1];simp[gY,bK,gE,wr,aD,aL]
   have hkt:k6=k+(([aD [] wd]++([aD [32] x.name]++(ps4++([aL [] [59]]++[]))):List Pc).length:Int):=by rw[hk6,← hkk4,hk3,hk1];first|(simp;done)|(simp;omega)
   exact LEnds.done hq (Own.sel ‹_› [0,1] rfl) (.inr rfl) hbt hkt (by simp only[aD9,aEa,aEr];omega) (by omega) (congrArg Value.bool hfz)
theorem zR {P:Program}{s:aVs}{h:Heap}{fn:Func}{a b ta tb:Nat}{za zb:aVs}{ya yb pa pb:Nat}{u v:Value}(hf:fn.results=#[.cell a ta,.cell b tb])
  (hA:TyI P ta false za ya) (hB:TyI P tb false zb yb) (ea:sget s a=.pointer (some ⟨pa,0,none⟩)) (eb:sget s b=.pointer (some ⟨pb,0,none⟩))
  (ca:bC h ⟨pa,0,none⟩=some u) (cb:bC h ⟨pb,0,none⟩=some v) (w:World) (hw:w.heap=h) :
  (results fn s.toArray).run P w=.ok (.tuple ⟨[u,v]⟩) w:=by
 have e1:s.toArray.getD a undef=.pointer (some ⟨pa,0,none⟩):=by rw[← ea,← dN];simp
 have e2:s.toArray.getD b undef=.pointer (some ⟨pb,0,none⟩):=by rw[← eb,← dN];simp
 simp only[Array.getD_eq_getD_getElem?,aEn]at e1 e2
 subst hw
 rw[← jQ]at ca cb
 simp[results,hf,e1,e2,asAddr,loadVar,hA.isAgg,hB.isAgg,run_load,ca,cb]
theorem RetVC.cell22 {P:Program}{s:aVs}{h:Heap}{fn:Func}{R:Value→Heap→Prop}{a b ta tb:Nat}{za zb:aVs}{ya yb pa pb:Nat}{u v:Value}(hf:fn.results=#[.cell a ta,.cell b tb])
  (hA:TyI P ta false za ya) (hB:TyI P tb false zb yb) (ea:sget s a=.pointer (some ⟨pa,0,none⟩)) (eb:sget s b=.pointer (some ⟨pb,0,none⟩))
  (ca:bC h ⟨pa,0,none⟩=some u) (cb:bC h ⟨pb,0,none⟩=some v) (hr:R (.tuple ⟨[u,v]⟩) h):RetVC P fn s h R where
 ex:=⟨_,fun w hw=>zR hf hA hB ea eb ca cb w hw,hr⟩
theorem StillVC.assertOne {pr:Bool}{P:Program}{ty:TypeId}{s:aVs}{h:Heap}{K:KK}{t tx:TypeId}{x:Operand}{v:Value}(hb:kV P t=true)(hx:ev s x=.iface t v)(hk:K v false h):StillVC pr P (.typeAssert x tx t false) ty s h K:=by
 refine .pure' _ false (fun w=>?_) hk;unfold kV at hb;split at hb
 ·cases hb
 ·rename_i d hd hne
  simp only[execOp,hx,Instr.typeAssert,Sem.run_bind,run_underlying hne,Result.andThen_ok]
  cases d<;>simp_all
 ·cases hb
def wR (p q v:Value):aVs:=[p,q,v,v,undef,undef,undef,undef]
theorem rY (p q:Value):Recovers Tryz.prog (match Tryz.f18.body with|some (.seq (.region _ ops _) _)=>ops|_=>#[]) ([p,q]++List.replicate (8 - [p,q].length) undef) (wR p q):=by
 intro cs w Q hQ;unfold wpOpsS
 simp[Tryz.f18,List.range,List.range.loop,wpOpsS,Region.wanted,yielded,execOp,resolve,invoke,builtin,act,Act.put]
 cases hrec:recoverD cs with
 | none=>exact hQ _ _ (.inr ⟨hrec,rfl,rfl⟩)
 | some x=>exact hQ _ _ (.inl hrec)
theorem pG (s:aVs)(h:Heap)(R:Ending→Heap→Prop)(p q:Value)
  (hr:RetVC Tryz.prog Tryz.f11 s h fun v h=>R (.returned v) h) :
  LeaveVC Tryz.prog Tryz.f11 ⟨.fn (.func 18) ⟨[p,q]⟩,#[]⟩ .returning s h R:=by
 refine LeaveVC.recovers (f:=wR p q) .nilIface Tryz.func18 rfl (n:=8) (by kernel_rfl) (by kernel_rfl) rfl (.inl ⟨rfl,rfl⟩) (rY p q) ?_;refine rR (neI aCg (by first|assumption|rfl) ?_);refine aDT ?_;exact hr
theorem wleave_err (s:aVs)(h:Heap)(R:Ending→Heap→Prop)(B:Base)(b2 b3:Nat)(x y:Value)
  (o0:Own B [box b2 [x] 9,box b3 [y] 27] h)
  (h2:sget s 2=.pointer (some ⟨b2,0,none⟩)) (h3:sget s 3=.pointer (some ⟨b3,0,none⟩))
  (hR:∀ h',Own B [] h'→R (.returned (.tuple ⟨[.string ⟨⟨[]⟩⟩,.int .i64 1]⟩)) h') :
  LeaveVC Tryz.prog Tryz.f11 ⟨.fn (.func 18) ⟨[.pointer (some ⟨b2,0,none⟩),.pointer (some ⟨b3,0,none⟩)]⟩,#[]⟩ (.panicking xZ) s h R:=by
 refine LeaveVC.recovers (f:=wR (.pointer (some ⟨b2,0,none⟩)) (.pointer (some ⟨b3,0,none⟩))) (.iface 27 (.int .i64 1)) Tryz.func18 rfl (n:=8) (by kernel_rfl) (by kernel_rfl) rfl (.inr rfl) (rY _ _) ?_;refine rR (neI aCg (by first|assumption|rfl) ?_);refine aDS ?_;refine aDU [0,1] [] [2,3] [0,1,2,3] mixed (by kernel_rfl) rfl (fun _ _ _ _ h=>h) ?_;refine assertOne (by kernel_rfl) rfl ?_;(refine aDN o0 0 rfl aO rfl (by simp) (aI ⟨rfl,rfl⟩ ?_);intro m12 o12);(refine aDN o12 1 rfl iX rfl (by simp) (aI ⟨rfl,rfl⟩ ?_);intro m13 o13);exact RetVC.cell22 rfl aO iX h2 h3 (o13.cellB 0 rfl 0) (o13.cellB 1 rfl 0) (hR _ (o13.sel [] rfl))
theorem aC4 {w:World}{p:Addr}{n i:Nat}(h:i≠p.block):(w.freeze p n).heap[i]?=w.heap[i]?:=by
 unfold World.freeze;split
 ·rfl
 ·show(w.heap.modify p.block _)[i]?=_
  rw[Array.getElem?_modify,if_neg (fun e=>h e.symm)]
section
variable {P : Program} {ty : TypeId} {s : aVs} {B : Base} {h : Heap} {L : List Item} {K : KK} {Q : QQ}
theorem RunVC.unsafeStrB {pt it e:TypeId}{x y:Operand}{g n cap:Nat}{bs:aBs}(o:Own B L h)(k:Nat)(hk:L[k]?=some (row (.slice (some ⟨g,0,none⟩) n cap) e 1 n (bytes bs)))(hp:P.underlying pt=some (.pointer e))(hc:P.cellsOf e=1)(hb:bs≠[])
  (hx:ev s x=.pointer (some ⟨g,0,none⟩)) (hy:ev s y=.int .i64 n) (hK:∀ h',Own B (L.set k iF) h'→K (.string ⟨⟨bs⟩⟩) false h'):RunVC P (.call ⟨.builtin .unsafeString,⟨[x,y]⟩,⟨[pt,it]⟩⟩) ty s h K Q:=by
 refine .of fun w hw=>?_;subst hw;have hm:=aD6 hk;have hr:tR w.heap e 1 (.slice (some ⟨g,0,none⟩) n cap) n (bytes bs):=o.sat _ hm;have hlo:B.h.size≤g:=OwnR.lo o _ (aER _ hm) g rfl
 obtain⟨hlen,hr⟩:=hr
 have hn:n=bs.length:=by simp at hlen;omega
 subst hn
 rcases hr with ⟨hv,_⟩|⟨g',cap',cur,hv,hg,hnc,hcm,hcs,ht⟩
 ·cases hv
 ·cases hv
  have hown:w.ownsRow B.h.size e 1 (.slice (some ⟨g,0,none⟩) bs.length cap) bs.length (bytes bs):=⟨hlen,.inr ⟨g,cap,cur,rfl,hlo,hg,hnc,hcm,hcs,ht⟩⟩;have hUS:=Lib.run_unsafeString_row (P:=P) w pt it ty e hp hc g cur.size (by simp[World.shape?,hg]) bs hb (by omega) (by unfold maxLen at hcm;omega) (fun j x hj=>hown.cells (g:=g) rfl j (.int .u8 x.toNat) (by simp[bytes,hj]));have hB:=Lib.below_freeze (RowKit.Below.refl B.h.size w) (p:=⟨g,0,none⟩) hlo bs.length
  refine⟨_,false,w.freeze ⟨g,0,none⟩ bs.length,by simp[execOp,resolve,invoke,builtin,hx,hy,hUS],⟨hB.os,hB.tape,hB.output,hB.size⟩,hK _ ?_⟩
  exact o.set hk hB.size (fun i _ hi=>aC4 (fun e=>hi (by subst e;rfl))) trivial (fun _ hf=>hf.elim) (fun _ hf=>hf.elim)
end
theorem wText2_spec (b:Nat)(p v:Value)(k:Int)(bs:aBs)(h:Heap)(h0:Base)(hv:bs=[]→v=.slice none 0 0)(o0:Own h0 [box b [p,v,.int .i64 k] 58,row v 5 1 bs.length (bytes bs)] h) :
  cK Tryz.prog 21 [.pointer (some ⟨b,0,none⟩)] h fun r h'=>r=.string ⟨⟨bs⟩⟩∧Own h0 [] h':=by
 refine aDX Tryz.func21 rfl Tryz.ntmps21 (by kernel_rfl) ?_;by_cases hb:bs=[]
 ·obtain rfl:=hv hb
  subst hb;refine aDU [0,1,2,5,6,7,9,11] [3,8] [10] [0,1,2,3,5,6,7,8,9,4,10,11] mixed (by kernel_rfl) rfl (fun _ _ _ _ h=>h) ?_;refine nC rfl ?_;refine fA wN rfl rfl rfl ?_;refine aDe o0 0 rfl mZ rfl rfl ?_;refine nC rfl ?_;refine fA wN rfl rfl rfl ?_;refine aDe o0 0 rfl mZ rfl rfl ?_;refine aDn rfl gP ?_;refine RunVC.sliceDataNil rfl ?_;refine aI (Ext.refl _) ?_;refine RunVC.unsafeStrNil rfl rfl ?_;refine aDZ rfl ?_
  exact⟨rfl,o0.sel [] rfl⟩
 ·have hr:tR h 5 1 v bs.length (bytes bs):=o0.sat _ (aD6 (i:=1) rfl)
  have hl:bs.length≠0:=by simpa using hb
  obtain⟨g,cap,hc,rfl⟩:∃ g cap,cap≠0∧v=.slice (some ⟨g,0,none⟩) bs.length cap:=by
   rcases hr.2 with ⟨_,e⟩|⟨g,cap,cur,hv,_,hnc,_⟩
   ·exact absurd e hl
   ·exact⟨g,cap,by omega,hv⟩
  refine aDU [0,1,2,5,6,7,9,11] [3,8] [10] [0,1,2,3,5,6,7,8,9,4,10,11] mixed (by kernel_rfl) rfl (fun _ _ _ _ h=>h) ?_;refine nC rfl ?_;refine fA wN rfl rfl rfl ?_;refine aDe o0 0 rfl mZ rfl rfl ?_;refine nC rfl ?_;refine fA wN rfl rfl rfl ?_;refine aDe o0 0 rfl mZ rfl rfl ?_;refine aDn rfl gP ?_;refine RunVC.sliceData rfl hc ?_;refine aI (Ext.refl _) ?_;refine RunVC.unsafeStrB o0 1 rfl (by kernel_rfl) (by kernel_rfl) hb rfl rfl ?_;intro h1 o1;clear o0;have o2:=o1.sel [] rfl;clear o1;refine aDZ rfl ?_
  exact⟨rfl,o2⟩
mutual
theorem aCn (b:aBs):∀(x:Ex),gM b (eY x)=gM b x
 | .mk k tb ks cs ns a as_ g o=>by
  rw[eY,gM,gM,yZ [] ks,rN ks]
theorem yZ (b:aBs):∀(l:List Ex),iK b (fE l)=iK b l
 | []=>rfl
 | x::r=>by
  rw[fE,iK,iK,aCn b x,yZ [32] r]
  cases r with
  | nil=>rfl
  | cons y r=>rfl
theorem rN:∀(l:List Ex),(fE l).length=l.length
 | []=>rfl
 | x::r=>by rw[fE,aEa,aEa,rN r]
end
mutual
theorem zF:∀(x:Ex),bZ (eY x)=bZ x
 | .mk k tb ks cs ns a as_ g o=>by rw[eY,bZ,bZ,vZ ks]
theorem vZ:∀(l:List Ex),cC (fE l)=cC l
 | []=>rfl
 | x::r=>by rw[fE,cC,cC,zF x,vZ r]
end
theorem zeroE_strip (x:Ex):gR (eY x)=gR x:=by
 obtain⟨k,tb,ks,cs,ns,a,as_,g,o⟩:=x
 rw[eY,gR,gR,rN]
theorem itemQ_strip (x:It):gW (dE x)=gW x:=by
 have h1:dV (dE x)=dV x:=by
  unfold dV dE
  simp only[aCn]
 have h2:gR (dE x).expr=gR x.expr:=zeroE_strip _;have h3:fN (dE x)=fN x:=rfl;unfold gW
 rw[h1,h2,h3]
 rfl
theorem fitsI_strip (x:It):gC (dE x)=gC x:=by
 unfold gC dE
 simp only[zF]
theorem aC0 (xs:List It):eT (xs.map dE)=eT xs:=by
 unfold eT
 induction xs with
 | nil=>rfl
 | cons x xs ih=>rw[aEv,List.mapM_cons,List.mapM_cons,ih,itemQ_strip]
theorem fits_strip (xs:List It):(xs.map dE).all gC=xs.all gC:=by
 rw[List.all_map]
 exact congrArg (fun f=>xs.all f) (funext fun x=>fitsI_strip x)
theorem vG (xs:List It):dU (xs.map dE)=dU xs:=by
 unfold dU
 rw[aC0,fits_strip,List.length_map]
mutual
theorem aC8:∀(x y:Ex),ExQ qW x y↔eY x=eY y
 | .mk k t ks c n a s g o,.mk k' t' ks' c' n' a' s' g' o'=>by
  rw[ExQ,eY,eY,exsQ_iff ks ks']
  constructor
  ·rintro⟨rfl,rfl,rfl,rfl,rfl,rfl,rfl,_,h⟩
   rw[h]
  ·intro h
   injection h with h1 h2 h3 h4 h5 h6 h7 h8
   exact⟨h1,h2,h4,h5,h6,h7,h8,trivial,h3⟩
theorem exsQ_iff:∀(xs ys:List Ex),wJ qW xs ys↔fE xs=fE ys
 | [],[]=>by simp[wJ]
 | x::xs,y::ys=>by
  rw[wJ,fE,fE,aC8 x y,exsQ_iff xs ys,List.cons.injEq]
 | [],_::_=>by simp[wJ,fE]
 | _::_,[]=>by simp[wJ,fE]
end
theorem itQ_iff (x y:It):zL qW x y↔dE x=dE y:=by
 constructor
 ·rintro⟨o,e,rfl,_,h⟩
  unfold dE
  simp only[(aC8 _ _).1 h]
 ·intro h
  refine⟨y.off,y.expr,?_,trivial,(aC8 _ _).2 (congrArg It.expr h)⟩
  cases x
  cases y
  simp only[dE,It.mk.injEq]at h ⊢
  simp[h]
theorem vX:∀(xs ys:List It),tU qW xs ys↔xs.map dE=ys.map dE
 | [],[]=>by simp[tU]
 | x::xs,y::ys=>by rw[tU,itQ_iff,vX xs ys,aEv,aEv,List.cons.injEq]
 | [],_::_=>by simp[tU]
 | _::_,[]=>by simp[tU]
mutual
theorem vB:∀(x:Ex),eY (eY x)=eY x
 | .mk k t ks c n a s g o=>by rw[eY,eY,tW ks]
theorem tW:∀(l:List Ex),fE (fE l)=fE l
 | []=>rfl
 | x::r=>by rw[fE,fE,vB x,tW r]
end
theorem aCJ (xs:List It):(xs.map dE).map dE=xs.map dE:=by
 rw[List.map_map]
 refine List.map_congr_left fun x _=>?_;show dE (dE x)=dE x;unfold dE
 simp only[vB]
theorem printM_ok {xs:List It}(h:(dU xs).2=0):∃ ls,eT xs=some ls∧xs.all gC=true∧xs.length≤200∧oJ ls≤5000∧(lL ls).length≤20000∧(dU xs).1=lL ls:=by
 unfold dU at h ⊢;cases hi:eT xs with
 | none=>rw[hi]at h;cases h
 | some ls =>
  rw[hi]at h
  simp only at h ⊢;split at h
  ·rename_i hc
   rw[if_pos hc]
   exact⟨ls,rfl,hc.1,hc.2.1,hc.2.2.1,hc.2.2.2,rfl⟩
  ·cases h
theorem aCQ (xs:List It):(dU xs).2=0∨((dU xs).2=1∧(dU xs).1=[]∧eT xs=none)∨((dU xs).2=3∧(dU xs).1=[]∧∃ ls,eT xs=some ls):=by
 unfold dU;cases hi:eT xs with
 | none=>exact .inr (.inl ⟨rfl,rfl,rfl⟩)
 | some ls =>
  simp only
  split
  ·exact .inl rfl
  ·exact .inr (.inr ⟨rfl,rfl,ls,rfl⟩)
theorem aBA {xs:List It}(h:(dU xs).2=0):(dU xs).1.length≤20000∧∃ ys,jS (dU xs).1=.ok ys∧tU qW xs ys:=by
 obtain⟨ls,h1,h2,h3,h4,h5,h6⟩:=printM_ok h
 rw[h6]
 obtain⟨ys,e,hq⟩:=text_parse h1 h2 h3 h4
 refine⟨h5,ys,e,(vX _ _).2 ?_⟩
 have:=(vX _ _).1 hq
 rw[aCJ]at this
 exact this.symm
theorem moved_plain {xs ys:List It}(h:tU qW xs ys):dU xs=dU ys:=by
 rw[← vG xs,← vG ys,(vX _ _).1 h]
theorem pB (a b:List It):eT (a++b)=match eT a,eT b with
  | some x,some y=>some (x++y)
  | _,_=>none:=by
 unfold eT
 rw[List.mapM_append]
 cases a.mapM gW<;>cases b.mapM gW<;>rfl
theorem Spec.enterD1 {P:Program}{f:FuncId}{fn:Func}{r0 rest:Code}{id n:Nat}{ops:Array Oper}{args:aVs}{h:Heap}{R:Ending→Heap→Prop}
  (hf:P.funcs[f]?=some fn) (hb:fn.body=some (.seq r0 (.seq (.region id ops false) rest))) (hn:fn.ntmps=n) (hname:(fn.name == "runtime.NumGoroutine")=false)
  (hv:oH args n fun s=>vcode P r0 (onN (fun s h=>DeferVC P fn id ops rest R s h) (aA9 P fn R)) s h):Spec P f args h R:=by
 refine⟨⟨fn,hf,by simp[hb],hname⟩,fun w hw=>?_⟩
 subst hw
 rw[pZ]at hv
 have he:act (args++List.replicate (n - args.length) undef) []={ tmps:=args.toArray++Array.replicate (fn.ntmps - args.toArray.size) undef,defers:=[] }:=by
  simp[act,hn]
 have leave0:∀ e s' w',Same w w'→aA9 P fn R e s' w'.heap→bodyPostD P fn (fun e w'=>Same w w'∧R e w'.heap) e (act s' []) w':=by
  intro e s' w' hs hq;cases e with
  | normal=>obtain⟨v,hr,hR⟩:=hq.ex;exact⟨v,hr w' rfl,hs,hR⟩
  | ret=>obtain⟨v,hr,hR⟩:=hq.ex;exact⟨v,hr w' rfl,hs,hR⟩
  | panic c=>exact⟨hs,hq⟩
  | _=>exact hq.elim
 refine calls_of_wp_defers hf hb ?_
 rw[← he]
 refine wp_seq (wp_mono (dT (w0:=w) (ds:=[]) r0 _ _ w (.refl w) hv) ?_);rintro e a w2 ⟨s2,rfl,hs2,hq⟩;cases e with
 | normal =>
  obtain⟨s3,d,hd,hr⟩:=hq.ex
  refine wp_seq (hd w2 _ (wp_mono (dT (w0:=w) (ds:=[d]) rest _ _ w2 hs2 (nT rest (Q':=aAR P fn d R) (fun e s h hq=>?_) _ _ hr)) ?_))
  ·cases e<;>first|exact hq|exact hq.elim
  ·rintro e a w3 ⟨s4,rfl,hs3,hq⟩
   cases e with
   | normal=>exact hq.lv w w3 hs3 rfl
   | ret=>exact hq.lv w w3 hs3 rfl
   | panic c=>exact hq.lv w w3 hs3 rfl
   | _=>exact hq.elim
 | ret=>exact leave0 .ret s2 w2 hs2 hq
 | panic c=>exact leave0 (.panic c) s2 w2 hs2 hq
 | _=>exact hq.elim
theorem nZ (xs:List It)(va:Value)(h:Heap)(hT:kJ h)(hF:iQ h)(hP:progH h va xs)(hOK:∀ x∈xs,nM x)(hsz:∀ x∈xs,eU x≤50000000)(hn:xs.length≤210) :
  cK Tryz.prog 11 [.agg ⟨[va]⟩] h fun r h'=>r=.tuple ⟨[.string ⟨⟨(dU xs).1⟩⟩,.int .i64 (dU xs).2]⟩∧Own h [] h':=by
 obtain⟨ca,q1,q2,q3⟩:=hP
 obtain⟨ya,yc,rfl⟩:=q1.isS
 refine Spec.enterD1 Tryz.func11 rfl (n:=54) (by kernel_rfl) (by kernel_rfl) ?_;have o0:=Own.refl h;(refine aDz o0 rfl ?_;intro b10 m10 o10);(refine aDP o10 aO ?_;intro b11 m11 o11);(refine aDP o11 iX ?_;intro b12 m12 o12);refine DeferVC.closureP (fun c s hh=>c=xZ∧eT xs=none∧sget s 2=.pointer (some ⟨b11,0,none⟩)∧sget s 3=.pointer (some ⟨b12,0,none⟩)∧Own h [box b11 [.string ⟨⟨[]⟩⟩] 9,box b12 [.int .i64 0] 27] hh) (by simp) ?_;refine aI ?_ ?_
 ·rintro c s hh ⟨rfl,hno,s2,s3,oo⟩
  refine wleave_err s hh _ h b11 b12 _ _ oo s2 s3 fun h' o'=>?_;have hp:dU xs=([],1):=by unfold dU;rw[hno]
  exact⟨by rw[hp],o'⟩
 refine rR (aDl bS ?_);(refine aDz o12 rfl ?_;intro b41 m41 o41);refine rR (fA wO rfl rfl rfl ?_);refine rR (aDe o41 0 rfl aCH rfl rfl ?_);refine rR (aDn rfl uF ?_);have on:Own h [box b41 [.pointer none,.slice none 0 0,.int .i64 0] 58,row (.slice none 0 0) 5 1 0 [],box b11 [.string ⟨⟨[]⟩⟩] 9,box b12 [.int .i64 0] 27,box b10 [.slice ya xs.length yc] 24] m41:=(o41.nilRow 5 1).sel [3,4,1,2,0] rfl;clear o41;refine aD1 [5,7,14,15,16,17,18,19,20,21,22,23,24] [5,14] (fun vs hh=>∃(i:Nat) (p' v':Value) (bs':aBs) (k':Int) (ls:List (List Pc)),i≤xs.length∧vs=[.bool ((xs.take i).all gC),.int .i64 i]∧cW b41 p'∧eT (xs.take i)=some ls∧bs'=lL ls∧k'=oJ ls∧(bs'=[]→v'=.slice none 0 0)∧bs'.length≤150000000000*i∧k'≤150000000000*i∧Own h [box b41 [p',v',.int .i64 k'] 58,row v' 5 1 bs'.length (bytes bs'),box b11 [.string ⟨⟨[]⟩⟩] 9,box b12 [.int .i64 0] 27,box b10 [.slice ya xs.length yc] 24] hh) (fun vs _=>match vs with|[_,.int _ i]=>xs.length - i.toNat|_=>0) ?_ ?_
 ·exact⟨0,_,_,[],0,[],by omega,rfl,.inl rfl,rfl,rfl,rfl,fun _=>rfl,by simp,by omega,on⟩
 rintro vs junk hh ⟨i,p',v',bs',k',ls,hi,rfl,hp',hQ,hb',hk',hnil,hbl,hkl,oh⟩;clear on;by_cases hlt:i<xs.length
 ·obtain⟨x,hx⟩:=getx hlt
  obtain⟨cx,hcx,hrx⟩:=q3 i x hx
  have hxOK:=hOK x (aD6 hx);have hxs:=hsz x (aD6 hx);have hrx2:=hrx
  obtain⟨cxv,hcl⟩:=cx
  have hlev:=exLev_le x.expr;have hszx:fQ x.expr≤eU x:=by unfold eU;omega
  obtain⟨z,vc,vn,vt,vf,vv,vd,e0,e1,e2,e3,e4,e5,e6,e7,e8,hcv,w1,w2,w3,w4,w5,w6,rx⟩:=hrx2
  dsimp only at hcv hrx;subst hcv;have hlevx:bZ x.expr≤100000000000:=by omega
  cases hex:x.expr with
  | mk xk xt xks xcs xns xa xs_ xg xo =>
  rw[hex,sS]at rx
  obtain⟨wk,wc,wn,wz,hcv,g1,g2,gx,g3,_⟩:=rx
  obtain⟨h1,h2,rfl⟩:=g1.isS
  obtain⟨h3,h4,rfl⟩:=g2.isS
  obtain⟨h5,h6,rfl⟩:=g3.isS
  unfold wA at hcv
  simp only[List.cons.injEq,and_true]at hcv
  obtain⟨rfl,rfl,rfl,rfl,rfl,rfl,rfl,rfl,rfl⟩:=hcv
  obtain⟨i1,j1,rfl⟩:=w1.isS
  obtain⟨i2,j2,rfl⟩:=w2.isS
  obtain⟨i3,j3,rfl⟩:=w3.isS
  obtain⟨i4,j4,rfl⟩:=w4.isS
  obtain⟨i5,j5,rfl⟩:=w5.isS
  obtain⟨i6,j6,rfl⟩:=w6.isS
  unfold gF at hcx hrx hcl;clear w1 w2 w3 w4 w5 w6 g1 g2 g3;refine aDR (fun c100=>?_) (fun hc=>absurd (by omega) hc);refine rR (aDo uF lJ (q1.ext oh.ext) rfl (by omega) (by omega) ?_);refine rR (aDr lJ (q1.ext oh.ext) (fun y:lI=>y.2) (by decide) rfl ‹_› ?_);(refine aDP oh lJ ?_;intro b103 m103 o103);(refine aDh o103 5 rfl lJ rfl (by decide) (aI ⟨rfl,rfl⟩ ?_);intro m104 o104);refine rR (aDi o104 5 rfl lJ rfl rfl rfl ?_);have hsp:=prItem_spec ⟨h,[box b11 [.string ⟨⟨[]⟩⟩] 9,box b12 [.int .i64 0] 27,box b10 [.slice ya xs.length yc] 24]⟩ b41 p' v' k' bs' x _ _ hp' hT hF hxOK hrx (by first|exact hlevx|(rw[hex];exact hlevx)) ((o104.sel [0,1,2,3,4] rfl).lend [0,1] [2,3,4] rfl) (by omega) (by omega);unfold LEnds at hsp;have ht:xs.take (i+1)=xs.take i++[x]:=by rw[aEN,hx];simp
  refine aDW hsp (fun _ m2 ⟨ps,p2,v2,hq,hr,hp2,hl2,hl3,o2⟩=>?_) (fun _ m2 ⟨hq,hr,o2⟩=>?_)
  case refine_2 =>
   subst hr;have o3:Own h [box b11 [.string ⟨⟨[]⟩⟩] 9,box b12 [.int .i64 0] 27,box b10 [.slice ya xs.length yc] 24] m2:=Own.back (B:=⟨h,[]⟩) (J:=[box b11 [.string ⟨⟨[]⟩⟩] 9,box b12 [.int .i64 0] 27,box b10 [.slice ya xs.length yc] 24]) (K:=[]) o2;have h1:eT [x]=none:=by simp[eT,hq]
   have h2:eT (xs.take i++[x])=none:=by rw[pB,hQ,h1]
   have h3:eT xs=none:=by
    have:=pB (xs.take i++[x]) (xs.drop (i+1))
    rw[h2,← ht,List.take_append_drop]at this
    exact this
   exact⟨rfl,h3,rfl,rfl,o3.sel [0,1] rfl⟩
  subst hr;have o3:Own h [box b41 [p2,v2,.int .i64 (k'+ps.length)] 58,row v2 5 1 (bs'++gY ps).length (bytes (bs'++gY ps)),box b11 [.string ⟨⟨[]⟩⟩] 9,box b12 [.int .i64 0] 27,box b10 [.slice ya xs.length yc] 24] m2:=Own.back (B:=⟨h,[]⟩) (J:=[box b11 [.string ⟨⟨[]⟩⟩] 9,box b12 [.int .i64 0] 27,box b10 [.slice ya xs.length yc] 24]) (K:=[box b41 [p2,v2,.int .i64 (k'+ps.length)] 58,row v2 5 1 (bs'++gY ps).length (bytes (bs'++gY ps))]) o2;clear o2 hsp o104;have h1:eT [x]=some [ps]:=by simp[eT,hq]
  have h2:eT (xs.take (i+1))=some (ls++[ps]):=by rw[ht,pB,hQ,h1]
  have htx:bs'++gY ps=lL (ls++[ps]):=by rw[hb'];simp[lL]
  have hct:k'+(ps.length:Int)=(oJ (ls++[ps]):Nat):=by rw[hk'];simp[oJ]
  have hne:bs'++gY ps=[]→v2=.slice none 0 0:=fun h=>by simp[gY]at h
  have hal:(xs.take (i+1)).all gC=((xs.take i).all gC&&gC x):=by rw[ht,List.all_append];simp
  have hlen:(bs'++gY ps).length≤150000000000*(i+1):=by rw[aD9];omega
  cases hfx:gC x with
  | true =>
   refine aDS ?_;refine aDY (by omega) (by omega) ?_
   refine⟨rfl,?_⟩
   exact⟨⟨i+1,p2,v2,_,_,ls++[ps],by omega,by rw[hal,hfx,Bool.and_true];rfl,hp2,h2,htx,hct,hne,hlen,by omega,Own.sel ‹_› [0,1,2,3,4] rfl⟩,by simp;omega⟩
  | false =>
   refine aDT ?_;refine aDY (by omega) (by omega) ?_
   refine⟨rfl,?_⟩
   exact⟨⟨i+1,p2,v2,_,_,ls++[ps],by omega,by rw[hal,hfx,Bool.and_false];rfl,hp2,h2,htx,hct,hne,hlen,by omega,Own.sel ‹_› [0,1,2,3,4] rfl⟩,by simp;omega⟩
 ·have hd:xs.take i=xs:=aEk (by omega)
  rw[hd]at hQ ⊢
  have hM:dU xs=if xs.all gC=true∧xs.length≤200∧oJ ls≤5000∧(lL ls).length≤20000 then(lL ls,0) else([],3):=by unfold dU;rw[hQ]
  by_cases hf:xs.all gC=true
  case neg =>
   have hpr:dU xs=([],3):=hM.trans (if_neg (fun hh=>hf hh.1));have hfb:(!xs.all gC)=true:=by simpa using hf
   refine aDR (fun hc=>absurd hc (by omega)) (fun c400=>?_);refine Br.ttE hfb ?_;refine aDS ?_;(refine aDh oh 2 rfl aO rfl (by decide) (aI ⟨rfl,rfl⟩ ?_);intro m402 o402);(refine aDh o402 3 rfl iX rfl (by decide) (aI ⟨rfl,rfl⟩ ?_);intro m403 o403);refine pG _ _ _ _ _ ?_;refine RetVC.cell22 rfl aO iX rfl rfl (Own.cellB ‹_› 2 rfl 0) (Own.cellB ‹_› 3 rfl 0) ?_
   exact⟨by rw[hpr],Own.sel ‹_› [] rfl⟩
  have hfb:(!xs.all gC)=false:=by rw[hf];rfl
  by_cases hn2:xs.length≤200
  case neg =>
   have hpr:dU xs=([],3):=hM.trans (if_neg (fun hh=>hn2 hh.2.1));refine aDR (fun hc=>absurd hc (by omega)) (fun c450=>?_);refine Br.ffE hfb ?_;refine rR (fA wO rfl rfl rfl ?_);refine rR (aDe oh 4 rfl aCH rfl rfl ?_);refine rR (aDn rfl uF ?_);refine aDR (fun c455=>?_) (fun hc=>absurd (by omega) hc);refine aDS ?_;(refine aDh oh 2 rfl aO rfl (by decide) (aI ⟨rfl,rfl⟩ ?_);intro m456 o456);(refine aDh o456 3 rfl iX rfl (by decide) (aI ⟨rfl,rfl⟩ ?_);intro m457 o457);refine pG _ _ _ _ _ ?_;refine RetVC.cell22 rfl aO iX rfl rfl (Own.cellB ‹_› 2 rfl 0) (Own.cellB ‹_› 3 rfl 0) ?_
   exact⟨by rw[hpr],Own.sel ‹_› [] rfl⟩
  by_cases hc:oJ ls≤5000
  case neg =>
   have hpr:dU xs=([],3):=hM.trans (if_neg (fun hh=>hc hh.2.2.1));refine aDR (fun hc=>absurd hc (by omega)) (fun c500=>?_);refine Br.ffE hfb ?_;refine rR (fA wO rfl rfl rfl ?_);refine rR (aDe oh 4 rfl aCH rfl rfl ?_);refine rR (aDn rfl uF ?_);refine aDR (fun hc=>absurd hc (by omega)) (fun c505=>?_);refine rR (nC rfl ?_);refine rR (fA bS rfl rfl rfl ?_);refine rR (fA aAq rfl rfl rfl ?_);refine rR (aDe oh 0 rfl aY rfl rfl ?_);refine aDR (fun c510=>?_) (fun hc=>absurd (by omega) hc);refine aDS ?_;(refine aDh oh 2 rfl aO rfl (by decide) (aI ⟨rfl,rfl⟩ ?_);intro m511 o511);(refine aDh o511 3 rfl iX rfl (by decide) (aI ⟨rfl,rfl⟩ ?_);intro m512 o512);refine pG _ _ _ _ _ ?_;refine RetVC.cell22 rfl aO iX rfl rfl (Own.cellB ‹_› 2 rfl 0) (Own.cellB ‹_› 3 rfl 0) ?_
   exact⟨by rw[hpr],Own.sel ‹_› [] rfl⟩
  refine aDR (fun hc=>absurd hc (by omega)) (fun c550=>?_);refine Br.ffE hfb ?_;refine rR (fA wO rfl rfl rfl ?_);refine rR (aDe oh 4 rfl aCH rfl rfl ?_);refine rR (aDn rfl uF ?_);refine aDR (fun hc=>absurd hc (by omega)) (fun c555=>?_);refine rR (nC rfl ?_);refine rR (fA bS rfl rfl rfl ?_);refine rR (fA aAq rfl rfl rfl ?_);refine rR (aDe oh 0 rfl aY rfl rfl ?_);refine aDR (fun hc=>absurd hc (by omega)) (fun c560=>?_);refine rR (nC rfl ?_);refine rR (fA bS rfl rfl rfl ?_);refine rR (fA aAq rfl rfl rfl ?_);refine aDV (wLen_spec b41 p' v' k' bs' _ ⟨h,[box b11 [.string ⟨⟨[]⟩⟩] 9,box b12 [.int .i64 0] 27,box b10 [.slice ya xs.length yc] 24]⟩ (oh.lend [0,1] [2,3,4] rfl)) ?_;rintro _ m6 ⟨rfl,oc⟩;have o6:=oc.thenE (B:=h) oh;by_cases hlen:(lL ls).length≤20000
  case neg =>
   have hpr:dU xs=([],3):=hM.trans (if_neg (fun hh=>hlen hh.2.2.2))
   rw[← hb']at hlen
   refine aDR (fun c600=>?_) (fun hc=>absurd (by omega) hc);(refine aDh o6 2 rfl aO rfl (by decide) (aI ⟨rfl,rfl⟩ ?_);intro m601 o601);(refine aDh o601 3 rfl iX rfl (by decide) (aI ⟨rfl,rfl⟩ ?_);intro m602 o602);refine pG _ _ _ _ _ ?_;refine RetVC.cell22 rfl aO iX rfl rfl (Own.cellB ‹_› 2 rfl 0) (Own.cellB ‹_› 3 rfl 0) ?_
   exact⟨by rw[hpr],Own.sel ‹_› [] rfl⟩
  have hpr:dU xs=(lL ls,0):=hM.trans (if_pos ⟨hf,hn2,hc,hlen⟩)
  rw[← hb']at hlen
  refine aDR (fun hc=>absurd hc (by omega)) (fun c650=>?_);refine rR (nC rfl ?_);refine rR (fA bS rfl rfl rfl ?_);refine rR (fA aAq rfl rfl rfl ?_);refine aDV (wText2_spec b41 p' v' k' bs' _ ⟨h,[box b11 [.string ⟨⟨[]⟩⟩] 9,box b12 [.int .i64 0] 27,box b10 [.slice ya xs.length yc] 24]⟩ hnil (o6.lend [0,1] [2,3,4] rfl)) ?_;rintro _ m7 ⟨rfl,oc7⟩;have o7:Own h [box b11 [.string ⟨⟨[]⟩⟩] 9,box b12 [.int .i64 0] 27,box b10 [.slice ya xs.length yc] 24] m7:=Own.back (B:=⟨h,[]⟩) (J:=[box b11 [.string ⟨⟨[]⟩⟩] 9,box b12 [.int .i64 0] 27,box b10 [.slice ya xs.length yc] 24]) (K:=[]) oc7;clear oc7 o6;(refine aDh o7 0 rfl aO rfl (by decide) (aI ⟨rfl,rfl⟩ ?_);intro m700 o700);(refine aDh o700 1 rfl iX rfl (by decide) (aI ⟨rfl,rfl⟩ ?_);intro m701 o701);refine pG _ _ _ _ _ ?_;refine RetVC.cell22 rfl aO iX rfl rfl (Own.cellB ‹_› 0 rfl 0) (Own.cellB ‹_› 1 rfl 0) ?_
  exact⟨by rw[hpr,hb'],Own.sel ‹_› [] rfl⟩
def aF {α:Type}(m:PM α):Prop:=∀ ts e o,m ts=.error (e,o)→e≠0
theorem aF.pure {α:Type}(a:α):aF (Pure.pure a:PM α):=by
 intro ts e o h;cases h
theorem aF.bind {α β:Type}{m:PM α}{f:α→PM β}(hm:aF m)(hf:∀ a,aF (f a)):aF (m >>= f):=by
 intro ts e o h;cases hq:m ts with
 | error y=>rw[aDg hq]at h;cases h;exact hm _ _ _ hq
 | ok p =>
  obtain⟨a,q⟩:=p
  rw[aDf hq]at h
  exact hf a _ _ _ h
theorem aF.take (s:aBs):aF (cG s):=fun ts e o h=>absurd h (cY _ _ _)
theorem stopE_ne (z:Nat) {e:Int}(he:e≠0)(ts:List Tok):(aBM z e ts).1≠0:=by
 cases ts with
 | nil=>show(7:Int)≠0;decide
 | cons t r=>exact he
theorem aF.fail {α:Type}(z:Nat)(e:Int)(he:e≠0):aF (pV z e:PM α):=by
 intro ts e' o h;have h':(Except.error (aBM z e ts):Except (Int×Nat) (α×List Tok))=.error (e',o):=h
 have:=stopE_ne z he ts
 injection h' with h'
 rw[h']at this
 exact this
theorem aF.kind (z:Nat)(k:Int):aF (fI z k):=by
 intro ts e o h;cases ts with
 | nil=>cases h;decide
 | cons t r =>
  unfold fI at h;dsimp only at h;split at h
  ·cases h
  ·cases h;decide
theorem aF.name (z:Nat):aF (cI z):=aF.bind (aF.kind z 1) fun _=>aF.pure _
theorem aF.num (z:Nat):aF (lK z):=aF.bind (aF.kind z 2) fun _=>aF.pure _
theorem aF.need:∀(z:Nat)(ss:List aBs),aF (aX z ss)
 | _,[]=>aF.pure _
 | z,s::ss=>aF.bind (aF.bind (aF.take s) fun b=>by cases b<;>first|exact aF.fail _ _ (by decide)|exact aF.pure _) fun _=>aF.need z ss
theorem aF.word:∀(z:Nat)(ss:List aBs)(i:Int),aF (eO z ss i)
 | z,[],_=>aF.fail z 4 (by decide)
 | z,s::ss,i=>aF.bind (aF.take s) fun b=>by cases b<;>first|exact aF.word z ss (i+1)|exact aF.pure _
theorem aF.ifP {α:Type}{c:Bool}{m:PM α}{d:α}(h:aF m):aF (ifP c m d):=by
 unfold Go.Proofs.YtohlogbnpfofpaaGreatDoor.ifP;split
 ·exact h
 ·exact aF.pure _
theorem aF.opt {α:Type}{s:aBs}{m n:PM α}(h1:aF m)(h2:aF n):aF (cG s >>= fun b=>if b=true then m else n):=aF.bind (aF.take s) fun b=>by cases b<;>assumption
theorem aF.lit (z:Nat):aF (oC z) :=
 aF.opt (aF.bind (aF.num z) fun _=>aF.pure _) (aF.opt (aF.bind (aF.num z) fun _=>aF.pure _) (aF.opt (aF.pure _) (aF.opt (aF.pure _) (aF.opt (aF.pure _) (aF.pure _)))))
theorem aF.literal (z:Nat):aF (dA z):=by
 intro ts e o h;cases ts with
 | nil=>cases h
 | cons t q =>
  unfold dA at h;dsimp only at h;split at h
  ·cases h
  ·split at h
   ·cases h
   ·exact aF.lit z _ _ _ h
theorem aF.value (z:Nat):aF (mX z):=aF.bind (aF.literal z) fun o=>by cases o<;>first|exact aF.fail _ _ (by decide)|exact aF.pure _
theorem aF.side (z:Nat):aF (nW z):=aF.bind (aF.literal z) fun o=>by
 cases o with
 | some v=>exact aF.pure _
 | none=>exact aF.bind (aF.name z) fun _=>aF.opt (aF.bind (aF.name z) fun _=>aF.pure _) (aF.pure _)
theorem aF.cond (z:Nat):aF (sY z) :=
 aF.bind (aF.side z) fun _=>aF.bind (aF.word _ _ _) fun _=>aF.bind (aF.side z) fun _=>aF.opt (aF.bind (aF.num z) fun _=>aF.pure _) (aF.opt (aF.bind (aF.num z) fun _=>aF.pure _) (aF.pure _))
theorem aF.column (z:Nat):aF (lG z) :=
 aF.bind (aF.name z) fun _=>aF.bind (aF.word _ _ _) fun _=>aF.opt (aF.bind (aF.value z) fun _=>aF.pure _) (aF.pure _)
theorem aF.fixed (z:Nat):aF (lY z):=aF.bind (aF.name z) fun _=>aF.bind (aF.need _ _) fun _=>aF.bind (aF.value z) fun _=>aF.pure _
theorem aF.var (z:Nat):aF (zM z):=aF.bind (aF.name z) fun _=>aF.bind (aF.name z) fun _=>aF.pure _
theorem aF.term (z:Nat):aF (kZ z) :=
 aF.bind (aF.name z) fun _=>aF.bind (aF.word _ _ _) fun _=>aF.bind (aF.ifP (aF.num z)) fun _=>aF.bind (aF.need _ _) fun _=>aF.bind (aF.num z) fun _=>aF.bind (aF.opt (aF.num z) (aF.pure _)) fun _=>aF.bind (aF.need _ _) fun _=>aF.bind (aF.num z) fun _ =>
  aF.bind (aF.opt (aF.num z) (aF.pure _)) fun _=>aF.bind (aF.need _ _) fun _=>aF.pure _
theorem aF.listA {α:Type}{sep:aBs}{one:PM α}(h:aF one):∀(n:Nat)(acc:List α),aF (Go.Proofs.YtohlogbnpfofpaaGreatDoor.listA sep one n acc)
 | 0,_=>aF.pure _
 | n+1,acc=>aF.opt (aF.bind h fun _=>aF.listA h n _) (aF.pure _)
theorem aF.list {α:Type}{sep:aBs}{one:PM α}(h:aF one):aF (gX sep one):=aF.bind h fun _ ts e o h'=>aF.listA h _ _ ts e o h'
theorem aF.names (z:Nat):aF (lW z):=aF.list (aF.name z)
theorem aF.namesU (z:Nat)(s:aBs):aF (Go.Proofs.YtohlogbnpfofpaaGreatDoor.namesU z s):=by
 intro ts e o h;cases hb:bD [s] ts with
 | true=>rw[kH hb]at h;cases h
 | false=>rw[jN hb]at h;exact aF.names z _ _ _ h
theorem aF.conds (z:Nat):aF (lF z):=aF.bind (aF.need _ _) fun _=>aF.list (aF.cond z)
theorem aF.place (z:Nat):aF (kF z):=aF.bind (aF.name z) fun _=>aF.bind (aF.need _ _) fun _=>aF.bind (aF.name z) fun _=>aF.pure _
theorem aF.termsA (z:Nat):∀(n:Nat)(acc:List Trm),aF (Go.Proofs.YtohlogbnpfofpaaGreatDoor.termsA z n acc)
 | 0,_=>aF.pure _
 | n+1,acc=>by
  intro ts e o h;cases hb:bD [[125]] ts with
  | true=>rw[iY hb]at h;cases h
  | false=>rw[kM hb]at h;exact(aF.bind (aF.term z) fun _=>aF.termsA z n _) _ _ _ h
theorem aF.rest (z i off:Nat)(kids:List Ex):aF (eC z i off kids):=by
 match i with
 | 0=>exact aF.bind (aF.conds z) fun _=>aF.pure _
 | 1=>exact aF.bind (aF.need _ _) fun _=>aF.bind (aF.namesU _ _) fun _=>aF.pure _
 | 2=>exact aF.pure _
 | 3=>exact aF.pure _
 | 4=>exact aF.pure _
 | 5=>exact aF.bind (aF.need _ _) fun _=>aF.bind (aF.name z) fun _=>aF.bind (aF.need _ _) fun _=>aF.bind (aF.name z) fun _=>aF.pure _
 | 6=>exact aF.bind (aF.need _ _) fun _=>aF.bind (aF.namesU _ _) fun _=>aF.bind (aF.need _ _) fun _=>aF.bind (aF.word _ _ _) fun _=>aF.bind (aF.ifP (aF.name z)) fun _=>aF.bind (aF.need _ _) fun _=>aF.bind (aF.name z) fun _=>aF.pure _
 | n+7=>exact aF.pure _
theorem aF.expr (z:Nat):∀(n:Nat),aF (bV z n)
 | 0=>aF.fail z 3 (by decide)
 | n+1=>by
  intro ts e o h
  rw[bV]at h
  cases ho:gO ts with
  | none =>
   simp only[ho]at h
   exact(aF.bind (aF.name z) fun _=>aF.pure _) _ _ _ h
  | some i =>
   simp only[ho]at h
   exact(aF.bind (aF.need _ _) fun _=>aF.bind (aF.expr z n) fun _=>aF.bind (aF.ifP (aF.bind (aF.need _ _) fun _=>aF.bind (aF.expr z n) fun _=>aF.pure _)) fun _=>aF.bind (aF.rest _ _ _ _) fun _=>aF.bind (aF.need _ _) fun _=>aF.pure _) _ _ _ h
theorem aF.ite {α:Type}{p:Prop} [Decidable p] {m n:PM α}(hm:aF m)(hn:aF n):aF (if p then m else n):=by
 split
 ·exact hm
 ·exact hn
theorem aF.unique (z:Nat)(x:It):aF (iR z x):=aF.bind (aF.need _ _) fun _=>aF.bind (aF.name z) fun _=>aF.bind (aF.need _ _) fun _=>aF.bind (aF.names z) fun _=>aF.bind (aF.need _ _) fun _=>aF.pure _
theorem aF.part (z:Nat)(k:Int)(x:It):aF (jB z k x):=by
 unfold jB;refine aF.ite ?_ (aF.ite ?_ (aF.ite ?_ (aF.ite ?_ (aF.ite ?_ (aF.ite ?_ (aF.ite ?_ (aF.ite ?_ (aF.ite ?_ ?_))))))))
 ·exact aF.bind (aF.need _ _) fun _=>aF.bind (aF.list (aF.column z)) fun _=>aF.bind (aF.need _ _) fun _=>aF.bind (aF.names z) fun _=>aF.pure _
 ·exact aF.bind (aF.need _ _) fun _=>aF.bind (aF.num z) fun _=>aF.pure _
 ·exact aF.bind (aF.need _ _) fun _=>aF.bind (aF.place z) fun _=>aF.bind (aF.need _ _) fun _=>aF.bind (aF.word _ _ _) fun _=>aF.ite (aF.bind (aF.num z) fun _=>aF.pure _) (aF.ite (aF.bind (aF.num z) fun _=>aF.bind (aF.num z) fun _=>aF.pure _) (aF.pure _))
 ·exact aF.bind (aF.need _ _) fun _=>aF.bind (aF.name z) fun _=>aF.bind (aF.need _ _) fun _=>aF.bind (aF.num z) fun _=>aF.bind (aF.need _ _) fun _=>aF.bind (fun ts e o h=>aF.termsA z _ _ ts e o h) fun _=>aF.pure _
 ·exact aF.bind (aF.place z) fun _=>aF.bind (aF.need _ _) fun _=>aF.bind (aF.word _ _ _) fun _=>aF.pure _
 ·exact aF.unique z x
 ·exact aF.bind (aF.unique z x) fun _=>aF.bind (aF.need _ _) fun _=>aF.bind (aF.name z) fun _=>aF.opt (aF.bind (aF.list (aF.fixed z)) fun _=>aF.pure _) (aF.pure _)
 ·exact aF.bind (aF.place z) fun _=>aF.bind (aF.need _ _) fun _=>aF.bind (aF.place z) fun _=>aF.pure _
 ·exact aF.bind (aF.list (aF.var z)) fun _=>aF.bind (aF.conds z) fun _=>aF.pure _
 ·exact aF.bind (aF.need _ _) fun _=>aF.bind (aF.expr z 12) fun _=>aF.pure _
theorem aF.item (z:Nat):aF (hG z):=by
 intro ts e o h;cases ts with
 | nil=>cases h;decide
 | cons t r =>
  unfold hG at h
  refine(aF.bind (aF.word z eF 1) fun k=>aF.bind (aF.ifP (aF.name z)) fun nm=>aF.bind (aF.part z k _) fun x=>?_) _ _ _ h
  by_cases hk:k=4
  ·simp only[if_pos hk]
   exact aF.bind (aF.need _ _) fun _=>aF.pure _
  ·simp only[if_neg hk]
   exact aF.bind (aF.need _ _) fun _=>aF.pure _
theorem zD (z:Nat):∀(f:Nat)(acc:List It)(ts:List Tok)(e:Int)(o:Nat),jT z f acc ts=.error (e,o)→e≠0
 | 0,_,_,_,_,h=>by cases h
 | f+1,acc,[],_,_,h=>by cases h
 | f+1,acc,t::q,e,o,h=>by
  by_cases hfull:acc.length=200
  ·rw[jT,if_pos hfull]at h;cases h;decide
  ·rw[jT,if_neg hfull]at h
   cases hp:hG z (t::q) with
   | error y=>rw[hp]at h;cases h;exact aF.item z _ _ _ hp
   | ok y =>
    obtain⟨x,r⟩:=y
    rw[hp]at h
    exact zD z f _ r e o h
theorem bpost_item {N:Nat}(z:Nat)(hN:1≤N):BPost N (hG z) (ItB (N+1)):=by
 intro ts x r hl h;cases ts with
 | nil=>rw[pS]at h;cases h
 | cons t q =>
  rw[qM]at h
  refine(bA (N:=N) (φ:=ItB (N+1)) (Dec.word _ _ _) fun k=>bA (Dec.ifP (Dec.name z)) fun nm=>dW (Dec.part z k _) (bpost_part z hN k ?_) fun x hx=>bA (Dec.need _ _) fun _=>cD hx) _ _ _ hl h
  refine⟨by simp[x0,tZ],by simp[x0,tZ],by simp[x0,tZ],by simp[x0,tZ],by simp[x0,tZ],by simp[x0,tZ],?_⟩
  show ExB (N+1) ex0
  exact pC (by simp) (by simp) (by simp) trivial
theorem Its.bound {N z:Nat}(hN:1≤N) {ts:List Tok}{xs:List It}(h:Its z ts xs):ts.length≤N→∀ x∈xs,ItB (N+1) x:=by
 induction h with
 | nil=>intro _ x hx;cases hx
 | cons hp _ ih =>
  intro hl x hx
  rcases aEg.1 hx with rfl|hx
  ·exact bpost_item z hN _ _ _ hl hp
  ·exact ih (by have:=aAW hp;omega) x hx
theorem sD {t:aBs}(hl:t.length≤20000)(h:Heap)(hW:mG h) :
  cK Tryz.prog 13 [.string ⟨⟨t⟩⟩] h fun v h'=>(∃ e i,jS t=.error (e,i)∧e≠0∧v=.tuple ⟨[.agg ⟨[aK]⟩,.int .i64 e,.int .i64 i]⟩∧Own h [] h') ∨
   (∃ xs ts u c I,jS t=.ok xs∧rF t=.ok ts∧Its t.length ts xs∧xs.length≤200∧v=.tuple ⟨[.agg ⟨[.slice u xs.length c]⟩,.int .i64 0,.int .i64 0]⟩∧jA I (.slice u xs.length c) xs∧Own h [I] h'):=by
 refine(parse_spec t h (by omega) hW).mono fun v h' hp=>?_
 rw[jR,if_neg (by omega)]at hp
 cases hM:jS t with
 | error y =>
  obtain⟨e,i⟩:=y
  rw[hM]at hp
  refine .inl ⟨e,i,rfl,?_,hp⟩;unfold jS at hM;cases hL:rF t with
  | error y=>rw[hL]at hM;cases hM;exact oD.1 _ _ hL
  | ok ts=>rw[hL]at hM;exact zD _ _ _ _ _ _ hM
 | ok xs =>
  rw[hM]at hp
  obtain⟨u,I,rfl,hr,ho⟩:=hp
  have hL:∃ ts,rF t=.ok ts:=by
   unfold jS at hM;cases hL:rF t with
   | error y=>rw[hL]at hM;cases hM
   | ok ts=>exact⟨ts,rfl⟩
  obtain⟨ts,hL⟩:=hL
  obtain⟨h1,h2⟩:=(wZ hL).1 hM
  obtain⟨cs,r1,r2⟩:=hr
  obtain⟨a,c,rfl⟩:=r1.isS (Own.satK ho 0 rfl)
  exact .inr ⟨xs,ts,a,c,I,rfl,hL,h1,h2,rfl,⟨cs,r1,r2⟩,ho⟩
instance (v:Vl):Decidable (aBD v):=by unfold aBD;infer_instance
instance (x:Opd):Decidable (aBm x):=by unfold aBm;infer_instance
instance (x:Cnd):Decidable (tC x):=by unfold tC;infer_instance
instance (x:Col):Decidable (aCy x):=by unfold aCy;infer_instance
instance (x:Trm):Decidable (aCw x):=by unfold aCw;infer_instance
instance (x:Nmd):Decidable (aBn x):=by unfold aBn;infer_instance
instance (x:Vr):Decidable (VrOK x):=by unfold VrOK;infer_instance
mutual
def exOkB:Ex→Bool
 | .mk k t ks cs ns a s g _=>decide ((-9223372036854775808≤k∧k≤9223372036854775807)∧t.length≤1000000000000000∧(∀ c∈cs,tC c)∧(∀ n∈ns,n.length≤1000000000000000)∧a.length≤1000000000000000∧s.length≤1000000000000000∧(-9223372036854775808≤g∧g≤9223372036854775807)∧ks.length≤1000000000000000∧cs.length≤1000000000000000∧ns.length≤1000000000000000)&&aC6 ks
def aC6:List Ex→Bool
 | []=>true
 | x::xs=>exOkB x&&aC6 xs
end
mutual
theorem exOkB_ok:∀(x:Ex),exOkB x=true→lH x
 | .mk k t ks cs ns a s g o,h=>by
  rw[exOkB,aD8,decide_eq_true_eq]at h
  obtain⟨⟨h1,h2,h3,h4,h5,h6,h7,h8,h9,h10⟩,h11⟩:=h
  rw[lH]
  exact⟨h1,h2,aCk ks h11,h3,h4,h5,h6,h7,h8,h9,h10⟩
theorem aCk:∀(l:List Ex),aC6 l=true→uB l
 | [],_=>trivial
 | x::xs,h=>by
  rw[aC6,aD8]at h
  rw[uB]
  exact⟨exOkB_ok x h.1,aCk xs h.2⟩
end
def itOkB (x:It):Bool:=decide ((-9223372036854775808≤x.kind∧x.kind≤9223372036854775807)∧x.name.length≤1000000000000000∧x.table.length≤1000000000000000∧x.attr.length≤1000000000000000∧(∀ c∈x.cols,aCy c)∧(∀ n∈x.names,n.length≤1000000000000000) ∧
 (-9223372036854775808≤x.by_∧x.by_≤9223372036854775807)∧(-9223372036854775808≤x.n∧x.n≤9223372036854775807)∧(-9223372036854775808≤x.m∧x.m≤9223372036854775807)∧(∀ t∈x.terms,aCw t)∧x.other.length≤1000000000000000∧x.oattr.length≤1000000000000000 ∧
 (∀ f∈x.fixed,aBn f)∧(∀ v∈x.vars,VrOK v)∧(∀ c∈x.conds,tC c))&&decide (x.cols.length≤1000000000000000∧x.names.length≤1000000000000000∧x.terms.length≤1000000000000000∧x.fixed.length≤1000000000000000∧x.vars.length≤1000000000000000∧x.conds.length≤1000000000000000∧eU x≤50000000)&&exOkB x.expr
theorem itOkB_ok {x:It}(h:itOkB x=true):nM x∧eU x≤50000000:=by
 unfold itOkB at h
 rw[aD8,aD8,decide_eq_true_eq,decide_eq_true_eq]at h
 obtain⟨⟨⟨h1,h2,h3,h4,h5,h6,h7,h8,h9,h10,h11,h12,h13,h14,h15⟩,k1,k2,k3,k4,k5,k6,k7⟩,hx⟩:=h
 exact⟨⟨h1,h2,h3,h4,h5,h6,h7,h8,h9,h10,h11,h12,h13,h14,h15,exOkB_ok _ hx,k1,k2,k3,k4,k5,k6⟩,k7⟩
def uS (t:aBs):Bool×aBs×Int:=match jS t with
 | .ok xs=>(xs.all itOkB,dU xs)
 | .error _=>(false,[],99)
theorem qV (t out:aBs)(h:Heap)(hl:t.length≤20000)(hm:uS t=(true,out,0))(hW:mG h)(hT:kJ h)(hF:iQ h) :
  cK Tryz.prog 15 [.string ⟨⟨t⟩⟩] h fun r h'=>r=.string ⟨⟨out⟩⟩∧Own h [] h':=by
 refine aDX Tryz.func15 rfl Tryz.ntmps15 (by kernel_rfl) ?_;have o0:=Own.refl h;refine aDV (sD hl _ (hW.ext (Own.ext (B:=h) ‹_›))) ?_;rintro _ h2 (⟨e,i,hM,hne,rfl,oc⟩|⟨xs,ts,ua,uc,I,hM,hL,hI,hlen,rfl,hp,oc⟩)
 ·unfold uS at hm
  rw[hM]at hm
  cases hm
 have hm2:xs.all itOkB=true∧dU xs=(out,0):=by unfold uS at hm;rw[hM]at hm;exact⟨congrArg Prod.fst hm,congrArg Prod.snd hm⟩
 have o2:=Own.call ‹_› oc
 simp only[lcA,lnA]at o2
 clear oc;have k1:∀ x∈xs,nM x:=fun x hx=>(itOkB_ok (aEh.1 hm2.1 x hx)).1;have k2:∀ x∈xs,eU x≤50000000:=fun x hx=>(itOkB_ok (aEh.1 hm2.1 x hx)).2;(refine aDP o2 oM ?_;intro b20 m20 o20);(refine aDh o20 1 rfl oM rfl (by decide) (aI ⟨rfl,rfl⟩ ?_);intro m21 o21);refine rR (aDi o21 1 rfl oM rfl rfl rfl ?_);refine aDV (nZ xs _ _ (hT.ext (Own.ext (B:=h) ‹_›)) (hF.ext (Own.ext (B:=h) ‹_›)) (by first|exact jA.toH (Own.satK ‹_› 0 rfl) hp|exact jA.toH (Own.satK ‹_› 1 rfl) hp|exact jA.toH (Own.satK ‹_› 2 rfl) hp) k1 k2 (by omega)) ?_;rintro _ h3 ⟨rfl,oc⟩
 rw[hm2.2]
 have o3:=oc.thenE (B:=h) ‹_›;clear oc;refine aDT ?_;refine aDp (fun hc=>absurd (by first|omega|assumption|decide|exact rfl) hc) (fun c40=>?_);refine aDZ rfl ?_
 exact⟨rfl,Own.sel ‹_› [] rfl⟩
theorem ag1:uS [115,111,117,114,99,101,32,32,115,32,116,114,117,115,116,32,48,48,53,32,59]=(true,[115,111,117,114,99,101,32,115,32,116,114,117,115,116,32,53,59,10],0):=by kernel_rfl
theorem ag2:uS [113,117,101,114,121,32,113,61,112,114,111,106,101,99,116,32,40,32,115,101,108,101,99,116,40,116,32,119,104,101,114,101,32,97,61,45,32,49,43,50,41,32,111,110,32,41,59]=(true,[113,117,101,114,121,32,113,32,61,32,112,114,111,106,101,99,116,40,115,101,108,101,99,116,40,116,32,119,104,101,114,101,32,97,32,61,32,45,49,32,43,32,50,41,32,111,110,41,59,10],0):=by kernel_rfl
theorem ag3:uS [109,97,116,99,104,32,109,32,111,110,32,116,32,97,116,32,53,32,123,32,97,32,110,101,97,114,32,51,32,108,101,97,115,116,32,50,47,52,32,103,105,118,101,115,32,49,32,116,97,107,101,115,32,48,32,59,32,125]=(true,[109,97,116,99,104,32,109,32,111,110,32,116,32,97,116,32,53,32,123,10,32,32,97,32,110,101,97,114,32,51,32,108,101,97,115,116,32,50,47,52,32,103,105,118,101,115,32,49,59,10,125,10],0):=by kernel_rfl
theorem ag4:uS [116,97,98,108,101,32,116,40,97,32,116,101,120,116,61,34,120,92,110,34,44,98,32,100,97,121,32,61,32,64,51,41,107,101,121,32,97,44,98,59,100,101,110,121,32,100,32,116,32,120,32,119,104,101,114,101,32,120,46,97,60,61,110,117,108,108,32,97,110,100,32,116,114,117,101,33,61,98,59]=(true,[116,97,98,108,101,32,116,40,97,32,116,101,120,116,32,61,32,34,120,92,110,34,44,32,98,32,100,97,121,32,61,32,64,51,41,32,107,101,121,32,97,44,32,98,59,10,100,101,110,121,32,100,32,116,32,120,32,119,104,101,114,101,32,120,46,97,32,60,61,32,110,117,108,108,32,97,110,100,32,116,114,117,101,32,33,61,32,98,59,10],0):=by kernel_rfl
def xs1:List It:=[{ tZ with kind:=2,name:=[49] }]
theorem pr1:dU xs1=([],1):=by kernel_rfl
theorem pr0:dU []=([],0):=by kernel_rfl
theorem xs1_ok:∀ x∈xs1,nM x:=fun x hx=>by
 simp[xs1]at hx
 subst hx;unfold nM
 refine⟨by decide,by decide,by decide,by decide,by simp[tZ],by simp[tZ],by decide,by decide,by decide,by simp[tZ],by decide,by decide,by simp[tZ],by simp[tZ],by simp[tZ],?_,by decide,by decide,by decide,by decide,by decide,by decide⟩
 show lH (.mk 0 [] [] [] [] [] [] 0 0)
 rw[lH]
 exact⟨by omega,by simp,trivial,by simp,by simp,by simp,by simp,by omega,by simp,by simp,by simp⟩
theorem head9_spec (h:Heap)(hW:mG h)(hT:kJ h)(hF:iQ h):cK Tryz.prog 9 [] h fun v h'=>v=.bool true∧Own h [] h':=by
 refine aDX Tryz.func9 rfl Tryz.ntmps9 (by kernel_rfl) ?_;have o0:=Own.refl h;refine aDV (qV _ _ _ (by decide) ag1 (hW.ext (Own.ext (B:=h) ‹_›)) (hT.ext (Own.ext (B:=h) ‹_›)) (hF.ext (Own.ext (B:=h) ‹_›))) ?_;rintro _ g1 ⟨rfl,oc⟩;have z1:=oc.thenE (B:=h) ‹_›;clear oc;refine aDS ?_;refine aDV (qV _ _ _ (by decide) ag2 (hW.ext (Own.ext (B:=h) ‹_›)) (hT.ext (Own.ext (B:=h) ‹_›)) (hF.ext (Own.ext (B:=h) ‹_›))) ?_;rintro _ g2 ⟨rfl,oc⟩;have z2:=oc.thenE (B:=h) ‹_›;clear oc;refine aDV (qV _ _ _ (by decide) ag3 (hW.ext (Own.ext (B:=h) ‹_›)) (hT.ext (Own.ext (B:=h) ‹_›)) (hF.ext (Own.ext (B:=h) ‹_›))) ?_;rintro _ g3 ⟨rfl,oc⟩;have z3:=oc.thenE (B:=h) ‹_›;clear oc;refine rR (aDl aT ?_);refine aI rfl ?_;refine aI rfl ?_;(refine aDD z3 uF lJ rfl rfl (by decide) ?_);refine aI rfl ?_;intro b402 m402 o402;refine rR (aDl wO ?_);refine aI rfl ?_;have hw:progH m402 (.slice (some ⟨b402,0,none⟩) 1 1) xs1:=by
  have or:=o402.boxRow 0 rfl 25 1 1 rfl (aEf _) (by decide);have oa:=or.rowArrN 0 rfl
  refine⟨[⟨_,rfl⟩],by simpa[xs1] using oa,rfl,fun i x hx=>?_⟩
  cases i with
  | succ i=>simp[xs1]at hx
  | zero =>
   simp[xs1]at hx
   subst hx
   refine⟨_,rfl,0,_,_,_,_,_,_,_,_,_,_,_,_,_,_,_,rfl,dS.nil _ _,dS.nil _ _,dS.nil _ _,dS.nil _ _,dS.nil _ _,dS.nil _ _,?_⟩
   show sS m402 _ (.mk 0 [] [] [] [] [] [] 0 0)
   rw[sS]
   exact⟨_,_,_,0,rfl,dS.nil _ _,dS.nil _ _,[],dS.nil _ _,trivial⟩
 refine aDV (nZ xs1 _ _ (hT.ext (Own.ext (B:=h) ‹_›)) (hF.ext (Own.ext (B:=h) ‹_›)) hw xs1_ok (by decide) (by decide)) ?_;rintro _ g4 ⟨rfl,oc⟩
 rw[pr1]
 have z4:=oc.thenE (B:=h) ‹_›;clear oc;refine rR (aDl wO ?_);refine aDV (nZ [] _ _ (hT.ext (Own.ext (B:=h) ‹_›)) (hF.ext (Own.ext (B:=h) ‹_›)) ⟨[],dS.nil _ _,rfl,fun i x hx=>by simp at hx⟩ (by simp) (by simp) (by simp)) ?_;rintro _ g5 ⟨rfl,oc⟩
 rw[pr0]
 have z5:=oc.thenE (B:=h) ‹_›;clear oc;refine aDV (qV _ _ _ (by decide) ag4 (hW.ext (Own.ext (B:=h) ‹_›)) (hT.ext (Own.ext (B:=h) ‹_›)) (hF.ext (Own.ext (B:=h) ‹_›))) ?_;rintro _ g6 ⟨rfl,oc⟩;have z6:=oc.thenE (B:=h) ‹_›;clear oc;refine aDS ?_;refine aDS ?_;refine aDS ?_;refine aDS ?_;refine aDS ?_;refine aDZ rfl ?_
 exact⟨rfl,Own.sel ‹_› [] rfl⟩
theorem span_mem (p:UInt8→Bool)(l:aBs):∀ c∈l.take (bO p l),p c=true:=fun c hc=>pK p l c hc
def GTok (t:Tok):Prop:=(t.kind=1→dJ t.text=true)∧(t.kind=2→jC t.num=true)∧(t.kind=3→t.text.length≤200)
abbrev GT (ts:List Tok):Prop:=∀ t∈ts,GTok t
theorem undec_ten {l:aBs}(h:∀ c∈l,cA c=true)(hl:l.length≤10):undec l≤9999999999:=by
 have h1:=undec_lt l h;have h2:10 ^ l.length≤10 ^ 10:=Nat.pow_le_pow_right (by decide) hl;have h3:(10:Nat) ^ 10=10000000000:=by decide
 omega
theorem gt1 {x:aBs}(n:Int)(i:Nat)(h:dJ x=true):GTok ⟨1,x,n,i⟩:=⟨fun _=>h,fun e=>absurd (show(1:Int)=2 from e) (by decide),fun e=>absurd (show(1:Int)=3 from e) (by decide)⟩
theorem gt2 (x:aBs) {n:Int}(i:Nat)(h:jC n=true):GTok ⟨2,x,n,i⟩:=⟨fun e=>absurd (show(2:Int)=1 from e) (by decide),fun _=>h,fun e=>absurd (show(2:Int)=3 from e) (by decide)⟩
theorem gt3 {x:aBs}(n:Int)(i:Nat)(h:x.length≤200):GTok ⟨3,x,n,i⟩:=⟨fun e=>absurd (show(3:Int)=1 from e) (by decide),fun e=>absurd (show(3:Int)=2 from e) (by decide),fun _=>h⟩
theorem gt4 (x:aBs)(n:Int)(i:Nat):GTok ⟨4,x,n,i⟩:=⟨fun e=>absurd (show(4:Int)=1 from e) (by decide),fun e=>absurd (show(4:Int)=2 from e) (by decide),fun e=>absurd (show(4:Int)=3 from e) (by decide)⟩
theorem readR_gtok {l:aBs}{k n:Int}{x:aBs}{len:Nat}(h:eA l=.tok k x n len)(i:Nat):GTok ⟨k,x,n,i⟩:=by
 cases l with
 | nil=>cases h
 | cons c r =>
  cases hlet:cV c with
  | true =>
   rw[iC hlet]at h
   split at h
   ·cases h
   ·rename_i h24
    injection h with h1 h2 h3 h4
    subst h1 h2 h3 h4;refine gt1 _ _ ?_;have hp:1≤bO cF (c::r):=by
     unfold bO
     rw[aEq,show cF c=true by simp[cF,hlet]]
     simp
    obtain⟨n,hn⟩:∃ n,bO cF (c::r)=n+1:=⟨bO cF (c::r) - 1,by omega⟩
    have hm:=span_mem cF (c::r);have hle:=mQ cF (c::r)
    rw[hn]at hm h24 hle ⊢
    rw[aEF]at hm ⊢
    simp only[dJ,aD8,aEh,decide_eq_true_eq]
    refine⟨⟨?_,hlet⟩,fun d hd=>hm d (by simp[hd])⟩
    simp only[aEa,aED]at hle ⊢
    omega
  | false =>
   cases hdig:cA c with
   | true =>
    rw[kR hlet hdig]at h
    split at h
    ·cases h
    ·rename_i h10
     injection h with h1 h2 h3 h4
     subst h1 h2 h3 h4;refine gt2 _ _ ?_;have hm:=span_mem cA (c::r)
     have:=undec_ten hm (by rw[aED];omega)
     exact decide_eq_true (by omega)
   | false =>
    by_cases h34:c.toNat=34
    ·rw[kP hlet hdig h34]at h
     obtain⟨rfl,rfl⟩:=rX _ _ _ h
     exact gt3 _ _ (qE _ _ _ h rfl).2
    ·rw[gJ hlet hdig h34]at h
     split at h
     ·cases h
     ·cases h
      exact gt4 _ _ _
theorem aAP:∀(f:Nat)(l:aBs)(i k:Nat) {ts:List Tok},gZ f l i k=.ok ts→GT ts
 | 0,l,i,k,ts,h=>by cases h;exact fun _ h=>by cases h
 | f+1,l,i,k,ts,h=>by
  cases l with
  | nil=>cases h;exact fun _ h=>by cases h
  | cons c r =>
   rw[gZ]at h
   cases hR:eA (c::r) with
   | none=>rw[hR]at h;cases h
   | err e=>rw[hR]at h;cases h
   | tok kd x n len =>
    rw[hR]at h
    simp only at h;split at h
    ·cases h
    ·cases hg:gZ f ((c::r).drop (len+cL false ((c::r).drop len))) (i+(len+cL false ((c::r).drop len))) (k+1) with
     | error e=>rw[hg]at h;cases h
     | ok us =>
      rw[hg]at h
      cases h
      intro t ht
      rcases aEg.1 ht with rfl|ht
      ·exact readR_gtok hR _
      ·exact aAP f _ _ _ hg t ht
def Yl {α:Type}(P:α→Prop)(m:PM α):Prop:=∀ ts a r,GT ts→m ts=.ok (a,r)→P a∧GT r
section
variable {α β : Type} {P : α → Prop} {R : β → Prop} {m n : PM α} {f : α → PM β}
theorem bP {a:α}(h:P a):Yl P (pure a:PM α):=fun _ _ _ hg e=>by cases e;exact⟨h,hg⟩
theorem aN (hm:Yl P m)(hf:∀ a,P a→Yl R (f a)):Yl R (m >>= f):=fun ts b r hg h=>by
 cases hq:m ts with
 | error e=>rw[aDg hq]at h;cases h
 | ok p =>
  obtain⟨a,q⟩:=p
  rw[aDf hq]at h
  obtain⟨h1,h2⟩:=hm _ _ _ hg hq
  exact hf a h1 _ _ _ h2 h
theorem iW {c:Prop} [Decidable c] (hm:c→Yl P m)(hn:¬ c→Yl P n):Yl P (if c then m else n):=by
 split
 ·exact hm ‹_›
 ·exact hn ‹_›
theorem zV (z:Nat)(e:Int):Yl P (pV z e:PM α):=fun _ _ _ _ h=>by cases h
theorem aCA {c:Bool}{d:α}(hm:c=true→Yl P m)(hd:c=false→P d):Yl P (ifP c m d):=by
 cases c with
 | true=>exact hm rfl
 | false=>exact bP (hd rfl)
end
theorem hO (s:aBs):Yl (fun _=>True) (cG s):=fun ts a r hg h=>by
 unfold cG at h;split at h<;>cases h
 ·exact⟨trivial,fun t ht=>hg t (List.mem_of_mem_tail ht)⟩
 ·exact⟨trivial,hg⟩
theorem cT (z:Nat):∀(l:List aBs),Yl (fun _=>True) (aX z l)
 | []=>bP trivial
 | s::l=>aN (P:=fun _=>True) (show Yl (fun _=>True) (need1 z s) from aN (hO s) fun b _=>iW (fun _=>bP trivial) fun _=>zV z 4) fun _ _=>cT z l
theorem yl_kind (z:Nat)(k:Int):Yl (fun t=>t.kind=k∧GTok t) (fI z k):=fun ts a r hg h=>by
 cases ts with
 | nil=>cases h
 | cons t q =>
  unfold fI at h;simp only at h;split at h
  ·cases h
   exact⟨⟨by assumption,hg _ (by simp)⟩,fun t ht=>hg t (by simp[ht])⟩
  ·cases h
theorem fH (z:Nat):Yl (fun s=>dJ s=true) (cI z):=aN (yl_kind z 1) fun t h=>bP (h.2.1 h.1)
theorem kX (z:Nat):Yl (fun n=>jC n=true) (lK z):=aN (yl_kind z 2) fun t h=>bP (h.2.2.1 h.1)
theorem oO (z:Nat):∀(ws:List aBs)(i:Int),Yl (fun n=>i≤n∧n<i+ws.length) (eO z ws i)
 | [],_=>zV z 4
 | s::ws,i=>aN (hO s) fun b _=>iW (fun _=>bP ⟨by omega,by simp;omega⟩) fun _ ts a r hg h=>by
  obtain⟨h1,h2⟩:=oO z ws (i+1) ts a r hg h
  exact⟨⟨by omega,by simp;omega⟩,h2⟩
theorem yl_listA {α:Type}{P:α→Prop}{sep:aBs}{one:PM α}(h:Yl P one):∀(f:Nat)(acc:List α),(acc≠[]∧∀ x∈acc,P x)→Yl (fun l=>l≠[]∧∀ x∈l,P x) (listA sep one f acc)
 | 0,_,ha=>bP ha
 | f+1,acc,ha=>aN (hO sep) fun b _=>iW (fun _=>aN h fun a pa=>yl_listA h f (acc++[a]) ⟨by simp,fun x hx=>by
   rcases aEB.1 hx with hx|hx
   ·exact ha.2 x hx
   ·simp at hx;subst hx;exact pa⟩) fun _=>bP ha
theorem uV {α:Type}{P:α→Prop}{sep:aBs}{one:PM α}(h:Yl P one):Yl (fun l=>l≠[]∧∀ x∈l,P x) (gX sep one) :=
 aN h fun a pa ts b r hg e=>yl_listA h _ [a] ⟨by simp,by simpa using pa⟩ ts b r hg e
abbrev aDc (l:List aBs):Prop:=∀ s∈l,dJ s=true
theorem uU (z:Nat):Yl (fun l=>l≠[]∧aDc l) (lW z):=uV (fH z)
theorem aB8 {z:Nat}{ts:List Tok}{s:aBs}{r:List Tok}(h:cI z ts=.ok (s,r)):∃ t,ts=t::r∧t.kind=1∧t.text=s:=by
 cases ts with
 | nil=>cases h
 | cons t q =>
  have h:(fI z 1 >>= fun t=>(pure t.text:PM aBs)) (t::q)=.ok (s,r):=h;by_cases hk:t.kind=1
  ·have e:fI z 1 (t::q)=.ok (t,q):=if_pos hk
   rw[aDf e]at h
   cases h
   exact⟨t,rfl,hk,rfl⟩
  ·have e:fI z 1 (t::q)=.error (4,t.off):=if_neg hk
   rw[aDg e]at h
   cases h
theorem aAO {α:Type}{sep:aBs}{one:PM α}:∀(f:Nat)(a:α)(acc:List α)(ts:List Tok)(l:List α)(r:List Tok),listA sep one f (a::acc) ts=.ok (l,r)→∃ l',l=a::l'
 | 0,a,acc,ts,l,r,h=>by cases h;exact⟨_,rfl⟩
 | f+1,a,acc,ts,l,r,h=>by
  unfold listA at h;cases hb:cG sep ts with
  | error e=>rw[aDg hb]at h;cases h
  | ok p =>
   obtain⟨b,q⟩:=p
   rw[aDf hb]at h
   split at h
   ·cases ho:one q with
    | error e=>rw[aDg ho]at h;cases h
    | ok p =>
     obtain⟨c,q'⟩:=p
     rw[aDf ho]at h
     exact aAO f a (acc++[c]) q' l r h
   ·cases h;exact⟨_,rfl⟩
theorem aBG (z:Nat)(s:aBs):Yl (fun l=>aDc l∧∀ x l',l=x::l'→x≠s) (namesU z s):=fun ts a r hg h=>by
 cases hb:bD [s] ts with
 | true=>rw[kH hb]at h;cases h;exact⟨⟨(fun _ h=>by cases h),(fun _ _ h=>by cases h)⟩,hg⟩
 | false =>
  rw[jN hb]at h
  obtain⟨h1,h2⟩:=uU z ts a r hg h
  refine⟨⟨h1.2,fun x l' e=>?_⟩,h2⟩
  have h:(cI z >>= fun a=>fun ts=>listA [44] (cI z) (ts.length+1) [a] ts) ts=.ok (a,r):=h;cases hn:cI z ts with
  | error e=>exact absurd ((aDg (f:=fun a ts=>listA [44] (cI z) (ts.length+1) [a] ts) hn).symm.trans h) (by simp)
  | ok p =>
   obtain⟨y,q⟩:=p
   have h:=(aDf (f:=fun a ts=>listA [44] (cI z) (ts.length+1) [a] ts) hn).symm.trans h
   obtain⟨l2,e2⟩:=aAO _ _ _ _ _ _ h
   rw[e]at e2
   cases e2
   obtain⟨t,rfl,hk,rfl⟩:=aB8 hn
   intro hs
   rw[jK]at hb
   exact absurd hb (by rw[show dH t s=true from decide_eq_true ⟨hs,.inl hk⟩];decide)
abbrev Pr (o:Option (List Pc)):Prop:=o.isSome=true
theorem uG:∀ {l:List (Option (List Pc))},(∀ x∈l,Pr x)→Pr (aG l)
 | [],_=>rfl
 | none::_,h=>by cases h none (by simp)
 | some x::r,h=>by
  have:=uG (l:=r) fun y hy=>h y (by simp[hy])
  show((aG r).map (x++·)).isSome=true
  rw[Option.isSome_map]
  exact this
theorem wW {o:Option (List Pc)}{g:List Pc→List Pc}(h:Pr o):Pr (o.map g):=by
 show(o.map g).isSome=true
 rw[Option.isSome_map]
 exact h
theorem dX {b s:aBs}(h:dJ s=true):Pr (bB b s):=by unfold bB;rw[if_pos h];rfl
theorem oY {b:aBs}{n:Int}(h:jC n=true):Pr (iD b n):=by unfold iD;rw[if_pos h];rfl
theorem vH {n:Int}{ws:List aBs}(h:1≤n∧n≤ws.length):Pr (fZ n ws):=by unfold fZ;rw[if_pos h];rfl
theorem pr_op {n:Int}(h:1≤n∧n≤4):Pr (opQ n):=by unfold opQ;rw[if_pos h];rfl
theorem aCR {α:Type}{one:aBs→α→Option (List Pc)}{b:aBs}:∀ {l:List α},(∀ x∈l,∀ b,Pr (one b x))→Pr (gV one b l)
 | [],_=>rfl
 | x::r,h=>by
  refine uG fun y hy=>?_
  rcases aEg.1 hy with rfl|hy
  ·exact h x (by simp) _
  ·obtain⟨w,hw,rfl⟩:=aEz.1 hy
   exact wW (h w (by simp[hw]) _)
theorem nN {α:Type}{one:aBs→α→Option (List Pc)}{b:aBs}{l:List α}(hn:l≠[])(h:∀ x∈l,∀ b,Pr (one b x)):Pr (dG one b l):=by
 cases l with
 | nil=>exact absurd rfl hn
 | cons x r=>exact aCR h
theorem pr_const1 {s:aBs}(h:s.length≤200):Pr (bT ⟨1,0,s⟩):=by
 unfold bT
 rw[if_neg (by simp),if_pos (by simp),if_pos ⟨rfl,h⟩]
 rfl
theorem aBX {n:Int}(h:-9999999999≤n∧n≤9999999999):Pr (bT ⟨2,n,[]⟩):=by
 unfold bT
 rw[if_neg (by simp),if_neg (by simp),if_pos (by simp),if_pos ⟨rfl,h⟩]
 rfl
theorem pr_const3 {n:Int}(h:jC n=true):Pr (bT ⟨3,n,[]⟩):=by
 unfold bT
 rw[if_neg (by simp),if_neg (by simp),if_neg (by simp),if_pos (by simp),if_pos ⟨rfl,h⟩]
 rfl
theorem fO:Pr (aG []):=rfl
theorem aR {x:Option (List Pc)}{r:List (Option (List Pc))}(hx:Pr x)(hr:Pr (aG r)):Pr (aG (x::r)):=by
 cases x with
 | none=>cases hx
 | some p =>
  show((aG r).map (p++·)).isSome=true
  rw[Option.isSome_map]
  exact hr
abbrev PrV (o:Option Vl):Prop:=∀ v,o=some v→Pr (bT v)
theorem nY {v:Vl}(h:Pr (bT v)):PrV (some v):=fun _ e=>by cases e;exact h
theorem prv_none:PrV none:=fun _ e=>by cases e
theorem xC {n:Int}(h:jC n=true):0≤n∧n≤9999999999:=of_decide_eq_true h
theorem yl_litE (z:Nat):Yl PrV (oC z) :=
 aN (hO _) fun b _=>iW (fun _=>aN (kX z) fun n hn=>bP (nY (aBX (by have:=xC hn;omega)))) fun _ =>
 aN (hO _) fun b _=>iW (fun _=>aN (kX z) fun n hn=>bP (nY (pr_const3 hn))) fun _ =>
 aN (hO _) fun b _=>iW (fun _=>bP (nY rfl)) fun _ =>
 aN (hO _) fun b _=>iW (fun _=>bP (nY rfl)) fun _ =>
 aN (hO _) fun b _=>iW (fun _=>bP (nY rfl)) fun _=>bP prv_none
theorem aAc (z:Nat):Yl PrV (dA z):=fun ts a r hg h=>by
 cases ts with
 | nil=>cases h;exact⟨prv_none,hg⟩
 | cons t q =>
  have hq:GT q:=fun t ht=>hg t (by simp[ht]);unfold dA at h;simp only at h;split at h
  ·cases h
   exact⟨nY (pr_const1 ((hg t (by simp)).2.2 ‹_›)),hq⟩
  ·split at h
   ·cases h
    have:=xC ((hg t (by simp)).2.1 ‹_›)
    exact⟨nY (aBX (by omega)),hq⟩
   ·exact yl_litE z _ _ _ hg h
theorem litE_no {z:Nat}{ts r:List Tok}(h:oC z ts=.ok (none,r)):r=ts∧∀ s,reserved s=true→bD [s] ts=false:=by
 have key:∀ {s:aBs} {f:Bool→PM (Option Vl)} {v:Option Vl→Prop},(cG s >>= f) ts=.ok (none,r)→(bD [s] ts=true→∀ q,f true q≠.ok (none,r))→bD [s] ts=false∧f false ts=.ok (none,r):=by
  intro s f _ hh hn;cases hb:bD [s] ts with
  | true =>
   rw[aDf (kN hb)]at hh
   exact absurd hh (hn hb _)
  | false =>
   rw[aDf (jW hb)]at hh
   exact⟨rfl,hh⟩
 have hnum:∀(g:Int→Vl) (q:List Tok),(lK z >>= fun n=>(pure (some (g n)):PM (Option Vl))) q≠.ok (none,r):=by
  intro g q e;cases hq:lK z q with
  | error e'=>rw[aDg hq]at e;cases e
  | ok p=>obtain⟨n,q'⟩:=p;rw[aDf hq]at e;cases e
 obtain⟨_,h⟩:=key (v:=fun _=>True) h (fun _ q=>hnum (fun n=>⟨2,-n,[]⟩) q)
 obtain⟨_,h⟩:=key (v:=fun _=>True) h (fun _ q=>hnum (fun n=>⟨3,n,[]⟩) q)
 obtain⟨h1,h⟩:=key (v:=fun _=>True) h (fun _ q e=>by cases e)
 obtain⟨h2,h⟩:=key (v:=fun _=>True) h (fun _ q e=>by cases e)
 obtain⟨h3,h⟩:=key (v:=fun _=>True) h (fun _ q e=>by cases e)
 cases h
 refine⟨rfl,fun s hs=>?_⟩
 rcases of_decide_eq_true hs with rfl|rfl|rfl
 ·exact h1
 ·exact h2
 ·exact h3
theorem aCW {z:Nat}{ts r:List Tok}(h:dA z ts=.ok (none,r)):r=ts∧∀ s,reserved s=true→bD [s] ts=false:=by
 cases ts with
 | nil=>cases h;exact⟨rfl,fun _ _=>rfl⟩
 | cons t q =>
  unfold dA at h;simp only at h;split at h
  ·cases h
  ·split at h
   ·cases h
   ·exact litE_no h
theorem yl_value (z:Nat):Yl (fun v=>Pr (bT v)) (mX z):=aN (aAc z) fun o ho=>by
 cases o with
 | none=>exact zV z 4
 | some v=>exact bP (ho v rfl)
theorem mR {t a:aBs}(h:dJ t=true)(k:dJ a=true):Pr (eB t a):=aR (dX h) (aR rfl (aR (dX k) fO))
theorem yl_side (z:Nat):Yl (fun x=>Pr (gB x)) (nW z):=fun ts a r hg h=>by
 cases hl:dA z ts with
 | error e=>exact absurd ((aDg hl).symm.trans h) (by simp)
 | ok p =>
  obtain⟨o,q⟩:=p
  obtain⟨h1,h2⟩:=aAc z _ _ _ hg hl
  have h5:=(aDf hl).symm.trans h;clear h;cases o with
  | some v =>
   cases h5
   refine⟨?_,h2⟩
   show Pr (gB ⟨[],[],true,v⟩)
   unfold gB
   rw[if_pos rfl,if_pos ⟨rfl,rfl⟩]
   exact h1 v rfl
  | none =>
   obtain⟨rfl,hres⟩:=aCW hl
   cases hn:cI z q with
   | error e=>exact absurd ((aDg hn).symm.trans h5) (by simp)
   | ok p =>
    obtain⟨first,q2⟩:=p
    have h6:=(aDf hn).symm.trans h5;clear h5
    obtain⟨t,rfl,hk,rfl⟩:=aB8 hn
    obtain⟨hok,hg2⟩:=fH z _ _ _ hg hn
    have hr:reserved t.text=false:=by
     cases hb:reserved t.text with
     | false=>rfl
     | true =>
      have:=hres _ hb
      rw[jK,show dH t t.text=true from decide_eq_true ⟨rfl,.inl hk⟩]at this
      cases this
    have:Yl (fun x=>Pr (gB x)) (cG [46] >>= fun b=>if b=true then(cI z >>= fun a=>pure ⟨t.text,a,false,vl0⟩) else pure ⟨[],t.text,false,vl0⟩) :=
     aN (hO _) fun b _=>iW (fun _=>aN (fH z) fun a ha=>bP (by
      unfold gB
      rw[if_neg (by simp),if_neg (by simp[vl0]),if_neg (by obtain⟨c,r,e,_⟩:=aAH hok;simp[e]),if_neg (by simp[hr])]
      exact mR hok ha)) fun _=>bP (by
      unfold gB
      rw[if_neg (by simp),if_neg (by simp[vl0]),if_pos rfl,if_neg (by simp[hr])]
      exact dX hok)
    exact this _ _ _ hg2 h6
theorem pr_add {n:Int}(h:-9999999999≤n∧n≤9999999999):Pr (tS n):=by
 unfold tS
 rw[if_neg (by simp;omega)]
 split
 ·rfl
 split<;>rfl
theorem aCS {l r:Opd}{op n:Int}(h1:Pr (gB l))(h2:1≤op∧op≤4)(h3:Pr (gB r))(h4:-9999999999≤n∧n≤9999999999):Pr (qA ⟨l,op,r,n⟩) :=
 aR h1 (aR (pr_op h2) (aR h3 (aR (pr_add h4) fO)))
theorem yl_cond (z:Nat):Yl (fun x=>Pr (qA x)) (sY z) :=
 aN (yl_side z) fun l hl=>aN (oO z _ _) fun op ho=>aN (yl_side z) fun r hr =>
  aN (hO _) fun _ _=>iW (fun _=>aN (kX z) fun n hn=>bP (aCS hl (by simp at ho;omega) hr (by have:=xC hn;omega))) fun _ =>
  aN (hO _) fun _ _=>iW (fun _=>aN (kX z) fun n hn=>bP (aCS hl (by simp at ho;omega) hr (by have:=xC hn;omega))) fun _=>bP (aCS hl (by simp at ho;omega) hr (by omega))
theorem pr_conds {l:List Cnd}(hn:l≠[])(h:∀ x∈l,Pr (qA x)):Pr (lE l):=by
 cases l with
 | nil=>exact absurd rfl hn
 | cons x r =>
  refine uG fun y hy=>?_
  rcases aEg.1 hy with rfl|hy
  ·rfl
  rcases aEg.1 hy with rfl|hy
  ·exact h x (by simp)
  ·obtain⟨w,hw,rfl⟩:=aEz.1 hy
   exact wW (h w (by simp[hw]))
theorem yl_conds (z:Nat):Yl (fun l=>Pr (lE l)) (lF z):=aN (cT z _) fun _ _=>fun ts a r hg h=>by
 obtain⟨h1,h2⟩:=uV (yl_cond z) ts a r hg h
 exact⟨pr_conds h1.1 h1.2,h2⟩
abbrev PrE (n:Nat)(x:Ex):Prop:=(∀ b,Pr (gM b x))∧bZ x≤n
abbrev PrEs (n:Nat)(l:List Ex):Prop:=(∀ b,Pr (iK b l))∧cC l≤n
theorem prEs {n:Nat}:∀ {l:List Ex},(∀ x∈l,PrE n x)→PrEs n l
 | [],_=>⟨fun _=>rfl,Nat.zero_le _⟩
 | x::r,h=>by
  obtain⟨h1,h2⟩:=prEs (l:=r) fun y hy=>h y (by simp[hy])
  obtain⟨h3,h4⟩:=h x (by simp)
  refine⟨fun b=>?_,by rw[cC];omega⟩
  obtain⟨p,hp⟩:=aEQ.1 (h3 b)
  obtain⟨q,hq⟩:=aEQ.1 (h1 [32])
  rw[iK,hp,hq]
  rfl
theorem uH {n:Nat}{k:Int}{ks:List Ex}{cs:List Cnd}{ns:List aBs}{a as_:aBs}{g:Int}{o:Nat}(hk:2≤k∧k≤8)(hl:ks.length=fU k)(hb:fC k [] cs ns a as_ g=true)(hks:PrEs n ks)(hr:Pr (dZ k cs ns a as_ g)):PrE (n+1) (.mk k [] ks cs ns a as_ g o):=by
 refine⟨fun b=>?_,by rw[bZ];omega⟩
 rw[gM,if_pos ⟨by omega,hk.2,hl,hb⟩,if_neg (by omega)]
 refine uG fun y hy=>?_
 simp only[aEg,List.not_mem_nil,or_false]at hy
 rcases hy with rfl|rfl|rfl|rfl
 ·rfl
 ·exact hks.1 []
 ·exact hr
 ·rfl
theorem yl_rest (z i off:Nat) {n:Nat}{kids:List Ex}(hi:i<7)(hl:kids.length=fU (2+i))(hk:PrEs n kids):Yl (PrE (n+1)) (eC z i off kids):=by
 rcases(show i=0∨i=1∨i=2∨i=3∨i=4∨i=5∨i=6 by omega) with rfl|rfl|rfl|rfl|rfl|rfl|rfl
 ·exact aN (yl_conds z) fun c hc=>bP (uH (by omega) hl (by simp[fC]) hk hc)
 ·exact aN (cT z _) fun _ _=>aN (aBG z _) fun l h=>bP (uH (by omega) hl (by simp[fC]) hk (by
   show Pr (aG _)
   exact aR rfl (aR (aCR fun x hx b=>dX (h.1 x hx)) fO)))
 ·exact bP (uH (by omega) hl (by simp[fC]) hk rfl)
 ·exact bP (uH (by omega) hl (by simp[fC]) hk rfl)
 ·exact bP (uH (by omega) hl (by simp[fC]) hk rfl)
 ·exact aN (cT z _) fun _ _=>aN (fH z) fun a ha=>aN (cT z _) fun _ _=>aN (fH z) fun b hb=>bP (uH (by omega) hl (by simp[fC]) hk (by
   show Pr (aG _)
   exact aR rfl (aR (dX ha) (aR rfl (aR (dX hb) fO)))))
 ·exact aN (cT z _) fun _ _=>aN (aBG z _) fun l h=>aN (cT z _) fun _ _=>aN (oO z _ _) fun g hg =>
   aN (P:=fun a=>(g=1→a=[])∧(g≠1→dJ a=true)) (aCA (fun hc=>fun ts a r q e=>by
    obtain⟨h1,h2⟩:=fH z ts a r q e
    exact⟨⟨fun e=>by simp[e]at hc,fun _=>h1⟩,h2⟩) (fun hc=>⟨fun _=>rfl,fun e=>by simp at hc;exact absurd hc e⟩)) fun a ha=>aN (cT z _) fun _ _=>aN (fH z) fun b hb=>bP (uH (by omega) hl (by simp[fC]) hk (by
   have hw:aBJ l=true:=by
    cases l with
    | nil=>rfl
    | cons x r=>exact decide_eq_true (h.2 x r rfl)
   have hg2:1≤g∧g≤4:=by simp at hg;omega
   show Pr (if aBJ l=true then aG _ else none)
   rw[if_pos hw]
   refine uG fun y hy=>?_
   simp only[aEg,List.not_mem_nil,or_false]at hy
   rcases hy with rfl|rfl|rfl|rfl|rfl|rfl|rfl
   ·rfl
   ·exact aCR fun x hx b=>dX (h.1 x hx)
   ·rfl
   ·exact vH hg2
   ·by_cases h1:g=1
    ·rw[if_pos h1,if_pos (ha.1 h1)];rfl
    ·rw[if_neg h1];exact dX (ha.2 h1)
   ·rfl
   ·exact dX hb))
theorem opIdx_lt {ts:List Tok}{i:Nat}(h:gO ts=some i):i<7:=by
 have:=List.mem_of_find?_eq_some h
 simpa using this
theorem aCB (z:Nat):∀(n:Nat),Yl (PrE n) (bV z n)
 | 0=>zV z 3
 | n+1=>fun ts a r hg h=>by
  rw[bV]at h
  dsimp only at h;cases hi:gO ts with
  | none =>
   rw[hi]at h
   have:Yl (PrE (n+1)) (cI z >>= fun t=>(pure (kC (bH ts) t):PM Ex)):=aN (fH z) fun t ht=>bP ⟨fun b=>by
    unfold kC
    rw[gM,if_pos (by simp[fC,fU]),if_pos rfl]
    exact dX ht,by unfold kC;rw[bZ,cC];omega⟩
   exact this _ _ _ hg h
  | some i =>
   rw[hi]at h
   have hlt:=opIdx_lt hi
   have:Yl (PrE (n+1)) (aX z [cJ.getD i [],[40]] >>= fun _=>bV z n >>= fun a=>ifP (qD i) (aX z [[44]] >>= fun _=>bV z n >>= fun b=>(pure [a,b]:PM (List Ex))) [a] >>= fun kids=>eC z i (bH ts) kids >>= fun x=>aX z [[41]] >>= fun _=>(pure x:PM Ex)) :=
    aN (cT z _) fun _ _=>aN (aCB z n) fun a ha=>aN (P:=fun ks=>ks.length=fU (2+i)∧PrEs n ks) (aCA (fun hc=>aN (cT z _) fun _ _=>aN (aCB z n) fun b hb=>bP ⟨by
      simp[qD]at hc
      rcases hc with (rfl|rfl)|rfl<;>rfl,prEs (by simpa using ⟨ha,hb⟩)⟩) (fun hc=>⟨by
      simp[qD]at hc
      rcases(show i=0∨i=1∨i=5∨i=6 by omega) with rfl|rfl|rfl|rfl<;>rfl,prEs (by simpa using ha)⟩)) fun ks hks =>
     aN (yl_rest z i _ hlt hks.1 hks.2) fun x hx=>aN (cT z _) fun _ _=>bP hx
   exact this _ _ _ hg h
theorem pr_app:∀ {a b:List (Option (List Pc))},Pr (aG a)→Pr (aG b)→Pr (aG (a++b))
 | [],_,_,hb=>hb
 | none::_,_,ha,_=>by cases ha
 | some p::a,b,ha,hb=>by
  have ha:((aG a).map (p++·)).isSome=true:=ha
  rw[Option.isSome_map]at ha
  exact aR rfl (pr_app ha hb)
theorem yl_column (z:Nat):Yl (fun c=>∀ b,Pr (mV b c)) (lG z) :=
 aN (fH z) fun a ha=>aN (oO z _ _) fun k hk=>aN (hO _) fun _ _ =>
  iW (fun _=>aN (yl_value z) fun v hv=>bP fun b=>aR (dX ha) (aR (vH (by simp at hk;simp;omega)) (aR (by
   dsimp only;split
   ·rfl
   ·exact wW hv) fO))) fun _=>bP fun b=>aR (dX ha) (aR (vH (by simp at hk;simp;omega)) (aR rfl fO))
theorem yl_term (z:Nat):Yl (fun t=>Pr (bG t)) (kZ z) :=
 aN (fH z) fun a ha=>aN (oO z _ _) fun m hm =>
 aN (P:=fun tol=>(m=5→jC tol=true)∧(m≠5→tol=0)) (aCA (fun hc=>fun ts a r q e=>by
    obtain⟨h1,h2⟩:=kX z ts a r q e
    exact⟨⟨fun _=>h1,fun e=>by simp at hc;exact absurd hc e⟩,h2⟩) (fun hc=>⟨fun e=>by simp[e]at hc,fun _=>rfl⟩)) fun tol ht =>
 aN (cT z _) fun _ _=>aN (kX z) fun num hn =>
 aN (P:=fun d=>jC d=true) (aN (hO _) fun _ _=>iW (fun _=>kX z) fun _=>bP rfl) fun den hd =>
 aN (cT z _) fun _ _=>aN (kX z) fun g hg =>
 aN (P:=fun d=>jC d=true) (aN (hO _) fun _ _=>iW (fun _=>kX z) fun _=>bP rfl) fun tk hk =>
 aN (cT z _) fun _ _=>bP (by
  refine aR (dX ha) (aR (vH (by simp at hm;simp;omega)) (aR ?_ (aR rfl (aR (oY hn) (aR ?_ (aR rfl (aR (oY hg) (aR ?_ (aR rfl fO)))))))))
  ·dsimp only
   by_cases h5:m=5
   ·rw[if_pos h5];exact oY (ht.1 h5)
   ·rw[if_neg h5,if_pos (ht.2 h5)];rfl
  ·dsimp only
   split
   ·rfl
   ·exact wW (oY hd)
  ·dsimp only
   split
   ·rfl
   ·exact wW (oY hk))
theorem uT (z:Nat):Yl (fun p=>dJ p.1=true∧dJ p.2=true) (kF z) :=
 aN (fH z) fun t ht=>aN (cT z _) fun _ _=>aN (fH z) fun a ha=>bP ⟨ht,ha⟩
theorem yl_fixed (z:Nat):Yl (fun f=>Pr (uM f)) (lY z) :=
 aN (fH z) fun n hn=>aN (cT z _) fun _ _=>aN (yl_value z) fun v hv=>bP (aR (dX hn) (aR rfl (aR hv fO)))
theorem yl_var (z:Nat):Yl (fun v=>Pr (rJ v)) (zM z) :=
 aN (fH z) fun t ht=>aN (fH z) fun n hn=>bP (aR (dX ht) (aR (dX hn) fO))
theorem pr_fixed:∀ {l:List Nmd},(∀ f∈l,Pr (uM f))→Pr (uL l)
 | [],_=>rfl
 | x::r,h=>by
  refine aR rfl (aR (h x (by simp)) (uG fun y hy=>?_))
  obtain⟨w,hw,rfl⟩:=aEz.1 hy
  exact wW (h w (by simp[hw]))
theorem aBF (z:Nat):∀(f:Nat)(acc:List Trm),(∀ t∈acc,Pr (bG t))→Yl (fun l=>∀ t∈l,Pr (bG t)) (termsA z f acc)
 | 0,_,ha=>bP ha
 | f+1,acc,ha=>fun ts a r hg h=>by
  cases hb:bD [[125]] ts with
  | true=>rw[iY hb]at h;cases h;exact⟨ha,hg⟩
  | false =>
   rw[kM hb]at h
   have:Yl (fun l=>∀ t∈l,Pr (bG t)) (kZ z >>= fun a=>termsA z f (acc++[a])):=aN (yl_term z) fun t ht=>aBF z f (acc++[t]) fun y hy=>by
    rcases aEB.1 hy with hy|hy
    ·exact ha y hy
    ·simp at hy;subst hy;exact ht
   exact this _ _ _ hg h
def ItP (k:Int)(nm:aBs)(x:It):Prop:=x.kind=k∧x.name=nm∧fN x=true∧(k=10∨gR x.expr=true)∧Pr (dV x)∧gC x=true
theorem pE:gR ex0=true:=by simp[ex0,gR]
theorem lZ {x:It}(k:Int)(hk:x.kind=k)(h:k≠10):gC x=true:=decide_eq_true fun e=>absurd (hk.symm.trans e) h
section
variable (z : Nat) (nm : aBs) (off : Nat)
theorem yl_part {k:Int}(h1:1≤k)(h10:k≤10)(hnm:k=5→nm=[]):Yl (ItP k nm) (jB z k { tZ with kind:=k,name:=nm,off:=off }):=by
 rcases(show k=1∨k=2∨k=3∨k=4∨k=5∨k=6∨k=7∨k=8∨k=9∨k=10 by omega) with rfl|rfl|rfl|rfl|rfl|rfl|rfl|rfl|rfl|rfl
 ·show Yl _ (wL z _)
  exact aN (cT z _) fun _ _=>aN (uV (yl_column z)) fun c hc=>aN (cT z _) fun _ _=>aN (uU z) fun l hl=>bP ⟨rfl,rfl,by simp[fN,tZ],.inr pE,
   aR rfl (aR (nN hc.1 hc.2) (aR rfl (aR (nN hl.1 fun x hx b=>dX (hl.2 x hx)) fO))),lZ 1 rfl (by decide)⟩
 ·show Yl _ (tH z _)
  exact aN (cT z _) fun _ _=>aN (kX z) fun n hn=>bP ⟨rfl,rfl,by simp[fN,tZ],.inr pE,aR rfl (aR (oY hn) fO),lZ 2 rfl (by decide)⟩
 ·show Yl _ (xY z _)
  refine aN (cT z _) fun _ _=>aN (uT z) fun p hp=>aN (cT z _) fun _ _=>aN (oO z _ _) fun b hb=>iW (fun h3=>?_) fun h3=>iW (fun h4=>?_) fun h4=>?_
  ·subst h3
   exact aN (kX z) fun n hn=>bP ⟨rfl,rfl,by simp[fN,tZ],.inr pE,aR rfl (aR (mR hp.1 hp.2) (aR rfl (aR rfl (aR (oY hn) (aR rfl fO))))),lZ 3 rfl (by decide)⟩
  ·subst h4
   exact aN (kX z) fun n hn=>aN (kX z) fun m hm=>bP ⟨rfl,rfl,by simp[fN,tZ],.inr pE,aR rfl (aR (mR hp.1 hp.2) (aR rfl (aR rfl (aR (oY hn) (aR (oY hm) fO))))),lZ 3 rfl (by decide)⟩
  ·simp at hb
   rcases(show b=1∨b=2 by omega) with rfl|rfl
   ·exact bP ⟨rfl,rfl,by simp[fN,tZ],.inr pE,aR rfl (aR (mR hp.1 hp.2) (aR rfl (aR rfl (aR rfl (aR rfl fO))))),lZ 3 rfl (by decide)⟩
   ·exact bP ⟨rfl,rfl,by simp[fN,tZ],.inr pE,aR rfl (aR (mR hp.1 hp.2) (aR rfl (aR rfl (aR rfl (aR rfl fO))))),lZ 3 rfl (by decide)⟩
 ·show Yl _ (xG z _)
  exact aN (cT z _) fun _ _=>aN (fH z) fun t ht=>aN (cT z _) fun _ _=>aN (kX z) fun n hn=>aN (cT z _) fun _ _ =>
   aN (P:=fun l=>∀ t∈l,Pr (bG t)) (fun ts a r hg h=>aBF z _ [] (fun _ h=>by cases h) ts a r hg h) fun l hl=>bP ⟨rfl,rfl,by simp[fN,tZ],.inr pE,
   pr_app (aR rfl (aR (dX ht) (aR rfl (aR (oY hn) (aR rfl fO))))) (uG fun y hy=>by
    obtain⟨w,hw,rfl⟩:=aEz.1 hy
    exact hl w hw),lZ 4 rfl (by decide)⟩
 ·show Yl _ (aCd z _)
  exact aN (uT z) fun p hp=>aN (cT z _) fun _ _=>aN (oO z _ _) fun b hb=>bP ⟨rfl,rfl,by simp[fN,tZ,hnm rfl],.inr pE,
   aR (mR hp.1 hp.2) (aR rfl (aR (vH (by simp at hb;simp;omega)) fO)),lZ 5 rfl (by decide)⟩
 ·show Yl _ (iR z _)
  exact aN (cT z _) fun _ _=>aN (fH z) fun t ht=>aN (cT z _) fun _ _=>aN (uU z) fun l hl=>aN (cT z _) fun _ _=>bP ⟨rfl,rfl,by simp[fN,tZ],.inr pE,
   aR rfl (aR (dX ht) (aR rfl (aR (nN hl.1 fun x hx b=>dX (hl.2 x hx)) (aR rfl fO)))),lZ 6 rfl (by decide)⟩
 ·show Yl _ (tN z _)
  refine aN (P:=fun y=>∃ t l,dJ t=true∧l≠[]∧aDc l∧y={ tZ with kind:=7,name:=nm,off:=off,table:=t,names:=l }) ?_ fun y hy=>?_
  ·exact aN (cT z _) fun _ _=>aN (fH z) fun t ht=>aN (cT z _) fun _ _=>aN (uU z) fun l hl=>aN (cT z _) fun _ _=>bP ⟨t,l,ht,hl.1,hl.2,rfl⟩
  ·obtain⟨t,l,ht,hl1,hl2,rfl⟩:=hy
   refine aN (cT z _) fun _ _=>aN (fH z) fun a ha=>aN (hO _) fun _ _=>iW (fun _=>aN (uV (yl_fixed z)) fun f hf=>bP ?_) fun _=>bP ?_
   ·exact⟨rfl,rfl,by simp[fN,tZ],.inr pE,aR rfl (aR (dX ht) (aR rfl (aR (nN hl1 fun x hx b=>dX (hl2 x hx)) (aR rfl (aR (dX ha) (aR (pr_fixed hf.2) fO)))))),lZ 7 rfl (by decide)⟩
   ·exact⟨rfl,rfl,by simp[fN,tZ],.inr pE,aR rfl (aR (dX ht) (aR rfl (aR (nN hl1 fun x hx b=>dX (hl2 x hx)) (aR rfl (aR (dX ha) (aR rfl fO)))))),lZ 7 rfl (by decide)⟩
 ·show Yl _ (pT z _)
  exact aN (uT z) fun p hp=>aN (cT z _) fun _ _=>aN (uT z) fun q hq=>bP ⟨rfl,rfl,by simp[fN,tZ],.inr pE,aR (mR hp.1 hp.2) (aR rfl (aR (mR hq.1 hq.2) fO)),lZ 8 rfl (by decide)⟩
 ·show Yl _ (aCp z _)
  exact aN (uV (yl_var z)) fun v hv=>aN (yl_conds z) fun c hc=>bP ⟨rfl,rfl,by simp[fN,tZ],.inr pE,aR (nN hv.1 fun x hx _=>hv.2 x hx) (aR hc fO),lZ 9 rfl (by decide)⟩
 ·show Yl _ (wV z _)
  exact aN (cT z _) fun _ _=>aN (aCB z 12) fun e he=>bP ⟨rfl,rfl,by simp[fN,tZ],.inl rfl,aR rfl (aR (he.1 _) fO),decide_eq_true fun _=>he.2⟩
end
theorem yl_item (z:Nat):Yl (fun x=>Pr (gW x)∧gC x=true) (hG z):=fun ts a r hg h=>by
 cases ts with
 | nil=>rw[pS]at h;cases h
 | cons t q =>
  rw[qM]at h
  have:Yl (fun x=>Pr (gW x)∧gC x=true) (aCf t.off z) :=
   aN (oO z _ _) fun k hk=>aN (P:=fun s=>(k=5→s=[])∧(k≠5→dJ s=true)) (aCA (fun hc=>fun ts a r q e=>by
     obtain⟨h1,h2⟩:=fH z ts a r q e
     exact⟨⟨fun e=>by simp[e]at hc,fun _=>h1⟩,h2⟩) (fun hc=>⟨fun _=>rfl,fun e=>by simp at hc;exact absurd hc e⟩)) fun nm hnm=>by
    have hk10:1≤k∧k≤10:=by simp[eF]at hk;omega
    refine aN (yl_part z nm t.off hk10.1 hk10.2 hnm.1) fun x hx=>aN (cT z _) fun _ _=>bP ?_
    obtain⟨rfl,rfl,h3,h4,h5,h6⟩:=hx
    refine⟨?_,h6⟩
    unfold gW
    rw[if_pos ⟨hk10.1,hk10.2,h3,h4⟩]
    refine aR rfl (aR ?_ (aR h5 (aR rfl fO)));by_cases e5:x.kind=5
    ·rw[if_pos e5];rfl
    ·rw[if_neg e5];exact dX (hnm.2 e5)
  exact this _ _ _ hg h
theorem its_pr {z:Nat}{ts:List Tok}{xs:List It}(h:Its z ts xs)(hg:GT ts):(∃ ls,eT xs=some ls)∧xs.all gC=true:=by
 induction h with
 | nil=>exact⟨⟨[],rfl⟩,rfl⟩
 | @cons ts r x xs hp _ ih =>
  obtain⟨⟨h1,h2⟩,h3⟩:=yl_item z _ _ _ hg hp
  obtain⟨⟨ls,h4⟩,h5⟩:=ih h3
  obtain⟨p,hp⟩:=aEQ.1 h1
  refine⟨⟨p::ls,?_⟩,by rw[List.all_cons,h2,h5];rfl⟩
  unfold eT at h4 ⊢
  rw[List.mapM_cons,hp,h4]
  rfl
theorem zU {t:aBs}{xs:List It}(h:jS t=.ok xs):(dU xs).2=0∨(dU xs).2=3:=by
 unfold jS at h;cases hL:rF t with
 | error e=>rw[hL]at h;cases h
 | ok ts =>
  have h':jS t=.ok xs:=h
  obtain⟨hi,_⟩:=(wZ hL).1 h'
  obtain⟨⟨ls,h1⟩,_⟩:=its_pr hi (aAP _ _ _ _ hL)
  rcases aCQ xs with h|⟨_,_,h⟩|⟨h,_⟩
  ·exact .inl h
  ·rw[h1]at h;cases h
  ·exact .inr h
theorem dR {b s:aBs}{ps:List Pc}(h:bB b s=some ps):s.length≤1000000000000000:=by
 have:=cU (fT h).1
 omega
theorem lB {b:aBs}{n:Int}{ps:List Pc}(h:iD b n=some ps):-9223372036854775808≤n∧n≤9223372036854775807:=by
 have:=xC (tK h).1
 omega
theorem pF {n:Int}{ws:List aBs}{ps:List Pc}(hl:ws.length≤100)(h:fZ n ws=some ps):-9223372036854775808≤n∧n≤9223372036854775807:=by
 unfold fZ at h;split at h
 ·omega
 ·cases h
theorem xW {v:Vl}{ps:List Pc}(h:bT v=some ps):aBD v:=by
 unfold bT at h;unfold aBD;split at h
 ·split at h
  ·rename_i h1 h2
   rw[h1,h2.1,h2.2]
   simp
  ·cases h
 split at h
 ·split at h
  ·rename_i h1 h2
   rw[h1,h2.1]
   refine⟨by omega,by omega,by omega⟩
  ·cases h
 split at h
 ·split at h
  ·rename_i h1 h2
   rw[h1,h2.1]
   refine⟨by omega,by omega,by simp⟩
  ·cases h
 split at h
 ·split at h
  ·rename_i h1 h2
   have:=xC h2.2
   rw[h1,h2.1]
   refine⟨by omega,by omega,by simp⟩
  ·cases h
 split at h
 ·split at h
  ·rename_i h1 h2
   rw[h1,h2.1]
   refine⟨by omega,by omega,by simp⟩
  ·cases h
 ·cases h
theorem jM {t a:aBs}{ps:List Pc}(h:eB t a=some ps):t.length≤1000000000000000∧a.length≤1000000000000000:=by
 obtain⟨_,_,e1,h,_⟩:=aA h
 obtain⟨_,_,_,h,_⟩:=aA h
 obtain⟨_,_,e3,_,_⟩:=aA h
 exact⟨dR e1,dR e3⟩
theorem sideQ_ok {x:Opd}{ps:List Pc}(h:gB x=some ps):aBm x:=by
 unfold gB at h;unfold aBm;split at h
 ·split at h
  ·rename_i h2
   rw[h2.1,h2.2]
   exact⟨by simp,by simp,xW h⟩
  ·cases h
 split at h
 ·cases h
 rename_i hv
 have hv:x.val.k=0∧x.val.n=0∧x.val.t=[]:=Classical.not_not.1 hv;have hV:aBD x.val:=by unfold aBD;rw[hv.1,hv.2.1,hv.2.2];simp
 split at h
 ·rename_i h1
  split at h
  ·cases h
  ·rw[h1]
   exact⟨by simp,dR h,hV⟩
 ·split at h
  ·cases h
  ·have:=jM h
   exact⟨this.1,this.2,hV⟩
theorem opQ_rng {n:Int}{ps:List Pc}(h:opQ n=some ps):-9223372036854775808≤n∧n≤9223372036854775807:=by
 unfold opQ at h;split at h
 ·omega
 ·cases h
theorem condQ_ok {x:Cnd}{ps:List Pc}(h:qA x=some ps):tC x:=by
 obtain⟨_,_,e1,h,_⟩:=aA h
 obtain⟨_,_,e2,h,_⟩:=aA h
 obtain⟨_,_,e3,h,_⟩:=aA h
 obtain⟨_,_,e4,_,_⟩:=aA h
 refine⟨sideQ_ok e1,opQ_rng e2,sideQ_ok e3,?_⟩
 unfold tS at e4;split at e4
 ·cases e4
 ·rename_i hx
  have:=Classical.not_not.1 hx
  omega
theorem pL:∀ {l:List (Option (List Pc))}{ps:List Pc},aG l=some ps→∀ o∈l,∃ p,o=some p
 | [],_,_,o,ho=>by cases ho
 | x::r,ps,h,o,ho=>by
  obtain⟨a,b,e1,e2,_⟩:=aA h
  rcases aEg.1 ho with rfl|ho
  ·exact⟨a,e1⟩
  ·exact pL e2 o ho
theorem loopQ_all {α:Type}{one:Nat→α→Option (List Pc)}{l:List α}{ps:List Pc}(h:dD one l=some ps):∀ x∈l,∃ i p,one i x=some p:=by
 intro x hx
 obtain⟨i,hi⟩:=aEH.1 hx
 obtain⟨p,hp⟩:=pL h (one i x) (aEH.2 ⟨i,by rw[List.getElem?_mapIdx,hi];rfl⟩)
 exact⟨i,p,hp⟩
theorem nP {o:Option (List Pc)}{g:List Pc→List Pc}{p:List Pc}(h:o.map g=some p):∃ q,o=some q:=by
 cases o with
 | none=>cases h
 | some q=>exact⟨q,rfl⟩
theorem aCr {l:List Cnd}{ps:List Pc}(h:lE l=some ps):∀ c∈l,tC c:=by
 by_cases hl:l=[]
 ·subst hl;simp
 ·rw[zH l hl]at h
  intro c hc
  obtain⟨i,p,hp⟩:=loopQ_all h c hc
  obtain⟨q,hq⟩:=nP hp
  exact condQ_ok hq
theorem listQ_ok {α:Type}{one:aBs→α→Option (List Pc)}{b:aBs}{l:List α}{ps:List Pc}(h:gV one b l=some ps):∀ x∈l,∃ b p,one b x=some p:=by
 intro x hx;cases l with
 | nil=>cases hx
 | cons y r =>
  rcases aEg.1 hx with rfl|hx
  ·obtain⟨p,hp⟩:=pL h (one b x) (by simp)
   exact⟨b,p,hp⟩
  ·obtain⟨p,hp⟩:=pL h ((one [32] x).map (aL [] [44]::·)) (aEy _ (aEz.2 ⟨x,hx,rfl⟩))
   obtain⟨q,hq⟩:=nP hp
   exact⟨_,q,hq⟩
theorem uJ {α:Type}{one:aBs→α→Option (List Pc)}{b:aBs}{l:List α}{ps:List Pc}(h:dG one b l=some ps):∀ x∈l,∃ b p,one b x=some p:=by
 cases l with
 | nil=>cases h
 | cons y r=>exact listQ_ok h
theorem aB7 {b:aBs}{l:List aBs}{ps:List Pc}(h:gV bB b l=some ps):∀ n∈l,n.length≤1000000000000000:=fun n hn=>by
 obtain⟨_,_,e⟩:=listQ_ok h n hn
 exact dR e
theorem sK {b:aBs}{l:List aBs}{ps:List Pc}(h:dG bB b l=some ps):∀ n∈l,n.length≤1000000000000000:=fun n hn=>by
 obtain⟨_,_,e⟩:=uJ h n hn
 exact dR e
theorem colQ_ok {b:aBs}{c:Col}{ps:List Pc}(h:mV b c=some ps):aCy c:=by
 obtain⟨_,_,e1,h,_⟩:=aA h
 obtain⟨_,_,e2,h,_⟩:=aA h
 obtain⟨_,_,e3,_,_⟩:=aA h
 refine⟨dR e1,pF (by decide) e2,?_⟩
 split at e3
 ·rename_i h0
  unfold aBD
  rw[h0.1,h0.2.1,h0.2.2]
  simp
 ·obtain⟨q,hq⟩:=nP e3
  exact xW hq
theorem termQ_ok {t:Trm}{ps:List Pc}(h:bG t=some ps):aCw t:=by
 obtain⟨_,_,e1,h,_⟩:=aA h
 obtain⟨_,_,e2,h,_⟩:=aA h
 obtain⟨_,_,e3,h,_⟩:=aA h
 obtain⟨_,_,_,h,_⟩:=aA h
 obtain⟨_,_,e5,h,_⟩:=aA h
 obtain⟨_,_,e6,h,_⟩:=aA h
 obtain⟨_,_,_,h,_⟩:=aA h
 obtain⟨_,_,e8,h,_⟩:=aA h
 obtain⟨_,_,e9,h,_⟩:=aA h
 refine⟨dR e1,pF (by decide) e2,?_,lB e5,?_,lB e8,?_⟩
 ·split at e3
  ·exact lB e3
  ·split at e3
   ·omega
   ·cases e3
 ·split at e6
  ·omega
  ·obtain⟨q,hq⟩:=nP e6
   exact lB hq
 ·split at e9
  ·omega
  ·obtain⟨q,hq⟩:=nP e9
   exact lB hq
theorem fixQ_ok {f:Nmd}{ps:List Pc}(h:uM f=some ps):aBn f:=by
 obtain⟨_,_,e1,h,_⟩:=aA h
 obtain⟨_,_,_,h,_⟩:=aA h
 obtain⟨_,_,e3,_,_⟩:=aA h
 exact⟨dR e1,xW e3⟩
theorem varQ_ok {v:Vr}{ps:List Pc}(h:rJ v=some ps):VrOK v:=by
 obtain⟨_,_,e1,h,_⟩:=aA h
 obtain⟨_,_,e2,_,_⟩:=aA h
 exact⟨dR e2,dR e1⟩
theorem rest_ok {k:Int}{tb:aBs}{cs:List Cnd}{ns:List aBs}{a s:aBs}{g:Int}{ps:List Pc}(h1:1≤k)(h8:k≤8)(hk:k≠1)(hb:fC k tb cs ns a s g=true)(h:dZ k cs ns a s g=some ps) :
  tb=[]∧(∀ c∈cs,tC c)∧(∀ n∈ns,n.length≤1000000000000000)∧a.length≤1000000000000000∧s.length≤1000000000000000∧(-9223372036854775808≤g∧g≤9223372036854775807):=by
 have hb:=of_decide_eq_true hb
 obtain⟨b1,b2,b3,b4,b5,b6⟩:=hb
 have b1:tb=[]:=b1.resolve_left hk
 refine⟨b1,?_⟩
 unfold dZ at h;by_cases h2:k=2
 ·rw[if_pos h2]at h
  obtain rfl:ns=[]:=by rcases b3 with h|h|h<;>first|omega|exact h
  obtain rfl:a=[]:=by rcases b4 with h|h|h<;>first|omega|exact h
  obtain rfl:s=[]:=by rcases b5 with h|h|h<;>first|omega|exact h
  have:g=0:=by omega
  exact⟨aCr h,by simp,by simp,by simp,by omega⟩
 rw[if_neg h2]at h
 obtain rfl:cs=[]:=b2.resolve_left h2;by_cases h3:k=3
 ·rw[if_pos h3]at h
  obtain⟨_,_,_,h,_⟩:=aA h
  obtain⟨_,_,e2,_,_⟩:=aA h
  obtain rfl:a=[]:=by rcases b4 with h|h|h<;>first|omega|exact h
  obtain rfl:s=[]:=by rcases b5 with h|h|h<;>first|omega|exact h
  have:g=0:=by omega
  exact⟨by simp,aB7 e2,by simp,by simp,by omega⟩
 rw[if_neg h3]at h
 by_cases h7:k=7
 ·rw[if_pos h7]at h
  obtain⟨_,_,_,h,_⟩:=aA h
  obtain⟨_,_,e2,h,_⟩:=aA h
  obtain⟨_,_,_,h,_⟩:=aA h
  obtain⟨_,_,e4,_,_⟩:=aA h
  obtain rfl:ns=[]:=by rcases b3 with h|h|h<;>first|omega|exact h
  have:g=0:=by omega
  exact⟨by simp,by simp,dR e2,dR e4,by omega⟩
 rw[if_neg h7]at h
 by_cases h8':k=8
 ·rw[if_pos h8']at h
  split at h
  ·obtain⟨_,_,_,h,_⟩:=aA h
   obtain⟨_,_,e2,h,_⟩:=aA h
   obtain⟨_,_,_,h,_⟩:=aA h
   obtain⟨_,_,e4,h,_⟩:=aA h
   obtain⟨_,_,e5,h,_⟩:=aA h
   obtain⟨_,_,_,h,_⟩:=aA h
   obtain⟨_,_,e7,_,_⟩:=aA h
   refine⟨by simp,aB7 e2,?_,dR e7,pF (by decide) e4⟩
   split at e5
   ·split at e5
    ·rename_i ha;rw[ha];simp
    ·cases e5
   ·exact dR e5
  ·cases h
 ·obtain rfl:ns=[]:=by rcases b3 with h|h|h<;>first|omega|exact h
  obtain rfl:a=[]:=by rcases b4 with h|h|h<;>first|omega|exact h
  obtain rfl:s=[]:=by rcases b5 with h|h|h<;>first|omega|exact h
  have:g=0:=by omega
  exact⟨by simp,by simp,by simp,by simp,by omega⟩
mutual
theorem exQ_ok {N:Nat}(hN:N≤1000000000000000):∀(x:Ex)(b:aBs)(ps:List Pc),gM b x=some ps→ExB N x→lH x
 | .mk k tb ks cs ns a s g o,b,ps,h,hB=>by
  rw[gM]at h
  rw[ExB]at hB
  obtain⟨b1,b2,b3,b4⟩:=hB
  split at h
  ·rename_i hc
   obtain⟨h1,h8,hl,hb⟩:=hc
   by_cases hk:k=1
   ·rw[if_pos hk]at h
    have hks:ks=[]:=by rw[hk]at hl;exact aEl.1 hl
    obtain⟨_,c2,c3,c4,c5,c6⟩:=of_decide_eq_true hb
    subst hks;obtain rfl:cs=[]:=c2.resolve_left (by omega);obtain rfl:ns=[]:=by rcases c3 with h|h|h<;>first|omega|exact h
    obtain rfl:a=[]:=by rcases c4 with h|h|h<;>first|omega|exact h
    obtain rfl:s=[]:=by rcases c5 with h|h|h<;>first|omega|exact h
    rw[lH]
    exact⟨by omega,dR h,trivial,by simp,by simp,by simp,by simp,by omega,by omega,by omega,by omega⟩
   ·rw[if_neg hk]at h
    obtain⟨_,_,_,h,_⟩:=aA h
    obtain⟨_,_,e2,h,_⟩:=aA h
    obtain⟨_,_,e3,_,_⟩:=aA h
    obtain⟨r1,r2,r3,r4,r5,r6⟩:=rest_ok h1 h8 hk hb e3
    have hkk:=exsQ_ok hN ks [] _ e2 b4
    rw[lH]
    exact⟨by omega,by rw[r1];simp,hkk,r2,r3,r4,r5,r6,by omega,by omega,by omega⟩
  ·cases h
theorem exsQ_ok {N:Nat}(hN:N≤1000000000000000):∀(l:List Ex)(b:aBs)(ps:List Pc),iK b l=some ps→aBE N l→uB l
 | [],_,_,_,_=>trivial
 | x::r,b,ps,h,hB=>by
  rw[iK]at h
  rw[aBE]at hB
  split at h
  ·rename_i p q e1 e2
   rw[uB]
   exact⟨exQ_ok hN x b p e1 hB.1,exsQ_ok hN r [32] q e2 hB.2⟩
  ·cases h
end
theorem kids_two' (k:Int):fU k≤2:=by unfold fU;split<;>(try split)<;>omega
mutual
theorem ex_size {N C:Nat}(hC:C=1+2*N):∀(x:Ex)(b:aBs)(ps:List Pc)(d:Nat),gM b x=some ps→ExB N x→bZ x≤d→fQ x+C≤2 ^ d*C
 | .mk k tb ks cs ns a s g o,b,ps,0,h,hB,hd=>by rw[bZ]at hd;omega
 | .mk k tb ks cs ns a s g o,b,ps,d+1,h,hB,hd=>by
  rw[gM]at h
  rw[ExB]at hB
  rw[bZ]at hd
  obtain⟨b1,b2,b3,b4⟩:=hB
  split at h
  ·rename_i hc
   obtain⟨h1,h8,hl,hb⟩:=hc
   have h2:=kids_two' k;have hpow:2 ^ (d+1)*C=2 ^ d*C+2 ^ d*C:=by rw[Nat.pow_succ];rw[Nat.mul_comm (2 ^ d) 2,Nat.mul_assoc];omega
   have hge:C≤2 ^ d*C:=Nat.le_mul_of_pos_left C (Nat.pow_pos (by decide))
   rw[fQ]
   by_cases hk:k=1
   ·have hks:ks=[]:=by rw[hk]at hl;exact aEl.1 hl
    subst hks
    rw[gK]
    omega
   ·rw[if_neg hk]at h
    obtain⟨_,_,_,h,_⟩:=aA h
    obtain⟨_,_,e2,_,_⟩:=aA h
    have hs:=exs_size hC ks [] _ d e2 b4 (by omega)
    have:ks.length=0∨ks.length=1∨ks.length=2:=by omega
    rcases this with e|e|e<;>rw[e]at hs<;>(try simp only[Nat.zero_mul,Nat.one_mul]at hs)<;>omega
  ·cases h
theorem exs_size {N C:Nat}(hC:C=1+2*N):∀(l:List Ex)(b:aBs)(ps:List Pc)(d:Nat),iK b l=some ps→aBE N l→cC l≤d→gK l+l.length*C≤l.length*(2 ^ d*C)
 | [],_,_,_,_,_,_=>by rw[gK];simp
 | x::r,b,ps,d,h,hB,hd=>by
  rw[iK]at h
  rw[aBE]at hB
  rw[cC]at hd
  split at h
  ·rename_i p q e1 e2
   have h1:=ex_size hC x b p d e1 hB.1 (by omega);have h2:=exs_size hC r [32] q d e2 hB.2 (by omega)
   rw[gK,aEa,Nat.succ_mul,Nat.succ_mul]
   omega
  ·cases h
end
end Go.Proofs.YtohlogbnpfofpaaGreatDoor
