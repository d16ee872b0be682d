/- Part 12 of the proof of gaps,items: FnXo, FnXr, FnXp, FnQj, FnXs, FnQk, FnQl, FnQm, FnQn, FnYp, FnYu, FnEr, FnJo, FnYv. -/
import Derived.Lib.Builder
import Derived.Test.YtohlogbnpfofpaaGreatDoorPA11
set_option linter.all false
set_option maxHeartbeats 100000000
set_option maxRecDepth 100000
namespace Go.Proofs.YtohlogbnpfofpaaGreatDoor
open Go StillVC
def LEnds (B:Base)(b:Nat)(bs:List UInt8)(k:Int)(c:Nat)(x:It):Ending→Heap→Prop :=
 Ends (fun r h'=>∃ ps p' v',iO x=some ps∧r=.bool (iA x)∧cN b p'∧(fH ps).length≤c∧ps.length≤c∧Own B [box b [p',v',.int .i64 (k+ps.length)] 58,row v' 5 1 (bs++fH ps).length (bytes (bs++fH ps))] h')
  fun q h'=>iO x=none∧q=uZ∧Own B [] h'
theorem lQ (x:It):eC (dC x)=eC x:=by unfold dC;split<;>rfl
theorem mW (x:It):dS (dC x)=dS x:=by unfold dC;split<;>rfl
theorem hH (x:It):(dC x).kind=x.kind:=by unfold dC;split<;>rfl
theorem qH (x:It):(dC x).expr=x.expr:=by unfold dC;split<;>rfl
theorem rG {x:It}(h:jX x):jX (dC x):=by
 unfold dC;split
 ·exact h
 ·obtain⟨h1,h2,h3⟩:=h
  exact⟨h1,by simp,h3⟩
theorem wF (x:It):(dQ x).kind=x.kind:=by
 unfold dQ
 repeat' split
 all_goals rfl
theorem aAP {x:It}(h:jX x):jX (dQ x):=by
 obtain⟨bkind,bname,btable,battr,bcols,bnames,bby,bn,bm,bterms,both,boat,bfixed,bvars,bconds,bexpr,lcols,lnames,lterms,lfixed,lvars,lconds⟩:=h
 have hx0:gR ex0:=by unfold ex0;rw[gR];simp[rR]
 unfold dQ
 repeat' split
 all_goals simp only[clr1,clr2,zF,clr4,clr5,clr6,clr7,clr8,clr9,clr10]
 all_goals refine⟨by first|assumption|(simp;done),by first|assumption|(simp;done),by first|assumption|(simp;done),by first|assumption|(simp;done),by first|assumption|(simp;done),by first|assumption|(simp;done),by first|assumption|(simp;done),?_,?_,by first|assumption|(simp;done),by first|assumption|(simp;done),by first|assumption|(simp;done),by first|assumption|(simp;done),by first|assumption|(simp;done),by first|assumption|(simp;done),by first|assumption|(simp;done),by first|assumption|(simp;done),by first|assumption|(simp;done),by first|assumption|(simp;done),by first|assumption|(simp;done),by first|assumption|(simp;done),by first|assumption|(simp;done)⟩
 all_goals try dsimp only
 all_goals first|assumption|omega|(split<;>omega)
theorem aAH (x:It):decide ((if (dC x).kind=10∧12<cC (dC x).expr then(-1:Int) else 0)=0)=iA x:=by
 rw[hH,qH]
 unfold iA
 apply decide_eq_decide.2
 by_cases h1:x.kind=10
 ·by_cases h2:12<cC x.expr
  ·rw[if_pos ⟨h1,h2⟩]
   exact⟨fun h=>absurd h (by decide),fun h=>absurd (h h1) (by omega)⟩
  ·rw[if_neg (fun h=>h2 h.2)]
   exact⟨fun _ _=>by omega,fun _=>rfl⟩
 ·rw[if_neg (fun h=>h1 h.1)]
  exact⟨fun _ h=>absurd h h1,fun _=>rfl⟩
theorem LEnds.done {B:Base}{b:Nat}{bs bs':List UInt8}{k k':Int}{c:Nat}{x:It}{ps:List Pc}{p v r:Value}{h:Heap}(hq:iO x=some ps)(o:Own B [box b [p,v,.int .i64 k'] 58,row v 5 1 bs'.length (bytes bs')] h)(hp:cN b p)(hb:bs'=bs++fH ps)(hk:k'=k+ps.length)
  (hc:bs'.length≤bs.length+c) (hc2:k'≤k+c) (hr:r=.bool (iA x)):LEnds B b bs k c x (.returned r) h:=by
 subst hb;subst hk
 rw[List.length_append]at hc
 exact⟨ps,p,v,hq,hr,hp,by omega,by omega,o⟩
theorem itemQ_eq (x:It)(hkd:1≤x.kind∧x.kind≤10):iO x=if uW (dQ (dC x))=true then aF [some [aG [] (eM.getD (x.kind - 1).toNat [])],(if x.kind=5 then some [] else bG [32] x.name),dS x,some [if x.kind=4 then aP [10] [125] else aP [] [59]]] else none:=by
 rw[empty_bare hkd.1 hkd.2]
 unfold iO;by_cases hc:(fI x&&(decide (x.kind=10)||jP x.expr))=true
 ·have hc2:=hc
  simp only[Bool.and_eq_true,Bool.or_eq_true,decide_eq_true_eq]at hc2
  rw[if_pos ⟨hkd.1,hkd.2,hc2.1,hc2.2⟩,if_pos hc]
 ·rw[if_neg hc,if_neg]
  rintro⟨_,_,h1,h2⟩
  apply hc
  rw[h1]
  rcases h2 with h2|h2<;>simp[h2]
theorem prItem_spec (B:Base)(b:Nat)(p v:Value)(k:Int)(bs:List UInt8)(x:It)(c:List Value)(h:Heap)(hp:cN b p)(hT:iQ B.h)(hF:fW B.h)(hOK:jX x)(hc:itH B.h c x)(hLev:cC x.expr≤100000000000)
  (o:Own B [box b [p,v,.int .i64 k] 58,row v 5 1 bs.length (bytes bs)] h) (hl:bs.length+3000*eC x≤40000000000000) (hk:0≤k∧k+3000*eC x≤40000000000000) :
  Spec Tryz.prog 19 [.pointer (some ⟨b,0,none⟩),.agg ⟨c⟩] h (LEnds B b bs k (3000*eC x) x):=by
 obtain⟨z,vc,vn,vt,vf,vv,vd,e0,e1,e2,e3,e4,e5,e6,e7,e8,rfl,q1,q2,q3,q4,q5,q6,rx⟩:=hc
 have hOK2:=hOK
 obtain⟨bkind,bname,btable,battr,bcols,bnames,bby,bn,bm,bterms,both,boat,bfixed,bvars,bconds,bexpr,lcols,lnames,lterms,lfixed,lvars,lconds⟩:=hOK
 have hsz:eC x=1+x.cols.length+x.names.length+x.terms.length+x.fixed.length+x.vars.length+x.conds.length+eU x.expr:=rfl;unfold fF;refine Spec.enter Tryz.func19 rfl Tryz.ntmps19 (by kernel_rfl) ?_;by_cases hkd:1≤x.kind∧x.kind≤10
 case neg =>
  have hq:iO x=none:=by unfold iO;rw[if_neg (fun h=>hkd ⟨h.1,h.2.1⟩)]
  by_cases h1:1≤x.kind
  ·(refine RunVC.aBS o rfl ?_;intro b10 m10 o10)
   refine run (fA aY rfl rfl rfl ?_);refine run (aBx o10 2 rfl aW rfl rfl ?_);refine Br.dec (fun c13=>?_) (fun hc=>absurd (by omega) hc);refine run (fA aY rfl rfl rfl ?_);refine run (aBx o10 2 rfl aW rfl rfl ?_);refine MEnds.aBC (B:=B) ‹_› (aC _ _) (fun g1 m2 _ oq=>absurd (of_decide_eq_true g1) (by omega)) fun g1 m2 oq=>?_
   exact⟨hq,rfl,oq⟩
  ·(refine RunVC.aBS o rfl ?_;intro b30 m30 o30)
   refine run (fA aY rfl rfl rfl ?_);refine run (aBx o30 2 rfl aW rfl rfl ?_);refine Br.dec (fun hc=>absurd hc (by omega)) (fun c33=>?_);refine MEnds.aBC (B:=B) ‹_› (aC _ _) (fun g1 m2 _ oq=>by cases g1) fun g1 m2 oq=>?_
   exact⟨hq,rfl,oq⟩
 have hiq:=itemQ_eq x hkd;(refine RunVC.aBS o rfl ?_;intro b50 m50 o50);refine run (fA aY rfl rfl rfl ?_);refine run (aBx o50 2 rfl aW rfl rfl ?_);refine Br.dec (fun c53=>?_) (fun hc=>absurd (by omega) hc);refine run (fA aY rfl rfl rfl ?_);refine run (aBx o50 2 rfl aW rfl rfl ?_);refine MEnds.aBC (B:=B) ‹_› (aC _ _) (fun g1 m2 oc oq=>?_) fun g1 m2 oq=>absurd (of_decide_eq_false g1) (by omega);clear oc;refine DrawVC.intro [0,1,2,3,7] [4] [6,8,9] [0,1,2,3,4,5,6,7,8,9] mixed (by kernel_rfl) rfl (fun _ _ _ _ h=>h) ?_;refine nC rfl ?_;refine fA bM rfl rfl rfl ?_;refine fA aY rfl rfl rfl ?_;refine aBx oq 2 rfl aW rfl rfl ?_;(refine RunVC.lit (Own.refl _) aH aN rfl rfl (by decide) (aI rfl ?_);intro b74 m74 o74);(refine aI o74.ext ?_;have o75:=Own.call oq o74;simp only[lcA,lnA]at o75;clear o74);refine MEnds.aBC (B:=B) ‹_› (dN x.kind eM _ _ (by omega) (by omega) (Own.boxArr ‹_› 3 rfl rfl (by decide)) (by decide) (by decide)) (fun g2 m3 oc oq=>?_) fun g2 m3 oq=>absurd (of_decide_eq_false g2) (by show ¬ ¬ (1≤x.kind∧x.kind≤10);omega);have hwl:=jW (ws:=eM) (M:=10) (by decide) (x.kind - 1).toNat;generalize hwd:eM.getD (x.kind - 1).toNat []=wd at hwl hiq;clear oc;refine aBZ bN rfl ⟨_,rfl⟩ rfl (by omega) (by show(1:Int)≤((32::wd).length:Int);simp only[List.length_cons];omega) (by omega) ?_;(refine RunVC.lit oq aH aN rfl rfl (by decide) (aI rfl ?_);intro b91 m91 o91)
 rw[show List.drop (1:Int).toNat (List.take (((32::wd).length:Nat):Int).toNat (32::wd))=wd by simp]at *
 refine aE [wd] 1 30 [2] (i:=4) ‹_› rfl rfl rfl hp rfl (by omega) (by omega) (by simp;omega) (by omega) (by omega) (fun p1 v1 bs1 k1 m1 hp1 hb1 hk1 hl1 oq=>?_);have o1:Own B [box b [p1,v1,.int .i64 k1] 58,row v1 5 1 bs1.length (bytes bs1),box b50 [.int .i64 x.kind,.string ⟨⟨x.name⟩⟩,.int .i64 z,.string ⟨⟨x.table⟩⟩,.string ⟨⟨x.attr⟩⟩,vc,vn,.int .i64 x.by_,.int .i64 x.n,.int .i64 x.m,vt,.string ⟨⟨x.other⟩⟩,.string ⟨⟨x.oattr⟩⟩,vf,vv,vd,e0,e1,e2,e3,e4,e5,e6,e7,e8] 44] m1:=oq;clear oq;have hF2:∀ nm,(x.kind=5→nm=x.name)→(x.kind≠5→nm=[])→itH B.h (fF (dC x) 0 vc vn vt vf vv vd e0 e1 e2 e3 e4 e5 e6 e7 e8) (dC x)∧fF (dC x) 0 vc vn vt vf vv vd e0 e1 e2 e3 e4 e5 e6 e7 e8=[.int .i64 x.kind,.string ⟨⟨nm⟩⟩,.int .i64 0,.string ⟨⟨x.table⟩⟩,.string ⟨⟨x.attr⟩⟩,vc,vn,.int .i64 x.by_,.int .i64 x.n,.int .i64 x.m,vt,.string ⟨⟨x.other⟩⟩,.string ⟨⟨x.oattr⟩⟩,vf,vv,vd,e0,e1,e2,e3,e4,e5,e6,e7,e8]:=by
  intro nm h5 hn5
  refine⟨⟨0,_,_,_,_,_,_,_,_,_,_,_,_,_,_,_,rfl,?_⟩,?_⟩
  ·unfold dC
   split<;>exact⟨q1,q2,q3,q4,q5,q6,rx⟩
  ·unfold dC
   split
   ·rename_i h;rw[h5 h];rfl
   ·rename_i h;rw[hn5 h];rfl
 have fin:∀(nm:List UInt8) (p2 v2:Value) (bs2:List UInt8) (k2:Int) (ps2:List Pc) (m2:Heap),(if x.kind=5 then some [] else bG [32] x.name)=some ps2→True:=fun _ _ _ _ _ _ _ _=>trivial;clear fin;by_cases h5:x.kind=5
 ·obtain⟨hcN,hcE⟩:=hF2 x.name (fun _=>rfl) (fun h=>absurd h5 h)
  refine run (fA aY rfl rfl rfl ?_);(refine RunVC.store o1 2 rfl aW rfl (by simp) (aI ⟨rfl,rfl⟩ ?_);intro m201 o201);refine run (fA aY rfl rfl rfl ?_);refine run (aBx o201 2 rfl aW rfl rfl ?_);refine Br.aBO (fun hc=>absurd (by first|omega|assumption|decide|exact rfl) hc) (fun c204=>?_);refine DrawVC.intro [1,3,4] [2] [5] [1,2,4,0,3,5] mixed (by kernel_rfl) rfl (fun _ _ _ _ h=>h) ?_;refine fA aY rfl rfl rfl ?_;refine aBx o201 2 rfl aW rfl rfl ?_;refine CallVC.ret (sO _) ?_;rintro _ m6 ⟨rfl,oc⟩;have o4:=oc.thenE (B:=B) ‹_›
  refine⟨oc.ext,?_⟩
  clear oc;have hwA:=wrN_at hkd.1 hkd.2;refine indexA arr80 rfl rfl (by omega) (by omega) (by first|rfl|assumption) ?_;have o5:Own B [box b [p1,v1,.int .i64 k1] 58,row v1 5 1 bs1.length (bytes bs1),box b50 (fF (dC x) 0 vc vn vt vf vv vd e0 e1 e2 e3 e4 e5 e6 e7 e8) 44] m6:=by rw[hcE];exact o4
  have hsp:=wY B b b50 p1 v1 k1 bs1 (dC x) 0 vc vn vt vf vv vd e0 e1 e2 e3 e4 e5 e6 e7 e8 m6 hp1 hT hF (rG hOK2) (by rw[hH];exact hkd) hcN (by rw[qH];exact hLev) o5 (by rw[lQ];omega) (by rw[lQ];omega)
  rw[hH,lQ]at hsp
  unfold WAny at hsp;refine CallVC.ends hsp (fun _ m7 ⟨ps4,p4,v4,uc,un,ut,uf,uv,ud,f0,f1,f2,f3,f4,f5,f6,f7,f8,hq4,hr4,hp4,hl4,hl4',hI,o6⟩=>?_) (fun _ m7 ⟨hq4,hr4,o6⟩=>?_)
  case refine_2 =>
   subst hr4
   rw[mW]at hq4
   exact⟨hiq.trans (by split;simp only[if_pos h5,hq4,aF,oMN,oMS];rfl),rfl,o6⟩
  subst hr4
  rw[mW]at hq4
  have hyk:=wF (dC x)
  rw[hH]at hyk
  have hyok:=aAP (rG hOK2);have hfz:decide ((if (dC x).kind=10∧12<cC (dC x).expr then(-1:Int) else 0)=0)=iA x:=aAH x;generalize (if (dC x).kind=10∧12<cC (dC x).expr then(-1:Int) else 0)=z' at o6 hI hfz;generalize dQ (dC x)=y at o6 hI hyk hyok hiq;have hpl:(bs1++bE ps4).length=bs1.length+(bE ps4).length:=List.length_append;generalize hb4:bs1++bE ps4=bs4 at o6 hpl;have hk4:k1+(ps4.length:Int)=k1+ps4.length:=rfl;generalize hkk4:k1+(ps4.length:Int)=k4 at o6;unfold fF at o6 hI;clear o4 o5 hsp;refine run (aBB o6 2 rfl iG rfl rfl rfl ?_);refine CallVC.ret (tB y _ _ hyok (hI.ext (Own.ext (B:=B) o6))) ?_;rintro _ m8 ⟨rfl,oc⟩;have o7:=oc.thenE (B:=B) o6;clear oc o6;refine MEnds.aBC (B:=B) ‹_› (aC _ _) (fun g9 m9 oc oq=>?_) fun g9 m9 oq=>?_
  case refine_2=>exact⟨hiq.trans (if_neg (by rw[g9];decide)),rfl,oq⟩
  rw[if_pos g9]at hiq
  clear oc o7;by_cases h4:x.kind=4
  ·skip
   refine run (fA aY rfl rfl rfl ?_);refine run (aBx oq 2 rfl aW rfl rfl ?_);refine Br.dec (fun c482=>?_) (fun hc=>absurd (by omega) hc);refine run (nC rfl ?_);refine run (fA bM rfl rfl rfl ?_);(refine RunVC.lit oq aH aN rfl rfl (by decide) (aI rfl ?_);intro b485 m485 o485);refine aE [[10,125]] 1 30 [2] (i:=3) ‹_› rfl rfl rfl hp4 rfl (by omega) (by omega) (by simp) (by omega) (by omega) (fun p6 v6 bs6 k6 m10 hp6 hb6 hk6 hl6 oz=>?_);have o8:=oz
   simp only[pick,lgS,lgZ]at o8
   clear oz;refine run (nC rfl ?_);refine run (fA bM rfl rfl rfl ?_);refine run (fA xI rfl rfl rfl ?_);refine CallVC.ret (nZ b p6 v6 k6 bs6 10 _ _ hp6 (o8.lend [0,1] [2] rfl) (by omega)) ?_;rintro _ m11 ⟨rfl,v7,o9⟩;have o10:=o9.back
   simp only[pick,wSt,lcA,lnA,lgS,lgZ]at o10
   clear o8 o9;refine run (fA aY rfl rfl rfl ?_);refine run (aBx o10 2 rfl aW rfl rfl ?_);refine RetVC.one rfl ?_;have hq:=hiq.trans (show _=some ([aG [] wd]++([]++(ps4++([aP [10] [125]]++[])))) by rw[if_pos h4];simp only[if_pos h5,hq4,aF,oMS]);have hbt:bs6++[10]=bs++fH ([aG [] wd]++([]++(ps4++([aP [10] [125]]++[])))):=by rw[hb6,← hb4,hb1];simp[fH,bE,fR,wr,aG,aP]
   have hkt:k6=k+(([aG [] wd]++([]++(ps4++([aP [10] [125]]++[]))):List Pc).length:Int):=by rw[hk6,← hkk4,hk1];first|(simp;done)|(simp;omega)
   exact LEnds.done hq (Own.sel ‹_› [0,1] rfl) (.inr rfl) hbt hkt (by simp only[List.length_append,List.length_cons,List.length_nil];omega) (by omega) (congrArg Value.bool hfz)
  ·skip
   refine run (fA aY rfl rfl rfl ?_);refine run (aBx oq 2 rfl aW rfl rfl ?_);refine Br.dec (fun hc=>absurd hc (by omega)) (fun c542=>?_);refine run (nC rfl ?_);refine run (fA bM rfl rfl rfl ?_);(refine RunVC.lit oq aH aN rfl rfl (by decide) (aI rfl ?_);intro b545 m545 o545);refine aE [[59]] 1 30 [2] (i:=3) ‹_› rfl rfl rfl hp4 rfl (by omega) (by omega) (by simp) (by omega) (by omega) (fun p6 v6 bs6 k6 m10 hp6 hb6 hk6 hl6 oz=>?_);have o8:=oz
   simp only[pick,lgS,lgZ]at o8
   clear oz;refine run (nC rfl ?_);refine run (fA bM rfl rfl rfl ?_);refine run (fA xI rfl rfl rfl ?_);refine CallVC.ret (nZ b p6 v6 k6 bs6 10 _ _ hp6 (o8.lend [0,1] [2] rfl) (by omega)) ?_;rintro _ m11 ⟨rfl,v7,o9⟩;have o10:=o9.back
   simp only[pick,wSt,lcA,lnA,lgS,lgZ]at o10
   clear o8 o9;refine run (fA aY rfl rfl rfl ?_);refine run (aBx o10 2 rfl aW rfl rfl ?_);refine RetVC.one rfl ?_;have hq:=hiq.trans (show _=some ([aG [] wd]++([]++(ps4++([aP [] [59]]++[])))) by rw[if_neg h4];simp only[if_pos h5,hq4,aF,oMS]);have hbt:bs6++[10]=bs++fH ([aG [] wd]++([]++(ps4++([aP [] [59]]++[])))):=by rw[hb6,← hb4,hb1];simp[fH,bE,fR,wr,aG,aP]
   have hkt:k6=k+(([aG [] wd]++([]++(ps4++([aP [] [59]]++[]))):List Pc).length:Int):=by rw[hk6,← hkk4,hk1];first|(simp;done)|(simp;omega)
   exact LEnds.done hq (Own.sel ‹_› [0,1] rfl) (.inr rfl) hbt hkt (by simp only[List.length_append,List.length_cons,List.length_nil];omega) (by omega) (congrArg Value.bool hfz)
 ·obtain⟨hcN,hcE⟩:=hF2 [] (fun h=>absurd h h5) (fun _=>rfl)
  refine run (fA aY rfl rfl rfl ?_);(refine RunVC.store o1 2 rfl aW rfl (by simp) (aI ⟨rfl,rfl⟩ ?_);intro m301 o301);refine run (fA aY rfl rfl rfl ?_);refine run (aBx o301 2 rfl aW rfl rfl ?_);refine Br.aBO (fun c304=>?_) (fun hc=>absurd hc (by first|omega|assumption|decide|exact rfl));refine DrawVC.intro [0,1,2,3,6] [4] [5,7,8] [0,1,2,3,4,5,6,7,8] mixed (by kernel_rfl) rfl (fun _ _ _ _ h=>h) ?_;refine nC rfl ?_;refine fA bM rfl rfl rfl ?_;refine fA aY rfl rfl rfl ?_;refine aBx o301 2 rfl aN rfl rfl ?_;refine MEnds.aBC (B:=B) ‹_› (bF x.name _ bname) (fun g3 m4 oc oq=>?_) fun g3 m4 oq=>?_
  case refine_2 =>
   have hn:=cO (b:=[32]) g3
   exact⟨hiq.trans (by split;simp only[if_neg h5,hn,aF,oMN];rfl),rfl,oq⟩
  have hnl:=cM g3;clear oc;refine aBF rfl rfl (by first|omega|(simp;omega)) ?_;(refine RunVC.lit oq aH aN rfl rfl (by decide) (aI rfl ?_);intro b331 m331 o331);refine aE [[32]++x.name] 1 30 [2] (i:=3) ‹_› rfl rfl rfl hp1 rfl (by omega) (by omega) (by simp;omega) (by omega) (by omega) (fun p3 v3 bs3 k3 m5 hp3 hb3 hk3 hl3 oq=>?_);have o3:=oq
  simp only[pick,lgS,lgZ]at o3
  clear oq;refine run (fA aY rfl rfl rfl ?_);(refine RunVC.store o3 2 rfl aN rfl (by simp) (aI ⟨rfl,rfl⟩ ?_);intro m361 o361);refine DrawVC.intro [1,3,4] [2] [5] [1,2,4,0,3,5] mixed (by kernel_rfl) rfl (fun _ _ _ _ h=>h) ?_;refine fA aY rfl rfl rfl ?_;refine aBx o361 2 rfl aW rfl rfl ?_;refine CallVC.ret (sO _) ?_;rintro _ m6 ⟨rfl,oc⟩;have o4:=oc.thenE (B:=B) ‹_›
  refine⟨oc.ext,?_⟩
  clear oc;have hwA:=wrN_at hkd.1 hkd.2;refine indexA arr80 rfl rfl (by omega) (by omega) (by first|rfl|assumption) ?_;have o5:Own B [box b [p3,v3,.int .i64 k3] 58,row v3 5 1 bs3.length (bytes bs3),box b50 (fF (dC x) 0 vc vn vt vf vv vd e0 e1 e2 e3 e4 e5 e6 e7 e8) 44] m6:=by rw[hcE];exact o4
  have hsp:=wY B b b50 p3 v3 k3 bs3 (dC x) 0 vc vn vt vf vv vd e0 e1 e2 e3 e4 e5 e6 e7 e8 m6 hp3 hT hF (rG hOK2) (by rw[hH];exact hkd) hcN (by rw[qH];exact hLev) o5 (by rw[lQ];omega) (by rw[lQ];omega)
  rw[hH,lQ]at hsp
  unfold WAny at hsp;refine CallVC.ends hsp (fun _ m7 ⟨ps4,p4,v4,uc,un,ut,uf,uv,ud,f0,f1,f2,f3,f4,f5,f6,f7,f8,hq4,hr4,hp4,hl4,hl4',hI,o6⟩=>?_) (fun _ m7 ⟨hq4,hr4,o6⟩=>?_)
  case refine_2 =>
   subst hr4
   rw[mW]at hq4
   exact⟨hiq.trans (by split;simp only[if_neg h5,aA g3,hq4,aF,oMN,oMS];rfl),rfl,o6⟩
  subst hr4
  rw[mW]at hq4
  have hyk:=wF (dC x)
  rw[hH]at hyk
  have hyok:=aAP (rG hOK2);have hfz:decide ((if (dC x).kind=10∧12<cC (dC x).expr then(-1:Int) else 0)=0)=iA x:=aAH x;generalize (if (dC x).kind=10∧12<cC (dC x).expr then(-1:Int) else 0)=z' at o6 hI hfz;generalize dQ (dC x)=y at o6 hI hyk hyok hiq;have hpl:(bs3++bE ps4).length=bs3.length+(bE ps4).length:=List.length_append;generalize hb4:bs3++bE ps4=bs4 at o6 hpl;have hk4:k3+(ps4.length:Int)=k3+ps4.length:=rfl;generalize hkk4:k3+(ps4.length:Int)=k4 at o6;unfold fF at o6 hI;clear o4 o5 hsp;refine run (aBB o6 2 rfl iG rfl rfl rfl ?_);refine CallVC.ret (tB y _ _ hyok (hI.ext (Own.ext (B:=B) o6))) ?_;rintro _ m8 ⟨rfl,oc⟩;have o7:=oc.thenE (B:=B) o6;clear oc o6;refine MEnds.aBC (B:=B) ‹_› (aC _ _) (fun g9 m9 oc oq=>?_) fun g9 m9 oq=>?_
  case refine_2=>exact⟨hiq.trans (if_neg (by rw[g9];decide)),rfl,oq⟩
  rw[if_pos g9]at hiq
  clear oc o7;by_cases h4:x.kind=4
  ·skip
   refine run (fA aY rfl rfl rfl ?_);refine run (aBx oq 2 rfl aW rfl rfl ?_);refine Br.dec (fun c782=>?_) (fun hc=>absurd (by omega) hc);refine run (nC rfl ?_);refine run (fA bM rfl rfl rfl ?_);(refine RunVC.lit oq aH aN rfl rfl (by decide) (aI rfl ?_);intro b785 m785 o785);refine aE [[10,125]] 1 30 [2] (i:=3) ‹_› rfl rfl rfl hp4 rfl (by omega) (by omega) (by simp) (by omega) (by omega) (fun p6 v6 bs6 k6 m10 hp6 hb6 hk6 hl6 oz=>?_);have o8:=oz
   simp only[pick,lgS,lgZ]at o8
   clear oz;refine run (nC rfl ?_);refine run (fA bM rfl rfl rfl ?_);refine run (fA xI rfl rfl rfl ?_);refine CallVC.ret (nZ b p6 v6 k6 bs6 10 _ _ hp6 (o8.lend [0,1] [2] rfl) (by omega)) ?_;rintro _ m11 ⟨rfl,v7,o9⟩;have o10:=o9.back
   simp only[pick,wSt,lcA,lnA,lgS,lgZ]at o10
   clear o8 o9;refine run (fA aY rfl rfl rfl ?_);refine run (aBx o10 2 rfl aW rfl rfl ?_);refine RetVC.one rfl ?_;have hq:=hiq.trans (show _=some ([aG [] wd]++([aG [32] x.name]++(ps4++([aP [10] [125]]++[])))) by rw[if_pos h4];simp only[if_neg h5,aA g3,hq4,aF,oMS]);have hbt:bs6++[10]=bs++fH ([aG [] wd]++([aG [32] x.name]++(ps4++([aP [10] [125]]++[])))):=by rw[hb6,← hb4,hb3,hb1];simp[fH,bE,fR,wr,aG,aP]
   have hkt:k6=k+(([aG [] wd]++([aG [32] x.name]++(ps4++([aP [10] [125]]++[]))):List Pc).length:Int):=by rw[hk6,← hkk4,hk3,hk1];first|(simp;done)|(simp;omega)
   exact LEnds.done hq (Own.sel ‹_› [0,1] rfl) (.inr rfl) hbt hkt (by simp only[List.length_append,List.length_cons,List.length_nil];omega) (by omega) (congrArg Value.bool hfz)
  ·skip
   refine run (fA aY rfl rfl rfl ?_);refine run (aBx oq 2 rfl aW rfl rfl ?_);refine Br.dec (fun hc=>absurd hc (by omega)) (fun c842=>?_);refine run (nC rfl ?_);refine run (fA bM rfl rfl rfl ?_);(refine RunVC.lit oq aH aN rfl rfl (by decide) (aI rfl ?_);intro b845 m845 o845);refine aE [[59]] 1 30 [2] (i:=3) ‹_› rfl rfl rfl hp4 rfl (by omega) (by omega) (by simp) (by omega) (by omega) (fun p6 v6 bs6 k6 m10 hp6 hb6 hk6 hl6 oz=>?_);have o8:=oz
   simp only[pick,lgS,lgZ]at o8
   clear oz;refine run (nC rfl ?_);refine run (fA bM rfl rfl rfl ?_);refine run (fA xI rfl rfl rfl ?_);refine CallVC.ret (nZ b p6 v6 k6 bs6 10 _ _ hp6 (o8.lend [0,1] [2] rfl) (by omega)) ?_;rintro _ m11 ⟨rfl,v7,o9⟩;have o10:=o9.back
   simp only[pick,wSt,lcA,lnA,lgS,lgZ]at o10
   clear o8 o9;refine run (fA aY rfl rfl rfl ?_);refine run (aBx o10 2 rfl aW rfl rfl ?_);refine RetVC.one rfl ?_;have hq:=hiq.trans (show _=some ([aG [] wd]++([aG [32] x.name]++(ps4++([aP [] [59]]++[])))) by rw[if_neg h4];simp only[if_neg h5,aA g3,hq4,aF,oMS]);have hbt:bs6++[10]=bs++fH ([aG [] wd]++([aG [32] x.name]++(ps4++([aP [] [59]]++[])))):=by rw[hb6,← hb4,hb3,hb1];simp[fH,bE,fR,wr,aG,aP]
   have hkt:k6=k+(([aG [] wd]++([aG [32] x.name]++(ps4++([aP [] [59]]++[]))):List Pc).length:Int):=by rw[hk6,← hkk4,hk3,hk1];first|(simp;done)|(simp;omega)
   exact LEnds.done hq (Own.sel ‹_› [0,1] rfl) (.inr rfl) hbt hkt (by simp only[List.length_append,List.length_cons,List.length_nil];omega) (by omega) (congrArg Value.bool hfz)
theorem wL {P:Program}{s:List Value}{h:Heap}{fn:Func}{a b ta tb:Nat}{za zb:List Value}{ya yb pa pb:Nat}{u v:Value}(hf:fn.results=#[.cell a ta,.cell b tb])
  (hA:TyI P ta false za ya) (hB:TyI P tb false zb yb) (ea:sget s a=.pointer (some ⟨pa,0,none⟩)) (eb:sget s b=.pointer (some ⟨pb,0,none⟩))
  (ca:aX h ⟨pa,0,none⟩=some u) (cb:aX h ⟨pb,0,none⟩=some v) (w:World) (hw:w.heap=h) :
  (results fn s.toArray).run P w=.ok (.tuple ⟨[u,v]⟩) w:=by
 have e1:s.toArray.getD a undef=.pointer (some ⟨pa,0,none⟩):=by rw[← ea,← dA];simp
 have e2:s.toArray.getD b undef=.pointer (some ⟨pb,0,none⟩):=by rw[← eb,← dA];simp
 simp only[Array.getD_eq_getD_getElem?,List.getElem?_toArray]at e1 e2
 subst hw
 rw[← fK]at ca cb
 simp[results,hf,e1,e2,asAddr,loadVar,hA.isAgg,hB.isAgg,run_load,ca,cb]
theorem RetVC.cell22 {P:Program}{s:List Value}{h:Heap}{fn:Func}{R:Value→Heap→Prop}{a b ta tb:Nat}{za zb:List Value}{ya yb pa pb:Nat}{u v:Value}(hf:fn.results=#[.cell a ta,.cell b tb])
  (hA:TyI P ta false za ya) (hB:TyI P tb false zb yb) (ea:sget s a=.pointer (some ⟨pa,0,none⟩)) (eb:sget s b=.pointer (some ⟨pb,0,none⟩))
  (ca:aX h ⟨pa,0,none⟩=some u) (cb:aX h ⟨pb,0,none⟩=some v) (hr:R (.tuple ⟨[u,v]⟩) h):RetVC P fn s h R where
 ex:=⟨_,fun w hw=>wL hf hA hB ea eb ca cb w hw,hr⟩
theorem StillVC.assertOne {pr:Bool}{P:Program}{ty:TypeId}{s:List Value}{h:Heap}{K:KK}{t tx:TypeId}{x:Operand}{v:Value}(hb:jN P t=true)(hx:ev s x=.iface t v)(hk:K v false h):StillVC pr P (.typeAssert x tx t false) ty s h K:=by
 refine .pure' _ false (fun w=>?_) hk;unfold jN at hb;split at hb
 ·cases hb
 ·rename_i d hd hne
  simp only[execOp,hx,Instr.typeAssert,Sem.run_bind,run_underlying hne,Result.andThen_ok]
  cases d<;>simp_all
 ·cases hb
def uC (p q v:Value):List Value:=[p,q,v,v,undef,undef,undef,undef]
theorem qA (p q:Value):Recovers Tryz.prog (match Tryz.f18.body with|some (.seq (.region _ ops _) _)=>ops|_=>#[]) ([p,q]++List.replicate (8 - [p,q].length) undef) (uC p q):=by
 intro cs w Q hQ;unfold wpOpsS
 simp[Tryz.f18,List.range,List.range.loop,wpOpsS,Region.wanted,yielded,execOp,resolve,invoke,builtin,act,Act.put]
 cases hrec:recoverD cs with
 | none=>exact hQ _ _ (.inr ⟨hrec,rfl,rfl⟩)
 | some x=>exact hQ _ _ (.inl hrec)
theorem nJ (s:List Value)(h:Heap)(R:Ending→Heap→Prop)(p q:Value)
  (hr:RetVC Tryz.prog Tryz.f11 s h fun v h=>R (.returned v) h) :
  LeaveVC Tryz.prog Tryz.f11 ⟨.fn (.func 18) ⟨[p,q]⟩,#[]⟩ .returning s h R:=by
 refine LeaveVC.recovers (f:=uC p q) .nilIface Tryz.func18 rfl (n:=8) (by kernel_rfl) (by kernel_rfl) rfl (.inl ⟨rfl,rfl⟩) (qA p q) ?_;refine run (neI aAD (by first|assumption|rfl) ?_);refine Br.ff ?_;exact hr
theorem wleave_err (s:List Value)(h:Heap)(R:Ending→Heap→Prop)(B:Base)(b2 b3:Nat)(x y:Value)
  (o0:Own B [box b2 [x] 9,box b3 [y] 27] h)
  (h2:sget s 2=.pointer (some ⟨b2,0,none⟩)) (h3:sget s 3=.pointer (some ⟨b3,0,none⟩))
  (hR:∀ h',Own B [] h'→R (.returned (.tuple ⟨[.string ⟨⟨[]⟩⟩,.int .i64 1]⟩)) h') :
  LeaveVC Tryz.prog Tryz.f11 ⟨.fn (.func 18) ⟨[.pointer (some ⟨b2,0,none⟩),.pointer (some ⟨b3,0,none⟩)]⟩,#[]⟩ (.panicking uZ) s h R:=by
 refine LeaveVC.recovers (f:=uC (.pointer (some ⟨b2,0,none⟩)) (.pointer (some ⟨b3,0,none⟩))) (.iface 27 (.int .i64 1)) Tryz.func18 rfl (n:=8) (by kernel_rfl) (by kernel_rfl) rfl (.inr rfl) (qA _ _) ?_;refine run (neI aAD (by first|assumption|rfl) ?_);refine Br.tt ?_;refine DrawVC.intro [0,1] [] [2,3] [0,1,2,3] mixed (by kernel_rfl) rfl (fun _ _ _ _ h=>h) ?_;refine assertOne (by kernel_rfl) rfl ?_;(refine RunVC.store o0 0 rfl aN rfl (by simp) (aI ⟨rfl,rfl⟩ ?_);intro m12 o12);(refine RunVC.store o12 1 rfl gW rfl (by simp) (aI ⟨rfl,rfl⟩ ?_);intro m13 o13);exact RetVC.cell22 rfl aN gW h2 h3 (o13.cellB 0 rfl 0) (o13.cellB 1 rfl 0) (hR _ (o13.sel [] rfl))
theorem aBl {w:World}{p:Addr}{n i:Nat}(h:i≠p.block):(w.freeze p n).heap[i]?=w.heap[i]?:=by
 unfold World.freeze;split
 ·rfl
 ·show(w.heap.modify p.block _)[i]?=_
  rw[Array.getElem?_modify,if_neg (fun e=>h e.symm)]
section
variable {P : Program} {ty : TypeId} {s : List Value} {B : Base} {h : Heap} {L : List Item} {K : KK} {Q : QQ}
theorem RunVC.unsafeStrB {pt it e:TypeId}{x y:Operand}{g n cap:Nat}{bs:List UInt8}(o:Own B L h)(k:Nat)(hk:L[k]?=some (row (.slice (some ⟨g,0,none⟩) n cap) e 1 n (bytes bs)))(hp:P.underlying pt=some (.pointer e))(hc:P.cellsOf e=1)(hb:bs≠[])
  (hx:ev s x=.pointer (some ⟨g,0,none⟩)) (hy:ev s y=.int .i64 n) (hK:∀ h',Own B (L.set k gG) h'→K (.string ⟨⟨bs⟩⟩) false h'):RunVC P (.call ⟨.builtin .unsafeString,⟨[x,y]⟩,⟨[pt,it]⟩⟩) ty s h K Q:=by
 refine .of fun w hw=>?_;subst hw;have hm:=List.mem_of_getElem? hk;have hr:rM w.heap e 1 (.slice (some ⟨g,0,none⟩) n cap) n (bytes bs):=o.sat _ hm;have hlo:B.h.size≤g:=OwnR.lo o _ (List.mem_append_left _ hm) g rfl
 obtain⟨hlen,hr⟩:=hr
 have hn:n=bs.length:=by simp at hlen;omega
 subst hn
 rcases hr with ⟨hv,_⟩|⟨g',cap',cur,hv,hg,hnc,hcm,hcs,ht⟩
 ·cases hv
 ·cases hv
  have hown:w.ownsRow B.h.size e 1 (.slice (some ⟨g,0,none⟩) bs.length cap) bs.length (bytes bs):=⟨hlen,.inr ⟨g,cap,cur,rfl,hlo,hg,hnc,hcm,hcs,ht⟩⟩;have hUS:=Lib.run_unsafeString_row (P:=P) w pt it ty e hp hc g cur.size (by simp[World.shape?,hg]) bs hb (by omega) (by unfold maxLen at hcm;omega) (fun j x hj=>hown.cells (g:=g) rfl j (.int .u8 x.toNat) (by simp[bytes,hj]));have hB:=Lib.below_freeze (RowKit.Below.refl B.h.size w) (p:=⟨g,0,none⟩) hlo bs.length
  refine⟨_,false,w.freeze ⟨g,0,none⟩ bs.length,by simp[execOp,resolve,invoke,builtin,hx,hy,hUS],⟨hB.os,hB.tape,hB.output,hB.size⟩,hK _ ?_⟩
  exact o.set hk hB.size (fun i _ hi=>aBl (fun e=>hi (by subst e;rfl))) trivial (fun _ hf=>hf.elim) (fun _ hf=>hf.elim)
end
theorem wText2_spec (b:Nat)(p v:Value)(k:Int)(bs:List UInt8)(h:Heap)(h0:Base)(hv:bs=[]→v=.slice none 0 0)(o0:Own h0 [box b [p,v,.int .i64 k] 58,row v 5 1 bs.length (bytes bs)] h) :
  cK Tryz.prog 21 [.pointer (some ⟨b,0,none⟩)] h fun r h'=>r=.string ⟨⟨bs⟩⟩∧Own h0 [] h':=by
 refine Spec.enter Tryz.func21 rfl Tryz.ntmps21 (by kernel_rfl) ?_;by_cases hb:bs=[]
 ·obtain rfl:=hv hb
  subst hb;refine DrawVC.intro [0,1,2,5,6,7,9,11] [3,8] [10] [0,1,2,3,5,6,7,8,9,4,10,11] mixed (by kernel_rfl) rfl (fun _ _ _ _ h=>h) ?_;refine nC rfl ?_;refine fA tY rfl rfl rfl ?_;refine aBx o0 0 rfl kZ rfl rfl ?_;refine nC rfl ?_;refine fA tY rfl rfl rfl ?_;refine aBx o0 0 rfl kZ rfl rfl ?_;refine aBH rfl fQ ?_;refine RunVC.sliceDataNil rfl ?_;refine aI (Ext.refl _) ?_;refine RunVC.unsafeStrNil rfl rfl ?_;refine RetVC.one rfl ?_
  exact⟨rfl,o0.sel [] rfl⟩
 ·have hr:rM h 5 1 v bs.length (bytes bs):=o0.sat _ (List.mem_of_getElem? (i:=1) rfl)
  have hl:bs.length≠0:=by simpa using hb
  obtain⟨g,cap,hc,rfl⟩:∃ g cap,cap≠0∧v=.slice (some ⟨g,0,none⟩) bs.length cap:=by
   rcases hr.2 with ⟨_,e⟩|⟨g,cap,cur,hv,_,hnc,_⟩
   ·exact absurd e hl
   ·exact⟨g,cap,by omega,hv⟩
  refine DrawVC.intro [0,1,2,5,6,7,9,11] [3,8] [10] [0,1,2,3,5,6,7,8,9,4,10,11] mixed (by kernel_rfl) rfl (fun _ _ _ _ h=>h) ?_;refine nC rfl ?_;refine fA tY rfl rfl rfl ?_;refine aBx o0 0 rfl kZ rfl rfl ?_;refine nC rfl ?_;refine fA tY rfl rfl rfl ?_;refine aBx o0 0 rfl kZ rfl rfl ?_;refine aBH rfl fQ ?_;refine RunVC.sliceData rfl hc ?_;refine aI (Ext.refl _) ?_;refine RunVC.unsafeStrB o0 1 rfl (by kernel_rfl) (by kernel_rfl) hb rfl rfl ?_;intro h1 o1;clear o0;have o2:=o1.sel [] rfl;clear o1;refine RetVC.one rfl ?_
  exact⟨rfl,o2⟩
theorem rF {xs:List It}(h:(cB xs).2=0):∃ ls,eO xs=some ls∧xs.all iA=true∧xs.length≤200∧mM ls≤5000∧(gL ls).length≤20000∧(cB xs).1=gL ls:=by
 unfold cB at h ⊢;cases hi:eO xs with
 | none=>rw[hi]at h;cases h
 | some ls =>
  rw[hi]at h
  simp only at h ⊢;split at h
  ·rename_i hc
   rw[if_pos hc]
   exact⟨ls,rfl,hc.1,hc.2.1,hc.2.2.1,hc.2.2.2,rfl⟩
  ·cases h
theorem sY (xs:List It):(cB xs).2=0∨((cB xs).2=1∧(cB xs).1=[]∧eO xs=none)∨((cB xs).2=3∧(cB xs).1=[]∧∃ ls,eO xs=some ls):=by
 unfold cB;cases hi:eO xs with
 | none=>exact .inr (.inl ⟨rfl,rfl,rfl⟩)
 | some ls =>
  simp only
  split
  ·exact .inl rfl
  ·exact .inr (.inr ⟨rfl,rfl,ls,rfl⟩)
theorem iX (a b:List It):eO (a++b)=match eO a,eO b with
  | some x,some y=>some (x++y)
  | _,_=>none:=by
 unfold eO
 rw[List.mapM_append]
 cases a.mapM iO<;>cases b.mapM iO<;>rfl
theorem items_plain {a b:List It}(h:(cB (a++b)).2=0):(cB a).2=0∧(cB b).2=0∧(cB (a++b)).1=(cB a).1++(cB b).1:=by
 obtain⟨ls,h1,h2,h3,h4,h5,h6⟩:=rF h
 rw[h6]
 rw[iX]at h1
 cases ha:eO a with
 | none=>rw[ha]at h1;cases h1
 | some x =>
  cases hb:eO b with
  | none=>rw[ha,hb]at h1;cases h1
  | some y =>
   rw[ha,hb]at h1
   cases h1
   simp only[List.all_append,Bool.and_eq_true]at h2
   have e1:gL (x++y)=gL x++gL y:=by simp[gL]
   have e2:mM (x++y)=mM x+mM y:=by simp[mM]
   rw[e2]at h4
   rw[e1,List.length_append]at h5
   rw[List.length_append]at h3
   unfold cB
   rw[ha,hb]
   simp only
   rw[if_pos ⟨h2.1,by omega,by omega,by omega⟩,if_pos ⟨h2.2,by omega,by omega,by omega⟩]
   exact⟨rfl,rfl,e1⟩
theorem items_arg (a b:List It):(cB (a++b)).2=1↔(cB a).2=1∨(cB b).2=1:=by
 have key:∀ xs,(cB xs).2=1↔eO xs=none:=by
  intro xs
  rcases sY xs with h|⟨h,_,h2⟩|⟨h,_,ls,h2⟩
  ·obtain⟨ls,h1,_⟩:=rF h
   rw[h,h1];simp
  ·rw[h,h2];simp
  ·rw[h,h2];simp
 rw[key,key,key,iX]
 cases eO a<;>cases eO b<;>simp
theorem Spec.enterD1 {P:Program}{f:FuncId}{fn:Func}{r0 rest:Code}{id n:Nat}{ops:Array Oper}{args:List Value}{h:Heap}{R:Ending→Heap→Prop}
  (hf:P.funcs[f]?=some fn) (hb:fn.body=some (.seq r0 (.seq (.region id ops false) rest))) (hn:fn.ntmps=n) (hname:(fn.name == "runtime.NumGoroutine")=false)
  (hv:mL args n fun s=>vcode P r0 (zW (fun s h=>DeferVC P fn id ops rest R s h) (yY P fn R)) s h):Spec P f args h R:=by
 refine⟨⟨fn,hf,by simp[hb],hname⟩,fun w hw=>?_⟩
 subst hw
 rw[nX]at hv
 have he:act (args++List.replicate (n - args.length) undef) []={ tmps:=args.toArray++Array.replicate (fn.ntmps - args.toArray.size) undef,defers:=[] }:=by
  simp[act,hn]
 have leave0:∀ e s' w',Same w w'→yY P fn R e s' w'.heap→bodyPostD P fn (fun e w'=>Same w w'∧R e w'.heap) e (act s' []) w':=by
  intro e s' w' hs hq;cases e with
  | normal=>obtain⟨v,hr,hR⟩:=hq.ex;exact⟨v,hr w' rfl,hs,hR⟩
  | ret=>obtain⟨v,hr,hR⟩:=hq.ex;exact⟨v,hr w' rfl,hs,hR⟩
  | panic c=>exact⟨hs,hq⟩
  | _=>exact hq.elim
 refine calls_of_wp_defers hf hb ?_
 rw[← he]
 refine wp_seq (wp_mono (dF (w0:=w) (ds:=[]) r0 _ _ w (.refl w) hv) ?_);rintro e a w2 ⟨s2,rfl,hs2,hq⟩;cases e with
 | normal =>
  obtain⟨s3,d,hd,hr⟩:=hq.ex
  refine wp_seq (hd w2 _ (wp_mono (dF (w0:=w) (ds:=[d]) rest _ _ w2 hs2 (lW rest (Q':=yF P fn d R) (fun e s h hq=>?_) _ _ hr)) ?_))
  ·cases e<;>first|exact hq|exact hq.elim
  ·rintro e a w3 ⟨s4,rfl,hs3,hq⟩
   cases e with
   | normal=>exact hq.lv w w3 hs3 rfl
   | ret=>exact hq.lv w w3 hs3 rfl
   | panic c=>exact hq.lv w w3 hs3 rfl
   | _=>exact hq.elim
 | ret=>exact leave0 .ret s2 w2 hs2 hq
 | panic c=>exact leave0 (.panic c) s2 w2 hs2 hq
 | _=>exact hq.elim
theorem jB (xs:List It)(va:Value)(h:Heap)(hT:iQ h)(hF:fW h)(hP:kA h va xs)(hOK:∀ x∈xs,jX x)(hsz:∀ x∈xs,eC x≤50000000)(hn:xs.length≤210) :
  cK Tryz.prog 11 [.agg ⟨[va]⟩] h fun r h'=>r=.tuple ⟨[.string ⟨⟨(cB xs).1⟩⟩,.int .i64 (cB xs).2]⟩∧Own h [] h':=by
 obtain⟨ca,q1,q2,q3⟩:=hP
 obtain⟨ya,yc,rfl⟩:=q1.isS
 refine Spec.enterD1 Tryz.func11 rfl (n:=54) (by kernel_rfl) (by kernel_rfl) ?_;have o0:=Own.refl h;(refine RunVC.aBS o0 rfl ?_;intro b10 m10 o10);(refine RunVC.alloc o10 aN ?_;intro b11 m11 o11);(refine RunVC.alloc o11 gW ?_;intro b12 m12 o12);refine DeferVC.closureP (fun c s hh=>c=uZ∧eO xs=none∧sget s 2=.pointer (some ⟨b11,0,none⟩)∧sget s 3=.pointer (some ⟨b12,0,none⟩)∧Own h [box b11 [.string ⟨⟨[]⟩⟩] 9,box b12 [.int .i64 0] 27] hh) (by simp) ?_;refine aI ?_ ?_
 ·rintro c s hh ⟨rfl,hno,s2,s3,oo⟩
  refine wleave_err s hh _ h b11 b12 _ _ oo s2 s3 fun h' o'=>?_;have hp:cB xs=([],1):=by unfold cB;rw[hno]
  exact⟨by rw[hp],o'⟩
 refine run (aBE bM ?_);(refine RunVC.aBS o12 rfl ?_;intro b41 m41 o41);refine run (fA lZ rfl rfl rfl ?_);refine run (aBx o41 0 rfl pN rfl rfl ?_);refine run (aBH rfl oC ?_);have on:Own h [box b41 [.pointer none,.slice none 0 0,.int .i64 0] 58,row (.slice none 0 0) 5 1 0 [],box b11 [.string ⟨⟨[]⟩⟩] 9,box b12 [.int .i64 0] 27,box b10 [.slice ya xs.length yc] 24] m41:=(o41.nilRow 5 1).sel [3,4,1,2,0] rfl;clear o41;refine LoopVC.intro [5,7,14,15,16,17,18,19,20,21,22,23,24] [5,14] (fun vs hh=>∃(i:Nat) (p' v':Value) (bs':List UInt8) (k':Int) (ls:List (List Pc)),i≤xs.length∧vs=[.bool ((xs.take i).all iA),.int .i64 i]∧cN b41 p'∧eO (xs.take i)=some ls∧bs'=gL ls∧k'=mM ls∧(bs'=[]→v'=.slice none 0 0)∧bs'.length≤150000000000*i∧k'≤150000000000*i∧Own h [box b41 [p',v',.int .i64 k'] 58,row v' 5 1 bs'.length (bytes bs'),box b11 [.string ⟨⟨[]⟩⟩] 9,box b12 [.int .i64 0] 27,box b10 [.slice ya xs.length yc] 24] hh) (fun vs _=>match vs with|[_,.int _ i]=>xs.length - i.toNat|_=>0) ?_ ?_
 ·exact⟨0,_,_,[],0,[],by omega,rfl,.inl rfl,rfl,rfl,rfl,fun _=>rfl,by simp,by omega,on⟩
 rintro vs junk hh ⟨i,p',v',bs',k',ls,hi,rfl,hp',hQ,hb',hk',hnil,hbl,hkl,oh⟩;clear on;by_cases hlt:i<xs.length
 ·obtain⟨x,hx⟩:=getx hlt
  obtain⟨cx,hcx,hrx⟩:=q3 i x hx
  have hxOK:=hOK x (List.mem_of_getElem? hx);have hxs:=hsz x (List.mem_of_getElem? hx);have hrx2:=hrx
  obtain⟨cxv,hcl⟩:=cx
  have hlev:=exLev_le x.expr;have hszx:eU x.expr≤eC x:=by unfold eC;omega
  obtain⟨z,vc,vn,vt,vf,vv,vd,e0,e1,e2,e3,e4,e5,e6,e7,e8,hcv,w1,w2,w3,w4,w5,w6,rx⟩:=hrx2
  dsimp only at hcv hrx;subst hcv;have hlevx:cC x.expr≤100000000000:=by omega
  cases hex:x.expr with
  | mk xk xt xks xcs xns xa xs_ xg xo =>
  rw[hex,lM]at rx
  obtain⟨wk,wc,wn,wz,hcv,g1,g2,gx,g3,_⟩:=rx
  obtain⟨h1,h2,rfl⟩:=g1.isS
  obtain⟨h3,h4,rfl⟩:=g2.isS
  obtain⟨h5,h6,rfl⟩:=g3.isS
  unfold qS at hcv
  simp only[List.cons.injEq,and_true]at hcv
  obtain⟨rfl,rfl,rfl,rfl,rfl,rfl,rfl,rfl,rfl⟩:=hcv
  obtain⟨i1,j1,rfl⟩:=w1.isS
  obtain⟨i2,j2,rfl⟩:=w2.isS
  obtain⟨i3,j3,rfl⟩:=w3.isS
  obtain⟨i4,j4,rfl⟩:=w4.isS
  obtain⟨i5,j5,rfl⟩:=w5.isS
  obtain⟨i6,j6,rfl⟩:=w6.isS
  unfold fF at hcx hrx hcl;clear w1 w2 w3 w4 w5 w6 g1 g2 g3;refine Br.dec (fun c100=>?_) (fun hc=>absurd (by omega) hc);refine run (aBJ oC iG (q1.ext oh.ext) rfl (by omega) (by omega) ?_);refine run (aBN iG (q1.ext oh.ext) (fun y:iY=>y.2) (by decide) rfl ‹_› ?_);(refine RunVC.alloc oh iG ?_;intro b103 m103 o103);(refine RunVC.aBA o103 5 rfl iG rfl (by decide) (aI ⟨rfl,rfl⟩ ?_);intro m104 o104);refine run (aBB o104 5 rfl iG rfl rfl rfl ?_);have hsp:=prItem_spec ⟨h,[box b11 [.string ⟨⟨[]⟩⟩] 9,box b12 [.int .i64 0] 27,box b10 [.slice ya xs.length yc] 24]⟩ b41 p' v' k' bs' x _ _ hp' hT hF hxOK hrx (by first|exact hlevx|(rw[hex];exact hlevx)) ((o104.sel [0,1,2,3,4] rfl).lend [0,1] [2,3,4] rfl) (by omega) (by omega);unfold LEnds at hsp;have ht:xs.take (i+1)=xs.take i++[x]:=by rw[List.take_add_one,hx];simp
  refine CallVC.ends hsp (fun _ m2 ⟨ps,p2,v2,hq,hr,hp2,hl2,hl3,o2⟩=>?_) (fun _ m2 ⟨hq,hr,o2⟩=>?_)
  case refine_2 =>
   subst hr;have o3:Own h [box b11 [.string ⟨⟨[]⟩⟩] 9,box b12 [.int .i64 0] 27,box b10 [.slice ya xs.length yc] 24] m2:=Own.back (B:=⟨h,[]⟩) (J:=[box b11 [.string ⟨⟨[]⟩⟩] 9,box b12 [.int .i64 0] 27,box b10 [.slice ya xs.length yc] 24]) (K:=[]) o2;have h1:eO [x]=none:=by simp[eO,hq]
   have h2:eO (xs.take i++[x])=none:=by rw[iX,hQ,h1]
   have h3:eO xs=none:=by
    have:=iX (xs.take i++[x]) (xs.drop (i+1))
    rw[h2,← ht,List.take_append_drop]at this
    exact this
   exact⟨rfl,h3,rfl,rfl,o3.sel [0,1] rfl⟩
  subst hr;have o3:Own h [box b41 [p2,v2,.int .i64 (k'+ps.length)] 58,row v2 5 1 (bs'++fH ps).length (bytes (bs'++fH ps)),box b11 [.string ⟨⟨[]⟩⟩] 9,box b12 [.int .i64 0] 27,box b10 [.slice ya xs.length yc] 24] m2:=Own.back (B:=⟨h,[]⟩) (J:=[box b11 [.string ⟨⟨[]⟩⟩] 9,box b12 [.int .i64 0] 27,box b10 [.slice ya xs.length yc] 24]) (K:=[box b41 [p2,v2,.int .i64 (k'+ps.length)] 58,row v2 5 1 (bs'++fH ps).length (bytes (bs'++fH ps))]) o2;clear o2 hsp o104;have h1:eO [x]=some [ps]:=by simp[eO,hq]
  have h2:eO (xs.take (i+1))=some (ls++[ps]):=by rw[ht,iX,hQ,h1]
  have htx:bs'++fH ps=gL (ls++[ps]):=by rw[hb'];simp[gL]
  have hct:k'+(ps.length:Int)=(mM (ls++[ps]):Nat):=by rw[hk'];simp[mM]
  have hne:bs'++fH ps=[]→v2=.slice none 0 0:=fun h=>by simp[fH]at h
  have hal:(xs.take (i+1)).all iA=((xs.take i).all iA&&iA x):=by rw[ht,List.all_append];simp
  have hlen:(bs'++fH ps).length≤150000000000*(i+1):=by rw[List.length_append];omega
  cases hfx:iA x with
  | true =>
   refine Br.tt ?_;refine Ar.i64 (by omega) (by omega) ?_
   refine⟨rfl,?_⟩
   exact⟨⟨i+1,p2,v2,_,_,ls++[ps],by omega,by rw[hal,hfx,Bool.and_true];rfl,hp2,h2,htx,hct,hne,hlen,by omega,Own.sel ‹_› [0,1,2,3,4] rfl⟩,by simp;omega⟩
  | false =>
   refine Br.ff ?_;refine Ar.i64 (by omega) (by omega) ?_
   refine⟨rfl,?_⟩
   exact⟨⟨i+1,p2,v2,_,_,ls++[ps],by omega,by rw[hal,hfx,Bool.and_false];rfl,hp2,h2,htx,hct,hne,hlen,by omega,Own.sel ‹_› [0,1,2,3,4] rfl⟩,by simp;omega⟩
 ·have hd:xs.take i=xs:=List.take_of_length_le (by omega)
  rw[hd]at hQ ⊢
  have hM:cB xs=if xs.all iA=true∧xs.length≤200∧mM ls≤5000∧(gL ls).length≤20000 then(gL ls,0) else([],3):=by unfold cB;rw[hQ]
  by_cases hf:xs.all iA=true
  case neg =>
   have hpr:cB xs=([],3):=hM.trans (if_neg (fun hh=>hf hh.1));have hfb:(!xs.all iA)=true:=by simpa using hf
   refine Br.dec (fun hc=>absurd hc (by omega)) (fun c400=>?_);refine Br.ttE hfb ?_;refine Br.tt ?_;(refine RunVC.aBA oh 2 rfl aN rfl (by decide) (aI ⟨rfl,rfl⟩ ?_);intro m402 o402);(refine RunVC.aBA o402 3 rfl gW rfl (by decide) (aI ⟨rfl,rfl⟩ ?_);intro m403 o403);refine nJ _ _ _ _ _ ?_;refine RetVC.cell22 rfl aN gW rfl rfl (Own.cellB ‹_› 2 rfl 0) (Own.cellB ‹_› 3 rfl 0) ?_
   exact⟨by rw[hpr],Own.sel ‹_› [] rfl⟩
  have hfb:(!xs.all iA)=false:=by rw[hf];rfl
  by_cases hn2:xs.length≤200
  case neg =>
   have hpr:cB xs=([],3):=hM.trans (if_neg (fun hh=>hn2 hh.2.1));refine Br.dec (fun hc=>absurd hc (by omega)) (fun c450=>?_);refine Br.ffE hfb ?_;refine run (fA lZ rfl rfl rfl ?_);refine run (aBx oh 4 rfl pN rfl rfl ?_);refine run (aBH rfl oC ?_);refine Br.dec (fun c455=>?_) (fun hc=>absurd (by omega) hc);refine Br.tt ?_;(refine RunVC.aBA oh 2 rfl aN rfl (by decide) (aI ⟨rfl,rfl⟩ ?_);intro m456 o456);(refine RunVC.aBA o456 3 rfl gW rfl (by decide) (aI ⟨rfl,rfl⟩ ?_);intro m457 o457);refine nJ _ _ _ _ _ ?_;refine RetVC.cell22 rfl aN gW rfl rfl (Own.cellB ‹_› 2 rfl 0) (Own.cellB ‹_› 3 rfl 0) ?_
   exact⟨by rw[hpr],Own.sel ‹_› [] rfl⟩
  by_cases hc:mM ls≤5000
  case neg =>
   have hpr:cB xs=([],3):=hM.trans (if_neg (fun hh=>hc hh.2.2.1));refine Br.dec (fun hc=>absurd hc (by omega)) (fun c500=>?_);refine Br.ffE hfb ?_;refine run (fA lZ rfl rfl rfl ?_);refine run (aBx oh 4 rfl pN rfl rfl ?_);refine run (aBH rfl oC ?_);refine Br.dec (fun hc=>absurd hc (by omega)) (fun c505=>?_);refine run (nC rfl ?_);refine run (fA bM rfl rfl rfl ?_);refine run (fA xI rfl rfl rfl ?_);refine run (aBx oh 0 rfl aW rfl rfl ?_);refine Br.dec (fun c510=>?_) (fun hc=>absurd (by omega) hc);refine Br.tt ?_;(refine RunVC.aBA oh 2 rfl aN rfl (by decide) (aI ⟨rfl,rfl⟩ ?_);intro m511 o511);(refine RunVC.aBA o511 3 rfl gW rfl (by decide) (aI ⟨rfl,rfl⟩ ?_);intro m512 o512);refine nJ _ _ _ _ _ ?_;refine RetVC.cell22 rfl aN gW rfl rfl (Own.cellB ‹_› 2 rfl 0) (Own.cellB ‹_› 3 rfl 0) ?_
   exact⟨by rw[hpr],Own.sel ‹_› [] rfl⟩
  refine Br.dec (fun hc=>absurd hc (by omega)) (fun c550=>?_);refine Br.ffE hfb ?_;refine run (fA lZ rfl rfl rfl ?_);refine run (aBx oh 4 rfl pN rfl rfl ?_);refine run (aBH rfl oC ?_);refine Br.dec (fun hc=>absurd hc (by omega)) (fun c555=>?_);refine run (nC rfl ?_);refine run (fA bM rfl rfl rfl ?_);refine run (fA xI rfl rfl rfl ?_);refine run (aBx oh 0 rfl aW rfl rfl ?_);refine Br.dec (fun hc=>absurd hc (by omega)) (fun c560=>?_);refine run (nC rfl ?_);refine run (fA bM rfl rfl rfl ?_);refine run (fA xI rfl rfl rfl ?_);refine CallVC.ret (wLen_spec b41 p' v' k' bs' _ ⟨h,[box b11 [.string ⟨⟨[]⟩⟩] 9,box b12 [.int .i64 0] 27,box b10 [.slice ya xs.length yc] 24]⟩ (oh.lend [0,1] [2,3,4] rfl)) ?_;rintro _ m6 ⟨rfl,oc⟩;have o6:=oc.thenE (B:=h) oh;by_cases hlen:(gL ls).length≤20000
  case neg =>
   have hpr:cB xs=([],3):=hM.trans (if_neg (fun hh=>hlen hh.2.2.2))
   rw[← hb']at hlen
   refine Br.dec (fun c600=>?_) (fun hc=>absurd (by omega) hc);(refine RunVC.aBA o6 2 rfl aN rfl (by decide) (aI ⟨rfl,rfl⟩ ?_);intro m601 o601);(refine RunVC.aBA o601 3 rfl gW rfl (by decide) (aI ⟨rfl,rfl⟩ ?_);intro m602 o602);refine nJ _ _ _ _ _ ?_;refine RetVC.cell22 rfl aN gW rfl rfl (Own.cellB ‹_› 2 rfl 0) (Own.cellB ‹_› 3 rfl 0) ?_
   exact⟨by rw[hpr],Own.sel ‹_› [] rfl⟩
  have hpr:cB xs=(gL ls,0):=hM.trans (if_pos ⟨hf,hn2,hc,hlen⟩)
  rw[← hb']at hlen
  refine Br.dec (fun hc=>absurd hc (by omega)) (fun c650=>?_);refine run (nC rfl ?_);refine run (fA bM rfl rfl rfl ?_);refine run (fA xI rfl rfl rfl ?_);refine CallVC.ret (wText2_spec b41 p' v' k' bs' _ ⟨h,[box b11 [.string ⟨⟨[]⟩⟩] 9,box b12 [.int .i64 0] 27,box b10 [.slice ya xs.length yc] 24]⟩ hnil (o6.lend [0,1] [2,3,4] rfl)) ?_;rintro _ m7 ⟨rfl,oc7⟩;have o7:Own h [box b11 [.string ⟨⟨[]⟩⟩] 9,box b12 [.int .i64 0] 27,box b10 [.slice ya xs.length yc] 24] m7:=Own.back (B:=⟨h,[]⟩) (J:=[box b11 [.string ⟨⟨[]⟩⟩] 9,box b12 [.int .i64 0] 27,box b10 [.slice ya xs.length yc] 24]) (K:=[]) oc7;clear oc7 o6;(refine RunVC.aBA o7 0 rfl aN rfl (by decide) (aI ⟨rfl,rfl⟩ ?_);intro m700 o700);(refine RunVC.aBA o700 1 rfl gW rfl (by decide) (aI ⟨rfl,rfl⟩ ?_);intro m701 o701);refine nJ _ _ _ _ _ ?_;refine RetVC.cell22 rfl aN gW rfl rfl (Own.cellB ‹_› 0 rfl 0) (Own.cellB ‹_› 1 rfl 0) ?_
  exact⟨by rw[hpr,hb'],Own.sel ‹_› [] rfl⟩
def zM (pre:List UInt8)(c:UInt8):Bool:=decide (c=9∨c=35∨(c=10∧(pre=[]∨pre[0]?=some 10∨pre[0]?=some 32))∨(c=32∧(pre=[]∨(pre[0]?=some 32∧pre[1]?≠some 10))))
def gE:Nat→List UInt8→List UInt8→Option Nat
 | st,_,[]=>some st
 | st,pre,c::r =>
  if st=2 then gE 1 (c::pre) r
  else if st=1∧c=92 then gE 2 (c::pre) r
  else if (if c=34 then 1 - st else st)=1 then gE 1 (c::pre) r
  else if zM pre c=true then none else gE 0 (c::pre) r
def xU (c:UInt8):Bool:=decide (c≠9∧c≠10∧c≠32∧c≠34∧c≠35)
theorem plain_not {pre:List UInt8}{c:UInt8}(h:xU c=true):zM pre c=false:=by
 obtain⟨h1,h2,h3,h4,h5⟩:=of_decide_eq_true h
 exact decide_eq_false (by rintro(e|e|⟨e,_⟩|⟨e,_⟩)<;>contradiction)
theorem aAE {pre w:List UInt8}:∀ {l:List UInt8}{pre:List UInt8},(∀ c∈l,xU c=true)→gE 0 pre (l++w)=gE 0 (l.reverse++pre) w
 | [],_,_=>rfl
 | c::l,pre,h=>by
  have hc:=h c (by simp);have h34:c≠34:=(of_decide_eq_true hc).2.2.2.1
  rw[lcA,gE,if_neg (by decide),if_neg (by simp),if_neg (by rw[if_neg h34];decide),if_neg (by rw[plain_not hc];decide),aAE (pre:=[]) (fun d hd=>h d (by simp[hd]))]
  simp
theorem gap_in {w:List UInt8}:∀(s pre:List UInt8),gE 1 pre (eB s++w)=gE 1 ((eB s).reverse++pre) w
 | [],_=>rfl
 | c::s,pre=>by
  have e:eB (c::s)=oT c++eB s:=by simp[eB]
  have h1:∀ v,gE 1 pre (oT c++v)=gE 1 ((oT c).reverse++pre) v:=by
   intro v;unfold oT;split
   ·rfl
   ·rename_i h34
    split
    ·rfl
    ·rename_i h92
     split
     ·rfl
     ·show gE 1 pre (c::v)=_
      rw[gE,if_neg (by decide),if_neg (by rintro⟨_,e⟩;exact h92 e),if_pos (by rw[if_neg h34])]
      rfl
  rw[e,List.append_assoc,h1,gap_in s]
  simp
theorem inner_plain:∀ n:Fin 256,bZ (UInt8.ofNat n.val)=true→xU (UInt8.ofNat n.val)=true:=by decide +kernel
theorem innerC {c:UInt8}(h:bZ c=true):xU c=true:=by
 have:=inner_plain ⟨c.toNat,UInt8.toNat_lt c⟩
 simp only[UInt8.ofNat_toNat]at this
 exact this h
theorem sS (p:UInt8→Bool)(l:List UInt8):∀ c∈l.take (bO p l),p c=true:=fun c hc=>rD p l c hc
theorem good_chars {t:Tok}(h:kX t):wr t≠[]∧(t.kind≠3→∀ c∈wr t,xU c=true):=by
 unfold kX at h;have hl:=(aAt h).1
 refine⟨fun e=>by rw[e]at hl;simp at hl,fun hk c hc=>?_⟩
 generalize hw:wr t=l at h hc hl
 have hx:t.text=l:=by
  rw[← hw]
  unfold wr
  rw[if_neg hk]
 cases l with
 | nil=>simp at hl
 | cons d r =>
  cases hlet:dO d with
  | true =>
   rw[jS hlet]at h
   split at h
   ·cases h
   ·injection h with h1 h2 h3 h4
    rw[h4,List.take_length]at h2
    have:=sS bZ (d::r)
    rw[h4,List.take_length]at this
    exact innerC (this c hc)
  | false =>
   cases hdig:bX d with
   | true =>
    rw[kQ hlet hdig]at h
    split at h
    ·cases h
    ·injection h with h1 h2 h3 h4
     have:=sS bX (d::r)
     rw[h4,List.take_length]at this
     exact innerC (wC (this c hc))
   | false =>
    by_cases h34:d.toNat=34
    ·rw[kP hlet hdig h34]at h
     exact absurd (pZ _ _ _ h).1 hk
    ·rw[lH hlet hdig h34]at h
     by_cases hs:rU (d::r)=0
     ·rw[if_pos hs]at h
      cases h
     ·rw[if_neg hs]at h
      injection h with h1 h2 h3 h4
      rw[symN_cons]at h4
      clear hs h1 h2 h3;split at h4
      ·rename_i h5
       have hr:r=[61]:=by
        simp at h4
        obtain⟨e,rfl⟩:=List.length_eq_one_iff.1 (show r.length=1 by omega)
        simp at h5
        rw[h5.1]
       subst hr
       rcases h5.2 with rfl|rfl
       ·simp at hc
        rcases hc with rfl|rfl<;>rfl
       ·simp at hc
        rcases hc with rfl|rfl<;>rfl
      ·split at h4
       ·rename_i h6
        have hr:r=[]:=by
         simp at h4
         exact h4
        subst hr
        simp at hc
        subst hc
        revert h6
        simp only[symB,List.mem_cons,List.not_mem_nil,or_false]
        rintro(rfl|rfl|rfl|rfl|rfl|rfl|rfl|rfl|rfl|rfl|rfl|rfl|rfl|rfl)<;>rfl
       ·simp at h4
def EndC (pre:List UInt8):Prop:=∃ d r,pre=d::r∧d≠10∧d≠32
theorem gap_tok {t:Tok}(h:kX t)(pre w:List UInt8):gE 0 pre (wr t++w)=gE 0 ((wr t).reverse++pre) w∧EndC ((wr t).reverse++pre):=by
 obtain⟨hne,hc⟩:=good_chars h
 by_cases hk:t.kind=3
 ·have e:wr t=[34]++eB t.text++[34]:=if_pos hk
  rw[e]
  constructor
  ·rw[List.append_assoc,List.append_assoc]
   show gE 0 pre (34::(eB t.text++(34::w)))=_
   rw[gE,if_neg (by decide),if_neg (by simp),if_pos (by decide),gap_in]
   rw[gE,if_neg (by decide),if_neg (by simp),if_neg (by decide),if_neg]
   ·simp
   ·have:zM ((eB t.text).reverse++34::pre) 34=false:=by simp[zM]
    rw[this]
    decide
  ·exact⟨34,(eB t.text).reverse++34::pre,by simp,by decide,by decide⟩
 ·refine⟨aAE (pre:=[]) (hc hk),?_⟩
  cases hr:(wr t).reverse with
  | nil=>exact absurd (List.reverse_eq_nil_iff.1 hr) hne
  | cons d r =>
   have hd:d∈wr t:=by
    rw[← List.mem_reverse,hr]
    simp
   obtain⟨_,h10,h32,_⟩:=of_decide_eq_true (hc hk d hd)
   exact⟨d,r++pre,rfl,h10,h32⟩
theorem yP {b pre w:List UInt8}(hb:okB b=true)(h:EndC pre):gE 0 pre (b++w)=gE 0 (b.reverse++pre) w:=by
 obtain⟨d,r,rfl,h10,h32⟩:=h
 have b32:zM (d::r) 32=false:=by simp[zM,h32]
 have b10:zM (d::r) 10=false:=by simp[zM,h32,h10]
 have st:∀(c:UInt8) (q v:List UInt8),c≠34→zM q c=false→gE 0 q (c::v)=gE 0 (c::q) v:=by
  intro c q v h1 h2
  rw[gE,if_neg (by decide),if_neg (by simp),if_neg (by rw[if_neg h1];decide),if_neg (by rw[h2];decide)]
 rcases of_decide_eq_true hb with rfl|rfl|rfl|rfl
 ·rfl
 ·exact st 32 _ _ (by decide) b32
 ·exact st 10 _ _ (by decide) b10
 ·show gE 0 (d::r) (10::32::32::w)=_
  rw[st 10 _ _ (by decide) b10,st 32 _ _ (by decide) (by simp[zM]),st 32 _ _ (by decide) (by simp[zM])]
  rfl
theorem yO {w:List UInt8}:∀ {o:Bool}(ps:List Pc)(pre:List UInt8),Flow o ps→EndC pre→gE 0 pre (bE ps++w)=gE 0 ((bE ps).reverse++pre) w∧EndC ((bE ps).reverse++pre)
 | _,[],pre,_,h=>⟨rfl,h⟩
 | _,p::r,pre,⟨h1,h2,_,h4⟩,h=>by
  have e:bE (p::r)=p.b++(wr p.t++bE r):=by simp[bE,fR]
  obtain⟨g1,g2⟩:=gap_tok h1 (p.b.reverse++pre) (bE r++w)
  obtain⟨i1,i2⟩:=yO (w:=w) r ((wr p.t).reverse++(p.b.reverse++pre)) h4 g2
  rw[e,List.append_assoc,List.append_assoc,yP h2 h,g1,i1]
  simp only[List.reverse_append,List.append_assoc]
  exact⟨trivial,i2⟩
def Line (ps:List Pc):Prop:=∃ p r,ps=p::r∧p.b=[]∧Flow true ps
theorem gap_line {ps:List Pc}(h:Line ps)(pre w:List UInt8):gE 0 pre (fH ps++w)=gE 0 ((fH ps).reverse++pre) w:=by
 obtain⟨p,r,rfl,hb,h1,_,_,h4⟩:=h
 have e:fH (p::r)=wr p.t++(bE r++[10]):=by simp[fH,bE,fR,hb]
 obtain⟨g1,g2⟩:=gap_tok h1 pre (bE r++([10]++w))
 obtain⟨i1,i2⟩:=yO (w:=[10]++w) r ((wr p.t).reverse++pre) h4 g2
 rw[e,List.append_assoc,List.append_assoc,g1,i1,yP (b:=[10]) rfl i2]
 simp
theorem gap_text:∀(ls:List (List Pc))(pre:List UInt8),(∀ l∈ls,Line l)→gE 0 pre (gL ls)=some 0
 | [],_,_=>rfl
 | l::r,pre,h=>by
  have e:gL (l::r)=fH l++gL r:=by simp[gL]
  rw[e,gap_line (h l (by simp)),gap_text r _ fun x hx=>h x (by simp[hx])]
theorem item_line {x:It}{ps:List Pc}(h:iO x=some ps):Line ps:=by
 have hf:=item_flow x ps h;unfold iO at h;split at h
 ·obtain⟨p1,q1,e1,k1,rfl⟩:=aJ h
  cases e1
  exact⟨_,_,rfl,rfl,hf⟩
 ·cases h
theorem gaps_plain {xs:List It}(h:(cB xs).2=0):gE 0 [] (cB xs).1=some 0∧(((cB xs).1=[]↔xs=[])∧((cB xs).1≠[]→∃ l,(cB xs).1=l++[10])):=by
 obtain⟨ls,h1,_,_,_,_,h6⟩:=rF h
 rw[h6]
 obtain⟨k1,k2⟩:=uM h1
 have hl:∀ l∈ls,Line l:=by
  intro l hl
  obtain⟨i,hi⟩:=List.mem_iff_getElem?.1 hl
  have hlt:i<xs.length:=by have:=(List.getElem?_eq_some_iff.1 hi).1;omega
  obtain⟨y,e1,e2⟩:=k2 i _ (List.getElem?_eq_getElem hlt)
  rw[hi]at e1
  cases e1
  exact item_line e2
 refine⟨gap_text ls [] hl,?_,fun hne=>?_⟩
 ·cases xs with
  | nil=>cases h1;simp[gL]
  | cons x xs =>
   cases ls with
   | nil=>simp at k1
   | cons l r=>simp[gL,fH]
 ·clear k1 k2 h1 h6 hl
  rename_i q1 q2 q3 q4
  clear q1 q2 q3 q4
  induction ls with
  | nil=>exact absurd rfl hne
  | cons l r ih =>
   have e:gL (l::r)=fH l++gL r:=by simp[gL]
   by_cases hr:gL r=[]
   ·exact⟨bE l,by rw[e,hr];simp[fH]⟩
   ·obtain⟨m,hm⟩:=ih hr
    exact⟨fH l++m,by rw[e,hm];simp⟩
def GTok (t:Tok):Prop:=(t.kind=1→dH t.text=true)∧(t.kind=2→gZ t.num=true)∧(t.kind=3→t.text.length≤200)
abbrev GT (ts:List Tok):Prop:=∀ t∈ts,GTok t
theorem undec_ten {l:List UInt8}(h:∀ c∈l,bX c=true)(hl:l.length≤10):undec l≤9999999999:=by
 have h1:=undec_lt l h;have h2:10 ^ l.length≤10 ^ 10:=Nat.pow_le_pow_right (by decide) hl;have h3:(10:Nat) ^ 10=10000000000:=by decide
 omega
theorem gt1 {x:List UInt8}(n:Int)(i:Nat)(h:dH x=true):GTok ⟨1,x,n,i⟩:=⟨fun _=>h,fun e=>absurd (show(1:Int)=2 from e) (by decide),fun e=>absurd (show(1:Int)=3 from e) (by decide)⟩
theorem gt2 (x:List UInt8) {n:Int}(i:Nat)(h:gZ n=true):GTok ⟨2,x,n,i⟩:=⟨fun e=>absurd (show(2:Int)=1 from e) (by decide),fun _=>h,fun e=>absurd (show(2:Int)=3 from e) (by decide)⟩
theorem gt3 {x:List UInt8}(n:Int)(i:Nat)(h:x.length≤200):GTok ⟨3,x,n,i⟩:=⟨fun e=>absurd (show(3:Int)=1 from e) (by decide),fun e=>absurd (show(3:Int)=2 from e) (by decide),fun _=>h⟩
theorem gt4 (x:List UInt8)(n:Int)(i:Nat):GTok ⟨4,x,n,i⟩:=⟨fun e=>absurd (show(4:Int)=1 from e) (by decide),fun e=>absurd (show(4:Int)=2 from e) (by decide),fun e=>absurd (show(4:Int)=3 from e) (by decide)⟩
theorem readR_gtok {l:List UInt8}{k n:Int}{x:List UInt8}{len:Nat}(h:fU l=.tok k x n len)(i:Nat):GTok ⟨k,x,n,i⟩:=by
 cases l with
 | nil=>cases h
 | cons c r =>
  cases hlet:dO c with
  | true =>
   rw[jS hlet]at h
   split at h
   ·cases h
   ·rename_i h24
    injection h with h1 h2 h3 h4
    subst h1 h2 h3 h4;refine gt1 _ _ ?_;have hp:1≤bO bZ (c::r):=by
     unfold bO
     rw[List.takeWhile_cons,show bZ c=true by simp[bZ,hlet]]
     simp
    obtain⟨n,hn⟩:∃ n,bO bZ (c::r)=n+1:=⟨bO bZ (c::r) - 1,by omega⟩
    have hm:=sS bZ (c::r);have hle:=mD bZ (c::r)
    rw[hn]at hm h24 hle ⊢
    rw[List.take_succ_cons]at hm ⊢
    simp only[dH,Bool.and_eq_true,List.all_eq_true,decide_eq_true_eq]
    refine⟨⟨?_,hlet⟩,fun d hd=>hm d (by simp[hd])⟩
    simp only[List.length_cons,List.length_take]at hle ⊢
    omega
  | false =>
   cases hdig:bX c with
   | true =>
    rw[kQ hlet hdig]at h
    split at h
    ·cases h
    ·rename_i h10
     injection h with h1 h2 h3 h4
     subst h1 h2 h3 h4;refine gt2 _ _ ?_;have hm:=sS bX (c::r)
     have:=undec_ten hm (by rw[List.length_take];omega)
     exact decide_eq_true (by omega)
   | false =>
    by_cases h34:c.toNat=34
    ·rw[kP hlet hdig h34]at h
     obtain⟨rfl,rfl⟩:=pZ _ _ _ h
     exact gt3 _ _ (oF _ _ _ h rfl).2
    ·rw[lH hlet hdig h34]at h
     split at h
     ·cases h
     ·cases h
      exact gt4 _ _ _
theorem lexGo_gt:∀(f:Nat)(l:List UInt8)(i k:Nat) {ts:List Tok},iW f l i k=.ok ts→GT ts
 | 0,l,i,k,ts,h=>by cases h;exact fun _ h=>by cases h
 | f+1,l,i,k,ts,h=>by
  cases l with
  | nil=>cases h;exact fun _ h=>by cases h
  | cons c r =>
   rw[iW]at h
   cases hR:fU (c::r) with
   | none=>rw[hR]at h;cases h
   | err e=>rw[hR]at h;cases h
   | tok kd x n len =>
    rw[hR]at h
    simp only at h;split at h
    ·cases h
    ·cases hg:iW f ((c::r).drop (len+eV false ((c::r).drop len))) (i+(len+eV false ((c::r).drop len))) (k+1) with
     | error e=>rw[hg]at h;cases h
     | ok us =>
      rw[hg]at h
      cases h
      intro t ht
      rcases List.mem_cons.1 ht with rfl|ht
      ·exact readR_gtok hR _
      ·exact lexGo_gt f _ _ _ hg t ht
def Yl {α:Type}(P:α→Prop)(m:PM α):Prop:=∀ ts a r,GT ts→m ts=.ok (a,r)→P a∧GT r
section
variable {α β : Type} {P : α → Prop} {R : β → Prop} {m n : PM α} {f : α → PM β}
theorem bI {a:α}(h:P a):Yl P (pure a:PM α):=fun _ _ _ hg e=>by cases e;exact⟨h,hg⟩
theorem aL (hm:Yl P m)(hf:∀ a,P a→Yl R (f a)):Yl R (m >>= f):=fun ts b r hg h=>by
 cases hq:m ts with
 | error e=>rw[PM.aBy hq]at h;cases h
 | ok p =>
  obtain⟨a,q⟩:=p
  rw[PM.aBz hq]at h
  obtain⟨h1,h2⟩:=hm _ _ _ hg hq
  exact hf a h1 _ _ _ h2 h
theorem gV {c:Prop} [Decidable c] (hm:c→Yl P m)(hn:¬ c→Yl P n):Yl P (if c then m else n):=by
 split
 ·exact hm ‹_›
 ·exact hn ‹_›
theorem wP (z:Nat)(e:Int):Yl P (yT z e:PM α):=fun _ _ _ _ h=>by cases h
theorem aAV {c:Bool}{d:α}(hm:c=true→Yl P m)(hd:c=false→P d):Yl P (ifP c m d):=by
 cases c with
 | true=>exact hm rfl
 | false=>exact bI (hd rfl)
end
theorem fZ (s:List UInt8):Yl (fun _=>True) (dK s):=fun ts a r hg h=>by
 unfold dK at h;split at h<;>cases h
 ·exact⟨trivial,fun t ht=>hg t (List.mem_of_mem_tail ht)⟩
 ·exact⟨trivial,hg⟩
theorem cL (z:Nat):∀(l:List (List UInt8)),Yl (fun _=>True) (bP z l)
 | []=>bI trivial
 | s::l=>aL (P:=fun _=>True) (show Yl (fun _=>True) (need1 z s) from aL (fZ s) fun b _=>gV (fun _=>bI trivial) fun _=>wP z 4) fun _ _=>cL z l
theorem yl_kind (z:Nat)(k:Int):Yl (fun t=>t.kind=k∧GTok t) (jK z k):=fun ts a r hg h=>by
 cases ts with
 | nil=>cases h
 | cons t q =>
  unfold jK at h;simp only at h;split at h
  ·cases h
   exact⟨⟨by assumption,hg _ (by simp)⟩,fun t ht=>hg t (by simp[ht])⟩
  ·cases h
theorem eQ (z:Nat):Yl (fun s=>dH s=true) (dG z):=aL (yl_kind z 1) fun t h=>bI (h.2.1 h.1)
theorem jQ (z:Nat):Yl (fun n=>gZ n=true) (mR z):=aL (yl_kind z 2) fun t h=>bI (h.2.2.1 h.1)
theorem mU (z:Nat):∀(ws:List (List UInt8))(i:Int),Yl (fun n=>i≤n∧n<i+ws.length) (fG z ws i)
 | [],_=>wP z 4
 | s::ws,i=>aL (fZ s) fun b _=>gV (fun _=>bI ⟨by omega,by simp;omega⟩) fun _ ts a r hg h=>by
  obtain⟨h1,h2⟩:=mU z ws (i+1) ts a r hg h
  exact⟨⟨by omega,by simp;omega⟩,h2⟩
theorem yl_listA {α:Type}{P:α→Prop}{sep:List UInt8}{one:PM α}(h:Yl P one):∀(f:Nat)(acc:List α),(acc≠[]∧∀ x∈acc,P x)→Yl (fun l=>l≠[]∧∀ x∈l,P x) (listA sep one f acc)
 | 0,_,ha=>bI ha
 | f+1,acc,ha=>aL (fZ sep) fun b _=>gV (fun _=>aL h fun a pa=>yl_listA h f (acc++[a]) ⟨by simp,fun x hx=>by
   rcases List.mem_append.1 hx with hx|hx
   ·exact ha.2 x hx
   ·simp at hx;subst hx;exact pa⟩) fun _=>bI ha
theorem sN {α:Type}{P:α→Prop}{sep:List UInt8}{one:PM α}(h:Yl P one):Yl (fun l=>l≠[]∧∀ x∈l,P x) (jU sep one) :=
 aL h fun a pa ts b r hg e=>yl_listA h _ [a] ⟨by simp,by simpa using pa⟩ ts b r hg e
abbrev aBv (l:List (List UInt8)):Prop:=∀ s∈l,dH s=true
theorem sM (z:Nat):Yl (fun l=>l≠[]∧aBv l) (nE z):=sN (eQ z)
theorem aAy {z:Nat}{ts:List Tok}{s:List UInt8}{r:List Tok}(h:dG z ts=.ok (s,r)):∃ t,ts=t::r∧t.kind=1∧t.text=s:=by
 cases ts with
 | nil=>cases h
 | cons t q =>
  have h:(jK z 1 >>= fun t=>(pure t.text:PM (List UInt8))) (t::q)=.ok (s,r):=h;by_cases hk:t.kind=1
  ·have e:jK z 1 (t::q)=.ok (t,q):=if_pos hk
   rw[PM.aBz e]at h
   cases h
   exact⟨t,rfl,hk,rfl⟩
  ·have e:jK z 1 (t::q)=.error (4,t.off):=if_neg hk
   rw[PM.aBy e]at h
   cases h
theorem yC {α:Type}{sep:List UInt8}{one:PM α}:∀(f:Nat)(a:α)(acc:List α)(ts:List Tok)(l:List α)(r:List Tok),listA sep one f (a::acc) ts=.ok (l,r)→∃ l',l=a::l'
 | 0,a,acc,ts,l,r,h=>by cases h;exact⟨_,rfl⟩
 | f+1,a,acc,ts,l,r,h=>by
  unfold listA at h;cases hb:dK sep ts with
  | error e=>rw[PM.aBy hb]at h;cases h
  | ok p =>
   obtain⟨b,q⟩:=p
   rw[PM.aBz hb]at h
   split at h
   ·cases ho:one q with
    | error e=>rw[PM.aBy ho]at h;cases h
    | ok p =>
     obtain⟨c,q'⟩:=p
     rw[PM.aBz ho]at h
     exact yC f a (acc++[c]) q' l r h
   ·cases h;exact⟨_,rfl⟩
theorem aAc (z:Nat)(s:List UInt8):Yl (fun l=>aBv l∧∀ x l',l=x::l'→x≠s) (namesU z s):=fun ts a r hg h=>by
 cases hb:bK [s] ts with
 | true=>rw[kF hb]at h;cases h;exact⟨⟨(fun _ h=>by cases h),(fun _ _ h=>by cases h)⟩,hg⟩
 | false =>
  rw[jJ hb]at h
  obtain⟨h1,h2⟩:=sM z ts a r hg h
  refine⟨⟨h1.2,fun x l' e=>?_⟩,h2⟩
  have h:(dG z >>= fun a=>fun ts=>listA [44] (dG z) (ts.length+1) [a] ts) ts=.ok (a,r):=h;cases hn:dG z ts with
  | error e=>exact absurd ((PM.aBy (f:=fun a ts=>listA [44] (dG z) (ts.length+1) [a] ts) hn).symm.trans h) (by simp)
  | ok p =>
   obtain⟨y,q⟩:=p
   have h:=(PM.aBz (f:=fun a ts=>listA [44] (dG z) (ts.length+1) [a] ts) hn).symm.trans h
   obtain⟨l2,e2⟩:=yC _ _ _ _ _ _ h
   rw[e]at e2
   cases e2
   obtain⟨t,rfl,hk,rfl⟩:=aAy hn
   intro hs
   rw[aAr]at hb
   exact absurd hb (by rw[show vC t s=true from decide_eq_true ⟨hs,.inl hk⟩];decide)
abbrev Pr (o:Option (List Pc)):Prop:=o.isSome=true
theorem rW:∀ {l:List (Option (List Pc))},(∀ x∈l,Pr x)→Pr (aF l)
 | [],_=>rfl
 | none::_,h=>by cases h none (by simp)
 | some x::r,h=>by
  have:=rW (l:=r) fun y hy=>h y (by simp[hy])
  show((aF r).map (x++·)).isSome=true
  rw[Option.isSome_map]
  exact this
theorem uF {o:Option (List Pc)}{g:List Pc→List Pc}(h:Pr o):Pr (o.map g):=by
 show(o.map g).isSome=true
 rw[Option.isSome_map]
 exact h
theorem dJ {b s:List UInt8}(h:dH s=true):Pr (bG b s):=by unfold bG;rw[if_pos h];rfl
theorem nB {b:List UInt8}{n:Int}(h:gZ n=true):Pr (iJ b n):=by unfold iJ;rw[if_pos h];rfl
theorem sZ {n:Int}{ws:List (List UInt8)}(h:1≤n∧n≤ws.length):Pr (fX n ws):=by unfold fX;rw[if_pos h];rfl
theorem pr_op {n:Int}(h:1≤n∧n≤4):Pr (opQ n):=by unfold opQ;rw[if_pos h];rfl
theorem aBa {α:Type}{one:List UInt8→α→Option (List Pc)}{b:List UInt8}:∀ {l:List α},(∀ x∈l,∀ b,Pr (one b x))→Pr (iV one b l)
 | [],_=>rfl
 | x::r,h=>by
  refine rW fun y hy=>?_
  rcases List.mem_cons.1 hy with rfl|hy
  ·exact h x (by simp) _
  ·obtain⟨w,hw,rfl⟩:=List.mem_map.1 hy
   exact uF (h w (by simp[hw]) _)
theorem lP {α:Type}{one:List UInt8→α→Option (List Pc)}{b:List UInt8}{l:List α}(hn:l≠[])(h:∀ x∈l,∀ b,Pr (one b x)):Pr (dW one b l):=by
 cases l with
 | nil=>exact absurd rfl hn
 | cons x r=>exact aBa h
theorem pr_const1 {s:List UInt8}(h:s.length≤200):Pr (bR ⟨1,0,s⟩):=by
 unfold bR
 rw[if_neg (by simp),if_pos (by simp),if_pos ⟨rfl,h⟩]
 rfl
theorem aAv {n:Int}(h:-9999999999≤n∧n≤9999999999):Pr (bR ⟨2,n,[]⟩):=by
 unfold bR
 rw[if_neg (by simp),if_neg (by simp),if_pos (by simp),if_pos ⟨rfl,h⟩]
 rfl
theorem pr_const3 {n:Int}(h:gZ n=true):Pr (bR ⟨3,n,[]⟩):=by
 unfold bR
 rw[if_neg (by simp),if_neg (by simp),if_neg (by simp),if_pos (by simp),if_pos ⟨rfl,h⟩]
 rfl
theorem eX:Pr (aF []):=rfl
theorem aQ {x:Option (List Pc)}{r:List (Option (List Pc))}(hx:Pr x)(hr:Pr (aF r)):Pr (aF (x::r)):=by
 cases x with
 | none=>cases hx
 | some p =>
  show((aF r).map (p++·)).isSome=true
  rw[Option.isSome_map]
  exact hr
abbrev PrV (o:Option Vl):Prop:=∀ v,o=some v→Pr (bR v)
theorem mE {v:Vl}(h:Pr (bR v)):PrV (some v):=fun _ e=>by cases e;exact h
theorem prv_none:PrV none:=fun _ e=>by cases e
theorem uH {n:Int}(h:gZ n=true):0≤n∧n≤9999999999:=of_decide_eq_true h
theorem yl_litE (z:Nat):Yl PrV (litE z) :=
 aL (fZ _) fun b _=>gV (fun _=>aL (jQ z) fun n hn=>bI (mE (aAv (by have:=uH hn;omega)))) fun _ =>
 aL (fZ _) fun b _=>gV (fun _=>aL (jQ z) fun n hn=>bI (mE (pr_const3 hn))) fun _ =>
 aL (fZ _) fun b _=>gV (fun _=>bI (mE rfl)) fun _ =>
 aL (fZ _) fun b _=>gV (fun _=>bI (mE rfl)) fun _ =>
 aL (fZ _) fun b _=>gV (fun _=>bI (mE rfl)) fun _=>bI prv_none
theorem wW (z:Nat):Yl PrV (fC z):=fun ts a r hg h=>by
 cases ts with
 | nil=>cases h;exact⟨prv_none,hg⟩
 | cons t q =>
  have hq:GT q:=fun t ht=>hg t (by simp[ht]);unfold fC at h;simp only at h;split at h
  ·cases h
   exact⟨mE (pr_const1 ((hg t (by simp)).2.2 ‹_›)),hq⟩
  ·split at h
   ·cases h
    have:=uH ((hg t (by simp)).2.1 ‹_›)
    exact⟨mE (aAv (by omega)),hq⟩
   ·exact yl_litE z _ _ _ hg h
theorem litE_no {z:Nat}{ts r:List Tok}(h:litE z ts=.ok (none,r)):r=ts∧∀ s,reserved s=true→bK [s] ts=false:=by
 have key:∀ {s:List UInt8} {f:Bool→PM (Option Vl)} {v:Option Vl→Prop},(dK s >>= f) ts=.ok (none,r)→(bK [s] ts=true→∀ q,f true q≠.ok (none,r))→bK [s] ts=false∧f false ts=.ok (none,r):=by
  intro s f _ hh hn;cases hb:bK [s] ts with
  | true =>
   rw[PM.aBz (aAi hb)]at hh
   exact absurd hh (hn hb _)
  | false =>
   rw[PM.aBz (takeB_no hb)]at hh
   exact⟨rfl,hh⟩
 have hnum:∀(g:Int→Vl) (q:List Tok),(mR z >>= fun n=>(pure (some (g n)):PM (Option Vl))) q≠.ok (none,r):=by
  intro g q e;cases hq:mR z q with
  | error e'=>rw[PM.aBy hq]at e;cases e
  | ok p=>obtain⟨n,q'⟩:=p;rw[PM.aBz hq]at e;cases e
 obtain⟨_,h⟩:=key (v:=fun _=>True) h (fun _ q=>hnum (fun n=>⟨2,-n,[]⟩) q)
 obtain⟨_,h⟩:=key (v:=fun _=>True) h (fun _ q=>hnum (fun n=>⟨3,n,[]⟩) q)
 obtain⟨h1,h⟩:=key (v:=fun _=>True) h (fun _ q e=>by cases e)
 obtain⟨h2,h⟩:=key (v:=fun _=>True) h (fun _ q e=>by cases e)
 obtain⟨h3,h⟩:=key (v:=fun _=>True) h (fun _ q e=>by cases e)
 cases h
 refine⟨rfl,fun s hs=>?_⟩
 rcases of_decide_eq_true hs with rfl|rfl|rfl
 ·exact h1
 ·exact h2
 ·exact h3
theorem aBf {z:Nat}{ts r:List Tok}(h:fC z ts=.ok (none,r)):r=ts∧∀ s,reserved s=true→bK [s] ts=false:=by
 cases ts with
 | nil=>cases h;exact⟨rfl,fun _ _=>rfl⟩
 | cons t q =>
  unfold fC at h;simp only at h;split at h
  ·cases h
  ·split at h
   ·cases h
   ·exact litE_no h
theorem yl_value (z:Nat):Yl (fun v=>Pr (bR v)) (rT z):=aL (wW z) fun o ho=>by
 cases o with
 | none=>exact wP z 4
 | some v=>exact bI (ho v rfl)
theorem kR {t a:List UInt8}(h:dH t=true)(k:dH a=true):Pr (eG t a):=aQ (dJ h) (aQ rfl (aQ (dJ k) eX))
theorem yl_side (z:Nat):Yl (fun x=>Pr (fP x)) (xL z):=fun ts a r hg h=>by
 cases hl:fC z ts with
 | error e=>exact absurd ((PM.aBy hl).symm.trans h) (by simp)
 | ok p =>
  obtain⟨o,q⟩:=p
  obtain⟨h1,h2⟩:=wW z _ _ _ hg hl
  have h5:=(PM.aBz hl).symm.trans h;clear h;cases o with
  | some v =>
   cases h5
   refine⟨?_,h2⟩
   show Pr (fP ⟨[],[],true,v⟩)
   unfold fP
   rw[if_pos rfl,if_pos ⟨rfl,rfl⟩]
   exact h1 v rfl
  | none =>
   obtain⟨rfl,hres⟩:=aBf hl
   cases hn:dG z q with
   | error e=>exact absurd ((PM.aBy hn).symm.trans h5) (by simp)
   | ok p =>
    obtain⟨first,q2⟩:=p
    have h6:=(PM.aBz hn).symm.trans h5;clear h5
    obtain⟨t,rfl,hk,rfl⟩:=aAy hn
    obtain⟨hok,hg2⟩:=eQ z _ _ _ hg hn
    have hr:reserved t.text=false:=by
     cases hb:reserved t.text with
     | false=>rfl
     | true =>
      have:=hres _ hb
      rw[aAr,show vC t t.text=true from decide_eq_true ⟨rfl,.inl hk⟩]at this
      cases this
    have:Yl (fun x=>Pr (fP x)) (dK [46] >>= fun b=>if b=true then(dG z >>= fun a=>pure ⟨t.text,a,false,vl0⟩) else pure ⟨[],t.text,false,vl0⟩) :=
     aL (fZ _) fun b _=>gV (fun _=>aL (eQ z) fun a ha=>bI (by
      unfold fP
      rw[if_neg (by simp),if_neg (by simp[vl0]),if_neg (by obtain⟨c,r,e,_⟩:=name_first hok;simp[e]),if_neg (by simp[hr])]
      exact kR hok ha)) fun _=>bI (by
      unfold fP
      rw[if_neg (by simp),if_neg (by simp[vl0]),if_pos rfl,if_neg (by simp[hr])]
      exact dJ hok)
    exact this _ _ _ hg2 h6
theorem pr_add {n:Int}(h:-9999999999≤n∧n≤9999999999):Pr (sK n):=by
 unfold sK
 rw[if_neg (by simp;omega)]
 split
 ·rfl
 split<;>rfl
theorem aBb {l r:Opd}{op n:Int}(h1:Pr (fP l))(h2:1≤op∧op≤4)(h3:Pr (fP r))(h4:-9999999999≤n∧n≤9999999999):Pr (pH ⟨l,op,r,n⟩) :=
 aQ h1 (aQ (pr_op h2) (aQ h3 (aQ (pr_add h4) eX)))
theorem yl_cond (z:Nat):Yl (fun x=>Pr (pH x)) (zD z) :=
 aL (yl_side z) fun l hl=>aL (mU z _ _) fun op ho=>aL (yl_side z) fun r hr =>
  aL (fZ _) fun _ _=>gV (fun _=>aL (jQ z) fun n hn=>bI (aBb hl (by simp at ho;omega) hr (by have:=uH hn;omega))) fun _ =>
  aL (fZ _) fun _ _=>gV (fun _=>aL (jQ z) fun n hn=>bI (aBb hl (by simp at ho;omega) hr (by have:=uH hn;omega))) fun _=>bI (aBb hl (by simp at ho;omega) hr (by omega))
theorem pr_conds {l:List Cnd}(hn:l≠[])(h:∀ x∈l,Pr (pH x)):Pr (mN l):=by
 cases l with
 | nil=>exact absurd rfl hn
 | cons x r =>
  refine rW fun y hy=>?_
  rcases List.mem_cons.1 hy with rfl|hy
  ·rfl
  rcases List.mem_cons.1 hy with rfl|hy
  ·exact h x (by simp)
  ·obtain⟨w,hw,rfl⟩:=List.mem_map.1 hy
   exact uF (h w (by simp[hw]))
theorem yl_conds (z:Nat):Yl (fun l=>Pr (mN l)) (oU z):=aL (cL z _) fun _ _=>fun ts a r hg h=>by
 obtain⟨h1,h2⟩:=sN (yl_cond z) ts a r hg h
 exact⟨pr_conds h1.1 h1.2,h2⟩
abbrev PrE (n:Nat)(x:Ex):Prop:=(∀ b,Pr (gJ b x))∧cC x≤n
abbrev PrEs (n:Nat)(l:List Ex):Prop:=(∀ b,Pr (kU b l))∧cI l≤n
theorem prEs {n:Nat}:∀ {l:List Ex},(∀ x∈l,PrE n x)→PrEs n l
 | [],_=>⟨fun _=>rfl,Nat.zero_le _⟩
 | x::r,h=>by
  obtain⟨h1,h2⟩:=prEs (l:=r) fun y hy=>h y (by simp[hy])
  obtain⟨h3,h4⟩:=h x (by simp)
  refine⟨fun b=>?_,by rw[cI];omega⟩
  obtain⟨p,hp⟩:=Option.isSome_iff_exists.1 (h3 b)
  obtain⟨q,hq⟩:=Option.isSome_iff_exists.1 (h1 [32])
  rw[kU,hp,hq]
  rfl
theorem rX {n:Nat}{k:Int}{ks:List Ex}{cs:List Cnd}{ns:List (List UInt8)}{a as_:List UInt8}{g:Int}{o:Nat}(hk:2≤k∧k≤8)(hl:ks.length=gD k)(hb:eP k [] cs ns a as_ g=true)(hks:PrEs n ks)(hr:Pr (dR k cs ns a as_ g)):PrE (n+1) (.mk k [] ks cs ns a as_ g o):=by
 refine⟨fun b=>?_,by rw[cC];omega⟩
 rw[gJ,if_pos ⟨by omega,hk.2,hl,hb⟩,if_neg (by omega)]
 refine rW fun y hy=>?_
 simp only[List.mem_cons,List.not_mem_nil,or_false]at hy
 rcases hy with rfl|rfl|rfl|rfl
 ·rfl
 ·exact hks.1 []
 ·exact hr
 ·rfl
theorem yl_rest (z i off:Nat) {n:Nat}{kids:List Ex}(hi:i<7)(hl:kids.length=gD (2+i))(hk:PrEs n kids):Yl (PrE (n+1)) (eS z i off kids):=by
 rcases(show i=0∨i=1∨i=2∨i=3∨i=4∨i=5∨i=6 by omega) with rfl|rfl|rfl|rfl|rfl|rfl|rfl
 ·exact aL (yl_conds z) fun c hc=>bI (rX (by omega) hl (by simp[eP]) hk hc)
 ·exact aL (cL z _) fun _ _=>aL (aAc z _) fun l h=>bI (rX (by omega) hl (by simp[eP]) hk (by
   show Pr (aF _)
   exact aQ rfl (aQ (aBa fun x hx b=>dJ (h.1 x hx)) eX)))
 ·exact bI (rX (by omega) hl (by simp[eP]) hk rfl)
 ·exact bI (rX (by omega) hl (by simp[eP]) hk rfl)
 ·exact bI (rX (by omega) hl (by simp[eP]) hk rfl)
 ·exact aL (cL z _) fun _ _=>aL (eQ z) fun a ha=>aL (cL z _) fun _ _=>aL (eQ z) fun b hb=>bI (rX (by omega) hl (by simp[eP]) hk (by
   show Pr (aF _)
   exact aQ rfl (aQ (dJ ha) (aQ rfl (aQ (dJ hb) eX)))))
 ·exact aL (cL z _) fun _ _=>aL (aAc z _) fun l h=>aL (cL z _) fun _ _=>aL (mU z _ _) fun g hg =>
   aL (P:=fun a=>(g=1→a=[])∧(g≠1→dH a=true)) (aAV (fun hc=>fun ts a r q e=>by
    obtain⟨h1,h2⟩:=eQ z ts a r q e
    exact⟨⟨fun e=>by simp[e]at hc,fun _=>h1⟩,h2⟩) (fun hc=>⟨fun _=>rfl,fun e=>by simp at hc;exact absurd hc e⟩)) fun a ha=>aL (cL z _) fun _ _=>aL (eQ z) fun b hb=>bI (rX (by omega) hl (by simp[eP]) hk (by
   have hw:withQ l=true:=by
    cases l with
    | nil=>rfl
    | cons x r=>exact decide_eq_true (h.2 x r rfl)
   have hg2:1≤g∧g≤4:=by simp at hg;omega
   show Pr (if withQ l=true then aF _ else none)
   rw[if_pos hw]
   refine rW fun y hy=>?_
   simp only[List.mem_cons,List.not_mem_nil,or_false]at hy
   rcases hy with rfl|rfl|rfl|rfl|rfl|rfl|rfl
   ·rfl
   ·exact aBa fun x hx b=>dJ (h.1 x hx)
   ·rfl
   ·exact sZ hg2
   ·by_cases h1:g=1
    ·rw[if_pos h1,if_pos (ha.1 h1)];rfl
    ·rw[if_neg h1];exact dJ (ha.2 h1)
   ·rfl
   ·exact dJ hb))
theorem opIdx_lt {ts:List Tok}{i:Nat}(h:pC ts=some i):i<7:=by
 have:=List.mem_of_find?_eq_some h
 simpa using this
theorem aAW (z:Nat):∀(n:Nat),Yl (PrE n) (cJ z n)
 | 0=>wP z 3
 | n+1=>fun ts a r hg h=>by
  rw[cJ]at h
  dsimp only at h;cases hi:pC ts with
  | none =>
   rw[hi]at h
   have:Yl (PrE (n+1)) (dG z >>= fun t=>(pure (lL (bD ts) t):PM Ex)):=aL (eQ z) fun t ht=>bI ⟨fun b=>by
    unfold lL
    rw[gJ,if_pos (by simp[eP,gD]),if_pos rfl]
    exact dJ ht,by unfold lL;rw[cC,cI];omega⟩
   exact this _ _ _ hg h
  | some i =>
   rw[hi]at h
   have hlt:=opIdx_lt hi
   have:Yl (PrE (n+1)) (bP z [dB.getD i [],[40]] >>= fun _=>cJ z n >>= fun a=>ifP (wJ i) (bP z [[44]] >>= fun _=>cJ z n >>= fun b=>(pure [a,b]:PM (List Ex))) [a] >>= fun kids=>eS z i (bD ts) kids >>= fun x=>bP z [[41]] >>= fun _=>(pure x:PM Ex)) :=
    aL (cL z _) fun _ _=>aL (aAW z n) fun a ha=>aL (P:=fun ks=>ks.length=gD (2+i)∧PrEs n ks) (aAV (fun hc=>aL (cL z _) fun _ _=>aL (aAW z n) fun b hb=>bI ⟨by
      simp[wJ]at hc
      rcases hc with (rfl|rfl)|rfl<;>rfl,prEs (by simpa using ⟨ha,hb⟩)⟩) (fun hc=>⟨by
      simp[wJ]at hc
      rcases(show i=0∨i=1∨i=5∨i=6 by omega) with rfl|rfl|rfl|rfl<;>rfl,prEs (by simpa using ha)⟩)) fun ks hks =>
     aL (yl_rest z i _ hlt hks.1 hks.2) fun x hx=>aL (cL z _) fun _ _=>bI hx
   exact this _ _ _ hg h
theorem pr_app:∀ {a b:List (Option (List Pc))},Pr (aF a)→Pr (aF b)→Pr (aF (a++b))
 | [],_,_,hb=>hb
 | none::_,_,ha,_=>by cases ha
 | some p::a,b,ha,hb=>by
  have ha:((aF a).map (p++·)).isSome=true:=ha
  rw[Option.isSome_map]at ha
  exact aQ rfl (pr_app ha hb)
theorem yl_column (z:Nat):Yl (fun c=>∀ b,Pr (mO b c)) (oV z) :=
 aL (eQ z) fun a ha=>aL (mU z _ _) fun k hk=>aL (fZ _) fun _ _ =>
  gV (fun _=>aL (yl_value z) fun v hv=>bI fun b=>aQ (dJ ha) (aQ (sZ (by simp at hk;simp;omega)) (aQ (by
   dsimp only;split
   ·rfl
   ·exact uF hv) eX))) fun _=>bI fun b=>aQ (dJ ha) (aQ (sZ (by simp at hk;simp;omega)) (aQ rfl eX))
theorem yl_term (z:Nat):Yl (fun t=>Pr (bC t)) (pP z) :=
 aL (eQ z) fun a ha=>aL (mU z _ _) fun m hm =>
 aL (P:=fun tol=>(m=5→gZ tol=true)∧(m≠5→tol=0)) (aAV (fun hc=>fun ts a r q e=>by
    obtain⟨h1,h2⟩:=jQ z ts a r q e
    exact⟨⟨fun _=>h1,fun e=>by simp at hc;exact absurd hc e⟩,h2⟩) (fun hc=>⟨fun e=>by simp[e]at hc,fun _=>rfl⟩)) fun tol ht =>
 aL (cL z _) fun _ _=>aL (jQ z) fun num hn =>
 aL (P:=fun d=>gZ d=true) (aL (fZ _) fun _ _=>gV (fun _=>jQ z) fun _=>bI rfl) fun den hd =>
 aL (cL z _) fun _ _=>aL (jQ z) fun g hg =>
 aL (P:=fun d=>gZ d=true) (aL (fZ _) fun _ _=>gV (fun _=>jQ z) fun _=>bI rfl) fun tk hk =>
 aL (cL z _) fun _ _=>bI (by
  refine aQ (dJ ha) (aQ (sZ (by simp at hm;simp;omega)) (aQ ?_ (aQ rfl (aQ (nB hn) (aQ ?_ (aQ rfl (aQ (nB hg) (aQ ?_ (aQ rfl eX)))))))))
  ·dsimp only
   by_cases h5:m=5
   ·rw[if_pos h5];exact nB (ht.1 h5)
   ·rw[if_neg h5,if_pos (ht.2 h5)];rfl
  ·dsimp only
   split
   ·rfl
   ·exact uF (nB hd)
  ·dsimp only
   split
   ·rfl
   ·exact uF (nB hk))
theorem sL (z:Nat):Yl (fun p=>dH p.1=true∧dH p.2=true) (oH z) :=
 aL (eQ z) fun t ht=>aL (cL z _) fun _ _=>aL (eQ z) fun a ha=>bI ⟨ht,ha⟩
theorem yl_fixed (z:Nat):Yl (fun f=>Pr (uV f)) (sD z) :=
 aL (eQ z) fun n hn=>aL (cL z _) fun _ _=>aL (yl_value z) fun v hv=>bI (aQ (dJ hn) (aQ rfl (aQ hv eX)))
theorem yl_var (z:Nat):Yl (fun v=>Pr (sQ v)) (varP z) :=
 aL (eQ z) fun t ht=>aL (eQ z) fun n hn=>bI (aQ (dJ ht) (aQ (dJ hn) eX))
theorem pr_fixed:∀ {l:List Nmd},(∀ f∈l,Pr (uV f))→Pr (uU l)
 | [],_=>rfl
 | x::r,h=>by
  refine aQ rfl (aQ (h x (by simp)) (rW fun y hy=>?_))
  obtain⟨w,hw,rfl⟩:=List.mem_map.1 hy
  exact uF (h w (by simp[hw]))
theorem aAb (z:Nat):∀(f:Nat)(acc:List Trm),(∀ t∈acc,Pr (bC t))→Yl (fun l=>∀ t∈l,Pr (bC t)) (termsA z f acc)
 | 0,_,ha=>bI ha
 | f+1,acc,ha=>fun ts a r hg h=>by
  cases hb:bK [[125]] ts with
  | true=>rw[lX hb]at h;cases h;exact⟨ha,hg⟩
  | false =>
   rw[nN hb]at h
   have:Yl (fun l=>∀ t∈l,Pr (bC t)) (pP z >>= fun a=>termsA z f (acc++[a])):=aL (yl_term z) fun t ht=>aAb z f (acc++[t]) fun y hy=>by
    rcases List.mem_append.1 hy with hy|hy
    ·exact ha y hy
    ·simp at hy;subst hy;exact ht
   exact this _ _ _ hg h
def ItP (k:Int)(nm:List UInt8)(x:It):Prop:=x.kind=k∧x.name=nm∧fI x=true∧(k=10∨jP x.expr=true)∧Pr (dS x)∧iA x=true
theorem nH:jP ex0=true:=by simp[ex0,jP]
theorem kG {x:It}(k:Int)(hk:x.kind=k)(h:k≠10):iA x=true:=decide_eq_true fun e=>absurd (hk.symm.trans e) h
section
variable (z : Nat) (nm : List UInt8) (off : Nat)
theorem yl_part {k:Int}(h1:1≤k)(h10:k≤10)(hnm:k=5→nm=[]):Yl (ItP k nm) (mF z k { sC with kind:=k,name:=nm,off:=off }):=by
 rcases(show k=1∨k=2∨k=3∨k=4∨k=5∨k=6∨k=7∨k=8∨k=9∨k=10 by omega) with rfl|rfl|rfl|rfl|rfl|rfl|rfl|rfl|rfl|rfl
 ·show Yl _ (aA2 z _)
  exact aL (cL z _) fun _ _=>aL (sN (yl_column z)) fun c hc=>aL (cL z _) fun _ _=>aL (sM z) fun l hl=>bI ⟨rfl,rfl,by simp[fI,sC],.inr nH,
   aQ rfl (aQ (lP hc.1 hc.2) (aQ rfl (aQ (lP hl.1 fun x hx b=>dJ (hl.2 x hx)) eX))),kG 1 rfl (by decide)⟩
 ·show Yl _ (wQ z _)
  exact aL (cL z _) fun _ _=>aL (jQ z) fun n hn=>bI ⟨rfl,rfl,by simp[fI,sC],.inr nH,aQ rfl (aQ (nB hn) eX),kG 2 rfl (by decide)⟩
 ·show Yl _ (aBq z _)
  refine aL (cL z _) fun _ _=>aL (sL z) fun p hp=>aL (cL z _) fun _ _=>aL (mU z _ _) fun b hb=>gV (fun h3=>?_) fun h3=>gV (fun h4=>?_) fun h4=>?_
  ·subst h3
   exact aL (jQ z) fun n hn=>bI ⟨rfl,rfl,by simp[fI,sC],.inr nH,aQ rfl (aQ (kR hp.1 hp.2) (aQ rfl (aQ rfl (aQ (nB hn) (aQ rfl eX))))),kG 3 rfl (by decide)⟩
  ·subst h4
   exact aL (jQ z) fun n hn=>aL (jQ z) fun m hm=>bI ⟨rfl,rfl,by simp[fI,sC],.inr nH,aQ rfl (aQ (kR hp.1 hp.2) (aQ rfl (aQ rfl (aQ (nB hn) (aQ (nB hm) eX))))),kG 3 rfl (by decide)⟩
  ·simp at hb
   rcases(show b=1∨b=2 by omega) with rfl|rfl
   ·exact bI ⟨rfl,rfl,by simp[fI,sC],.inr nH,aQ rfl (aQ (kR hp.1 hp.2) (aQ rfl (aQ rfl (aQ rfl (aQ rfl eX))))),kG 3 rfl (by decide)⟩
   ·exact bI ⟨rfl,rfl,by simp[fI,sC],.inr nH,aQ rfl (aQ (kR hp.1 hp.2) (aQ rfl (aQ rfl (aQ rfl (aQ rfl eX))))),kG 3 rfl (by decide)⟩
 ·show Yl _ (aBe z _)
  exact aL (cL z _) fun _ _=>aL (eQ z) fun t ht=>aL (cL z _) fun _ _=>aL (jQ z) fun n hn=>aL (cL z _) fun _ _ =>
   aL (P:=fun l=>∀ t∈l,Pr (bC t)) (fun ts a r hg h=>aAb z _ [] (fun _ h=>by cases h) ts a r hg h) fun l hl=>bI ⟨rfl,rfl,by simp[fI,sC],.inr nH,
   pr_app (aQ rfl (aQ (dJ ht) (aQ rfl (aQ (nB hn) (aQ rfl eX))))) (rW fun y hy=>by
    obtain⟨w,hw,rfl⟩:=List.mem_map.1 hy
    exact hl w hw),kG 4 rfl (by decide)⟩
 ·show Yl _ (keepP z _)
  exact aL (sL z) fun p hp=>aL (cL z _) fun _ _=>aL (mU z _ _) fun b hb=>bI ⟨rfl,rfl,by simp[fI,sC,hnm rfl],.inr nH,
   aQ (kR hp.1 hp.2) (aQ rfl (aQ (sZ (by simp at hb;simp;omega)) eX)),kG 5 rfl (by decide)⟩
 ·show Yl _ (lG z _)
  exact aL (cL z _) fun _ _=>aL (eQ z) fun t ht=>aL (cL z _) fun _ _=>aL (sM z) fun l hl=>aL (cL z _) fun _ _=>bI ⟨rfl,rfl,by simp[fI,sC],.inr nH,
   aQ rfl (aQ (dJ ht) (aQ rfl (aQ (lP hl.1 fun x hx b=>dJ (hl.2 x hx)) (aQ rfl eX)))),kG 6 rfl (by decide)⟩
 ·show Yl _ (wT z _)
  refine aL (P:=fun y=>∃ t l,dH t=true∧l≠[]∧aBv l∧y={ sC with kind:=7,name:=nm,off:=off,table:=t,names:=l }) ?_ fun y hy=>?_
  ·exact aL (cL z _) fun _ _=>aL (eQ z) fun t ht=>aL (cL z _) fun _ _=>aL (sM z) fun l hl=>aL (cL z _) fun _ _=>bI ⟨t,l,ht,hl.1,hl.2,rfl⟩
  ·obtain⟨t,l,ht,hl1,hl2,rfl⟩:=hy
   refine aL (cL z _) fun _ _=>aL (eQ z) fun a ha=>aL (fZ _) fun _ _=>gV (fun _=>aL (sN (yl_fixed z)) fun f hf=>bI ?_) fun _=>bI ?_
   ·exact⟨rfl,rfl,by simp[fI,sC],.inr nH,aQ rfl (aQ (dJ ht) (aQ rfl (aQ (lP hl1 fun x hx b=>dJ (hl2 x hx)) (aQ rfl (aQ (dJ ha) (aQ (pr_fixed hf.2) eX)))))),kG 7 rfl (by decide)⟩
   ·exact⟨rfl,rfl,by simp[fI,sC],.inr nH,aQ rfl (aQ (dJ ht) (aQ rfl (aQ (lP hl1 fun x hx b=>dJ (hl2 x hx)) (aQ rfl (aQ (dJ ha) (aQ rfl eX)))))),kG 7 rfl (by decide)⟩
 ·show Yl _ (tM z _)
  exact aL (sL z) fun p hp=>aL (cL z _) fun _ _=>aL (sL z) fun q hq=>bI ⟨rfl,rfl,by simp[fI,sC],.inr nH,aQ (kR hp.1 hp.2) (aQ rfl (aQ (kR hq.1 hq.2) eX)),kG 8 rfl (by decide)⟩
 ·show Yl _ (denyP z _)
  exact aL (sN (yl_var z)) fun v hv=>aL (yl_conds z) fun c hc=>bI ⟨rfl,rfl,by simp[fI,sC],.inr nH,aQ (lP hv.1 fun x hx _=>hv.2 x hx) (aQ hc eX),kG 9 rfl (by decide)⟩
 ·show Yl _ (aA8 z _)
  exact aL (cL z _) fun _ _=>aL (aAW z 12) fun e he=>bI ⟨rfl,rfl,by simp[fI,sC],.inl rfl,aQ rfl (aQ (he.1 _) eX),decide_eq_true fun _=>he.2⟩
end
theorem yl_item (z:Nat):Yl (fun x=>Pr (iO x)∧iA x=true) (kV z):=fun ts a r hg h=>by
 cases ts with
 | nil=>rw[uR]at h;cases h
 | cons t q =>
  rw[itemP_G]at h
  have:Yl (fun x=>Pr (iO x)∧iA x=true) (itemG t.off z) :=
   aL (mU z _ _) fun k hk=>aL (P:=fun s=>(k=5→s=[])∧(k≠5→dH s=true)) (aAV (fun hc=>fun ts a r q e=>by
     obtain⟨h1,h2⟩:=eQ z ts a r q e
     exact⟨⟨fun e=>by simp[e]at hc,fun _=>h1⟩,h2⟩) (fun hc=>⟨fun _=>rfl,fun e=>by simp at hc;exact absurd hc e⟩)) fun nm hnm=>by
    have hk10:1≤k∧k≤10:=by simp[eM]at hk;omega
    refine aL (yl_part z nm t.off hk10.1 hk10.2 hnm.1) fun x hx=>aL (cL z _) fun _ _=>bI ?_
    obtain⟨rfl,rfl,h3,h4,h5,h6⟩:=hx
    refine⟨?_,h6⟩
    unfold iO
    rw[if_pos ⟨hk10.1,hk10.2,h3,h4⟩]
    refine aQ rfl (aQ ?_ (aQ h5 (aQ rfl eX)));by_cases e5:x.kind=5
    ·rw[if_pos e5];rfl
    ·rw[if_neg e5];exact dJ (hnm.2 e5)
  exact this _ _ _ hg h
theorem its_pr {z:Nat}{ts:List Tok}{xs:List It}(h:Its z ts xs)(hg:GT ts):(∃ ls,eO xs=some ls)∧xs.all iA=true:=by
 induction h with
 | nil=>exact⟨⟨[],rfl⟩,rfl⟩
 | @cons ts r x xs hp _ ih =>
  obtain⟨⟨h1,h2⟩,h3⟩:=yl_item z _ _ _ hg hp
  obtain⟨⟨ls,h4⟩,h5⟩:=ih h3
  obtain⟨p,hp⟩:=Option.isSome_iff_exists.1 h1
  refine⟨⟨p::ls,?_⟩,by rw[List.all_cons,h2,h5];rfl⟩
  unfold eO at h4 ⊢
  rw[List.mapM_cons,hp,h4]
  rfl
theorem dE {b s:List UInt8}{ps:List Pc}(h:bG b s=some ps):s.length≤1000000000000000:=by
 have:=cM (rZ h).1
 omega
theorem jT {b:List UInt8}{n:Int}{ps:List Pc}(h:iJ b n=some ps):-9223372036854775808≤n∧n≤9223372036854775807:=by
 have:=uH (uI h).1
 omega
theorem nI {n:Int}{ws:List (List UInt8)}{ps:List Pc}(hl:ws.length≤100)(h:fX n ws=some ps):-9223372036854775808≤n∧n≤9223372036854775807:=by
 unfold fX at h;split at h
 ·omega
 ·cases h
theorem uX {v:Vl}{ps:List Pc}(h:bR v=some ps):aBt v:=by
 unfold bR at h;unfold aBt;split at h
 ·split at h
  ·rename_i h1 h2
   rw[h1,h2.1,h2.2]
   simp
  ·cases h
 split at h
 ·split at h
  ·rename_i h1 h2
   rw[h1,h2.1]
   refine⟨by omega,by omega,by omega⟩
  ·cases h
 split at h
 ·split at h
  ·rename_i h1 h2
   rw[h1,h2.1]
   refine⟨by omega,by omega,by simp⟩
  ·cases h
 split at h
 ·split at h
  ·rename_i h1 h2
   have:=uH h2.2
   rw[h1,h2.1]
   refine⟨by omega,by omega,by simp⟩
  ·cases h
 split at h
 ·split at h
  ·rename_i h1 h2
   rw[h1,h2.1]
   refine⟨by omega,by omega,by simp⟩
  ·cases h
 ·cases h
theorem iI {t a:List UInt8}{ps:List Pc}(h:eG t a=some ps):t.length≤1000000000000000∧a.length≤1000000000000000:=by
 obtain⟨_,_,e1,h,_⟩:=aJ h
 obtain⟨_,_,_,h,_⟩:=aJ h
 obtain⟨_,_,e3,_,_⟩:=aJ h
 exact⟨dE e1,dE e3⟩
theorem sideQ_ok {x:Opd}{ps:List Pc}(h:fP x=some ps):aAT x:=by
 unfold fP at h;unfold aAT;split at h
 ·split at h
  ·rename_i h2
   rw[h2.1,h2.2]
   exact⟨by simp,by simp,uX h⟩
  ·cases h
 split at h
 ·cases h
 rename_i hv
 have hv:x.val.k=0∧x.val.n=0∧x.val.t=[]:=Classical.not_not.1 hv;have hV:aBt x.val:=by unfold aBt;rw[hv.1,hv.2.1,hv.2.2];simp
 split at h
 ·rename_i h1
  split at h
  ·cases h
  ·rw[h1]
   exact⟨by simp,dE h,hV⟩
 ·split at h
  ·cases h
  ·have:=iI h
   exact⟨this.1,this.2,hV⟩
theorem opQ_rng {n:Int}{ps:List Pc}(h:opQ n=some ps):-9223372036854775808≤n∧n≤9223372036854775807:=by
 unfold opQ at h;split at h
 ·omega
 ·cases h
theorem condQ_ok {x:Cnd}{ps:List Pc}(h:pH x=some ps):wI x:=by
 obtain⟨_,_,e1,h,_⟩:=aJ h
 obtain⟨_,_,e2,h,_⟩:=aJ h
 obtain⟨_,_,e3,h,_⟩:=aJ h
 obtain⟨_,_,e4,_,_⟩:=aJ h
 refine⟨sideQ_ok e1,opQ_rng e2,sideQ_ok e3,?_⟩
 unfold sK at e4;split at e4
 ·cases e4
 ·rename_i hx
  have:=Classical.not_not.1 hx
  omega
theorem nO:∀ {l:List (Option (List Pc))}{ps:List Pc},aF l=some ps→∀ o∈l,∃ p,o=some p
 | [],_,_,o,ho=>by cases ho
 | x::r,ps,h,o,ho=>by
  obtain⟨a,b,e1,e2,_⟩:=aJ h
  rcases List.mem_cons.1 ho with rfl|ho
  ·exact⟨a,e1⟩
  ·exact nO e2 o ho
theorem loopQ_all {α:Type}{one:Nat→α→Option (List Pc)}{l:List α}{ps:List Pc}(h:cT one l=some ps):∀ x∈l,∃ i p,one i x=some p:=by
 intro x hx
 obtain⟨i,hi⟩:=List.mem_iff_getElem?.1 hx
 obtain⟨p,hp⟩:=nO h (one i x) (List.mem_iff_getElem?.2 ⟨i,by rw[List.getElem?_mapIdx,hi];rfl⟩)
 exact⟨i,p,hp⟩
theorem lR {o:Option (List Pc)}{g:List Pc→List Pc}{p:List Pc}(h:o.map g=some p):∃ q,o=some q:=by
 cases o with
 | none=>cases h
 | some q=>exact⟨q,rfl⟩
theorem aAO {l:List Cnd}{ps:List Pc}(h:mN l=some ps):∀ c∈l,wI c:=by
 by_cases hl:l=[]
 ·subst hl;simp
 ·rw[wE l hl]at h
  intro c hc
  obtain⟨i,p,hp⟩:=loopQ_all h c hc
  obtain⟨q,hq⟩:=lR hp
  exact condQ_ok hq
theorem listQ_ok {α:Type}{one:List UInt8→α→Option (List Pc)}{b:List UInt8}{l:List α}{ps:List Pc}(h:iV one b l=some ps):∀ x∈l,∃ b p,one b x=some p:=by
 intro x hx;cases l with
 | nil=>cases hx
 | cons y r =>
  rcases List.mem_cons.1 hx with rfl|hx
  ·obtain⟨p,hp⟩:=nO h (one b x) (by simp)
   exact⟨b,p,hp⟩
  ·obtain⟨p,hp⟩:=nO h ((one [32] x).map (aP [] [44]::·)) (List.mem_cons_of_mem _ (List.mem_map.2 ⟨x,hx,rfl⟩))
   obtain⟨q,hq⟩:=lR hp
   exact⟨_,q,hq⟩
theorem sB {α:Type}{one:List UInt8→α→Option (List Pc)}{b:List UInt8}{l:List α}{ps:List Pc}(h:dW one b l=some ps):∀ x∈l,∃ b p,one b x=some p:=by
 cases l with
 | nil=>cases h
 | cons y r=>exact listQ_ok h
theorem aAx {b:List UInt8}{l:List (List UInt8)}{ps:List Pc}(h:iV bG b l=some ps):∀ n∈l,n.length≤1000000000000000:=fun n hn=>by
 obtain⟨_,_,e⟩:=listQ_ok h n hn
 exact dE e
theorem qI {b:List UInt8}{l:List (List UInt8)}{ps:List Pc}(h:dW bG b l=some ps):∀ n∈l,n.length≤1000000000000000:=fun n hn=>by
 obtain⟨_,_,e⟩:=sB h n hn
 exact dE e
theorem colQ_ok {b:List UInt8}{c:Col}{ps:List Pc}(h:mO b c=some ps):ColOK c:=by
 obtain⟨_,_,e1,h,_⟩:=aJ h
 obtain⟨_,_,e2,h,_⟩:=aJ h
 obtain⟨_,_,e3,_,_⟩:=aJ h
 refine⟨dE e1,nI (by decide) e2,?_⟩
 split at e3
 ·rename_i h0
  unfold aBt
  rw[h0.1,h0.2.1,h0.2.2]
  simp
 ·obtain⟨q,hq⟩:=lR e3
  exact uX hq
theorem termQ_ok {t:Trm}{ps:List Pc}(h:bC t=some ps):TrmOK t:=by
 obtain⟨_,_,e1,h,_⟩:=aJ h
 obtain⟨_,_,e2,h,_⟩:=aJ h
 obtain⟨_,_,e3,h,_⟩:=aJ h
 obtain⟨_,_,_,h,_⟩:=aJ h
 obtain⟨_,_,e5,h,_⟩:=aJ h
 obtain⟨_,_,e6,h,_⟩:=aJ h
 obtain⟨_,_,_,h,_⟩:=aJ h
 obtain⟨_,_,e8,h,_⟩:=aJ h
 obtain⟨_,_,e9,h,_⟩:=aJ h
 refine⟨dE e1,nI (by decide) e2,?_,jT e5,?_,jT e8,?_⟩
 ·split at e3
  ·exact jT e3
  ·split at e3
   ·omega
   ·cases e3
 ·split at e6
  ·omega
  ·obtain⟨q,hq⟩:=lR e6
   exact jT hq
 ·split at e9
  ·omega
  ·obtain⟨q,hq⟩:=lR e9
   exact jT hq
theorem fixQ_ok {f:Nmd}{ps:List Pc}(h:uV f=some ps):NmdOK f:=by
 obtain⟨_,_,e1,h,_⟩:=aJ h
 obtain⟨_,_,_,h,_⟩:=aJ h
 obtain⟨_,_,e3,_,_⟩:=aJ h
 exact⟨dE e1,uX e3⟩
theorem varQ_ok {v:Vr}{ps:List Pc}(h:sQ v=some ps):VrOK v:=by
 obtain⟨_,_,e1,h,_⟩:=aJ h
 obtain⟨_,_,e2,_,_⟩:=aJ h
 exact⟨dE e2,dE e1⟩
theorem rest_ok {k:Int}{tb:List UInt8}{cs:List Cnd}{ns:List (List UInt8)}{a s:List UInt8}{g:Int}{ps:List Pc}(h1:1≤k)(h8:k≤8)(hk:k≠1)(hb:eP k tb cs ns a s g=true)(h:dR k cs ns a s g=some ps) :
  tb=[]∧(∀ c∈cs,wI c)∧(∀ n∈ns,n.length≤1000000000000000)∧a.length≤1000000000000000∧s.length≤1000000000000000∧(-9223372036854775808≤g∧g≤9223372036854775807):=by
 have hb:=of_decide_eq_true hb
 obtain⟨b1,b2,b3,b4,b5,b6⟩:=hb
 have b1:tb=[]:=b1.resolve_left hk
 refine⟨b1,?_⟩
 unfold dR at h;by_cases h2:k=2
 ·rw[if_pos h2]at h
  obtain rfl:ns=[]:=by rcases b3 with h|h|h<;>first|omega|exact h
  obtain rfl:a=[]:=by rcases b4 with h|h|h<;>first|omega|exact h
  obtain rfl:s=[]:=by rcases b5 with h|h|h<;>first|omega|exact h
  have:g=0:=by omega
  exact⟨aAO h,by simp,by simp,by simp,by omega⟩
 rw[if_neg h2]at h
 obtain rfl:cs=[]:=b2.resolve_left h2;by_cases h3:k=3
 ·rw[if_pos h3]at h
  obtain⟨_,_,_,h,_⟩:=aJ h
  obtain⟨_,_,e2,_,_⟩:=aJ h
  obtain rfl:a=[]:=by rcases b4 with h|h|h<;>first|omega|exact h
  obtain rfl:s=[]:=by rcases b5 with h|h|h<;>first|omega|exact h
  have:g=0:=by omega
  exact⟨by simp,aAx e2,by simp,by simp,by omega⟩
 rw[if_neg h3]at h
 by_cases h7:k=7
 ·rw[if_pos h7]at h
  obtain⟨_,_,_,h,_⟩:=aJ h
  obtain⟨_,_,e2,h,_⟩:=aJ h
  obtain⟨_,_,_,h,_⟩:=aJ h
  obtain⟨_,_,e4,_,_⟩:=aJ h
  obtain rfl:ns=[]:=by rcases b3 with h|h|h<;>first|omega|exact h
  have:g=0:=by omega
  exact⟨by simp,by simp,dE e2,dE e4,by omega⟩
 rw[if_neg h7]at h
 by_cases h8':k=8
 ·rw[if_pos h8']at h
  split at h
  ·obtain⟨_,_,_,h,_⟩:=aJ h
   obtain⟨_,_,e2,h,_⟩:=aJ h
   obtain⟨_,_,_,h,_⟩:=aJ h
   obtain⟨_,_,e4,h,_⟩:=aJ h
   obtain⟨_,_,e5,h,_⟩:=aJ h
   obtain⟨_,_,_,h,_⟩:=aJ h
   obtain⟨_,_,e7,_,_⟩:=aJ h
   refine⟨by simp,aAx e2,?_,dE e7,nI (by decide) e4⟩
   split at e5
   ·split at e5
    ·rename_i ha;rw[ha];simp
    ·cases e5
   ·exact dE e5
  ·cases h
 ·obtain rfl:ns=[]:=by rcases b3 with h|h|h<;>first|omega|exact h
  obtain rfl:a=[]:=by rcases b4 with h|h|h<;>first|omega|exact h
  obtain rfl:s=[]:=by rcases b5 with h|h|h<;>first|omega|exact h
  have:g=0:=by omega
  exact⟨by simp,by simp,by simp,by simp,by omega⟩
mutual
theorem exQ_ok {N:Nat}(hN:N≤1000000000000000):∀(x:Ex)(b:List UInt8)(ps:List Pc),gJ b x=some ps→ExB N x→gR x
 | .mk k tb ks cs ns a s g o,b,ps,h,hB=>by
  rw[gJ]at h
  rw[ExB]at hB
  obtain⟨b1,b2,b3,b4⟩:=hB
  split at h
  ·rename_i hc
   obtain⟨h1,h8,hl,hb⟩:=hc
   by_cases hk:k=1
   ·rw[if_pos hk]at h
    have hks:ks=[]:=by rw[hk]at hl;exact List.length_eq_zero_iff.1 hl
    obtain⟨_,c2,c3,c4,c5,c6⟩:=of_decide_eq_true hb
    subst hks;obtain rfl:cs=[]:=c2.resolve_left (by omega);obtain rfl:ns=[]:=by rcases c3 with h|h|h<;>first|omega|exact h
    obtain rfl:a=[]:=by rcases c4 with h|h|h<;>first|omega|exact h
    obtain rfl:s=[]:=by rcases c5 with h|h|h<;>first|omega|exact h
    rw[gR]
    exact⟨by omega,dE h,trivial,by simp,by simp,by simp,by simp,by omega,by omega,by omega,by omega⟩
   ·rw[if_neg hk]at h
    obtain⟨_,_,_,h,_⟩:=aJ h
    obtain⟨_,_,e2,h,_⟩:=aJ h
    obtain⟨_,_,e3,_,_⟩:=aJ h
    obtain⟨r1,r2,r3,r4,r5,r6⟩:=rest_ok h1 h8 hk hb e3
    have hkk:=exsQ_ok hN ks [] _ e2 b4
    rw[gR]
    exact⟨by omega,by rw[r1];simp,hkk,r2,r3,r4,r5,r6,by omega,by omega,by omega⟩
  ·cases h
theorem exsQ_ok {N:Nat}(hN:N≤1000000000000000):∀(l:List Ex)(b:List UInt8)(ps:List Pc),kU b l=some ps→aBw N l→rR l
 | [],_,_,_,_=>trivial
 | x::r,b,ps,h,hB=>by
  rw[kU]at h
  rw[aBw]at hB
  split at h
  ·rename_i p q e1 e2
   rw[rR]
   exact⟨exQ_ok hN x b p e1 hB.1,exsQ_ok hN r [32] q e2 hB.2⟩
  ·cases h
end
theorem kids_two' (k:Int):gD k≤2:=by unfold gD;split<;>(try split)<;>omega
mutual
theorem ex_size {N C:Nat}(hC:C=1+2*N):∀(x:Ex)(b:List UInt8)(ps:List Pc)(d:Nat),gJ b x=some ps→ExB N x→cC x≤d→eU x+C≤2 ^ d*C
 | .mk k tb ks cs ns a s g o,b,ps,0,h,hB,hd=>by rw[cC]at hd;omega
 | .mk k tb ks cs ns a s g o,b,ps,d+1,h,hB,hd=>by
  rw[gJ]at h
  rw[ExB]at hB
  rw[cC]at hd
  obtain⟨b1,b2,b3,b4⟩:=hB
  split at h
  ·rename_i hc
   obtain⟨h1,h8,hl,hb⟩:=hc
   have h2:=kids_two' k;have hpow:2 ^ (d+1)*C=2 ^ d*C+2 ^ d*C:=by rw[Nat.pow_succ];rw[Nat.mul_comm (2 ^ d) 2,Nat.mul_assoc];omega
   have hge:C≤2 ^ d*C:=Nat.le_mul_of_pos_left C (Nat.pow_pos (by decide))
   rw[eU]
   by_cases hk:k=1
   ·have hks:ks=[]:=by rw[hk]at hl;exact List.length_eq_zero_iff.1 hl
    subst hks
    rw[eW]
    omega
   ·rw[if_neg hk]at h
    obtain⟨_,_,_,h,_⟩:=aJ h
    obtain⟨_,_,e2,_,_⟩:=aJ h
    have hs:=exs_size hC ks [] _ d e2 b4 (by omega)
    have:ks.length=0∨ks.length=1∨ks.length=2:=by omega
    rcases this with e|e|e<;>rw[e]at hs<;>(try simp only[Nat.zero_mul,Nat.one_mul]at hs)<;>omega
  ·cases h
theorem exs_size {N C:Nat}(hC:C=1+2*N):∀(l:List Ex)(b:List UInt8)(ps:List Pc)(d:Nat),kU b l=some ps→aBw N l→cI l≤d→eW l+l.length*C≤l.length*(2 ^ d*C)
 | [],_,_,_,_,_,_=>by rw[eW];simp
 | x::r,b,ps,d,h,hB,hd=>by
  rw[kU]at h
  rw[aBw]at hB
  rw[cI]at hd
  split at h
  ·rename_i p q e1 e2
   have h1:=ex_size hC x b p d e1 hB.1 (by omega);have h2:=exs_size hC r [32] q d e2 hB.2 (by omega)
   rw[eW,List.length_cons,Nat.succ_mul,Nat.succ_mul]
   omega
  ·cases h
end
def aD {α:Type}(m:PM α):Prop:=∀ ts e o,m ts=.error (e,o)→e≠0
theorem aD.pure {α:Type}(a:α):aD (Pure.pure a:PM α):=by
 intro ts e o h;cases h
theorem aD.bind {α β:Type}{m:PM α}{f:α→PM β}(hm:aD m)(hf:∀ a,aD (f a)):aD (m >>= f):=by
 intro ts e o h;cases hq:m ts with
 | error y=>rw[PM.aBy hq]at h;cases h;exact hm _ _ _ hq
 | ok p =>
  obtain⟨a,q⟩:=p
  rw[PM.aBz hq]at h
  exact hf a _ _ _ h
theorem aD.take (s:List UInt8):aD (dK s):=fun ts e o h=>absurd h (cS _ _ _)
theorem stopE_ne (z:Nat) {e:Int}(he:e≠0)(ts:List Tok):(aAj z e ts).1≠0:=by
 cases ts with
 | nil=>show(7:Int)≠0;decide
 | cons t r=>exact he
theorem aD.fail {α:Type}(z:Nat)(e:Int)(he:e≠0):aD (yT z e:PM α):=by
 intro ts e' o h;have h':(Except.error (aAj z e ts):Except (Int×Nat) (α×List Tok))=.error (e',o):=h
 have:=stopE_ne z he ts
 injection h' with h'
 rw[h']at this
 exact this
theorem aD.kind (z:Nat)(k:Int):aD (jK z k):=by
 intro ts e o h;cases ts with
 | nil=>cases h;decide
 | cons t r =>
  unfold jK at h;dsimp only at h;split at h
  ·cases h
  ·cases h;decide
theorem aD.name (z:Nat):aD (dG z):=aD.bind (aD.kind z 1) fun _=>aD.pure _
theorem aD.num (z:Nat):aD (mR z):=aD.bind (aD.kind z 2) fun _=>aD.pure _
theorem aD.need:∀(z:Nat)(ss:List (List UInt8)),aD (bP z ss)
 | _,[]=>aD.pure _
 | z,s::ss=>aD.bind (aD.bind (aD.take s) fun b=>by cases b<;>first|exact aD.fail _ _ (by decide)|exact aD.pure _) fun _=>aD.need z ss
theorem aD.word:∀(z:Nat)(ss:List (List UInt8))(i:Int),aD (fG z ss i)
 | z,[],_=>aD.fail z 4 (by decide)
 | z,s::ss,i=>aD.bind (aD.take s) fun b=>by cases b<;>first|exact aD.word z ss (i+1)|exact aD.pure _
theorem aD.ifP {α:Type}{c:Bool}{m:PM α}{d:α}(h:aD m):aD (ifP c m d):=by
 unfold Go.Proofs.YtohlogbnpfofpaaGreatDoor.ifP;split
 ·exact h
 ·exact aD.pure _
theorem aD.opt {α:Type}{s:List UInt8}{m n:PM α}(h1:aD m)(h2:aD n):aD (dK s >>= fun b=>if b=true then m else n):=aD.bind (aD.take s) fun b=>by cases b<;>assumption
theorem aD.lit (z:Nat):aD (litE z) :=
 aD.opt (aD.bind (aD.num z) fun _=>aD.pure _) (aD.opt (aD.bind (aD.num z) fun _=>aD.pure _) (aD.opt (aD.pure _) (aD.opt (aD.pure _) (aD.opt (aD.pure _) (aD.pure _)))))
theorem aD.literal (z:Nat):aD (fC z):=by
 intro ts e o h;cases ts with
 | nil=>cases h
 | cons t q =>
  unfold fC at h;dsimp only at h;split at h
  ·cases h
  ·split at h
   ·cases h
   ·exact aD.lit z _ _ _ h
theorem aD.value (z:Nat):aD (rT z):=aD.bind (aD.literal z) fun o=>by cases o<;>first|exact aD.fail _ _ (by decide)|exact aD.pure _
theorem aD.side (z:Nat):aD (xL z):=aD.bind (aD.literal z) fun o=>by
 cases o with
 | some v=>exact aD.pure _
 | none=>exact aD.bind (aD.name z) fun _=>aD.opt (aD.bind (aD.name z) fun _=>aD.pure _) (aD.pure _)
theorem aD.cond (z:Nat):aD (zD z) :=
 aD.bind (aD.side z) fun _=>aD.bind (aD.word _ _ _) fun _=>aD.bind (aD.side z) fun _=>aD.opt (aD.bind (aD.num z) fun _=>aD.pure _) (aD.opt (aD.bind (aD.num z) fun _=>aD.pure _) (aD.pure _))
theorem aD.column (z:Nat):aD (oV z) :=
 aD.bind (aD.name z) fun _=>aD.bind (aD.word _ _ _) fun _=>aD.opt (aD.bind (aD.value z) fun _=>aD.pure _) (aD.pure _)
theorem aD.fixed (z:Nat):aD (sD z):=aD.bind (aD.name z) fun _=>aD.bind (aD.need _ _) fun _=>aD.bind (aD.value z) fun _=>aD.pure _
theorem aD.var (z:Nat):aD (varP z):=aD.bind (aD.name z) fun _=>aD.bind (aD.name z) fun _=>aD.pure _
theorem aD.term (z:Nat):aD (pP z) :=
 aD.bind (aD.name z) fun _=>aD.bind (aD.word _ _ _) fun _=>aD.bind (aD.ifP (aD.num z)) fun _=>aD.bind (aD.need _ _) fun _=>aD.bind (aD.num z) fun _=>aD.bind (aD.opt (aD.num z) (aD.pure _)) fun _=>aD.bind (aD.need _ _) fun _=>aD.bind (aD.num z) fun _ =>
  aD.bind (aD.opt (aD.num z) (aD.pure _)) fun _=>aD.bind (aD.need _ _) fun _=>aD.pure _
theorem aD.listA {α:Type}{sep:List UInt8}{one:PM α}(h:aD one):∀(n:Nat)(acc:List α),aD (Go.Proofs.YtohlogbnpfofpaaGreatDoor.listA sep one n acc)
 | 0,_=>aD.pure _
 | n+1,acc=>aD.opt (aD.bind h fun _=>aD.listA h n _) (aD.pure _)
theorem aD.list {α:Type}{sep:List UInt8}{one:PM α}(h:aD one):aD (jU sep one):=aD.bind h fun _ ts e o h'=>aD.listA h _ _ ts e o h'
theorem aD.names (z:Nat):aD (nE z):=aD.list (aD.name z)
theorem aD.namesU (z:Nat)(s:List UInt8):aD (Go.Proofs.YtohlogbnpfofpaaGreatDoor.namesU z s):=by
 intro ts e o h;cases hb:bK [s] ts with
 | true=>rw[kF hb]at h;cases h
 | false=>rw[jJ hb]at h;exact aD.names z _ _ _ h
theorem aD.conds (z:Nat):aD (oU z):=aD.bind (aD.need _ _) fun _=>aD.list (aD.cond z)
theorem aD.place (z:Nat):aD (oH z):=aD.bind (aD.name z) fun _=>aD.bind (aD.need _ _) fun _=>aD.bind (aD.name z) fun _=>aD.pure _
theorem aD.termsA (z:Nat):∀(n:Nat)(acc:List Trm),aD (Go.Proofs.YtohlogbnpfofpaaGreatDoor.termsA z n acc)
 | 0,_=>aD.pure _
 | n+1,acc=>by
  intro ts e o h;cases hb:bK [[125]] ts with
  | true=>rw[lX hb]at h;cases h
  | false=>rw[nN hb]at h;exact(aD.bind (aD.term z) fun _=>aD.termsA z n _) _ _ _ h
theorem aD.rest (z i off:Nat)(kids:List Ex):aD (eS z i off kids):=by
 match i with
 | 0=>exact aD.bind (aD.conds z) fun _=>aD.pure _
 | 1=>exact aD.bind (aD.need _ _) fun _=>aD.bind (aD.namesU _ _) fun _=>aD.pure _
 | 2=>exact aD.pure _
 | 3=>exact aD.pure _
 | 4=>exact aD.pure _
 | 5=>exact aD.bind (aD.need _ _) fun _=>aD.bind (aD.name z) fun _=>aD.bind (aD.need _ _) fun _=>aD.bind (aD.name z) fun _=>aD.pure _
 | 6=>exact aD.bind (aD.need _ _) fun _=>aD.bind (aD.namesU _ _) fun _=>aD.bind (aD.need _ _) fun _=>aD.bind (aD.word _ _ _) fun _=>aD.bind (aD.ifP (aD.name z)) fun _=>aD.bind (aD.need _ _) fun _=>aD.bind (aD.name z) fun _=>aD.pure _
 | n+7=>exact aD.pure _
theorem aD.expr (z:Nat):∀(n:Nat),aD (cJ z n)
 | 0=>aD.fail z 3 (by decide)
 | n+1=>by
  intro ts e o h
  rw[cJ]at h
  cases ho:pC ts with
  | none =>
   simp only[ho]at h
   exact(aD.bind (aD.name z) fun _=>aD.pure _) _ _ _ h
  | some i =>
   simp only[ho]at h
   exact(aD.bind (aD.need _ _) fun _=>aD.bind (aD.expr z n) fun _=>aD.bind (aD.ifP (aD.bind (aD.need _ _) fun _=>aD.bind (aD.expr z n) fun _=>aD.pure _)) fun _=>aD.bind (aD.rest _ _ _ _) fun _=>aD.bind (aD.need _ _) fun _=>aD.pure _) _ _ _ h
theorem aD.ite {α:Type}{p:Prop} [Decidable p] {m n:PM α}(hm:aD m)(hn:aD n):aD (if p then m else n):=by
 split
 ·exact hm
 ·exact hn
theorem aD.unique (z:Nat)(x:It):aD (lG z x):=aD.bind (aD.need _ _) fun _=>aD.bind (aD.name z) fun _=>aD.bind (aD.need _ _) fun _=>aD.bind (aD.names z) fun _=>aD.bind (aD.need _ _) fun _=>aD.pure _
theorem aD.part (z:Nat)(k:Int)(x:It):aD (mF z k x):=by
 unfold mF;refine aD.ite ?_ (aD.ite ?_ (aD.ite ?_ (aD.ite ?_ (aD.ite ?_ (aD.ite ?_ (aD.ite ?_ (aD.ite ?_ (aD.ite ?_ ?_))))))))
 ·exact aD.bind (aD.need _ _) fun _=>aD.bind (aD.list (aD.column z)) fun _=>aD.bind (aD.need _ _) fun _=>aD.bind (aD.names z) fun _=>aD.pure _
 ·exact aD.bind (aD.need _ _) fun _=>aD.bind (aD.num z) fun _=>aD.pure _
 ·exact aD.bind (aD.need _ _) fun _=>aD.bind (aD.place z) fun _=>aD.bind (aD.need _ _) fun _=>aD.bind (aD.word _ _ _) fun _=>aD.ite (aD.bind (aD.num z) fun _=>aD.pure _) (aD.ite (aD.bind (aD.num z) fun _=>aD.bind (aD.num z) fun _=>aD.pure _) (aD.pure _))
 ·exact aD.bind (aD.need _ _) fun _=>aD.bind (aD.name z) fun _=>aD.bind (aD.need _ _) fun _=>aD.bind (aD.num z) fun _=>aD.bind (aD.need _ _) fun _=>aD.bind (fun ts e o h=>aD.termsA z _ _ ts e o h) fun _=>aD.pure _
 ·exact aD.bind (aD.place z) fun _=>aD.bind (aD.need _ _) fun _=>aD.bind (aD.word _ _ _) fun _=>aD.pure _
 ·exact aD.unique z x
 ·exact aD.bind (aD.unique z x) fun _=>aD.bind (aD.need _ _) fun _=>aD.bind (aD.name z) fun _=>aD.opt (aD.bind (aD.list (aD.fixed z)) fun _=>aD.pure _) (aD.pure _)
 ·exact aD.bind (aD.place z) fun _=>aD.bind (aD.need _ _) fun _=>aD.bind (aD.place z) fun _=>aD.pure _
 ·exact aD.bind (aD.list (aD.var z)) fun _=>aD.bind (aD.conds z) fun _=>aD.pure _
 ·exact aD.bind (aD.need _ _) fun _=>aD.bind (aD.expr z 12) fun _=>aD.pure _
theorem aD.item (z:Nat):aD (kV z):=by
 intro ts e o h;cases ts with
 | nil=>cases h;decide
 | cons t r =>
  unfold kV at h
  refine(aD.bind (aD.word z eM 1) fun k=>aD.bind (aD.ifP (aD.name z)) fun nm=>aD.bind (aD.part z k _) fun x=>?_) _ _ _ h
  by_cases hk:k=4
  ·simp only[if_pos hk]
   exact aD.bind (aD.need _ _) fun _=>aD.pure _
  ·simp only[if_neg hk]
   exact aD.bind (aD.need _ _) fun _=>aD.pure _
theorem vY (z:Nat):∀(f:Nat)(acc:List It)(ts:List Tok)(e:Int)(o:Nat),iP z f acc ts=.error (e,o)→e≠0
 | 0,_,_,_,_,h=>by cases h
 | f+1,acc,[],_,_,h=>by cases h
 | f+1,acc,t::q,e,o,h=>by
  by_cases hfull:acc.length=200
  ·rw[iP,if_pos hfull]at h;cases h;decide
  ·rw[iP,if_neg hfull]at h
   cases hp:kV z (t::q) with
   | error y=>rw[hp]at h;cases h;exact aD.item z _ _ _ hp
   | ok y =>
    obtain⟨x,r⟩:=y
    rw[hp]at h
    exact vY z f _ r e o h
theorem bpost_item {N:Nat}(z:Nat)(hN:1≤N):BPost N (kV z) (ItB (N+1)):=by
 intro ts x r hl h;cases ts with
 | nil=>rw[uR]at h;cases h
 | cons t q =>
  rw[itemP_G]at h
  refine(aV (N:=N) (φ:=ItB (N+1)) (Dec.word _ _ _) fun k=>aV (Dec.ifP (Dec.name z)) fun nm=>dI (Dec.part z k _) (bpost_part z hN k ?_) fun x hx=>aV (Dec.need _ _) fun _=>bW hx) _ _ _ hl h
  refine⟨by simp[x0,sC],by simp[x0,sC],by simp[x0,sC],by simp[x0,sC],by simp[x0,sC],by simp[x0,sC],?_⟩
  show ExB (N+1) ex0
  exact nF (by simp) (by simp) (by simp) trivial
theorem Its.bound {N z:Nat}(hN:1≤N) {ts:List Tok}{xs:List It}(h:Its z ts xs):ts.length≤N→∀ x∈xs,ItB (N+1) x:=by
 induction h with
 | nil=>intro _ x hx;cases hx
 | cons hp _ ih =>
  intro hl x hx
  rcases List.mem_cons.1 hx with rfl|hx
  ·exact bpost_item z hN _ _ _ hl hp
  ·exact ih (by have:=yK hp;omega) x hx
theorem parse_cases {t:List UInt8}(hl:t.length≤20000)(h:Heap)(hW:jE h) :
  cK Tryz.prog 13 [.string ⟨⟨t⟩⟩] h fun v h'=>(∃ e i,mG t=.error (e,i)∧e≠0∧v=.tuple ⟨[.agg ⟨[aK]⟩,.int .i64 e,.int .i64 i]⟩∧Own h [] h') ∨
   (∃ xs ts u c I,mG t=.ok xs∧tL t=.ok ts∧Its t.length ts xs∧xs.length≤200∧v=.tuple ⟨[.agg ⟨[.slice u xs.length c]⟩,.int .i64 0,.int .i64 0]⟩∧xT I (.slice u xs.length c) xs∧Own h [I] h'):=by
 refine(parse_spec t h (by omega) hW).mono fun v h' hp=>?_
 rw[iM,if_neg (by omega)]at hp
 cases hM:mG t with
 | error y =>
  obtain⟨e,i⟩:=y
  rw[hM]at hp
  refine .inl ⟨e,i,rfl,?_,hp⟩;unfold mG at hM;cases hL:tL t with
  | error y=>rw[hL]at hM;cases hM;exact oN.1 _ _ hL
  | ok ts=>rw[hL]at hM;exact vY _ _ _ _ _ _ hM
 | ok xs =>
  rw[hM]at hp
  obtain⟨u,I,rfl,hr,ho⟩:=hp
  have hL:∃ ts,tL t=.ok ts:=by
   unfold mG at hM;cases hL:tL t with
   | error y=>rw[hL]at hM;cases hM
   | ok ts=>exact⟨ts,rfl⟩
  obtain⟨ts,hL⟩:=hL
  obtain⟨h1,h2⟩:=(parseM_ok hL).1 hM
  obtain⟨cs,r1,r2⟩:=hr
  obtain⟨a,c,rfl⟩:=r1.isS (Own.satK ho 0 rfl)
  exact .inr ⟨xs,ts,a,c,I,rfl,hL,h1,h2,rfl,⟨cs,r1,r2⟩,ho⟩
theorem fixedQ_ok {l:List Nmd}{ps:List Pc}(h:uU l=some ps):∀ f∈l,NmdOK f:=by
 cases l with
 | nil=>intro f hf;cases hf
 | cons x r =>
  have h:=nO h;intro f hf
  rcases List.mem_cons.1 hf with rfl|hf
  ·obtain⟨p,hp⟩:=h (uV f) (by simp)
   exact fixQ_ok hp
  ·obtain⟨p,hp⟩:=h ((uV f).map (aP [] [44]::·)) (List.mem_cons_of_mem _ (List.mem_cons_of_mem _ (List.mem_map.2 ⟨f,hf,rfl⟩)))
   obtain⟨q,hq⟩:=lR hp
   exact fixQ_ok hq
theorem iR {x:Ex}(h:jP x=true):gR x∧eU x=1:=by
 obtain⟨k,tb,ks,cs,ns,a,s,g,o⟩:=x
 obtain⟨rfl,rfl,h3,h4,rfl,rfl,rfl,rfl⟩:=of_decide_eq_true h
 obtain rfl:=List.length_eq_zero_iff.1 h3;obtain rfl:=List.length_eq_zero_iff.1 h4
 refine⟨?_,by rw[eU,eW];rfl⟩
 rw[gR]
 exact⟨by omega,by simp,trivial,by simp,by simp,by simp,by simp,by omega,by simp,by simp,by simp⟩
def mQ (x:It):Prop:=x.table.length≤1000000000000000∧x.attr.length≤1000000000000000∧(∀ c∈x.cols,ColOK c)∧(∀ n∈x.names,n.length≤1000000000000000) ∧
 (-9223372036854775808≤x.by_∧x.by_≤9223372036854775807)∧(-9223372036854775808≤x.n∧x.n≤9223372036854775807)∧(-9223372036854775808≤x.m∧x.m≤9223372036854775807)∧(∀ t∈x.terms,TrmOK t)∧x.other.length≤1000000000000000∧x.oattr.length≤1000000000000000 ∧
 (∀ f∈x.fixed,NmdOK f)∧(∀ v∈x.vars,VrOK v)∧(∀ c∈x.conds,wI c)∧gR x.expr
theorem L0 {s:List UInt8}(h:s=[]):s.length≤1000000000000000:=by subst h;simp
theorem I0 {n:Int}(h:n=0):-9223372036854775808≤n∧n≤9223372036854775807:=by omega
theorem A0 {α:Type}{l:List α}{P:α→Prop}(h:l.length=0):∀ c∈l,P c:=by
 obtain rfl:=List.length_eq_zero_iff.1 h;intro c hc;cases hc
theorem N0 {α:Type}{l:List α}{P:α→Prop}(h:l=[]):∀ c∈l,P c:=by
 subst h;intro c hc;cases hc
theorem part_ok1 {N:Nat}(hN:N≤1000000000000000) {x:It}{ps:List Pc}(hk:x.kind=1)(hb:fI x=true)(hz:x.kind=10∨jP x.expr=true)(hB:ItB N x)(h:dS x=some ps):mQ x:=by
 obtain⟨b1,b2,b3,b4,b5,b6,b7,b8,b9,b10,b11,b12,b13,b14⟩:=of_decide_eq_true hb
 unfold dS at h
 rw[if_pos hk]at h
 obtain⟨_,_,_,h,_⟩:=aJ h
 obtain⟨_,_,e1,h,_⟩:=aJ h
 obtain⟨_,_,_,h,_⟩:=aJ h
 obtain⟨_,_,e2,h,_⟩:=aJ h
 exact⟨L0 (by rcases b2 with h|h|h|h|h|h|h<;>first|(exfalso;omega)|exact h),L0 (by rcases b3 with h|h|h|h|h<;>first|(exfalso;omega)|exact h),(fun c hc=>by obtain⟨_,_,e⟩:=sB e1 c hc;exact colQ_ok e),(qI e2),I0 (by rcases b6 with h|h|h<;>first|(exfalso;omega)|exact h),I0 (by rcases b7 with h|h|h|h<;>first|(exfalso;omega)|exact h),I0 (by rcases b8 with h|h<;>first|(exfalso;omega)|exact h),A0 (by rcases b9 with h|h<;>first|(exfalso;omega)|exact h),L0 (by rcases b10 with h|h<;>first|(exfalso;omega)|exact h),L0 (by rcases b11 with h|h<;>first|(exfalso;omega)|exact h),A0 (by rcases b12 with h|h<;>first|(exfalso;omega)|exact h),A0 (by rcases b13 with h|h<;>first|(exfalso;omega)|exact h),A0 (by rcases b14 with h|h<;>first|(exfalso;omega)|exact h),(iR (hz.resolve_left (by omega))).1⟩
theorem part_ok2 {N:Nat}(hN:N≤1000000000000000) {x:It}{ps:List Pc}(hk:x.kind=2)(hb:fI x=true)(hz:x.kind=10∨jP x.expr=true)(hB:ItB N x)(h:dS x=some ps):mQ x:=by
 obtain⟨b1,b2,b3,b4,b5,b6,b7,b8,b9,b10,b11,b12,b13,b14⟩:=of_decide_eq_true hb
 unfold dS at h
 rw[if_neg (by omega:¬ x.kind=1)]at h
 rw[if_pos hk]at h
 obtain⟨_,_,_,h,_⟩:=aJ h
 obtain⟨_,_,e1,h,_⟩:=aJ h
 exact⟨L0 (by rcases b2 with h|h|h|h|h|h|h<;>first|(exfalso;omega)|exact h),L0 (by rcases b3 with h|h|h|h|h<;>first|(exfalso;omega)|exact h),A0 (by rcases b4 with h|h<;>first|(exfalso;omega)|exact h),N0 (by rcases b5 with h|h|h|h<;>first|(exfalso;omega)|exact h),I0 (by rcases b6 with h|h|h<;>first|(exfalso;omega)|exact h),(jT e1),I0 (by rcases b8 with h|h<;>first|(exfalso;omega)|exact h),A0 (by rcases b9 with h|h<;>first|(exfalso;omega)|exact h),L0 (by rcases b10 with h|h<;>first|(exfalso;omega)|exact h),L0 (by rcases b11 with h|h<;>first|(exfalso;omega)|exact h),A0 (by rcases b12 with h|h<;>first|(exfalso;omega)|exact h),A0 (by rcases b13 with h|h<;>first|(exfalso;omega)|exact h),A0 (by rcases b14 with h|h<;>first|(exfalso;omega)|exact h),(iR (hz.resolve_left (by omega))).1⟩
theorem part_ok3 {N:Nat}(hN:N≤1000000000000000) {x:It}{ps:List Pc}(hk:x.kind=3)(hb:fI x=true)(hz:x.kind=10∨jP x.expr=true)(hB:ItB N x)(h:dS x=some ps):mQ x:=by
 obtain⟨b1,b2,b3,b4,b5,b6,b7,b8,b9,b10,b11,b12,b13,b14⟩:=of_decide_eq_true hb
 unfold dS at h
 rw[if_neg (by omega:¬ x.kind=1)]at h
 rw[if_neg (by omega:¬ x.kind=2)]at h
 rw[if_pos hk]at h
 obtain⟨_,_,_,h,_⟩:=aJ h
 obtain⟨_,_,e1,h,_⟩:=aJ h
 obtain⟨_,_,_,h,_⟩:=aJ h
 obtain⟨_,_,e2,h,_⟩:=aJ h
 obtain⟨_,_,e3,h,_⟩:=aJ h
 obtain⟨_,_,e4,h,_⟩:=aJ h
 exact⟨(iI e1).1,(iI e1).2,A0 (by rcases b4 with h|h<;>first|(exfalso;omega)|exact h),N0 (by rcases b5 with h|h|h|h<;>first|(exfalso;omega)|exact h),(nI (by decide) e2),(by split at e3;exact jT e3;exact I0 (by rcases b7 with h|h|h|h<;>first|(exfalso;omega)|exact h)),(by split at e4;exact jT e4;exact I0 (by rcases b8 with h|h<;>first|(exfalso;omega)|exact h)),A0 (by rcases b9 with h|h<;>first|(exfalso;omega)|exact h),L0 (by rcases b10 with h|h<;>first|(exfalso;omega)|exact h),L0 (by rcases b11 with h|h<;>first|(exfalso;omega)|exact h),A0 (by rcases b12 with h|h<;>first|(exfalso;omega)|exact h),A0 (by rcases b13 with h|h<;>first|(exfalso;omega)|exact h),A0 (by rcases b14 with h|h<;>first|(exfalso;omega)|exact h),(iR (hz.resolve_left (by omega))).1⟩
theorem part_ok4 {N:Nat}(hN:N≤1000000000000000) {x:It}{ps:List Pc}(hk:x.kind=4)(hb:fI x=true)(hz:x.kind=10∨jP x.expr=true)(hB:ItB N x)(h:dS x=some ps):mQ x:=by
 obtain⟨b1,b2,b3,b4,b5,b6,b7,b8,b9,b10,b11,b12,b13,b14⟩:=of_decide_eq_true hb
 unfold dS at h
 rw[if_neg (by omega:¬ x.kind=1)]at h
 rw[if_neg (by omega:¬ x.kind=2)]at h
 rw[if_neg (by omega:¬ x.kind=3)]at h
 rw[if_pos hk]at h
 obtain⟨_,_,_,h,_⟩:=aJ h
 obtain⟨_,_,e1,h,_⟩:=aJ h
 obtain⟨_,_,_,h,_⟩:=aJ h
 obtain⟨_,_,e2,h,_⟩:=aJ h
 obtain⟨_,_,_,h,_⟩:=aJ h
 have e3:=nO h
 exact⟨(dE e1),L0 (by rcases b3 with h|h|h|h|h<;>first|(exfalso;omega)|exact h),A0 (by rcases b4 with h|h<;>first|(exfalso;omega)|exact h),N0 (by rcases b5 with h|h|h|h<;>first|(exfalso;omega)|exact h),I0 (by rcases b6 with h|h|h<;>first|(exfalso;omega)|exact h),(jT e2),I0 (by rcases b8 with h|h<;>first|(exfalso;omega)|exact h),(fun t ht=>by obtain⟨p,hp⟩:=e3 (bC t) (by simpa using List.mem_map.2 ⟨t,ht,rfl⟩);exact termQ_ok hp),L0 (by rcases b10 with h|h<;>first|(exfalso;omega)|exact h),L0 (by rcases b11 with h|h<;>first|(exfalso;omega)|exact h),A0 (by rcases b12 with h|h<;>first|(exfalso;omega)|exact h),A0 (by rcases b13 with h|h<;>first|(exfalso;omega)|exact h),A0 (by rcases b14 with h|h<;>first|(exfalso;omega)|exact h),(iR (hz.resolve_left (by omega))).1⟩
theorem part_ok5 {N:Nat}(hN:N≤1000000000000000) {x:It}{ps:List Pc}(hk:x.kind=5)(hb:fI x=true)(hz:x.kind=10∨jP x.expr=true)(hB:ItB N x)(h:dS x=some ps):mQ x:=by
 obtain⟨b1,b2,b3,b4,b5,b6,b7,b8,b9,b10,b11,b12,b13,b14⟩:=of_decide_eq_true hb
 unfold dS at h
 rw[if_neg (by omega:¬ x.kind=1)]at h
 rw[if_neg (by omega:¬ x.kind=2)]at h
 rw[if_neg (by omega:¬ x.kind=3)]at h
 rw[if_neg (by omega:¬ x.kind=4)]at h
 rw[if_pos hk]at h
 obtain⟨_,_,e1,h,_⟩:=aJ h
 obtain⟨_,_,_,h,_⟩:=aJ h
 obtain⟨_,_,e2,h,_⟩:=aJ h
 exact⟨(iI e1).1,(iI e1).2,A0 (by rcases b4 with h|h<;>first|(exfalso;omega)|exact h),N0 (by rcases b5 with h|h|h|h<;>first|(exfalso;omega)|exact h),(nI (by decide) e2),I0 (by rcases b7 with h|h|h|h<;>first|(exfalso;omega)|exact h),I0 (by rcases b8 with h|h<;>first|(exfalso;omega)|exact h),A0 (by rcases b9 with h|h<;>first|(exfalso;omega)|exact h),L0 (by rcases b10 with h|h<;>first|(exfalso;omega)|exact h),L0 (by rcases b11 with h|h<;>first|(exfalso;omega)|exact h),A0 (by rcases b12 with h|h<;>first|(exfalso;omega)|exact h),A0 (by rcases b13 with h|h<;>first|(exfalso;omega)|exact h),A0 (by rcases b14 with h|h<;>first|(exfalso;omega)|exact h),(iR (hz.resolve_left (by omega))).1⟩
theorem part_ok6 {N:Nat}(hN:N≤1000000000000000) {x:It}{ps:List Pc}(hk:x.kind=6)(hb:fI x=true)(hz:x.kind=10∨jP x.expr=true)(hB:ItB N x)(h:dS x=some ps):mQ x:=by
 obtain⟨b1,b2,b3,b4,b5,b6,b7,b8,b9,b10,b11,b12,b13,b14⟩:=of_decide_eq_true hb
 unfold dS at h
 rw[if_neg (by omega:¬ x.kind=1)]at h
 rw[if_neg (by omega:¬ x.kind=2)]at h
 rw[if_neg (by omega:¬ x.kind=3)]at h
 rw[if_neg (by omega:¬ x.kind=4)]at h
 rw[if_neg (by omega:¬ x.kind=5)]at h
 rw[if_pos hk]at h
 obtain⟨_,_,_,h,_⟩:=aJ h
 obtain⟨_,_,e1,h,_⟩:=aJ h
 obtain⟨_,_,_,h,_⟩:=aJ h
 obtain⟨_,_,e2,h,_⟩:=aJ h
 obtain⟨_,_,_,h,_⟩:=aJ h
 exact⟨(dE e1),L0 (by rcases b3 with h|h|h|h|h<;>first|(exfalso;omega)|exact h),A0 (by rcases b4 with h|h<;>first|(exfalso;omega)|exact h),(qI e2),I0 (by rcases b6 with h|h|h<;>first|(exfalso;omega)|exact h),I0 (by rcases b7 with h|h|h|h<;>first|(exfalso;omega)|exact h),I0 (by rcases b8 with h|h<;>first|(exfalso;omega)|exact h),A0 (by rcases b9 with h|h<;>first|(exfalso;omega)|exact h),L0 (by rcases b10 with h|h<;>first|(exfalso;omega)|exact h),L0 (by rcases b11 with h|h<;>first|(exfalso;omega)|exact h),A0 (by rcases b12 with h|h<;>first|(exfalso;omega)|exact h),A0 (by rcases b13 with h|h<;>first|(exfalso;omega)|exact h),A0 (by rcases b14 with h|h<;>first|(exfalso;omega)|exact h),(iR (hz.resolve_left (by omega))).1⟩
theorem part_ok7 {N:Nat}(hN:N≤1000000000000000) {x:It}{ps:List Pc}(hk:x.kind=7)(hb:fI x=true)(hz:x.kind=10∨jP x.expr=true)(hB:ItB N x)(h:dS x=some ps):mQ x:=by
 obtain⟨b1,b2,b3,b4,b5,b6,b7,b8,b9,b10,b11,b12,b13,b14⟩:=of_decide_eq_true hb
 unfold dS at h
 rw[if_neg (by omega:¬ x.kind=1)]at h
 rw[if_neg (by omega:¬ x.kind=2)]at h
 rw[if_neg (by omega:¬ x.kind=3)]at h
 rw[if_neg (by omega:¬ x.kind=4)]at h
 rw[if_neg (by omega:¬ x.kind=5)]at h
 rw[if_neg (by omega:¬ x.kind=6)]at h
 rw[if_pos hk]at h
 obtain⟨_,_,_,h,_⟩:=aJ h
 obtain⟨_,_,e1,h,_⟩:=aJ h
 obtain⟨_,_,_,h,_⟩:=aJ h
 obtain⟨_,_,e2,h,_⟩:=aJ h
 obtain⟨_,_,_,h,_⟩:=aJ h
 obtain⟨_,_,e3,h,_⟩:=aJ h
 obtain⟨_,_,e4,h,_⟩:=aJ h
 exact⟨(dE e1),(dE e3),A0 (by rcases b4 with h|h<;>first|(exfalso;omega)|exact h),(qI e2),I0 (by rcases b6 with h|h|h<;>first|(exfalso;omega)|exact h),I0 (by rcases b7 with h|h|h|h<;>first|(exfalso;omega)|exact h),I0 (by rcases b8 with h|h<;>first|(exfalso;omega)|exact h),A0 (by rcases b9 with h|h<;>first|(exfalso;omega)|exact h),L0 (by rcases b10 with h|h<;>first|(exfalso;omega)|exact h),L0 (by rcases b11 with h|h<;>first|(exfalso;omega)|exact h),(fixedQ_ok e4),A0 (by rcases b13 with h|h<;>first|(exfalso;omega)|exact h),A0 (by rcases b14 with h|h<;>first|(exfalso;omega)|exact h),(iR (hz.resolve_left (by omega))).1⟩
theorem part_ok8 {N:Nat}(hN:N≤1000000000000000) {x:It}{ps:List Pc}(hk:x.kind=8)(hb:fI x=true)(hz:x.kind=10∨jP x.expr=true)(hB:ItB N x)(h:dS x=some ps):mQ x:=by
 obtain⟨b1,b2,b3,b4,b5,b6,b7,b8,b9,b10,b11,b12,b13,b14⟩:=of_decide_eq_true hb
 unfold dS at h
 rw[if_neg (by omega:¬ x.kind=1)]at h
 rw[if_neg (by omega:¬ x.kind=2)]at h
 rw[if_neg (by omega:¬ x.kind=3)]at h
 rw[if_neg (by omega:¬ x.kind=4)]at h
 rw[if_neg (by omega:¬ x.kind=5)]at h
 rw[if_neg (by omega:¬ x.kind=6)]at h
 rw[if_neg (by omega:¬ x.kind=7)]at h
 rw[if_pos hk]at h
 obtain⟨_,_,e1,h,_⟩:=aJ h
 obtain⟨_,_,_,h,_⟩:=aJ h
 obtain⟨_,_,e2,h,_⟩:=aJ h
 exact⟨(iI e1).1,(iI e1).2,A0 (by rcases b4 with h|h<;>first|(exfalso;omega)|exact h),N0 (by rcases b5 with h|h|h|h<;>first|(exfalso;omega)|exact h),I0 (by rcases b6 with h|h|h<;>first|(exfalso;omega)|exact h),I0 (by rcases b7 with h|h|h|h<;>first|(exfalso;omega)|exact h),I0 (by rcases b8 with h|h<;>first|(exfalso;omega)|exact h),A0 (by rcases b9 with h|h<;>first|(exfalso;omega)|exact h),(iI e2).1,(iI e2).2,A0 (by rcases b12 with h|h<;>first|(exfalso;omega)|exact h),A0 (by rcases b13 with h|h<;>first|(exfalso;omega)|exact h),A0 (by rcases b14 with h|h<;>first|(exfalso;omega)|exact h),(iR (hz.resolve_left (by omega))).1⟩
theorem part_ok9 {N:Nat}(hN:N≤1000000000000000) {x:It}{ps:List Pc}(hk:x.kind=9)(hb:fI x=true)(hz:x.kind=10∨jP x.expr=true)(hB:ItB N x)(h:dS x=some ps):mQ x:=by
 obtain⟨b1,b2,b3,b4,b5,b6,b7,b8,b9,b10,b11,b12,b13,b14⟩:=of_decide_eq_true hb
 unfold dS at h
 rw[if_neg (by omega:¬ x.kind=1)]at h
 rw[if_neg (by omega:¬ x.kind=2)]at h
 rw[if_neg (by omega:¬ x.kind=3)]at h
 rw[if_neg (by omega:¬ x.kind=4)]at h
 rw[if_neg (by omega:¬ x.kind=5)]at h
 rw[if_neg (by omega:¬ x.kind=6)]at h
 rw[if_neg (by omega:¬ x.kind=7)]at h
 rw[if_neg (by omega:¬ x.kind=8)]at h
 rw[if_pos hk]at h
 obtain⟨_,_,e1,h,_⟩:=aJ h
 obtain⟨_,_,e2,h,_⟩:=aJ h
 exact⟨L0 (by rcases b2 with h|h|h|h|h|h|h<;>first|(exfalso;omega)|exact h),L0 (by rcases b3 with h|h|h|h|h<;>first|(exfalso;omega)|exact h),A0 (by rcases b4 with h|h<;>first|(exfalso;omega)|exact h),N0 (by rcases b5 with h|h|h|h<;>first|(exfalso;omega)|exact h),I0 (by rcases b6 with h|h|h<;>first|(exfalso;omega)|exact h),I0 (by rcases b7 with h|h|h|h<;>first|(exfalso;omega)|exact h),I0 (by rcases b8 with h|h<;>first|(exfalso;omega)|exact h),A0 (by rcases b9 with h|h<;>first|(exfalso;omega)|exact h),L0 (by rcases b10 with h|h<;>first|(exfalso;omega)|exact h),L0 (by rcases b11 with h|h<;>first|(exfalso;omega)|exact h),A0 (by rcases b12 with h|h<;>first|(exfalso;omega)|exact h),(fun c hc=>by obtain⟨_,_,e⟩:=sB e1 c hc;exact varQ_ok e),(aAO e2),(iR (hz.resolve_left (by omega))).1⟩
theorem part_ok10 {N:Nat}(hN:N≤1000000000000000) {x:It}{ps:List Pc}(hk:x.kind=10)(hb:fI x=true)(hz:x.kind=10∨jP x.expr=true)(hB:ItB N x)(h:dS x=some ps):mQ x:=by
 obtain⟨b1,b2,b3,b4,b5,b6,b7,b8,b9,b10,b11,b12,b13,b14⟩:=of_decide_eq_true hb
 unfold dS at h
 rw[if_neg (by omega:¬ x.kind=1)]at h
 rw[if_neg (by omega:¬ x.kind=2)]at h
 rw[if_neg (by omega:¬ x.kind=3)]at h
 rw[if_neg (by omega:¬ x.kind=4)]at h
 rw[if_neg (by omega:¬ x.kind=5)]at h
 rw[if_neg (by omega:¬ x.kind=6)]at h
 rw[if_neg (by omega:¬ x.kind=7)]at h
 rw[if_neg (by omega:¬ x.kind=8)]at h
 rw[if_neg (by omega:¬ x.kind=9)]at h
 obtain⟨_,_,_,h,_⟩:=aJ h
 obtain⟨_,_,e1,h,_⟩:=aJ h
 exact⟨L0 (by rcases b2 with h|h|h|h|h|h|h<;>first|(exfalso;omega)|exact h),L0 (by rcases b3 with h|h|h|h|h<;>first|(exfalso;omega)|exact h),A0 (by rcases b4 with h|h<;>first|(exfalso;omega)|exact h),N0 (by rcases b5 with h|h|h|h<;>first|(exfalso;omega)|exact h),I0 (by rcases b6 with h|h|h<;>first|(exfalso;omega)|exact h),I0 (by rcases b7 with h|h|h|h<;>first|(exfalso;omega)|exact h),I0 (by rcases b8 with h|h<;>first|(exfalso;omega)|exact h),A0 (by rcases b9 with h|h<;>first|(exfalso;omega)|exact h),L0 (by rcases b10 with h|h<;>first|(exfalso;omega)|exact h),L0 (by rcases b11 with h|h<;>first|(exfalso;omega)|exact h),A0 (by rcases b12 with h|h<;>first|(exfalso;omega)|exact h),A0 (by rcases b13 with h|h<;>first|(exfalso;omega)|exact h),A0 (by rcases b14 with h|h<;>first|(exfalso;omega)|exact h),(exQ_ok hN x.expr _ _ e1 hB.expr)⟩
theorem part_ok {N:Nat}(hN:N≤1000000000000000) {x:It}{ps:List Pc}(h1:1≤x.kind)(h10:x.kind≤10)(hb:fI x=true)(hz:x.kind=10∨jP x.expr=true)(hB:ItB N x)(h:dS x=some ps):mQ x:=by
 rcases(show x.kind=1∨x.kind=2∨x.kind=3∨x.kind=4∨x.kind=5∨x.kind=6∨x.kind=7∨x.kind=8∨x.kind=9∨x.kind=10 by omega) with e|e|e|e|e|e|e|e|e|e
 ·exact part_ok1 hN e hb hz hB h
 ·exact part_ok2 hN e hb hz hB h
 ·exact part_ok3 hN e hb hz hB h
 ·exact part_ok4 hN e hb hz hB h
 ·exact part_ok5 hN e hb hz hB h
 ·exact part_ok6 hN e hb hz hB h
 ·exact part_ok7 hN e hb hz hB h
 ·exact part_ok8 hN e hb hz hB h
 ·exact part_ok9 hN e hb hz hB h
 ·exact part_ok10 hN e hb hz hB h
theorem item_ok {N:Nat}(hN:N≤1000000000000000) {x:It}{ps:List Pc}(h:iO x=some ps)(hB:ItB N x):jX x:=by
 unfold iO at h;split at h
 ·rename_i hc
  obtain⟨h1,h10,hb,hz⟩:=hc
  obtain⟨_,_,_,h,_⟩:=aJ h
  obtain⟨_,_,e1,h,_⟩:=aJ h
  obtain⟨_,_,e2,_,_⟩:=aJ h
  obtain⟨p1,p2,p3,p4,p5,p6,p7,p8,p9,p10,p11,p12,p13,p14⟩:=part_ok hN h1 h10 hb hz hB e2
  have hnm:x.name.length≤1000000000000000:=by
   split at e1
   ·rename_i h5
    exact L0 ((of_decide_eq_true hb).1 h5)
   ·exact dE e1
  have:=hB.cols
  have:=hB.names
  have:=hB.terms
  have:=hB.fixed
  have:=hB.vars
  have:=hB.conds
  exact⟨by omega,hnm,p1,p2,p3,p4,p5,p6,p7,p8,p9,p10,p11,p12,p13,p14,by omega,by omega,by omega,by omega,by omega,by omega⟩
 ·cases h
theorem item_size {x:It}{ps:List Pc}(h:iO x=some ps)(hf:iA x=true)(hB:ItB 5001 x):eC x≤50000000:=by
 have:=hB.cols
 have:=hB.names
 have:=hB.terms
 have:=hB.fixed
 have:=hB.vars
 have:=hB.conds
 have he:eU x.expr≤41000000:=by
  unfold iO at h;split at h
  ·rename_i hc
   obtain⟨h1,h10,hb,hz⟩:=hc
   obtain⟨_,_,_,h,_⟩:=aJ h
   obtain⟨_,_,_,h,_⟩:=aJ h
   obtain⟨_,_,e2,_,_⟩:=aJ h
   by_cases hk:x.kind=10
   ·unfold dS at e2
    rw[if_neg (by omega),if_neg (by omega),if_neg (by omega),if_neg (by omega),if_neg (by omega),if_neg (by omega),if_neg (by omega),if_neg (by omega),if_neg (by omega)]at e2
    obtain⟨_,_,_,e2,_⟩:=aJ e2
    obtain⟨_,_,e3,_,_⟩:=aJ e2
    have:=ex_size (N:=5001) (C:=10003) rfl x.expr _ _ 12 e3 hB.expr (of_decide_eq_true hf hk)
    have e:2 ^ 12*10003=40972288:=rfl
    omega
   ·have:=(iR (hz.resolve_left hk)).2
    omega
  ·cases h
 unfold eC
 omega
theorem parsed_ok {z:Nat}{ts:List Tok}{t:List UInt8}{xs:List It}(hL:tL t=.ok ts)(h:Its z ts xs):(∀ x∈xs,jX x)∧∀ x∈xs,eC x≤50000000:=by
 obtain⟨⟨ls,h1⟩,h2⟩:=its_pr h (lexGo_gt _ _ _ _ hL)
 have hl:=(oN.2 ts hL).1;have hB:=h.bound (N:=5000) (by decide) (by omega);have hq:∀ x∈xs,∃ ps,iO x=some ps:=fun x hx=>by
  obtain⟨i,hi⟩:=List.mem_iff_getElem?.1 hx
  obtain⟨y,_,hy⟩:=(uM h1).2 i x hi
  exact⟨y,hy⟩
 refine⟨fun x hx=>?_,fun x hx=>?_⟩
 ·obtain⟨ps,hp⟩:=hq x hx
  exact item_ok (N:=5001) (by decide) hp (hB x hx)
 ·obtain⟨ps,hp⟩:=hq x hx
  exact item_size hp (List.all_eq_true.1 h2 x hx) (hB x hx)
end Go.Proofs.YtohlogbnpfofpaaGreatDoor
