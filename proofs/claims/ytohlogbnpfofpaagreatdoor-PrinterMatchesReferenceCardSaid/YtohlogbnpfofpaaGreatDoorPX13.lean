/- Part 13 of the proof of matches_lifted: FnZl, FnL1, FnL2, FnL3, FnL4, FnL5, FnL6, FnL7, FnL8, FnL9, FnL10, FnZf, FnM2. -/
import Derived.Test.YtohlogbnpfofpaaGreatDoorPX12
set_option linter.all false
set_option maxHeartbeats 100000000
set_option maxRecDepth 100000
namespace Go.Proofs.YtohlogbnpfofpaaGreatDoor
open Go StillVC
def xK:List aBs:=[[32,101,113,117,97,108],[32,101,100,105,116],[32,106,97,99,99,97,114,100],[32,106,97,114,111],[32,110,101,97,114]]
theorem term_parts {x:Trm}{q:List Pc}(h:bM x=some q):∃ t:aBs,1<=x.measure/\x.measure<=5/\xK[(x.measure - 1).toNat]?=some t/\aZ x.attr=true/\(x.measure=5->dB x.tol=true)/\dB x.num=true/\(x.den≠1->dB x.den=true)/\dB x.gives=true/\(x.takes≠0->dB x.takes=true) /\
  txts q=[10::32::32::x.attr,t]++((if x.measure=5 then[32::Lib.itoa x.tol] else[])++([[32,108,101,97,115,116],32::Lib.itoa x.num]++((if x.den=1 then[] else[[47],Lib.itoa x.den])++([[32,103,105,118,101,115],32::Lib.itoa x.gives]++((if x.takes=0 then[] else[[32,116,97,107,101,115],32::Lib.itoa x.takes])++[[59]]))))):=by
 obtain⟨p1,q1,e1,g1',rfl⟩:=aN h
 obtain⟨p2,q2,e2,g2',rfl⟩:=aN g1'
 obtain⟨p3,q3,e3,g3',rfl⟩:=aN g2'
 obtain⟨p4,q4,e4,g4',rfl⟩:=aN g3'
 obtain⟨p5,q5,e5,g5',rfl⟩:=aN g4'
 obtain⟨p6,q6,e6,g6',rfl⟩:=aN g5'
 obtain⟨p7,q7,e7,g7',rfl⟩:=aN g6'
 obtain⟨p8,q8,e8,g8',rfl⟩:=aN g7'
 obtain⟨p9,q9,e9,g9',rfl⟩:=aN g8'
 obtain⟨p10,q10,e10,g10',rfl⟩:=aN g9'
 obtain rfl:=dL g10'
 obtain⟨hn1,rfl⟩:=bQ e1
 obtain⟨h1,h5,t,ht,hp⟩:=zW e2
 cases e4
 obtain⟨hn5,rfl⟩:=iM e5
 cases e7
 obtain⟨hn8,rfl⟩:=iM e8
 cases e10
 have g3:(x.measure=5->dB x.tol=true)/\txts p3=if x.measure=5 then[32::Lib.itoa x.tol] else[]:=by
  split at e3
  ·rename_i hm
   obtain⟨hn,rfl⟩:=iM e3
   rw[if_pos hm]
   exact⟨λ_=>hn,rfl⟩
  ·rename_i hm
   split at e3
   ·cases e3
    rw[if_neg hm]
    exact⟨λh=>absurd h hm,rfl⟩
   ·cases e3
 have g6:(x.den≠1->dB x.den=true)/\txts p6=if x.den=1 then[] else[[47],Lib.itoa x.den]:=by
  split at e6
  ·rename_i hm
   cases e6
   rw[if_pos hm]
   exact⟨λh=>absurd hm h,rfl⟩
  ·rename_i hm
   cases hq:iU [] x.den with
   | none=>rw[hq]at e6;cases e6
   | some pp =>
    rw[hq]at e6
    cases e6
    obtain⟨hn,rfl⟩:=iM hq
    rw[if_neg hm]
    exact⟨λ_=>hn,rfl⟩
 have g9:(x.takes≠0->dB x.takes=true)/\txts p9=if x.takes=0 then[] else[[32,116,97,107,101,115],32::Lib.itoa x.takes]:=by
  split at e9
  ·rename_i hm
   cases e9
   rw[if_pos hm]
   exact⟨λh=>absurd hm h,rfl⟩
  ·rename_i hm
   cases hq:iU [32] x.takes with
   | none=>rw[hq]at e9;cases e9
   | some pp =>
    rw[hq]at e9
    cases e9
    obtain⟨hn,rfl⟩:=iM hq
    rw[if_neg hm]
    exact⟨λ_=>hn,rfl⟩
 refine⟨t,h1,by simpa using h5,by simpa[xK] using ht,hn1,g3.1,hn5,g6.1,hn8,g9.1,?_⟩
 rw[← g3.2,← g6.2,← g9.2]
 simp only[cM,cN,cW,hp,dU,gT,eT]
 simp
theorem aCF (x:It)(c:aVs)(h:Heap)(pt:List Pc)(hc:nP h c x)(hOK:fO x)(hz:dF x<=50000000)(hq:dD (λ_=>bM) x.terms=some pt)(hnm:x.name.length<=24)(htm:x.table.length<=24)(hnum:dB x.n=true) :
  bG Tryz.prog 39 [.agg ⟨c⟩] h (iR h ([[109,97,116,99,104],32::x.name,[32,111,110],32::x.table,[32,97,116],32::Lib.itoa x.n,[32,123]]++txts pt++[[10,125]])):=by
 have hz0:dF x=1+x.cols.length+x.names.length+x.terms.length+x.fixed.length+x.vars.length+x.conds.length+fD x.expr:=rfl
 obtain⟨z,vc,vn,vt,vf,vv,vd,e0,e1,e2,e3,e4,e5,e6,e7,e8,rfl,w1,w2,w3,w4,w5,w6,rx⟩:=hc
 obtain⟨i3,j3,rfl⟩:=w3.isS
 obtain⟨bkind,bname,btable,battr,bcols,bnames,bby,bn,bm,bterms,both,boat,bfixed,bvars,bconds,bexpr,lcols,lnames,lterms,lfixed,lvars,lconds⟩:=hOK
 have hnl:=bS hnum;unfold eD;refine eN Tryz.func39 Tryz.ntmps39 ?_;have o0:=Own.refl h;refine xB o0 λb10 m10 o10=>?_;refine d1_ [0,2,3,5,6,9,11] [1,4,7] [10] [0,1,2,3,4,5,6,7,8,9,10,11] ?_;refine fC aA ?_;refine oC o10 0 aC ?_;refine aDb rfl rfl (by first|omega|(simp<;>omega)) ?_;refine fC aA ?_;refine oC o10 0 aC ?_;refine aDb rfl rfl (by first|omega|(simp<;>omega)) ?_;refine fC aA ?_;refine oC o10 0 aK ?_;refine aDN (fL x.n _ bn.1 bn.2) ?_;rintro _ h2 ⟨rfl,oc⟩;have o2:=oc.thenE (B:=h) zA
 refine⟨oc.ext,?_⟩
 have o2:Own h [box b10 [iv x.kind,sv x.name,iv z,sv x.table,sv x.attr,vc,vn,iv x.by_,iv x.n,iv x.m,.slice i3 x.terms.length j3,sv x.other,sv x.oattr,vf,vv,vd,e0,e1,e2,e3,e4,e5,e6,e7,e8] 44] h2:=o2;clear o0 oc;refine aDb rfl rfl (by first|omega|(simp<;>omega)) ?_;refine lA o2 aB aC λb41 m41 o41=>?_
 obtain⟨HD,hHD⟩:∃ HD,HD=[[109,97,116,99,104],32::x.name,[32,111,110],32::x.table,[32,97,116],32::Lib.itoa x.n,[32,123]]:=⟨_,rfl⟩
 have hHn:HD.length=7:=by rw[hHD];rfl
 have o1:Own h [box b10 [iv x.kind,sv x.name,iv z,sv x.table,sv x.attr,vc,vn,iv x.by_,iv x.n,iv x.m,.slice i3 x.terms.length j3,sv x.other,sv x.oattr,vf,vv,vd,e0,e1,e2,e3,e4,e5,e6,e7,e8] 44,row (.slice (some ⟨b41,0,none⟩) 7 7) 9 1 HD.length (strs HD)] m41:=by
  have o2:=o41.litRow (L:=[[109,97,116,99,104],32::x.name,[32,111,110],32::x.table,[32,97,116],32::Lib.itoa x.n,[32,123]]) 1 rfl zS
  rw[hHD]
  exact o2
 clear o41 o2
 rw[← hHD]
 refine aDT [3,4,5,17,18,19,20,21,22,23,24,25,26,27,28,29,30,31,32,33,34,35,36,37,38,39,40,41,42,43,44,45,46,47,48,49,50,51,52,53,54,55,56,57,58,59,60,61,62,63,64,65,66,67,68,69,70,71,72,73,74,75,76,77,78,79,80,81,82,83,84,85,86,87,88,89] [3,4] (λws hh=>∃(i:Nat) (v:Value) (p:List Pc),i<=x.terms.length/\ws=[v,.int .i64 i]/\dD (λ_=>bM) (x.terms.take i)=some p/\p.length<=12*i/\Own h [box b10 [.int .i64 x.kind,.string ⟨⟨x.name⟩⟩,.int .i64 z,.string ⟨⟨x.table⟩⟩,.string ⟨⟨x.attr⟩⟩,vc,vn,.int .i64 x.by_,.int .i64 x.n,.int .i64 x.m,.slice i3 x.terms.length j3,.string ⟨⟨x.other⟩⟩,.string ⟨⟨x.oattr⟩⟩,vf,vv,vd,e0,e1,e2,e3,e4,e5,e6,e7,e8] 44,row v 9 1 (HD++txts p).length (strs (HD++txts p))] hh) (λws _=>match ws with|[_,.int _ i]=>x.terms.length - i.toNat|_=>0) ?_ ?_
 ·exact⟨0,_,[],by omega,rfl,rfl,by simp,by rw[cW,aD7];exact o1⟩
 rintro ws junk hh ⟨i,v,p,hi,rfl,hp,hpl,oh⟩;clear o1;have hptl:=fZ p;have hLn:(HD++txts p).length=p.length+7:=by rw[aDX];omega
 by_cases hlt:i<x.terms.length
 ·obtain⟨y,hy⟩:=getx hlt
  have hyOK:=bterms y (aDY hy)
  obtain⟨q,hqx,hnx⟩:=oV hy hp hq
  have hqlen:=ln_term _ _ hqx
  obtain⟨t,hk1,hk5,ht,hyn,ht5,hnn,hnd,hng,hnt,hqt⟩:=term_parts hqx
  have hynl:=bJ hyn;have hfin:HD++txts (p++q)=(HD++txts p)++([10::32::32::y.attr,t]++((if y.measure=5 then[32::Lib.itoa y.tol] else[])++([[32,108,101,97,115,116],32::Lib.itoa y.num]++((if y.den=1 then[] else[[47],Lib.itoa y.den])++([[32,103,105,118,101,115],32::Lib.itoa y.gives]++((if y.takes=0 then[] else[[32,116,97,107,101,115],32::Lib.itoa y.takes])++[[59]])))))):=by rw[cM,hqt,aEb]
  generalize HD++txts p=LL at oh hLn hfin
  have hw5:(xK.map λs=>Value.string ⟨⟨s⟩⟩)[0+(y.measure - 1).toNat]?=some (sv t):=by rw[aEg,aEv,ht];rfl
  refine fB aA ?_;refine oB oh 0 mC ?_;refine lB mE ?_;refine bB λc103=>fB aA ?_;refine oB oh 0 mC ?_;refine rR (aDe mE cT (w3.ext oh.ext) rfl zO zO ?_);refine rR (aDg cT (w3.ext oh.ext) (λ_=>rfl) zD rfl zA ?_);refine aDH oh cT λb108 m108 o108=>?_;(refine sA o108 2 cT ?_;intro m109 o109);refine d1_ [0,1,3,5,7,8,12] [2,6,9] [10,11] [0,1,2,3,5,6,7,4,8,9,10,11,12] ?_;refine fC bO ?_;refine oC o109 2 aC ?_;refine aDb rfl rfl (by first|omega|(simp<;>omega)) ?_;refine fC bO ?_;refine oC o109 2 aK ?_;refine aR (lA (Own.refl _) aB aC λb115 m115 o115=>?_);(refine aI o115.ext ?_;have o116:=Own.call o109 o115;simp only[lcA,lnA]at o116;clear o115);refine idx aB aC (o116.boxArr 3 rfl zS zS) rfl zO (by first|omega|(simp<;>omega)) ?_;refine aDu o116 3 rfl aC rfl zA ?_;refine lA o116 aB aC λb119 m119 o119=>?_;(refine aDI o119 1 rfl aB aC zD (o119.boxArr 4 rfl zS zS).toN c_ (by simp only[maxLen];first|omega|(simp<;>omega)) (by first|omega|(simp<;>omega)) ?_;intro v120 m120 o120);refine fB bO ?_;refine oB o120 2 aK ?_;have hfin1:HD++txts (p++q)=(LL++[10::32::32::y.attr,t])++((if y.measure=5 then[32::Lib.itoa y.tol] else[])++([[32,108,101,97,115,116],32::Lib.itoa y.num]++((if y.den=1 then[] else[[47],Lib.itoa y.den])++([[32,103,105,118,101,115],32::Lib.itoa y.gives]++((if y.takes=0 then[] else[[32,116,97,107,101,115],32::Lib.itoa y.takes])++[[59]]))))):=by rw[hfin,aEb]
  have oA:Own h [box b10 [iv x.kind,sv x.name,iv z,sv x.table,sv x.attr,vc,vn,iv x.by_,iv x.n,iv x.m,.slice i3 x.terms.length j3,sv x.other,sv x.oattr,vf,vv,vd,e0,e1,e2,e3,e4,e5,e6,e7,e8] 44,row v120 9 1 (LL++[10::32::32::y.attr,t]).length (strs (LL++[10::32::32::y.attr,t])),box b108 [sv y.attr,iv y.measure,iv y.tol,iv y.num,iv y.den,iv y.gives,iv y.takes] 136] m120:=by rw[aDX,eF];exact o120.sel [0,1,2] rfl
  have hL1:(LL++[10::32::32::y.attr,t]).length=LL.length+2:=by rw[aDX];rfl
  clear o120 oh hfin hw5;generalize LL++[10::32::32::y.attr,t]=L1 at hfin1 oA hL1;refine Br.join [3,44,45,46,47,48,49,50] [3] (λus h'=>∃(v':Value) (L':List aBs),us=[v']/\L'.length<=LL.length+3/\HD++txts (p++q)=L'++([[32,108,101,97,115,116],32::Lib.itoa y.num]++((if y.den=1 then[] else[[47],Lib.itoa y.den])++([[32,103,105,118,101,115],32::Lib.itoa y.gives]++((if y.takes=0 then[] else[[32,116,97,107,101,115],32::Lib.itoa y.takes])++[[59]]))))/\Own h [box b10 [iv x.kind,sv x.name,iv z,sv x.table,sv x.attr,vc,vn,iv x.by_,iv x.n,iv x.m,.slice i3 x.terms.length j3,sv x.other,sv x.oattr,vf,vv,vd,e0,e1,e2,e3,e4,e5,e6,e7,e8] 44,row v' 9 1 (L').length (strs (L')),box b108 [sv y.attr,iv y.measure,iv y.tol,iv y.num,iv y.den,iv y.gives,iv y.takes] 136] h') rfl rfl ?_ ?_
  ·by_cases hm:y.measure=5
   ·have hnm':=ht5 hm
    rw[if_pos hm]at hfin1
    have hil:=bS hnm';refine bB λc190=>fB bO ?_;refine oB oA 2 aK ?_;refine aDN (fL y.tol _ hyOK.2.2.1.1 hyOK.2.2.1.2) ?_;rintro _ h3 ⟨rfl,oc⟩;have o3:=oc.thenE (B:=h) oA;clear oc;refine rR (aDb rfl rfl (by first|omega|(simp<;>omega)) ?_);refine lA o3 aB aC λb231 m231 o231=>?_;(refine aDI o231 1 rfl aB aC zD (o231.boxArr 3 rfl zS zS).toN c_ (by simp only[maxLen];first|omega|(simp<;>omega)) (by first|omega|(simp<;>omega)) ?_;intro v232 m232 o232)
    refine⟨rfl,?_⟩
    refine⟨_,L1++[32::Lib.itoa y.tol],rfl,by rw[aDX];simp only[aD1,aD2];omega,by rw[hfin1,aEb],?_⟩
    rw[aDX,eF]
    exact o_ [0,1,2]
   ·rw[if_neg hm,lnA]at hfin1
    refine bA λc270=>?_
    refine⟨rfl,?_⟩
    exact⟨_,L1,rfl,by omega,hfin1,oA⟩
  rintro us junk h1' ⟨v1',L2,rfl,hL2,hfin2,o1'⟩;clear oA hfin1;have hil2:=bS hnn;refine fB bO ?_;refine fB iK ?_;refine oB o1' 2 aK ?_;refine aDN (fL y.num _ hyOK.2.2.2.1.1 hyOK.2.2.2.1.2) ?_;rintro _ h22 ⟨rfl,oc⟩;have o22:=oc.thenE (B:=h) o1';clear oc o1';have hf2:HD++txts (p++q)=(L2++[[32,108,101,97,115,116],32::Lib.itoa y.num])++((if y.den=1 then[] else[[47],Lib.itoa y.den])++([[32,103,105,118,101,115],32::Lib.itoa y.gives]++((if y.takes=0 then[] else[[32,116,97,107,101,115],32::Lib.itoa y.takes])++[[59]]))):=by rw[hfin2,aEb]
  have hM2:(L2++[[32,108,101,97,115,116],32::Lib.itoa y.num]).length=L2.length+2:=by rw[aDX];rfl
  clear hfin2;refine rR (aDb rfl rfl (by first|omega|(simp<;>omega)) ?_);refine lA o22 aB aC λb351 m351 o351=>?_;(refine aDI o351 1 rfl aB aC zD (o351.boxArr 3 rfl zS zS).toN c_ (by simp only[maxLen];first|omega|(simp<;>omega)) (by first|omega|(simp<;>omega)) ?_;intro v352 m352 o352);refine fB bO ?_;refine fB iK ?_;refine oB o352 2 aK ?_;refine Br.join [3,63,64,65,66,67,68,69] [3] (λus h'=>∃(v':Value) (L':List aBs),us=[v']/\L'.length<=LL.length+7/\HD++txts (p++q)=L'++([[32,103,105,118,101,115],32::Lib.itoa y.gives]++((if y.takes=0 then[] else[[32,116,97,107,101,115],32::Lib.itoa y.takes])++[[59]]))/\Own h [box b10 [iv x.kind,sv x.name,iv z,sv x.table,sv x.attr,vc,vn,iv x.by_,iv x.n,iv x.m,.slice i3 x.terms.length j3,sv x.other,sv x.oattr,vf,vv,vd,e0,e1,e2,e3,e4,e5,e6,e7,e8] 44,row v' 9 1 (L').length (strs (L')),box b108 [sv y.attr,iv y.measure,iv y.tol,iv y.num,iv y.den,iv y.gives,iv y.takes] 136] h') rfl rfl ?_ ?_
  ·by_cases hm:y.den≠1
   ·have hnm':=hnd hm
    rw[if_neg hm]at hf2
    have hil:=bS hnm';refine bD λc390=>fB bO ?_;refine fB iK ?_;refine oB o352 2 aK ?_;refine aDN (fL y.den _ hyOK.2.2.2.2.1.1 hyOK.2.2.2.2.1.2) ?_;rintro _ h3 ⟨rfl,oc⟩;have o3:=oc.thenE (B:=h) zA;clear oc;refine lA o3 aB aC λb430 m430 o430=>?_;(refine aDI o430 1 rfl aB aC zD (o430.boxArr 4 rfl zS zS).toN c_ (by simp only[maxLen];first|omega|(simp<;>omega)) (by first|omega|(simp<;>omega)) ?_;intro v431 m431 o431)
    refine⟨rfl,?_⟩
    refine⟨_,(L2++[[32,108,101,97,115,116],32::Lib.itoa y.num])++[[47],Lib.itoa y.den],rfl,by rw[aDX,hM2];simp only[aD1,aD2];omega,by rw[hf2,aEb (L2++[[32,108,101,97,115,116],32::Lib.itoa y.num])],?_⟩
    rw[aDX,aDX,eF,eF]
    exact o_ [0,1,2]
   ·rw[if_pos (Classical.not_not.1 hm),lnA]at hf2
    refine bC λc470=>?_
    refine⟨rfl,?_⟩
    refine⟨_,L2++[[32,108,101,97,115,116],32::Lib.itoa y.num],rfl,by rw[hM2];omega,hf2,?_⟩
    rw[aDX,eF]
    exact o_ [0,1,2]
  rintro us junk h2' ⟨v2',L3,rfl,hL3,hfin3,o2'⟩;have hil3:=bS hng;refine fB bO ?_;refine oB o2' 2 aK ?_;refine aDN (fL y.gives _ hyOK.2.2.2.2.2.1.1 hyOK.2.2.2.2.2.1.2) ?_;rintro _ h23 ⟨rfl,oc⟩;have o23:=oc.thenE (B:=h) o2';clear oc o2';have hf3:HD++txts (p++q)=(L3++[[32,103,105,118,101,115],32::Lib.itoa y.gives])++((if y.takes=0 then[] else[[32,116,97,107,101,115],32::Lib.itoa y.takes])++[[59]]):=by rw[hfin3,aEb]
  have hM3:(L3++[[32,103,105,118,101,115],32::Lib.itoa y.gives]).length=L3.length+2:=by rw[aDX];rfl
  clear hfin3;refine rR (aDb rfl rfl (by first|omega|(simp<;>omega)) ?_);refine lA o23 aB aC λb551 m551 o551=>?_;(refine aDI o551 1 rfl aB aC zD (o551.boxArr 3 rfl zS zS).toN c_ (by simp only[maxLen];first|omega|(simp<;>omega)) (by first|omega|(simp<;>omega)) ?_;intro v552 m552 o552);refine fB bO ?_;refine oB o552 2 aK ?_;refine Br.join [3,80,81,82,83,84,85,86] [3] (λus h'=>∃(v':Value) (L':List aBs),us=[v']/\L'.length<=LL.length+11/\HD++txts (p++q)=L'++[[59]]/\Own h [box b10 [iv x.kind,sv x.name,iv z,sv x.table,sv x.attr,vc,vn,iv x.by_,iv x.n,iv x.m,.slice i3 x.terms.length j3,sv x.other,sv x.oattr,vf,vv,vd,e0,e1,e2,e3,e4,e5,e6,e7,e8] 44,row v' 9 1 (L').length (strs (L')),box b108 [sv y.attr,iv y.measure,iv y.tol,iv y.num,iv y.den,iv y.gives,iv y.takes] 136] h') rfl rfl ?_ ?_
  ·by_cases hm:y.takes≠0
   ·have hnm':=hnt hm
    rw[if_neg hm]at hf3
    have hil:=bS hnm';refine bD λc590=>fB bO ?_;refine oB o552 2 aK ?_;refine aDN (fL y.takes _ hyOK.2.2.2.2.2.2.1 hyOK.2.2.2.2.2.2.2) ?_;rintro _ h3 ⟨rfl,oc⟩;have o3:=oc.thenE (B:=h) zA;clear oc;refine rR (aDb rfl rfl (by first|omega|(simp<;>omega)) ?_);refine lA o3 aB aC λb631 m631 o631=>?_;(refine aDI o631 1 rfl aB aC zD (o631.boxArr 4 rfl zS zS).toN c_ (by simp only[maxLen];first|omega|(simp<;>omega)) (by first|omega|(simp<;>omega)) ?_;intro v632 m632 o632)
    refine⟨rfl,?_⟩
    refine⟨_,(L3++[[32,103,105,118,101,115],32::Lib.itoa y.gives])++[[32,116,97,107,101,115],32::Lib.itoa y.takes],rfl,by rw[aDX,hM3];simp only[aD1,aD2];omega,by rw[hf3,aEb (L3++[[32,103,105,118,101,115],32::Lib.itoa y.gives])],?_⟩
    rw[aDX,aDX,eF,eF]
    exact o_ [0,1,2]
   ·rw[if_pos (Classical.not_not.1 hm),lnA]at hf3
    refine bC λc670=>?_
    refine⟨rfl,?_⟩
    refine⟨_,L3++[[32,103,105,118,101,115],32::Lib.itoa y.gives],rfl,by rw[hM3];omega,hf3,?_⟩
    rw[aDX,eF]
    exact o_ [0,1,2]
  rintro us junk h3' ⟨v3',L4,rfl,hL4,hfin4,o3'⟩;have hM9:(HD++txts (p++q)).length=L4.length+1:=by rw[hfin4,aDX];rfl
  refine lA o3' aB aC λb710 m710 o710=>?_;(refine aDI o710 1 rfl aB aC zD (o710.boxArr 3 rfl zS zS).toN c_ (by simp only[maxLen];first|omega|(simp<;>omega)) (by first|omega|(simp<;>omega)) ?_;intro v711 m711 o711);refine aR ?_
  refine⟨rfl,?_⟩
  refine⟨⟨i+1,_,p++q,by omega,rfl,hnx,by rw[aDX];omega,?_⟩,by simp;omega⟩
  rw[hfin4,aDX,eF]
  exact o_ [0,1]
 ·rw[fF zO hp]at hq
  obtain rfl:=Option.some.inj hq;generalize HD++txts p=LL at oh hLn ⊢;refine fB aA ?_;refine oB oh 0 mC ?_;refine lB mE ?_;refine bA λc703=>lA oh aB aC λb704 m704 o704=>?_;(refine aDI o704 1 rfl aB aC zD (o704.boxArr 2 rfl zS zS).toN c_ (by simp only[maxLen];first|omega|(simp<;>omega)) (by first|omega|(simp<;>omega)) ?_;intro v705 m705 o705);refine rO ?_;exact iR.row _ zA 1 rfl zS (by simp[strs])
theorem rline1_spec (x:It)(c:aVs)(h:Heap)(pp:List Pc)(hk:x.kind=1)(hc:nP h c x)(hOK:fO x)(hz:dF x<=50000000)(hq:eP x=some pp)(hnm:x.name.length<=24) :
  bG Tryz.prog 24 [.agg ⟨c⟩] h (iR h ([116,97,98,108,101]::(32::x.name)::(txts pp++[[59]]))):=by
 have hz0:dF x=1+x.cols.length+x.names.length+x.terms.length+x.fixed.length+x.vars.length+x.conds.length+fD x.expr:=rfl;have hcx:=hc;have hOK0:=hOK
 obtain⟨z,vc,vn,vt,vf,vv,vd,e0,e1,e2,e3,e4,e5,e6,e7,e8,rfl,w1,w2,w3,w4,w5,w6,rx⟩:=hc
 obtain⟨bkind,bname,btable,battr,bcols,bnames,bby,bn,bm,bterms,both,boat,bfixed,bvars,bconds,bexpr,lcols,lnames,lterms,lfixed,lvars,lconds⟩:=hOK
 have hQ:=hq;have hpp:=lP x _ hq;unfold eP at hQ
 rw[if_pos hk]at hQ
 obtain⟨p1,q0,f0,g0,rfl⟩:=aN hQ
 obtain⟨p2,q1,f1,g1,rfl⟩:=aN g0
 obtain⟨p3,q2,f2,g2,rfl⟩:=aN g1
 obtain⟨p4,q3,f3,g3,rfl⟩:=aN g2
 obtain rfl:=dL g3;cases f0;cases f2
 simp only[aDX,aD1,aD2]at hpp
 have hl2:=fZ p2;have hl4:=fZ p4;unfold eD at hcx ⊢;refine eN Tryz.func24 Tryz.ntmps24 ?_;have o0:=Own.refl h;refine xB o0 λb10 m10 o10=>?_;refine fB aA ?_;refine oB o10 0 aK ?_;refine bB λc13=>nB o10 0 bU ?_;refine aDN (aCD x _ _ p2 p4 (hcx.ext (Own.ext (B:=h) zA)) hOK0 hz f1 f3 hnm) λr h5 hr=>?_
 obtain⟨LJ,hLJ⟩:∃ LJ,LJ=[[116,97,98,108,101],32::x.name,[40]]++txts p2++([41]::[32,107,101,121]::txts p4):=⟨_,rfl⟩
 have hLn:LJ.length<=2000000000:=by rw[hLJ];simp only[aDX,aD1,aD2];omega
 rw[← hLJ]at hr
 obtain⟨aj,cj,rfl,oj⟩:=hr.upK ((Own.sel (by assumption:Own h _ _) [] rfl))
 have oj:Own h [row (.slice aj LJ.length cj) 9 1 LJ.length (strs LJ)] h5:=oj;clear hr;have hfin:[116,97,98,108,101]::(32::x.name)::(txts (([aS [] [40]]:List Pc)++(p2++([aS [] [41],aG [32] [107,101,121]]++(p4++[]))))++[[59]])=LJ++[[59]]:=by rw[hLJ];simp[cM,cN,cW,dU,eT,gT]
 rw[hfin]
 refine lA oj aB aC λb60 m60 o60=>?_;(refine aDI o60 0 rfl aB aC zD (o60.boxArr 1 rfl zS zS).toN c_ (by simp only[maxLen];first|omega|(simp<;>omega)) (by first|omega|(simp<;>omega)) ?_;intro v61 m61 o61);refine rO ?_;exact iR.row _ zA 0 rfl zS (by simp[strs])
theorem rline2_spec (x:It)(c:aVs)(h:Heap)(pp:List Pc)(hk:x.kind=2)(hc:nP h c x)(hOK:fO x)(hz:dF x<=50000000)(hq:eP x=some pp)(hnm:x.name.length<=24) :
  bG Tryz.prog 24 [.agg ⟨c⟩] h (iR h ([115,111,117,114,99,101]::(32::x.name)::(txts pp++[[59]]))):=by
 have hz0:dF x=1+x.cols.length+x.names.length+x.terms.length+x.fixed.length+x.vars.length+x.conds.length+fD x.expr:=rfl;have hcx:=hc;have hOK0:=hOK
 obtain⟨z,vc,vn,vt,vf,vv,vd,e0,e1,e2,e3,e4,e5,e6,e7,e8,rfl,w1,w2,w3,w4,w5,w6,rx⟩:=hc
 obtain⟨bkind,bname,btable,battr,bcols,bnames,bby,bn,bm,bterms,both,boat,bfixed,bvars,bconds,bexpr,lcols,lnames,lterms,lfixed,lvars,lconds⟩:=hOK
 have hQ:=hq;have hpp:=lP x _ hq;unfold eP at hQ
 rw[if_neg (show ¬ x.kind=1 by omega)]at hQ
 rw[if_pos hk]at hQ
 obtain⟨p1,q0,f0,g0,rfl⟩:=aN hQ
 obtain⟨p2,q1,f1,g1,rfl⟩:=aN g0
 obtain rfl:=dL g1;cases f0
 obtain⟨hnn,rfl⟩:=iM f1
 have hil:=bS hnn;unfold eD;refine eN Tryz.func24 Tryz.ntmps24 ?_;have o0:=Own.refl h;refine xB o0 λb10 m10 o10=>?_;refine fB aA ?_;refine oB o10 0 aK ?_;refine bA λc13=>bA λc14=>?_;refine bB λc15=>d1_ [0,2,3,6,8] [1,4] [7] [0,1,2,3,4,5,6,7,8] ?_;refine fC aA ?_;refine oC o10 0 aC ?_;refine aDb rfl rfl (by first|omega|(simp<;>omega)) ?_;refine fC aA ?_;refine oC o10 0 aK ?_;refine aDN (fL x.n _ bn.1 bn.2) ?_;rintro _ h6 ⟨rfl,oc⟩;have o6:=oc.thenE (B:=h) zA
 refine⟨oc.ext,?_⟩
 clear oc o10;refine aDb rfl rfl (by first|omega|(simp<;>omega)) ?_;refine lA o6 aB aC λb61 m61 o61=>?_;refine rO ?_
 first|exact iR.lit (L:=[[115,111,117,114,99,101],32::x.name,[32,116,114,117,115,116],32::Lib.itoa x.n,[59]]) (o_ [0]) zS|exact iR.lit (L:=[[115,111,117,114,99,101],32::x.name,[32,116,114,117,115,116],32::Lib.itoa x.n,[59]]) (o_ [1]) zS|exact iR.lit (L:=[[115,111,117,114,99,101],32::x.name,[32,116,114,117,115,116],32::Lib.itoa x.n,[59]]) (o_ [2]) zS
theorem rline3_spec (x:It)(c:aVs)(h:Heap)(pp:List Pc)(hk:x.kind=3)(hc:nP h c x)(hOK:fO x)(hz:dF x<=50000000)(hq:eP x=some pp)(hnm:x.name.length<=24) :
  bG Tryz.prog 24 [.agg ⟨c⟩] h (iR h ([98,108,111,99,107]::(32::x.name)::(txts pp++[[59]]))):=by
 have hz0:dF x=1+x.cols.length+x.names.length+x.terms.length+x.fixed.length+x.vars.length+x.conds.length+fD x.expr:=rfl;have hcx:=hc;have hOK0:=hOK
 obtain⟨z,vc,vn,vt,vf,vv,vd,e0,e1,e2,e3,e4,e5,e6,e7,e8,rfl,w1,w2,w3,w4,w5,w6,rx⟩:=hc
 obtain⟨bkind,bname,btable,battr,bcols,bnames,bby,bn,bm,bterms,both,boat,bfixed,bvars,bconds,bexpr,lcols,lnames,lterms,lfixed,lvars,lconds⟩:=hOK
 have hQ:=hq;have hpp:=lP x _ hq;unfold eP at hQ
 rw[if_neg (show ¬ x.kind=1 by omega)]at hQ
 rw[if_neg (show ¬ x.kind=2 by omega)]at hQ
 rw[if_pos hk]at hQ
 obtain⟨p1,q0,f0,g0,rfl⟩:=aN hQ
 obtain⟨p2,q1,f1,g1,rfl⟩:=aN g0
 obtain⟨p3,q2,f2,g2,rfl⟩:=aN g1
 obtain⟨p4,q3,f3,g3,rfl⟩:=aN g2
 obtain⟨p5,q4,f4,g4,rfl⟩:=aN g3
 obtain⟨p6,q5,f5,g5,rfl⟩:=aN g4
 obtain rfl:=dL g5;cases f0;cases f2
 obtain⟨r1,s1,d1,t1,rfl⟩:=aN f1
 obtain⟨r2,s2,d2,t2,rfl⟩:=aN t1
 obtain⟨r3,s3,d3,t3,rfl⟩:=aN t2
 obtain rfl:=dL t3;cases d2
 obtain⟨hn1,rfl⟩:=bQ d1
 obtain⟨hn3,rfl⟩:=bQ d3
 have htl:=bJ hn1
 obtain⟨hb1,hb4,t,ht,hp⟩:=zW f3
 have hb4:x.by_<=4:=by simpa using hb4
 unfold eD;refine eN Tryz.func24 Tryz.ntmps24 ?_;have o0:=Own.refl h;refine xB o0 λb10 m10 o10=>?_;refine fB aA ?_;refine oB o10 0 aK ?_;refine bA λc13=>bA λc14=>?_;refine bA λc15=>bB λc16=>?_;have ob:Own h [box b10 [iv x.kind,sv x.name,iv z,sv x.table,sv x.attr,vc,vn,iv x.by_,iv x.n,iv x.m,vt,sv x.other,sv x.oattr,vf,vv,vd,e0,e1,e2,e3,e4,e5,e6,e7,e8] 44] m10:=o10.sel [0] rfl;clear o10;refine aDA [2,4,8,10,11,16] [0,3,5,9,12] [14,15] [0,2,3,4,5,8,9,10] [1,6,7,11,12,13] [14,15,16] [34,39,40,44,45,46] [([],[]),([],[]),([],[]),([7],[40]),([11],[44]),([12],[45])] mixed k_ (λ_ _ _ _ h=>h) ?_;refine aDr ob 0 rfl bU rfl rfl rfl ?_;refine fC aA ?_;refine oC ob 0 aC ?_;refine fC aA ?_;refine oC ob 0 aC ?_;refine fC aA ?_;refine oC ob 0 aK ?_;refine aR ?_
 refine⟨rfl,RestA.of [(1,.tk ([[98,108,111,99,107],32::x.name,[32,111,110]])),(6,.tk ([32::x.table,[46],x.attr])),(7,.tk ([[32,101,120,97,99,116],[32,116,111,107,101,110],[32,112,114,101,102,105,120],[32,115,107,101,116,99,104]])),(11,.cell (sv t)),(12,.val (sv t)),(13,.tk ([[32,98,121],t]))] ⟨?_,?_,?_,?_,?_,?_,trivial⟩ ?_⟩
 ·intro junk h1 eh
  have oe:=ob.extE eh;refine aDN (wY x z (vc) (vn) (vt) (vf) (vv) (vd) e0 e1 e2 e3 e4 e5 e6 e7 e8 [98,108,111,99,107] _ zO) λr h2 hr=>?_;exact hr.extP
 ·intro junk h1 eh
  have oe:=ob.extE eh;refine aDN (nT x.table x.attr _ zO) λr h2 hr=>?_;exact hr.extP
 ·rintro junk h1 eh
  have oz:=Own.refl h1;refine lA (Own.refl _) aB aC λb70 m70 o70=>?_;(refine aI o70.ext ?_;have o71:=Own.call oz o70;simp only[lcA,lnA]at o71;clear o70);exact pR.lit (L:=[[32,101,120,97,99,116],[32,116,111,107,101,110],[32,112,114,101,102,105,120],[32,115,107,101,116,99,104]]) zA 0 rfl
 ·rintro junk h1 eh v1 ⟨a1,c1,rfl,hA1⟩
  have oz:=Own.refl h1;have hl4:(strs ([[32,101,120,97,99,116],[32,116,111,107,101,110],[32,112,114,101,102,105,120],[32,115,107,101,116,99,104]])).length=4:=by rw[oO];rfl
  refine rR (idx aB aC hA1 rfl zO zO ?_);refine aI oz.ext ?_;exact pR.cell hA1 ht
 ·rintro junk h1 eh v1 ⟨a1,rfl,hA1⟩
  have oz:=Own.refl h1;refine rR (load1 aC rfl zA ?_);refine aI oz.ext ?_
  rfl
 ·rintro junk h1 eh v1 rfl
  have oz:=Own.refl h1;refine lA (Own.refl _) aB aC λb100 m100 o100=>?_;(refine aI o100.ext ?_;have o101:=Own.call oz o100;simp only[lcA,lnA]at o101;clear o100);exact pR.lit (L:=[[32,98,121],t]) zA 0 rfl
 rintro junk h2 eh v0 ⟨a0,c0,rfl,u0⟩ v1 ⟨a1,c1,rfl,u1⟩ v2 u2 v3 u3 v4 u4 v5 ⟨a5,c5,rfl,u5⟩;clear u2 u3 u4;have oh2:=ob.extE eh;clear ob;have oz:=Own.refl h2;refine lA oz lM cS λb150 m150 o150=>?_;have hPs:lY [[[98,108,111,99,107],32::x.name,[32,111,110]],[32::x.table,[46],x.attr],[[32,98,121],t]] [.slice a0 ([[98,108,111,99,107],32::x.name,[32,111,110]]:List aBs).length c0,.slice a1 ([32::x.table,[46],x.attr]:List aBs).length c1,.slice a5 ([[32,98,121],t]:List aBs).length c5] h2:=⟨.arr u0 rfl,.arr u1 rfl,.arr u5 rfl,trivial⟩
 obtain⟨LJ,hLJ⟩:∃ LJ:List aBs,LJ=[[98,108,111,99,107],32::x.name,[32,111,110],32::x.table,[46],x.attr,[32,98,121],t]:=⟨_,rfl⟩
 have hLn:LJ.length=8:=by rw[hLJ];rfl
 refine aDN (gS _ _ o150 0 rfl rfl (hPs.ext o150.ext) zS (L:=LJ) (by rw[hLJ];simp only[aEz,aEF,lcA,lnA,aD7,aEb]) zO) λr h5 hr=>?_
 obtain⟨aj,cj,rfl,oj⟩:=hr.upK ((oh2.extE o150.ext).sel [0] rfl)
 have oj:Own h [box b10 [iv x.kind,sv x.name,iv z,sv x.table,sv x.attr,vc,vn,iv x.by_,iv x.n,iv x.m,vt,sv x.other,sv x.oattr,vf,vv,vd,e0,e1,e2,e3,e4,e5,e6,e7,e8] 44,row (.slice aj LJ.length cj) 9 1 LJ.length (strs LJ)] h5:=oj;clear hr oz oh2 o150 hPs;have hfin:[98,108,111,99,107]::(32::x.name)::(txts (([aG [32] [111,110]]:List Pc)++(([aG [32] x.table]++([aS [] [46]]++([aG [] x.attr]++[])))++([aG [32] [98,121]]++(p4++(p5++(p6++[]))))))++[[59]])=LJ++(txts p5++(txts p6++[[59]])):=by rw[hLJ];simp[cM,cN,cW,dU,eT,hp]
 rw[hfin]
 clear hfin hLJ;by_cases hby:3<=x.by_
 ·rw[if_pos hby]at f4
  obtain⟨hnn,rfl⟩:=iM f4
  have hil:=bS hnn;refine fB aA ?_;refine oB oj 0 aK ?_;refine bB λc202=>fB aA ?_;refine oB oj 0 aK ?_;refine aDN (fL x.n _ bn.1 bn.2) ?_;rintro _ h6 ⟨rfl,oc⟩;have o6:=oc.thenE (B:=h) zA;clear oc oj;by_cases hb:x.by_=4
  ·rw[if_pos hb]at f5
   obtain⟨hnm2,rfl⟩:=iM f5
   have hil2:=bS hnm2;refine rR (aDb rfl rfl (by first|omega|(simp<;>omega)) ?_);refine lA o6 aB aC λb251 m251 o251=>?_;(refine aDI o251 1 rfl aB aC zD (o251.boxArr 2 rfl zS zS).toN c_ (by simp only[maxLen];first|omega|(simp<;>omega)) (by first|omega|(simp<;>omega)) ?_;intro v252 m252 o252);refine fB aA ?_;refine oB o252 0 aK ?_;refine bB λc255=>fB aA ?_;refine oB o252 0 aK ?_;refine aDN (fL x.m _ bm.1 bm.2) ?_;rintro _ h7 ⟨rfl,oc⟩;have o7:=oc.thenE (B:=h) zA;clear oc;refine rR (aDb rfl rfl (by first|omega|(simp<;>omega)) ?_);refine lA o7 aB aC λb301 m301 o301=>?_;(refine aDI o301 1 rfl aB aC zD (o301.boxArr 3 rfl zS zS).toN c_ (by simp only[maxLen];first|omega|(simp<;>omega)) (by first|omega|(simp<;>omega)) ?_;intro v302 m302 o302);refine lA o302 aB aC λb303 m303 o303=>?_;(refine aDI o303 1 rfl aB aC zD (o303.boxArr 4 rfl zS zS).toN c_ (by simp only[maxLen];first|omega|(simp<;>omega)) (by first|omega|(simp<;>omega)) ?_;intro v304 m304 o304);refine rO ?_;exact iR.row _ zA 1 rfl (by simp[txts,gT]) (by simp[strs,txts,gT])
  ·rw[if_neg hb]at f5
   cases f5
   refine rR (aDb rfl rfl (by first|omega|(simp<;>omega)) ?_);refine lA o6 aB aC λb351 m351 o351=>?_;(refine aDI o351 1 rfl aB aC zD (o351.boxArr 2 rfl zS zS).toN c_ (by simp only[maxLen];first|omega|(simp<;>omega)) (by first|omega|(simp<;>omega)) ?_;intro v352 m352 o352);refine fB aA ?_;refine oB o352 0 aK ?_;refine bA λc355=>lA o352 aB aC λb356 m356 o356=>?_;(refine aDI o356 1 rfl aB aC zD (o356.boxArr 3 rfl zS zS).toN c_ (by simp only[maxLen];first|omega|(simp<;>omega)) (by first|omega|(simp<;>omega)) ?_;intro v357 m357 o357);refine rO ?_;exact iR.row _ zA 1 rfl (by simp[txts,gT]) (by simp[strs,txts,gT])
 ·rw[if_neg hby]at f4
  rw[if_neg (show ¬ x.by_=4 by omega)]at f5
  cases f4
  cases f5
  refine fB aA ?_;refine oB oj 0 aK ?_;refine bA λc402=>fB aA ?_;refine oB oj 0 aK ?_;refine bA λc405=>lA oj aB aC λb406 m406 o406=>?_;(refine aDI o406 1 rfl aB aC zD (o406.boxArr 2 rfl zS zS).toN c_ (by simp only[maxLen];first|omega|(simp<;>omega)) (by first|omega|(simp<;>omega)) ?_;intro v407 m407 o407);refine rO ?_;exact iR.row _ zA 1 rfl (by simp[txts]) (by simp[strs,txts])
theorem rline4_spec (x:It)(c:aVs)(h:Heap)(pp:List Pc)(hk:x.kind=4)(hc:nP h c x)(hOK:fO x)(hz:dF x<=50000000)(hq:eP x=some pp)(hnm:x.name.length<=24) :
  bG Tryz.prog 24 [.agg ⟨c⟩] h (iR h ([109,97,116,99,104]::(32::x.name)::(txts pp++[[10,125]]))):=by
 have hz0:dF x=1+x.cols.length+x.names.length+x.terms.length+x.fixed.length+x.vars.length+x.conds.length+fD x.expr:=rfl;have hcx:=hc;have hOK0:=hOK
 obtain⟨z,vc,vn,vt,vf,vv,vd,e0,e1,e2,e3,e4,e5,e6,e7,e8,rfl,w1,w2,w3,w4,w5,w6,rx⟩:=hc
 obtain⟨bkind,bname,btable,battr,bcols,bnames,bby,bn,bm,bterms,both,boat,bfixed,bvars,bconds,bexpr,lcols,lnames,lterms,lfixed,lvars,lconds⟩:=hOK
 have hQ:=hq;have hpp:=lP x _ hq;unfold eP at hQ
 rw[if_neg (show ¬ x.kind=1 by omega)]at hQ
 rw[if_neg (show ¬ x.kind=2 by omega)]at hQ
 rw[if_neg (show ¬ x.kind=3 by omega)]at hQ
 rw[if_pos hk]at hQ
 rw[gM]at hQ
 split at hQ
 case h_2=>cases hQ
 rename_i pa pb f0 f1
 cases hQ
 obtain⟨p1,q1,d1,t1,rfl⟩:=aN f0
 obtain⟨p2,q2,d2,t2,rfl⟩:=aN t1
 obtain⟨p3,q3,d3,t3,rfl⟩:=aN t2
 obtain⟨p4,q4,d4,t4,rfl⟩:=aN t3
 obtain⟨p5,q5,d5,t5,rfl⟩:=aN t4
 obtain rfl:=dL t5;cases d1;cases d3;cases d5
 obtain⟨hn1,rfl⟩:=bQ d2
 obtain⟨hn2,rfl⟩:=iM d4
 rw[aAl]at f1
 unfold eD at hcx ⊢;refine eN Tryz.func24 Tryz.ntmps24 ?_;have o0:=Own.refl h;refine xB o0 λb10 m10 o10=>?_;refine fB aA ?_;refine oB o10 0 aK ?_;refine bA λc13=>bB λc14=>?_;refine nB o10 0 bU ?_;refine aDN (aCF x _ _ pb (hcx.ext (Own.ext (B:=h) zA)) hOK0 hz f1 hnm (bJ hn1) hn2) λr h5 hr=>?_;have hfin:[109,97,116,99,104]::(32::x.name)::(txts (([aG [32] [111,110]]:List Pc)++([aG [32] x.table]++([aG [32] [97,116]]++([cI [32] x.n]++([aS [32] [123]]++[]))))++pb)++[[10,125]])=[[109,97,116,99,104],32::x.name,[32,111,110],32::x.table,[32,97,116],32::Lib.itoa x.n,[32,123]]++txts pb++[[10,125]]:=by simp[cM,cN,cW,dU,eT,gT]
 rw[hfin]
 refine rO ?_;exact hr.up (o_ [])
theorem rline5_spec (x:It)(c:aVs)(h:Heap)(pp:List Pc)(hk:x.kind=5)(hc:nP h c x)(hOK:fO x)(hz:dF x<=50000000)(hq:eP x=some pp) :
  bG Tryz.prog 24 [.agg ⟨c⟩] h (iR h ([107,101,101,112]::(txts pp++[[59]]))):=by
 have hz0:dF x=1+x.cols.length+x.names.length+x.terms.length+x.fixed.length+x.vars.length+x.conds.length+fD x.expr:=rfl;have hcx:=hc;have hOK0:=hOK
 obtain⟨z,vc,vn,vt,vf,vv,vd,e0,e1,e2,e3,e4,e5,e6,e7,e8,rfl,w1,w2,w3,w4,w5,w6,rx⟩:=hc
 obtain⟨bkind,bname,btable,battr,bcols,bnames,bby,bn,bm,bterms,both,boat,bfixed,bvars,bconds,bexpr,lcols,lnames,lterms,lfixed,lvars,lconds⟩:=hOK
 have hQ:=hq;have hpp:=lP x _ hq;unfold eP at hQ
 rw[if_neg (show ¬ x.kind=1 by omega)]at hQ
 rw[if_neg (show ¬ x.kind=2 by omega)]at hQ
 rw[if_neg (show ¬ x.kind=3 by omega)]at hQ
 rw[if_neg (show ¬ x.kind=4 by omega)]at hQ
 rw[if_pos hk]at hQ
 obtain⟨p1,q0,f0,g0,rfl⟩:=aN hQ
 obtain⟨p2,q1,f1,g1,rfl⟩:=aN g0
 obtain⟨p3,q2,f2,g2,rfl⟩:=aN g1
 obtain rfl:=dL g2;cases f1
 obtain⟨r01,s01,d01,t01,rfl⟩:=aN f0
 obtain⟨r02,s02,d02,t02,rfl⟩:=aN t01
 obtain⟨r03,s03,d03,t03,rfl⟩:=aN t02
 obtain rfl:=dL t03;cases d02
 obtain⟨hn01,rfl⟩:=bQ d01
 obtain⟨hn03,rfl⟩:=bQ d03
 have hl0:=bJ hn01
 obtain⟨hb1,hb4,t,ht,hp⟩:=zW f2
 have hb4:x.by_<=6:=by simpa using hb4
 unfold eD;refine eN Tryz.func24 Tryz.ntmps24 ?_;have o0:=Own.refl h;refine xB o0 λb10 m10 o10=>?_;refine fB aA ?_;refine oB o10 0 aK ?_;refine bA λc13=>bA λc14=>?_;refine bA λc15=>bA λc16=>?_;refine bB λc17=>?_;have ob:Own h [box b10 [iv x.kind,sv x.name,iv z,sv x.table,sv x.attr,vc,vn,iv x.by_,iv x.n,iv x.m,vt,sv x.other,sv x.oattr,vf,vv,vd,e0,e1,e2,e3,e4,e5,e6,e7,e8] 44] m10:=o10.sel [0] rfl;clear o10;refine aDA [1,3,7,9,10,15] [2,4,8,11] [13,14] [1,2,3,4,7,8,9] [0,5,6,10,11,12] [13,14,15] [74,79,80,84,85,86] [([],[]),([],[]),([],[]),([6],[80]),([10],[84]),([11],[85])] mixed k_ (λ_ _ _ _ h=>h) ?_;refine fC aA ?_;refine oC ob 0 aC ?_;refine fC aA ?_;refine oC ob 0 aC ?_;refine fC aA ?_;refine oC ob 0 aK ?_;refine aR ?_
 refine⟨rfl,RestA.of [(0,.tk ([[107,101,101,112]])),(5,.tk ([32::x.table,[46],x.attr])),(6,.tk ([[32,108,97,116,101,115,116],[32,109,111,115,116],[32,116,114,117,115,116,101,100],[32,108,111,110,103,101,115,116],[32,108,101,97,115,116],[32,103,114,101,97,116,101,115,116]])),(10,.cell (sv t)),(11,.val (sv t)),(12,.tk ([[32,98,121],t,[59]]))] ⟨?_,?_,?_,?_,?_,?_,trivial⟩ ?_⟩
 ·rintro junk h1 eh
  have oz:=Own.refl h1;refine lA (Own.refl _) aB aC λb70 m70 o70=>?_;(refine aI o70.ext ?_;have o71:=Own.call oz o70;simp only[lcA,lnA]at o71;clear o70);exact pR.lit (L:=[[107,101,101,112]]) zA 0 rfl
 ·intro junk h1 eh
  have oe:=ob.extE eh;refine aDN (nT x.table x.attr _ zO) λr h2 hr=>?_;exact hr.extP
 ·rintro junk h1 eh
  have oz:=Own.refl h1;refine lA (Own.refl _) aB aC λb80 m80 o80=>?_;(refine aI o80.ext ?_;have o81:=Own.call oz o80;simp only[lcA,lnA]at o81;clear o80);exact pR.lit (L:=[[32,108,97,116,101,115,116],[32,109,111,115,116],[32,116,114,117,115,116,101,100],[32,108,111,110,103,101,115,116],[32,108,101,97,115,116],[32,103,114,101,97,116,101,115,116]]) zA 0 rfl
 ·rintro junk h1 eh v1 ⟨a1,c1,rfl,hA1⟩
  have oz:=Own.refl h1;have hl4:(strs ([[32,108,97,116,101,115,116],[32,109,111,115,116],[32,116,114,117,115,116,101,100],[32,108,111,110,103,101,115,116],[32,108,101,97,115,116],[32,103,114,101,97,116,101,115,116]])).length=6:=by rw[oO];rfl
  refine rR (idx aB aC hA1 rfl zO zO ?_);refine aI oz.ext ?_;exact pR.cell hA1 ht
 ·rintro junk h1 eh v1 ⟨a1,rfl,hA1⟩
  have oz:=Own.refl h1;refine rR (load1 aC rfl zA ?_);refine aI oz.ext ?_
  rfl
 ·rintro junk h1 eh v1 rfl
  have oz:=Own.refl h1;refine lA (Own.refl _) aB aC λb110 m110 o110=>?_;(refine aI o110.ext ?_;have o111:=Own.call oz o110;simp only[lcA,lnA]at o111;clear o110);exact pR.lit (L:=[[32,98,121],t,[59]]) zA 0 rfl
 rintro junk h2 eh v0 ⟨a0,c0,rfl,u0⟩ v1 ⟨a1,c1,rfl,u1⟩ v2 u2 v3 u3 v4 u4 v5 ⟨a5,c5,rfl,u5⟩;clear u2 u3 u4;have oh2:=ob.extE eh;clear ob;have oz:=Own.refl h2;refine lA oz lM cS λb160 m160 o160=>?_;have hPs:lY [[[107,101,101,112]],[32::x.table,[46],x.attr],[[32,98,121],t,[59]]] [.slice a0 ([[107,101,101,112]]:List aBs).length c0,.slice a1 ([32::x.table,[46],x.attr]:List aBs).length c1,.slice a5 ([[32,98,121],t,[59]]:List aBs).length c5] h2:=⟨.arr u0 rfl,.arr u1 rfl,.arr u5 rfl,trivial⟩
 obtain⟨LJ,hLJ⟩:∃ LJ:List aBs,LJ=[[107,101,101,112],32::x.table,[46],x.attr,[32,98,121],t,[59]]:=⟨_,rfl⟩
 have hLn:LJ.length=7:=by rw[hLJ];rfl
 refine aDN (gS _ _ o160 0 rfl rfl (hPs.ext o160.ext) zS (L:=LJ) (by rw[hLJ];simp only[aEz,aEF,lcA,lnA,aD7,aEb]) zO) λr h5 hr=>?_
 obtain⟨aj,cj,rfl,oj⟩:=hr.upK ((oh2.extE o160.ext).sel [0] rfl)
 have oj:Own h [box b10 [iv x.kind,sv x.name,iv z,sv x.table,sv x.attr,vc,vn,iv x.by_,iv x.n,iv x.m,vt,sv x.other,sv x.oattr,vf,vv,vd,e0,e1,e2,e3,e4,e5,e6,e7,e8] 44,row (.slice aj LJ.length cj) 9 1 LJ.length (strs LJ)] h5:=oj;clear hr oz oh2 o160 hPs;have hfin:[107,101,101,112]::(txts ((([aG [32] x.table]:List Pc)++([aS [] [46]]++([aG [] x.attr]++[])))++([aG [32] [98,121]]++(p3++[])))++[[59]])=LJ:=by rw[hLJ];simp[cM,cN,cW,dU,eT,gT,hp]
 rw[hfin]
 refine rO ?_
 exact⟨_,_,rfl,o_ [1]⟩
theorem rline6_spec (x:It)(c:aVs)(h:Heap)(pp:List Pc)(hk:x.kind=6)(hc:nP h c x)(hOK:fO x)(hz:dF x<=50000000)(hq:eP x=some pp)(hnm:x.name.length<=24) :
  bG Tryz.prog 24 [.agg ⟨c⟩] h (iR h ([117,110,105,113,117,101]::(32::x.name)::(txts pp++[[59]]))):=by
 have hz0:dF x=1+x.cols.length+x.names.length+x.terms.length+x.fixed.length+x.vars.length+x.conds.length+fD x.expr:=rfl;have hcx:=hc;have hOK0:=hOK
 obtain⟨z,vc,vn,vt,vf,vv,vd,e0,e1,e2,e3,e4,e5,e6,e7,e8,rfl,w1,w2,w3,w4,w5,w6,rx⟩:=hc
 obtain⟨bkind,bname,btable,battr,bcols,bnames,bby,bn,bm,bterms,both,boat,bfixed,bvars,bconds,bexpr,lcols,lnames,lterms,lfixed,lvars,lconds⟩:=hOK
 obtain⟨i2,j2,rfl⟩:=w2.isS
 have hQ:=hq;have hpp:=lP x _ hq;unfold eP at hQ
 rw[if_neg (show ¬ x.kind=1 by omega)]at hQ
 rw[if_neg (show ¬ x.kind=2 by omega)]at hQ
 rw[if_neg (show ¬ x.kind=3 by omega)]at hQ
 rw[if_neg (show ¬ x.kind=4 by omega)]at hQ
 rw[if_neg (show ¬ x.kind=5 by omega)]at hQ
 rw[if_pos hk]at hQ
 obtain⟨p1,q0,f0,g0,rfl⟩:=aN hQ
 obtain⟨p2,q1,f1,g1,rfl⟩:=aN g0
 obtain⟨p3,q2,f2,g2,rfl⟩:=aN g1
 obtain⟨p4,q3,f3,g3,rfl⟩:=aN g2
 obtain⟨p5,q4,f4,g4,rfl⟩:=aN g3
 obtain rfl:=dL g4;cases f0;cases f2;cases f4
 obtain⟨hn1,rfl⟩:=bQ f1
 have hnl1:=bJ hn1;have hpn:=rH f3;have hnl2:=oF [] x.names;unfold eD;refine eN Tryz.func24 Tryz.ntmps24 ?_;have o0:=Own.refl h;refine xB o0 λb10 m10 o10=>?_;refine fB aA ?_;refine oB o10 0 aK ?_;refine bA λc13=>bA λc14=>?_;refine bA λc15=>bA λc16=>?_;refine bA λc17=>bB λc18=>?_;have ob:Own h [box b10 [iv x.kind,sv x.name,iv z,sv x.table,sv x.attr,vc,.slice i2 x.names.length j2,iv x.by_,iv x.n,iv x.m,vt,sv x.other,sv x.oattr,vf,vv,vd,e0,e1,e2,e3,e4,e5,e6,e7,e8] 44] m10:=o10.sel [0] rfl;clear o10;refine aDA [2,4,6,12] [0,3,7] [10,11] [0,2,3,4,6,7] [1,5,8,9] [10,11,12] [92,96,99,100] [([],[]),([],[]),([],[]),([],[])] mixed k_ (λ_ _ _ _ h=>h) ?_;refine aDr ob 0 rfl bU rfl rfl rfl ?_;refine fC aA ?_;refine oC ob 0 aC ?_;refine aDb rfl rfl (by first|omega|(simp<;>omega)) ?_;refine fC aA ?_;refine oC ob 0 cS ?_
 refine⟨rfl,RestA.of [(1,.tk ([[117,110,105,113,117,101],32::x.name,[32,111,110]])),(5,.tk ([32::x.table,[40]])),(8,.tk (gC [] x.names)),(9,.tk ([[41],[59]]))] ⟨?_,?_,?_,?_,trivial⟩ ?_⟩
 ·intro junk h1 eh
  have oe:=ob.extE eh;refine aDN (wY x z (vc) (.slice i2 x.names.length j2) (vt) (vf) (vv) (vd) e0 e1 e2 e3 e4 e5 e6 e7 e8 [117,110,105,113,117,101] _ zO) λr h2 hr=>?_;exact hr.extP
 ·rintro junk h1 eh
  have oz:=Own.refl h1;refine lA (Own.refl _) aB aC λb70 m70 o70=>?_;(refine aI o70.ext ?_;have o71:=Own.call oz o70;simp only[lcA,lnA]at o71;clear o70);exact pR.lit (L:=[32::x.table,[40]]) zA 0 rfl
 ·intro junk h1 eh
  have oe:=ob.extE eh;refine aDN (mY x.names [] _ _ ((w2.ext oe.ext).to1s) zO bnames zS) λr h2 hr=>?_;exact hr.extP
 ·rintro junk h1 eh
  have oz:=Own.refl h1;refine lA (Own.refl _) aB aC λb80 m80 o80=>?_;(refine aI o80.ext ?_;have o81:=Own.call oz o80;simp only[lcA,lnA]at o81;clear o80);exact pR.lit (L:=[[41],[59]]) zA 0 rfl
 rintro junk h2 eh v0 ⟨a0,c0,rfl,u0⟩ v1 ⟨a1,c1,rfl,u1⟩ v2 ⟨a2,c2,rfl,u2⟩ v3 ⟨a3,c3,rfl,u3⟩;have oh2:=ob.extE eh;clear ob;have oz:=Own.refl h2;refine lA oz lM cS λb130 m130 o130=>?_;have hPs:lY [[[117,110,105,113,117,101],32::x.name,[32,111,110]],[32::x.table,[40]],gC [] x.names,[[41],[59]]] [.slice a0 ([[117,110,105,113,117,101],32::x.name,[32,111,110]]:List aBs).length c0,.slice a1 ([32::x.table,[40]]:List aBs).length c1,.slice a2 (gC [] x.names:List aBs).length c2,.slice a3 ([[41],[59]]:List aBs).length c3] h2:=⟨.arr u0 rfl,.arr u1 rfl,.arr u2 rfl,.arr u3 rfl,trivial⟩
 obtain⟨LJ,hLJ⟩:∃ LJ:List aBs,LJ=[117,110,105,113,117,101]::(32::x.name)::[32,111,110]::(32::x.table)::[40]::(gC [] x.names++[[41],[59]]):=⟨_,rfl⟩
 have hLn:LJ.length<=2000000000:=by rw[hLJ];simp only[aDX,aD1,aD2];omega
 refine aDN (gS _ _ o130 0 rfl rfl (hPs.ext o130.ext) zS (L:=LJ) (by rw[hLJ];simp only[aEz,aEF,lcA,lnA,aD7,aEb]) zO) λr h5 hr=>?_
 obtain⟨aj,cj,rfl,oj⟩:=hr.upK ((oh2.extE o130.ext).sel [0] rfl)
 have oj:Own h [box b10 [iv x.kind,sv x.name,iv z,sv x.table,sv x.attr,vc,.slice i2 x.names.length j2,iv x.by_,iv x.n,iv x.m,vt,sv x.other,sv x.oattr,vf,vv,vd,e0,e1,e2,e3,e4,e5,e6,e7,e8] 44,row (.slice aj LJ.length cj) 9 1 LJ.length (strs LJ)] h5:=oj;clear hr oz oh2 o130 hPs;have hfin:[117,110,105,113,117,101]::(32::x.name)::(txts (([aG [32] [111,110]]:List Pc)++([aG [32] x.table]++([aS [] [40]]++(p4++([aS [] [41]]++[])))))++[[59]])=LJ:=by rw[hLJ,← hpn];simp[cM,cN,cW,dU,eT,gT]
 rw[hfin]
 refine rO ?_
 exact⟨_,_,rfl,o_ [1]⟩
theorem fixI_parts {i:Nat}{x:Nmd}{q:List Pc}(h:aBJ i x=some q):∃ pc,cD x.val=some pc/\aZ x.name=true/\txts q=(if i=0 then[32,119,104,101,114,101] else[44])::(32::x.name)::[32,61]::txts pc/\q.length<=5:=by
 unfold aBJ at h;cases hc:pW x with
 | none=>rw[hc]at h;cases h
 | some q' =>
  rw[hc]at h
  cases h
  have hl:=ln_fix x _ hc
  obtain⟨p1,q1,e1,g1,rfl⟩:=aN hc
  obtain⟨p2,q2,e2,g2,rfl⟩:=aN g1
  obtain⟨p3,q3,e3,g3,rfl⟩:=aN g2
  obtain rfl:=dL g3;cases e2
  obtain⟨hn,rfl⟩:=bQ e1
  refine⟨p3,e3,hn,?_,by rw[aD1];omega⟩
  rw[cN]
  have:gX (if i=0 then aG [32] [119,104,101,114,101] else aS [] [44])=(if i=0 then[32,119,104,101,114,101] else[44]):=by split<;>rfl
  rw[this]
  simp[cM,cN,cW,dU,eT]
theorem rline7_spec (x:It)(c:aVs)(h:Heap)(pp:List Pc)(hk:x.kind=7)(hc:nP h c x)(hOK:fO x)(hz:dF x<=50000000)(hq:eP x=some pp)(hnm:x.name.length<=24) :
  bG Tryz.prog 24 [.agg ⟨c⟩] h (iR h ([100,101,112,101,110,100]::(32::x.name)::(txts pp++[[59]]))):=by
 have hz0:dF x=1+x.cols.length+x.names.length+x.terms.length+x.fixed.length+x.vars.length+x.conds.length+fD x.expr:=rfl;have hcx:=hc;have hOK0:=hOK
 obtain⟨z,vc,vn,vt,vf,vv,vd,e0,e1,e2,e3,e4,e5,e6,e7,e8,rfl,w1,w2,w3,w4,w5,w6,rx⟩:=hc
 obtain⟨bkind,bname,btable,battr,bcols,bnames,bby,bn,bm,bterms,both,boat,bfixed,bvars,bconds,bexpr,lcols,lnames,lterms,lfixed,lvars,lconds⟩:=hOK
 obtain⟨i2,j2,rfl⟩:=w2.isS
 obtain⟨i4,j4,rfl⟩:=w4.isS
 have hQ:=hq;have hpp:=lP x _ hq;unfold eP at hQ
 rw[if_neg (show ¬ x.kind=1 by omega)]at hQ
 rw[if_neg (show ¬ x.kind=2 by omega)]at hQ
 rw[if_neg (show ¬ x.kind=3 by omega)]at hQ
 rw[if_neg (show ¬ x.kind=4 by omega)]at hQ
 rw[if_neg (show ¬ x.kind=5 by omega)]at hQ
 rw[if_neg (show ¬ x.kind=6 by omega)]at hQ
 rw[if_pos hk]at hQ
 obtain⟨p1,q0,f0,g0,rfl⟩:=aN hQ
 obtain⟨p2,q1,f1,g1,rfl⟩:=aN g0
 obtain⟨p3,q2,f2,g2,rfl⟩:=aN g1
 obtain⟨p4,q3,f3,g3,rfl⟩:=aN g2
 obtain⟨p5,q4,f4,g4,rfl⟩:=aN g3
 obtain⟨p6,q5,f5,g5,rfl⟩:=aN g4
 obtain⟨p7,q6,f6,g6,rfl⟩:=aN g5
 obtain rfl:=dL g6;cases f0;cases f2;cases f4
 obtain⟨hn1,rfl⟩:=bQ f1
 obtain⟨hn2,rfl⟩:=bQ f5
 have hnl1:=bJ hn1;have hnl3:=bJ hn2;have hpn:=rH f3;have hnl2:=oF [] x.names
 rw[zF]at f6
 unfold eD;refine eN Tryz.func24 Tryz.ntmps24 ?_;have o0:=Own.refl h;refine xB o0 λb10 m10 o10=>?_;refine fB aA ?_;refine oB o10 0 aK ?_;refine bA λc13=>bA λc14=>?_;refine bA λc15=>bA λc16=>?_;refine bA λc17=>bA λc18=>?_;refine bB λc19=>?_;have ob:Own h [box b10 [iv x.kind,sv x.name,iv z,sv x.table,sv x.attr,vc,.slice i2 x.names.length j2,iv x.by_,iv x.n,iv x.m,vt,sv x.other,sv x.oattr,.slice i4 x.fixed.length j4,vv,vd,e0,e1,e2,e3,e4,e5,e6,e7,e8] 44] m10:=o10.sel [0] rfl;clear o10;refine aDA [2,4,6,9,11,15] [0,3,7,10] [13,14] [0,2,3,4,6,7,9,10,11] [1,5,8,12] [13,14,15] [106,110,113,117] [([],[]),([],[]),([],[]),([],[])] mixed k_ (λ_ _ _ _ h=>h) ?_;refine aDr ob 0 rfl bU rfl rfl rfl ?_;refine fC aA ?_;refine oC ob 0 aC ?_;refine aDb rfl rfl (by first|omega|(simp<;>omega)) ?_;refine fC aA ?_;refine oC ob 0 cS ?_;refine fC aA ?_;refine oC ob 0 aC ?_;refine aDb rfl rfl (by first|omega|(simp<;>omega)) ?_
 refine⟨rfl,RestA.of [(1,.tk ([[100,101,112,101,110,100],32::x.name,[32,111,110]])),(5,.tk ([32::x.table,[40]])),(8,.tk (gC [] x.names)),(12,.tk ([[41],[32,116,111],32::x.attr]))] ⟨?_,?_,?_,?_,trivial⟩ ?_⟩
 ·intro junk h1 eh
  have oe:=ob.extE eh;refine aDN (wY x z (vc) (.slice i2 x.names.length j2) (vt) (.slice i4 x.fixed.length j4) (vv) (vd) e0 e1 e2 e3 e4 e5 e6 e7 e8 [100,101,112,101,110,100] _ zO) λr h2 hr=>?_;exact hr.extP
 ·rintro junk h1 eh
  have oz:=Own.refl h1;refine lA (Own.refl _) aB aC λb70 m70 o70=>?_;(refine aI o70.ext ?_;have o71:=Own.call oz o70;simp only[lcA,lnA]at o71;clear o70);exact pR.lit (L:=[32::x.table,[40]]) zA 0 rfl
 ·intro junk h1 eh
  have oe:=ob.extE eh;refine aDN (mY x.names [] _ _ ((w2.ext oe.ext).to1s) zO bnames zS) λr h2 hr=>?_;exact hr.extP
 ·rintro junk h1 eh
  have oz:=Own.refl h1;refine lA (Own.refl _) aB aC λb80 m80 o80=>?_;(refine aI o80.ext ?_;have o81:=Own.call oz o80;simp only[lcA,lnA]at o81;clear o80);exact pR.lit (L:=[[41],[32,116,111],32::x.attr]) zA 0 rfl
 rintro junk h2 eh v0 ⟨a0,c0,rfl,u0⟩ v1 ⟨a1,c1,rfl,u1⟩ v2 ⟨a2,c2,rfl,u2⟩ v3 ⟨a3,c3,rfl,u3⟩;have oh2:=ob.extE eh;clear ob;have oz:=Own.refl h2;refine lA oz lM cS λb130 m130 o130=>?_;have hPs:lY [[[100,101,112,101,110,100],32::x.name,[32,111,110]],[32::x.table,[40]],gC [] x.names,[[41],[32,116,111],32::x.attr]] [.slice a0 ([[100,101,112,101,110,100],32::x.name,[32,111,110]]:List aBs).length c0,.slice a1 ([32::x.table,[40]]:List aBs).length c1,.slice a2 (gC [] x.names:List aBs).length c2,.slice a3 ([[41],[32,116,111],32::x.attr]:List aBs).length c3] h2:=⟨.arr u0 rfl,.arr u1 rfl,.arr u2 rfl,.arr u3 rfl,trivial⟩
 obtain⟨LJ,hLJ⟩:∃ LJ:List aBs,LJ=[100,101,112,101,110,100]::(32::x.name)::[32,111,110]::(32::x.table)::[40]::(gC [] x.names++[[41],[32,116,111],32::x.attr]):=⟨_,rfl⟩
 have hLn:LJ.length<=2000000000:=by rw[hLJ];simp only[aDX,aD1,aD2];omega
 refine aDN (gS _ _ o130 0 rfl rfl (hPs.ext o130.ext) zS (L:=LJ) (by rw[hLJ];simp only[aEz,aEF,lcA,lnA,aD7,aEb]) zO) λr h5 hr=>?_
 obtain⟨aj,cj,rfl,oj⟩:=hr.upK ((oh2.extE o130.ext).sel [0] rfl)
 have oj:Own h [box b10 [iv x.kind,sv x.name,iv z,sv x.table,sv x.attr,vc,.slice i2 x.names.length j2,iv x.by_,iv x.n,iv x.m,vt,sv x.other,sv x.oattr,.slice i4 x.fixed.length j4,vv,vd,e0,e1,e2,e3,e4,e5,e6,e7,e8] 44,row (.slice aj LJ.length cj) 9 1 LJ.length (strs LJ)] h5:=oj;clear hr oz oh2 o130 hPs;have hfin:[100,101,112,101,110,100]::(32::x.name)::(txts (([aG [32] [111,110]]:List Pc)++([aG [32] x.table]++([aS [] [40]]++(p4++([aS [] [41],aG [32] [116,111]]++([aG [32] x.attr]++(p7++[])))))))++[[59]])=LJ++txts p7++[[59]]:=by rw[hLJ,← hpn];simp[cM,cN,cW,dU,eT,gT]
 rw[hfin]
 clear hfin hLJ;refine aDT [4,5,6,120,121,122,123,124,125,126,127,128,129,130,131,132,133,134,135,136,137,138,139,140,141,142,143,144,145,146,147] [4,5] (λws hh=>∃(i:Nat) (v:Value) (p:List Pc),i<=x.fixed.length/\ws=[v,.int .i64 i]/\dD aBJ (x.fixed.take i)=some p/\p.length<=5*i/\Own h [box b10 [.int .i64 x.kind,.string ⟨⟨x.name⟩⟩,.int .i64 z,.string ⟨⟨x.table⟩⟩,.string ⟨⟨x.attr⟩⟩,vc,.slice i2 x.names.length j2,.int .i64 x.by_,.int .i64 x.n,.int .i64 x.m,vt,.string ⟨⟨x.other⟩⟩,.string ⟨⟨x.oattr⟩⟩,.slice i4 x.fixed.length j4,vv,vd,e0,e1,e2,e3,e4,e5,e6,e7,e8] 44,row v 9 1 (LJ++txts p).length (strs (LJ++txts p))] hh) (λws _=>match ws with|[_,.int _ i]=>x.fixed.length - i.toNat|_=>0) ?_ ?_
 ·exact⟨0,_,[],by omega,rfl,rfl,by simp,by rw[cW,aD7];exact oj⟩
 rintro ws junk hh ⟨i,v,p,hi,rfl,hp,hpl,oh⟩;clear oj;have hptl:=fZ p;have hLp:(LJ++txts p).length=LJ.length+p.length:=by rw[aDX];omega
 by_cases hlt:i<x.fixed.length
 ·obtain⟨y,hy⟩:=getx hlt
  have hyOK:=bfixed y (aDY hy)
  obtain⟨q,hqx,hnx⟩:=oV hy hp f6
  obtain⟨pc,hpc,hyn,hqt,hql⟩:=fixI_parts hqx
  have hynl:=bJ hyn;have hpct:=fZ pc;have hpcl:=tC _ _ hpc;have hfin:LJ++txts (p++q)=(LJ++txts p)++((if i=0 then[32,119,104,101,114,101] else[44])::(32::y.name)::[32,61]::txts pc):=by rw[cM,hqt,aEb]
  generalize LJ++txts p=LL at oh hLp hfin
  generalize hW:(if i=0 then[32,119,104,101,114,101] else[44]:aBs)=W at hfin
  refine fB aA ?_;refine oB oh 0 lZ ?_;refine lB kV ?_;refine bB λc233=>Br.join [6] [6] (λus h'=>us=[sv W]/\Own h [box b10 [iv x.kind,sv x.name,iv z,sv x.table,sv x.attr,vc,.slice i2 x.names.length j2,iv x.by_,iv x.n,iv x.m,vt,sv x.other,sv x.oattr,.slice i4 x.fixed.length j4,vv,vd,e0,e1,e2,e3,e4,e5,e6,e7,e8] 44,row v 9 1 (LL).length (strs (LL))] h') rfl rfl ?_ ?_
  ·refine aDJ (λc280=>?_) (λc280=>?_)
   refine⟨rfl,?_⟩
   rotate_left
   refine⟨rfl,?_⟩
   all_goals first
    | (rw[if_neg zO]at hW;subst hW;exact⟨rfl,oh⟩)
    | (rw[if_pos zO]at hW;subst hW;exact⟨rfl,oh⟩)
  rintro us junk h1 ⟨rfl,oh1⟩;clear oh
  obtain⟨a0,c0,rfl⟩:=oh1.rowIs 1 rfl
  refine aDA [0,1,2,4,5,6,8,10,12,13,14,19] [3,7,11,15] [17,18] [0,1,2,3,4,5,6,7,8,10,11,12,13,14,15] [9,16] [17,18,19] [138,145] [([],[]),([],[])] mixed k_ (λ_ _ _ _ h=>h) ?_;refine fC aA ?_;refine oC oh1 0 lZ ?_;refine aDe kV oN (w4.ext oh1.ext) rfl zO zO ?_;refine aDf (w4.ext oh1.ext) zO wS rfl rfl rfl ?_;refine aDl (w4.ext oh1.ext) aC (λ_=>rfl) rfl zA rfl ?_;refine aDb rfl rfl (by first|omega|(simp<;>omega)) ?_;refine fC aA ?_;refine oC oh1 0 lZ ?_;refine aDe kV oN (w4.ext oh1.ext) rfl zO zO ?_;refine aDf (w4.ext oh1.ext) zO wS rfl rfl rfl ?_;refine aDD cG (w4.ext (Own.ext (B:=h) zA)) (λ_=>rfl) zD zD rfl zA rfl ?_
  refine⟨rfl,RestA.of [(9,.tk [W,32::y.name,[32,61]]),(16,.tk (txts pc))] ⟨?_,?_,trivial⟩ ?_⟩
  ·intro junk h1 eh
   have oz:=Own.refl h1;refine lA (Own.refl _) aB aC λb390 m390 o390=>?_;(refine aI o390.ext ?_;have o391:=Own.call oz o390;simp only[lcA,lnA]at o391;clear o390);exact pR.lit (L:=[W,32::y.name,[32,61]]) zA 0 rfl
  ·intro junk h1 eh
   refine aDN (qV y.val pc _ hpc) λr h2 hr=>?_;exact hr.extP
  rintro junk h2 eh v0 ⟨a1,c1,rfl,u1⟩ v1 ⟨a2,c2,rfl,u2⟩;have oh2:=oh1.extE eh;clear oh1;have oz:=Own.refl h2;refine lA oz lM cS λb440 m440 o440=>?_;have hPs:lY [LL,[W,32::y.name,[32,61]],txts pc] [.slice a0 LL.length c0,.slice a1 3 c1,.slice a2 (txts pc).length c2] h2:=⟨.arr (oh2.rowArr 1 rfl) rfl,.arr u1 rfl,.arr u2 rfl,trivial⟩;have hLf:(LJ++txts (p++q)).length=LL.length+(txts pc).length+3:=by rw[hfin,aDX];simp only[aD1];omega
  refine aDN (gS _ _ o440 0 rfl rfl (hPs.ext o440.ext) zS (L:=LJ++txts (p++q)) (by rw[hfin];simp) zO) λr h5 hr=>?_
  obtain⟨a3,c3,rfl,o3⟩:=hr.upK ((oh2.extE o440.ext).sel [0] rfl)
  have o3:Own h [box b10 [iv x.kind,sv x.name,iv z,sv x.table,sv x.attr,vc,.slice i2 x.names.length j2,iv x.by_,iv x.n,iv x.m,vt,sv x.other,sv x.oattr,.slice i4 x.fixed.length j4,vv,vd,e0,e1,e2,e3,e4,e5,e6,e7,e8] 44,row (.slice a3 (LJ++txts (p++q)).length c3) 9 1 (LJ++txts (p++q)).length (strs (LJ++txts (p++q)))] h5:=o3;clear hr oz oh2 o440 hPs;refine aR ?_
  refine⟨rfl,?_⟩
  exact⟨⟨i+1,_,p++q,by omega,rfl,hnx,by rw[aDX];omega,o3⟩,by simp;omega⟩
 ·rw[fF zO hp]at f6
  obtain rfl:=Option.some.inj f6;generalize LJ++txts p=LL at oh hLp ⊢;refine fB aA ?_;refine oB oh 0 lZ ?_;refine lB kV ?_;refine bA λc543=>lA oh aB aC λb544 m544 o544=>?_;(refine aDI o544 1 rfl aB aC zD (o544.boxArr 2 rfl zS zS).toN c_ (by simp only[maxLen];first|omega|(simp<;>omega)) (by first|omega|(simp<;>omega)) ?_;intro v545 m545 o545);refine rO ?_;exact iR.row _ zA 1 rfl zS (by simp[strs])
theorem rline8_spec (x:It)(c:aVs)(h:Heap)(pp:List Pc)(hk:x.kind=8)(hc:nP h c x)(hOK:fO x)(hz:dF x<=50000000)(hq:eP x=some pp)(hnm:x.name.length<=24) :
  bG Tryz.prog 24 [.agg ⟨c⟩] h (iR h ([105,110,99,108,117,100,101]::(32::x.name)::(txts pp++[[59]]))):=by
 have hz0:dF x=1+x.cols.length+x.names.length+x.terms.length+x.fixed.length+x.vars.length+x.conds.length+fD x.expr:=rfl;have hcx:=hc;have hOK0:=hOK
 obtain⟨z,vc,vn,vt,vf,vv,vd,e0,e1,e2,e3,e4,e5,e6,e7,e8,rfl,w1,w2,w3,w4,w5,w6,rx⟩:=hc
 obtain⟨bkind,bname,btable,battr,bcols,bnames,bby,bn,bm,bterms,both,boat,bfixed,bvars,bconds,bexpr,lcols,lnames,lterms,lfixed,lvars,lconds⟩:=hOK
 have hQ:=hq;have hpp:=lP x _ hq;unfold eP at hQ
 rw[if_neg (show ¬ x.kind=1 by omega)]at hQ
 rw[if_neg (show ¬ x.kind=2 by omega)]at hQ
 rw[if_neg (show ¬ x.kind=3 by omega)]at hQ
 rw[if_neg (show ¬ x.kind=4 by omega)]at hQ
 rw[if_neg (show ¬ x.kind=5 by omega)]at hQ
 rw[if_neg (show ¬ x.kind=6 by omega)]at hQ
 rw[if_neg (show ¬ x.kind=7 by omega)]at hQ
 rw[if_pos hk]at hQ
 obtain⟨p1,q0,f0,g0,rfl⟩:=aN hQ
 obtain⟨p2,q1,f1,g1,rfl⟩:=aN g0
 obtain⟨p3,q2,f2,g2,rfl⟩:=aN g1
 obtain rfl:=dL g2;cases f1
 obtain⟨r01,s01,d01,t01,rfl⟩:=aN f0
 obtain⟨r02,s02,d02,t02,rfl⟩:=aN t01
 obtain⟨r03,s03,d03,t03,rfl⟩:=aN t02
 obtain rfl:=dL t03;cases d02
 obtain⟨hn01,rfl⟩:=bQ d01
 obtain⟨hn03,rfl⟩:=bQ d03
 have hl0:=bJ hn01
 obtain⟨r11,s11,d11,t11,rfl⟩:=aN f2
 obtain⟨r12,s12,d12,t12,rfl⟩:=aN t11
 obtain⟨r13,s13,d13,t13,rfl⟩:=aN t12
 obtain rfl:=dL t13;cases d12
 obtain⟨hn11,rfl⟩:=bQ d11
 obtain⟨hn13,rfl⟩:=bQ d13
 have hl1:=bJ hn11;unfold eD;refine eN Tryz.func24 Tryz.ntmps24 ?_;have o0:=Own.refl h;refine xB o0 λb10 m10 o10=>?_;refine fB aA ?_;refine oB o10 0 aK ?_;refine bA λc13=>bA λc14=>?_;refine bA λc15=>bA λc16=>?_;refine bA λc17=>bA λc18=>?_;refine bA λc19=>bB λc20=>?_;have ob:Own h [box b10 [iv x.kind,sv x.name,iv z,sv x.table,sv x.attr,vc,vn,iv x.by_,iv x.n,iv x.m,vt,sv x.other,sv x.oattr,vf,vv,vd,e0,e1,e2,e3,e4,e5,e6,e7,e8] 44] m10:=o10.sel [0] rfl;clear o10;refine aDA [0,2,4,6,10,12,18] [1,5,7,11,13] [16,17] [0,1,2,4,5,6,7,10,11,12,13] [3,8,9,14,15] [16,17,18] [156,161,162,167,168] [([],[]),([],[]),([],[]),([],[]),([],[])] mixed k_ (λ_ _ _ _ h=>h) ?_;refine fC aA ?_;refine oC ob 0 aC ?_;refine aDb rfl rfl (by first|omega|(simp<;>omega)) ?_;refine fC aA ?_;refine oC ob 0 aC ?_;refine fC aA ?_;refine oC ob 0 aC ?_;refine fC aA ?_;refine oC ob 0 aC ?_;refine fC aA ?_;refine oC ob 0 aC ?_
 refine⟨rfl,RestA.of [(3,.tk ([[105,110,99,108,117,100,101],32::x.name])),(8,.tk ([32::x.table,[46],x.attr])),(9,.tk ([[32,105,110]])),(14,.tk ([32::x.other,[46],x.oattr])),(15,.tk ([[59]]))] ⟨?_,?_,?_,?_,?_,trivial⟩ ?_⟩
 ·rintro junk h1 eh
  have oz:=Own.refl h1;refine lA (Own.refl _) aB aC λb70 m70 o70=>?_;(refine aI o70.ext ?_;have o71:=Own.call oz o70;simp only[lcA,lnA]at o71;clear o70);exact pR.lit (L:=[[105,110,99,108,117,100,101],32::x.name]) zA 0 rfl
 ·intro junk h1 eh
  have oe:=ob.extE eh;refine aDN (nT x.table x.attr _ zO) λr h2 hr=>?_;exact hr.extP
 ·rintro junk h1 eh
  have oz:=Own.refl h1;refine lA (Own.refl _) aB aC λb80 m80 o80=>?_;(refine aI o80.ext ?_;have o81:=Own.call oz o80;simp only[lcA,lnA]at o81;clear o80);exact pR.lit (L:=[[32,105,110]]) zA 0 rfl
 ·intro junk h1 eh
  have oe:=ob.extE eh;refine aDN (nT x.other x.oattr _ zO) λr h2 hr=>?_;exact hr.extP
 ·rintro junk h1 eh
  have oz:=Own.refl h1;refine lA (Own.refl _) aB aC λb90 m90 o90=>?_;(refine aI o90.ext ?_;have o91:=Own.call oz o90;simp only[lcA,lnA]at o91;clear o90);exact pR.lit (L:=[[59]]) zA 0 rfl
 rintro junk h2 eh v0 ⟨a0,c0,rfl,u0⟩ v1 ⟨a1,c1,rfl,u1⟩ v2 ⟨a2,c2,rfl,u2⟩ v3 ⟨a3,c3,rfl,u3⟩ v4 ⟨a4,c4,rfl,u4⟩;have oh2:=ob.extE eh;clear ob;have oz:=Own.refl h2;refine lA oz lM cS λb140 m140 o140=>?_;have hPs:lY [[[105,110,99,108,117,100,101],32::x.name],[32::x.table,[46],x.attr],[[32,105,110]],[32::x.other,[46],x.oattr],[[59]]] [.slice a0 ([[105,110,99,108,117,100,101],32::x.name]:List aBs).length c0,.slice a1 ([32::x.table,[46],x.attr]:List aBs).length c1,.slice a2 ([[32,105,110]]:List aBs).length c2,.slice a3 ([32::x.other,[46],x.oattr]:List aBs).length c3,.slice a4 ([[59]]:List aBs).length c4] h2:=⟨.arr u0 rfl,.arr u1 rfl,.arr u2 rfl,.arr u3 rfl,.arr u4 rfl,trivial⟩
 obtain⟨LJ,hLJ⟩:∃ LJ:List aBs,LJ=[[105,110,99,108,117,100,101],32::x.name,32::x.table,[46],x.attr,[32,105,110],32::x.other,[46],x.oattr,[59]]:=⟨_,rfl⟩
 have hLn:LJ.length=10:=by rw[hLJ];rfl
 refine aDN (gS _ _ o140 0 rfl rfl (hPs.ext o140.ext) zS (L:=LJ) (by rw[hLJ];simp only[aEz,aEF,lcA,lnA,aD7,aEb]) zO) λr h5 hr=>?_
 obtain⟨aj,cj,rfl,oj⟩:=hr.upK ((oh2.extE o140.ext).sel [0] rfl)
 have oj:Own h [box b10 [iv x.kind,sv x.name,iv z,sv x.table,sv x.attr,vc,vn,iv x.by_,iv x.n,iv x.m,vt,sv x.other,sv x.oattr,vf,vv,vd,e0,e1,e2,e3,e4,e5,e6,e7,e8] 44,row (.slice aj LJ.length cj) 9 1 LJ.length (strs LJ)] h5:=oj;clear hr oz oh2 o140 hPs;have hfin:[105,110,99,108,117,100,101]::(32::x.name)::(txts ((([aG [32] x.table]:List Pc)++([aS [] [46]]++([aG [] x.attr]++[])))++([aG [32] [105,110]]++(([aG [32] x.other]++([aS [] [46]]++([aG [] x.oattr]++[])))++[])))++[[59]])=LJ:=by rw[hLJ];simp[cM,cN,cW,dU,eT,gT]
 rw[hfin]
 refine rO ?_
 exact⟨_,_,rfl,o_ [1]⟩
theorem varI_parts {i:Nat}{x:Vr}{q:List Pc}(h:eK (λ_=>lI) i x=some q):aZ x.table=true/\aZ x.name=true/\txts q=(if i=0 then[] else[[44]])++[32::x.table,32::x.name]/\q.length<=3:=by
 have key:∀ q,lI x=some q->aZ x.table=true/\aZ x.name=true/\txts q=[32::x.table,32::x.name]/\q.length<=2:=by
  intro q hc
  obtain⟨p1,q1,e1,g1,rfl⟩:=aN hc
  obtain⟨p2,q2,e2,g2,rfl⟩:=aN g1
  obtain rfl:=dL g2
  obtain⟨hn1,rfl⟩:=bQ e1
  obtain⟨hn2,rfl⟩:=bQ e2
  exact⟨hn1,hn2,rfl,by simp⟩
 unfold eK at h;split at h
 ·rename_i h0
  obtain⟨a1,a2,a3,a4⟩:=key q h
  exact⟨a1,a2,by rw[if_pos h0,a3];rfl,by omega⟩
 ·rename_i h0
  have h:(lI x).map (aS [] [44]::·)=some q:=h;cases hc:lI x with
  | none=>rw[hc]at h;cases h
  | some q' =>
   rw[hc]at h
   cases h
   obtain⟨a1,a2,a3,a4⟩:=key q' hc
   exact⟨a1,a2,by rw[if_neg h0,cN,a3];rfl,by rw[aD1];omega⟩
theorem rline9_spec (x:It)(c:aVs)(h:Heap)(pp:List Pc)(hk:x.kind=9)(hc:nP h c x)(hOK:fO x)(hz:dF x<=50000000)(hq:eP x=some pp)(hnm:x.name.length<=24) :
  bG Tryz.prog 24 [.agg ⟨c⟩] h (iR h ([100,101,110,121]::(32::x.name)::(txts pp++[[59]]))):=by
 have hz0:dF x=1+x.cols.length+x.names.length+x.terms.length+x.fixed.length+x.vars.length+x.conds.length+fD x.expr:=rfl;have hcx:=hc;have hOK0:=hOK
 obtain⟨z,vc,vn,vt,vf,vv,vd,e0,e1,e2,e3,e4,e5,e6,e7,e8,rfl,w1,w2,w3,w4,w5,w6,rx⟩:=hc
 obtain⟨bkind,bname,btable,battr,bcols,bnames,bby,bn,bm,bterms,both,boat,bfixed,bvars,bconds,bexpr,lcols,lnames,lterms,lfixed,lvars,lconds⟩:=hOK
 obtain⟨i5,j5,rfl⟩:=w5.isS
 obtain⟨i6,j6,rfl⟩:=w6.isS
 have hQ:=hq;have hpp:=lP x _ hq;unfold eP at hQ
 rw[if_neg (show ¬ x.kind=1 by omega)]at hQ
 rw[if_neg (show ¬ x.kind=2 by omega)]at hQ
 rw[if_neg (show ¬ x.kind=3 by omega)]at hQ
 rw[if_neg (show ¬ x.kind=4 by omega)]at hQ
 rw[if_neg (show ¬ x.kind=5 by omega)]at hQ
 rw[if_neg (show ¬ x.kind=6 by omega)]at hQ
 rw[if_neg (show ¬ x.kind=7 by omega)]at hQ
 rw[if_neg (show ¬ x.kind=8 by omega)]at hQ
 rw[if_pos hk]at hQ
 obtain⟨p1,q0,f0,g0,rfl⟩:=aN hQ
 obtain⟨p2,q1,f1,g1,rfl⟩:=aN g0
 obtain rfl:=dL g1;have hcl:=aAU _ _ f1;have hl2:=fZ p2;have hne:x.vars≠[]:=λe=>by rw[e]at f0;cases f0
 rw[pL _ x.vars hne]at f0
 unfold eD;refine eN Tryz.func24 Tryz.ntmps24 ?_;have o0:=Own.refl h;refine xB o0 λb10 m10 o10=>?_;refine fB aA ?_;refine oB o10 0 aK ?_;refine bA λc13=>bA λc14=>?_;refine bA λc15=>bA λc16=>?_;refine bA λc17=>bA λc18=>?_;refine bA λc19=>bA λc20=>?_;refine bB λc21=>fB aA ?_;refine oB o10 0 aC ?_;refine rR (aDb rfl rfl (by first|omega|(simp<;>omega)) ?_);refine lA o10 aB aC λb25 m25 o25=>?_
 obtain⟨LJ,hLJ⟩:∃ LJ:List aBs,LJ=[[100,101,110,121],32::x.name]:=⟨_,rfl⟩
 have hLn:LJ.length=2:=by rw[hLJ];rfl
 have oj:Own h [box b10 [iv x.kind,sv x.name,iv z,sv x.table,sv x.attr,vc,vn,iv x.by_,iv x.n,iv x.m,vt,sv x.other,sv x.oattr,vf,.slice i5 x.vars.length j5,.slice i6 x.conds.length j6,e0,e1,e2,e3,e4,e5,e6,e7,e8] 44,row (.slice (some ⟨b25,0,none⟩) 2 2) 9 1 LJ.length (strs LJ)] m25:=by
  have o2:=o25.litRow (L:=[[100,101,110,121],32::x.name]) 1 rfl zS
  rw[hLJ]
  exact o2
 clear o25;have hfin9:[100,101,110,121]::(32::x.name)::(txts (p1++(p2++[]))++[[59]])=LJ++txts p1++(txts p2++[[59]]):=by rw[hLJ];simp[cM,cN,cW,dU,eT,gT]
 rw[hfin9]
 clear hfin9 hLJ;refine aDT [7,8,177,178,179,180,181,182,183,184,185,186,187,188,189,190,191,192,193,194,195,196,197,198,199,200,201,202,203,204,205] [7,8] (λws hh=>∃(i:Nat) (v:Value) (p:List Pc),i<=x.vars.length/\ws=[v,.int .i64 i]/\dD (eK λ_=>lI) (x.vars.take i)=some p/\p.length<=3*i/\Own h [box b10 [.int .i64 x.kind,.string ⟨⟨x.name⟩⟩,.int .i64 z,.string ⟨⟨x.table⟩⟩,.string ⟨⟨x.attr⟩⟩,vc,vn,.int .i64 x.by_,.int .i64 x.n,.int .i64 x.m,vt,.string ⟨⟨x.other⟩⟩,.string ⟨⟨x.oattr⟩⟩,vf,.slice i5 x.vars.length j5,.slice i6 x.conds.length j6,e0,e1,e2,e3,e4,e5,e6,e7,e8] 44,row v 9 1 (LJ++txts p).length (strs (LJ++txts p))] hh) (λws _=>match ws with|[_,.int _ i]=>x.vars.length - i.toNat|_=>0) ?_ ?_
 ·exact⟨0,_,[],by omega,rfl,rfl,by simp,by rw[cW,aD7];exact oj⟩
 rintro ws junk hh ⟨i,v,p,hi,rfl,hp,hpl,oh⟩;clear oj;have hptl:=fZ p;have hLp:(LJ++txts p).length=LJ.length+p.length:=by rw[aDX];omega
 by_cases hlt:i<x.vars.length
 ·obtain⟨y,hy⟩:=getx hlt
  have hyOK:=bvars y (aDY hy)
  obtain⟨q,hqx,hnx⟩:=oV hy hp f0
  obtain⟨hy1,hy2,hqt,hql⟩:=varI_parts hqx
  have hyl1:=bJ hy1;have hyl2:=bJ hy2;have hfin:LJ++txts (p++q)=((LJ++txts p)++(if i=0 then[] else[[44]]))++[32::y.table,32::y.name]:=by rw[cM,hqt,aEb,aEb]
  have hpq:(p++q).length<=3*(i+1):=by rw[aDX];omega
  generalize LJ++txts p=LL at oh hLp hfin
  by_cases h0:i=0
  ·rw[if_pos h0,aD7]at hfin
   refine fB aA ?_;refine oB oh 0 lK ?_;refine lB jW ?_;refine bB λc63=>bA λc64=>?_;refine d1_ [0,1,3,4,5,7,8,10,11,12,14,17] [2,6,9,13] [15,16] [0,1,2,3,4,5,6,7,8,9,10,11,12,13,14,15,16,17] ?_;refine fC aA ?_;refine oC oh 0 lK ?_;refine aDe jW kT (w5.ext oh.ext) rfl zO zO ?_;refine aDf (w5.ext oh.ext) zO aAp rfl rfl rfl ?_;refine aDl (w5.ext oh.ext) aC (λ_=>rfl) rfl zA rfl ?_;refine aDb rfl rfl (by first|omega|(simp<;>omega)) ?_;refine fC aA ?_;refine oC oh 0 lK ?_;refine aDe jW kT (w5.ext oh.ext) rfl zO zO ?_;refine aDf (w5.ext oh.ext) zO aAp rfl rfl rfl ?_;refine aDl (w5.ext oh.ext) aC (λ_=>rfl) rfl zA rfl ?_;refine aDb rfl rfl (by first|omega|(simp<;>omega)) ?_;refine lA oh aB aC λb77 m77 o77=>?_;(refine aDI o77 1 rfl aB aC zD (o77.boxArr 2 rfl zS zS).toN c_ (by simp only[maxLen];first|omega|(simp<;>omega)) (by first|omega|(simp<;>omega)) ?_;intro v78 m78 o78);refine aR ?_
   refine⟨rfl,?_⟩
   refine⟨⟨i+1,_,p++q,by omega,rfl,hnx,hpq,?_⟩,by simp;omega⟩
   rw[hfin,aDX,eF]
   exact o_ [0,1]
  ·rw[if_neg h0]at hfin
   refine fB aA ?_;refine oB oh 0 lK ?_;refine lB jW ?_;refine bB λc113=>bB λc114=>?_;refine lA oh aB aC λb115 m115 o115=>?_;(refine aDI o115 1 rfl aB aC zD (o115.boxArr 2 rfl zS zS).toN c_ (by simp only[maxLen];first|omega|(simp<;>omega)) (by first|omega|(simp<;>omega)) ?_;intro v116 m116 o116);refine d1_ [0,1,3,4,5,7,8,10,11,12,14,17] [2,6,9,13] [15,16] [0,1,2,3,4,5,6,7,8,9,10,11,12,13,14,15,16,17] ?_;refine fC aA ?_;refine oC o116 0 lK ?_;refine aDe jW kT (w5.ext o116.ext) rfl zO zO ?_;refine aDf (w5.ext o116.ext) zO aAp rfl rfl rfl ?_;refine aDl (w5.ext o116.ext) aC (λ_=>rfl) rfl zA rfl ?_;refine aDb rfl rfl (by first|omega|(simp<;>omega)) ?_;refine fC aA ?_;refine oC o116 0 lK ?_;refine aDe jW kT (w5.ext o116.ext) rfl zO zO ?_;refine aDf (w5.ext o116.ext) zO aAp rfl rfl rfl ?_;refine aDl (w5.ext o116.ext) aC (λ_=>rfl) rfl zA rfl ?_;refine aDb rfl rfl (by first|omega|(simp<;>omega)) ?_;refine lA o116 aB aC λb129 m129 o129=>?_;(refine aDI o129 1 rfl aB aC zD (o129.boxArr 3 rfl zS zS).toN c_ (by simp only[maxLen];first|omega|(simp<;>omega)) (by first|omega|(simp<;>omega)) ?_;intro v130 m130 o130);refine aR ?_
   refine⟨rfl,?_⟩
   refine⟨⟨i+1,_,p++q,by omega,rfl,hnx,hpq,?_⟩,by simp;omega⟩
   rw[hfin,aDX,aDX,eF,eF]
   exact o_ [0,1]
 ·rw[fF zO hp]at f0
  obtain rfl:=Option.some.inj f0
  obtain⟨a0,c0,rfl⟩:=oh.rowIs 1 rfl
  generalize LJ++txts p=LL at oh hLp ⊢
  refine fB aA ?_;refine oB oh 0 lK ?_;refine lB jW ?_;refine bA λc163=>fB aA ?_;refine oB oh 0 kI ?_;refine aDN (vM x.conds p2 _ _ (w6.ext (Own.ext (B:=h) zA)) zO bconds f1) λr h4 hr=>?_
  obtain⟨a4,c4,rfl,o4⟩:=hr.upK oh
  simp only[lcA,lnA]at o4
  clear oh hr;refine lA o4 aB aC λb210 m210 o210=>?_;refine lA o210 lM cS λb211 m211 o211=>?_;have hPs:lY [LL,txts p2,[[59]]] [.slice a0 LL.length c0,.slice a4 (txts p2).length c4,.slice (some ⟨b210,0,none⟩) 1 1] m211:=⟨.arr (o211.rowArr 1 rfl) rfl,.arr (o211.rowArr 2 rfl) rfl,pR.lit (L:=[[59]]) o211 3 rfl,trivial⟩;refine aDN (gS _ _ o211 4 rfl rfl hPs zS (L:=LL++(txts p2++[[59]])) zS (by rw[aDX,aDX];simp only[aD1,aD2];omega)) λr h5 hr=>?_;refine rO ?_;exact hr.up (o_ [])
theorem aCG (x:It)(c:aVs)(h:Heap)(pp:List Pc)(hk:x.kind=10)(hc:nP h c x)(hOK:fO x)(hz:dF x<=50000000)(hq:eP x=some pp)(hnm:x.name.length<=24) :
  bG Tryz.prog 24 [.agg ⟨c⟩] h (iR h ([113,117,101,114,121]::(32::x.name)::(txts pp++[[59]]))):=by
 have hz0:dF x=1+x.cols.length+x.names.length+x.terms.length+x.fixed.length+x.vars.length+x.conds.length+fD x.expr:=rfl;have hcx:=hc;have hOK0:=hOK
 obtain⟨z,vc,vn,vt,vf,vv,vd,e0,e1,e2,e3,e4,e5,e6,e7,e8,rfl,w1,w2,w3,w4,w5,w6,rx⟩:=hc
 obtain⟨bkind,bname,btable,battr,bcols,bnames,bby,bn,bm,bterms,both,boat,bfixed,bvars,bconds,bexpr,lcols,lnames,lterms,lfixed,lvars,lconds⟩:=hOK
 have hQ:=hq;have hpp:=lP x _ hq;unfold eP at hQ
 rw[if_neg (show ¬ x.kind=1 by omega)]at hQ
 rw[if_neg (show ¬ x.kind=2 by omega)]at hQ
 rw[if_neg (show ¬ x.kind=3 by omega)]at hQ
 rw[if_neg (show ¬ x.kind=4 by omega)]at hQ
 rw[if_neg (show ¬ x.kind=5 by omega)]at hQ
 rw[if_neg (show ¬ x.kind=6 by omega)]at hQ
 rw[if_neg (show ¬ x.kind=7 by omega)]at hQ
 rw[if_neg (show ¬ x.kind=8 by omega)]at hQ
 rw[if_neg (show ¬ x.kind=9 by omega)]at hQ
 obtain⟨p1,q0,f0,g0,rfl⟩:=aN hQ
 obtain⟨p2,q1,f1,g1,rfl⟩:=aN g0
 obtain rfl:=dL g1;cases f0
 simp only[aDX,aD1,aD2]at hpp
 have hl2:=fZ p2;unfold eD;refine eN Tryz.func24 Tryz.ntmps24 ?_;have o0:=Own.refl h;refine xB o0 λb10 m10 o10=>?_;refine fB aA ?_;refine oB o10 0 aK ?_;refine bA λc13=>bA λc14=>?_;refine bA λc15=>bA λc16=>?_;refine bA λc17=>bA λc18=>?_;refine bA λc19=>bA λc20=>?_;refine bA λc21=>?_;have ob:Own h [box b10 [iv x.kind,sv x.name,iv z,sv x.table,sv x.attr,vc,vn,iv x.by_,iv x.n,iv x.m,vt,sv x.other,sv x.oattr,vf,vv,vd,e0,e1,e2,e3,e4,e5,e6,e7,e8] 44] m10:=o10.sel [0] rfl;clear o10;refine aDA [0,2,4,10] [1,5] [8,9] [0,1,2,4,5] [3,6,7] [8,9,10] [216,219,220] [([],[]),([],[]),([],[])] mixed k_ (λ_ _ _ _ h=>h) ?_;refine fC aA ?_;refine oC ob 0 aC ?_;refine aDb rfl rfl (by first|omega|(simp<;>omega)) ?_;refine fC aA ?_;refine aDr ob 0 rfl aQ rfl rfl rfl ?_
 refine⟨rfl,RestA.of [(3,.tk ([[113,117,101,114,121],32::x.name,[32,61]])),(6,.tk (txts p2)),(7,.tk ([[59]]))] ⟨?_,?_,?_,trivial⟩ ?_⟩
 ·rintro junk h1 eh
  have oz:=Own.refl h1;refine lA (Own.refl _) aB aC λb70 m70 o70=>?_;(refine aI o70.ext ?_;have o71:=Own.call oz o70;simp only[lcA,lnA]at o71;clear o70);exact pR.lit (L:=[[113,117,101,114,121],32::x.name,[32,61]]) zA 0 rfl
 ·intro junk h1 eh
  have oe:=ob.extE eh;refine aDN (pT _ x.expr _ _ [32] p2 (aD6 _) bexpr (fT.ext oe.ext _ _ rx) zO zS f1) λr h2 hr=>?_;exact hr.extP
 ·rintro junk h1 eh
  have oz:=Own.refl h1;refine lA (Own.refl _) aB aC λb80 m80 o80=>?_;(refine aI o80.ext ?_;have o81:=Own.call oz o80;simp only[lcA,lnA]at o81;clear o80);exact pR.lit (L:=[[59]]) zA 0 rfl
 rintro junk h2 eh v0 ⟨a0,c0,rfl,u0⟩ v1 ⟨a1,c1,rfl,u1⟩ v2 ⟨a2,c2,rfl,u2⟩;have oh2:=ob.extE eh;clear ob;have oz:=Own.refl h2;refine lA oz lM cS λb130 m130 o130=>?_;have hPs:lY [[[113,117,101,114,121],32::x.name,[32,61]],txts p2,[[59]]] [.slice a0 ([[113,117,101,114,121],32::x.name,[32,61]]:List aBs).length c0,.slice a1 (txts p2:List aBs).length c1,.slice a2 ([[59]]:List aBs).length c2] h2:=⟨.arr u0 rfl,.arr u1 rfl,.arr u2 rfl,trivial⟩
 obtain⟨LJ,hLJ⟩:∃ LJ:List aBs,LJ=[113,117,101,114,121]::(32::x.name)::[32,61]::(txts p2++[[59]]):=⟨_,rfl⟩
 have hLn:LJ.length<=2000000000:=by rw[hLJ];simp only[aDX,aD1,aD2];omega
 refine aDN (gS _ _ o130 0 rfl rfl (hPs.ext o130.ext) zS (L:=LJ) (by rw[hLJ];simp only[aEz,aEF,lcA,lnA,aD7,aEb]) zO) λr h5 hr=>?_
 obtain⟨aj,cj,rfl,oj⟩:=hr.upK ((oh2.extE o130.ext).sel [0] rfl)
 have oj:Own h [box b10 [iv x.kind,sv x.name,iv z,sv x.table,sv x.attr,vc,vn,iv x.by_,iv x.n,iv x.m,vt,sv x.other,sv x.oattr,vf,vv,vd,e0,e1,e2,e3,e4,e5,e6,e7,e8] 44,row (.slice aj LJ.length cj) 9 1 LJ.length (strs LJ)] h5:=oj;clear hr oz oh2 o130 hPs;have hfin:[113,117,101,114,121]::(32::x.name)::(txts (([aS [32] [61]]:List Pc)++(p2++[]))++[[59]])=LJ:=by rw[hLJ];simp[cM,cN,cW,dU,eT,gT]
 rw[hfin]
 refine rO ?_
 exact⟨_,_,rfl,o_ [1]⟩
def aBy (x:It):It:={ uJ with kind:=1,name:=x.name,cols:=x.cols,names:=x.names }
def aBx (x:It):It:={ uJ with kind:=2,name:=x.name,n:=x.n }
def rL (x:It):It:={ uJ with kind:=3,name:=x.name,table:=x.table,attr:=x.attr,by_:=x.by_,n:=if 3<=x.by_ then x.n else 0,m:=if x.by_=4 then x.m else 0 }
def aBw (x:It):It:={ uJ with kind:=4,name:=x.name,table:=x.table,n:=x.n,terms:=x.terms }
def aBv (x:It):It:={ uJ with kind:=5,table:=x.table,attr:=x.attr,by_:=x.by_ }
def aBu (x:It):It:={ uJ with kind:=6,name:=x.name,table:=x.table,names:=x.names }
def aBt (x:It):It:={ uJ with kind:=7,name:=x.name,table:=x.table,names:=x.names,attr:=x.attr,fixed:=x.fixed }
def aBr (x:It):It:={ uJ with kind:=8,name:=x.name,table:=x.table,attr:=x.attr,other:=x.other,oattr:=x.oattr }
def aBq (x:It):It:={ uJ with kind:=9,name:=x.name,vars:=x.vars,conds:=x.conds }
def wJ (x:It):It:={ uJ with kind:=10,name:=x.name,expr:=x.expr }
theorem rbare1 (x:It)(c:aVs)(h:Heap)(hk:x.kind=1)(hc:nP h c x):bG Tryz.prog 81 [.agg ⟨c⟩] h λr h'=>∃ c',r=.agg ⟨c'⟩/\nP h c' (aBy x)/\Own h [] h':=by
 obtain⟨z,vc,vn,vt,vf,vv,vd,e0,e1,e2,e3,e4,e5,e6,e7,e8,rfl,w1,w2,w3,w4,w5,w6,rx⟩:=hc
 obtain⟨i1,j1,rfl⟩:=w1.isS
 obtain⟨i2,j2,rfl⟩:=w2.isS
 obtain⟨i3,j3,rfl⟩:=w3.isS
 obtain⟨i4,j4,rfl⟩:=w4.isS
 obtain⟨i5,j5,rfl⟩:=w5.isS
 obtain⟨i6,j6,rfl⟩:=w6.isS
 obtain⟨kind,name,off,table,attr,cols,names,by_,n,m,terms,other,oattr,fixed,vars,conds,expr⟩:=x
 dsimp only at hk;subst hk;cases expr with
 | mk xk xt xks xcs xns xa xs_ xg xo =>
 have rx0:=rx
 rw[fT]at rx
 obtain⟨wk,wc,wn,wz,hcv,g1,g2,gx,g3,g4⟩:=rx
 obtain⟨h1',h2',rfl⟩:=g1.isS
 obtain⟨h3',h4',rfl⟩:=g2.isS
 obtain⟨h5',h6',rfl⟩:=g3.isS
 unfold kG at hcv
 simp only[List.cons.injEq,and_true]at hcv
 obtain⟨rfl,rfl,rfl,rfl,rfl,rfl,rfl,rfl,rfl⟩:=hcv
 unfold eD;dsimp only;refine eN Tryz.func81 Tryz.ntmps81 ?_;have o0:=Own.refl h;refine xB o0 λb10 m10 o10=>?_;refine aDH o10 bU λb11 m11 o11=>?_;refine fB aA ?_;refine oB o11 0 aK ?_;refine fB aA ?_;refine oB o11 0 aC ?_;refine rR (aDd aA ?_);refine aI rfl ?_;refine aI rfl ?_;refine aDH o11 bU λb17 m17 o17=>?_;(refine sA o17 2 bU ?_;intro m18 o18);refine fB aA ?_;refine oB o18 0 aK ?_;refine aDK (d2_ b10 [0,2,4,6] [1,3] [7] [0,1,2,3,4,5,6,7] ?_);refine fC aA ?_;refine StillVCA.load1 kU rfl rfl ((o18.cellB 0 rfl _).trans rfl) ?_;refine fC aA ?_;refine StillVCA.load1 cS rfl rfl ((o18.cellB 0 rfl _).trans rfl) ?_;refine fC aA ?_;(refine sB o18 2 kU ?_;intro m105 o105);refine aI ((o105.boxBlk 0 rfl).trans (o18.boxBlk 0 rfl).symm) ?_;refine fC aA ?_;(refine sB o105 2 cS ?_;intro m107 o107);refine nB o107 2 bU ?_;(refine sA o107 1 bU ?_;intro m109 o109)
 first|refine r1_ o109 1 bU ?_|refine r2_ o109 1 bU ?_
 refine⟨_,rfl,⟨0,.slice i1 cols.length j1,.slice i2 names.length j2,.slice none 0 0,.slice none 0 0,.slice none 0 0,.slice none 0 0,_,_,_,_,_,_,_,_,_,rfl,w1,w2,aY.nil _ _,aY.nil _ _,aY.nil _ _,aY.nil _ _,(by show fT h _ (.mk 0 [] [] [] [] [] [] 0 0);rw[fT];exact⟨.slice none 0 0,.slice none 0 0,.slice none 0 0,0,rfl,aY.nil _ _,aY.nil _ _,[],aY.nil _ _,trivial⟩)⟩,o_ []⟩
theorem rbare2 (x:It)(c:aVs)(h:Heap)(hk:x.kind=2)(hc:nP h c x):bG Tryz.prog 81 [.agg ⟨c⟩] h λr h'=>∃ c',r=.agg ⟨c'⟩/\nP h c' (aBx x)/\Own h [] h':=by
 obtain⟨z,vc,vn,vt,vf,vv,vd,e0,e1,e2,e3,e4,e5,e6,e7,e8,rfl,w1,w2,w3,w4,w5,w6,rx⟩:=hc
 obtain⟨i1,j1,rfl⟩:=w1.isS
 obtain⟨i2,j2,rfl⟩:=w2.isS
 obtain⟨i3,j3,rfl⟩:=w3.isS
 obtain⟨i4,j4,rfl⟩:=w4.isS
 obtain⟨i5,j5,rfl⟩:=w5.isS
 obtain⟨i6,j6,rfl⟩:=w6.isS
 obtain⟨kind,name,off,table,attr,cols,names,by_,n,m,terms,other,oattr,fixed,vars,conds,expr⟩:=x
 dsimp only at hk;subst hk;cases expr with
 | mk xk xt xks xcs xns xa xs_ xg xo =>
 have rx0:=rx
 rw[fT]at rx
 obtain⟨wk,wc,wn,wz,hcv,g1,g2,gx,g3,g4⟩:=rx
 obtain⟨h1',h2',rfl⟩:=g1.isS
 obtain⟨h3',h4',rfl⟩:=g2.isS
 obtain⟨h5',h6',rfl⟩:=g3.isS
 unfold kG at hcv
 simp only[List.cons.injEq,and_true]at hcv
 obtain⟨rfl,rfl,rfl,rfl,rfl,rfl,rfl,rfl,rfl⟩:=hcv
 unfold eD;dsimp only;refine eN Tryz.func81 Tryz.ntmps81 ?_;have o0:=Own.refl h;refine xB o0 λb10 m10 o10=>?_;refine aDH o10 bU λb11 m11 o11=>?_;refine fB aA ?_;refine oB o11 0 aK ?_;refine fB aA ?_;refine oB o11 0 aC ?_;refine rR (aDd aA ?_);refine aI rfl ?_;refine aI rfl ?_;refine aDH o11 bU λb17 m17 o17=>?_;(refine sA o17 2 bU ?_;intro m18 o18);refine fB aA ?_;refine oB o18 0 aK ?_;refine aDL (aDK ?_);refine fB aA ?_;refine oB o18 0 aK ?_;refine fB aA ?_;(refine sB o18 2 aK ?_;intro m24 o24);refine nB o24 2 bU ?_;(refine sA o24 1 bU ?_;intro m26 o26)
 first|refine r1_ o26 1 bU ?_|refine r2_ o26 1 bU ?_
 refine⟨_,rfl,⟨0,.slice none 0 0,.slice none 0 0,.slice none 0 0,.slice none 0 0,.slice none 0 0,.slice none 0 0,_,_,_,_,_,_,_,_,_,rfl,aY.nil _ _,aY.nil _ _,aY.nil _ _,aY.nil _ _,aY.nil _ _,aY.nil _ _,(by show fT h _ (.mk 0 [] [] [] [] [] [] 0 0);rw[fT];exact⟨.slice none 0 0,.slice none 0 0,.slice none 0 0,0,rfl,aY.nil _ _,aY.nil _ _,[],aY.nil _ _,trivial⟩)⟩,o_ []⟩
theorem rbare3 (x:It)(c:aVs)(h:Heap)(hk:x.kind=3)(hc:nP h c x):bG Tryz.prog 81 [.agg ⟨c⟩] h λr h'=>∃ c',r=.agg ⟨c'⟩/\nP h c' (rL x)/\Own h [] h':=by
 obtain⟨z,vc,vn,vt,vf,vv,vd,e0,e1,e2,e3,e4,e5,e6,e7,e8,rfl,w1,w2,w3,w4,w5,w6,rx⟩:=hc
 obtain⟨i1,j1,rfl⟩:=w1.isS
 obtain⟨i2,j2,rfl⟩:=w2.isS
 obtain⟨i3,j3,rfl⟩:=w3.isS
 obtain⟨i4,j4,rfl⟩:=w4.isS
 obtain⟨i5,j5,rfl⟩:=w5.isS
 obtain⟨i6,j6,rfl⟩:=w6.isS
 obtain⟨kind,name,off,table,attr,cols,names,by_,n,m,terms,other,oattr,fixed,vars,conds,expr⟩:=x
 dsimp only at hk;subst hk;cases expr with
 | mk xk xt xks xcs xns xa xs_ xg xo =>
 have rx0:=rx
 rw[fT]at rx
 obtain⟨wk,wc,wn,wz,hcv,g1,g2,gx,g3,g4⟩:=rx
 obtain⟨h1',h2',rfl⟩:=g1.isS
 obtain⟨h3',h4',rfl⟩:=g2.isS
 obtain⟨h5',h6',rfl⟩:=g3.isS
 unfold kG at hcv
 simp only[List.cons.injEq,and_true]at hcv
 obtain⟨rfl,rfl,rfl,rfl,rfl,rfl,rfl,rfl,rfl⟩:=hcv
 unfold eD;dsimp only;refine eN Tryz.func81 Tryz.ntmps81 ?_;have o0:=Own.refl h;by_cases b3:3<=by_
 ·by_cases b4:by_=4
  ·subst b4
   refine xB o0 λb10 m10 o10=>?_;refine aDH o10 bU λb11 m11 o11=>?_;refine fB aA ?_;refine oB o11 0 aK ?_;refine fB aA ?_;refine oB o11 0 aC ?_;refine rR (aDd aA ?_);refine aI rfl ?_;refine aI rfl ?_;refine aDH o11 bU λb17 m17 o17=>?_;(refine sA o17 2 bU ?_;intro m18 o18);refine fB aA ?_;refine oB o18 0 aK ?_;refine aDL (aDL ?_);refine aDK (d2_ b10 [0,2,4,6,8,10] [1,3,5] [11] [0,1,2,3,4,5,6,7,8,9,10,11] ?_);refine fC aA ?_;refine StillVCA.load1 aC rfl rfl ((o18.cellB 0 rfl _).trans rfl) ?_;refine fC aA ?_;refine StillVCA.load1 aC rfl rfl ((o18.cellB 0 rfl _).trans rfl) ?_;refine fC aA ?_;refine StillVCA.load1 aK rfl rfl ((o18.cellB 0 rfl _).trans rfl) ?_;refine fC aA ?_;(refine sB o18 2 aC ?_;intro m107 o107);refine aI ((o107.boxBlk 0 rfl).trans (o18.boxBlk 0 rfl).symm) ?_;refine fC aA ?_;(refine sB o107 2 aC ?_;intro m109 o109);refine aI ((o109.boxBlk 0 rfl).trans (o107.boxBlk 0 rfl).symm) ?_;refine fC aA ?_;(refine sB o109 2 aK ?_;intro m111 o111);refine fB aA ?_;refine oB o111 0 aK ?_;refine aDK (fB aA ?_);refine oB o111 0 aK ?_;refine fB aA ?_;(refine sB o111 2 aK ?_;intro m117 o117);refine fB aA ?_;refine oB o117 0 aK ?_;refine aDK (fB aA ?_);refine oB o117 0 aK ?_;refine fB aA ?_;(refine sB o117 2 aK ?_;intro m123 o123);refine nB o123 2 bU ?_;(refine sA o123 1 bU ?_;intro m125 o125)
   first|refine r1_ o125 1 bU ?_|refine r2_ o125 1 bU ?_
   refine⟨_,rfl,⟨0,.slice none 0 0,.slice none 0 0,.slice none 0 0,.slice none 0 0,.slice none 0 0,.slice none 0 0,_,_,_,_,_,_,_,_,_,rfl,aY.nil _ _,aY.nil _ _,aY.nil _ _,aY.nil _ _,aY.nil _ _,aY.nil _ _,(by show fT h _ (.mk 0 [] [] [] [] [] [] 0 0);rw[fT];exact⟨.slice none 0 0,.slice none 0 0,.slice none 0 0,0,rfl,aY.nil _ _,aY.nil _ _,[],aY.nil _ _,trivial⟩)⟩,o_ []⟩
  ·have e1:rL ⟨3,name,off,table,attr,cols,names,by_,n,m,terms,other,oattr,fixed,vars,conds,.mk xk xt xks xcs xns xa xs_ xg xo⟩={ uJ with kind:=3,name:=name,table:=table,attr:=attr,by_:=by_,n:=n,m:=0 }:=by unfold rL;dsimp only;rw[if_pos b3,if_neg b4]
   rw[e1]
   refine xB o0 λb200 m200 o200=>?_;refine aDH o200 bU λb201 m201 o201=>?_;refine fB aA ?_;refine oB o201 0 aK ?_;refine fB aA ?_;refine oB o201 0 aC ?_;refine rR (aDd aA ?_);refine aI rfl ?_;refine aI rfl ?_;refine aDH o201 bU λb207 m207 o207=>?_;(refine sA o207 2 bU ?_;intro m208 o208);refine fB aA ?_;refine oB o208 0 aK ?_;refine aDL (aDL ?_);refine aDK (d2_ b200 [0,2,4,6,8,10] [1,3,5] [11] [0,1,2,3,4,5,6,7,8,9,10,11] ?_);refine fC aA ?_;refine StillVCA.load1 aC rfl rfl ((o208.cellB 0 rfl _).trans rfl) ?_;refine fC aA ?_;refine StillVCA.load1 aC rfl rfl ((o208.cellB 0 rfl _).trans rfl) ?_;refine fC aA ?_;refine StillVCA.load1 aK rfl rfl ((o208.cellB 0 rfl _).trans rfl) ?_;refine fC aA ?_;(refine sB o208 2 aC ?_;intro m307 o307);refine aI ((o307.boxBlk 0 rfl).trans (o208.boxBlk 0 rfl).symm) ?_;refine fC aA ?_;(refine sB o307 2 aC ?_;intro m309 o309);refine aI ((o309.boxBlk 0 rfl).trans (o307.boxBlk 0 rfl).symm) ?_;refine fC aA ?_;(refine sB o309 2 aK ?_;intro m311 o311);refine fB aA ?_;refine oB o311 0 aK ?_;refine bB λc314=>fB aA ?_;refine oB o311 0 aK ?_;refine fB aA ?_;(refine sB o311 2 aK ?_;intro m318 o318);refine fB aA ?_;refine oB o318 0 aK ?_;refine bA λc321=>nB o318 2 bU ?_;(refine sA o318 1 bU ?_;intro m323 o323)
   first|refine r1_ o323 1 bU ?_|refine r2_ o323 1 bU ?_
   refine⟨_,rfl,⟨0,.slice none 0 0,.slice none 0 0,.slice none 0 0,.slice none 0 0,.slice none 0 0,.slice none 0 0,_,_,_,_,_,_,_,_,_,rfl,aY.nil _ _,aY.nil _ _,aY.nil _ _,aY.nil _ _,aY.nil _ _,aY.nil _ _,(by show fT h _ (.mk 0 [] [] [] [] [] [] 0 0);rw[fT];exact⟨.slice none 0 0,.slice none 0 0,.slice none 0 0,0,rfl,aY.nil _ _,aY.nil _ _,[],aY.nil _ _,trivial⟩)⟩,o_ []⟩
 ·have e1:rL ⟨3,name,off,table,attr,cols,names,by_,n,m,terms,other,oattr,fixed,vars,conds,.mk xk xt xks xcs xns xa xs_ xg xo⟩={ uJ with kind:=3,name:=name,table:=table,attr:=attr,by_:=by_,n:=0,m:=0 }:=by unfold rL;dsimp only;rw[if_neg b3,if_neg zO]
  rw[e1]
  refine xB o0 λb400 m400 o400=>?_;refine aDH o400 bU λb401 m401 o401=>?_;refine fB aA ?_;refine oB o401 0 aK ?_;refine fB aA ?_;refine oB o401 0 aC ?_;refine rR (aDd aA ?_);refine aI rfl ?_;refine aI rfl ?_;refine aDH o401 bU λb407 m407 o407=>?_;(refine sA o407 2 bU ?_;intro m408 o408);refine fB aA ?_;refine oB o408 0 aK ?_;refine aDL (aDL ?_);refine aDK (d2_ b400 [0,2,4,6,8,10] [1,3,5] [11] [0,1,2,3,4,5,6,7,8,9,10,11] ?_);refine fC aA ?_;refine StillVCA.load1 aC rfl rfl ((o408.cellB 0 rfl _).trans rfl) ?_;refine fC aA ?_;refine StillVCA.load1 aC rfl rfl ((o408.cellB 0 rfl _).trans rfl) ?_;refine fC aA ?_;refine StillVCA.load1 aK rfl rfl ((o408.cellB 0 rfl _).trans rfl) ?_;refine fC aA ?_;(refine sB o408 2 aC ?_;intro m507 o507);refine aI ((o507.boxBlk 0 rfl).trans (o408.boxBlk 0 rfl).symm) ?_;refine fC aA ?_;(refine sB o507 2 aC ?_;intro m509 o509);refine aI ((o509.boxBlk 0 rfl).trans (o507.boxBlk 0 rfl).symm) ?_;refine fC aA ?_;(refine sB o509 2 aK ?_;intro m511 o511);refine fB aA ?_;refine oB o511 0 aK ?_;refine bA λc514=>fB aA ?_;refine oB o511 0 aK ?_;refine bA λc517=>nB o511 2 bU ?_;(refine sA o511 1 bU ?_;intro m519 o519)
  first|refine r1_ o519 1 bU ?_|refine r2_ o519 1 bU ?_
  refine⟨_,rfl,⟨0,.slice none 0 0,.slice none 0 0,.slice none 0 0,.slice none 0 0,.slice none 0 0,.slice none 0 0,_,_,_,_,_,_,_,_,_,rfl,aY.nil _ _,aY.nil _ _,aY.nil _ _,aY.nil _ _,aY.nil _ _,aY.nil _ _,(by show fT h _ (.mk 0 [] [] [] [] [] [] 0 0);rw[fT];exact⟨.slice none 0 0,.slice none 0 0,.slice none 0 0,0,rfl,aY.nil _ _,aY.nil _ _,[],aY.nil _ _,trivial⟩)⟩,o_ []⟩
theorem rbare4 (x:It)(c:aVs)(h:Heap)(hk:x.kind=4)(hc:nP h c x):bG Tryz.prog 81 [.agg ⟨c⟩] h λr h'=>∃ c',r=.agg ⟨c'⟩/\nP h c' (aBw x)/\Own h [] h':=by
 obtain⟨z,vc,vn,vt,vf,vv,vd,e0,e1,e2,e3,e4,e5,e6,e7,e8,rfl,w1,w2,w3,w4,w5,w6,rx⟩:=hc
 obtain⟨i1,j1,rfl⟩:=w1.isS
 obtain⟨i2,j2,rfl⟩:=w2.isS
 obtain⟨i3,j3,rfl⟩:=w3.isS
 obtain⟨i4,j4,rfl⟩:=w4.isS
 obtain⟨i5,j5,rfl⟩:=w5.isS
 obtain⟨i6,j6,rfl⟩:=w6.isS
 obtain⟨kind,name,off,table,attr,cols,names,by_,n,m,terms,other,oattr,fixed,vars,conds,expr⟩:=x
 dsimp only at hk;subst hk;cases expr with
 | mk xk xt xks xcs xns xa xs_ xg xo =>
 have rx0:=rx
 rw[fT]at rx
 obtain⟨wk,wc,wn,wz,hcv,g1,g2,gx,g3,g4⟩:=rx
 obtain⟨h1',h2',rfl⟩:=g1.isS
 obtain⟨h3',h4',rfl⟩:=g2.isS
 obtain⟨h5',h6',rfl⟩:=g3.isS
 unfold kG at hcv
 simp only[List.cons.injEq,and_true]at hcv
 obtain⟨rfl,rfl,rfl,rfl,rfl,rfl,rfl,rfl,rfl⟩:=hcv
 unfold eD;dsimp only;refine eN Tryz.func81 Tryz.ntmps81 ?_;have o0:=Own.refl h;refine xB o0 λb10 m10 o10=>?_;refine aDH o10 bU λb11 m11 o11=>?_;refine fB aA ?_;refine oB o11 0 aK ?_;refine fB aA ?_;refine oB o11 0 aC ?_;refine rR (aDd aA ?_);refine aI rfl ?_;refine aI rfl ?_;refine aDH o11 bU λb17 m17 o17=>?_;(refine sA o17 2 bU ?_;intro m18 o18);refine fB aA ?_;refine oB o18 0 aK ?_;refine aDL (aDL ?_);refine aDL (aDK ?_);refine d2_ b10 [0,2,4,6,8,10] [1,3,5] [11] [0,1,2,3,4,5,6,7,8,9,10,11] ?_;refine fC aA ?_;refine StillVCA.load1 aC rfl rfl ((o18.cellB 0 rfl _).trans rfl) ?_;refine fC aA ?_;refine StillVCA.load1 aK rfl rfl ((o18.cellB 0 rfl _).trans rfl) ?_;refine fC aA ?_;refine StillVCA.load1 mC rfl rfl ((o18.cellB 0 rfl _).trans rfl) ?_;refine fC aA ?_;(refine sB o18 2 aC ?_;intro m107 o107);refine aI ((o107.boxBlk 0 rfl).trans (o18.boxBlk 0 rfl).symm) ?_;refine fC aA ?_;(refine sB o107 2 aK ?_;intro m109 o109);refine aI ((o109.boxBlk 0 rfl).trans (o107.boxBlk 0 rfl).symm) ?_;refine fC aA ?_;(refine sB o109 2 mC ?_;intro m111 o111);refine nB o111 2 bU ?_;(refine sA o111 1 bU ?_;intro m113 o113)
 first|refine r1_ o113 1 bU ?_|refine r2_ o113 1 bU ?_
 refine⟨_,rfl,⟨0,.slice none 0 0,.slice none 0 0,.slice i3 terms.length j3,.slice none 0 0,.slice none 0 0,.slice none 0 0,_,_,_,_,_,_,_,_,_,rfl,aY.nil _ _,aY.nil _ _,w3,aY.nil _ _,aY.nil _ _,aY.nil _ _,(by show fT h _ (.mk 0 [] [] [] [] [] [] 0 0);rw[fT];exact⟨.slice none 0 0,.slice none 0 0,.slice none 0 0,0,rfl,aY.nil _ _,aY.nil _ _,[],aY.nil _ _,trivial⟩)⟩,o_ []⟩
theorem rbare5 (x:It)(c:aVs)(h:Heap)(hk:x.kind=5)(hc:nP h c x):bG Tryz.prog 81 [.agg ⟨c⟩] h λr h'=>∃ c',r=.agg ⟨c'⟩/\nP h c' (aBv x)/\Own h [] h':=by
 obtain⟨z,vc,vn,vt,vf,vv,vd,e0,e1,e2,e3,e4,e5,e6,e7,e8,rfl,w1,w2,w3,w4,w5,w6,rx⟩:=hc
 obtain⟨i1,j1,rfl⟩:=w1.isS
 obtain⟨i2,j2,rfl⟩:=w2.isS
 obtain⟨i3,j3,rfl⟩:=w3.isS
 obtain⟨i4,j4,rfl⟩:=w4.isS
 obtain⟨i5,j5,rfl⟩:=w5.isS
 obtain⟨i6,j6,rfl⟩:=w6.isS
 obtain⟨kind,name,off,table,attr,cols,names,by_,n,m,terms,other,oattr,fixed,vars,conds,expr⟩:=x
 dsimp only at hk;subst hk;cases expr with
 | mk xk xt xks xcs xns xa xs_ xg xo =>
 have rx0:=rx
 rw[fT]at rx
 obtain⟨wk,wc,wn,wz,hcv,g1,g2,gx,g3,g4⟩:=rx
 obtain⟨h1',h2',rfl⟩:=g1.isS
 obtain⟨h3',h4',rfl⟩:=g2.isS
 obtain⟨h5',h6',rfl⟩:=g3.isS
 unfold kG at hcv
 simp only[List.cons.injEq,and_true]at hcv
 obtain⟨rfl,rfl,rfl,rfl,rfl,rfl,rfl,rfl,rfl⟩:=hcv
 unfold eD;dsimp only;refine eN Tryz.func81 Tryz.ntmps81 ?_;have o0:=Own.refl h;refine xB o0 λb10 m10 o10=>?_;refine aDH o10 bU λb11 m11 o11=>?_;refine fB aA ?_;refine oB o11 0 aK ?_;refine fB aA ?_;refine oB o11 0 aC ?_;refine rR (aDd aA ?_);refine aI rfl ?_;refine aI rfl ?_;refine aDH o11 bU λb17 m17 o17=>?_;(refine sA o17 2 bU ?_;intro m18 o18);refine fB aA ?_;refine oB o18 0 aK ?_;refine aDL (aDL ?_);refine aDL (aDL ?_);refine aDK (d2_ b10 [0,2,4,6,8,10,12] [1,3,5] [13] [0,1,2,3,4,5,6,7,8,9,10,11,12,13] ?_);refine fC aA ?_;refine StillVCA.load1 aC rfl rfl ((o18.cellB 0 rfl _).trans rfl) ?_;refine fC aA ?_;refine StillVCA.load1 aC rfl rfl ((o18.cellB 0 rfl _).trans rfl) ?_;refine fC aA ?_;refine StillVCA.load1 aK rfl rfl ((o18.cellB 0 rfl _).trans rfl) ?_;refine fC aA ?_;(refine sB o18 2 aC ?_;intro m107 o107);refine aI ((o107.boxBlk 0 rfl).trans (o18.boxBlk 0 rfl).symm) ?_;refine fC aA ?_;(refine sB o107 2 aC ?_;intro m109 o109);refine aI ((o109.boxBlk 0 rfl).trans (o107.boxBlk 0 rfl).symm) ?_;refine fC aA ?_;(refine sB o109 2 aC ?_;intro m111 o111);refine aI ((o111.boxBlk 0 rfl).trans (o109.boxBlk 0 rfl).symm) ?_;refine fC aA ?_;(refine sB o111 2 aK ?_;intro m113 o113);refine nB o113 2 bU ?_;(refine sA o113 1 bU ?_;intro m115 o115)
 first|refine r1_ o115 1 bU ?_|refine r2_ o115 1 bU ?_
 refine⟨_,rfl,⟨0,.slice none 0 0,.slice none 0 0,.slice none 0 0,.slice none 0 0,.slice none 0 0,.slice none 0 0,_,_,_,_,_,_,_,_,_,rfl,aY.nil _ _,aY.nil _ _,aY.nil _ _,aY.nil _ _,aY.nil _ _,aY.nil _ _,(by show fT h _ (.mk 0 [] [] [] [] [] [] 0 0);rw[fT];exact⟨.slice none 0 0,.slice none 0 0,.slice none 0 0,0,rfl,aY.nil _ _,aY.nil _ _,[],aY.nil _ _,trivial⟩)⟩,o_ []⟩
theorem rbare6 (x:It)(c:aVs)(h:Heap)(hk:x.kind=6)(hc:nP h c x):bG Tryz.prog 81 [.agg ⟨c⟩] h λr h'=>∃ c',r=.agg ⟨c'⟩/\nP h c' (aBu x)/\Own h [] h':=by
 obtain⟨z,vc,vn,vt,vf,vv,vd,e0,e1,e2,e3,e4,e5,e6,e7,e8,rfl,w1,w2,w3,w4,w5,w6,rx⟩:=hc
 obtain⟨i1,j1,rfl⟩:=w1.isS
 obtain⟨i2,j2,rfl⟩:=w2.isS
 obtain⟨i3,j3,rfl⟩:=w3.isS
 obtain⟨i4,j4,rfl⟩:=w4.isS
 obtain⟨i5,j5,rfl⟩:=w5.isS
 obtain⟨i6,j6,rfl⟩:=w6.isS
 obtain⟨kind,name,off,table,attr,cols,names,by_,n,m,terms,other,oattr,fixed,vars,conds,expr⟩:=x
 dsimp only at hk;subst hk;cases expr with
 | mk xk xt xks xcs xns xa xs_ xg xo =>
 have rx0:=rx
 rw[fT]at rx
 obtain⟨wk,wc,wn,wz,hcv,g1,g2,gx,g3,g4⟩:=rx
 obtain⟨h1',h2',rfl⟩:=g1.isS
 obtain⟨h3',h4',rfl⟩:=g2.isS
 obtain⟨h5',h6',rfl⟩:=g3.isS
 unfold kG at hcv
 simp only[List.cons.injEq,and_true]at hcv
 obtain⟨rfl,rfl,rfl,rfl,rfl,rfl,rfl,rfl,rfl⟩:=hcv
 unfold eD;dsimp only;refine eN Tryz.func81 Tryz.ntmps81 ?_;have o0:=Own.refl h;refine xB o0 λb10 m10 o10=>?_;refine aDH o10 bU λb11 m11 o11=>?_;refine fB aA ?_;refine oB o11 0 aK ?_;refine fB aA ?_;refine oB o11 0 aC ?_;refine rR (aDd aA ?_);refine aI rfl ?_;refine aI rfl ?_;refine aDH o11 bU λb17 m17 o17=>?_;(refine sA o17 2 bU ?_;intro m18 o18);refine fB aA ?_;refine oB o18 0 aK ?_;refine aDL (aDL ?_);refine aDL (aDL ?_);refine aDL (aDK ?_);refine d2_ b10 [0,2,4,6] [1,3] [7] [0,1,2,3,4,5,6,7] ?_;refine fC aA ?_;refine StillVCA.load1 aC rfl rfl ((o18.cellB 0 rfl _).trans rfl) ?_;refine fC aA ?_;refine StillVCA.load1 cS rfl rfl ((o18.cellB 0 rfl _).trans rfl) ?_;refine fC aA ?_;(refine sB o18 2 aC ?_;intro m105 o105);refine aI ((o105.boxBlk 0 rfl).trans (o18.boxBlk 0 rfl).symm) ?_;refine fC aA ?_;(refine sB o105 2 cS ?_;intro m107 o107);refine nB o107 2 bU ?_;(refine sA o107 1 bU ?_;intro m109 o109)
 first|refine r1_ o109 1 bU ?_|refine r2_ o109 1 bU ?_
 refine⟨_,rfl,⟨0,.slice none 0 0,.slice i2 names.length j2,.slice none 0 0,.slice none 0 0,.slice none 0 0,.slice none 0 0,_,_,_,_,_,_,_,_,_,rfl,aY.nil _ _,w2,aY.nil _ _,aY.nil _ _,aY.nil _ _,aY.nil _ _,(by show fT h _ (.mk 0 [] [] [] [] [] [] 0 0);rw[fT];exact⟨.slice none 0 0,.slice none 0 0,.slice none 0 0,0,rfl,aY.nil _ _,aY.nil _ _,[],aY.nil _ _,trivial⟩)⟩,o_ []⟩
theorem rbare7 (x:It)(c:aVs)(h:Heap)(hk:x.kind=7)(hc:nP h c x):bG Tryz.prog 81 [.agg ⟨c⟩] h λr h'=>∃ c',r=.agg ⟨c'⟩/\nP h c' (aBt x)/\Own h [] h':=by
 obtain⟨z,vc,vn,vt,vf,vv,vd,e0,e1,e2,e3,e4,e5,e6,e7,e8,rfl,w1,w2,w3,w4,w5,w6,rx⟩:=hc
 obtain⟨i1,j1,rfl⟩:=w1.isS
 obtain⟨i2,j2,rfl⟩:=w2.isS
 obtain⟨i3,j3,rfl⟩:=w3.isS
 obtain⟨i4,j4,rfl⟩:=w4.isS
 obtain⟨i5,j5,rfl⟩:=w5.isS
 obtain⟨i6,j6,rfl⟩:=w6.isS
 obtain⟨kind,name,off,table,attr,cols,names,by_,n,m,terms,other,oattr,fixed,vars,conds,expr⟩:=x
 dsimp only at hk;subst hk;cases expr with
 | mk xk xt xks xcs xns xa xs_ xg xo =>
 have rx0:=rx
 rw[fT]at rx
 obtain⟨wk,wc,wn,wz,hcv,g1,g2,gx,g3,g4⟩:=rx
 obtain⟨h1',h2',rfl⟩:=g1.isS
 obtain⟨h3',h4',rfl⟩:=g2.isS
 obtain⟨h5',h6',rfl⟩:=g3.isS
 unfold kG at hcv
 simp only[List.cons.injEq,and_true]at hcv
 obtain⟨rfl,rfl,rfl,rfl,rfl,rfl,rfl,rfl,rfl⟩:=hcv
 unfold eD;dsimp only;refine eN Tryz.func81 Tryz.ntmps81 ?_;have o0:=Own.refl h;refine xB o0 λb10 m10 o10=>?_;refine aDH o10 bU λb11 m11 o11=>?_;refine fB aA ?_;refine oB o11 0 aK ?_;refine fB aA ?_;refine oB o11 0 aC ?_;refine rR (aDd aA ?_);refine aI rfl ?_;refine aI rfl ?_;refine aDH o11 bU λb17 m17 o17=>?_;(refine sA o17 2 bU ?_;intro m18 o18);refine fB aA ?_;refine oB o18 0 aK ?_;refine aDL (aDL ?_);refine aDL (aDL ?_);refine aDL (aDL ?_);refine aDK (d2_ b10 [0,2,4,6,8,10,12,14] [1,3,5,7] [15] [0,1,2,3,4,5,6,7,8,9,10,11,12,13,14,15] ?_);refine fC aA ?_;refine StillVCA.load1 aC rfl rfl ((o18.cellB 0 rfl _).trans rfl) ?_;refine fC aA ?_;refine StillVCA.load1 cS rfl rfl ((o18.cellB 0 rfl _).trans rfl) ?_;refine fC aA ?_;refine StillVCA.load1 aC rfl rfl ((o18.cellB 0 rfl _).trans rfl) ?_;refine fC aA ?_;refine StillVCA.load1 lZ rfl rfl ((o18.cellB 0 rfl _).trans rfl) ?_;refine fC aA ?_;(refine sB o18 2 aC ?_;intro m109 o109);refine aI ((o109.boxBlk 0 rfl).trans (o18.boxBlk 0 rfl).symm) ?_;refine fC aA ?_;(refine sB o109 2 cS ?_;intro m111 o111);refine aI ((o111.boxBlk 0 rfl).trans (o109.boxBlk 0 rfl).symm) ?_;refine fC aA ?_;(refine sB o111 2 aC ?_;intro m113 o113);refine aI ((o113.boxBlk 0 rfl).trans (o111.boxBlk 0 rfl).symm) ?_;refine fC aA ?_;(refine sB o113 2 lZ ?_;intro m115 o115);refine nB o115 2 bU ?_;(refine sA o115 1 bU ?_;intro m117 o117)
 first|refine r1_ o117 1 bU ?_|refine r2_ o117 1 bU ?_
 refine⟨_,rfl,⟨0,.slice none 0 0,.slice i2 names.length j2,.slice none 0 0,.slice i4 fixed.length j4,.slice none 0 0,.slice none 0 0,_,_,_,_,_,_,_,_,_,rfl,aY.nil _ _,w2,aY.nil _ _,w4,aY.nil _ _,aY.nil _ _,(by show fT h _ (.mk 0 [] [] [] [] [] [] 0 0);rw[fT];exact⟨.slice none 0 0,.slice none 0 0,.slice none 0 0,0,rfl,aY.nil _ _,aY.nil _ _,[],aY.nil _ _,trivial⟩)⟩,o_ []⟩
theorem rbare8 (x:It)(c:aVs)(h:Heap)(hk:x.kind=8)(hc:nP h c x):bG Tryz.prog 81 [.agg ⟨c⟩] h λr h'=>∃ c',r=.agg ⟨c'⟩/\nP h c' (aBr x)/\Own h [] h':=by
 obtain⟨z,vc,vn,vt,vf,vv,vd,e0,e1,e2,e3,e4,e5,e6,e7,e8,rfl,w1,w2,w3,w4,w5,w6,rx⟩:=hc
 obtain⟨i1,j1,rfl⟩:=w1.isS
 obtain⟨i2,j2,rfl⟩:=w2.isS
 obtain⟨i3,j3,rfl⟩:=w3.isS
 obtain⟨i4,j4,rfl⟩:=w4.isS
 obtain⟨i5,j5,rfl⟩:=w5.isS
 obtain⟨i6,j6,rfl⟩:=w6.isS
 obtain⟨kind,name,off,table,attr,cols,names,by_,n,m,terms,other,oattr,fixed,vars,conds,expr⟩:=x
 dsimp only at hk;subst hk;cases expr with
 | mk xk xt xks xcs xns xa xs_ xg xo =>
 have rx0:=rx
 rw[fT]at rx
 obtain⟨wk,wc,wn,wz,hcv,g1,g2,gx,g3,g4⟩:=rx
 obtain⟨h1',h2',rfl⟩:=g1.isS
 obtain⟨h3',h4',rfl⟩:=g2.isS
 obtain⟨h5',h6',rfl⟩:=g3.isS
 unfold kG at hcv
 simp only[List.cons.injEq,and_true]at hcv
 obtain⟨rfl,rfl,rfl,rfl,rfl,rfl,rfl,rfl,rfl⟩:=hcv
 unfold eD;dsimp only;refine eN Tryz.func81 Tryz.ntmps81 ?_;have o0:=Own.refl h;refine xB o0 λb10 m10 o10=>?_;refine aDH o10 bU λb11 m11 o11=>?_;refine fB aA ?_;refine oB o11 0 aK ?_;refine fB aA ?_;refine oB o11 0 aC ?_;refine rR (aDd aA ?_);refine aI rfl ?_;refine aI rfl ?_;refine aDH o11 bU λb17 m17 o17=>?_;(refine sA o17 2 bU ?_;intro m18 o18);refine fB aA ?_;refine oB o18 0 aK ?_;refine aDL (aDL ?_);refine aDL (aDL ?_);refine aDL (aDL ?_);refine aDL (aDK ?_);refine d2_ b10 [0,2,4,6,8,10,12,14] [1,3,5,7] [15] [0,1,2,3,4,5,6,7,8,9,10,11,12,13,14,15] ?_;refine fC aA ?_;refine StillVCA.load1 aC rfl rfl ((o18.cellB 0 rfl _).trans rfl) ?_;refine fC aA ?_;refine StillVCA.load1 aC rfl rfl ((o18.cellB 0 rfl _).trans rfl) ?_;refine fC aA ?_;refine StillVCA.load1 aC rfl rfl ((o18.cellB 0 rfl _).trans rfl) ?_;refine fC aA ?_;refine StillVCA.load1 aC rfl rfl ((o18.cellB 0 rfl _).trans rfl) ?_;refine fC aA ?_;(refine sB o18 2 aC ?_;intro m109 o109);refine aI ((o109.boxBlk 0 rfl).trans (o18.boxBlk 0 rfl).symm) ?_;refine fC aA ?_;(refine sB o109 2 aC ?_;intro m111 o111);refine aI ((o111.boxBlk 0 rfl).trans (o109.boxBlk 0 rfl).symm) ?_;refine fC aA ?_;(refine sB o111 2 aC ?_;intro m113 o113);refine aI ((o113.boxBlk 0 rfl).trans (o111.boxBlk 0 rfl).symm) ?_;refine fC aA ?_;(refine sB o113 2 aC ?_;intro m115 o115);refine nB o115 2 bU ?_;(refine sA o115 1 bU ?_;intro m117 o117)
 first|refine r1_ o117 1 bU ?_|refine r2_ o117 1 bU ?_
 refine⟨_,rfl,⟨0,.slice none 0 0,.slice none 0 0,.slice none 0 0,.slice none 0 0,.slice none 0 0,.slice none 0 0,_,_,_,_,_,_,_,_,_,rfl,aY.nil _ _,aY.nil _ _,aY.nil _ _,aY.nil _ _,aY.nil _ _,aY.nil _ _,(by show fT h _ (.mk 0 [] [] [] [] [] [] 0 0);rw[fT];exact⟨.slice none 0 0,.slice none 0 0,.slice none 0 0,0,rfl,aY.nil _ _,aY.nil _ _,[],aY.nil _ _,trivial⟩)⟩,o_ []⟩
theorem rbare9 (x:It)(c:aVs)(h:Heap)(hk:x.kind=9)(hc:nP h c x):bG Tryz.prog 81 [.agg ⟨c⟩] h λr h'=>∃ c',r=.agg ⟨c'⟩/\nP h c' (aBq x)/\Own h [] h':=by
 obtain⟨z,vc,vn,vt,vf,vv,vd,e0,e1,e2,e3,e4,e5,e6,e7,e8,rfl,w1,w2,w3,w4,w5,w6,rx⟩:=hc
 obtain⟨i1,j1,rfl⟩:=w1.isS
 obtain⟨i2,j2,rfl⟩:=w2.isS
 obtain⟨i3,j3,rfl⟩:=w3.isS
 obtain⟨i4,j4,rfl⟩:=w4.isS
 obtain⟨i5,j5,rfl⟩:=w5.isS
 obtain⟨i6,j6,rfl⟩:=w6.isS
 obtain⟨kind,name,off,table,attr,cols,names,by_,n,m,terms,other,oattr,fixed,vars,conds,expr⟩:=x
 dsimp only at hk;subst hk;cases expr with
 | mk xk xt xks xcs xns xa xs_ xg xo =>
 have rx0:=rx
 rw[fT]at rx
 obtain⟨wk,wc,wn,wz,hcv,g1,g2,gx,g3,g4⟩:=rx
 obtain⟨h1',h2',rfl⟩:=g1.isS
 obtain⟨h3',h4',rfl⟩:=g2.isS
 obtain⟨h5',h6',rfl⟩:=g3.isS
 unfold kG at hcv
 simp only[List.cons.injEq,and_true]at hcv
 obtain⟨rfl,rfl,rfl,rfl,rfl,rfl,rfl,rfl,rfl⟩:=hcv
 unfold eD;dsimp only;refine eN Tryz.func81 Tryz.ntmps81 ?_;have o0:=Own.refl h;refine xB o0 λb10 m10 o10=>?_;refine aDH o10 bU λb11 m11 o11=>?_;refine fB aA ?_;refine oB o11 0 aK ?_;refine fB aA ?_;refine oB o11 0 aC ?_;refine rR (aDd aA ?_);refine aI rfl ?_;refine aI rfl ?_;refine aDH o11 bU λb17 m17 o17=>?_;(refine sA o17 2 bU ?_;intro m18 o18);refine fB aA ?_;refine oB o18 0 aK ?_;refine aDL (aDL ?_);refine aDL (aDL ?_);refine aDL (aDL ?_);refine aDL (aDL ?_);refine aDK (d2_ b10 [0,2,4,6] [1,3] [7] [0,1,2,3,4,5,6,7] ?_);refine fC aA ?_;refine StillVCA.load1 lK rfl rfl ((o18.cellB 0 rfl _).trans rfl) ?_;refine fC aA ?_;refine StillVCA.load1 kI rfl rfl ((o18.cellB 0 rfl _).trans rfl) ?_;refine fC aA ?_;(refine sB o18 2 lK ?_;intro m105 o105);refine aI ((o105.boxBlk 0 rfl).trans (o18.boxBlk 0 rfl).symm) ?_;refine fC aA ?_;(refine sB o105 2 kI ?_;intro m107 o107);refine nB o107 2 bU ?_;(refine sA o107 1 bU ?_;intro m109 o109)
 first|refine r1_ o109 1 bU ?_|refine r2_ o109 1 bU ?_
 refine⟨_,rfl,⟨0,.slice none 0 0,.slice none 0 0,.slice none 0 0,.slice none 0 0,.slice i5 vars.length j5,.slice i6 conds.length j6,_,_,_,_,_,_,_,_,_,rfl,aY.nil _ _,aY.nil _ _,aY.nil _ _,aY.nil _ _,w5,w6,(by show fT h _ (.mk 0 [] [] [] [] [] [] 0 0);rw[fT];exact⟨.slice none 0 0,.slice none 0 0,.slice none 0 0,0,rfl,aY.nil _ _,aY.nil _ _,[],aY.nil _ _,trivial⟩)⟩,o_ []⟩
theorem rbare10 (x:It)(c:aVs)(h:Heap)(hk:x.kind=10)(hc:nP h c x):bG Tryz.prog 81 [.agg ⟨c⟩] h λr h'=>∃ c',r=.agg ⟨c'⟩/\nP h c' (wJ x)/\Own h [] h':=by
 obtain⟨z,vc,vn,vt,vf,vv,vd,e0,e1,e2,e3,e4,e5,e6,e7,e8,rfl,w1,w2,w3,w4,w5,w6,rx⟩:=hc
 obtain⟨i1,j1,rfl⟩:=w1.isS
 obtain⟨i2,j2,rfl⟩:=w2.isS
 obtain⟨i3,j3,rfl⟩:=w3.isS
 obtain⟨i4,j4,rfl⟩:=w4.isS
 obtain⟨i5,j5,rfl⟩:=w5.isS
 obtain⟨i6,j6,rfl⟩:=w6.isS
 obtain⟨kind,name,off,table,attr,cols,names,by_,n,m,terms,other,oattr,fixed,vars,conds,expr⟩:=x
 dsimp only at hk;subst hk;cases expr with
 | mk xk xt xks xcs xns xa xs_ xg xo =>
 have rx0:=rx
 rw[fT]at rx
 obtain⟨wk,wc,wn,wz,hcv,g1,g2,gx,g3,g4⟩:=rx
 obtain⟨h1',h2',rfl⟩:=g1.isS
 obtain⟨h3',h4',rfl⟩:=g2.isS
 obtain⟨h5',h6',rfl⟩:=g3.isS
 unfold kG at hcv
 simp only[List.cons.injEq,and_true]at hcv
 obtain⟨rfl,rfl,rfl,rfl,rfl,rfl,rfl,rfl,rfl⟩:=hcv
 unfold eD;dsimp only;refine eN Tryz.func81 Tryz.ntmps81 ?_;have o0:=Own.refl h;refine xB o0 λb10 m10 o10=>?_;refine aDH o10 bU λb11 m11 o11=>?_;refine fB aA ?_;refine oB o11 0 aK ?_;refine fB aA ?_;refine oB o11 0 aC ?_;refine rR (aDd aA ?_);refine aI rfl ?_;refine aI rfl ?_;refine aDH o11 bU λb17 m17 o17=>?_;(refine sA o17 2 bU ?_;intro m18 o18);refine fB aA ?_;refine oB o18 0 aK ?_;refine aDL (aDL ?_);refine aDL (aDL ?_);refine aDL (aDL ?_);refine aDL (aDL ?_);refine aDL (aDK ?_);refine fB aA ?_;refine nB o18 0 aQ ?_;refine fB aA ?_;(refine sB o18 2 aQ ?_;intro m24 o24);refine nB o24 2 bU ?_;(refine sA o24 1 bU ?_;intro m26 o26)
 first|refine r1_ o26 1 bU ?_|refine r2_ o26 1 bU ?_
 refine⟨_,rfl,⟨0,.slice none 0 0,.slice none 0 0,.slice none 0 0,.slice none 0 0,.slice none 0 0,.slice none 0 0,_,_,_,_,_,_,_,_,_,rfl,aY.nil _ _,aY.nil _ _,aY.nil _ _,aY.nil _ _,aY.nil _ _,aY.nil _ _,rx0⟩,o_ []⟩
theorem eE (e:Ex):ExQ pB ex0 e↔lC e=true:=by
 cases e with
 | mk k t ks cs ns a s g o =>
  have h0:wM pB [] ks↔ks.length=0:=by
   cases ks with
   | nil=>simp[wM]
   | cons x r=>simp[wM]
  unfold ex0
  rw[ExQ,lC,decide_eq_true_eq,h0]
  constructor
  ·rintro⟨rfl,rfl,rfl,rfl,rfl,rfl,rfl,_,h⟩
   exact⟨rfl,rfl,h,rfl,rfl,rfl,rfl,rfl⟩
  ·rintro⟨rfl,rfl,h,h2,rfl,rfl,rfl,rfl⟩
   exact⟨rfl,rfl,(aD3.1 h2).symm,rfl,rfl,rfl,rfl,trivial,h⟩
theorem kN (e:Ex):ExQ pB e e:=(exQ_iff e e).2 rfl
theorem bareI1_iff (x:It)(hk:x.kind=1):ItQ pB (aBy x) x↔gY x=true/\(x.kind=10∨lC x.expr=true):=by
 obtain⟨kind,name,off,table,attr,cols,names,by_,n,m,terms,other,oattr,fixed,vars,conds,expr⟩:=x
 dsimp only at hk;subst hk;unfold ItQ aBy gY uJ;dsimp only
 constructor
 ·rintro⟨o',e',he,_,hx⟩
  simp only[It.mk.injEq,true_and,and_true]at he
  try rw[eE]at hx
  simp only[decide_eq_true_eq,aD3]
  grind
 ·rintro⟨hb,hz⟩
  simp only[decide_eq_true_eq,aD3]at hb
  refine⟨off,expr,?_,trivial,?_⟩
  ·simp only[It.mk.injEq,true_and,and_true]
   grind
  ·first
    | exact kN _
    | exact(eE _).2 (hz.resolve_left zD)
theorem bareI2_iff (x:It)(hk:x.kind=2):ItQ pB (aBx x) x↔gY x=true/\(x.kind=10∨lC x.expr=true):=by
 obtain⟨kind,name,off,table,attr,cols,names,by_,n,m,terms,other,oattr,fixed,vars,conds,expr⟩:=x
 dsimp only at hk;subst hk;unfold ItQ aBx gY uJ;dsimp only
 constructor
 ·rintro⟨o',e',he,_,hx⟩
  simp only[It.mk.injEq,true_and,and_true]at he
  try rw[eE]at hx
  simp only[decide_eq_true_eq,aD3]
  grind
 ·rintro⟨hb,hz⟩
  simp only[decide_eq_true_eq,aD3]at hb
  refine⟨off,expr,?_,trivial,?_⟩
  ·simp only[It.mk.injEq,true_and,and_true]
   grind
  ·first
    | exact kN _
    | exact(eE _).2 (hz.resolve_left zD)
theorem bareI3_iff (x:It)(hk:x.kind=3):ItQ pB (rL x) x↔gY x=true/\(x.kind=10∨lC x.expr=true):=by
 obtain⟨kind,name,off,table,attr,cols,names,by_,n,m,terms,other,oattr,fixed,vars,conds,expr⟩:=x
 dsimp only at hk;subst hk;unfold ItQ rL gY uJ;dsimp only
 constructor
 ·rintro⟨o',e',he,_,hx⟩
  simp only[It.mk.injEq,true_and,and_true]at he
  try rw[eE]at hx
  simp only[decide_eq_true_eq,aD3]
  grind
 ·rintro⟨hb,hz⟩
  simp only[decide_eq_true_eq,aD3]at hb
  refine⟨off,expr,?_,trivial,?_⟩
  ·simp only[It.mk.injEq,true_and,and_true]
   grind
  ·first
    | exact kN _
    | exact(eE _).2 (hz.resolve_left zD)
theorem bareI4_iff (x:It)(hk:x.kind=4):ItQ pB (aBw x) x↔gY x=true/\(x.kind=10∨lC x.expr=true):=by
 obtain⟨kind,name,off,table,attr,cols,names,by_,n,m,terms,other,oattr,fixed,vars,conds,expr⟩:=x
 dsimp only at hk;subst hk;unfold ItQ aBw gY uJ;dsimp only
 constructor
 ·rintro⟨o',e',he,_,hx⟩
  simp only[It.mk.injEq,true_and,and_true]at he
  try rw[eE]at hx
  simp only[decide_eq_true_eq,aD3]
  grind
 ·rintro⟨hb,hz⟩
  simp only[decide_eq_true_eq,aD3]at hb
  refine⟨off,expr,?_,trivial,?_⟩
  ·simp only[It.mk.injEq,true_and,and_true]
   grind
  ·first
    | exact kN _
    | exact(eE _).2 (hz.resolve_left zD)
theorem bareI5_iff (x:It)(hk:x.kind=5):ItQ pB (aBv x) x↔gY x=true/\(x.kind=10∨lC x.expr=true):=by
 obtain⟨kind,name,off,table,attr,cols,names,by_,n,m,terms,other,oattr,fixed,vars,conds,expr⟩:=x
 dsimp only at hk;subst hk;unfold ItQ aBv gY uJ;dsimp only
 constructor
 ·rintro⟨o',e',he,_,hx⟩
  simp only[It.mk.injEq,true_and,and_true]at he
  try rw[eE]at hx
  simp only[decide_eq_true_eq,aD3]
  grind
 ·rintro⟨hb,hz⟩
  simp only[decide_eq_true_eq,aD3]at hb
  refine⟨off,expr,?_,trivial,?_⟩
  ·simp only[It.mk.injEq,true_and,and_true]
   grind
  ·first
    | exact kN _
    | exact(eE _).2 (hz.resolve_left zD)
theorem bareI6_iff (x:It)(hk:x.kind=6):ItQ pB (aBu x) x↔gY x=true/\(x.kind=10∨lC x.expr=true):=by
 obtain⟨kind,name,off,table,attr,cols,names,by_,n,m,terms,other,oattr,fixed,vars,conds,expr⟩:=x
 dsimp only at hk;subst hk;unfold ItQ aBu gY uJ;dsimp only
 constructor
 ·rintro⟨o',e',he,_,hx⟩
  simp only[It.mk.injEq,true_and,and_true]at he
  try rw[eE]at hx
  simp only[decide_eq_true_eq,aD3]
  grind
 ·rintro⟨hb,hz⟩
  simp only[decide_eq_true_eq,aD3]at hb
  refine⟨off,expr,?_,trivial,?_⟩
  ·simp only[It.mk.injEq,true_and,and_true]
   grind
  ·first
    | exact kN _
    | exact(eE _).2 (hz.resolve_left zD)
theorem bareI7_iff (x:It)(hk:x.kind=7):ItQ pB (aBt x) x↔gY x=true/\(x.kind=10∨lC x.expr=true):=by
 obtain⟨kind,name,off,table,attr,cols,names,by_,n,m,terms,other,oattr,fixed,vars,conds,expr⟩:=x
 dsimp only at hk;subst hk;unfold ItQ aBt gY uJ;dsimp only
 constructor
 ·rintro⟨o',e',he,_,hx⟩
  simp only[It.mk.injEq,true_and,and_true]at he
  try rw[eE]at hx
  simp only[decide_eq_true_eq,aD3]
  grind
 ·rintro⟨hb,hz⟩
  simp only[decide_eq_true_eq,aD3]at hb
  refine⟨off,expr,?_,trivial,?_⟩
  ·simp only[It.mk.injEq,true_and,and_true]
   grind
  ·first
    | exact kN _
    | exact(eE _).2 (hz.resolve_left zD)
theorem bareI8_iff (x:It)(hk:x.kind=8):ItQ pB (aBr x) x↔gY x=true/\(x.kind=10∨lC x.expr=true):=by
 obtain⟨kind,name,off,table,attr,cols,names,by_,n,m,terms,other,oattr,fixed,vars,conds,expr⟩:=x
 dsimp only at hk;subst hk;unfold ItQ aBr gY uJ;dsimp only
 constructor
 ·rintro⟨o',e',he,_,hx⟩
  simp only[It.mk.injEq,true_and,and_true]at he
  try rw[eE]at hx
  simp only[decide_eq_true_eq,aD3]
  grind
 ·rintro⟨hb,hz⟩
  simp only[decide_eq_true_eq,aD3]at hb
  refine⟨off,expr,?_,trivial,?_⟩
  ·simp only[It.mk.injEq,true_and,and_true]
   grind
  ·first
    | exact kN _
    | exact(eE _).2 (hz.resolve_left zD)
theorem bareI9_iff (x:It)(hk:x.kind=9):ItQ pB (aBq x) x↔gY x=true/\(x.kind=10∨lC x.expr=true):=by
 obtain⟨kind,name,off,table,attr,cols,names,by_,n,m,terms,other,oattr,fixed,vars,conds,expr⟩:=x
 dsimp only at hk;subst hk;unfold ItQ aBq gY uJ;dsimp only
 constructor
 ·rintro⟨o',e',he,_,hx⟩
  simp only[It.mk.injEq,true_and,and_true]at he
  try rw[eE]at hx
  simp only[decide_eq_true_eq,aD3]
  grind
 ·rintro⟨hb,hz⟩
  simp only[decide_eq_true_eq,aD3]at hb
  refine⟨off,expr,?_,trivial,?_⟩
  ·simp only[It.mk.injEq,true_and,and_true]
   grind
  ·first
    | exact kN _
    | exact(eE _).2 (hz.resolve_left zD)
theorem bareI10_iff (x:It)(hk:x.kind=10):ItQ pB (wJ x) x↔gY x=true/\(x.kind=10∨lC x.expr=true):=by
 obtain⟨kind,name,off,table,attr,cols,names,by_,n,m,terms,other,oattr,fixed,vars,conds,expr⟩:=x
 dsimp only at hk;subst hk;unfold ItQ wJ gY uJ;dsimp only
 constructor
 ·rintro⟨o',e',he,_,hx⟩
  simp only[It.mk.injEq,true_and,and_true]at he
  try rw[eE]at hx
  simp only[decide_eq_true_eq,aD3]
  grind
 ·rintro⟨hb,hz⟩
  simp only[decide_eq_true_eq,aD3]at hb
  refine⟨off,expr,?_,trivial,?_⟩
  ·simp only[It.mk.injEq,true_and,and_true]
   grind
  ·first
    | exact kN _
    | exact(eE _).2 (hz.resolve_left zD)
theorem bareI_ok {x:It}(h:fO x):fO (aBy x)/\fO (aBx x)/\fO (rL x)/\fO (aBw x)/\fO (aBv x)/\fO (aBu x)/\fO (aBt x)/\fO (aBr x)/\fO (aBq x)/\fO (wJ x):=by
 obtain⟨bkind,bname,btable,battr,bcols,bnames,bby,bn,bm,bterms,both,boat,bfixed,bvars,bconds,bexpr,lcols,lnames,lterms,lfixed,lvars,lconds⟩:=h
 have z0:gK ex0:=by unfold ex0;rw[gK];simp[tS]
 refine⟨?_,?_,?_,?_,?_,?_,?_,?_,?_,?_⟩
 all_goals (unfold fO;first|unfold aBy|unfold aBx|unfold rL|unfold aBw|unfold aBv|unfold aBu|unfold aBt|unfold aBr|unfold aBq|unfold wJ)
 all_goals (unfold uJ;dsimp only)
 all_goals (refine⟨?_,?_,?_,?_,?_,?_,?_,?_,?_,?_,?_,?_,?_,?_,?_,?_,?_,?_,?_,?_,?_,?_⟩)
 all_goals first
  | assumption
  | (split<;>first|assumption|decide)
  | simp
theorem rbare_spec (x:It)(c:aVs)(h:Heap)(h1:1<=x.kind)(h10:x.kind<=10)(hOK:fO x)(hc:nP h c x) :
  bG Tryz.prog 81 [.agg ⟨c⟩] h λr h'=>∃ c' y,r=.agg ⟨c'⟩/\nP h c' y/\fO y/\(ItQ pB y x↔gY x=true/\(x.kind=10∨lC x.expr=true))/\Own h [] h':=by
 obtain⟨k1,k2,k3,k4,k5,k6,k7,k8,k9,k10⟩:=bareI_ok hOK
 have hk:x.kind=1∨x.kind=2∨x.kind=3∨x.kind=4∨x.kind=5∨x.kind=6∨x.kind=7∨x.kind=8∨x.kind=9∨x.kind=10:=by omega
 rcases hk with hk|hk|hk|hk|hk|hk|hk|hk|hk|hk
 ·exact(rbare1 x c h hk hc).mono λ_ _ ⟨c',hr,hi,ho⟩=>⟨c',_,hr,hi,k1,bareI1_iff x hk,ho⟩
 ·exact(rbare2 x c h hk hc).mono λ_ _ ⟨c',hr,hi,ho⟩=>⟨c',_,hr,hi,k2,bareI2_iff x hk,ho⟩
 ·exact(rbare3 x c h hk hc).mono λ_ _ ⟨c',hr,hi,ho⟩=>⟨c',_,hr,hi,k3,bareI3_iff x hk,ho⟩
 ·exact(rbare4 x c h hk hc).mono λ_ _ ⟨c',hr,hi,ho⟩=>⟨c',_,hr,hi,k4,bareI4_iff x hk,ho⟩
 ·exact(rbare5 x c h hk hc).mono λ_ _ ⟨c',hr,hi,ho⟩=>⟨c',_,hr,hi,k5,bareI5_iff x hk,ho⟩
 ·exact(rbare6 x c h hk hc).mono λ_ _ ⟨c',hr,hi,ho⟩=>⟨c',_,hr,hi,k6,bareI6_iff x hk,ho⟩
 ·exact(rbare7 x c h hk hc).mono λ_ _ ⟨c',hr,hi,ho⟩=>⟨c',_,hr,hi,k7,bareI7_iff x hk,ho⟩
 ·exact(rbare8 x c h hk hc).mono λ_ _ ⟨c',hr,hi,ho⟩=>⟨c',_,hr,hi,k8,bareI8_iff x hk,ho⟩
 ·exact(rbare9 x c h hk hc).mono λ_ _ ⟨c',hr,hi,ho⟩=>⟨c',_,hr,hi,k9,bareI9_iff x hk,ho⟩
 ·exact(rbare10 x c h hk hc).mono λ_ _ ⟨c',hr,hi,ho⟩=>⟨c',_,hr,hi,k10,bareI10_iff x hk,ho⟩
end Go.Proofs.YtohlogbnpfofpaaGreatDoor
