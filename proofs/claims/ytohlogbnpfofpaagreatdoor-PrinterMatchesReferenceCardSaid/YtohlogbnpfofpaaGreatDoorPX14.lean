/- Part 14 of the proof of matches_lifted: FnYc, FnM3, FnM4, FnM5, FnM6, FnM7, FnXi. -/
import Derived.Test.YtohlogbnpfofpaaGreatDoorPX13
set_option linter.all false
set_option maxHeartbeats 100000000
set_option maxRecDepth 100000
namespace Go.Proofs.YtohlogbnpfofpaaGreatDoor
open Go StillVC
theorem bl_irr:∀ l:aBs,Op.bytesLess l l=false:=by
 intro l
 induction l with
 | nil=>rfl
 | cons c l ih=>simp[Op.bytesLess,ih]
theorem aAy (a b:Int)(h:Heap):bG Tryz.prog 146 [iv a,iv b] h λr h'=>(∃ k:Int,r=iv k/\(k=0↔a=b))/\Own h [] h':=by
 have o0:=Own.refl h;refine eN Tryz.func146 Tryz.ntmps146 ?_;refine aDJ (λc10=>?_) (λc10=>?_);refine rO ?_
 rotate_left
 refine aDJ (λc11=>?_) (λc11=>?_);refine rO ?_
 rotate_left
 refine rO ?_
 all_goals exact⟨⟨_,rfl,by omega⟩,o0⟩
theorem bl_two {a b:aBs}(h:Op.bytesLess a b=false)(h2:a≠b):(!(Op.bytesLess a b||a == b))=true:=by
 rw[h]
 simp[h2]
theorem rcompare2 (x y:Vl)(h:Heap):bG Tryz.prog 121 [.agg ⟨[iv x.k,iv x.n,sv x.t]⟩,.agg ⟨[iv y.k,iv y.n,sv y.t]⟩] h λr h'=>∃ k:Int,r=iv k/\(k=0↔x=y)/\Own h [] h':=by
 obtain⟨k,n,t⟩:=x
 obtain⟨k',n',t'⟩:=y
 have o0:=Own.refl h;refine eN Tryz.func121 Tryz.ntmps121 ?_;by_cases hk:k=k'
 case neg =>
  refine xB o0 λb10 m10 o10=>?_;refine xB o10 λb11 m11 o11=>?_;refine fB bP ?_;refine oB o11 0 aK ?_;refine fB bP ?_;refine oB o11 1 aK ?_;refine bD λc16=>fB bP ?_;refine oB o11 0 aK ?_;refine fB bP ?_;refine oB o11 1 aK ?_;refine aDN (aAy _ _ _) ?_;rintro _ h1 ⟨⟨q,rfl,hq⟩,oc⟩;have o1:=oc.thenE zA;refine rO ?_
  exact⟨q,rfl,⟨λe=>absurd (hq.1 e) hk,λe=>absurd (congrArg Vl.k e) hk⟩,o1.sel [] rfl⟩
 subst k';by_cases hn:n=n'
 case neg =>
  refine xB o0 λb50 m50 o50=>?_;refine xB o50 λb51 m51 o51=>?_;refine fB bP ?_;refine oB o51 0 aK ?_;refine fB bP ?_;refine oB o51 1 aK ?_;refine bC λc56=>fB bP ?_;refine oB o51 0 aK ?_;refine fB bP ?_;refine oB o51 1 aK ?_;refine bD λc61=>fB bP ?_;refine oB o51 0 aK ?_;refine fB bP ?_;refine oB o51 1 aK ?_;refine aDN (aAy _ _ _) ?_;rintro _ h1 ⟨⟨q,rfl,hq⟩,oc⟩;have o1:=oc.thenE zA;refine rO ?_
  exact⟨q,rfl,⟨λe=>absurd (hq.1 e) hn,λe=>absurd (congrArg Vl.n e) hn⟩,o1.sel [] rfl⟩
 subst n';by_cases ht:t=t'
 ·subst t'
  have hl:=bl_irr t;have hg:(!(Op.bytesLess t t||t == t))=false:=by rw[hl];simp
  refine xB o0 λb100 m100 o100=>?_;refine xB o100 λb101 m101 o101=>?_;refine fB bP ?_;refine oB o101 0 aK ?_;refine fB bP ?_;refine oB o101 1 aK ?_;refine bC λc106=>fB bP ?_;refine oB o101 0 aK ?_;refine fB bP ?_;refine oB o101 1 aK ?_;refine bC λc111=>fB bP ?_;refine oB o101 0 aC ?_;refine fB bP ?_;refine oB o101 1 aC ?_;refine rR (strLss rfl rfl ?_);refine Br.ffE zA ?_;refine fB bP ?_;refine oB o101 0 aC ?_;refine fB bP ?_;refine oB o101 1 aC ?_;refine rR (strGtr rfl rfl ?_);refine Br.ffE zA ?_;refine rO ?_
  exact⟨0,rfl,by simp,o_ []⟩
 ·cases hl:Op.bytesLess t t' with
  | true =>
   refine xB o0 λb150 m150 o150=>?_;refine xB o150 λb151 m151 o151=>?_;refine fB bP ?_;refine oB o151 0 aK ?_;refine fB bP ?_;refine oB o151 1 aK ?_;refine bC λc156=>fB bP ?_;refine oB o151 0 aK ?_;refine fB bP ?_;refine oB o151 1 aK ?_;refine bC λc161=>fB bP ?_;refine oB o151 0 aC ?_;refine fB bP ?_;refine oB o151 1 aC ?_;refine rR (strLss rfl rfl ?_);refine Br.ttE zA ?_;refine rO ?_
   exact⟨-1,rfl,⟨λe=>absurd e zD,λe=>absurd (congrArg Vl.t e) ht⟩,o_ []⟩
  | false =>
   have hg:=bl_two hl ht;refine xB o0 λb200 m200 o200=>?_;refine xB o200 λb201 m201 o201=>?_;refine fB bP ?_;refine oB o201 0 aK ?_;refine fB bP ?_;refine oB o201 1 aK ?_;refine bC λc206=>fB bP ?_;refine oB o201 0 aK ?_;refine fB bP ?_;refine oB o201 1 aK ?_;refine bC λc211=>fB bP ?_;refine oB o201 0 aC ?_;refine fB bP ?_;refine oB o201 1 aC ?_;refine rR (strLss rfl rfl ?_);refine Br.ffE zA ?_;refine fB bP ?_;refine oB o201 0 aC ?_;refine fB bP ?_;refine oB o201 1 aC ?_;refine rR (strGtr rfl rfl ?_);refine Br.ttE zA ?_;refine rO ?_
   exact⟨1,rfl,⟨λe=>absurd e zD,λe=>absurd (congrArg Vl.t e) ht⟩,o_ []⟩
theorem aAx (x y:It)(c d:aVs)(h:Heap)(hB:fO x)(hB':fO y)(hc:nP h c x)(hD:nP h d y) :
  bG Tryz.prog 68 [.agg ⟨c⟩,.agg ⟨d⟩,.bool false] h λr h'=>∃ bb:Bool,r=.bool bb/\(bb=true↔ItQ pB x y)/\Own h [] h':=by
 obtain⟨z,vc,vn,vt,vf,vv,vd,e0,e1,e2,e3,e4,e5,e6,e7,e8,rfl,q1,q2,q3,q4,q5,q6,rx⟩:=hc
 obtain⟨z',uc,un,ut,uf,uv,ud,f0,f1,f2,f3,f4,f5,f6,f7,f8,rfl,w1,w2,w3,w4,w5,w6,px⟩:=hD
 obtain⟨_,_,_,_,_,_,_,_,_,_,_,_,_,_,_,bx,b1,b2,b3,b4,b5,b6⟩:=hB
 obtain⟨_,_,_,_,_,_,_,_,_,_,_,_,_,_,_,dx,d1,d2,d3,d4,d5,d6⟩:=hB'
 obtain⟨y1,z1,rfl⟩:=q1.isS
 obtain⟨y2,z2,rfl⟩:=q2.isS
 obtain⟨y3,z3,rfl⟩:=q3.isS
 obtain⟨y4,z4,rfl⟩:=q4.isS
 obtain⟨y5,z5,rfl⟩:=q5.isS
 obtain⟨y6,z6,rfl⟩:=q6.isS
 obtain⟨yy1,zz1,rfl⟩:=w1.isS
 obtain⟨yy2,zz2,rfl⟩:=w2.isS
 obtain⟨yy3,zz3,rfl⟩:=w3.isS
 obtain⟨yy4,zz4,rfl⟩:=w4.isS
 obtain⟨yy5,zz5,rfl⟩:=w5.isS
 obtain⟨yy6,zz6,rfl⟩:=w6.isS
 rw[jC]at q2 w2
 obtain⟨kind,name,off,table,attr,cols,names,by_,n,m,terms,other,oattr,fixed,vars,conds,expr⟩:=x
 obtain⟨kind',name',off',table',attr',cols',names',by_',n',m',terms',other',oattr',fixed',vars',conds',expr'⟩:=y
 dsimp only at *;unfold eD;dsimp only;have hQ:ItQ pB ⟨kind,name,off,table,attr,cols,names,by_,n,m,terms,other,oattr,fixed,vars,conds,expr⟩ ⟨kind',name',off',table',attr',cols',names',by_',n',m',terms',other',oattr',fixed',vars',conds',expr'⟩ ↔
   (kind=kind'/\name=name'/\table=table'/\attr=attr'/\by_=by_'/\n=n'/\m=m'/\other=other'/\oattr=oattr')/\cols=cols'/\terms=terms'/\fixed=fixed'/\vars=vars'/\names=names'/\conds=conds'/\ExQ pB expr expr':=by
  constructor
  ·rintro⟨o',ey,he,_,hx⟩
   cases he
   exact⟨⟨rfl,rfl,rfl,rfl,rfl,rfl,rfl,rfl,rfl⟩,rfl,rfl,rfl,rfl,rfl,rfl,hx⟩
  ·rintro⟨⟨rfl,rfl,rfl,rfl,rfl,rfl,rfl,rfl,rfl⟩,rfl,rfl,rfl,rfl,rfl,rfl,hx⟩
   exact⟨off',expr',rfl,trivial,hx⟩
 rw[hQ]
 clear hQ;refine eN Tryz.func68 Tryz.ntmps68 ?_;have o0:=Own.refl h;by_cases c0:kind=kind'
 case neg =>
  refine xB o0 λb10 m10 o10=>?_;refine xB o10 λb11 m11 o11=>?_;refine aDL (fB aA ?_);refine oB o11 0 aK ?_;refine fB aA ?_;refine oB o11 1 aK ?_;refine bD λc16=>aDK ?_;refine rO ?_
  exact⟨false,rfl,⟨λh=>(by cases h),λhq=>absurd hq.1.1 c0⟩,o_ []⟩
 subst kind';by_cases c1:name=name'
 case neg =>
  refine xB o0 λb70 m70 o70=>?_;refine xB o70 λb71 m71 o71=>?_;refine aDL (fB aA ?_);refine oB o71 0 aK ?_;refine fB aA ?_;refine oB o71 1 aK ?_;refine bC λc76=>fB aA ?_;refine oB o71 0 aC ?_;refine fB aA ?_;refine oB o71 1 aC ?_;refine bD λc81=>aDK ?_;refine rO ?_
  exact⟨false,rfl,⟨λh=>(by cases h),λhq=>absurd hq.1.2.1 c1⟩,o_ []⟩
 subst name';by_cases c2:table=table'
 case neg =>
  refine xB o0 λb130 m130 o130=>?_;refine xB o130 λb131 m131 o131=>?_;refine aDL (fB aA ?_);refine oB o131 0 aK ?_;refine fB aA ?_;refine oB o131 1 aK ?_;refine bC λc136=>fB aA ?_;refine oB o131 0 aC ?_;refine fB aA ?_;refine oB o131 1 aC ?_;refine bC λc141=>fB aA ?_;refine oB o131 0 aC ?_;refine fB aA ?_;refine oB o131 1 aC ?_;refine bD λc146=>aDK ?_;refine rO ?_
  exact⟨false,rfl,⟨λh=>(by cases h),λhq=>absurd hq.1.2.2.1 c2⟩,o_ []⟩
 subst table';by_cases c3:attr=attr'
 case neg =>
  refine xB o0 λb190 m190 o190=>?_;refine xB o190 λb191 m191 o191=>?_;refine aDL (fB aA ?_);refine oB o191 0 aK ?_;refine fB aA ?_;refine oB o191 1 aK ?_;refine bC λc196=>fB aA ?_;refine oB o191 0 aC ?_;refine fB aA ?_;refine oB o191 1 aC ?_;refine bC λc201=>fB aA ?_;refine oB o191 0 aC ?_;refine fB aA ?_;refine oB o191 1 aC ?_;refine bC λc206=>fB aA ?_;refine oB o191 0 aC ?_;refine fB aA ?_;refine oB o191 1 aC ?_;refine bD λc211=>aDK ?_;refine rO ?_
  exact⟨false,rfl,⟨λh=>(by cases h),λhq=>absurd hq.1.2.2.2.1 c3⟩,o_ []⟩
 subst attr';by_cases c4:by_=by_'
 case neg =>
  refine xB o0 λb250 m250 o250=>?_;refine xB o250 λb251 m251 o251=>?_;refine aDL (fB aA ?_);refine oB o251 0 aK ?_;refine fB aA ?_;refine oB o251 1 aK ?_;refine bC λc256=>fB aA ?_;refine oB o251 0 aC ?_;refine fB aA ?_;refine oB o251 1 aC ?_;refine bC λc261=>fB aA ?_;refine oB o251 0 aC ?_;refine fB aA ?_;refine oB o251 1 aC ?_;refine bC λc266=>fB aA ?_;refine oB o251 0 aC ?_;refine fB aA ?_;refine oB o251 1 aC ?_;refine bC λc271=>fB aA ?_;refine oB o251 0 aK ?_;refine fB aA ?_;refine oB o251 1 aK ?_;refine bD λc276=>aDK ?_;refine rO ?_
  exact⟨false,rfl,⟨λh=>(by cases h),λhq=>absurd hq.1.2.2.2.2.1 c4⟩,o_ []⟩
 subst by_';by_cases c5:n=n'
 case neg =>
  refine xB o0 λb310 m310 o310=>?_;refine xB o310 λb311 m311 o311=>?_;refine aDL (fB aA ?_);refine oB o311 0 aK ?_;refine fB aA ?_;refine oB o311 1 aK ?_;refine bC λc316=>fB aA ?_;refine oB o311 0 aC ?_;refine fB aA ?_;refine oB o311 1 aC ?_;refine bC λc321=>fB aA ?_;refine oB o311 0 aC ?_;refine fB aA ?_;refine oB o311 1 aC ?_;refine bC λc326=>fB aA ?_;refine oB o311 0 aC ?_;refine fB aA ?_;refine oB o311 1 aC ?_;refine bC λc331=>fB aA ?_;refine oB o311 0 aK ?_;refine fB aA ?_;refine oB o311 1 aK ?_;refine bC λc336=>fB aA ?_;refine oB o311 0 aK ?_;refine fB aA ?_;refine oB o311 1 aK ?_;refine bD λc341=>aDK ?_;refine rO ?_
  exact⟨false,rfl,⟨λh=>(by cases h),λhq=>absurd hq.1.2.2.2.2.2.1 c5⟩,o_ []⟩
 subst n';by_cases c6:m=m'
 case neg =>
  refine xB o0 λb370 m370 o370=>?_;refine xB o370 λb371 m371 o371=>?_;refine aDL (fB aA ?_);refine oB o371 0 aK ?_;refine fB aA ?_;refine oB o371 1 aK ?_;refine bC λc376=>fB aA ?_;refine oB o371 0 aC ?_;refine fB aA ?_;refine oB o371 1 aC ?_;refine bC λc381=>fB aA ?_;refine oB o371 0 aC ?_;refine fB aA ?_;refine oB o371 1 aC ?_;refine bC λc386=>fB aA ?_;refine oB o371 0 aC ?_;refine fB aA ?_;refine oB o371 1 aC ?_;refine bC λc391=>fB aA ?_;refine oB o371 0 aK ?_;refine fB aA ?_;refine oB o371 1 aK ?_;refine bC λc396=>fB aA ?_;refine oB o371 0 aK ?_;refine fB aA ?_;refine oB o371 1 aK ?_;refine bC λc401=>fB aA ?_;refine oB o371 0 aK ?_;refine fB aA ?_;refine oB o371 1 aK ?_;refine bD λc406=>aDK ?_;refine rO ?_
  exact⟨false,rfl,⟨λh=>(by cases h),λhq=>absurd hq.1.2.2.2.2.2.2.1 c6⟩,o_ []⟩
 subst m';by_cases c7:other=other'
 case neg =>
  refine xB o0 λb430 m430 o430=>?_;refine xB o430 λb431 m431 o431=>?_;refine aDL (fB aA ?_);refine oB o431 0 aK ?_;refine fB aA ?_;refine oB o431 1 aK ?_;refine bC λc436=>fB aA ?_;refine oB o431 0 aC ?_;refine fB aA ?_;refine oB o431 1 aC ?_;refine bC λc441=>fB aA ?_;refine oB o431 0 aC ?_;refine fB aA ?_;refine oB o431 1 aC ?_;refine bC λc446=>fB aA ?_;refine oB o431 0 aC ?_;refine fB aA ?_;refine oB o431 1 aC ?_;refine bC λc451=>fB aA ?_;refine oB o431 0 aK ?_;refine fB aA ?_;refine oB o431 1 aK ?_;refine bC λc456=>fB aA ?_;refine oB o431 0 aK ?_;refine fB aA ?_;refine oB o431 1 aK ?_;refine bC λc461=>fB aA ?_;refine oB o431 0 aK ?_;refine fB aA ?_;refine oB o431 1 aK ?_;refine bC λc466=>fB aA ?_;refine oB o431 0 aC ?_;refine fB aA ?_;refine oB o431 1 aC ?_;refine bD λc471=>aDK ?_;refine rO ?_
  exact⟨false,rfl,⟨λh=>(by cases h),λhq=>absurd hq.1.2.2.2.2.2.2.2.1 c7⟩,o_ []⟩
 subst other';by_cases c8:oattr=oattr'
 case neg =>
  refine xB o0 λb490 m490 o490=>?_;refine xB o490 λb491 m491 o491=>?_;refine aDL (fB aA ?_);refine oB o491 0 aK ?_;refine fB aA ?_;refine oB o491 1 aK ?_;refine bC λc496=>fB aA ?_;refine oB o491 0 aC ?_;refine fB aA ?_;refine oB o491 1 aC ?_;refine bC λc501=>fB aA ?_;refine oB o491 0 aC ?_;refine fB aA ?_;refine oB o491 1 aC ?_;refine bC λc506=>fB aA ?_;refine oB o491 0 aC ?_;refine fB aA ?_;refine oB o491 1 aC ?_;refine bC λc511=>fB aA ?_;refine oB o491 0 aK ?_;refine fB aA ?_;refine oB o491 1 aK ?_;refine bC λc516=>fB aA ?_;refine oB o491 0 aK ?_;refine fB aA ?_;refine oB o491 1 aK ?_;refine bC λc521=>fB aA ?_;refine oB o491 0 aK ?_;refine fB aA ?_;refine oB o491 1 aK ?_;refine bC λc526=>fB aA ?_;refine oB o491 0 aC ?_;refine fB aA ?_;refine oB o491 1 aC ?_;refine bC λc531=>fB aA ?_;refine oB o491 0 aC ?_;refine fB aA ?_;refine oB o491 1 aC ?_;refine bD λc536=>rO ?_
  exact⟨false,rfl,⟨λh=>(by cases h),λhq=>absurd hq.1.2.2.2.2.2.2.2.2 c8⟩,o_ []⟩
 subst oattr';by_cases l0:cols.length=cols'.length
 case neg =>
  refine xB o0 λb550 m550 o550=>?_;refine xB o550 λb551 m551 o551=>?_;refine aDL (fB aA ?_);refine oB o551 0 aK ?_;refine fB aA ?_;refine oB o551 1 aK ?_;refine bC λc556=>fB aA ?_;refine oB o551 0 aC ?_;refine fB aA ?_;refine oB o551 1 aC ?_;refine bC λc561=>fB aA ?_;refine oB o551 0 aC ?_;refine fB aA ?_;refine oB o551 1 aC ?_;refine bC λc566=>fB aA ?_;refine oB o551 0 aC ?_;refine fB aA ?_;refine oB o551 1 aC ?_;refine bC λc571=>fB aA ?_;refine oB o551 0 aK ?_;refine fB aA ?_;refine oB o551 1 aK ?_;refine bC λc576=>fB aA ?_;refine oB o551 0 aK ?_;refine fB aA ?_;refine oB o551 1 aK ?_;refine bC λc581=>fB aA ?_;refine oB o551 0 aK ?_;refine fB aA ?_;refine oB o551 1 aK ?_;refine bC λc586=>fB aA ?_;refine oB o551 0 aC ?_;refine fB aA ?_;refine oB o551 1 aC ?_;refine bC λc591=>fB aA ?_;refine oB o551 0 aC ?_;refine fB aA ?_;refine oB o551 1 aC ?_;refine bC λc596=>fB aA ?_;refine oB o551 0 kU ?_;refine lB iQ ?_;refine fB aA ?_;refine oB o551 1 kU ?_;refine lB iQ ?_;refine bD λc603=>aDK ?_;refine rO ?_
  exact⟨false,rfl,⟨λh=>(by cases h),λhq=>absurd (congrArg List.length hq.2.1) l0⟩,o_ []⟩
 by_cases l1:terms.length=terms'.length
 case neg =>
  refine xB o0 λb610 m610 o610=>?_;refine xB o610 λb611 m611 o611=>?_;refine aDL (fB aA ?_);refine oB o611 0 aK ?_;refine fB aA ?_;refine oB o611 1 aK ?_;refine bC λc616=>fB aA ?_;refine oB o611 0 aC ?_;refine fB aA ?_;refine oB o611 1 aC ?_;refine bC λc621=>fB aA ?_;refine oB o611 0 aC ?_;refine fB aA ?_;refine oB o611 1 aC ?_;refine bC λc626=>fB aA ?_;refine oB o611 0 aC ?_;refine fB aA ?_;refine oB o611 1 aC ?_;refine bC λc631=>fB aA ?_;refine oB o611 0 aK ?_;refine fB aA ?_;refine oB o611 1 aK ?_;refine bC λc636=>fB aA ?_;refine oB o611 0 aK ?_;refine fB aA ?_;refine oB o611 1 aK ?_;refine bC λc641=>fB aA ?_;refine oB o611 0 aK ?_;refine fB aA ?_;refine oB o611 1 aK ?_;refine bC λc646=>fB aA ?_;refine oB o611 0 aC ?_;refine fB aA ?_;refine oB o611 1 aC ?_;refine bC λc651=>fB aA ?_;refine oB o611 0 aC ?_;refine fB aA ?_;refine oB o611 1 aC ?_;refine bC λc656=>fB aA ?_;refine oB o611 0 kU ?_;refine lB iQ ?_;refine fB aA ?_;refine oB o611 1 kU ?_;refine lB iQ ?_;refine bC λc663=>fB aA ?_;refine oB o611 0 mC ?_;refine lB mE ?_;refine fB aA ?_;refine oB o611 1 mC ?_;refine lB mE ?_;refine bD λc670=>aDK ?_;refine rO ?_
  exact⟨false,rfl,⟨λh=>(by cases h),λhq=>absurd (congrArg List.length hq.2.2.1) l1⟩,o_ []⟩
 by_cases l2:fixed.length=fixed'.length
 case neg =>
  refine xB o0 λb670 m670 o670=>?_;refine xB o670 λb671 m671 o671=>?_;refine aDL (fB aA ?_);refine oB o671 0 aK ?_;refine fB aA ?_;refine oB o671 1 aK ?_;refine bC λc676=>fB aA ?_;refine oB o671 0 aC ?_;refine fB aA ?_;refine oB o671 1 aC ?_;refine bC λc681=>fB aA ?_;refine oB o671 0 aC ?_;refine fB aA ?_;refine oB o671 1 aC ?_;refine bC λc686=>fB aA ?_;refine oB o671 0 aC ?_;refine fB aA ?_;refine oB o671 1 aC ?_;refine bC λc691=>fB aA ?_;refine oB o671 0 aK ?_;refine fB aA ?_;refine oB o671 1 aK ?_;refine bC λc696=>fB aA ?_;refine oB o671 0 aK ?_;refine fB aA ?_;refine oB o671 1 aK ?_;refine bC λc701=>fB aA ?_;refine oB o671 0 aK ?_;refine fB aA ?_;refine oB o671 1 aK ?_;refine bC λc706=>fB aA ?_;refine oB o671 0 aC ?_;refine fB aA ?_;refine oB o671 1 aC ?_;refine bC λc711=>fB aA ?_;refine oB o671 0 aC ?_;refine fB aA ?_;refine oB o671 1 aC ?_;refine bC λc716=>fB aA ?_;refine oB o671 0 kU ?_;refine lB iQ ?_;refine fB aA ?_;refine oB o671 1 kU ?_;refine lB iQ ?_;refine bC λc723=>fB aA ?_;refine oB o671 0 mC ?_;refine lB mE ?_;refine fB aA ?_;refine oB o671 1 mC ?_;refine lB mE ?_;refine bC λc730=>fB aA ?_;refine oB o671 0 lZ ?_;refine lB kV ?_;refine fB aA ?_;refine oB o671 1 lZ ?_;refine lB kV ?_;refine bD λc737=>aDK ?_;refine rO ?_
  exact⟨false,rfl,⟨λh=>(by cases h),λhq=>absurd (congrArg List.length hq.2.2.2.1) l2⟩,o_ []⟩
 by_cases l3:vars.length=vars'.length
 case neg =>
  refine xB o0 λb730 m730 o730=>?_;refine xB o730 λb731 m731 o731=>?_;refine aDL (fB aA ?_);refine oB o731 0 aK ?_;refine fB aA ?_;refine oB o731 1 aK ?_;refine bC λc736=>fB aA ?_;refine oB o731 0 aC ?_;refine fB aA ?_;refine oB o731 1 aC ?_;refine bC λc741=>fB aA ?_;refine oB o731 0 aC ?_;refine fB aA ?_;refine oB o731 1 aC ?_;refine bC λc746=>fB aA ?_;refine oB o731 0 aC ?_;refine fB aA ?_;refine oB o731 1 aC ?_;refine bC λc751=>fB aA ?_;refine oB o731 0 aK ?_;refine fB aA ?_;refine oB o731 1 aK ?_;refine bC λc756=>fB aA ?_;refine oB o731 0 aK ?_;refine fB aA ?_;refine oB o731 1 aK ?_;refine bC λc761=>fB aA ?_;refine oB o731 0 aK ?_;refine fB aA ?_;refine oB o731 1 aK ?_;refine bC λc766=>fB aA ?_;refine oB o731 0 aC ?_;refine fB aA ?_;refine oB o731 1 aC ?_;refine bC λc771=>fB aA ?_;refine oB o731 0 aC ?_;refine fB aA ?_;refine oB o731 1 aC ?_;refine bC λc776=>fB aA ?_;refine oB o731 0 kU ?_;refine lB iQ ?_;refine fB aA ?_;refine oB o731 1 kU ?_;refine lB iQ ?_;refine bC λc783=>fB aA ?_;refine oB o731 0 mC ?_;refine lB mE ?_;refine fB aA ?_;refine oB o731 1 mC ?_;refine lB mE ?_;refine bC λc790=>fB aA ?_;refine oB o731 0 lZ ?_;refine lB kV ?_;refine fB aA ?_;refine oB o731 1 lZ ?_;refine lB kV ?_;refine bC λc797=>fB aA ?_;refine oB o731 0 lK ?_;refine lB jW ?_;refine fB aA ?_;refine oB o731 1 lK ?_;refine lB jW ?_
  refine bD λc804=>aDK ?_;refine rO ?_
  exact⟨false,rfl,⟨λh=>(by cases h),λhq=>absurd (congrArg List.length hq.2.2.2.2.1) l3⟩,o_ []⟩
 refine xB o0 λb1000 m1000 o1000=>?_;refine xB o1000 λb1001 m1001 o1001=>?_;refine aDL (fB aA ?_);refine oB o1001 0 aK ?_;refine fB aA ?_;refine oB o1001 1 aK ?_;refine bC λc1006=>fB aA ?_;refine oB o1001 0 aC ?_;refine fB aA ?_;refine oB o1001 1 aC ?_;refine bC λc1011=>fB aA ?_;refine oB o1001 0 aC ?_;refine fB aA ?_;refine oB o1001 1 aC ?_;refine bC λc1016=>fB aA ?_;refine oB o1001 0 aC ?_;refine fB aA ?_;refine oB o1001 1 aC ?_;refine bC λc1021=>fB aA ?_;refine oB o1001 0 aK ?_;refine fB aA ?_;refine oB o1001 1 aK ?_;refine bC λc1026=>fB aA ?_;refine oB o1001 0 aK ?_;refine fB aA ?_;refine oB o1001 1 aK ?_;refine bC λc1031=>fB aA ?_;refine oB o1001 0 aK ?_;refine fB aA ?_;refine oB o1001 1 aK ?_;refine bC λc1036=>fB aA ?_;refine oB o1001 0 aC ?_;refine fB aA ?_;refine oB o1001 1 aC ?_;refine bC λc1041=>fB aA ?_;refine oB o1001 0 aC ?_;refine fB aA ?_;refine oB o1001 1 aC ?_;refine bC λc1046=>fB aA ?_;refine oB o1001 0 kU ?_;refine lB iQ ?_;refine fB aA ?_;refine oB o1001 1 kU ?_;refine lB iQ ?_;refine bC λc1053=>fB aA ?_;refine oB o1001 0 mC ?_;refine lB mE ?_;refine fB aA ?_;refine oB o1001 1 mC ?_;refine lB mE ?_;refine bC λc1060=>fB aA ?_;refine oB o1001 0 lZ ?_;refine lB kV ?_;refine fB aA ?_;refine oB o1001 1 lZ ?_;refine lB kV ?_;refine bC λc1067=>fB aA ?_;refine oB o1001 0 lK ?_;refine lB jW ?_;refine fB aA ?_
 refine oB o1001 1 lK ?_;refine lB jW ?_;refine bC λc1074=>fB aA ?_;refine oB o1001 0 cS ?_;refine fB aA ?_;refine oB o1001 1 cS ?_;refine aDN (aAr names names' _ _ _ (q2.ext (Own.ext (B:=h) zA)).to1 (w2.ext (Own.ext (B:=h) zA)).to1 b2 d2) ?_;rintro _ hs1 ⟨rfl,oc1⟩;have os1:=oc1.thenE zA;by_cases hns:names=names'
 case neg =>
  rw[decide_eq_false hns]
  refine aDK (aDK ?_);refine rO ?_
  exact⟨false,rfl,⟨λh=>(by cases h),λhq=>absurd hq.2.2.2.2.2.1 hns⟩,o_ []⟩
 subst names'
 rw[decide_eq_true rfl]
 refine bC λc1200=>fB aA ?_;refine oB os1 0 kI ?_;refine fB aA ?_;refine oB os1 1 kI ?_;refine aDN (vL conds conds' _ _ _ (q6.ext os1.ext) (w6.ext os1.ext) b6 d6) ?_;rintro _ hs2 ⟨bb,rfl,hbb,oc2⟩;have os2:=oc2.thenE os1;cases bb with
 | false =>
  refine aDK (rO ?_)
  exact⟨false,rfl,⟨λh=>(by cases h),λhq=>by have:=hbb.2 hq.2.2.2.2.2.2.1;cases this⟩,o_ []⟩
 | true =>
 obtain rfl:=hbb.1 rfl;have oz:Own h [box b1000 [.int .i64 kind,.string ⟨⟨name⟩⟩,.int .i64 z,.string ⟨⟨table⟩⟩,.string ⟨⟨attr⟩⟩,.slice y1 cols.length z1,.slice y2 names.length z2,.int .i64 by_,.int .i64 n,.int .i64 m,.slice y3 terms.length z3,.string ⟨⟨other⟩⟩,.string ⟨⟨oattr⟩⟩,.slice y4 fixed.length z4,.slice y5 vars.length z5,.slice y6 conds.length z6,e0,e1,e2,e3,e4,e5,e6,e7,e8] 44,box b1001 [.int .i64 kind,.string ⟨⟨name⟩⟩,.int .i64 z',.string ⟨⟨table⟩⟩,.string ⟨⟨attr⟩⟩,.slice yy1 cols'.length zz1,.slice yy2 names.length zz2,.int .i64 by_,.int .i64 n,.int .i64 m,.slice yy3 terms'.length zz3,.string ⟨⟨other⟩⟩,.string ⟨⟨oattr⟩⟩,.slice yy4 fixed'.length zz4,.slice yy5 vars'.length zz5,.slice yy6 conds.length zz6,f0,f1,f2,f3,f4,f5,f6,f7,f8] 44] hs2:=os2;clear oc1 oc2 os1 os2;refine aDL ?_;refine aDT [6,7,132,133,134,135,136,137,138,139,140,141,142,143,144,145,146,147,148,149] [7] (λvs hh=>∃(i:Nat),i<=cols.length/\vs=[.int .i64 i]/\(∀ j,j<i->cols[j]?=cols'[j]?)/\Own h [box b1000 [.int .i64 kind,.string ⟨⟨name⟩⟩,.int .i64 z,.string ⟨⟨table⟩⟩,.string ⟨⟨attr⟩⟩,.slice y1 cols.length z1,.slice y2 names.length z2,.int .i64 by_,.int .i64 n,.int .i64 m,.slice y3 terms.length z3,.string ⟨⟨other⟩⟩,.string ⟨⟨oattr⟩⟩,.slice y4 fixed.length z4,.slice y5 vars.length z5,.slice y6 conds.length z6,e0,e1,e2,e3,e4,e5,e6,e7,e8] 44,box b1001 [.int .i64 kind,.string ⟨⟨name⟩⟩,.int .i64 z',.string ⟨⟨table⟩⟩,.string ⟨⟨attr⟩⟩,.slice yy1 cols'.length zz1,.slice yy2 names.length zz2,.int .i64 by_,.int .i64 n,.int .i64 m,.slice yy3 terms'.length zz3,.string ⟨⟨other⟩⟩,.string ⟨⟨oattr⟩⟩,.slice yy4 fixed'.length zz4,.slice yy5 vars'.length zz5,.slice yy6 conds.length zz6,f0,f1,f2,f3,f4,f5,f6,f7,f8] 44] hh) (λvs _=>match vs with|[.int _ i]=>cols.length - i.toNat|_=>0) ?_ ?_
 ·exact⟨0,by omega,rfl,λj hj=>by omega,oz⟩
 rintro vs junk hh0 ⟨i,hi,rfl,hpre,oh0⟩;clear oz;by_cases hlt:i<cols.length
 ·obtain⟨el,hel⟩:=getx hlt
  obtain⟨el',hel'⟩:=getx (show i<cols'.length by omega)
  obtain⟨r,hcm,hr⟩:=cmp_col el el'
  cases r with
  | true =>
   obtain rfl:=hr.1 rfl;refine fB aA ?_;refine oB oh0 0 kU ?_;refine lB iQ ?_;refine bB λc1403=>d1_ [0,2,3,5,7,8,10] [1,4,6,9] [] [0,1,2,3,4,5,6,7,8,9,10] ?_;refine fC aA ?_;refine oC oh0 0 kU ?_;refine aDe iQ eV (q1.ext oh0.ext) rfl zO zO ?_;refine aDg eV (q1.ext oh0.ext) (λ_=>rfl) zD rfl zA ?_;refine fC aA ?_;refine oC oh0 1 kU ?_;refine aDe iQ eV (w1.ext oh0.ext) rfl zO zO ?_;refine aDg eV (w1.ext oh0.ext) (λ_=>rfl) zD rfl zA ?_;refine neDeep dp_col eg_col rfl rfl rfl hcm ?_;refine aDL (aR ?_)
   refine⟨rfl,?_⟩
   exact⟨⟨i+1,by omega,rfl,qI hpre hel hel',o_ [0,1]⟩,by simp;omega⟩
  | false =>
   refine fB aA ?_;refine oB oh0 0 kU ?_;refine lB iQ ?_;refine bB λc1463=>d1_ [0,2,3,5,7,8,10] [1,4,6,9] [] [0,1,2,3,4,5,6,7,8,9,10] ?_;refine fC aA ?_;refine oC oh0 0 kU ?_;refine aDe iQ eV (q1.ext oh0.ext) rfl zO zO ?_;refine aDg eV (q1.ext oh0.ext) (λ_=>rfl) zD rfl zA ?_;refine fC aA ?_;refine oC oh0 1 kU ?_;refine aDe iQ eV (w1.ext oh0.ext) rfl zO zO ?_;refine aDg eV (w1.ext oh0.ext) (λ_=>rfl) zD rfl zA ?_;refine neDeep dp_col eg_col rfl rfl rfl hcm ?_;refine aDK (rO ?_)
   exact⟨false,rfl,⟨λh=>(by cases h),λhq=>absurd hq.2.1 (aAP hel hel' λe=>by have:=hr.2 e;cases this)⟩,o_ []⟩
 obtain rfl:cols=cols':=oH l0 λj hj=>hpre j zO;refine fB aA ?_;refine oB oh0 0 kU ?_;refine lB iQ ?_;refine bA λc1523=>?_;clear hpre hi hlt;refine aDT [6,8,150,151,152,153,154,155,156,157,158,159,160,161,162,163,164,165,166,167] [8] (λvs hh=>∃(i:Nat),i<=terms.length/\vs=[.int .i64 i]/\(∀ j,j<i->terms[j]?=terms'[j]?)/\Own h [box b1000 [.int .i64 kind,.string ⟨⟨name⟩⟩,.int .i64 z,.string ⟨⟨table⟩⟩,.string ⟨⟨attr⟩⟩,.slice y1 cols.length z1,.slice y2 names.length z2,.int .i64 by_,.int .i64 n,.int .i64 m,.slice y3 terms.length z3,.string ⟨⟨other⟩⟩,.string ⟨⟨oattr⟩⟩,.slice y4 fixed.length z4,.slice y5 vars.length z5,.slice y6 conds.length z6,e0,e1,e2,e3,e4,e5,e6,e7,e8] 44,box b1001 [.int .i64 kind,.string ⟨⟨name⟩⟩,.int .i64 z',.string ⟨⟨table⟩⟩,.string ⟨⟨attr⟩⟩,.slice yy1 cols.length zz1,.slice yy2 names.length zz2,.int .i64 by_,.int .i64 n,.int .i64 m,.slice yy3 terms'.length zz3,.string ⟨⟨other⟩⟩,.string ⟨⟨oattr⟩⟩,.slice yy4 fixed'.length zz4,.slice yy5 vars'.length zz5,.slice yy6 conds.length zz6,f0,f1,f2,f3,f4,f5,f6,f7,f8] 44] hh) (λvs _=>match vs with|[.int _ i]=>terms.length - i.toNat|_=>0) ?_ ?_
 ·exact⟨0,by omega,rfl,λj hj=>by omega,oh0⟩
 rintro vs junk hh1 ⟨i,hi,rfl,hpre,oh1⟩;clear oh0;by_cases hlt:i<terms.length
 ·obtain⟨el,hel⟩:=getx hlt
  obtain⟨el',hel'⟩:=getx (show i<terms'.length by omega)
  obtain⟨r,hcm,hr⟩:=cmp_trm el el'
  cases r with
  | true =>
   obtain rfl:=hr.1 rfl;refine fB aA ?_;refine oB oh1 0 mC ?_;refine lB mE ?_;refine bB λc1583=>d1_ [0,2,3,5,7,8,10] [1,4,6,9] [] [0,1,2,3,4,5,6,7,8,9,10] ?_;refine fC aA ?_;refine oC oh1 0 mC ?_;refine aDe mE cT (q3.ext oh1.ext) rfl zO zO ?_;refine aDg cT (q3.ext oh1.ext) (λ_=>rfl) zD rfl zA ?_;refine fC aA ?_;refine oC oh1 1 mC ?_;refine aDe mE cT (w3.ext oh1.ext) rfl zO zO ?_;refine aDg cT (w3.ext oh1.ext) (λ_=>rfl) zD rfl zA ?_;refine neDeep dp_term eg_term rfl rfl rfl hcm ?_;refine aDL (aR ?_)
   refine⟨rfl,?_⟩
   exact⟨⟨i+1,by omega,rfl,qI hpre hel hel',o_ [0,1]⟩,by simp;omega⟩
  | false =>
   refine fB aA ?_;refine oB oh1 0 mC ?_;refine lB mE ?_;refine bB λc1643=>d1_ [0,2,3,5,7,8,10] [1,4,6,9] [] [0,1,2,3,4,5,6,7,8,9,10] ?_;refine fC aA ?_;refine oC oh1 0 mC ?_;refine aDe mE cT (q3.ext oh1.ext) rfl zO zO ?_;refine aDg cT (q3.ext oh1.ext) (λ_=>rfl) zD rfl zA ?_;refine fC aA ?_;refine oC oh1 1 mC ?_;refine aDe mE cT (w3.ext oh1.ext) rfl zO zO ?_;refine aDg cT (w3.ext oh1.ext) (λ_=>rfl) zD rfl zA ?_;refine neDeep dp_term eg_term rfl rfl rfl hcm ?_;refine aDK (rO ?_)
   exact⟨false,rfl,⟨λh=>(by cases h),λhq=>absurd hq.2.2.1 (aAP hel hel' λe=>by have:=hr.2 e;cases this)⟩,o_ []⟩
 obtain rfl:terms=terms':=oH l1 λj hj=>hpre j zO;refine fB aA ?_;refine oB oh1 0 mC ?_;refine lB mE ?_;refine bA λc1703=>?_;clear hpre hi hlt;refine aDT [6,9,168,169,170,171,172,173,174,175,176,177,178,179,180,181,182,183,184,185,186,187,188,189,190,191,192,193,194,195,196,197,198,199,200,201,202,203] [9] (λvs hh=>∃(i:Nat),i<=fixed.length/\vs=[.int .i64 i]/\(∀ j,j<i->fixed[j]?=fixed'[j]?)/\Own h [box b1000 [.int .i64 kind,.string ⟨⟨name⟩⟩,.int .i64 z,.string ⟨⟨table⟩⟩,.string ⟨⟨attr⟩⟩,.slice y1 cols.length z1,.slice y2 names.length z2,.int .i64 by_,.int .i64 n,.int .i64 m,.slice y3 terms.length z3,.string ⟨⟨other⟩⟩,.string ⟨⟨oattr⟩⟩,.slice y4 fixed.length z4,.slice y5 vars.length z5,.slice y6 conds.length z6,e0,e1,e2,e3,e4,e5,e6,e7,e8] 44,box b1001 [.int .i64 kind,.string ⟨⟨name⟩⟩,.int .i64 z',.string ⟨⟨table⟩⟩,.string ⟨⟨attr⟩⟩,.slice yy1 cols.length zz1,.slice yy2 names.length zz2,.int .i64 by_,.int .i64 n,.int .i64 m,.slice yy3 terms.length zz3,.string ⟨⟨other⟩⟩,.string ⟨⟨oattr⟩⟩,.slice yy4 fixed'.length zz4,.slice yy5 vars'.length zz5,.slice yy6 conds.length zz6,f0,f1,f2,f3,f4,f5,f6,f7,f8] 44] hh) (λvs _=>match vs with|[.int _ i]=>fixed.length - i.toNat|_=>0) ?_ ?_
 ·exact⟨0,by omega,rfl,λj hj=>by omega,oh1⟩
 rintro vs junk hh2 ⟨i,hi,rfl,hpre,oh2⟩;clear oh1;by_cases hlt:i<fixed.length
 ·obtain⟨el,hel⟩:=getx hlt
  obtain⟨el',hel'⟩:=getx (show i<fixed'.length by omega)
  by_cases hnm:el.name=el'.name
  case neg =>
   refine fB aA ?_;refine oB oh2 0 lZ ?_;refine lB kV ?_;refine bB λc1763=>d1_ [0,2,3,4,6,8,9,10,12,13,14,16,17,18,20,22,23,24,27,28] [1,5,7,11,15,19,21,25] [26] [0,1,2,3,4,5,6,7,8,9,10,11,12,13,14,15,16,17,18,19,20,21,22,23,24,25,26,27,28] ?_;refine fC aA ?_;refine oC oh2 0 lZ ?_;refine aDe kV oN (q4.ext oh2.ext) rfl zO zO ?_;refine aDf (q4.ext oh2.ext) zO wS rfl rfl rfl ?_;refine aDl (q4.ext oh2.ext) aC (λ_=>rfl) rfl zA rfl ?_;refine fC aA ?_;refine oC oh2 1 lZ ?_;refine aDe kV oN (w4.ext oh2.ext) rfl zO zO ?_;refine aDf (w4.ext oh2.ext) zO wS rfl rfl rfl ?_;refine aDl (w4.ext oh2.ext) aC (λ_=>rfl) rfl zA rfl ?_;refine bD λc1774=>aDK ?_;refine rO ?_
   exact⟨false,rfl,⟨λh=>(by cases h),λhq=>absurd hq.2.2.2.1 (aAP hel hel' λe=>hnm (by rw[e]))⟩,o_ []⟩
  refine fB aA ?_;refine oB oh2 0 lZ ?_;refine lB kV ?_;refine bB λc1823=>d1_ [0,2,3,4,6,8,9,10,12,13,14,16,17,18,20,22,23,24,27,28] [1,5,7,11,15,19,21,25] [26] [0,1,2,3,4,5,6,7,8,9,10,11,12,13,14,15,16,17,18,19,20,21,22,23,24,25,26,27,28] ?_;refine fC aA ?_;refine oC oh2 0 lZ ?_;refine aDe kV oN (q4.ext oh2.ext) rfl zO zO ?_;refine aDf (q4.ext oh2.ext) zO wS rfl rfl rfl ?_;refine aDl (q4.ext oh2.ext) aC (λ_=>rfl) rfl zA rfl ?_;refine fC aA ?_;refine oC oh2 1 lZ ?_;refine aDe kV oN (w4.ext oh2.ext) rfl zO zO ?_;refine aDf (w4.ext oh2.ext) zO wS rfl rfl rfl ?_;refine aDl (w4.ext oh2.ext) aC (λ_=>rfl) rfl zA rfl ?_;refine bC λc1834=>fC aA ?_;refine oC oh2 0 lZ ?_;refine aDe kV oN (q4.ext oh2.ext) rfl zO zO ?_;refine aDf (q4.ext oh2.ext) zO wS rfl rfl rfl ?_;refine aDD cG (q4.ext oh2.ext) (λ_=>rfl) zD zD rfl zA rfl ?_;refine fC aA ?_;refine oC oh2 1 lZ ?_;refine aDe kV oN (w4.ext oh2.ext) rfl zO zO ?_;refine aDf (w4.ext oh2.ext) zO wS rfl rfl rfl ?_;refine aDD cG (w4.ext oh2.ext) (λ_=>rfl) zD zD rfl zA rfl ?_;refine aDN (rcompare2 el.val el'.val _) ?_;rintro _ hc2 ⟨q,rfl,hq0,oc4⟩;have os4:=oc4.thenE oh2;by_cases hz:q=0
  ·have hv:=hq0.1 hz
   have he:el=el':=by cases el;cases el';simp only at hnm hv;rw[hnm,hv]
   subst he;refine bC λc1880=>aR ?_
   refine⟨rfl,?_⟩
   exact⟨⟨i+1,by omega,rfl,qI hpre hel hel',o_ [0,1]⟩,by simp;omega⟩
  ·refine bD λc1940=>?_
   refine rO ?_
   exact⟨false,rfl,⟨λh=>(by cases h),λhq=>absurd hq.2.2.2.1 (aAP hel hel' λe=>hz (hq0.2 (by rw[e])))⟩,o_ []⟩
 obtain rfl:fixed=fixed':=oH l2 λj hj=>hpre j zO;refine fB aA ?_;refine oB oh2 0 lZ ?_;refine lB kV ?_;refine bA λc2003=>?_;clear hpre hi hlt;refine aDT [6,10,204,205,206,207,208,209,210,211,212,213,214,215,216,217,218,219,220,221] [10] (λvs hh=>∃(i:Nat),i<=vars.length/\vs=[.int .i64 i]/\(∀ j,j<i->vars[j]?=vars'[j]?)/\Own h [box b1000 [.int .i64 kind,.string ⟨⟨name⟩⟩,.int .i64 z,.string ⟨⟨table⟩⟩,.string ⟨⟨attr⟩⟩,.slice y1 cols.length z1,.slice y2 names.length z2,.int .i64 by_,.int .i64 n,.int .i64 m,.slice y3 terms.length z3,.string ⟨⟨other⟩⟩,.string ⟨⟨oattr⟩⟩,.slice y4 fixed.length z4,.slice y5 vars.length z5,.slice y6 conds.length z6,e0,e1,e2,e3,e4,e5,e6,e7,e8] 44,box b1001 [.int .i64 kind,.string ⟨⟨name⟩⟩,.int .i64 z',.string ⟨⟨table⟩⟩,.string ⟨⟨attr⟩⟩,.slice yy1 cols.length zz1,.slice yy2 names.length zz2,.int .i64 by_,.int .i64 n,.int .i64 m,.slice yy3 terms.length zz3,.string ⟨⟨other⟩⟩,.string ⟨⟨oattr⟩⟩,.slice yy4 fixed.length zz4,.slice yy5 vars'.length zz5,.slice yy6 conds.length zz6,f0,f1,f2,f3,f4,f5,f6,f7,f8] 44] hh) (λvs _=>match vs with|[.int _ i]=>vars.length - i.toNat|_=>0) ?_ ?_
 ·exact⟨0,by omega,rfl,λj hj=>by omega,oh2⟩
 rintro vs junk hh3 ⟨i,hi,rfl,hpre,oh3⟩;clear oh2;by_cases hlt:i<vars.length
 ·obtain⟨el,hel⟩:=getx hlt
  obtain⟨el',hel'⟩:=getx (show i<vars'.length by omega)
  obtain⟨r,hcm,hr⟩:=cmp_vr el el'
  cases r with
  | true =>
   obtain rfl:=hr.1 rfl;refine fB aA ?_;refine oB oh3 0 lK ?_;refine lB jW ?_;refine bB λc2063=>d1_ [0,2,3,5,7,8,10] [1,4,6,9] [] [0,1,2,3,4,5,6,7,8,9,10] ?_;refine fC aA ?_;refine oC oh3 0 lK ?_;refine aDe jW kT (q5.ext oh3.ext) rfl zO zO ?_;refine aDg kT (q5.ext oh3.ext) (λ_=>rfl) zD rfl zA ?_;refine fC aA ?_;refine oC oh3 1 lK ?_;refine aDe jW kT (w5.ext oh3.ext) rfl zO zO ?_;refine aDg kT (w5.ext oh3.ext) (λ_=>rfl) zD rfl zA ?_;refine neS pl98 rfl rfl rfl rfl ?_;refine Br.ffE (by first|omega|(simp;done)) ?_;refine aR ?_
   refine⟨rfl,?_⟩
   exact⟨⟨i+1,by omega,rfl,qI hpre hel hel',o_ [0,1]⟩,by simp;omega⟩
  | false =>
   have hne:¬ el=el':=λe=>by have:=hr.2 e;cases this
   have hbt:(!(decide (el.name=el'.name)&&(decide (el.table=el'.table)&&true)))=true:=by
    rw[aEn,aEh]
    intro hh
    simp at hh
    exact hne (by cases el;cases el';simp at hh;simp[hh])
   refine fB aA ?_;refine oB oh3 0 lK ?_;refine lB jW ?_;refine bB λc2123=>d1_ [0,2,3,5,7,8,10] [1,4,6,9] [] [0,1,2,3,4,5,6,7,8,9,10] ?_;refine fC aA ?_;refine oC oh3 0 lK ?_;refine aDe jW kT (q5.ext oh3.ext) rfl zO zO ?_;refine aDg kT (q5.ext oh3.ext) (λ_=>rfl) zD rfl zA ?_;refine fC aA ?_;refine oC oh3 1 lK ?_;refine aDe jW kT (w5.ext oh3.ext) rfl zO zO ?_;refine aDg kT (w5.ext oh3.ext) (λ_=>rfl) zD rfl zA ?_;refine neS pl98 rfl rfl rfl rfl ?_;refine Br.ttE hbt ?_;refine rO ?_
   exact⟨false,rfl,⟨λh=>(by cases h),λhq=>absurd hq.2.2.2.2.1 (aAP hel hel' λe=>by have:=hr.2 e;cases this)⟩,o_ []⟩
 obtain rfl:vars=vars':=oH l3 λj hj=>hpre j zO;refine fB aA ?_;refine oB oh3 0 lK ?_;refine lB jW ?_;refine bA λc2183=>fB aA ?_;refine nB oh3 0 aQ ?_;refine fB aA ?_;refine nB oh3 1 aQ ?_;clear hpre hi hlt;refine aDN (oT (eL expr) expr expr' _ _ _ (aD6 _) bx dx (fT.ext (Own.ext (B:=h) zA) _ _ rx) (fT.ext (Own.ext (B:=h) zA) _ _ px)) ?_;rintro _ hc3 ⟨bb,rfl,hb3,oc5⟩;have os5:=oc5.thenE zA;refine rO ?_
 exact⟨bb,rfl,⟨λe=>⟨⟨rfl,rfl,rfl,rfl,rfl,rfl,rfl,rfl,rfl⟩,rfl,rfl,rfl,rfl,rfl,rfl,hb3.1 e⟩,λhq=>hb3.2 hq.2.2.2.2.2.2.2⟩,o_ []⟩
def aC4:Nat->Code->Code
 | 0,_=>.skip
 | k+1,.seq a b=>.seq a (aC4 k b)
 | _+1,c=>c
def aC5:Nat->Code->Code
 | 0,c=>c
 | k+1,.seq _ b=>aC5 k b
 | _+1,_=>.skip
theorem vcode_cut0 {P:Program}:∀(k:Nat)(c:Code)(Q:QQ)(s:aVs)(h:Heap),vcode P (aC4 k c) (zY (λs h=>vcode P (aC5 k c) Q s h) Q) s h->vcode P c Q s h:=by
 intro k
 induction k with
 | zero=>intro c Q s h hv;exact hv
 | succ k ih =>
  intro c Q s h hv;have other:∀ c,vcode P c (zY (λs h=>vcode P .skip Q s h) Q) s h->vcode P c Q s h:=λc hv =>
   jL c (λe s h hq=>by cases e<;>exact hq) s h hv
  cases c with
  | seq a b =>
   refine jL a (λe s h hq=>?_) s h hv;cases e with
   | normal=>exact ih b Q s h hq
   | _=>exact hq
  | _=>exact other _ hv
theorem vcode_cut {P:Program}{c:Code}{Q:QQ}{s:aVs}{h:Heap}(k:Nat)(asg lv:List Nat)(I:aVs->Heap->Prop)
  (hab:vcode P (aC4 k c) (zY (λs' h'=>mask asg 0 s'=mask asg 0 s/\oS s' lv λvs=>I vs h') Q) s h)
  (hr:∀(vs:aVs) (junk:Nat->Value) (h':Heap),I vs h'->mN asg lv vs junk 0 s λs1=>vcode P (aC5 k c) Q s1 h'):vcode P c Q s h:=by
 refine vcode_cut0 k c Q s h (jL _ (sW (λs' h' ⟨hm,hI⟩=>?_) (λ_ _ _ x=>x)) s h hab)
 rw[tV]at hI
 have:=hr (lv.map (sget s')) (sget s') h' hI
 rwa [oG,kY asg lv s' s s' 0 zS hm]at this
def slots171:List Nat:=List.range 171
theorem ritem9_spec (x:It)(c:aVs)(h:Heap)(hOK:fO x)(hc:nP h c x):bG Tryz.prog 37 [.agg ⟨c⟩] h λr h'=>r=.bool (iB x).isSome/\Own h [] h':=by
 have hcx:=hc;have hOK0:=hOK
 obtain⟨z,vc,vn,vt,vf,vv,vd,e0,e1,e2,e3,e4,e5,e6,e7,e8,rfl,w1,w2,w3,w4,w5,w6,rx⟩:=hc
 obtain⟨i1,j1,rfl⟩:=w1.isS
 obtain⟨i2,j2,rfl⟩:=w2.isS
 obtain⟨i3,j3,rfl⟩:=w3.isS
 obtain⟨i4,j4,rfl⟩:=w4.isS
 obtain⟨i5,j5,rfl⟩:=w5.isS
 obtain⟨i6,j6,rfl⟩:=w6.isS
 obtain⟨bkind,bname,btable,battr,bcols,bnames,bby,bn,bm,bterms,both,boat,bfixed,bvars,bconds,bexpr,lcols,lnames,lterms,lfixed,lvars,lconds⟩:=hOK
 unfold eD at hcx ⊢;refine eN Tryz.func37 Tryz.ntmps37 ?_
 rw[oJ]
 refine vcode_cut 4 slots171 [1,3] (λvs h'=>∃ b,vs=[pv b 0,.bool (aZ x.table&&aZ x.attr)]/\(1<=x.kind/\x.kind<=10/\gY x=true/\(x.kind=10∨lC x.expr=true))/\(x.kind=5∨aZ x.name=true)/\Own h [box b [iv x.kind,sv x.name,iv z,sv x.table,sv x.attr,.slice i1 x.cols.length j1,.slice i2 x.names.length j2,iv x.by_,iv x.n,iv x.m,.slice i3 x.terms.length j3,sv x.other,sv x.oattr,.slice i4 x.fixed.length j4,.slice i5 x.vars.length j5,.slice i6 x.conds.length j6,e0,e1,e2,e3,e4,e5,e6,e7,e8] 44] h') ?_ ?_
 ·simp only[aC4]
  have o0:=Own.refl h;by_cases hk:1<=x.kind/\x.kind<=10
  case neg =>
   by_cases hk1:x.kind<1
   ·refine xB o0 λb10 m10 o10=>?_
    refine d1_ [0,2,3,4,6,7,8,13,14] [1,5,9,11] [12] [0,1,2,3,4,5,6,7,8,9,11,10,12,13,14] ?_;refine fC aA ?_;refine oC o10 0 aK ?_;refine bB λc13=>aDK ?_;refine rO ?_
    exact⟨congrArg Value.bool (by rw[qD,decide_eq_false (λhh=>hk ⟨hh.1,hh.2.1⟩)];rfl),o_ []⟩
   ·refine xB o0 λb50 m50 o50=>?_
    refine d1_ [0,2,3,4,6,7,8,13,14] [1,5,9,11] [12] [0,1,2,3,4,5,6,7,8,9,11,10,12,13,14] ?_;refine fC aA ?_;refine oC o50 0 aK ?_;refine bA λc53=>fC aA ?_;refine oC o50 0 aK ?_;refine bB λc56=>aDK ?_;refine rO ?_
    exact⟨congrArg Value.bool (by rw[qD,decide_eq_false (λhh=>hk ⟨hh.1,hh.2.1⟩)];rfl),o_ []⟩
  refine xB o0 λb100 m100 o100=>?_;refine d1_ [0,2,3,4,6,7,8,13,14] [1,5,9,11] [12] [0,1,2,3,4,5,6,7,8,9,11,10,12,13,14] ?_;refine fC aA ?_;refine oC o100 0 aK ?_;refine bA λc103=>fC aA ?_;refine oC o100 0 aK ?_;refine bA λc106=>aDr o100 0 rfl bU rfl rfl rfl ?_;refine aDr o100 0 rfl bU rfl rfl rfl ?_;refine aDN (rbare_spec x _ _ hk.1 hk.2 hOK0 (hcx.ext (Own.ext (B:=h) zA))) ?_;rintro _ h2 ⟨c',y,rfl,hy,hyOK,hyiff,oc⟩;have p2:=oc.thenE (B:=h) zA
  refine⟨oc.ext,?_⟩
  refine aDN (aAx y x _ _ _ hyOK hOK0 (hy.ext oc.ext) (hcx.ext (Own.ext (B:=h) zA))) ?_;rintro _ h3 ⟨bb,rfl,hbb,oc3⟩;have p3:=oc3.thenE (B:=h) p2
  rw[hyiff]at hbb
  clear hy hyiff oc p2;cases bb with
  | false =>
   refine aDK (rO ?_)
   exact⟨congrArg Value.bool (by rw[qD,decide_eq_false (λhh=>by have:=hbb.2 hh.2.2;cases this)];rfl),o_ []⟩
  | true =>
  have hbe:=hbb.1 rfl;clear hbb;by_cases h5:x.kind=5
  ·skip
   refine aDL (fB aA ?_);refine oB p3 0 aK ?_;refine bC λc302=>aDL ?_;refine fB aA ?_;refine oB p3 0 aC ?_;refine aDN (bY x.table _ btable) ?_;rintro _ h300 ⟨rfl,oc⟩;have p300:=oc.thenE (B:=h) zA;clear oc;cases hbt:aZ x.table with
   | false =>
    refine aDL ?_
    refine⟨rfl,?_⟩
    exact⟨b100,by simp[hbt],⟨hk.1,hk.2,hbe⟩,.inl h5,o_ [0]⟩
   | true =>
    refine aDK (fB aA ?_);refine oB p300 0 aC ?_;refine aDN (bY x.attr _ battr) ?_;rintro _ h400 ⟨rfl,oc⟩;have p400:=oc.thenE (B:=h) zA;clear oc
    refine⟨rfl,?_⟩
    exact⟨b100,by simp[hbt],⟨hk.1,hk.2,hbe⟩,.inl h5,o_ [0]⟩
  ·skip
   refine aDL (fB aA ?_);refine oB p3 0 aK ?_;refine bD λc502=>fB aA ?_;refine oB p3 0 aC ?_;refine aDN (bY x.name _ bname) ?_;rintro _ h500 ⟨rfl,oc⟩;have p500:=oc.thenE (B:=h) zA;clear oc;cases hbn:aZ x.name with
   | false =>
    refine aDK (rO ?_)
    exact⟨congrArg Value.bool (by rw[qD,hbn,decide_eq_false h5];simp),o_ []⟩
   | true =>
   skip
   refine aDL (fB aA ?_);refine oB p500 0 aC ?_;refine aDN (bY x.table _ btable) ?_;rintro _ h600 ⟨rfl,oc⟩;have p600:=oc.thenE (B:=h) zA;clear oc;cases hbt:aZ x.table with
   | false =>
    refine aDL ?_
    refine⟨rfl,?_⟩
    exact⟨b100,by simp[hbt],⟨hk.1,hk.2,hbe⟩,.inr rfl,o_ [0]⟩
   | true =>
    refine aDK (fB aA ?_);refine oB p600 0 aC ?_;refine aDN (bY x.attr _ battr) ?_;rintro _ h700 ⟨rfl,oc⟩;have p700:=oc.thenE (B:=h) zA;clear oc
    refine⟨rfl,?_⟩
    exact⟨b100,by simp[hbt],⟨hk.1,hk.2,hbe⟩,.inr rfl,o_ [0]⟩
 ·rintro vs junk h1 ⟨b,rfl,hbare,hname,ob⟩
  have hT:(iB x).isSome=(eP x).isSome:=by rw[qD,decide_eq_true hbare,aEq];rcases hname with hn|hn<;>simp[hn]
  rw[hT,some_part x hbare.1 hbare.2.1]
  generalize hP:(aZ x.table&&aZ x.attr)=P
  clear hT;have h00:dB 0=true:=rfl;by_cases k1:x.kind=1
  ·rw[if_pos k1]
   refine fB aA ?_;refine oB ob 0 aK ?_;refine bB λc1052=>fB aA ?_;refine oB ob 0 kU ?_;refine aDN (aAE x.cols _ _ (w1.ext (Own.ext (B:=h) zA)) lcols bcols) ?_;rintro _ h1050 ⟨rfl,oc⟩;have p1050:=oc.thenE (B:=h) zA;clear oc;cases hb1050:((x.cols.all λc=>(iP [] c).isSome)&&decide (0<x.cols.length)) with
   | false =>
    refine aDL (rO ?_)
    exact⟨congrArg Value.bool (by first|(simp[*];done)|(simp only[cF];simp[*];done)|grind),o_ []⟩
   | true =>
    refine aDK (fB aA ?_);refine oB p1050 0 cS ?_;refine aDN (jX x.names _ _ (by have q:=w2.ext (Own.ext (B:=h) zA);rw[mK]at q;exact q.to1) lnames bnames) ?_;rintro _ h1150 ⟨rfl,oc⟩;have p1150:=oc.thenE (B:=h) zA;clear oc;cases hb1150:x.names.all aZ with
    | false =>
     refine aDL (rO ?_)
     exact⟨congrArg Value.bool (by first|(simp[*];done)|(simp only[cF];simp[*];done)|grind),o_ []⟩
    | true =>
     refine aDK (fB aA ?_);refine oB p1150 0 cS ?_;refine lB aB ?_;refine rO ?_
     exact⟨congrArg Value.bool (by first|(simp[*];done)|(simp only[cF];simp[*];done)|grind),o_ []⟩
  rw[if_neg k1]
  by_cases k2:x.kind=2
  ·rw[if_pos k2]
   refine fB aA ?_;refine oB ob 0 aK ?_;refine bA λc1302=>bB λc1303=>?_;refine fB aA ?_;refine oB ob 0 aK ?_;refine aDN (dJ x.n _ bn) ?_;rintro _ h1300 ⟨rfl,oc⟩;have p1300:=oc.thenE (B:=h) zA;clear oc;refine rO ?_
   exact⟨congrArg Value.bool (by first|(simp[*];done)|(simp only[cF];simp[*];done)|grind),o_ []⟩
  rw[if_neg k2]
  by_cases k3:x.kind=3
  ·rw[if_pos k3]
   have hbn3:x.by_<3->x.n=0:=λhh=>by have h9:=hbare.2.2.1;unfold gY at h9;simp only[decide_eq_true_eq]at h9;omega
   have hbm3:x.by_≠4->x.m=0:=λhh=>by have h9:=hbare.2.2.1;unfold gY at h9;simp only[decide_eq_true_eq]at h9;omega
   cases P with
   | false =>
    refine fB aA ?_;refine oB ob 0 aK ?_;refine bA λc1402=>bA λc1403=>?_;refine bB λc1404=>aDL ?_;refine rO ?_
    exact⟨congrArg Value.bool (by first|(simp[*];done)|(simp only[cF];simp[*];done)|grind),o_ []⟩
   | true =>
    by_cases hd1401:1<=x.by_
    case neg =>
     refine fB aA ?_;refine oB ob 0 aK ?_;refine bA λc1453=>bA λc1454=>?_;refine bB λc1455=>aDK ?_;refine fB aA ?_;refine oB ob 0 aK ?_;refine bA λc1458=>rO ?_
     exact⟨congrArg Value.bool (by first|(simp[*];done)|(simp only[cF];simp[*];done)|grind),o_ []⟩
    by_cases hd1452:x.by_<=4
    case neg =>
     refine fB aA ?_;refine oB ob 0 aK ?_;refine bA λc1504=>bA λc1505=>?_;refine bB λc1506=>aDK ?_;refine fB aA ?_;refine oB ob 0 aK ?_;refine bB λc1509=>fB aA ?_;refine oB ob 0 aK ?_;refine bA λc1512=>rO ?_
     exact⟨congrArg Value.bool (by first|(simp[*];done)|(simp only[cF];simp[*];done)|grind),o_ []⟩
    refine fB aA ?_;refine oB ob 0 aK ?_;refine bA λc1554=>bA λc1555=>?_;refine bB λc1556=>aDK ?_;refine fB aA ?_;refine oB ob 0 aK ?_;refine bB λc1559=>fB aA ?_;refine oB ob 0 aK ?_;refine bB λc1562=>fB aA ?_;refine oB ob 0 aK ?_;refine aDN (dJ x.n _ bn) ?_;rintro _ h1552 ⟨rfl,oc⟩;have p1552:=oc.thenE (B:=h) zA;clear oc;cases hb1552:dB x.n with
    | false =>
     refine aDL (rO ?_)
     exact⟨congrArg Value.bool (by first|(simp[*];done)|(simp only[cF];simp[*];done)|grind),o_ []⟩
    | true =>
     refine aDK (fB aA ?_);refine oB p1552 0 aK ?_;refine aDN (dJ x.m _ bm) ?_;rintro _ h1652 ⟨rfl,oc⟩;have p1652:=oc.thenE (B:=h) zA;clear oc;refine rO ?_
     exact⟨congrArg Value.bool (by first|(simp[*];done)|(simp only[cF];simp[*];done)|grind),o_ []⟩
  rw[if_neg k3]
  by_cases k4:x.kind=4
  ·rw[if_pos k4]
   refine fB aA ?_;refine oB ob 0 aK ?_;refine bA λc1754=>bA λc1755=>?_;refine bA λc1756=>bB λc1757=>?_;refine fB aA ?_;refine oB ob 0 aC ?_;refine aDN (bY x.table _ btable) ?_;rintro _ h1752 ⟨rfl,oc⟩;have p1752:=oc.thenE (B:=h) zA;clear oc;cases hb1752:aZ x.table with
   | false =>
    refine aDL (rO ?_)
    exact⟨congrArg Value.bool (by first|(simp[*];done)|(simp only[cF];simp[*];done)|grind),o_ []⟩
   | true =>
    refine aDK (fB aA ?_);refine oB p1752 0 aK ?_;refine aDN (dJ x.n _ bn) ?_;rintro _ h1852 ⟨rfl,oc⟩;have p1852:=oc.thenE (B:=h) zA;clear oc;cases hb1852:dB x.n with
    | false =>
     refine aDL (rO ?_)
     exact⟨congrArg Value.bool (by first|(simp[*];done)|(simp only[cF];simp[*];done)|grind),o_ []⟩
    | true =>
     refine aDK (fB aA ?_);refine oB p1852 0 mC ?_;refine aDN (aCC x.terms _ _ (w3.ext (Own.ext (B:=h) zA)) lterms bterms) ?_;rintro _ h1952 ⟨rfl,oc⟩;have p1952:=oc.thenE (B:=h) zA;clear oc;refine rO ?_
     exact⟨congrArg Value.bool (by first|(simp[*];done)|(simp only[cF];simp[*];done)|grind),o_ []⟩
  rw[if_neg k4]
  by_cases k5:x.kind=5
  ·rw[if_pos k5]
   cases P with
   | false =>
    refine fB aA ?_;refine oB ob 0 aK ?_;refine bA λc2054=>bA λc2055=>?_;refine bA λc2056=>bA λc2057=>?_;refine bB λc2058=>aDL ?_;refine rO ?_
    exact⟨congrArg Value.bool (by first|(simp[*];done)|(simp only[cF];simp[*];done)|grind),o_ []⟩
   | true =>
    by_cases hd2053:1<=x.by_
    case neg =>
     refine fB aA ?_;refine oB ob 0 aK ?_;refine bA λc2105=>bA λc2106=>?_;refine bA λc2107=>bA λc2108=>?_;refine bB λc2109=>aDK ?_;refine fB aA ?_;refine oB ob 0 aK ?_;refine bA λc2112=>rO ?_
     exact⟨congrArg Value.bool (by first|(simp[*];done)|(simp only[cF];simp[*];done)|grind),o_ []⟩
    refine fB aA ?_;refine oB ob 0 aK ?_;refine bA λc2155=>bA λc2156=>?_;refine bA λc2157=>bA λc2158=>?_;refine bB λc2159=>aDK ?_;refine fB aA ?_;refine oB ob 0 aK ?_;refine bB λc2162=>fB aA ?_;refine oB ob 0 aK ?_;refine rO ?_
    exact⟨congrArg Value.bool (by first|(simp[*];done)|(simp only[cF];simp[*];done)|grind),o_ []⟩
  rw[if_neg k5]
  by_cases k6:x.kind=6
  ·rw[if_pos k6]
   refine fB aA ?_;refine oB ob 0 aK ?_;refine bA λc2205=>bA λc2206=>?_;refine bA λc2207=>bA λc2208=>?_;refine bA λc2209=>bB λc2210=>?_;refine fB aA ?_;refine oB ob 0 aC ?_;refine aDN (bY x.table _ btable) ?_;rintro _ h2203 ⟨rfl,oc⟩;have p2203:=oc.thenE (B:=h) zA;clear oc;cases hb2203:aZ x.table with
   | false =>
    refine aDL (rO ?_)
    exact⟨congrArg Value.bool (by first|(simp[*];done)|(simp only[cF];simp[*];done)|grind),o_ []⟩
   | true =>
    refine aDK (fB aA ?_);refine oB p2203 0 cS ?_;refine aDN (jX x.names _ _ (by have q:=w2.ext (Own.ext (B:=h) zA);rw[mK]at q;exact q.to1) lnames bnames) ?_;rintro _ h2303 ⟨rfl,oc⟩;have p2303:=oc.thenE (B:=h) zA;clear oc;cases hb2303:x.names.all aZ with
    | false =>
     refine aDL (rO ?_)
     exact⟨congrArg Value.bool (by first|(simp[*];done)|(simp only[cF];simp[*];done)|grind),o_ []⟩
    | true =>
     refine aDK (fB aA ?_);refine oB p2303 0 cS ?_;refine lB aB ?_;refine rO ?_
     exact⟨congrArg Value.bool (by first|(simp[*];done)|(simp only[cF];simp[*];done)|grind),o_ []⟩
  rw[if_neg k6]
  by_cases k7:x.kind=7
  ·rw[if_pos k7]
   cases P with
   | false =>
    refine fB aA ?_;refine oB ob 0 aK ?_;refine bA λc2455=>bA λc2456=>?_;refine bA λc2457=>bA λc2458=>?_;refine bA λc2459=>bA λc2460=>?_;refine bB λc2461=>aDL ?_;refine rO ?_
    exact⟨congrArg Value.bool (by first|(simp[*];done)|(simp only[cF];simp[*];done)|grind),o_ []⟩
   | true =>
    refine fB aA ?_;refine oB ob 0 aK ?_;refine bA λc2505=>bA λc2506=>?_;refine bA λc2507=>bA λc2508=>?_;refine bA λc2509=>bA λc2510=>?_;refine bB λc2511=>aDK ?_;refine fB aA ?_;refine oB ob 0 cS ?_;refine aDN (jX x.names _ _ (by have q:=w2.ext (Own.ext (B:=h) zA);rw[mK]at q;exact q.to1) lnames bnames) ?_;rintro _ h2503 ⟨rfl,oc⟩;have p2503:=oc.thenE (B:=h) zA;clear oc;cases hb2503:x.names.all aZ with
    | false =>
     refine aDL (rO ?_)
     exact⟨congrArg Value.bool (by first|(simp[*];done)|(simp only[cF];simp[*];done)|grind),o_ []⟩
    | true =>
     by_cases hd2554:0<x.names.length
     case neg =>
      refine aDK (fB aA ?_);refine oB p2503 0 cS ?_;refine lB aB ?_;refine bA λc2607=>rO ?_
      exact⟨congrArg Value.bool (by first|(simp[*];done)|(simp only[cF];simp[*];done)|grind),o_ []⟩
     refine aDK (fB aA ?_);refine oB p2503 0 cS ?_;refine lB aB ?_;refine bB λc2657=>fB aA ?_;refine oB p2503 0 lZ ?_;refine aDN (aCH x.fixed _ _ (w4.ext (Own.ext (B:=h) zA)) lfixed bfixed) ?_;rintro _ h2654 ⟨rfl,oc⟩;have p2654:=oc.thenE (B:=h) zA;clear oc;refine rO ?_
     exact⟨congrArg Value.bool (by first|(simp[*];done)|(simp only[cF];simp[*];done)|grind),o_ []⟩
  rw[if_neg k7]
  by_cases k8:x.kind=8
  ·rw[if_pos k8]
   cases P with
   | false =>
    refine fB aA ?_;refine oB ob 0 aK ?_;refine bA λc2756=>bA λc2757=>?_;refine bA λc2758=>bA λc2759=>?_;refine bA λc2760=>bA λc2761=>?_;refine bA λc2762=>bB λc2763=>?_;refine aDL (rO ?_)
    exact⟨congrArg Value.bool (by first|(simp[*];done)|(simp only[cF];simp[*];done)|grind),o_ []⟩
   | true =>
    refine fB aA ?_;refine oB ob 0 aK ?_;refine bA λc2806=>bA λc2807=>?_;refine bA λc2808=>bA λc2809=>?_;refine bA λc2810=>bA λc2811=>?_;refine bA λc2812=>bB λc2813=>?_;refine aDK (fB aA ?_);refine oB ob 0 aC ?_;refine aDN (bY x.other _ both) ?_;rintro _ h2804 ⟨rfl,oc⟩;have p2804:=oc.thenE (B:=h) zA;clear oc;cases hb2804:aZ x.other with
    | false =>
     refine aDL (rO ?_)
     exact⟨congrArg Value.bool (by first|(simp[*];done)|(simp only[cF];simp[*];done)|grind),o_ []⟩
    | true =>
     refine aDK (fB aA ?_);refine oB p2804 0 aC ?_;refine aDN (bY x.oattr _ boat) ?_;rintro _ h2904 ⟨rfl,oc⟩;have p2904:=oc.thenE (B:=h) zA;clear oc;refine rO ?_
     exact⟨congrArg Value.bool (by first|(simp[*];done)|(simp only[cF];simp[*];done)|grind),o_ []⟩
  rw[if_neg k8]
  by_cases k9:x.kind=9
  ·rw[if_pos k9]
   refine fB aA ?_;refine oB ob 0 aK ?_;refine bA λc3006=>bA λc3007=>?_;refine bA λc3008=>bA λc3009=>?_;refine bA λc3010=>bA λc3011=>?_;refine bA λc3012=>bA λc3013=>?_;refine bB λc3014=>fB aA ?_;refine oB ob 0 lK ?_;refine aDN (rvars9_spec x.vars _ _ (w5.ext (Own.ext (B:=h) zA)) lvars bvars) ?_;rintro _ h3004 ⟨rfl,oc⟩;have p3004:=oc.thenE (B:=h) zA;clear oc;cases hb3004:((x.vars.all λv=>(lI v).isSome)&&decide (0<x.vars.length)) with
   | false =>
    refine aDL (rO ?_)
    exact⟨congrArg Value.bool (by first|(simp[*];done)|(simp only[cF];simp[*];done)|grind),o_ []⟩
   | true =>
    refine aDK (fB aA ?_);refine oB p3004 0 kI ?_;refine aDN (vS x.conds _ _ (w6.ext (Own.ext (B:=h) zA)) lconds bconds) ?_;rintro _ h3104 ⟨rfl,oc⟩;have p3104:=oc.thenE (B:=h) zA;clear oc;refine rO ?_
    exact⟨congrArg Value.bool (by first|(simp[*];done)|(simp only[cF];simp[*];done)|grind),o_ []⟩
  rw[if_neg k9]
  refine fB aA ?_;refine oB ob 0 aK ?_;refine bA λc3206=>bA λc3207=>?_;refine bA λc3208=>bA λc3209=>?_;refine bA λc3210=>bA λc3211=>?_;refine bA λc3212=>bA λc3213=>?_;refine bA λc3214=>fB aA ?_;refine nB ob 0 aQ ?_;refine aDN (yN _ x.expr _ _ (aD6 _) bexpr (fT.ext (Own.ext (B:=h) zA) _ _ rx)) ?_;rintro _ h3204 ⟨rfl,oc⟩;have p3204:=oc.thenE (B:=h) zA;clear oc;refine rO ?_
  exact⟨congrArg Value.bool (by first|(simp[*];done)|(simp only[cF];simp[*];done)|grind),o_ []⟩
def Sp (o:Option (List Pc)):Prop:=∀ ps,o=some ps->∀ p∈ps,(gX p).length<=500
theorem qQ {l:List Pc}(h:∀ p∈l,(gX p).length<=500):Sp (some l):=λps e=>by cases e;exact h
theorem kR:Sp none:=λps e=>by cases e
theorem dT {p:Pc}(h:(gX p).length<=500):Sp (some [p]):=qQ λq hq=>by rw[aD5.1 hq];exact h
theorem eJ:Sp (some []):=qQ λ_ h=>by cases h
theorem bH {x:Option (List Pc)}{r:List (Option (List Pc))}(hx:Sp x)(hr:Sp (aO r)):Sp (aO (x::r)):=λps e=>by
 obtain⟨p,q,e1,e2,rfl⟩:=aN e
 intro y hy
 rcases aEH.1 hy with hy|hy
 ·exact hx p e1 y hy
 ·exact hr q e2 y hy
theorem eQ {p:Prop} [Decidable p] {x y:Option (List Pc)}(hx:Sp x)(hy:Sp y):Sp (if p then x else y):=by
 split
 ·exact hx
 ·exact hy
theorem wW {p:Pc}{o:Option (List Pc)}(hp:(gX p).length<=500)(h:Sp o):Sp (o.map (p::·)):=λps e=>by
 cases o with
 | none=>cases e
 | some q =>
  cases e
  intro y hy
  rcases aEd.1 hy with rfl|hy
  ·exact hp
  ·exact h q rfl y hy
theorem gD {b:aBs}(s:aBs)(hb:b.length<=100):Sp (bN b s):=λps e=>by
 obtain⟨hn,rfl⟩:=bQ e
 have:=bJ hn
 exact dT (by rw[dU,aDX];omega) _ rfl
theorem qR {b:aBs}(n:Int)(hb:b.length<=100):Sp (iU b n):=λps e=>by
 obtain⟨hn,rfl⟩:=iM e
 have:=bS hn
 exact dT (by rw[gT,aDX];omega) _ rfl
theorem vJ {ws:List aBs}(n:Int)(hw:∀ w∈ws,w.length<=100):Sp (hO n ws):=λps e=>by
 unfold hO at e;split at e
 ·rename_i hh
  cases e
  refine dT ?_ _ rfl
  rw[dU,aEi,aEN (show(n - 1).toNat<ws.length by omega)]
  have:=hw _ (List.getElem_mem (show(n - 1).toNat<ws.length by omega))
  simp only[Option.getD_some,aDX,aD1,aD2]
  omega
 ·cases e
theorem sp_op (n:Int):Sp (opQ n):=λps e=>by
 unfold opQ at e;split at e
 ·rename_i hh
  cases e
  have:n=1∨n=2∨n=3∨n=4:=by omega
  rcases this with rfl|rfl|rfl|rfl<;>exact dT zD _ rfl
 ·cases e
theorem qB {α:Type}{one:α->Option (List Pc)}:∀ {l:List α},(∀ x∈l,Sp (one x))->Sp (aO (l.map one))
 | [],_=>eJ
 | x::r,h=>bH (h x zS) (qB λy hy=>h y (by simp[hy]))
theorem sp_list {α:Type}{one:aBs->α->Option (List Pc)}{b:aBs}{l:List α}(hb:b.length<=100)(h:∀ x∈l,∀ b:aBs,b.length<=100->Sp (one b x)):Sp (jA one b l):=by
 cases l with
 | nil=>exact eJ
 | cons x r=>exact bH (h x zS b hb) (qB λy hy=>wW zD (h y (by simp[hy]) _ zD))
theorem wX {α:Type}{one:aBs->α->Option (List Pc)}{b:aBs}{l:List α}(hb:b.length<=100)(h:∀ x∈l,∀ b:aBs,b.length<=100->Sp (one b x)):Sp (eO one b l):=by
 cases l with
 | nil=>exact kR
 | cons x r=>exact sp_list hb h
theorem aAs (v:Vl):Sp (cD v):=λps e=>by
 unfold cD at e;split at e
 ·split at e
  ·cases e;exact dT zD _ rfl
  ·cases e
 split at e
 ·split at e
  ·rename_i hh
   cases e
   have:=aAb v.t
   exact dT (by rw[pcT_txt];simp only[aDX,aD1,aD2];omega) _ rfl
  ·cases e
 split at e
 ·split at e
  ·rename_i hh
   cases e
   split
   ·have:=bS (n:=-v.n) (decide_eq_true zO)
    exact qQ (λp hp=>by
     rcases aEd.1 hp with rfl|hp
     ·decide
     ·rw[aD5.1 hp,gT];simp only[lnA];omega) _ rfl
   ·have:=bS (n:=v.n) (decide_eq_true zO)
    exact dT (by rw[gT];simp only[aDX,aD1,aD2];omega) _ rfl
  ·cases e
 split at e
 ·split at e
  ·rename_i hh
   cases e
   have:=bS hh.2
   exact qQ (λp hp=>by
    rcases aEd.1 hp with rfl|hp
    ·decide
    ·rw[aD5.1 hp,gT];simp only[lnA];omega) _ rfl
  ·cases e
 split at e
 ·split at e
  ·cases e
   refine dT ?_ _ rfl;split<;>decide
  ·cases e
 ·cases e
theorem sF (t a:aBs):Sp (fM t a):=bH (gD _ zD) (bH (dT zD) (bH (gD _ zD) eJ))
theorem sp_side (x:Opd):Sp (iA x):=eQ (eQ (aAs _) kR) (eQ kR (eQ (eQ kR (gD _ zD)) (eQ kR (sF _ _))))
theorem sp_add (n:Int):Sp (rW n):=by
 unfold rW;split
 ·exact kR
 rename_i hn
 have hn:=Classical.not_not.1 hn;have key:∀ s:Pc,(gX s).length<=500->∀ m:Int,0<=m->m<=9999999999->Sp (some [s,cI [32] m]):=λs hs m h0 h1=>by
  have:=bS (n:=m) (decide_eq_true ⟨h0,h1⟩)
  exact qQ λp hp=>by
   rcases aEd.1 hp with rfl|hp
   ·exact hs
   ·rw[aD5.1 hp,gT];simp only[aDX,aD1,aD2];omega
 split
 ·exact key _ zD _ zO zO
 ·split
  ·exact key _ zD _ zO zO
  ·exact eJ
theorem sp_cond (x:Cnd):Sp (kP x):=bH (sp_side _) (bH (sp_op _) (bH (sp_side _) (bH (sp_add _) eJ)))
theorem sp_conds (l:List Cnd):Sp (lW l):=by
 cases l with
 | nil=>exact kR
 | cons x r=>exact bH (dT zD) (bH (sp_cond x) (qB λy _=>wW zD (sp_cond y)))
theorem sp_names {b:aBs}(l:List aBs)(hb:b.length<=100):Sp (jA bN b l):=sp_list hb λx _ b hb=>gD x hb
theorem uP {b:aBs}(l:List aBs)(hb:b.length<=100):Sp (eO bN b l):=wX hb λx _ b hb=>gD x hb
theorem sp_rest (k:Int)(cs:List Cnd)(ns:List aBs)(a s:aBs)(g:Int):Sp (eW k cs ns a s g) :=
 eQ (sp_conds _) (eQ (bH (dT zD) (bH (sp_names _ zD) eJ)) (eQ (bH (dT zD) (bH (gD _ zD) (bH (dT zD) (bH (gD _ zD) eJ))))
  (eQ (eQ (bH (dT zD) (bH (sp_names _ zD) (bH (dT zD) (bH (vJ _ zD) (bH (eQ (eQ eJ kR) (gD _ zD)) (bH (dT zD) (bH (gD _ zD) eJ))))))) kR) eJ)))
theorem sp_opName (k:Int):(dV.getD (k - 2).toNat []).length<=100:=by
 rw[aEi]
 rcases Nat.lt_or_ge (k - 2).toNat dV.length with h|h
 ·rw[aEN h]
  have:∀ w∈dV,w.length<=100:=by decide
  exact this _ (List.getElem_mem h)
 ·rw[aEA h]
  simp
mutual
theorem sp_ex:∀(x:Ex)(b:aBs),b.length<=100->Sp (gP b x)
 | .mk k tb ks cs ns a s g o,b,hb=>by
  rw[gP]
  refine eQ (eQ (gD _ hb) (bH (qQ λp hp=>?_) (bH (sp_kids ks [] zD) (bH (sp_rest _ _ _ _ _ _) (bH (dT zD) eJ))))) kR
  rcases aEd.1 hp with rfl|hp
  ·have:=sp_opName k
   rw[dU,aDX]
   omega
  ·rw[aD5.1 hp]
   decide
theorem sp_kids:∀(l:List Ex)(b:aBs),b.length<=100->Sp (jH b l)
 | [],b,hb=>by rw[jH];exact eJ
 | x::r,b,hb=>λps e=>by
  rw[jH]at e
  split at e
  ·rename_i p q e1 e2
   cases e
   intro y hy
   rcases aEH.1 hy with hy|hy
   ·rcases aEH.1 hy with hy|hy
    ·exact sp_ex x b hb p e1 y hy
    ·split at hy
     ·cases hy
     ·rw[aD5.1 hy]
      decide
   ·exact sp_kids r [32] zD q e2 y hy
  ·cases e
end
theorem sp_col (c:Col) {b:aBs}(hb:b.length<=100):Sp (iP b c):=bH (gD _ hb) (bH (vJ _ zD) (bH (eQ eJ (wW zD (aAs _))) eJ))
theorem sp_term (t:Trm):Sp (bM t):=bH (gD _ zD) (bH (vJ _ zD) (bH (eQ (qR _ zD) (eQ eJ kR)) (bH (dT zD) (bH (qR _ zD) (bH (eQ eJ (wW zD (qR _ zD)))
 (bH (dT zD) (bH (qR _ zD) (bH (eQ eJ (wW zD (qR _ zD))) (bH (dT zD) eJ)))))))))
theorem sp_fix (f:Nmd):Sp (pW f):=bH (gD _ zD) (bH (dT zD) (bH (aAs _) eJ))
theorem sp_fixed (l:List Nmd):Sp (xU l):=by
 cases l with
 | nil=>exact eJ
 | cons x r=>exact bH (dT zD) (bH (sp_fix x) (qB λy _=>wW zD (sp_fix y)))
theorem sp_var (v:Vr):Sp (lI v):=bH (gD _ zD) (bH (gD _ zD) eJ)
theorem sp_app {a b:List (Option (List Pc))}(ha:Sp (aO a))(hb:Sp (aO b)):Sp (aO (a++b)):=λps e=>by
 rw[gM]at e
 split at e
 ·rename_i p q e1 e2
  cases e
  intro y hy
  rcases aEH.1 hy with hy|hy
  ·exact ha p e1 y hy
  ·exact hb q e2 y hy
 ·cases e
theorem sp_two {p q:Pc}(h:(gX p).length<=500)(h2:(gX q).length<=500):Sp (some [p,q]):=qQ λy hy=>by
 rcases aEd.1 hy with rfl|hy
 ·exact h
 ·rw[aD5.1 hy];exact h2
theorem sp_part (x:It):Sp (eP x):=by
 unfold eP;refine eQ ?_ (eQ ?_ (eQ ?_ (eQ ?_ (eQ ?_ (eQ ?_ (eQ ?_ (eQ ?_ (eQ ?_ ?_))))))))
 ·exact bH (dT zD) (bH (wX zD λc _ b hb=>sp_col c hb) (bH (sp_two zD zD) (bH (uP _ zD) eJ)))
 ·exact bH (dT zD) (bH (qR _ zD) eJ)
 ·exact bH (dT zD) (bH (sF _ _) (bH (dT zD) (bH (vJ _ zD) (bH (eQ (qR _ zD) eJ) (bH (eQ (qR _ zD) eJ) eJ)))))
 ·exact sp_app (bH (dT zD) (bH (gD _ zD) (bH (dT zD) (bH (qR _ zD) (bH (dT zD) eJ))))) (qB λt _=>sp_term t)
 ·exact bH (sF _ _) (bH (dT zD) (bH (vJ _ zD) eJ))
 ·exact bH (dT zD) (bH (gD _ zD) (bH (dT zD) (bH (uP _ zD) (bH (dT zD) eJ))))
 ·exact bH (dT zD) (bH (gD _ zD) (bH (dT zD) (bH (uP _ zD) (bH (sp_two zD zD) (bH (gD _ zD) (bH (sp_fixed _) eJ))))))
 ·exact bH (sF _ _) (bH (dT zD) (bH (sF _ _) eJ))
 ·exact bH (wX zD λv _ _ _=>sp_var v) (bH (sp_conds _) eJ)
 ·exact bH (dT zD) (bH (sp_ex _ _ zD) eJ)
theorem sp_itWord (k:Int):(cU.getD (k - 1).toNat []).length<=100:=by
 rw[aEi]
 rcases Nat.lt_or_ge (k - 1).toNat cU.length with h|h
 ·rw[aEN h]
  have:∀ w∈cU,w.length<=100:=by decide
  exact this _ (List.getElem_mem h)
 ·rw[aEA h]
  simp
theorem sp_item (x:It):Sp (iB x):=by
 have:=sp_itWord x.kind
 refine eQ (bH (dT (by rw[dU,aDX];simp only[aD2];omega)) (bH (eQ eJ (gD _ zD)) (bH (sp_part x) (bH (dT ?_) eJ)))) kR;split<;>decide
theorem uY:∀(ps:List Pc),(∀ p∈ps,(gX p).length<=500)->(txts ps).flatten.length<=500*ps.length
 | [],_=>by simp[txts]
 | p::r,h=>by
  have h1:=h p zS;have h2:=uY r λq hq=>h q (by simp[hq])
  rw[cN,aEz,aDX,aD1]
  omega
theorem aAz (x:It)(c:aVs)(h:Heap)(ps:List Pc)(hc:nP h c x)(hOK:fO x)(hz:dF x<=50000000)(hq:iB x=some ps) :
  bG Tryz.prog 24 [.agg ⟨c⟩] h (iR h (txts ps)):=by
 unfold iB at hq;split at hq
 case isFalse=>cases hq
 rename_i hcond
 obtain⟨h1,h10,_⟩:=hcond
 obtain⟨p1,q1,e1,g1,rfl⟩:=aN hq
 obtain⟨p2,q2,e2,g2,rfl⟩:=aN g1
 obtain⟨pp,q3,e3,g3,rfl⟩:=aN g2
 obtain⟨p4,q4,e4,g4,rfl⟩:=aN g3
 obtain rfl:=dL g4;cases e1;cases e4;have hk:x.kind=1∨x.kind=2∨x.kind=3∨x.kind=4∨x.kind=5∨x.kind=6∨x.kind=7∨x.kind=8∨x.kind=9∨x.kind=10:=by omega
 rcases hk with hk|hk|hk|hk|hk|hk|hk|hk|hk|hk
 ·rw[if_neg (show ¬ x.kind=5 by omega)]at e2
  obtain⟨hn,rfl⟩:=bQ e2
  have e:txts ([aG [] (cU.getD (x.kind - 1).toNat [])]++([aG [32] x.name]++(pp++([if x.kind=4 then aS [10] [125] else aS [] [59]]++[]))))=[116,97,98,108,101]::(32::x.name)::(txts pp++[[59]]):=by rw[hk,if_neg (show ¬ (1:Int)=4 by decide)];simp[cM,cN,cW,dU,eT,cU]
  rw[e]
  exact rline1_spec x c h pp hk hc hOK hz e3 (bJ hn)
 ·rw[if_neg (show ¬ x.kind=5 by omega)]at e2
  obtain⟨hn,rfl⟩:=bQ e2
  have e:txts ([aG [] (cU.getD (x.kind - 1).toNat [])]++([aG [32] x.name]++(pp++([if x.kind=4 then aS [10] [125] else aS [] [59]]++[]))))=[115,111,117,114,99,101]::(32::x.name)::(txts pp++[[59]]):=by rw[hk,if_neg (show ¬ (2:Int)=4 by decide)];simp[cM,cN,cW,dU,eT,cU]
  rw[e]
  exact rline2_spec x c h pp hk hc hOK hz e3 (bJ hn)
 ·rw[if_neg (show ¬ x.kind=5 by omega)]at e2
  obtain⟨hn,rfl⟩:=bQ e2
  have e:txts ([aG [] (cU.getD (x.kind - 1).toNat [])]++([aG [32] x.name]++(pp++([if x.kind=4 then aS [10] [125] else aS [] [59]]++[]))))=[98,108,111,99,107]::(32::x.name)::(txts pp++[[59]]):=by rw[hk,if_neg (show ¬ (3:Int)=4 by decide)];simp[cM,cN,cW,dU,eT,cU]
  rw[e]
  exact rline3_spec x c h pp hk hc hOK hz e3 (bJ hn)
 ·rw[if_neg (show ¬ x.kind=5 by omega)]at e2
  obtain⟨hn,rfl⟩:=bQ e2
  have e:txts ([aG [] (cU.getD (x.kind - 1).toNat [])]++([aG [32] x.name]++(pp++([if x.kind=4 then aS [10] [125] else aS [] [59]]++[]))))=[109,97,116,99,104]::(32::x.name)::(txts pp++[[10,125]]):=by rw[hk,if_pos rfl];simp[cM,cN,cW,dU,eT,cU]
  rw[e]
  exact rline4_spec x c h pp hk hc hOK hz e3 (bJ hn)
 ·rw[if_pos hk]at e2
  cases e2
  have e:txts ([aG [] (cU.getD (x.kind - 1).toNat [])]++([]++(pp++([if x.kind=4 then aS [10] [125] else aS [] [59]]++[]))))=[107,101,101,112]::(txts pp++[[59]]):=by rw[hk,if_neg (show ¬ (5:Int)=4 by decide)];simp[cM,cN,cW,dU,eT,cU]
  rw[e]
  exact rline5_spec x c h pp hk hc hOK hz e3
 ·rw[if_neg (show ¬ x.kind=5 by omega)]at e2
  obtain⟨hn,rfl⟩:=bQ e2
  have e:txts ([aG [] (cU.getD (x.kind - 1).toNat [])]++([aG [32] x.name]++(pp++([if x.kind=4 then aS [10] [125] else aS [] [59]]++[]))))=[117,110,105,113,117,101]::(32::x.name)::(txts pp++[[59]]):=by rw[hk,if_neg (show ¬ (6:Int)=4 by decide)];simp[cM,cN,cW,dU,eT,cU]
  rw[e]
  exact rline6_spec x c h pp hk hc hOK hz e3 (bJ hn)
 ·rw[if_neg (show ¬ x.kind=5 by omega)]at e2
  obtain⟨hn,rfl⟩:=bQ e2
  have e:txts ([aG [] (cU.getD (x.kind - 1).toNat [])]++([aG [32] x.name]++(pp++([if x.kind=4 then aS [10] [125] else aS [] [59]]++[]))))=[100,101,112,101,110,100]::(32::x.name)::(txts pp++[[59]]):=by rw[hk,if_neg (show ¬ (7:Int)=4 by decide)];simp[cM,cN,cW,dU,eT,cU]
  rw[e]
  exact rline7_spec x c h pp hk hc hOK hz e3 (bJ hn)
 ·rw[if_neg (show ¬ x.kind=5 by omega)]at e2
  obtain⟨hn,rfl⟩:=bQ e2
  have e:txts ([aG [] (cU.getD (x.kind - 1).toNat [])]++([aG [32] x.name]++(pp++([if x.kind=4 then aS [10] [125] else aS [] [59]]++[]))))=[105,110,99,108,117,100,101]::(32::x.name)::(txts pp++[[59]]):=by rw[hk,if_neg (show ¬ (8:Int)=4 by decide)];simp[cM,cN,cW,dU,eT,cU]
  rw[e]
  exact rline8_spec x c h pp hk hc hOK hz e3 (bJ hn)
 ·rw[if_neg (show ¬ x.kind=5 by omega)]at e2
  obtain⟨hn,rfl⟩:=bQ e2
  have e:txts ([aG [] (cU.getD (x.kind - 1).toNat [])]++([aG [32] x.name]++(pp++([if x.kind=4 then aS [10] [125] else aS [] [59]]++[]))))=[100,101,110,121]::(32::x.name)::(txts pp++[[59]]):=by rw[hk,if_neg (show ¬ (9:Int)=4 by decide)];simp[cM,cN,cW,dU,eT,cU]
  rw[e]
  exact rline9_spec x c h pp hk hc hOK hz e3 (bJ hn)
 ·rw[if_neg (show ¬ x.kind=5 by omega)]at e2
  obtain⟨hn,rfl⟩:=bQ e2
  have e:txts ([aG [] (cU.getD (x.kind - 1).toNat [])]++([aG [32] x.name]++(pp++([if x.kind=4 then aS [10] [125] else aS [] [59]]++[]))))=[113,117,101,114,121]::(32::x.name)::(txts pp++[[59]]):=by rw[hk,if_neg (show ¬ (10:Int)=4 by decide)];simp[cM,cN,cW,dU,eT,cU]
  rw[e]
  exact aCG x c h pp hk hc hOK hz e3 (bJ hn)
theorem zQ (xs:List It)(va:Value)(h:Heap)(hOK:∀ x∈xs,fO x)(hl:xs.length<=1000000000000000)(hP:qH h va xs) :
  bG Tryz.prog 22 [.agg ⟨[va]⟩] h λr h'=>r=.bool (iO xs).isSome/\Own h [] h':=by
 rw[some_items]
 obtain⟨ca,q1,q2,q3⟩:=hP
 obtain⟨ya,yc,rfl⟩:=q1.isS
 refine eN Tryz.func22 Tryz.ntmps22 ?_;have o0:=Own.refl h;refine xB o0 λb10 m10 o10=>?_;refine aDT [2,3,4,5,6,7,8,9,10,11,12,13,14,15,16,17] [3] (λvs hh=>∃(i:Nat),i<=xs.length/\vs=[.int .i64 i]/\(∀(j:Nat) (x:It),j<i->xs[j]?=some x->(iB x).isSome=true)/\Own h [box b10 [.slice ya xs.length yc] 24] hh) (λvs _=>match vs with|[.int _ i]=>xs.length - i.toNat|_=>0) ?_ ?_
 ·exact⟨0,by omega,rfl,λj x hj=>by omega,o10⟩
 rintro vs junk hh ⟨i,hi,rfl,hpre,oh⟩;clear o10;by_cases hlt:i<xs.length
 ·obtain⟨x,hx⟩:=getx hlt
  obtain⟨cx,hcx,hrx⟩:=q3 i x hx
  have hxOK:=hOK x (aDY hx);refine fB mD ?_;refine oB oh 0 nQ ?_;refine lB mW ?_;refine bB λc103=>fB mD ?_;refine oB oh 0 nQ ?_;refine rR (aDe mW bU (q1.ext oh.ext) rfl zO zO ?_);refine rR (aDg bU (q1.ext oh.ext) (λy:kB=>y.2) zD rfl zA ?_);refine aDN (ritem9_spec x cx.1 _ hxOK (hrx.ext (Own.ext (B:=h) zA))) ?_;rintro _ h3 ⟨rfl,oc⟩;have o3:=oc.thenE (B:=h) zA;clear oc;cases hb:(iB x).isSome with
  | true =>
   refine aDL (aR ?_)
   refine⟨rfl,?_⟩
   exact⟨⟨i+1,by omega,rfl,lF (p:=λx=>(iB x).isSome) hpre hx hb,o_ [0]⟩,by simp;omega⟩
  | false =>
   have hno:(xs.all λx=>(iB x).isSome)=false:=rM (p:=λx=>(iB x).isSome) hx hb;refine aDK (rO ?_)
   exact⟨congrArg Value.bool hno.symm,o_ []⟩
 ·have hall:(xs.all λx=>(iB x).isSome)=true:=oZ (p:=λx=>(iB x).isSome) zO hpre
  refine fB mD ?_;refine oB oh 0 nQ ?_;refine lB mW ?_;refine bA λc403=>rO ?_
  exact⟨congrArg Value.bool hall.symm,o_ []⟩
theorem items_get {xs:List It}{ls:List (List Pc)}(h:iO xs=some ls):ls.length=xs.length/\∀(i:Nat)(x:It),xs[i]?=some x->∃ p,ls[i]?=some p/\iB x=some p:=aB3 h
theorem textQ_take {ls:List (List Pc)}{i:Nat}{p:List Pc}(h:ls[i]?=some p):kC (ls.take (i+1))=kC (ls.take i)++((txts p).flatten++[10]):=by
 rw[aEr,h,txts_flat]
 simp[kC,kD]
theorem countQ_take {ls:List (List Pc)}{i:Nat}{p:List Pc}(h:ls[i]?=some p):kH (ls.take (i+1))=kH (ls.take i)+p.length:=by
 rw[aEr,h]
 simp[kH]
theorem textQ_le (ls:List (List Pc))(i:Nat):(kC (ls.take i)).length<=(kC ls).length:=by
 conv=>rhs;rw[← aEw i ls]
 unfold kC
 rw[aEy,aDX]
 omega
theorem wE {l:List aBs}{k:Nat}{t:aBs}(h:l[k]?=some t):(l.take (k+1)).flatten=(l.take k).flatten++t:=by
 rw[aEr,h]
 simp
theorem mZ {xs:List It}{ls:List (List Pc)}(h:iO xs=some ls)(hn:¬ (xs.all jI=true/\xs.length<=200/\kH ls<=5000/\(kC ls).length<=20000)):gR xs=([],3):=by
 unfold gR
 rw[h]
 exact if_neg hn
theorem not_fits {xs:List It}{i:Nat}{x:It}(hx:xs[i]?=some x)(hf:jI x=false):¬ xs.all jI=true:=λh=>by
 have:=aD4.1 h x (aDY hx)
 rw[hf]at this
 cases this
theorem aCE (xs:List It)(va:Value)(h:Heap)(hP:qH h va xs)(hOK:∀ x∈xs,fO x)(hsz:∀ x∈xs,dF x<=50000000)(hn:xs.length<=210) :
  bG Tryz.prog 12 [.agg ⟨[va]⟩] h λr h'=>r=.tuple ⟨[sv ((gR xs).1),iv (gR xs).2]⟩/\Own h [] h':=by
 have hP0:=hP
 obtain⟨ca,q1,q2,q3⟩:=hP
 obtain⟨ya,yc,rfl⟩:=q1.isS
 refine eN Tryz.func12 Tryz.ntmps12 ?_;have o0:=Own.refl h;refine xB o0 λb10 m10 o10=>?_;refine nB o10 0 uD ?_;refine aDN (zQ xs _ _ hOK zO (hP0.ext (Own.ext (B:=h) zA))) ?_;rintro _ h2 ⟨rfl,oc⟩;have ob:=oc.thenE (B:=h) zA;clear oc;cases hq:iO xs with
 | none =>
  have hpr:gR xs=([],1):=by unfold gR;rw[hq]
  refine aDK (RetVC.two rfl ?_)
  exact⟨by rw[hpr],o_ []⟩
 | some ls =>
 obtain⟨hll,hget⟩:=items_get hq
 by_cases hn2:xs.length<=200
 case neg =>
  have hpr:=mZ hq (λhh=>hn2 hh.2.1);refine Br.ffE (by first|omega|(simp;done)) ?_;refine fB mD ?_;refine oB ob 0 nQ ?_;refine lB mW ?_;refine bB λc104=>RetVC.two rfl ?_
  exact⟨by rw[hpr],o_ []⟩
 refine Br.ffE (by first|omega|(simp;done)) ?_;refine fB mD ?_;refine oB ob 0 nQ ?_;refine lB mW ?_;refine bA λc154=>?_;have ob2:Own h [box b10 [.slice ya xs.length yc] 24] h2:=o_ [0];clear ob;refine aDT [2,3,4,5,6,7,8,9,17,18,19,20,21,22,23,24,25,26,27,28,29,30,31,32,33,34,35,36,37,38,39,40,41,42,43,44,45,46,47,48,49,50,51,52,53,54,55,56,57,58,59,60] [4,5,6] (λvs hh=>∃(i:Nat),i<=xs.length/\vs=[.string ⟨⟨kC (ls.take i)⟩⟩,.int .i64 (kH (ls.take i):Nat),.int .i64 i]/\(∀(j:Nat) (x:It),j<i->xs[j]?=some x->jI x=true)/\(kC (ls.take i)).length<=20000/\kH (ls.take i)<=1000000000*i/\Own h [box b10 [.slice ya xs.length yc] 24] hh) (λvs _=>match vs with|[_,_,.int _ i]=>xs.length - i.toNat|_=>0) ?_ ?_
 ·exact⟨0,by omega,rfl,λj x hj=>by omega,by simp[kC],by simp[kH],ob2⟩
 rintro vs junk hh ⟨i,hi,rfl,hpre,htl,hcl,oh⟩;clear ob2;by_cases hlt:i<xs.length
 ·obtain⟨x,hx⟩:=getx hlt
  obtain⟨p,hp,hip⟩:=hget i x hx
  obtain⟨cx,hcx,hrx⟩:=q3 i x hx
  have hxOK:=hOK x (aDY hx);have hxs:=hsz x (aDY hx);have hbx:gK x.expr:=hxOK.2.2.2.2.2.2.2.2.2.2.2.2.2.2.2.1;have hpn:=ln_item x p hip;have hpt:=fZ p;have hps:=sp_item x p hip;have hte:=textQ_take hp;have hce:=countQ_take hp;have hle1:=textQ_le ls (i+1);have hlev:=aBc x.expr;have hdep:=aCh x.expr;have hszx:fD x.expr<=dF x:=by unfold dF;omega
  generalize hTN2:kC (ls.take (i+1))=TN at hte hle1
  generalize hCN2:kH (ls.take (i+1))=CN at hce
  generalize hT:kC (ls.take i)=T at htl hte ⊢
  generalize hC:kH (ls.take i)=C at hcl hce ⊢
  have hrx2:=hrx
  obtain⟨cxv,hxl⟩:=cx
  obtain⟨z,vc,vn,vt,vf,vv,vd,e0,e1,e2,e3,e4,e5,e6,e7,e8,hcv,w1,w2,w3,w4,w5,w6,rx⟩:=hrx2
  dsimp only at hcv hrx;subst hcv
  obtain⟨i1,j1,rfl⟩:=w1.isS
  obtain⟨i2,j2,rfl⟩:=w2.isS
  obtain⟨i3,j3,rfl⟩:=w3.isS
  obtain⟨i4,j4,rfl⟩:=w4.isS
  obtain⟨i5,j5,rfl⟩:=w5.isS
  obtain⟨i6,j6,rfl⟩:=w6.isS
  unfold eD at hcx hrx hxl;clear w1 w2 w3 w4 w5 w6;cases hex:x.expr with
  | mk xk xt xks xcs xns xa xs_ xg xo =>
  have rx0:=rx
  rw[hex]at rx0 hbx hlev hdep hszx
  rw[hex,fT]at rx
  obtain⟨wk,wc,wn,wz,hcv,g1,g2,gx,g3,g4⟩:=rx
  obtain⟨h1,h2',rfl⟩:=g1.isS
  obtain⟨h3,h4,rfl⟩:=g2.isS
  obtain⟨h5,h6,rfl⟩:=g3.isS
  unfold kG at hcv
  simp only[List.cons.injEq,and_true]at hcv
  obtain⟨rfl,rfl,rfl,rfl,rfl,rfl,rfl,rfl,rfl⟩:=hcv
  clear g1 g2 g3 g4;by_cases hk:x.kind=10
  ·skip
   refine fB mD ?_;refine oB oh 0 nQ ?_;refine lB mW ?_;refine bB λc10003=>fB mD ?_;refine oB oh 0 nQ ?_;refine rR (aDe mW bU (q1.ext oh.ext) rfl zO zO ?_);refine rR (aDg bU (q1.ext oh.ext) (λy:kB=>y.2) zD rfl zA ?_);refine aDH oh bU λb10008 m10008 o10008=>?_;refine RunVC.storeAll (vs:=[iv x.kind,sv x.name,iv z,sv x.table,sv x.attr,.slice i1 x.cols.length j1,.slice i2 x.names.length j2,iv x.by_,iv x.n,iv x.m,.slice i3 x.terms.length j3,sv x.other,sv x.oattr,.slice i4 x.fixed.length j4,.slice i5 x.vars.length j5,.slice i6 x.conds.length j6,iv xk,sv xt,.slice h5 xks.length h6,.slice h1 xcs.length h2',.slice h3 xns.length h4,sv xa,sv xs_,iv xg,iv wz]) o10008 1 rfl bU rfl rfl rfl rfl rfl ?_;intro m10009 o10009;have os:Own h [box b10 [.slice ya xs.length yc] 24,box b10008 [iv x.kind,sv x.name,iv z,sv x.table,sv x.attr,.slice i1 x.cols.length j1,.slice i2 x.names.length j2,iv x.by_,iv x.n,iv x.m,.slice i3 x.terms.length j3,sv x.other,sv x.oattr,.slice i4 x.fixed.length j4,.slice i5 x.vars.length j5,.slice i6 x.conds.length j6,iv xk,sv xt,.slice h5 xks.length h6,.slice h1 xcs.length h2',.slice h3 xns.length h4,sv xa,sv xs_,iv xg,iv wz] 44] m10009:=o10009;clear o10008 o10009 oh;refine fB aA ?_;refine oB os 1 aK ?_;refine bB λc10052=>?_
   refine fB aA ?_;refine nB os 1 aQ ?_;refine aDN (zK _ (.mk xk xt xks xcs xns xa xs_ xg xo) _ _ (aD6 _) zO hbx (fT.ext (Own.ext (B:=h) zA) _ _ rx0)) ?_;rintro _ h3' ⟨rfl,oc⟩;have os2:=oc.thenE os;clear oc os;have os:=os2;clear os2;by_cases hd:eL (.mk xk xt xks xcs xns xa xs_ xg xo)<=12
   case neg =>
    have hpr:=mZ hq (λhh=>not_fits hx (show jI x=false from decide_eq_false (λhh=>hd (by have:=hh hk;rw[hex]at this;omega))) hh.1);refine bB λc10100=>RetVC.two rfl ?_
    exact⟨by rw[hpr],o_ []⟩
   have hfx:jI x=true:=decide_eq_true (λ_=>by rw[hex];omega);refine bA λc10150=>nB os 1 bU ?_;refine aDN (aAz x _ _ p (hrx.ext (Own.ext (B:=h) zA)) hxOK hxs hip) λr h4' hr=>?_
   obtain⟨aL,cL,rfl,oL⟩:=hr.upK (os.sel [0] rfl)
   have oL:Own h [box b10 [.slice ya xs.length yc] 24,row (.slice aL (txts p).length cL) 9 1 (txts p).length (strs (txts p))] h4':=oL;clear hr os;refine lB aB ?_;refine aR ?_;refine aDT [4,9,44,45,46,47,48,49,50,51,52,53,54,55] [4,9] (λus h'=>∃(k:Nat),k<=(txts p).length/\us=[.string ⟨⟨T++((txts p).take k).flatten⟩⟩,.int .i64 k]/\((txts p).take k).flatten.length<=500*k/\Own h [box b10 [.slice ya xs.length yc] 24,row (.slice aL (txts p).length cL) 9 1 (txts p).length (strs (txts p))] h') (λus _=>match us with|[_,.int _ k]=>(txts p).length - k.toNat|_=>0) ?_ ?_
   ·exact⟨0,by omega,by rw[aES,aEF,aD7];rfl,by simp,oL⟩
   ·rintro us junk2 h5' ⟨k,hk2,rfl,hfl,ok⟩
    clear oL;by_cases hkl:k<(txts p).length
    ·obtain⟨t,ht⟩:=getx hkl
     have htx:(strs (txts p))[k]?=some (sv t):=by simp[strs,ht]
     have htl2:t.length<=500:=by
      obtain⟨pc,hpc,rfl⟩:=aEL.1 (aDY ht)
      exact hps pc hpc
     have hft:=wE ht;have hlenA:(T++((txts p).take k).flatten).length<=20000+500*k:=by rw[aDX];omega
     refine lB aB ?_;refine bB λc10251=>?_;refine rR (idx aB aC (ok.rowArr 1 rfl) rfl zO (by first|omega|(simp<;>omega)) ?_);refine rR (aDq (ok.rowArr 1 rfl) aC rfl a_ ?_);refine rR (aDb rfl rfl (by first|omega|(simp<;>omega)) ?_);refine aR ?_
     refine⟨rfl,?_⟩
     refine⟨⟨k+1,by omega,by rw[hft,← aEb];rfl,by rw[hft,aDX];omega,o_ [0,1]⟩,by simp;omega⟩
    ·have ek:(txts p).take k=txts p:=aEa zO
     rw[ek]at hfl ⊢
     have hTN:TN.length=T.length+(txts p).flatten.length+1:=by rw[hte];simp only[aDX,aD1,aD2];omega
     have hlenB:(T++(txts p).flatten).length<=20000+500*(txts p).length:=by rw[aDX];have:=uY p hps;omega
     have hTNe:T++(txts p).flatten++[10]=TN:=by rw[hte,aEb]
     have hlen3:((T++(txts p).flatten)++[10]).length=TN.length:=by rw[hTNe]
     generalize T++(txts p).flatten=T2 at hlenB hTNe hlen3 ⊢
     by_cases hlong:TN.length<=20000
     case neg =>
      have hpr:=mZ hq (λhh=>hlong zO);refine lB aB ?_;refine bA λc10301=>?_;refine rR (aDb rfl rfl (by first|omega|(simp<;>omega)) ?_);refine rR (aDn rfl cE ?_);refine bB λc10304=>RetVC.two rfl ?_
      exact⟨by rw[hpr],o_ []⟩
     refine lB aB ?_;refine bA λc10401=>?_;refine rR (aDb rfl rfl (by first|omega|(simp<;>omega)) ?_);refine rR (aDn rfl cE ?_);refine bA λc10404=>aR ?_
     refine⟨rfl,?_⟩
     refine⟨⟨i+1,by omega,?_,?_,?_,?_,o_ [0]⟩,by simp;omega⟩
     ·rw[hTN2,hCN2,← hTNe,hce,← hpt]
      rfl
     ·intro j y hj hy
      by_cases e:j=i
      ·subst e
       rw[hx]at hy
       cases hy
       exact hfx
      ·exact hpre j y zO hy
     ·rw[hTN2]
      exact hlong
     ·rw[hCN2]
      omega
  ·skip
   refine fB mD ?_;refine oB oh 0 nQ ?_;refine lB mW ?_;refine bB λc20003=>fB mD ?_;refine oB oh 0 nQ ?_;refine rR (aDe mW bU (q1.ext oh.ext) rfl zO zO ?_);refine rR (aDg bU (q1.ext oh.ext) (λy:kB=>y.2) zD rfl zA ?_);refine aDH oh bU λb20008 m20008 o20008=>?_;refine RunVC.storeAll (vs:=[iv x.kind,sv x.name,iv z,sv x.table,sv x.attr,.slice i1 x.cols.length j1,.slice i2 x.names.length j2,iv x.by_,iv x.n,iv x.m,.slice i3 x.terms.length j3,sv x.other,sv x.oattr,.slice i4 x.fixed.length j4,.slice i5 x.vars.length j5,.slice i6 x.conds.length j6,iv xk,sv xt,.slice h5 xks.length h6,.slice h1 xcs.length h2',.slice h3 xns.length h4,sv xa,sv xs_,iv xg,iv wz]) o20008 1 rfl bU rfl rfl rfl rfl rfl ?_;intro m20009 o20009;have os:Own h [box b10 [.slice ya xs.length yc] 24,box b20008 [iv x.kind,sv x.name,iv z,sv x.table,sv x.attr,.slice i1 x.cols.length j1,.slice i2 x.names.length j2,iv x.by_,iv x.n,iv x.m,.slice i3 x.terms.length j3,sv x.other,sv x.oattr,.slice i4 x.fixed.length j4,.slice i5 x.vars.length j5,.slice i6 x.conds.length j6,iv xk,sv xt,.slice h5 xks.length h6,.slice h1 xcs.length h2',.slice h3 xns.length h4,sv xa,sv xs_,iv xg,iv wz] 44] m20009:=o20009;clear o20008 o20009 oh;have hfx:jI x=true:=decide_eq_true (λe=>absurd e hk)
   refine fB aA ?_;refine oB os 1 aK ?_;refine bA λc20152=>aDL ?_;refine nB os 1 bU ?_;refine aDN (aAz x _ _ p (hrx.ext (Own.ext (B:=h) zA)) hxOK hxs hip) λr h4' hr=>?_
   obtain⟨aL,cL,rfl,oL⟩:=hr.upK (os.sel [0] rfl)
   have oL:Own h [box b10 [.slice ya xs.length yc] 24,row (.slice aL (txts p).length cL) 9 1 (txts p).length (strs (txts p))] h4':=oL;clear hr os;refine lB aB ?_;refine aR ?_;refine aDT [4,9,44,45,46,47,48,49,50,51,52,53,54,55] [4,9] (λus h'=>∃(k:Nat),k<=(txts p).length/\us=[.string ⟨⟨T++((txts p).take k).flatten⟩⟩,.int .i64 k]/\((txts p).take k).flatten.length<=500*k/\Own h [box b10 [.slice ya xs.length yc] 24,row (.slice aL (txts p).length cL) 9 1 (txts p).length (strs (txts p))] h') (λus _=>match us with|[_,.int _ k]=>(txts p).length - k.toNat|_=>0) ?_ ?_
   ·exact⟨0,by omega,by rw[aES,aEF,aD7];rfl,by simp,oL⟩
   ·rintro us junk2 h5' ⟨k,hk2,rfl,hfl,ok⟩
    clear oL;by_cases hkl:k<(txts p).length
    ·obtain⟨t,ht⟩:=getx hkl
     have htx:(strs (txts p))[k]?=some (sv t):=by simp[strs,ht]
     have htl2:t.length<=500:=by
      obtain⟨pc,hpc,rfl⟩:=aEL.1 (aDY ht)
      exact hps pc hpc
     have hft:=wE ht;have hlenA:(T++((txts p).take k).flatten).length<=20000+500*k:=by rw[aDX];omega
     refine lB aB ?_;refine bB λc20251=>?_;refine rR (idx aB aC (ok.rowArr 1 rfl) rfl zO (by first|omega|(simp<;>omega)) ?_);refine rR (aDq (ok.rowArr 1 rfl) aC rfl a_ ?_);refine rR (aDb rfl rfl (by first|omega|(simp<;>omega)) ?_);refine aR ?_
     refine⟨rfl,?_⟩
     refine⟨⟨k+1,by omega,by rw[hft,← aEb];rfl,by rw[hft,aDX];omega,o_ [0,1]⟩,by simp;omega⟩
    ·have ek:(txts p).take k=txts p:=aEa zO
     rw[ek]at hfl ⊢
     have hTN:TN.length=T.length+(txts p).flatten.length+1:=by rw[hte];simp only[aDX,aD1,aD2];omega
     have hlenB:(T++(txts p).flatten).length<=20000+500*(txts p).length:=by rw[aDX];have:=uY p hps;omega
     have hTNe:T++(txts p).flatten++[10]=TN:=by rw[hte,aEb]
     have hlen3:((T++(txts p).flatten)++[10]).length=TN.length:=by rw[hTNe]
     generalize T++(txts p).flatten=T2 at hlenB hTNe hlen3 ⊢
     by_cases hlong:TN.length<=20000
     case neg =>
      have hpr:=mZ hq (λhh=>hlong zO);refine lB aB ?_;refine bA λc20301=>?_;refine rR (aDb rfl rfl (by first|omega|(simp<;>omega)) ?_);refine rR (aDn rfl cE ?_);refine bB λc20304=>RetVC.two rfl ?_
      exact⟨by rw[hpr],o_ []⟩
     refine lB aB ?_;refine bA λc20401=>?_;refine rR (aDb rfl rfl (by first|omega|(simp<;>omega)) ?_);refine rR (aDn rfl cE ?_);refine bA λc20404=>aR ?_
     refine⟨rfl,?_⟩
     refine⟨⟨i+1,by omega,?_,?_,?_,?_,o_ [0]⟩,by simp;omega⟩
     ·rw[hTN2,hCN2,← hTNe,hce,← hpt]
      rfl
     ·intro j y hj hy
      by_cases e:j=i
      ·subst e
       rw[hx]at hy
       cases hy
       exact hfx
      ·exact hpre j y zO hy
     ·rw[hTN2]
      exact hlong
     ·rw[hCN2]
      omega
 ·have e1:ls.take i=ls:=aEa zO
  rw[e1]at htl hcl ⊢
  have hall:xs.all jI=true:=aD4.2 λx hx=>by
   obtain⟨j,hj⟩:=aEm.1 hx
   exact hpre j x (by have:=(aDZ.1 hj).1;omega) hj
  by_cases hc:kH ls<=5000
  ·have hpr:gR xs=(kC ls,0):=by unfold gR;rw[hq];exact if_pos ⟨hall,hn2,hc,htl⟩
   refine fB mD ?_;refine oB oh 0 nQ ?_;refine lB mW ?_;refine bA λc30003=>rR (aDn rfl cE ?_);refine bA λc30005=>bA λc30006=>?_;refine RetVC.two rfl ?_
   exact⟨by rw[hpr],o_ []⟩
  ·have hpr:=mZ hq (λhh=>hc hh.2.2.1)
   refine fB mD ?_;refine oB oh 0 nQ ?_;refine lB mW ?_;refine bA λc31003=>rR (aDn rfl cE ?_);refine bA λc31005=>bB λc31006=>?_;refine RetVC.two rfl ?_
   exact⟨by rw[hpr],o_ []⟩
theorem shortM_all {xs:List It}(h:uR xs=true):(∀ x∈xs,dF x<=50000000)/\xs.length<=210:=by
 unfold uR at h
 simp only[aD0,decide_eq_true_eq]at h
 exact⟨λx hx=>short_size (aD4.1 h.1 x hx),h.2⟩
theorem matches9_spec (xs:List It)(va:Value)(h:Heap)(hP:qH h va xs)(hOK:∀ x∈xs,fO x)(hl:xs.length<=140737488351232)(hW:lX h)(hT:kQ h)(hF:iY h) :
  bG Tryz.prog 3 [.agg ⟨[va]⟩] h λv h'=>v=.bool true/\Own h [] h':=by
 obtain⟨ya,yc,rfl⟩:=hP.isS
 refine eN Tryz.func3 Tryz.ntmps3 ?_;have o0:=Own.refl h;refine xB o0 λb10 m10 o10=>?_;refine aDN (head9_spec _ (hW.ext (Own.ext (B:=h) zA)) (hT.ext (Own.ext (B:=h) zA)) (hF.ext (Own.ext (B:=h) zA))) ?_;rintro _ h1 ⟨rfl,oc⟩;have z1:=oc.thenE (B:=h) zA;clear oc;refine nB z1 0 uD ?_;refine aDN (aCA xs _ _ hOK zO (hP.ext (Own.ext (B:=h) zA))) ?_;rintro _ g2 ⟨rfl,oc⟩;have s2:=oc.thenE (B:=h) zA;clear oc;cases hs:uR xs with
 | false =>
  refine aDK (rO ?_)
  exact⟨rfl,o_ []⟩
 | true =>
  obtain⟨hsz,hn⟩:=shortM_all hs
  refine aDL (nB s2 0 uD ?_);refine aDN (qX xs _ _ (hT.ext (Own.ext (B:=h) zA)) (hF.ext (Own.ext (B:=h) zA)) (hP.ext (Own.ext (B:=h) zA)) hOK hsz hn) ?_;rintro _ h3 ⟨rfl,oc⟩;have z3:=oc.thenE (B:=h) zA;clear oc;refine nB z3 0 uD ?_;refine aDN (aCE xs _ _ (hP.ext (Own.ext (B:=h) zA)) hOK hsz hn) ?_;rintro _ h4 ⟨rfl,oc⟩;have z4:=oc.thenE (B:=h) zA;clear oc;refine aDK (bE λc100=>?_);refine rO ?_
  all_goals exact⟨by simp,o_ []⟩
end Go.Proofs.YtohlogbnpfofpaaGreatDoor
namespace Go.Proofs.YtohlogbnpfofpaaGreatDoor
open Go Go.ChangeShapes Go.WideShapes Go.ChangeAt Go.RowKit Go.WideElems Go.Joins Go.Deep
section
variable {H : Type} {enc : TypeId × Value -> H} {P : Program} {W : World}
def wOK (P:Program)(t:TypeId)(d:DataW H):Prop:=(d.weights P t).all (·<=reachBytes)=true
def fieldsAt (P:Program)(fs:Array Field)(l:List (TypeId×Nat×Nat)):Bool:=fs.toList.map (λf=>(f.type,f.offset,P.cellsOf f.type)) == l
theorem rY:∀ {ts:List TypeId}{ds:List (DataW H)},(DataW.weightsEach P ts ds).all (·<=reachBytes)=true->∀ {j:Nat}{t:TypeId}{d:DataW H},ts[j]?=some t->ds[j]?=some d->wOK P t d
 | [],_,_,_,_,_,hj,_=>by simp at hj
 | _::_,[],_,_,_,_,_,hd=>by simp at hd
 | t::ts,d::ds,h,0,_,_,hj,hd=>by
  simp only[DataW.weightsEach,List.all_append,aD0]at h
  simp at hj hd
  subst hj;subst hd;exact h.1
 | t::ts,d::ds,h,j+1,_,_,hj,hd=>by
  simp only[DataW.weightsEach,List.all_append,aD0]at h
  exact rY h.2 (by simpa using hj) (by simpa using hd)
theorem uF {e:TypeId}:∀ {l:List (DataW H)},(DataW.weightsAll P e l).all (·<=reachBytes)=true->∀ {j:Nat}{d:DataW H},l[j]?=some d->(d.weights P e).all (·<=reachBytes)=true
 | [],_,_,_,hj=>by simp at hj
 | x::l,h,0,d,hj=>by
  simp only[DataW.weightsAll,List.all_append,aD0]at h
  simp at hj
  subst hj;exact h.1
 | x::l,h,j+1,d,hj=>by
  simp only[DataW.weightsAll,List.all_append,aD0]at h
  exact uF h.2 (by simpa using hj)
theorem fK {t:TypeId}{fs:Array Field}{l:List (TypeId×Nat×Nat)}{fuel:Nat}{cs:aVs}{x:DataW H×List MemPlace}(ht:P.underlying t=some (.struct fs))(hl:fieldsAt P fs l=true)
  (h:DataW.trod enc P W 0 (λ_=>true) true fuel t cs=some x) (hw:wOK P t x.1):∃ n,fuel=n+1/\cs.length=P.cellsOf t /\
   ∀(i:Nat) (ty:TypeId) (o sz:Nat),l[i]?=some (ty,o,sz)->∃ y,DataW.trod enc P W 0 (λ_=>true) true n ty ((cs.drop o).take sz)=some y/\wOK P ty y.1:=by
 obtain⟨xs,n,rfl,hx,hlen,hsz,hf⟩:=DataW.trod_struct ht h
 refine⟨n,rfl,hlen,λi ty o sz hi=>?_⟩
 have hl:=eq_of_beq hl
 rw[← hl,aEv]at hi
 obtain⟨f,hfi,he⟩:=aEo.1 hi
 cases he
 have hfi2:fs[i]?=some f:=by simpa using hfi
 have h1:=hf i f hfi2;have hil:i<xs.length:=by rw[hsz];exact(Array.getElem?_eq_some_iff.1 hfi2).1
 obtain⟨y,hy⟩:=getx hil
 rw[hy]at h1
 refine⟨y,h1,?_⟩
 have hd:x.1=.agg (xs.map (·.1)):=congrArg Prod.fst hx
 rw[hd]at hw
 unfold wOK at hw
 simp only[DataW.weights,ht]at hw
 exact rY hw (j:=i) (by rw[aEv,hfi];rfl) (by rw[aEv,hy];rfl)
theorem tP {α β:Type}{ψ:α->β->Prop}:∀ {l:List α},(∀ c∈l,∃ x,ψ c x)->∃ xs:List β,l.length=xs.length/\∀(i:Nat)(x:β),xs[i]?=some x->∃ c,l[i]?=some c/\ψ c x
 | [],_=>⟨[],rfl,λi x h=>by simp at h⟩
 | c::l,h=>by
  obtain⟨x,hx⟩:=h c zS
  obtain⟨xs,h1,h2⟩:=tP (l:=l) λc hc=>h c (by simp[hc])
  refine⟨x::xs,by simp[h1],λi y hy=>?_⟩
  cases i with
  | zero=>simp at hy;subst hy;exact⟨c,rfl,hx⟩
  | succ i=>exact h2 i y (by simpa using hy)
theorem jB {t e:TypeId}{fuel sz:Nat}{cs:aVs}{x:DataW H×List MemPlace}{α:Type}{f:α->aVs}{ψ:α->Prop}(ht:P.underlying t=some (.slice e))(hsz:P.cellsOf e=sz)(hf:∀ y,(f y).length=sz)(hpos:0<sz)(hby:0<P.bytesOf e)
  (hel:∀ n,n<fuel->∀ cs x,DataW.trod enc P W 0 (λ_=>true) true n e cs=some x->wOK P e x.1->∃ y,cs=f y/\ψ y)
  (h:DataW.trod enc P W 0 (λ_=>true) true fuel t cs=some x) (hw:wOK P t x.1):∃(v:Value) (ys:List α),cs=[v]/\aY sz W.heap v ys.length (ys.flatMap f)/\(∀ y∈ys,ψ y)/\ys.length<=140737488351232:=by
 subst hsz
 rcases DataW.trod_slice ht h with ⟨hcs,hx⟩|⟨a,len,cap,elems,rest,n,rfl,hcs,hx,hb,hl,hm,hlen,hel',hsp,hns⟩
 ·exact⟨_,[],hcs,aY.nil _ _,by simp,by simp⟩
 ·have hd:x.1=_:=congrArg Prod.fst hx
  rw[hd]at hw
  unfold wOK at hw
  simp only[DataW.weights,ht,aEO,aD0,List.all_append,List.length_map,decide_eq_true_eq]at hw
  have each:∀ j,j<len->∃ y:α,(∀ r u,(f y)[r]?=some u->W.cell? ((a.add (j*P.cellsOf e)).add r)=some u)/\ψ y:=by
   intro j hj;have h1:=hel' j hj
   obtain⟨d,hd⟩:=getx (l:=elems) (i:=j) zO
   rw[hd]at h1
   obtain⟨cs',g1,g2⟩:=Option.bind_eq_some_iff.1 h1
   have wj:wOK P e d.1:=uF hw.2.1 (j:=j) (by rw[aEv,hd];rfl)
   obtain⟨y,rfl,hy⟩:=hel n (Nat.lt_succ_self n) cs' d g2 wj
   obtain⟨_,hlen',hcell⟩:=World.cells?_some g1
   refine⟨y,λr u hu=>?_,hy⟩
   have hr:r<P.cellsOf e:=by
    have:=(aDZ.1 hu).1
    rw[hf]at this
    exact this
   rw[hcell r hr]
   exact hu
  obtain⟨ys,hl1,hl2⟩:=tP (l:=List.range len) (λc hc=>each c (List.mem_range.1 hc))
  have hlen2:ys.length=len:=by rw[← hl1,List.length_range]
  have at_:∀(j:Nat) (y:α),ys[j]?=some y->(∀ r u,(f y)[r]?=some u->W.cell? ((a.add (j*P.cellsOf e)).add r)=some u)/\ψ y:=λj y hy=>by
   obtain⟨c,hc,h⟩:=hl2 j y hy
   have hj:c=j:=by
    obtain⟨hj,e⟩:=aDZ.1 hc
    simpa using e.symm
   subst hj;exact h
  refine⟨_,ys,hcs,?_,λy hy=>?_,?_⟩
  ·rw[hlen2]
   exact aBL (f:=f) hf hpos hlen2 hl (λj y hy r u hu=>(at_ j y hy).1 r u hu)
  ·obtain⟨j,hj⟩:=aEm.1 hy
   exact(at_ j y hj).2
  ·have h1:=hw.1
   simp only[reachBytes]at h1
   have h2:len<=(elems.length+rest.length)*P.bytesOf e:=aEc zO (Nat.le_mul_of_pos_right _ hby)
   rw[hlen2]
   omega
theorem jN {t:TypeId}{fuel:Nat}{cs:aVs}{x:DataW H×List MemPlace}(ht:P.underlying t=some .string)(h:DataW.trod enc P W 0 (λ_=>true) true fuel t cs=some x)(hw:wOK P t x.1):∃ l:aBs,cs=[sv l]/\l.length<=1000000000000000:=by
 obtain⟨⟨⟨l⟩⟩,e1,hx1,_⟩:=DataW.trod_string ht h
 refine⟨l,e1,?_⟩
 unfold wOK at hw
 rw[hx1]at hw
 have:=aD4.1 hw l.length (by simp[DataW.weights])
 have:=of_decide_eq_true this
 simp only[reachBytes]at this
 omega
theorem iS {t:TypeId}{fuel:Nat}{cs:aVs}{x:DataW H×List MemPlace}(ht:P.underlying t=some (.int .i64))(h:DataW.trod enc P W 0 (λ_=>true) true fuel t cs=some x):∃ n:Int,cs=[iv n]/\(-9223372036854775808<=n/\n<=9223372036854775807):=by
 obtain⟨n,e,_,w⟩:=DataW.trod_int ht h
 exact⟨n,e,by simpa[Lit.wf,IntKind.min,IntKind.max,IntKind.signed,IntKind.bits] using w⟩
end
section
variable {H : Type} {enc : TypeId × Value -> H} {W : World}
theorem tr_vl {fuel:Nat}{cs:aVs}{x:DataW H×List MemPlace}(h:DataW.trod enc Tryz.prog W 0 (λ_=>true) true fuel 93 cs=some x)(hw:wOK Tryz.prog 93 x.1):∃ y:Vl,cs=vlC y/\VlOK y:=by
 obtain⟨n,rfl,hlen,hf⟩:=fK (l:=[(3,0,1),(3,1,1),(9,2,1)]) Tryz.underlying93 k_ h hw
 have hlen:cs.length=3:=hlen.trans k_
 match cs,hlen with
 | [c0,c1,c2],_ =>
  obtain⟨y0,t0,w0⟩:=hf 0 _ _ _ rfl
  obtain⟨y1,t1,w1⟩:=hf 1 _ _ _ rfl
  obtain⟨y2,t2,w2⟩:=hf 2 _ _ _ rfl
  obtain⟨a0,e0,b0⟩:=iS Tryz.underlying3 t0
  obtain⟨a1,e1,b1⟩:=iS Tryz.underlying3 t1
  obtain⟨a2,e2,b2⟩:=jN Tryz.underlying9 t2 w2
  cases e0;cases e1;cases e2
  exact⟨⟨a0,a1,a2⟩,rfl,b0,b1,b2⟩
theorem tr_opd {fuel:Nat}{cs:aVs}{x:DataW H×List MemPlace}(h:DataW.trod enc Tryz.prog W 0 (λ_=>true) true fuel 140 cs=some x)(hw:wOK Tryz.prog 140 x.1):∃ y:Opd,cs=opdC y/\aBz y:=by
 obtain⟨n,rfl,hlen,hf⟩:=fK (l:=[(9,0,1),(9,1,1),(4,2,1),(93,3,3)]) Tryz.underlying140 k_ h hw
 have hlen:cs.length=6:=hlen.trans k_
 match cs,hlen with
 | [c0,c1,c2,c3,c4,c5],_ =>
  obtain⟨y0,t0,w0⟩:=hf 0 _ _ _ rfl
  obtain⟨y1,t1,w1⟩:=hf 1 _ _ _ rfl
  obtain⟨y2,t2,w2⟩:=hf 2 _ _ _ rfl
  obtain⟨y3,t3,w3⟩:=hf 3 _ _ _ rfl
  obtain⟨a0,e0,b0⟩:=jN Tryz.underlying9 t0 w0
  obtain⟨a1,e1,b1⟩:=jN Tryz.underlying9 t1 w1
  obtain⟨a2,e2,b2⟩:=DataW.trod_bool Tryz.underlying4 t2
  obtain⟨a3,e3,b3⟩:=tr_vl t3 w3
  cases e0;cases e1;cases e2;cases e3
  exact⟨⟨a0,a1,a2,a3⟩,rfl,b0,b1,b3⟩
theorem tr_cnd {fuel:Nat}{cs:aVs}{x:DataW H×List MemPlace}(h:DataW.trod enc Tryz.prog W 0 (λ_=>true) true fuel 142 cs=some x)(hw:wOK Tryz.prog 142 x.1):∃ y:Cnd,cs=nN y/\uL y:=by
 obtain⟨n,rfl,hlen,hf⟩:=fK (l:=[(140,0,6),(3,6,1),(140,7,6),(3,13,1)]) Tryz.underlying142 k_ h hw
 have hlen:cs.length=14:=hlen.trans k_
 match cs,hlen with
 | [c0,c1,c2,c3,c4,c5,c6,c7,c8,c9,c10,c11,c12,c13],_ =>
  obtain⟨y0,t0,w0⟩:=hf 0 _ _ _ rfl
  obtain⟨y1,t1,w1⟩:=hf 1 _ _ _ rfl
  obtain⟨y2,t2,w2⟩:=hf 2 _ _ _ rfl
  obtain⟨y3,t3,w3⟩:=hf 3 _ _ _ rfl
  obtain⟨a0,e0,b0⟩:=tr_opd t0 w0
  obtain⟨a1,e1,b1⟩:=iS Tryz.underlying3 t1
  obtain⟨a2,e2,b2⟩:=tr_opd t2 w2
  obtain⟨a3,e3,b3⟩:=iS Tryz.underlying3 t3
  cases e0;cases e1;cases e2;cases e3
  exact⟨⟨a0,a1,a2,a3⟩,rfl,b0,b1,b2,b3⟩
theorem tr_col {fuel:Nat}{cs:aVs}{x:DataW H×List MemPlace}(h:DataW.trod enc Tryz.prog W 0 (λ_=>true) true fuel 132 cs=some x)(hw:wOK Tryz.prog 132 x.1):∃ y:Col,cs=vE y/\aCp y:=by
 obtain⟨n,rfl,hlen,hf⟩:=fK (l:=[(9,0,1),(3,1,1),(93,2,3)]) Tryz.underlying132 k_ h hw
 have hlen:cs.length=5:=hlen.trans k_
 match cs,hlen with
 | [c0,c1,c2,c3,c4],_ =>
  obtain⟨y0,t0,w0⟩:=hf 0 _ _ _ rfl
  obtain⟨y1,t1,w1⟩:=hf 1 _ _ _ rfl
  obtain⟨y2,t2,w2⟩:=hf 2 _ _ _ rfl
  obtain⟨a0,e0,b0⟩:=jN Tryz.underlying9 t0 w0
  obtain⟨a1,e1,b1⟩:=iS Tryz.underlying3 t1
  obtain⟨a2,e2,b2⟩:=tr_vl t2 w2
  cases e0;cases e1;cases e2
  exact⟨⟨a0,a1,a2⟩,rfl,b0,b1,b2⟩
theorem tr_trm {fuel:Nat}{cs:aVs}{x:DataW H×List MemPlace}(h:DataW.trod enc Tryz.prog W 0 (λ_=>true) true fuel 136 cs=some x)(hw:wOK Tryz.prog 136 x.1):∃ y:Trm,cs=wP y/\aCn y:=by
 obtain⟨n,rfl,hlen,hf⟩:=fK (l:=[(9,0,1),(3,1,1),(3,2,1),(134,3,2),(3,5,1),(3,6,1)]) Tryz.underlying136 k_ h hw
 have hlen:cs.length=7:=hlen.trans k_
 match cs,hlen with
 | [c0,c1,c2,c3,c4,c5,c6],_ =>
  obtain⟨y0,t0,w0⟩:=hf 0 _ _ _ rfl
  obtain⟨y1,t1,w1⟩:=hf 1 _ _ _ rfl
  obtain⟨y2,t2,w2⟩:=hf 2 _ _ _ rfl
  obtain⟨y3,t3,w3⟩:=hf 3 _ _ _ rfl
  obtain⟨y5,t5,w5⟩:=hf 4 _ _ _ rfl
  obtain⟨y6,t6,w6⟩:=hf 5 _ _ _ rfl
  obtain⟨k,rfl,_,hg⟩:=fK (l:=[(3,0,1),(3,1,1)]) Tryz.underlying134 k_ t3 w3
  obtain⟨z0,s0,u0⟩:=hg 0 _ _ _ rfl
  obtain⟨z1,s1,u1⟩:=hg 1 _ _ _ rfl
  obtain⟨a0,e0,b0⟩:=jN Tryz.underlying9 t0 w0
  obtain⟨a1,e1,b1⟩:=iS Tryz.underlying3 t1
  obtain⟨a2,e2,b2⟩:=iS Tryz.underlying3 t2
  obtain⟨a3,e3,b3⟩:=iS Tryz.underlying3 s0
  obtain⟨a4,e4,b4⟩:=iS Tryz.underlying3 s1
  obtain⟨a5,e5,b5⟩:=iS Tryz.underlying3 t5
  obtain⟨a6,e6,b6⟩:=iS Tryz.underlying3 t6
  cases e0;cases e1;cases e2;cases e3;cases e4;cases e5;cases e6
  exact⟨⟨a0,a1,a2,a3,a4,a5,a6⟩,rfl,b0,b1,b2,b3,b4,b5,b6⟩
theorem tr_nmd {fuel:Nat}{cs:aVs}{x:DataW H×List MemPlace}(h:DataW.trod enc Tryz.prog W 0 (λ_=>true) true fuel 95 cs=some x)(hw:wOK Tryz.prog 95 x.1):∃ y:Nmd,cs=xH y/\aCo y:=by
 obtain⟨n,rfl,hlen,hf⟩:=fK (l:=[(9,0,1),(93,1,3)]) Tryz.underlying95 k_ h hw
 have hlen:cs.length=4:=hlen.trans k_
 match cs,hlen with
 | [c0,c1,c2,c3],_ =>
  obtain⟨y0,t0,w0⟩:=hf 0 _ _ _ rfl
  obtain⟨y1,t1,w1⟩:=hf 1 _ _ _ rfl
  obtain⟨a0,e0,b0⟩:=jN Tryz.underlying9 t0 w0
  obtain⟨a1,e1,b1⟩:=tr_vl t1 w1
  cases e0;cases e1
  exact⟨⟨a0,a1⟩,rfl,b0,b1⟩
theorem tr_vr {fuel:Nat}{cs:aVs}{x:DataW H×List MemPlace}(h:DataW.trod enc Tryz.prog W 0 (λ_=>true) true fuel 98 cs=some x)(hw:wOK Tryz.prog 98 x.1):∃ y:Vr,cs=vrC y/\VrOK y:=by
 obtain⟨n,rfl,hlen,hf⟩:=fK (l:=[(9,0,1),(9,1,1)]) Tryz.underlying98 k_ h hw
 have hlen:cs.length=2:=hlen.trans k_
 match cs,hlen with
 | [c0,c1],_ =>
  obtain⟨y0,t0,w0⟩:=hf 0 _ _ _ rfl
  obtain⟨y1,t1,w1⟩:=hf 1 _ _ _ rfl
  obtain⟨a0,e0,b0⟩:=jN Tryz.underlying9 t0 w0
  obtain⟨a1,e1,b1⟩:=jN Tryz.underlying9 t1 w1
  cases e0;cases e1
  exact⟨⟨a0,a1⟩,rfl,b0,b1⟩
theorem tr_strC {fuel:Nat}{cs:aVs}{x:DataW H×List MemPlace}(h:DataW.trod enc Tryz.prog W 0 (λ_=>true) true fuel 9 cs=some x)(hw:wOK Tryz.prog 9 x.1):∃ y:aBs,cs=sD y/\y.length<=1000000000000000:=jN Tryz.underlying9 h hw
theorem exsOf {W:Heap}{ys:List dG}{ψ:dG->Ex->Prop}(hψ:∀ c x,ψ c x->fT W c.1 x/\gK x):∀ {l:List dG},(∀ c∈l,∃ x,ψ c x)->∃ xs:List Ex,l.length=xs.length/\pD W l xs/\tS xs
 | [],_=>⟨[],rfl,trivial,trivial⟩
 | c::l,h=>by
  obtain⟨x,hx⟩:=h c zS
  obtain⟨xs,h1,h2,h3⟩:=exsOf (ys:=ys) hψ (l:=l) λc hc=>h c (by simp[hc])
  obtain⟨h4,h5⟩:=hψ c x hx
  exact⟨x::xs,by simp[h1],by rw[pD];exact⟨h4,h2⟩,by rw[tS];exact⟨h5,h3⟩⟩
theorem tr_ex:∀(fuel:Nat) {cs:aVs}{x:DataW H×List MemPlace}(_:DataW.trod enc Tryz.prog W 0 (λ_=>true) true fuel 42 cs=some x)(_:wOK Tryz.prog 42 x.1),cs.length=9/\∃ y:Ex,fT W.heap cs y/\gK y
 | 0,_,_,h,_=>by simp[DataW.trod]at h
 | m+1,cs,x,h,hw=>by
  obtain⟨n,hn,hlen,hf⟩:=fK (l:=[(3,0,1),(9,1,1),(40,2,1),(39,3,1),(35,4,1),(9,5,1),(9,6,1),(3,7,1),(3,8,1)]) Tryz.underlying42 k_ h hw
  have hlen:cs.length=9:=hlen.trans k_;obtain rfl:m=n:=Nat.succ.inj hn
  refine⟨hlen,?_⟩
  match cs,hlen with
  | [c0,c1,c2,c3,c4,c5,c6,c7,c8],_ =>
   obtain⟨y0,t0,w0⟩:=hf 0 _ _ _ rfl
   obtain⟨y1,t1,w1⟩:=hf 1 _ _ _ rfl
   obtain⟨y2,t2,w2⟩:=hf 2 _ _ _ rfl
   obtain⟨y3,t3,w3⟩:=hf 3 _ _ _ rfl
   obtain⟨y4,t4,w4⟩:=hf 4 _ _ _ rfl
   obtain⟨y5,t5,w5⟩:=hf 5 _ _ _ rfl
   obtain⟨y6,t6,w6⟩:=hf 6 _ _ _ rfl
   obtain⟨y7,t7,w7⟩:=hf 7 _ _ _ rfl
   obtain⟨y8,t8,w8⟩:=hf 8 _ _ _ rfl
   obtain⟨a0,e0,b0⟩:=iS Tryz.underlying3 t0
   obtain⟨a1,e1,b1⟩:=jN Tryz.underlying9 t1 w1
   obtain⟨v2,ks,e2,r2,p2,q2⟩:=jB (sz:=9) (f:=Subtype.val) (ψ:=λc:dG=>∃ y:Ex,fT W.heap c.1 y/\gK y) Tryz.underlying40 k_ (λy:dG=>y.2) zD (by decide +kernel)
    (λn hn cs x h hw=>by
     have:=tr_ex n h hw
     exact⟨⟨cs,this.1⟩,rfl,this.2⟩) t2 w2
   obtain⟨v3,cds,e3,r3,p3,q3⟩:=jB (sz:=14) (f:=nN) Tryz.underlying39 k_ (λ_=>rfl) zD (by decide +kernel) (λn hn cs x h hw=>tr_cnd h hw) t3 w3
   obtain⟨v4,nms,e4,r4,p4,q4⟩:=jB (sz:=1) (f:=sD) Tryz.underlying35 k_ (λ_=>rfl) zD (by decide +kernel) (λn hn cs x h hw=>tr_strC h hw) t4 w4
   obtain⟨a5,e5,b5⟩:=jN Tryz.underlying9 t5 w5
   obtain⟨a6,e6,b6⟩:=jN Tryz.underlying9 t6 w6
   obtain⟨a7,e7,b7⟩:=iS Tryz.underlying3 t7
   obtain⟨a8,e8,b8⟩:=iS Tryz.underlying3 t8
   cases e0;cases e1;cases e2;cases e3;cases e4;cases e5;cases e6;cases e7;cases e8
   obtain⟨xs,h1,h2,h3⟩:=exsOf (W:=W.heap) (ys:=ks) (ψ:=λc y=>fT W.heap c.1 y/\gK y) (λc x h=>h) p2
   refine⟨.mk a0 a1 xs cds nms a5 a6 a7 0,?_,?_⟩
   ·rw[fT]
    exact⟨_,_,_,a8,rfl,r3,r4,ks,by rw[← h1];exact r2,h2⟩
   ·rw[gK]
    exact⟨b0,b1,h3,p3,p4,b5,b6,b7,by omega,by omega,by omega⟩
theorem tr_it {fuel:Nat}{cs:aVs}{x:DataW H×List MemPlace}(h:DataW.trod enc Tryz.prog W 0 (λ_=>true) true fuel 44 cs=some x)(hw:wOK Tryz.prog 44 x.1):cs.length=25/\∃ y:It,nP W.heap cs y/\fO y:=by
 obtain⟨n,rfl,hlen,hf⟩:=fK (l:=[(3,0,1),(9,1,1),(3,2,1),(9,3,1),(9,4,1),(34,5,1),(35,6,1),(3,7,1),(3,8,1),(3,9,1),(36,10,1),(9,11,1),(9,12,1),(37,13,1),(38,14,1),(39,15,1),(42,16,9)]) Tryz.underlying44 k_ h hw
 have hlen:cs.length=25:=hlen.trans k_
 refine⟨hlen,?_⟩
 match cs,hlen with
 | [c0,c1,c2,c3,c4,c5,c6,c7,c8,c9,c10,c11,c12,c13,c14,c15,c16,c17,c18,c19,c20,c21,c22,c23,c24],_ =>
  obtain⟨y0,t0,w0⟩:=hf 0 _ _ _ rfl
  obtain⟨y1,t1,w1⟩:=hf 1 _ _ _ rfl
  obtain⟨y2,t2,w2⟩:=hf 2 _ _ _ rfl
  obtain⟨y3,t3,w3⟩:=hf 3 _ _ _ rfl
  obtain⟨y4,t4,w4⟩:=hf 4 _ _ _ rfl
  obtain⟨y5,t5,w5⟩:=hf 5 _ _ _ rfl
  obtain⟨y6,t6,w6⟩:=hf 6 _ _ _ rfl
  obtain⟨y7,t7,w7⟩:=hf 7 _ _ _ rfl
  obtain⟨y8,t8,w8⟩:=hf 8 _ _ _ rfl
  obtain⟨y9,t9,w9⟩:=hf 9 _ _ _ rfl
  obtain⟨y10,t10,w10⟩:=hf 10 _ _ _ rfl
  obtain⟨y11,t11,w11⟩:=hf 11 _ _ _ rfl
  obtain⟨y12,t12,w12⟩:=hf 12 _ _ _ rfl
  obtain⟨y13,t13,w13⟩:=hf 13 _ _ _ rfl
  obtain⟨y14,t14,w14⟩:=hf 14 _ _ _ rfl
  obtain⟨y15,t15,w15⟩:=hf 15 _ _ _ rfl
  obtain⟨y16,t16,w16⟩:=hf 16 _ _ _ rfl
  obtain⟨a0,e0,b0⟩:=iS Tryz.underlying3 t0
  obtain⟨a1,e1,b1⟩:=jN Tryz.underlying9 t1 w1
  obtain⟨a2,e2,b2⟩:=iS Tryz.underlying3 t2
  obtain⟨a3,e3,b3⟩:=jN Tryz.underlying9 t3 w3
  obtain⟨a4,e4,b4⟩:=jN Tryz.underlying9 t4 w4
  obtain⟨v5,l5,e5,r5,p5,q5⟩:=jB (sz:=5) (f:=vE) Tryz.underlying34 k_ (λ_=>rfl) zD (by decide +kernel) (λn hn cs x h hw=>tr_col h hw) t5 w5
  obtain⟨v6,l6,e6,r6,p6,q6⟩:=jB (sz:=1) (f:=sD) Tryz.underlying35 k_ (λ_=>rfl) zD (by decide +kernel) (λn hn cs x h hw=>tr_strC h hw) t6 w6
  obtain⟨a7,e7,b7⟩:=iS Tryz.underlying3 t7
  obtain⟨a8,e8,b8⟩:=iS Tryz.underlying3 t8
  obtain⟨a9,e9,b9⟩:=iS Tryz.underlying3 t9
  obtain⟨v10,l10,e10,r10,p10,q10⟩:=jB (sz:=7) (f:=wP) Tryz.underlying36 k_ (λ_=>rfl) zD (by decide +kernel) (λn hn cs x h hw=>tr_trm h hw) t10 w10
  obtain⟨a11,e11,b11⟩:=jN Tryz.underlying9 t11 w11
  obtain⟨a12,e12,b12⟩:=jN Tryz.underlying9 t12 w12
  obtain⟨v13,l13,e13,r13,p13,q13⟩:=jB (sz:=4) (f:=xH) Tryz.underlying37 k_ (λ_=>rfl) zD (by decide +kernel) (λn hn cs x h hw=>tr_nmd h hw) t13 w13
  obtain⟨v14,l14,e14,r14,p14,q14⟩:=jB (sz:=2) (f:=vrC) Tryz.underlying38 k_ (λ_=>rfl) zD (by decide +kernel) (λn hn cs x h hw=>tr_vr h hw) t14 w14
  obtain⟨v15,l15,e15,r15,p15,q15⟩:=jB (sz:=14) (f:=nN) Tryz.underlying39 k_ (λ_=>rfl) zD (by decide +kernel) (λn hn cs x h hw=>tr_cnd h hw) t15 w15
  obtain⟨_,ex,r16,p16⟩:=tr_ex _ t16 w16
  cases e0;cases e1;cases e2;cases e3;cases e4;cases e5;cases e6;cases e7;cases e8;cases e9;cases e10;cases e11;cases e12;cases e13;cases e14;cases e15
  exact⟨⟨a0,a1,0,a3,a4,l5,l6,a7,a8,a9,l10,a11,a12,l13,l14,l15,ex⟩,⟨a2,_,_,_,_,_,_,_,_,_,_,_,_,_,_,_,rfl,r5,r6,r10,r13,r14,r15,r16⟩,b0,b1,b3,b4,p5,p6,b7,b8,b9,p10,b11,b12,p13,p14,p15,p16,aEc q5 zD,aEc q6 zD,aEc q10 zD,aEc q13 zD,aEc q14 zD,aEc q15 zD⟩
theorem In.prog {base:Nat}{v:Value}{d:DataW H}(i:In enc Tryz.prog W base 24 v d):∃(u:Value)(xs:List It),v=.agg ⟨[u]⟩/\qH W.heap u xs/\(∀ x∈xs,fO x)/\xs.length<=140737488351232:=by
 obtain⟨⟨cs⟩,rfl,hsz⟩:=okWide_struct Tryz.underlying24 i.ok
 obtain⟨p,fuel,h⟩:=i.trod
 have hlen:cs.length=1:=hsz.trans k_
 obtain⟨n,rfl,_,hf⟩:=fK (l:=[(22,0,1)]) Tryz.underlying24 k_ h i.fits
 match cs,hlen with
 | [c0],_ =>
  obtain⟨y0,t0,w0⟩:=hf 0 _ _ _ rfl
  obtain⟨u,l,e,r,q,hl⟩:=jB (sz:=25) (f:=Subtype.val) (ψ:=λc:kB=>∃ y:It,nP W.heap c.1 y/\fO y) Tryz.underlying22 k_ (λy:kB=>y.2) zD (by decide +kernel)
   (λn hn cs x h hw=>by
    have:=tr_it h hw
    exact⟨⟨cs,this.1⟩,rfl,this.2⟩) t0 w0
  cases e
  obtain⟨xs,h1,h2⟩:=tP q
  refine⟨_,xs,rfl,⟨l,by rw[← h1];exact r,h1,λi x hx=>?_⟩,λx hx=>?_,by omega⟩
  ·obtain⟨c,hc,hh,_⟩:=h2 i x hx
   exact⟨c,hc,hh⟩
  ·obtain⟨i,hi⟩:=aEm.1 hx
   obtain⟨c,hc,_,hh⟩:=h2 i x hi
   exact hh
end
end Go.Proofs.YtohlogbnpfofpaaGreatDoor
