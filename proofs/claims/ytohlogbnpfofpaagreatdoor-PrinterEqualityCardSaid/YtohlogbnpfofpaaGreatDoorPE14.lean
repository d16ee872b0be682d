/- Part 14 of the proof of equality: FnYc, FnYi, FnYe, FnXi. -/
import Derived.Test.YtohlogbnpfofpaaGreatDoorPE13
set_option linter.all false
set_option maxHeartbeats 100000000
set_option maxRecDepth 100000
namespace Go.Proofs.YtohlogbnpfofpaaGreatDoor
open Go StillVC
theorem bl_irr:∀ l:aBs,Op.bytesLess l l=false:=by
 intro l
 induction l with
 | nil=>rfl
 | cons c l ih=>simp[Op.bytesLess,ih]
theorem zD (a b:Int)(h:Heap):bZ Tryz.prog 146 [.int .i64 a,.int .i64 b] h fun r h'=>(∃ k:Int,r=.int .i64 k∧(k=0↔a=b))∧Own h [] h':=by
 have o0:=Own.refl h;refine aC1 Tryz.func146 rfl Tryz.ntmps146 (by kernel_rfl) ?_;refine aCV (fun c10=>?_) (fun c10=>?_);refine aC3 rfl ?_
 rotate_left
 refine aCV (fun c11=>?_) (fun c11=>?_);refine aC3 rfl ?_
 rotate_left
 refine aC3 rfl ?_
 all_goals exact⟨⟨_,rfl,by omega⟩,o0⟩
theorem bl_two {a b:aBs}(h:Op.bytesLess a b=false)(h2:a≠b):(!(Op.bytesLess a b||a == b))=true:=by
 rw[h]
 simp[h2]
theorem rcompare2 (x y:Vl)(h:Heap):bZ Tryz.prog 121 [.agg ⟨[.int .i64 x.k,.int .i64 x.n,.string ⟨⟨x.t⟩⟩]⟩,.agg ⟨[.int .i64 y.k,.int .i64 y.n,.string ⟨⟨y.t⟩⟩]⟩] h fun r h'=>∃ k:Int,r=.int .i64 k∧(k=0↔x=y)∧Own h [] h':=by
 obtain⟨k,n,t⟩:=x
 obtain⟨k',n',t'⟩:=y
 have o0:=Own.refl h;refine aC1 Tryz.func121 rfl Tryz.ntmps121 (by kernel_rfl) ?_;by_cases hk:k=k'
 case neg =>
  (refine aCw o0 rfl ?_;intro b10 m10 o10);(refine aCw o10 rfl ?_;intro b11 m11 o11);refine rR (fA cN rfl rfl rfl ?_);refine rR (aCi o11 0 rfl aS rfl rfl ?_);refine rR (fA cN rfl rfl rfl ?_);refine rR (aCi o11 1 rfl aS rfl rfl ?_);refine aCn (fun c16=>?_) (fun hc=>absurd hc (by first|omega|assumption|decide|exact rfl));refine rR (fA cN rfl rfl rfl ?_);refine rR (aCi o11 0 rfl aS rfl rfl ?_);refine rR (fA cN rfl rfl rfl ?_);refine rR (aCi o11 1 rfl aS rfl rfl ?_);refine aCZ (zD _ _ _) ?_;rintro _ h1 ⟨⟨q,rfl,hq⟩,oc⟩;have o1:=oc.thenE ‹_›;refine aC3 rfl ?_
  exact⟨q,rfl,⟨fun e=>absurd (hq.1 e) hk,fun e=>absurd (congrArg Vl.k e) hk⟩,o1.sel [] rfl⟩
 subst k';by_cases hn:n=n'
 case neg =>
  (refine aCw o0 rfl ?_;intro b50 m50 o50);(refine aCw o50 rfl ?_;intro b51 m51 o51);refine rR (fA cN rfl rfl rfl ?_);refine rR (aCi o51 0 rfl aS rfl rfl ?_);refine rR (fA cN rfl rfl rfl ?_);refine rR (aCi o51 1 rfl aS rfl rfl ?_);refine aCn (fun hc=>absurd (by first|omega|assumption|decide|exact rfl) hc) (fun c56=>?_);refine rR (fA cN rfl rfl rfl ?_);refine rR (aCi o51 0 rfl aS rfl rfl ?_);refine rR (fA cN rfl rfl rfl ?_);refine rR (aCi o51 1 rfl aS rfl rfl ?_);refine aCn (fun c61=>?_) (fun hc=>absurd hc (by first|omega|assumption|decide|exact rfl));refine rR (fA cN rfl rfl rfl ?_);refine rR (aCi o51 0 rfl aS rfl rfl ?_);refine rR (fA cN rfl rfl rfl ?_);refine rR (aCi o51 1 rfl aS rfl rfl ?_);refine aCZ (zD _ _ _) ?_;rintro _ h1 ⟨⟨q,rfl,hq⟩,oc⟩;have o1:=oc.thenE ‹_›;refine aC3 rfl ?_
  exact⟨q,rfl,⟨fun e=>absurd (hq.1 e) hn,fun e=>absurd (congrArg Vl.n e) hn⟩,o1.sel [] rfl⟩
 subst n';by_cases ht:t=t'
 ·subst t'
  have hl:=bl_irr t;have hg:(!(Op.bytesLess t t||t == t))=false:=by rw[hl];simp
  (refine aCw o0 rfl ?_;intro b100 m100 o100);(refine aCw o100 rfl ?_;intro b101 m101 o101);refine rR (fA cN rfl rfl rfl ?_);refine rR (aCi o101 0 rfl aS rfl rfl ?_);refine rR (fA cN rfl rfl rfl ?_);refine rR (aCi o101 1 rfl aS rfl rfl ?_);refine aCn (fun hc=>absurd (by first|omega|assumption|decide|exact rfl) hc) (fun c106=>?_);refine rR (fA cN rfl rfl rfl ?_);refine rR (aCi o101 0 rfl aS rfl rfl ?_);refine rR (fA cN rfl rfl rfl ?_);refine rR (aCi o101 1 rfl aS rfl rfl ?_);refine aCn (fun hc=>absurd (by first|omega|assumption|decide|exact rfl) hc) (fun c111=>?_);refine rR (fA cN rfl rfl rfl ?_);refine rR (aCi o101 0 rfl aL rfl rfl ?_);refine rR (fA cN rfl rfl rfl ?_);refine rR (aCi o101 1 rfl aL rfl rfl ?_);refine rR (strLss rfl rfl ?_);refine Br.ffE ‹_› ?_;refine rR (fA cN rfl rfl rfl ?_);refine rR (aCi o101 0 rfl aL rfl rfl ?_);refine rR (fA cN rfl rfl rfl ?_);refine rR (aCi o101 1 rfl aL rfl rfl ?_);refine rR (strGtr rfl rfl ?_);refine Br.ffE ‹_› ?_;refine aC3 rfl ?_
  exact⟨0,rfl,by simp,Own.sel ‹_› [] rfl⟩
 ·cases hl:Op.bytesLess t t' with
  | true =>
   (refine aCw o0 rfl ?_;intro b150 m150 o150);(refine aCw o150 rfl ?_;intro b151 m151 o151);refine rR (fA cN rfl rfl rfl ?_);refine rR (aCi o151 0 rfl aS rfl rfl ?_);refine rR (fA cN rfl rfl rfl ?_);refine rR (aCi o151 1 rfl aS rfl rfl ?_);refine aCn (fun hc=>absurd (by first|omega|assumption|decide|exact rfl) hc) (fun c156=>?_);refine rR (fA cN rfl rfl rfl ?_);refine rR (aCi o151 0 rfl aS rfl rfl ?_);refine rR (fA cN rfl rfl rfl ?_);refine rR (aCi o151 1 rfl aS rfl rfl ?_);refine aCn (fun hc=>absurd (by first|omega|assumption|decide|exact rfl) hc) (fun c161=>?_);refine rR (fA cN rfl rfl rfl ?_);refine rR (aCi o151 0 rfl aL rfl rfl ?_);refine rR (fA cN rfl rfl rfl ?_);refine rR (aCi o151 1 rfl aL rfl rfl ?_);refine rR (strLss rfl rfl ?_);refine Br.ttE ‹_› ?_;refine aC3 rfl ?_
   exact⟨-1,rfl,⟨fun e=>absurd e (by decide),fun e=>absurd (congrArg Vl.t e) ht⟩,Own.sel ‹_› [] rfl⟩
  | false =>
   have hg:=bl_two hl ht;(refine aCw o0 rfl ?_;intro b200 m200 o200);(refine aCw o200 rfl ?_;intro b201 m201 o201);refine rR (fA cN rfl rfl rfl ?_);refine rR (aCi o201 0 rfl aS rfl rfl ?_);refine rR (fA cN rfl rfl rfl ?_);refine rR (aCi o201 1 rfl aS rfl rfl ?_);refine aCn (fun hc=>absurd (by first|omega|assumption|decide|exact rfl) hc) (fun c206=>?_);refine rR (fA cN rfl rfl rfl ?_);refine rR (aCi o201 0 rfl aS rfl rfl ?_);refine rR (fA cN rfl rfl rfl ?_);refine rR (aCi o201 1 rfl aS rfl rfl ?_);refine aCn (fun hc=>absurd (by first|omega|assumption|decide|exact rfl) hc) (fun c211=>?_);refine rR (fA cN rfl rfl rfl ?_);refine rR (aCi o201 0 rfl aL rfl rfl ?_);refine rR (fA cN rfl rfl rfl ?_);refine rR (aCi o201 1 rfl aL rfl rfl ?_);refine rR (strLss rfl rfl ?_);refine Br.ffE ‹_› ?_;refine rR (fA cN rfl rfl rfl ?_);refine rR (aCi o201 0 rfl aL rfl rfl ?_);refine rR (fA cN rfl rfl rfl ?_);refine rR (aCi o201 1 rfl aL rfl rfl ?_);refine rR (strGtr rfl rfl ?_);refine Br.ttE ‹_› ?_;refine aC3 rfl ?_
   exact⟨1,rfl,⟨fun e=>absurd e (by decide),fun e=>absurd (congrArg Vl.t e) ht⟩,Own.sel ‹_› [] rfl⟩
theorem zC (x y:It)(c d:aVs)(h:Heap)(hB:iZ x)(hB':iZ y)(hc:itH h c x)(hD:itH h d y) :
  bZ Tryz.prog 68 [.agg ⟨c⟩,.agg ⟨d⟩,.bool false] h fun r h'=>∃ bb:Bool,r=.bool bb∧(bb=true↔vC lS x y)∧Own h [] h':=by
 obtain⟨z,vc,vn,vt,vf,vv,vd,e0,e1,e2,e3,e4,e5,e6,e7,e8,rfl,q1,q2,q3,q4,q5,q6,rx⟩:=hc
 obtain⟨z',uc,un,ut,uf,uv,ud,f0,f1,f2,f3,f4,f5,f6,f7,f8,rfl,w1,w2,w3,w4,w5,w6,px⟩:=hD
 obtain⟨_,_,_,_,_,_,_,_,_,_,_,_,_,_,_,bx,b1,b2,b3,b4,b5,b6⟩:=hB
 obtain⟨_,_,_,_,_,_,_,_,_,_,_,_,_,_,_,dx,d1,d2,d3,d4,d5,d6⟩:=hB'
 obtain⟨y1,z1,rfl⟩:=q1.isS
 obtain⟨y2,z2,rfl⟩:=q2.isS
 obtain⟨y3,z3,rfl⟩:=q3.isS
 obtain⟨y4,z4,rfl⟩:=q4.isS
 obtain⟨y5,z5,rfl⟩:=q5.isS
 obtain⟨y6,z6,rfl⟩:=q6.isS
 obtain⟨yy1,zz1,rfl⟩:=w1.isS
 obtain⟨yy2,zz2,rfl⟩:=w2.isS
 obtain⟨yy3,zz3,rfl⟩:=w3.isS
 obtain⟨yy4,zz4,rfl⟩:=w4.isS
 obtain⟨yy5,zz5,rfl⟩:=w5.isS
 obtain⟨yy6,zz6,rfl⟩:=w6.isS
 rw[gS]at q2 w2
 obtain⟨kind,name,off,table,attr,cols,names,by_,n,m,terms,other,oattr,fixed,vars,conds,expr⟩:=x
 obtain⟨kind',name',off',table',attr',cols',names',by_',n',m',terms',other',oattr',fixed',vars',conds',expr'⟩:=y
 dsimp only at *;unfold fD;dsimp only;have hQ:vC lS ⟨kind,name,off,table,attr,cols,names,by_,n,m,terms,other,oattr,fixed,vars,conds,expr⟩ ⟨kind',name',off',table',attr',cols',names',by_',n',m',terms',other',oattr',fixed',vars',conds',expr'⟩ ↔
   (kind=kind'∧name=name'∧table=table'∧attr=attr'∧by_=by_'∧n=n'∧m=m'∧other=other'∧oattr=oattr')∧cols=cols'∧terms=terms'∧fixed=fixed'∧vars=vars'∧names=names'∧conds=conds'∧ExQ lS expr expr':=by
  constructor
  ·rintro⟨o',ey,he,_,hx⟩
   cases he
   exact⟨⟨rfl,rfl,rfl,rfl,rfl,rfl,rfl,rfl,rfl⟩,rfl,rfl,rfl,rfl,rfl,rfl,hx⟩
  ·rintro⟨⟨rfl,rfl,rfl,rfl,rfl,rfl,rfl,rfl,rfl⟩,rfl,rfl,rfl,rfl,rfl,rfl,hx⟩
   exact⟨off',expr',rfl,trivial,hx⟩
 rw[hQ]
 clear hQ;refine aC1 Tryz.func68 rfl Tryz.ntmps68 (by kernel_rfl) ?_;have o0:=Own.refl h;by_cases c0:kind=kind'
 case neg =>
  (refine aCw o0 rfl ?_;intro b10 m10 o10);(refine aCw o10 rfl ?_;intro b11 m11 o11);refine aCX ?_;refine rR (fA aC rfl rfl rfl ?_);refine rR (aCi o11 0 rfl aS rfl rfl ?_);refine rR (fA aC rfl rfl rfl ?_);refine rR (aCi o11 1 rfl aS rfl rfl ?_);refine aCn (fun c16=>?_) (fun hc=>absurd hc (by first|omega|assumption|decide|exact rfl));refine aCW ?_;refine aC3 rfl ?_
  exact⟨false,rfl,⟨fun h=>(by cases h),fun hq=>absurd hq.1.1 c0⟩,Own.sel ‹_› [] rfl⟩
 subst kind';by_cases c1:name=name'
 case neg =>
  (refine aCw o0 rfl ?_;intro b70 m70 o70);(refine aCw o70 rfl ?_;intro b71 m71 o71);refine aCX ?_;refine rR (fA aC rfl rfl rfl ?_);refine rR (aCi o71 0 rfl aS rfl rfl ?_);refine rR (fA aC rfl rfl rfl ?_);refine rR (aCi o71 1 rfl aS rfl rfl ?_);refine aCn (fun hc=>absurd (by first|omega|assumption|decide|exact rfl) hc) (fun c76=>?_);refine rR (fA aC rfl rfl rfl ?_);refine rR (aCi o71 0 rfl aL rfl rfl ?_);refine rR (fA aC rfl rfl rfl ?_);refine rR (aCi o71 1 rfl aL rfl rfl ?_);refine aCn (fun c81=>?_) (fun hc=>absurd hc (by first|omega|assumption|decide|exact rfl));refine aCW ?_;refine aC3 rfl ?_
  exact⟨false,rfl,⟨fun h=>(by cases h),fun hq=>absurd hq.1.2.1 c1⟩,Own.sel ‹_› [] rfl⟩
 subst name';by_cases c2:table=table'
 case neg =>
  (refine aCw o0 rfl ?_;intro b130 m130 o130);(refine aCw o130 rfl ?_;intro b131 m131 o131);refine aCX ?_;refine rR (fA aC rfl rfl rfl ?_);refine rR (aCi o131 0 rfl aS rfl rfl ?_);refine rR (fA aC rfl rfl rfl ?_);refine rR (aCi o131 1 rfl aS rfl rfl ?_);refine aCn (fun hc=>absurd (by first|omega|assumption|decide|exact rfl) hc) (fun c136=>?_);refine rR (fA aC rfl rfl rfl ?_);refine rR (aCi o131 0 rfl aL rfl rfl ?_);refine rR (fA aC rfl rfl rfl ?_);refine rR (aCi o131 1 rfl aL rfl rfl ?_);refine aCn (fun hc=>absurd (by first|omega|assumption|decide|exact rfl) hc) (fun c141=>?_);refine rR (fA aC rfl rfl rfl ?_);refine rR (aCi o131 0 rfl aL rfl rfl ?_);refine rR (fA aC rfl rfl rfl ?_);refine rR (aCi o131 1 rfl aL rfl rfl ?_);refine aCn (fun c146=>?_) (fun hc=>absurd hc (by first|omega|assumption|decide|exact rfl));refine aCW ?_;refine aC3 rfl ?_
  exact⟨false,rfl,⟨fun h=>(by cases h),fun hq=>absurd hq.1.2.2.1 c2⟩,Own.sel ‹_› [] rfl⟩
 subst table';by_cases c3:attr=attr'
 case neg =>
  (refine aCw o0 rfl ?_;intro b190 m190 o190);(refine aCw o190 rfl ?_;intro b191 m191 o191);refine aCX ?_;refine rR (fA aC rfl rfl rfl ?_);refine rR (aCi o191 0 rfl aS rfl rfl ?_);refine rR (fA aC rfl rfl rfl ?_);refine rR (aCi o191 1 rfl aS rfl rfl ?_);refine aCn (fun hc=>absurd (by first|omega|assumption|decide|exact rfl) hc) (fun c196=>?_);refine rR (fA aC rfl rfl rfl ?_);refine rR (aCi o191 0 rfl aL rfl rfl ?_);refine rR (fA aC rfl rfl rfl ?_);refine rR (aCi o191 1 rfl aL rfl rfl ?_);refine aCn (fun hc=>absurd (by first|omega|assumption|decide|exact rfl) hc) (fun c201=>?_);refine rR (fA aC rfl rfl rfl ?_);refine rR (aCi o191 0 rfl aL rfl rfl ?_);refine rR (fA aC rfl rfl rfl ?_);refine rR (aCi o191 1 rfl aL rfl rfl ?_);refine aCn (fun hc=>absurd (by first|omega|assumption|decide|exact rfl) hc) (fun c206=>?_);refine rR (fA aC rfl rfl rfl ?_);refine rR (aCi o191 0 rfl aL rfl rfl ?_);refine rR (fA aC rfl rfl rfl ?_);refine rR (aCi o191 1 rfl aL rfl rfl ?_);refine aCn (fun c211=>?_) (fun hc=>absurd hc (by first|omega|assumption|decide|exact rfl));refine aCW ?_;refine aC3 rfl ?_
  exact⟨false,rfl,⟨fun h=>(by cases h),fun hq=>absurd hq.1.2.2.2.1 c3⟩,Own.sel ‹_› [] rfl⟩
 subst attr';by_cases c4:by_=by_'
 case neg =>
  (refine aCw o0 rfl ?_;intro b250 m250 o250);(refine aCw o250 rfl ?_;intro b251 m251 o251);refine aCX ?_;refine rR (fA aC rfl rfl rfl ?_);refine rR (aCi o251 0 rfl aS rfl rfl ?_);refine rR (fA aC rfl rfl rfl ?_);refine rR (aCi o251 1 rfl aS rfl rfl ?_);refine aCn (fun hc=>absurd (by first|omega|assumption|decide|exact rfl) hc) (fun c256=>?_);refine rR (fA aC rfl rfl rfl ?_);refine rR (aCi o251 0 rfl aL rfl rfl ?_);refine rR (fA aC rfl rfl rfl ?_);refine rR (aCi o251 1 rfl aL rfl rfl ?_);refine aCn (fun hc=>absurd (by first|omega|assumption|decide|exact rfl) hc) (fun c261=>?_);refine rR (fA aC rfl rfl rfl ?_);refine rR (aCi o251 0 rfl aL rfl rfl ?_);refine rR (fA aC rfl rfl rfl ?_);refine rR (aCi o251 1 rfl aL rfl rfl ?_);refine aCn (fun hc=>absurd (by first|omega|assumption|decide|exact rfl) hc) (fun c266=>?_);refine rR (fA aC rfl rfl rfl ?_);refine rR (aCi o251 0 rfl aL rfl rfl ?_);refine rR (fA aC rfl rfl rfl ?_);refine rR (aCi o251 1 rfl aL rfl rfl ?_);refine aCn (fun hc=>absurd (by first|omega|assumption|decide|exact rfl) hc) (fun c271=>?_);refine rR (fA aC rfl rfl rfl ?_);refine rR (aCi o251 0 rfl aS rfl rfl ?_);refine rR (fA aC rfl rfl rfl ?_);refine rR (aCi o251 1 rfl aS rfl rfl ?_);refine aCn (fun c276=>?_) (fun hc=>absurd hc (by first|omega|assumption|decide|exact rfl));refine aCW ?_;refine aC3 rfl ?_
  exact⟨false,rfl,⟨fun h=>(by cases h),fun hq=>absurd hq.1.2.2.2.2.1 c4⟩,Own.sel ‹_› [] rfl⟩
 subst by_';by_cases c5:n=n'
 case neg =>
  (refine aCw o0 rfl ?_;intro b310 m310 o310);(refine aCw o310 rfl ?_;intro b311 m311 o311);refine aCX ?_;refine rR (fA aC rfl rfl rfl ?_);refine rR (aCi o311 0 rfl aS rfl rfl ?_);refine rR (fA aC rfl rfl rfl ?_);refine rR (aCi o311 1 rfl aS rfl rfl ?_);refine aCn (fun hc=>absurd (by first|omega|assumption|decide|exact rfl) hc) (fun c316=>?_);refine rR (fA aC rfl rfl rfl ?_);refine rR (aCi o311 0 rfl aL rfl rfl ?_);refine rR (fA aC rfl rfl rfl ?_);refine rR (aCi o311 1 rfl aL rfl rfl ?_);refine aCn (fun hc=>absurd (by first|omega|assumption|decide|exact rfl) hc) (fun c321=>?_);refine rR (fA aC rfl rfl rfl ?_);refine rR (aCi o311 0 rfl aL rfl rfl ?_);refine rR (fA aC rfl rfl rfl ?_);refine rR (aCi o311 1 rfl aL rfl rfl ?_);refine aCn (fun hc=>absurd (by first|omega|assumption|decide|exact rfl) hc) (fun c326=>?_);refine rR (fA aC rfl rfl rfl ?_);refine rR (aCi o311 0 rfl aL rfl rfl ?_);refine rR (fA aC rfl rfl rfl ?_);refine rR (aCi o311 1 rfl aL rfl rfl ?_);refine aCn (fun hc=>absurd (by first|omega|assumption|decide|exact rfl) hc) (fun c331=>?_);refine rR (fA aC rfl rfl rfl ?_);refine rR (aCi o311 0 rfl aS rfl rfl ?_);refine rR (fA aC rfl rfl rfl ?_);refine rR (aCi o311 1 rfl aS rfl rfl ?_);refine aCn (fun hc=>absurd (by first|omega|assumption|decide|exact rfl) hc) (fun c336=>?_);refine rR (fA aC rfl rfl rfl ?_);refine rR (aCi o311 0 rfl aS rfl rfl ?_);refine rR (fA aC rfl rfl rfl ?_);refine rR (aCi o311 1 rfl aS rfl rfl ?_);refine aCn (fun c341=>?_) (fun hc=>absurd hc (by first|omega|assumption|decide|exact rfl))
  refine aCW ?_;refine aC3 rfl ?_
  exact⟨false,rfl,⟨fun h=>(by cases h),fun hq=>absurd hq.1.2.2.2.2.2.1 c5⟩,Own.sel ‹_› [] rfl⟩
 subst n';by_cases c6:m=m'
 case neg =>
  (refine aCw o0 rfl ?_;intro b370 m370 o370);(refine aCw o370 rfl ?_;intro b371 m371 o371);refine aCX ?_;refine rR (fA aC rfl rfl rfl ?_);refine rR (aCi o371 0 rfl aS rfl rfl ?_);refine rR (fA aC rfl rfl rfl ?_);refine rR (aCi o371 1 rfl aS rfl rfl ?_);refine aCn (fun hc=>absurd (by first|omega|assumption|decide|exact rfl) hc) (fun c376=>?_);refine rR (fA aC rfl rfl rfl ?_);refine rR (aCi o371 0 rfl aL rfl rfl ?_);refine rR (fA aC rfl rfl rfl ?_);refine rR (aCi o371 1 rfl aL rfl rfl ?_);refine aCn (fun hc=>absurd (by first|omega|assumption|decide|exact rfl) hc) (fun c381=>?_);refine rR (fA aC rfl rfl rfl ?_);refine rR (aCi o371 0 rfl aL rfl rfl ?_);refine rR (fA aC rfl rfl rfl ?_);refine rR (aCi o371 1 rfl aL rfl rfl ?_);refine aCn (fun hc=>absurd (by first|omega|assumption|decide|exact rfl) hc) (fun c386=>?_);refine rR (fA aC rfl rfl rfl ?_);refine rR (aCi o371 0 rfl aL rfl rfl ?_);refine rR (fA aC rfl rfl rfl ?_);refine rR (aCi o371 1 rfl aL rfl rfl ?_);refine aCn (fun hc=>absurd (by first|omega|assumption|decide|exact rfl) hc) (fun c391=>?_);refine rR (fA aC rfl rfl rfl ?_);refine rR (aCi o371 0 rfl aS rfl rfl ?_);refine rR (fA aC rfl rfl rfl ?_);refine rR (aCi o371 1 rfl aS rfl rfl ?_);refine aCn (fun hc=>absurd (by first|omega|assumption|decide|exact rfl) hc) (fun c396=>?_);refine rR (fA aC rfl rfl rfl ?_);refine rR (aCi o371 0 rfl aS rfl rfl ?_);refine rR (fA aC rfl rfl rfl ?_);refine rR (aCi o371 1 rfl aS rfl rfl ?_);refine aCn (fun hc=>absurd (by first|omega|assumption|decide|exact rfl) hc) (fun c401=>?_)
  refine rR (fA aC rfl rfl rfl ?_);refine rR (aCi o371 0 rfl aS rfl rfl ?_);refine rR (fA aC rfl rfl rfl ?_);refine rR (aCi o371 1 rfl aS rfl rfl ?_);refine aCn (fun c406=>?_) (fun hc=>absurd hc (by first|omega|assumption|decide|exact rfl));refine aCW ?_;refine aC3 rfl ?_
  exact⟨false,rfl,⟨fun h=>(by cases h),fun hq=>absurd hq.1.2.2.2.2.2.2.1 c6⟩,Own.sel ‹_› [] rfl⟩
 subst m';by_cases c7:other=other'
 case neg =>
  (refine aCw o0 rfl ?_;intro b430 m430 o430);(refine aCw o430 rfl ?_;intro b431 m431 o431);refine aCX ?_;refine rR (fA aC rfl rfl rfl ?_);refine rR (aCi o431 0 rfl aS rfl rfl ?_);refine rR (fA aC rfl rfl rfl ?_);refine rR (aCi o431 1 rfl aS rfl rfl ?_);refine aCn (fun hc=>absurd (by first|omega|assumption|decide|exact rfl) hc) (fun c436=>?_);refine rR (fA aC rfl rfl rfl ?_);refine rR (aCi o431 0 rfl aL rfl rfl ?_);refine rR (fA aC rfl rfl rfl ?_);refine rR (aCi o431 1 rfl aL rfl rfl ?_);refine aCn (fun hc=>absurd (by first|omega|assumption|decide|exact rfl) hc) (fun c441=>?_);refine rR (fA aC rfl rfl rfl ?_);refine rR (aCi o431 0 rfl aL rfl rfl ?_);refine rR (fA aC rfl rfl rfl ?_);refine rR (aCi o431 1 rfl aL rfl rfl ?_);refine aCn (fun hc=>absurd (by first|omega|assumption|decide|exact rfl) hc) (fun c446=>?_);refine rR (fA aC rfl rfl rfl ?_);refine rR (aCi o431 0 rfl aL rfl rfl ?_);refine rR (fA aC rfl rfl rfl ?_);refine rR (aCi o431 1 rfl aL rfl rfl ?_);refine aCn (fun hc=>absurd (by first|omega|assumption|decide|exact rfl) hc) (fun c451=>?_);refine rR (fA aC rfl rfl rfl ?_);refine rR (aCi o431 0 rfl aS rfl rfl ?_);refine rR (fA aC rfl rfl rfl ?_);refine rR (aCi o431 1 rfl aS rfl rfl ?_);refine aCn (fun hc=>absurd (by first|omega|assumption|decide|exact rfl) hc) (fun c456=>?_);refine rR (fA aC rfl rfl rfl ?_);refine rR (aCi o431 0 rfl aS rfl rfl ?_);refine rR (fA aC rfl rfl rfl ?_);refine rR (aCi o431 1 rfl aS rfl rfl ?_);refine aCn (fun hc=>absurd (by first|omega|assumption|decide|exact rfl) hc) (fun c461=>?_)
  refine rR (fA aC rfl rfl rfl ?_);refine rR (aCi o431 0 rfl aS rfl rfl ?_);refine rR (fA aC rfl rfl rfl ?_);refine rR (aCi o431 1 rfl aS rfl rfl ?_);refine aCn (fun hc=>absurd (by first|omega|assumption|decide|exact rfl) hc) (fun c466=>?_);refine rR (fA aC rfl rfl rfl ?_);refine rR (aCi o431 0 rfl aL rfl rfl ?_);refine rR (fA aC rfl rfl rfl ?_);refine rR (aCi o431 1 rfl aL rfl rfl ?_);refine aCn (fun c471=>?_) (fun hc=>absurd hc (by first|omega|assumption|decide|exact rfl));refine aCW ?_;refine aC3 rfl ?_
  exact⟨false,rfl,⟨fun h=>(by cases h),fun hq=>absurd hq.1.2.2.2.2.2.2.2.1 c7⟩,Own.sel ‹_› [] rfl⟩
 subst other';by_cases c8:oattr=oattr'
 case neg =>
  (refine aCw o0 rfl ?_;intro b490 m490 o490);(refine aCw o490 rfl ?_;intro b491 m491 o491);refine aCX ?_;refine rR (fA aC rfl rfl rfl ?_);refine rR (aCi o491 0 rfl aS rfl rfl ?_);refine rR (fA aC rfl rfl rfl ?_);refine rR (aCi o491 1 rfl aS rfl rfl ?_);refine aCn (fun hc=>absurd (by first|omega|assumption|decide|exact rfl) hc) (fun c496=>?_);refine rR (fA aC rfl rfl rfl ?_);refine rR (aCi o491 0 rfl aL rfl rfl ?_);refine rR (fA aC rfl rfl rfl ?_);refine rR (aCi o491 1 rfl aL rfl rfl ?_);refine aCn (fun hc=>absurd (by first|omega|assumption|decide|exact rfl) hc) (fun c501=>?_);refine rR (fA aC rfl rfl rfl ?_);refine rR (aCi o491 0 rfl aL rfl rfl ?_);refine rR (fA aC rfl rfl rfl ?_);refine rR (aCi o491 1 rfl aL rfl rfl ?_);refine aCn (fun hc=>absurd (by first|omega|assumption|decide|exact rfl) hc) (fun c506=>?_);refine rR (fA aC rfl rfl rfl ?_);refine rR (aCi o491 0 rfl aL rfl rfl ?_);refine rR (fA aC rfl rfl rfl ?_);refine rR (aCi o491 1 rfl aL rfl rfl ?_);refine aCn (fun hc=>absurd (by first|omega|assumption|decide|exact rfl) hc) (fun c511=>?_);refine rR (fA aC rfl rfl rfl ?_);refine rR (aCi o491 0 rfl aS rfl rfl ?_);refine rR (fA aC rfl rfl rfl ?_);refine rR (aCi o491 1 rfl aS rfl rfl ?_);refine aCn (fun hc=>absurd (by first|omega|assumption|decide|exact rfl) hc) (fun c516=>?_);refine rR (fA aC rfl rfl rfl ?_);refine rR (aCi o491 0 rfl aS rfl rfl ?_);refine rR (fA aC rfl rfl rfl ?_);refine rR (aCi o491 1 rfl aS rfl rfl ?_);refine aCn (fun hc=>absurd (by first|omega|assumption|decide|exact rfl) hc) (fun c521=>?_)
  refine rR (fA aC rfl rfl rfl ?_);refine rR (aCi o491 0 rfl aS rfl rfl ?_);refine rR (fA aC rfl rfl rfl ?_);refine rR (aCi o491 1 rfl aS rfl rfl ?_);refine aCn (fun hc=>absurd (by first|omega|assumption|decide|exact rfl) hc) (fun c526=>?_);refine rR (fA aC rfl rfl rfl ?_);refine rR (aCi o491 0 rfl aL rfl rfl ?_);refine rR (fA aC rfl rfl rfl ?_);refine rR (aCi o491 1 rfl aL rfl rfl ?_);refine aCn (fun hc=>absurd (by first|omega|assumption|decide|exact rfl) hc) (fun c531=>?_);refine rR (fA aC rfl rfl rfl ?_);refine rR (aCi o491 0 rfl aL rfl rfl ?_);refine rR (fA aC rfl rfl rfl ?_);refine rR (aCi o491 1 rfl aL rfl rfl ?_);refine aCn (fun c536=>?_) (fun hc=>absurd hc (by first|omega|assumption|decide|exact rfl));refine aC3 rfl ?_
  exact⟨false,rfl,⟨fun h=>(by cases h),fun hq=>absurd hq.1.2.2.2.2.2.2.2.2 c8⟩,Own.sel ‹_› [] rfl⟩
 subst oattr';by_cases l0:cols.length=cols'.length
 case neg =>
  (refine aCw o0 rfl ?_;intro b550 m550 o550);(refine aCw o550 rfl ?_;intro b551 m551 o551);refine aCX ?_;refine rR (fA aC rfl rfl rfl ?_);refine rR (aCi o551 0 rfl aS rfl rfl ?_);refine rR (fA aC rfl rfl rfl ?_);refine rR (aCi o551 1 rfl aS rfl rfl ?_);refine aCn (fun hc=>absurd (by first|omega|assumption|decide|exact rfl) hc) (fun c556=>?_);refine rR (fA aC rfl rfl rfl ?_);refine rR (aCi o551 0 rfl aL rfl rfl ?_);refine rR (fA aC rfl rfl rfl ?_);refine rR (aCi o551 1 rfl aL rfl rfl ?_);refine aCn (fun hc=>absurd (by first|omega|assumption|decide|exact rfl) hc) (fun c561=>?_);refine rR (fA aC rfl rfl rfl ?_);refine rR (aCi o551 0 rfl aL rfl rfl ?_);refine rR (fA aC rfl rfl rfl ?_);refine rR (aCi o551 1 rfl aL rfl rfl ?_);refine aCn (fun hc=>absurd (by first|omega|assumption|decide|exact rfl) hc) (fun c566=>?_);refine rR (fA aC rfl rfl rfl ?_);refine rR (aCi o551 0 rfl aL rfl rfl ?_);refine rR (fA aC rfl rfl rfl ?_);refine rR (aCi o551 1 rfl aL rfl rfl ?_);refine aCn (fun hc=>absurd (by first|omega|assumption|decide|exact rfl) hc) (fun c571=>?_);refine rR (fA aC rfl rfl rfl ?_);refine rR (aCi o551 0 rfl aS rfl rfl ?_);refine rR (fA aC rfl rfl rfl ?_);refine rR (aCi o551 1 rfl aS rfl rfl ?_);refine aCn (fun hc=>absurd (by first|omega|assumption|decide|exact rfl) hc) (fun c576=>?_);refine rR (fA aC rfl rfl rfl ?_);refine rR (aCi o551 0 rfl aS rfl rfl ?_);refine rR (fA aC rfl rfl rfl ?_);refine rR (aCi o551 1 rfl aS rfl rfl ?_);refine aCn (fun hc=>absurd (by first|omega|assumption|decide|exact rfl) hc) (fun c581=>?_)
  refine rR (fA aC rfl rfl rfl ?_);refine rR (aCi o551 0 rfl aS rfl rfl ?_);refine rR (fA aC rfl rfl rfl ?_);refine rR (aCi o551 1 rfl aS rfl rfl ?_);refine aCn (fun hc=>absurd (by first|omega|assumption|decide|exact rfl) hc) (fun c586=>?_);refine rR (fA aC rfl rfl rfl ?_);refine rR (aCi o551 0 rfl aL rfl rfl ?_);refine rR (fA aC rfl rfl rfl ?_);refine rR (aCi o551 1 rfl aL rfl rfl ?_);refine aCn (fun hc=>absurd (by first|omega|assumption|decide|exact rfl) hc) (fun c591=>?_);refine rR (fA aC rfl rfl rfl ?_);refine rR (aCi o551 0 rfl aL rfl rfl ?_);refine rR (fA aC rfl rfl rfl ?_);refine rR (aCi o551 1 rfl aL rfl rfl ?_);refine aCn (fun hc=>absurd (by first|omega|assumption|decide|exact rfl) hc) (fun c596=>?_);refine rR (fA aC rfl rfl rfl ?_);refine rR (aCi o551 0 rfl lY rfl rfl ?_);refine rR (aCq rfl kK ?_);refine rR (fA aC rfl rfl rfl ?_);refine rR (aCi o551 1 rfl lY rfl rfl ?_);refine rR (aCq rfl kK ?_);refine aCn (fun c603=>?_) (fun hc=>absurd hc (by first|omega|assumption|decide|exact rfl));refine aCW ?_;refine aC3 rfl ?_
  exact⟨false,rfl,⟨fun h=>(by cases h),fun hq=>absurd (congrArg List.length hq.2.1) l0⟩,Own.sel ‹_› [] rfl⟩
 by_cases l1:terms.length=terms'.length
 case neg =>
  (refine aCw o0 rfl ?_;intro b610 m610 o610);(refine aCw o610 rfl ?_;intro b611 m611 o611);refine aCX ?_;refine rR (fA aC rfl rfl rfl ?_);refine rR (aCi o611 0 rfl aS rfl rfl ?_);refine rR (fA aC rfl rfl rfl ?_);refine rR (aCi o611 1 rfl aS rfl rfl ?_);refine aCn (fun hc=>absurd (by first|omega|assumption|decide|exact rfl) hc) (fun c616=>?_);refine rR (fA aC rfl rfl rfl ?_);refine rR (aCi o611 0 rfl aL rfl rfl ?_);refine rR (fA aC rfl rfl rfl ?_);refine rR (aCi o611 1 rfl aL rfl rfl ?_);refine aCn (fun hc=>absurd (by first|omega|assumption|decide|exact rfl) hc) (fun c621=>?_);refine rR (fA aC rfl rfl rfl ?_);refine rR (aCi o611 0 rfl aL rfl rfl ?_);refine rR (fA aC rfl rfl rfl ?_);refine rR (aCi o611 1 rfl aL rfl rfl ?_);refine aCn (fun hc=>absurd (by first|omega|assumption|decide|exact rfl) hc) (fun c626=>?_);refine rR (fA aC rfl rfl rfl ?_);refine rR (aCi o611 0 rfl aL rfl rfl ?_);refine rR (fA aC rfl rfl rfl ?_);refine rR (aCi o611 1 rfl aL rfl rfl ?_);refine aCn (fun hc=>absurd (by first|omega|assumption|decide|exact rfl) hc) (fun c631=>?_);refine rR (fA aC rfl rfl rfl ?_);refine rR (aCi o611 0 rfl aS rfl rfl ?_);refine rR (fA aC rfl rfl rfl ?_);refine rR (aCi o611 1 rfl aS rfl rfl ?_);refine aCn (fun hc=>absurd (by first|omega|assumption|decide|exact rfl) hc) (fun c636=>?_);refine rR (fA aC rfl rfl rfl ?_);refine rR (aCi o611 0 rfl aS rfl rfl ?_);refine rR (fA aC rfl rfl rfl ?_);refine rR (aCi o611 1 rfl aS rfl rfl ?_);refine aCn (fun hc=>absurd (by first|omega|assumption|decide|exact rfl) hc) (fun c641=>?_)
  refine rR (fA aC rfl rfl rfl ?_);refine rR (aCi o611 0 rfl aS rfl rfl ?_);refine rR (fA aC rfl rfl rfl ?_);refine rR (aCi o611 1 rfl aS rfl rfl ?_);refine aCn (fun hc=>absurd (by first|omega|assumption|decide|exact rfl) hc) (fun c646=>?_);refine rR (fA aC rfl rfl rfl ?_);refine rR (aCi o611 0 rfl aL rfl rfl ?_);refine rR (fA aC rfl rfl rfl ?_);refine rR (aCi o611 1 rfl aL rfl rfl ?_);refine aCn (fun hc=>absurd (by first|omega|assumption|decide|exact rfl) hc) (fun c651=>?_);refine rR (fA aC rfl rfl rfl ?_);refine rR (aCi o611 0 rfl aL rfl rfl ?_);refine rR (fA aC rfl rfl rfl ?_);refine rR (aCi o611 1 rfl aL rfl rfl ?_);refine aCn (fun hc=>absurd (by first|omega|assumption|decide|exact rfl) hc) (fun c656=>?_);refine rR (fA aC rfl rfl rfl ?_);refine rR (aCi o611 0 rfl lY rfl rfl ?_);refine rR (aCq rfl kK ?_);refine rR (fA aC rfl rfl rfl ?_);refine rR (aCi o611 1 rfl lY rfl rfl ?_);refine rR (aCq rfl kK ?_);refine aCn (fun hc=>absurd (by first|omega|assumption|decide|exact rfl) hc) (fun c663=>?_);refine rR (fA aC rfl rfl rfl ?_);refine rR (aCi o611 0 rfl nU rfl rfl ?_);refine rR (aCq rfl nW ?_);refine rR (fA aC rfl rfl rfl ?_);refine rR (aCi o611 1 rfl nU rfl rfl ?_);refine rR (aCq rfl nW ?_);refine aCn (fun c670=>?_) (fun hc=>absurd hc (by first|omega|assumption|decide|exact rfl));refine aCW ?_;refine aC3 rfl ?_
  exact⟨false,rfl,⟨fun h=>(by cases h),fun hq=>absurd (congrArg List.length hq.2.2.1) l1⟩,Own.sel ‹_› [] rfl⟩
 by_cases l2:fixed.length=fixed'.length
 case neg =>
  (refine aCw o0 rfl ?_;intro b670 m670 o670);(refine aCw o670 rfl ?_;intro b671 m671 o671);refine aCX ?_;refine rR (fA aC rfl rfl rfl ?_);refine rR (aCi o671 0 rfl aS rfl rfl ?_);refine rR (fA aC rfl rfl rfl ?_);refine rR (aCi o671 1 rfl aS rfl rfl ?_);refine aCn (fun hc=>absurd (by first|omega|assumption|decide|exact rfl) hc) (fun c676=>?_);refine rR (fA aC rfl rfl rfl ?_);refine rR (aCi o671 0 rfl aL rfl rfl ?_);refine rR (fA aC rfl rfl rfl ?_);refine rR (aCi o671 1 rfl aL rfl rfl ?_);refine aCn (fun hc=>absurd (by first|omega|assumption|decide|exact rfl) hc) (fun c681=>?_);refine rR (fA aC rfl rfl rfl ?_);refine rR (aCi o671 0 rfl aL rfl rfl ?_);refine rR (fA aC rfl rfl rfl ?_);refine rR (aCi o671 1 rfl aL rfl rfl ?_);refine aCn (fun hc=>absurd (by first|omega|assumption|decide|exact rfl) hc) (fun c686=>?_);refine rR (fA aC rfl rfl rfl ?_);refine rR (aCi o671 0 rfl aL rfl rfl ?_);refine rR (fA aC rfl rfl rfl ?_);refine rR (aCi o671 1 rfl aL rfl rfl ?_);refine aCn (fun hc=>absurd (by first|omega|assumption|decide|exact rfl) hc) (fun c691=>?_);refine rR (fA aC rfl rfl rfl ?_);refine rR (aCi o671 0 rfl aS rfl rfl ?_);refine rR (fA aC rfl rfl rfl ?_);refine rR (aCi o671 1 rfl aS rfl rfl ?_);refine aCn (fun hc=>absurd (by first|omega|assumption|decide|exact rfl) hc) (fun c696=>?_);refine rR (fA aC rfl rfl rfl ?_);refine rR (aCi o671 0 rfl aS rfl rfl ?_);refine rR (fA aC rfl rfl rfl ?_);refine rR (aCi o671 1 rfl aS rfl rfl ?_);refine aCn (fun hc=>absurd (by first|omega|assumption|decide|exact rfl) hc) (fun c701=>?_)
  refine rR (fA aC rfl rfl rfl ?_);refine rR (aCi o671 0 rfl aS rfl rfl ?_);refine rR (fA aC rfl rfl rfl ?_);refine rR (aCi o671 1 rfl aS rfl rfl ?_);refine aCn (fun hc=>absurd (by first|omega|assumption|decide|exact rfl) hc) (fun c706=>?_);refine rR (fA aC rfl rfl rfl ?_);refine rR (aCi o671 0 rfl aL rfl rfl ?_);refine rR (fA aC rfl rfl rfl ?_);refine rR (aCi o671 1 rfl aL rfl rfl ?_);refine aCn (fun hc=>absurd (by first|omega|assumption|decide|exact rfl) hc) (fun c711=>?_);refine rR (fA aC rfl rfl rfl ?_);refine rR (aCi o671 0 rfl aL rfl rfl ?_);refine rR (fA aC rfl rfl rfl ?_);refine rR (aCi o671 1 rfl aL rfl rfl ?_);refine aCn (fun hc=>absurd (by first|omega|assumption|decide|exact rfl) hc) (fun c716=>?_);refine rR (fA aC rfl rfl rfl ?_);refine rR (aCi o671 0 rfl lY rfl rfl ?_);refine rR (aCq rfl kK ?_);refine rR (fA aC rfl rfl rfl ?_);refine rR (aCi o671 1 rfl lY rfl rfl ?_);refine rR (aCq rfl kK ?_);refine aCn (fun hc=>absurd (by first|omega|assumption|decide|exact rfl) hc) (fun c723=>?_);refine rR (fA aC rfl rfl rfl ?_);refine rR (aCi o671 0 rfl nU rfl rfl ?_);refine rR (aCq rfl nW ?_);refine rR (fA aC rfl rfl rfl ?_);refine rR (aCi o671 1 rfl nU rfl rfl ?_);refine rR (aCq rfl nW ?_);refine aCn (fun hc=>absurd (by first|omega|assumption|decide|exact rfl) hc) (fun c730=>?_);refine rR (fA aC rfl rfl rfl ?_);refine rR (aCi o671 0 rfl oJ rfl rfl ?_);refine rR (aCq rfl nH ?_);refine rR (fA aC rfl rfl rfl ?_);refine rR (aCi o671 1 rfl oJ rfl rfl ?_);refine rR (aCq rfl nH ?_);refine aCn (fun c737=>?_) (fun hc=>absurd hc (by first|omega|assumption|decide|exact rfl))
  refine aCW ?_;refine aC3 rfl ?_
  exact⟨false,rfl,⟨fun h=>(by cases h),fun hq=>absurd (congrArg List.length hq.2.2.2.1) l2⟩,Own.sel ‹_› [] rfl⟩
 by_cases l3:vars.length=vars'.length
 case neg =>
  (refine aCw o0 rfl ?_;intro b730 m730 o730);(refine aCw o730 rfl ?_;intro b731 m731 o731);refine aCX ?_;refine rR (fA aC rfl rfl rfl ?_);refine rR (aCi o731 0 rfl aS rfl rfl ?_);refine rR (fA aC rfl rfl rfl ?_);refine rR (aCi o731 1 rfl aS rfl rfl ?_);refine aCn (fun hc=>absurd (by first|omega|assumption|decide|exact rfl) hc) (fun c736=>?_);refine rR (fA aC rfl rfl rfl ?_);refine rR (aCi o731 0 rfl aL rfl rfl ?_);refine rR (fA aC rfl rfl rfl ?_);refine rR (aCi o731 1 rfl aL rfl rfl ?_);refine aCn (fun hc=>absurd (by first|omega|assumption|decide|exact rfl) hc) (fun c741=>?_);refine rR (fA aC rfl rfl rfl ?_);refine rR (aCi o731 0 rfl aL rfl rfl ?_);refine rR (fA aC rfl rfl rfl ?_);refine rR (aCi o731 1 rfl aL rfl rfl ?_);refine aCn (fun hc=>absurd (by first|omega|assumption|decide|exact rfl) hc) (fun c746=>?_);refine rR (fA aC rfl rfl rfl ?_);refine rR (aCi o731 0 rfl aL rfl rfl ?_);refine rR (fA aC rfl rfl rfl ?_);refine rR (aCi o731 1 rfl aL rfl rfl ?_);refine aCn (fun hc=>absurd (by first|omega|assumption|decide|exact rfl) hc) (fun c751=>?_);refine rR (fA aC rfl rfl rfl ?_);refine rR (aCi o731 0 rfl aS rfl rfl ?_);refine rR (fA aC rfl rfl rfl ?_);refine rR (aCi o731 1 rfl aS rfl rfl ?_);refine aCn (fun hc=>absurd (by first|omega|assumption|decide|exact rfl) hc) (fun c756=>?_);refine rR (fA aC rfl rfl rfl ?_);refine rR (aCi o731 0 rfl aS rfl rfl ?_);refine rR (fA aC rfl rfl rfl ?_);refine rR (aCi o731 1 rfl aS rfl rfl ?_);refine aCn (fun hc=>absurd (by first|omega|assumption|decide|exact rfl) hc) (fun c761=>?_)
  refine rR (fA aC rfl rfl rfl ?_);refine rR (aCi o731 0 rfl aS rfl rfl ?_);refine rR (fA aC rfl rfl rfl ?_);refine rR (aCi o731 1 rfl aS rfl rfl ?_);refine aCn (fun hc=>absurd (by first|omega|assumption|decide|exact rfl) hc) (fun c766=>?_);refine rR (fA aC rfl rfl rfl ?_);refine rR (aCi o731 0 rfl aL rfl rfl ?_);refine rR (fA aC rfl rfl rfl ?_);refine rR (aCi o731 1 rfl aL rfl rfl ?_);refine aCn (fun hc=>absurd (by first|omega|assumption|decide|exact rfl) hc) (fun c771=>?_);refine rR (fA aC rfl rfl rfl ?_);refine rR (aCi o731 0 rfl aL rfl rfl ?_);refine rR (fA aC rfl rfl rfl ?_);refine rR (aCi o731 1 rfl aL rfl rfl ?_);refine aCn (fun hc=>absurd (by first|omega|assumption|decide|exact rfl) hc) (fun c776=>?_);refine rR (fA aC rfl rfl rfl ?_);refine rR (aCi o731 0 rfl lY rfl rfl ?_);refine rR (aCq rfl kK ?_);refine rR (fA aC rfl rfl rfl ?_);refine rR (aCi o731 1 rfl lY rfl rfl ?_);refine rR (aCq rfl kK ?_);refine aCn (fun hc=>absurd (by first|omega|assumption|decide|exact rfl) hc) (fun c783=>?_);refine rR (fA aC rfl rfl rfl ?_);refine rR (aCi o731 0 rfl nU rfl rfl ?_);refine rR (aCq rfl nW ?_);refine rR (fA aC rfl rfl rfl ?_);refine rR (aCi o731 1 rfl nU rfl rfl ?_);refine rR (aCq rfl nW ?_);refine aCn (fun hc=>absurd (by first|omega|assumption|decide|exact rfl) hc) (fun c790=>?_);refine rR (fA aC rfl rfl rfl ?_);refine rR (aCi o731 0 rfl oJ rfl rfl ?_);refine rR (aCq rfl nH ?_);refine rR (fA aC rfl rfl rfl ?_);refine rR (aCi o731 1 rfl oJ rfl rfl ?_);refine rR (aCq rfl nH ?_);refine aCn (fun hc=>absurd (by first|omega|assumption|decide|exact rfl) hc) (fun c797=>?_)
  refine rR (fA aC rfl rfl rfl ?_);refine rR (aCi o731 0 rfl pJ rfl rfl ?_);refine rR (aCq rfl nV ?_);refine rR (fA aC rfl rfl rfl ?_);refine rR (aCi o731 1 rfl pJ rfl rfl ?_);refine rR (aCq rfl nV ?_);refine aCn (fun c804=>?_) (fun hc=>absurd hc (by first|omega|assumption|decide|exact rfl));refine aCW ?_;refine aC3 rfl ?_
  exact⟨false,rfl,⟨fun h=>(by cases h),fun hq=>absurd (congrArg List.length hq.2.2.2.2.1) l3⟩,Own.sel ‹_› [] rfl⟩
 (refine aCw o0 rfl ?_;intro b1000 m1000 o1000);(refine aCw o1000 rfl ?_;intro b1001 m1001 o1001);refine aCX ?_;refine rR (fA aC rfl rfl rfl ?_);refine rR (aCi o1001 0 rfl aS rfl rfl ?_);refine rR (fA aC rfl rfl rfl ?_);refine rR (aCi o1001 1 rfl aS rfl rfl ?_);refine aCn (fun hc=>absurd (by first|omega|assumption|decide|exact rfl) hc) (fun c1006=>?_);refine rR (fA aC rfl rfl rfl ?_);refine rR (aCi o1001 0 rfl aL rfl rfl ?_);refine rR (fA aC rfl rfl rfl ?_);refine rR (aCi o1001 1 rfl aL rfl rfl ?_);refine aCn (fun hc=>absurd (by first|omega|assumption|decide|exact rfl) hc) (fun c1011=>?_);refine rR (fA aC rfl rfl rfl ?_);refine rR (aCi o1001 0 rfl aL rfl rfl ?_);refine rR (fA aC rfl rfl rfl ?_);refine rR (aCi o1001 1 rfl aL rfl rfl ?_);refine aCn (fun hc=>absurd (by first|omega|assumption|decide|exact rfl) hc) (fun c1016=>?_);refine rR (fA aC rfl rfl rfl ?_);refine rR (aCi o1001 0 rfl aL rfl rfl ?_);refine rR (fA aC rfl rfl rfl ?_);refine rR (aCi o1001 1 rfl aL rfl rfl ?_);refine aCn (fun hc=>absurd (by first|omega|assumption|decide|exact rfl) hc) (fun c1021=>?_);refine rR (fA aC rfl rfl rfl ?_);refine rR (aCi o1001 0 rfl aS rfl rfl ?_);refine rR (fA aC rfl rfl rfl ?_);refine rR (aCi o1001 1 rfl aS rfl rfl ?_);refine aCn (fun hc=>absurd (by first|omega|assumption|decide|exact rfl) hc) (fun c1026=>?_);refine rR (fA aC rfl rfl rfl ?_);refine rR (aCi o1001 0 rfl aS rfl rfl ?_);refine rR (fA aC rfl rfl rfl ?_);refine rR (aCi o1001 1 rfl aS rfl rfl ?_);refine aCn (fun hc=>absurd (by first|omega|assumption|decide|exact rfl) hc) (fun c1031=>?_)
 refine rR (fA aC rfl rfl rfl ?_);refine rR (aCi o1001 0 rfl aS rfl rfl ?_);refine rR (fA aC rfl rfl rfl ?_);refine rR (aCi o1001 1 rfl aS rfl rfl ?_);refine aCn (fun hc=>absurd (by first|omega|assumption|decide|exact rfl) hc) (fun c1036=>?_);refine rR (fA aC rfl rfl rfl ?_);refine rR (aCi o1001 0 rfl aL rfl rfl ?_);refine rR (fA aC rfl rfl rfl ?_);refine rR (aCi o1001 1 rfl aL rfl rfl ?_);refine aCn (fun hc=>absurd (by first|omega|assumption|decide|exact rfl) hc) (fun c1041=>?_);refine rR (fA aC rfl rfl rfl ?_);refine rR (aCi o1001 0 rfl aL rfl rfl ?_);refine rR (fA aC rfl rfl rfl ?_);refine rR (aCi o1001 1 rfl aL rfl rfl ?_);refine aCn (fun hc=>absurd (by first|omega|assumption|decide|exact rfl) hc) (fun c1046=>?_);refine rR (fA aC rfl rfl rfl ?_);refine rR (aCi o1001 0 rfl lY rfl rfl ?_);refine rR (aCq rfl kK ?_);refine rR (fA aC rfl rfl rfl ?_);refine rR (aCi o1001 1 rfl lY rfl rfl ?_);refine rR (aCq rfl kK ?_);refine aCn (fun hc=>absurd (by first|omega|assumption|decide|exact rfl) hc) (fun c1053=>?_);refine rR (fA aC rfl rfl rfl ?_);refine rR (aCi o1001 0 rfl nU rfl rfl ?_);refine rR (aCq rfl nW ?_);refine rR (fA aC rfl rfl rfl ?_);refine rR (aCi o1001 1 rfl nU rfl rfl ?_);refine rR (aCq rfl nW ?_);refine aCn (fun hc=>absurd (by first|omega|assumption|decide|exact rfl) hc) (fun c1060=>?_);refine rR (fA aC rfl rfl rfl ?_);refine rR (aCi o1001 0 rfl oJ rfl rfl ?_);refine rR (aCq rfl nH ?_);refine rR (fA aC rfl rfl rfl ?_);refine rR (aCi o1001 1 rfl oJ rfl rfl ?_);refine rR (aCq rfl nH ?_)
 refine aCn (fun hc=>absurd (by first|omega|assumption|decide|exact rfl) hc) (fun c1067=>?_);refine rR (fA aC rfl rfl rfl ?_);refine rR (aCi o1001 0 rfl pJ rfl rfl ?_);refine rR (aCq rfl nV ?_);refine rR (fA aC rfl rfl rfl ?_);refine rR (aCi o1001 1 rfl pJ rfl rfl ?_);refine rR (aCq rfl nV ?_);refine aCn (fun hc=>absurd (by first|omega|assumption|decide|exact rfl) hc) (fun c1074=>?_);refine rR (fA aC rfl rfl rfl ?_);refine rR (aCi o1001 0 rfl eX rfl rfl ?_);refine rR (fA aC rfl rfl rfl ?_);refine rR (aCi o1001 1 rfl eX rfl rfl ?_);refine aCZ (yZ names names' _ _ _ (q2.ext (Own.ext (B:=h) ‹_›)).to1 (w2.ext (Own.ext (B:=h) ‹_›)).to1 b2 d2) ?_;rintro _ hs1 ⟨rfl,oc1⟩;have os1:=oc1.thenE ‹_›;by_cases hns:names=names'
 case neg =>
  rw[decide_eq_false hns]
  refine aCW ?_;refine aCW ?_;refine aC3 rfl ?_
  exact⟨false,rfl,⟨fun h=>(by cases h),fun hq=>absurd hq.2.2.2.2.2.1 hns⟩,Own.sel ‹_› [] rfl⟩
 subst names'
 rw[decide_eq_true rfl]
 refine aCn (fun hc=>absurd (by first|omega|assumption|decide|exact rfl) hc) (fun c1200=>?_);refine rR (fA aC rfl rfl rfl ?_);refine rR (aCi os1 0 rfl mO rfl rfl ?_);refine rR (fA aC rfl rfl rfl ?_);refine rR (aCi os1 1 rfl mO rfl rfl ?_);refine aCZ (tT conds conds' _ _ _ (q6.ext os1.ext) (w6.ext os1.ext) b6 d6) ?_;rintro _ hs2 ⟨bb,rfl,hbb,oc2⟩;have os2:=oc2.thenE os1;cases bb with
 | false =>
  refine aCW ?_;refine aC3 rfl ?_
  exact⟨false,rfl,⟨fun h=>(by cases h),fun hq=>by have:=hbb.2 hq.2.2.2.2.2.2.1;cases this⟩,Own.sel ‹_› [] rfl⟩
 | true =>
 obtain rfl:=hbb.1 rfl;have oz:Own h [box b1000 [.int .i64 kind,.string ⟨⟨name⟩⟩,.int .i64 z,.string ⟨⟨table⟩⟩,.string ⟨⟨attr⟩⟩,.slice y1 cols.length z1,.slice y2 names.length z2,.int .i64 by_,.int .i64 n,.int .i64 m,.slice y3 terms.length z3,.string ⟨⟨other⟩⟩,.string ⟨⟨oattr⟩⟩,.slice y4 fixed.length z4,.slice y5 vars.length z5,.slice y6 conds.length z6,e0,e1,e2,e3,e4,e5,e6,e7,e8] 44,box b1001 [.int .i64 kind,.string ⟨⟨name⟩⟩,.int .i64 z',.string ⟨⟨table⟩⟩,.string ⟨⟨attr⟩⟩,.slice yy1 cols'.length zz1,.slice yy2 names.length zz2,.int .i64 by_,.int .i64 n,.int .i64 m,.slice yy3 terms'.length zz3,.string ⟨⟨other⟩⟩,.string ⟨⟨oattr⟩⟩,.slice yy4 fixed'.length zz4,.slice yy5 vars'.length zz5,.slice yy6 conds.length zz6,f0,f1,f2,f3,f4,f5,f6,f7,f8] 44] hs2:=os2;clear oc1 oc2 os1 os2;refine aCX ?_;refine aC5 [6,7,132,133,134,135,136,137,138,139,140,141,142,143,144,145,146,147,148,149] [7] (fun vs hh=>∃(i:Nat),i≤cols.length∧vs=[.int .i64 i]∧(∀ j,j<i→cols[j]?=cols'[j]?)∧Own h [box b1000 [.int .i64 kind,.string ⟨⟨name⟩⟩,.int .i64 z,.string ⟨⟨table⟩⟩,.string ⟨⟨attr⟩⟩,.slice y1 cols.length z1,.slice y2 names.length z2,.int .i64 by_,.int .i64 n,.int .i64 m,.slice y3 terms.length z3,.string ⟨⟨other⟩⟩,.string ⟨⟨oattr⟩⟩,.slice y4 fixed.length z4,.slice y5 vars.length z5,.slice y6 conds.length z6,e0,e1,e2,e3,e4,e5,e6,e7,e8] 44,box b1001 [.int .i64 kind,.string ⟨⟨name⟩⟩,.int .i64 z',.string ⟨⟨table⟩⟩,.string ⟨⟨attr⟩⟩,.slice yy1 cols'.length zz1,.slice yy2 names.length zz2,.int .i64 by_,.int .i64 n,.int .i64 m,.slice yy3 terms'.length zz3,.string ⟨⟨other⟩⟩,.string ⟨⟨oattr⟩⟩,.slice yy4 fixed'.length zz4,.slice yy5 vars'.length zz5,.slice yy6 conds.length zz6,f0,f1,f2,f3,f4,f5,f6,f7,f8] 44] hh) (fun vs _=>match vs with|[.int _ i]=>cols.length - i.toNat|_=>0) ?_ ?_
 ·exact⟨0,by omega,rfl,fun j hj=>by omega,oz⟩
 rintro vs junk hh0 ⟨i,hi,rfl,hpre,oh0⟩;clear oz;by_cases hlt:i<cols.length
 ·obtain⟨el,hel⟩:=getx hlt
  obtain⟨el',hel'⟩:=getx (show i<cols'.length by omega)
  obtain⟨r,hcm,hr⟩:=cmp_col el el'
  cases r with
  | true =>
   obtain rfl:=hr.1 rfl;refine rR (fA aC rfl rfl rfl ?_);refine rR (aCi oh0 0 rfl lY rfl rfl ?_);refine rR (aCq rfl kK ?_);refine aCV (fun c1403=>?_) (fun hc=>absurd (by omega) hc);refine aCY [0,2,3,5,7,8,10] [1,4,6,9] [] [0,1,2,3,4,5,6,7,8,9,10] mixed (by kernel_rfl) rfl (fun _ _ _ _ h=>h) ?_;refine fA aC rfl rfl rfl ?_;refine aCi oh0 0 rfl lY rfl rfl ?_;refine aCt kK fB (q1.ext oh0.ext) rfl (by omega) (by omega) ?_;refine aCv fB (q1.ext oh0.ext) (fun _=>rfl) (by decide) rfl ‹_› ?_;refine fA aC rfl rfl rfl ?_;refine aCi oh0 1 rfl lY rfl rfl ?_;refine aCt kK fB (w1.ext oh0.ext) rfl (by omega) (by omega) ?_;refine aCv fB (w1.ext oh0.ext) (fun _=>rfl) (by decide) rfl ‹_› ?_;refine neDeep dp_col eg_col rfl rfl rfl hcm ?_;refine aCX ?_;refine aC2 (by omega) (by omega) ?_
   refine⟨rfl,?_⟩
   exact⟨⟨i+1,by omega,rfl,oX hpre hel hel',Own.sel ‹_› [0,1] rfl⟩,by simp;omega⟩
  | false =>
   refine rR (fA aC rfl rfl rfl ?_);refine rR (aCi oh0 0 rfl lY rfl rfl ?_);refine rR (aCq rfl kK ?_);refine aCV (fun c1463=>?_) (fun hc=>absurd (by omega) hc);refine aCY [0,2,3,5,7,8,10] [1,4,6,9] [] [0,1,2,3,4,5,6,7,8,9,10] mixed (by kernel_rfl) rfl (fun _ _ _ _ h=>h) ?_;refine fA aC rfl rfl rfl ?_;refine aCi oh0 0 rfl lY rfl rfl ?_;refine aCt kK fB (q1.ext oh0.ext) rfl (by omega) (by omega) ?_;refine aCv fB (q1.ext oh0.ext) (fun _=>rfl) (by decide) rfl ‹_› ?_;refine fA aC rfl rfl rfl ?_;refine aCi oh0 1 rfl lY rfl rfl ?_;refine aCt kK fB (w1.ext oh0.ext) rfl (by omega) (by omega) ?_;refine aCv fB (w1.ext oh0.ext) (fun _=>rfl) (by decide) rfl ‹_› ?_;refine neDeep dp_col eg_col rfl rfl rfl hcm ?_;refine aCW ?_;refine aC3 rfl ?_
   exact⟨false,rfl,⟨fun h=>(by cases h),fun hq=>absurd hq.2.1 (zU hel hel' fun e=>by have:=hr.2 e;cases this)⟩,Own.sel ‹_› [] rfl⟩
 obtain rfl:cols=cols':=mY l0 fun j hj=>hpre j (by omega);refine rR (fA aC rfl rfl rfl ?_);refine rR (aCi oh0 0 rfl lY rfl rfl ?_);refine rR (aCq rfl kK ?_);refine aCV (fun hc=>absurd hc (by omega)) (fun c1523=>?_);clear hpre hi hlt;refine aC5 [6,8,150,151,152,153,154,155,156,157,158,159,160,161,162,163,164,165,166,167] [8] (fun vs hh=>∃(i:Nat),i≤terms.length∧vs=[.int .i64 i]∧(∀ j,j<i→terms[j]?=terms'[j]?)∧Own h [box b1000 [.int .i64 kind,.string ⟨⟨name⟩⟩,.int .i64 z,.string ⟨⟨table⟩⟩,.string ⟨⟨attr⟩⟩,.slice y1 cols.length z1,.slice y2 names.length z2,.int .i64 by_,.int .i64 n,.int .i64 m,.slice y3 terms.length z3,.string ⟨⟨other⟩⟩,.string ⟨⟨oattr⟩⟩,.slice y4 fixed.length z4,.slice y5 vars.length z5,.slice y6 conds.length z6,e0,e1,e2,e3,e4,e5,e6,e7,e8] 44,box b1001 [.int .i64 kind,.string ⟨⟨name⟩⟩,.int .i64 z',.string ⟨⟨table⟩⟩,.string ⟨⟨attr⟩⟩,.slice yy1 cols.length zz1,.slice yy2 names.length zz2,.int .i64 by_,.int .i64 n,.int .i64 m,.slice yy3 terms'.length zz3,.string ⟨⟨other⟩⟩,.string ⟨⟨oattr⟩⟩,.slice yy4 fixed'.length zz4,.slice yy5 vars'.length zz5,.slice yy6 conds.length zz6,f0,f1,f2,f3,f4,f5,f6,f7,f8] 44] hh) (fun vs _=>match vs with|[.int _ i]=>terms.length - i.toNat|_=>0) ?_ ?_
 ·exact⟨0,by omega,rfl,fun j hj=>by omega,oh0⟩
 rintro vs junk hh1 ⟨i,hi,rfl,hpre,oh1⟩;clear oh0;by_cases hlt:i<terms.length
 ·obtain⟨el,hel⟩:=getx hlt
  obtain⟨el',hel'⟩:=getx (show i<terms'.length by omega)
  obtain⟨r,hcm,hr⟩:=cmp_trm el el'
  cases r with
  | true =>
   obtain rfl:=hr.1 rfl;refine rR (fA aC rfl rfl rfl ?_);refine rR (aCi oh1 0 rfl nU rfl rfl ?_);refine rR (aCq rfl nW ?_);refine aCV (fun c1583=>?_) (fun hc=>absurd (by omega) hc);refine aCY [0,2,3,5,7,8,10] [1,4,6,9] [] [0,1,2,3,4,5,6,7,8,9,10] mixed (by kernel_rfl) rfl (fun _ _ _ _ h=>h) ?_;refine fA aC rfl rfl rfl ?_;refine aCi oh1 0 rfl nU rfl rfl ?_;refine aCt nW cL (q3.ext oh1.ext) rfl (by omega) (by omega) ?_;refine aCv cL (q3.ext oh1.ext) (fun _=>rfl) (by decide) rfl ‹_› ?_;refine fA aC rfl rfl rfl ?_;refine aCi oh1 1 rfl nU rfl rfl ?_;refine aCt nW cL (w3.ext oh1.ext) rfl (by omega) (by omega) ?_;refine aCv cL (w3.ext oh1.ext) (fun _=>rfl) (by decide) rfl ‹_› ?_;refine neDeep dp_term eg_term rfl rfl rfl hcm ?_;refine aCX ?_;refine aC2 (by omega) (by omega) ?_
   refine⟨rfl,?_⟩
   exact⟨⟨i+1,by omega,rfl,oX hpre hel hel',Own.sel ‹_› [0,1] rfl⟩,by simp;omega⟩
  | false =>
   refine rR (fA aC rfl rfl rfl ?_);refine rR (aCi oh1 0 rfl nU rfl rfl ?_);refine rR (aCq rfl nW ?_);refine aCV (fun c1643=>?_) (fun hc=>absurd (by omega) hc);refine aCY [0,2,3,5,7,8,10] [1,4,6,9] [] [0,1,2,3,4,5,6,7,8,9,10] mixed (by kernel_rfl) rfl (fun _ _ _ _ h=>h) ?_;refine fA aC rfl rfl rfl ?_;refine aCi oh1 0 rfl nU rfl rfl ?_;refine aCt nW cL (q3.ext oh1.ext) rfl (by omega) (by omega) ?_;refine aCv cL (q3.ext oh1.ext) (fun _=>rfl) (by decide) rfl ‹_› ?_;refine fA aC rfl rfl rfl ?_;refine aCi oh1 1 rfl nU rfl rfl ?_;refine aCt nW cL (w3.ext oh1.ext) rfl (by omega) (by omega) ?_;refine aCv cL (w3.ext oh1.ext) (fun _=>rfl) (by decide) rfl ‹_› ?_;refine neDeep dp_term eg_term rfl rfl rfl hcm ?_;refine aCW ?_;refine aC3 rfl ?_
   exact⟨false,rfl,⟨fun h=>(by cases h),fun hq=>absurd hq.2.2.1 (zU hel hel' fun e=>by have:=hr.2 e;cases this)⟩,Own.sel ‹_› [] rfl⟩
 obtain rfl:terms=terms':=mY l1 fun j hj=>hpre j (by omega);refine rR (fA aC rfl rfl rfl ?_);refine rR (aCi oh1 0 rfl nU rfl rfl ?_);refine rR (aCq rfl nW ?_);refine aCV (fun hc=>absurd hc (by omega)) (fun c1703=>?_);clear hpre hi hlt;refine aC5 [6,9,168,169,170,171,172,173,174,175,176,177,178,179,180,181,182,183,184,185,186,187,188,189,190,191,192,193,194,195,196,197,198,199,200,201,202,203] [9] (fun vs hh=>∃(i:Nat),i≤fixed.length∧vs=[.int .i64 i]∧(∀ j,j<i→fixed[j]?=fixed'[j]?)∧Own h [box b1000 [.int .i64 kind,.string ⟨⟨name⟩⟩,.int .i64 z,.string ⟨⟨table⟩⟩,.string ⟨⟨attr⟩⟩,.slice y1 cols.length z1,.slice y2 names.length z2,.int .i64 by_,.int .i64 n,.int .i64 m,.slice y3 terms.length z3,.string ⟨⟨other⟩⟩,.string ⟨⟨oattr⟩⟩,.slice y4 fixed.length z4,.slice y5 vars.length z5,.slice y6 conds.length z6,e0,e1,e2,e3,e4,e5,e6,e7,e8] 44,box b1001 [.int .i64 kind,.string ⟨⟨name⟩⟩,.int .i64 z',.string ⟨⟨table⟩⟩,.string ⟨⟨attr⟩⟩,.slice yy1 cols.length zz1,.slice yy2 names.length zz2,.int .i64 by_,.int .i64 n,.int .i64 m,.slice yy3 terms.length zz3,.string ⟨⟨other⟩⟩,.string ⟨⟨oattr⟩⟩,.slice yy4 fixed'.length zz4,.slice yy5 vars'.length zz5,.slice yy6 conds.length zz6,f0,f1,f2,f3,f4,f5,f6,f7,f8] 44] hh) (fun vs _=>match vs with|[.int _ i]=>fixed.length - i.toNat|_=>0) ?_ ?_
 ·exact⟨0,by omega,rfl,fun j hj=>by omega,oh1⟩
 rintro vs junk hh2 ⟨i,hi,rfl,hpre,oh2⟩;clear oh1;by_cases hlt:i<fixed.length
 ·obtain⟨el,hel⟩:=getx hlt
  obtain⟨el',hel'⟩:=getx (show i<fixed'.length by omega)
  by_cases hnm:el.name=el'.name
  case neg =>
   refine rR (fA aC rfl rfl rfl ?_);refine rR (aCi oh2 0 rfl oJ rfl rfl ?_);refine rR (aCq rfl nH ?_);refine aCV (fun c1763=>?_) (fun hc=>absurd (by omega) hc);refine aCY [0,2,3,4,6,8,9,10,12,13,14,16,17,18,20,22,23,24,27,28] [1,5,7,11,15,19,21,25] [26] [0,1,2,3,4,5,6,7,8,9,10,11,12,13,14,15,16,17,18,19,20,21,22,23,24,25,26,27,28] mixed (by kernel_rfl) rfl (fun _ _ _ _ h=>h) ?_;refine fA aC rfl rfl rfl ?_;refine aCi oh2 0 rfl oJ rfl rfl ?_;refine aCt nH pI (q4.ext oh2.ext) rfl (by omega) (by omega) ?_;refine aCB (q4.ext oh2.ext) (by omega) aBT rfl rfl rfl ?_;refine aCH (q4.ext oh2.ext) aL (fun _=>rfl) rfl ‹_› rfl ?_;refine fA aC rfl rfl rfl ?_;refine aCi oh2 1 rfl oJ rfl rfl ?_;refine aCt nH pI (w4.ext oh2.ext) rfl (by omega) (by omega) ?_;refine aCB (w4.ext oh2.ext) (by omega) aBT rfl rfl rfl ?_;refine aCH (w4.ext oh2.ext) aL (fun _=>rfl) rfl ‹_› rfl ?_;refine aCn (fun c1774=>?_) (fun hc=>absurd hc (by first|omega|assumption|decide|exact rfl));refine aCW ?_;refine aC3 rfl ?_
   exact⟨false,rfl,⟨fun h=>(by cases h),fun hq=>absurd hq.2.2.2.1 (zU hel hel' fun e=>hnm (by rw[e]))⟩,Own.sel ‹_› [] rfl⟩
  refine rR (fA aC rfl rfl rfl ?_);refine rR (aCi oh2 0 rfl oJ rfl rfl ?_);refine rR (aCq rfl nH ?_);refine aCV (fun c1823=>?_) (fun hc=>absurd (by omega) hc);refine aCY [0,2,3,4,6,8,9,10,12,13,14,16,17,18,20,22,23,24,27,28] [1,5,7,11,15,19,21,25] [26] [0,1,2,3,4,5,6,7,8,9,10,11,12,13,14,15,16,17,18,19,20,21,22,23,24,25,26,27,28] mixed (by kernel_rfl) rfl (fun _ _ _ _ h=>h) ?_;refine fA aC rfl rfl rfl ?_;refine aCi oh2 0 rfl oJ rfl rfl ?_;refine aCt nH pI (q4.ext oh2.ext) rfl (by omega) (by omega) ?_;refine aCB (q4.ext oh2.ext) (by omega) aBT rfl rfl rfl ?_;refine aCH (q4.ext oh2.ext) aL (fun _=>rfl) rfl ‹_› rfl ?_;refine fA aC rfl rfl rfl ?_;refine aCi oh2 1 rfl oJ rfl rfl ?_;refine aCt nH pI (w4.ext oh2.ext) rfl (by omega) (by omega) ?_;refine aCB (w4.ext oh2.ext) (by omega) aBT rfl rfl rfl ?_;refine aCH (w4.ext oh2.ext) aL (fun _=>rfl) rfl ‹_› rfl ?_;refine aCn (fun hc=>absurd (by first|omega|assumption|decide|exact rfl) hc) (fun c1834=>?_);refine fA aC rfl rfl rfl ?_;refine aCi oh2 0 rfl oJ rfl rfl ?_;refine aCt nH pI (q4.ext oh2.ext) rfl (by omega) (by omega) ?_;refine aCB (q4.ext oh2.ext) (by omega) aBT rfl rfl rfl ?_;refine loadFS bS (q4.ext oh2.ext) (fun _=>rfl) (by decide) (by decide) rfl ‹_› rfl ?_;refine fA aC rfl rfl rfl ?_;refine aCi oh2 1 rfl oJ rfl rfl ?_;refine aCt nH pI (w4.ext oh2.ext) rfl (by omega) (by omega) ?_;refine aCB (w4.ext oh2.ext) (by omega) aBT rfl rfl rfl ?_;refine loadFS bS (w4.ext oh2.ext) (fun _=>rfl) (by decide) (by decide) rfl ‹_› rfl ?_;refine aCZ (rcompare2 el.val el'.val _) ?_
  rintro _ hc2 ⟨q,rfl,hq0,oc4⟩;have os4:=oc4.thenE oh2;by_cases hz:q=0
  ·have hv:=hq0.1 hz
   have he:el=el':=by cases el;cases el';simp only at hnm hv;rw[hnm,hv]
   subst he;refine aCn (fun hc=>absurd (by first|omega|assumption|decide|exact rfl) hc) (fun c1880=>?_);refine aC2 (by omega) (by omega) ?_
   refine⟨rfl,?_⟩
   exact⟨⟨i+1,by omega,rfl,oX hpre hel hel',Own.sel ‹_› [0,1] rfl⟩,by simp;omega⟩
  ·refine aCn (fun c1940=>?_) (fun hc=>absurd hc (by first|omega|assumption|decide|exact rfl))
   refine aC3 rfl ?_
   exact⟨false,rfl,⟨fun h=>(by cases h),fun hq=>absurd hq.2.2.2.1 (zU hel hel' fun e=>hz (hq0.2 (by rw[e])))⟩,Own.sel ‹_› [] rfl⟩
 obtain rfl:fixed=fixed':=mY l2 fun j hj=>hpre j (by omega);refine rR (fA aC rfl rfl rfl ?_);refine rR (aCi oh2 0 rfl oJ rfl rfl ?_);refine rR (aCq rfl nH ?_);refine aCV (fun hc=>absurd hc (by omega)) (fun c2003=>?_);clear hpre hi hlt;refine aC5 [6,10,204,205,206,207,208,209,210,211,212,213,214,215,216,217,218,219,220,221] [10] (fun vs hh=>∃(i:Nat),i≤vars.length∧vs=[.int .i64 i]∧(∀ j,j<i→vars[j]?=vars'[j]?)∧Own h [box b1000 [.int .i64 kind,.string ⟨⟨name⟩⟩,.int .i64 z,.string ⟨⟨table⟩⟩,.string ⟨⟨attr⟩⟩,.slice y1 cols.length z1,.slice y2 names.length z2,.int .i64 by_,.int .i64 n,.int .i64 m,.slice y3 terms.length z3,.string ⟨⟨other⟩⟩,.string ⟨⟨oattr⟩⟩,.slice y4 fixed.length z4,.slice y5 vars.length z5,.slice y6 conds.length z6,e0,e1,e2,e3,e4,e5,e6,e7,e8] 44,box b1001 [.int .i64 kind,.string ⟨⟨name⟩⟩,.int .i64 z',.string ⟨⟨table⟩⟩,.string ⟨⟨attr⟩⟩,.slice yy1 cols.length zz1,.slice yy2 names.length zz2,.int .i64 by_,.int .i64 n,.int .i64 m,.slice yy3 terms.length zz3,.string ⟨⟨other⟩⟩,.string ⟨⟨oattr⟩⟩,.slice yy4 fixed.length zz4,.slice yy5 vars'.length zz5,.slice yy6 conds.length zz6,f0,f1,f2,f3,f4,f5,f6,f7,f8] 44] hh) (fun vs _=>match vs with|[.int _ i]=>vars.length - i.toNat|_=>0) ?_ ?_
 ·exact⟨0,by omega,rfl,fun j hj=>by omega,oh2⟩
 rintro vs junk hh3 ⟨i,hi,rfl,hpre,oh3⟩;clear oh2;by_cases hlt:i<vars.length
 ·obtain⟨el,hel⟩:=getx hlt
  obtain⟨el',hel'⟩:=getx (show i<vars'.length by omega)
  obtain⟨r,hcm,hr⟩:=cmp_vr el el'
  cases r with
  | true =>
   obtain rfl:=hr.1 rfl;refine rR (fA aC rfl rfl rfl ?_);refine rR (aCi oh3 0 rfl pJ rfl rfl ?_);refine rR (aCq rfl nV ?_);refine aCV (fun c2063=>?_) (fun hc=>absurd (by omega) hc);refine aCY [0,2,3,5,7,8,10] [1,4,6,9] [] [0,1,2,3,4,5,6,7,8,9,10] mixed (by kernel_rfl) rfl (fun _ _ _ _ h=>h) ?_;refine fA aC rfl rfl rfl ?_;refine aCi oh3 0 rfl pJ rfl rfl ?_;refine aCt nV lW (q5.ext oh3.ext) rfl (by omega) (by omega) ?_;refine aCv lW (q5.ext oh3.ext) (fun _=>rfl) (by decide) rfl ‹_› ?_;refine fA aC rfl rfl rfl ?_;refine aCi oh3 1 rfl pJ rfl rfl ?_;refine aCt nV lW (w5.ext oh3.ext) rfl (by omega) (by omega) ?_;refine aCv lW (w5.ext oh3.ext) (fun _=>rfl) (by decide) rfl ‹_› ?_;refine neS pl98 rfl rfl rfl rfl ?_;refine Br.ffE (by first|omega|(simp;done)) ?_;refine aC2 (by omega) (by omega) ?_
   refine⟨rfl,?_⟩
   exact⟨⟨i+1,by omega,rfl,oX hpre hel hel',Own.sel ‹_› [0,1] rfl⟩,by simp;omega⟩
  | false =>
   have hne:¬ el=el':=fun e=>by have:=hr.2 e;cases this
   have hbt:(!(decide (el.name=el'.name)&&(decide (el.table=el'.table)&&true)))=true:=by
    rw[aDv,aDt]
    intro hh
    simp at hh
    exact hne (by cases el;cases el';simp at hh;simp[hh])
   refine rR (fA aC rfl rfl rfl ?_);refine rR (aCi oh3 0 rfl pJ rfl rfl ?_);refine rR (aCq rfl nV ?_);refine aCV (fun c2123=>?_) (fun hc=>absurd (by omega) hc);refine aCY [0,2,3,5,7,8,10] [1,4,6,9] [] [0,1,2,3,4,5,6,7,8,9,10] mixed (by kernel_rfl) rfl (fun _ _ _ _ h=>h) ?_;refine fA aC rfl rfl rfl ?_;refine aCi oh3 0 rfl pJ rfl rfl ?_;refine aCt nV lW (q5.ext oh3.ext) rfl (by omega) (by omega) ?_;refine aCv lW (q5.ext oh3.ext) (fun _=>rfl) (by decide) rfl ‹_› ?_;refine fA aC rfl rfl rfl ?_;refine aCi oh3 1 rfl pJ rfl rfl ?_;refine aCt nV lW (w5.ext oh3.ext) rfl (by omega) (by omega) ?_;refine aCv lW (w5.ext oh3.ext) (fun _=>rfl) (by decide) rfl ‹_› ?_;refine neS pl98 rfl rfl rfl rfl ?_;refine Br.ttE hbt ?_;refine aC3 rfl ?_
   exact⟨false,rfl,⟨fun h=>(by cases h),fun hq=>absurd hq.2.2.2.2.1 (zU hel hel' fun e=>by have:=hr.2 e;cases this)⟩,Own.sel ‹_› [] rfl⟩
 obtain rfl:vars=vars':=mY l3 fun j hj=>hpre j (by omega);refine rR (fA aC rfl rfl rfl ?_);refine rR (aCi oh3 0 rfl pJ rfl rfl ?_);refine rR (aCq rfl nV ?_);refine aCV (fun hc=>absurd hc (by omega)) (fun c2183=>?_);refine rR (fA aC rfl rfl rfl ?_);refine rR (aCm oh3 0 rfl aT rfl rfl rfl ?_);refine rR (fA aC rfl rfl rfl ?_);refine rR (aCm oh3 1 rfl aT rfl rfl rfl ?_);clear hpre hi hlt;refine aCZ (qT (gA expr) expr expr' _ _ _ (aDj _) bx dx (kJ.ext (Own.ext (B:=h) ‹_›) _ _ rx) (kJ.ext (Own.ext (B:=h) ‹_›) _ _ px)) ?_;rintro _ hc3 ⟨bb,rfl,hb3,oc5⟩;have os5:=oc5.thenE ‹_›;refine aC3 rfl ?_
 exact⟨bb,rfl,⟨fun e=>⟨⟨rfl,rfl,rfl,rfl,rfl,rfl,rfl,rfl,rfl⟩,rfl,rfl,rfl,rfl,rfl,rfl,hb3.1 e⟩,fun hq=>hb3.2 hq.2.2.2.2.2.2.2⟩,Own.sel ‹_› [] rfl⟩
theorem itsQ_of {Q:Nat→Nat→Prop}:∀ {l m:List It},l.length=m.length→(∀(i:Nat)(x y:It),l[i]?=some x→m[i]?=some y→vC Q x y)→sQ Q l m
 | [],[],_,_=>trivial
 | a::l,b::m,hl,h=>⟨h 0 a b rfl rfl,itsQ_of (by simpa using hl) fun i x y hx hy=>h (i+1) x y (by simpa using hx) (by simpa using hy)⟩
 | a::l,[],hl,_=>by simp at hl
 | [],b::m,hl,_=>by simp at hl
theorem xZ (xs ys:List It)(va vb:Value)(h:Heap)(hB:∀ x∈xs,iZ x)(hB':∀ y∈ys,iZ y)(hl:xs.length≤1000000000000000)(hl2:ys.length≤1000000000000000)(ha:kP h va xs)(hb:kP h vb ys) :
  bZ Tryz.prog 29 [va,vb,.bool false] h fun r h'=>∃ bb:Bool,r=.bool bb∧(bb=true↔sQ lS xs ys)∧Own h [] h':=by
 obtain⟨ca,q1,q2,q3⟩:=ha
 obtain⟨cb,w1,w2,w3⟩:=hb
 obtain⟨y1,z1,rfl⟩:=q1.isS
 obtain⟨y2,z2,rfl⟩:=w1.isS
 refine aC1 Tryz.func29 rfl Tryz.ntmps29 (by kernel_rfl) ?_;have o0:=Own.refl h;by_cases hlen:xs.length=ys.length
 ·refine rR (aCq rfl kL ?_)
  refine rR (aCq rfl kL ?_);refine aCn (fun hc=>absurd (by first|omega|assumption|decide|exact rfl) hc) (fun c12=>?_);refine aC5 [6,7,13,14,15,16,17,18,19,20,21,22,23,24,25,26,27,28,29] [7] (fun vs hh=>∃(i:Nat),i≤xs.length∧vs=[.int .i64 i]∧(∀(j:Nat) (x y:It),j<i→xs[j]?=some x→ys[j]?=some y→vC lS x y)∧Own h [] hh) (fun vs _=>match vs with|[.int _ i]=>xs.length - i.toNat|_=>0) ?_ ?_
  ·exact⟨0,by omega,rfl,fun j x y hj=>by omega,o0⟩
  ·rintro vs junk hh ⟨i,hi,rfl,hpre,oh⟩
   by_cases hlt:i<xs.length
   ·obtain⟨x,hx⟩:=getx hlt
    obtain⟨y,hy⟩:=getx (show i<ys.length by omega)
    obtain⟨cx,hcx,hrx⟩:=q3 i x hx
    obtain⟨cy,hcy,hry⟩:=w3 i y hy
    refine rR (aCq rfl kL ?_);refine aCV (fun c21=>?_) (fun hc=>absurd (by omega) hc);refine aCY [0,1,2,4,5,6,8,10] [3,7] [9] [0,1,2,3,4,5,6,7,8,9,10] mixed (by kernel_rfl) rfl (fun _ _ _ _ h=>h) ?_;refine aCt kL fR (q1.ext oh.ext) rfl (by omega) (by omega) ?_;refine aCv fR (q1.ext oh.ext) (fun y:eO=>y.2) (by decide) rfl ‹_› ?_;refine aCt kL fR (w1.ext oh.ext) rfl (by omega) (by omega) ?_;refine aCv fR (w1.ext oh.ext) (fun y:eO=>y.2) (by decide) rfl ‹_› ?_;refine aCZ (zC x y cx.1 cy.1 _ (hB x (aDa hx)) (hB' y (aDa hy)) (hrx.ext oh.ext) (hry.ext oh.ext)) ?_;rintro _ hs3 ⟨bb,rfl,hbk,oc3⟩;have os3:=oc3.thenE oh;cases bb with
    | true =>
     refine aCX ?_;refine aC2 (by omega) (by omega) ?_
     refine⟨rfl,?_⟩
     refine⟨⟨i+1,by omega,rfl,fun j x' y' hj hx' hy'=>?_,Own.sel ‹_› [] rfl⟩,by simp;omega⟩
     by_cases e:j=i
     ·subst e
      rw[hx]at hx'
      rw[hy]at hy'
      cases hx'
      cases hy'
      exact hbk.1 rfl
     ·exact hpre j x' y' (by omega) hx' hy'
    | false =>
     refine aCW ?_;refine aC3 rfl ?_
     refine⟨false,rfl,⟨fun h=>(by cases h),fun hq=>?_⟩,Own.sel ‹_› [] rfl⟩
     obtain⟨y',hy',hxy⟩:=itsQ_get hq hx
     rw[hy]at hy'
     cases hy'
     have:=hbk.2 hxy
     cases this
   ·refine rR (aCq rfl kL ?_)
    refine aCV (fun hc=>absurd hc (by omega)) (fun c111=>?_);refine aC3 rfl ?_
    exact⟨true,rfl,⟨fun _=>itsQ_of hlen fun j x y hx hy=>hpre j x y (by have:=(aC9.1 hx).1;omega) hx hy,fun _=>rfl⟩,Own.sel ‹_› [] rfl⟩
 ·refine rR (aCq rfl kL ?_)
  refine rR (aCq rfl kL ?_);refine aCn (fun c142=>?_) (fun hc=>absurd hc (by first|omega|assumption|decide|exact rfl));refine aC3 rfl ?_
  exact⟨false,rfl,⟨fun h=>(by cases h),fun hq=>absurd (itsQ_len hq) hlen⟩,Own.sel ‹_› [] rfl⟩
theorem same2_spec (xs ys:List It)(va vb:Value)(h:Heap)(hB:∀ x∈xs,iZ x)(hB':∀ y∈ys,iZ y)(hl:xs.length≤1000000000000000)(hl2:ys.length≤1000000000000000)(ha:kP h va xs)(hb:kP h vb ys) :
  bZ Tryz.prog 14 [.agg ⟨[va]⟩,.agg ⟨[vb]⟩,.bool false] h fun r h'=>∃ bb:Bool,r=.bool bb∧(bb=true↔sQ lS xs ys)∧Own h [] h':=by
 refine aC1 Tryz.func14 rfl Tryz.ntmps14 (by kernel_rfl) ?_;have o0:=Own.refl h;(refine aCw o0 rfl ?_;intro b10 m10 o10);(refine aCw o10 rfl ?_;intro b11 m11 o11);refine rR (fA mP rfl rfl rfl ?_);refine rR (aCi o11 0 rfl oU rfl rfl ?_);refine rR (fA mP rfl rfl rfl ?_);refine rR (aCi o11 1 rfl oU rfl rfl ?_);refine aCZ (xZ xs ys va vb _ hB hB' hl hl2 (ha.ext (Own.ext (B:=h) ‹_›)) (hb.ext (Own.ext (B:=h) ‹_›))) ?_;rintro _ h1 ⟨bb,rfl,hbb,oc⟩;have o1:=oc.thenE ‹_›;refine aC3 rfl ?_
 exact⟨bb,rfl,hbb,Own.sel ‹_› [] rfl⟩
theorem aBb {xs:List It}(h:qO xs=true):(∀ x∈xs,eJ x≤50000000)∧xs.length≤210:=by
 unfold qO at h
 simp only[aDb,decide_eq_true_eq]at h
 exact⟨fun x hx=>short_size (aDk.1 h.1 x hx),h.2⟩
theorem flat_snoc25 (ds:List eO)(C:aVs)(hC:C.length=25):ds.flatMap Subtype.val++C=(ds++[(⟨C,hC⟩:eO)]).flatMap Subtype.val:=by
 rw[aDD]
 simp
theorem yG {H:Heap}{c:aVs}{x:It}(r:itH H c x):c.length=25:=by
 obtain⟨z,vc,vn,vt,vf,vv,vd,e0,e1,e2,e3,e4,e5,e6,e7,e8,rfl,_⟩:=r
 rfl
theorem equality9_spec (xs ys:List It)(va vb:Value)(by_:Int)(h:Heap)(hb0:-9223372036854775808≤by_)(hb1:by_≤9223372036854775807)(hP:kP h va xs)(hOK:∀ x∈xs,iZ x)(hl:xs.length≤140737488351232)
  (hPq:kP h vb ys) (hOKq:∀ x∈ys,iZ x) (hlq:ys.length≤140737488351232) (hW:lF h) (hT:jP h) (hF:gY h) :
  bZ Tryz.prog 6 [.agg ⟨[va]⟩,.agg ⟨[vb]⟩,.int .i64 by_] h fun v h'=>v=.bool true∧Own h [] h':=by
 obtain⟨ya,yc,rfl⟩:=hP.isS
 obtain⟨za,zc,rfl⟩:=hPq.isS
 refine aC1 Tryz.func6 rfl Tryz.ntmps6 (by kernel_rfl) ?_;have o0:=Own.refl h;(refine aCw o0 rfl ?_;intro b10 m10 o10);(refine aCw o10 rfl ?_;intro b11 m11 o11);have oa:Own h [box b10 [.slice ya xs.length yc] 24,box b11 [.slice za ys.length zc] 24] m11:=o11;clear o10 o11;refine aCZ (head9_spec _ (hW.ext (Own.ext (B:=h) ‹_›)) (hT.ext (Own.ext (B:=h) ‹_›)) (hF.ext (Own.ext (B:=h) ‹_›))) ?_;rintro _ h1 ⟨rfl,oc⟩;have z1:=oc.thenE (B:=h) ‹_›;clear oc;refine rR (aCm z1 0 rfl oT rfl rfl rfl ?_);refine aCZ (tS xs _ _ hOK (by omega) (hP.ext (Own.ext (B:=h) ‹_›))) ?_;rintro _ g2 ⟨rfl,oc⟩;have s2:=oc.thenE (B:=h) ‹_›;clear oc;cases hs:qO xs with
 | false =>
  refine aCW ?_;refine aCW ?_;refine aC3 rfl ?_
  exact⟨rfl,Own.sel ‹_› [] rfl⟩
 | true =>
 obtain⟨hsz,hn⟩:=aBb hs
 refine aCX ?_;refine rR (aCm s2 1 rfl oT rfl rfl rfl ?_);refine aCZ (tS ys _ _ hOKq (by omega) (hPq.ext (Own.ext (B:=h) ‹_›))) ?_;rintro _ g3 ⟨rfl,oc⟩;have s3:=oc.thenE (B:=h) ‹_›;clear oc;cases hs2:qO ys with
 | false =>
  refine aCW ?_;refine aC3 rfl ?_
  exact⟨rfl,Own.sel ‹_› [] rfl⟩
 | true =>
 obtain⟨hszq,hnq⟩:=aBb hs2
 refine aCX ?_;refine rR (aCm s3 0 rfl oT rfl rfl rfl ?_);refine aCZ (kX xs _ _ (hT.ext (Own.ext (B:=h) ‹_›)) (hF.ext (Own.ext (B:=h) ‹_›)) (hP.ext (Own.ext (B:=h) ‹_›)) hOK hsz hn) ?_;rintro _ h3 ⟨rfl,oc⟩;have z3:=oc.thenE (B:=h) ‹_›;clear oc;refine rR (aCm z3 1 rfl oT rfl rfl rfl ?_);refine aCZ (kX ys _ _ (hT.ext (Own.ext (B:=h) ‹_›)) (hF.ext (Own.ext (B:=h) ‹_›)) (hPq.ext (Own.ext (B:=h) ‹_›)) hOKq hszq hnq) ?_;rintro _ h4 ⟨rfl,oc⟩;have z4:=oc.thenE (B:=h) ‹_›;clear oc;(refine aCT z4 oT ?_;intro b120 m120 o120)
 obtain⟨cs,q1,q2,q3⟩:=hP
 have hPp:kP h (.slice ya xs.length yc) xs:=⟨cs,q1,q2,q3⟩;have on:Own h [box b10 [.slice ya xs.length yc] 24,box b11 [.slice za ys.length zc] 24,box b120 [.slice none 0 0] 24,row (.slice none 0 0) 44 25 0 []] m120:=(o120.nilRow 44 25).sel [0,1,2,3] rfl;clear o120 z1 s2 s3 z3 z4;refine aC5 [13,14,37,38,39,40,41,42,43,44,45,46,47,48,49,50,51,52,53,54,55,56,57,58,59,60,61,62] [13] (fun vs hh=>∃(i:Nat) (va:Option Addr) (vc:Nat) (ds:List eO),i≤xs.length∧vs=[.int .i64 i]∧ds.length=i∧(∀(j:Nat) (x:It) (d:eO),xs[j]?=some x→ds[j]?=some d→itH h d.1 x)∧Own h [box b10 [.slice ya xs.length yc] 24,box b11 [.slice za ys.length zc] 24,box b120 [.slice va i vc] 24,row (.slice va i vc) 44 25 i (ds.flatMap Subtype.val)] hh) (fun vs _=>match vs with|[.int _ i]=>xs.length - i.toNat|_=>0) ?_ ?_
 ·exact⟨0,none,0,[],by omega,rfl,rfl,fun j x d _ hd=>by simp at hd,on⟩
 rintro vs junk hh ⟨i,ua,uc,ds,hi,rfl,hdl,hds,oh⟩;clear on;by_cases hlt:i<xs.length
 ·obtain⟨x,hx⟩:=getx hlt
  obtain⟨cx,hcx,hrx⟩:=q3 i x hx
  have hxOK:=hOK x (aDa hx)
  obtain⟨cxv,hcl⟩:=cx
  obtain⟨z,vc,vn,vt,vf,vv,vd,e0,e1,e2,e3,e4,e5,e6,e7,e8,hcv,w1,w2,w3,w4,w5,w6,rx⟩:=hrx
  dsimp only at hcv;subst hcv;have rx0:=rx;cases hex:x.expr with
  | mk xk xt xks xcs xns xa xs_ xg xo =>
  rw[hex,kJ]at rx
  obtain⟨wk,wc,wn,wz,hcv,g1,g2,gx,g3,g4⟩:=rx
  obtain⟨h1',h2',rfl⟩:=g1.isS
  obtain⟨h3',h4',rfl⟩:=g2.isS
  obtain⟨h5',h6',rfl⟩:=g3.isS
  unfold pT at hcv
  simp only[List.cons.injEq,and_true]at hcv
  obtain⟨rfl,rfl,rfl,rfl,rfl,rfl,rfl,rfl,rfl⟩:=hcv
  obtain⟨i1,j1,rfl⟩:=w1.isS
  obtain⟨i2,j2,rfl⟩:=w2.isS
  obtain⟨i3,j3,rfl⟩:=w3.isS
  obtain⟨i4,j4,rfl⟩:=w4.isS
  obtain⟨i5,j5,rfl⟩:=w5.isS
  obtain⟨i6,j6,rfl⟩:=w6.isS
  unfold fD at hcx hcl;refine rR (fA mP rfl rfl rfl ?_);refine rR (aCi oh 0 rfl oU rfl rfl ?_);refine rR (aCq rfl kL ?_);refine aCV (fun c203=>?_) (fun hc=>absurd (by omega) hc);refine rR (fA mP rfl rfl rfl ?_);refine rR (aCi oh 0 rfl oU rfl rfl ?_);refine rR (aCt kL fR (q1.ext oh.ext) rfl (by omega) (by omega) ?_);refine rR (aCv fR (q1.ext oh.ext) (fun y:eO=>y.2) (by decide) rfl ‹_› ?_);refine aCT oh fR ?_;intro b208 m208 o208;(refine aCl o208 4 rfl fR rfl (by decide) (aI ⟨rfl,rfl⟩ ?_);intro m209 o209);clear q1 hcx oh o208;refine rR (fA aC rfl rfl rfl ?_);refine rR (aCi o209 4 rfl aS rfl rfl ?_)
  refine⟨?_⟩
  generalize IntKind.wrap .i64 (z+by_)=zz
  refine rR (fA aC rfl rfl rfl ?_);(refine aCR o209 4 rfl aS rfl (by simp) (aI ⟨rfl,rfl⟩ ?_);intro m251 o251);refine rR (fA aC rfl rfl rfl ?_);refine rR (fA aM rfl rfl rfl ?_);(refine aCR o251 4 rfl aS rfl (by simp) (aI ⟨rfl,rfl⟩ ?_);intro m254 o254);refine rR (fA mP rfl rfl rfl ?_);refine rR (aCi o254 2 rfl oU rfl rfl ?_);refine rR (aCm o254 4 rfl fR rfl rfl rfl ?_);(refine aCF o254 kL fR rfl rfl (by decide) ?_);refine aI rfl ?_;intro b259 m259 o259;clear o209 o251 o254;(refine aCU o259 3 rfl kL fR (by decide) (o259.boxArrN 5 rfl (by rfl) (by omega)) (by simp[Value.oneCell']) (by simp only[maxLen];omega) (by omega) ?_;intro v260 m260 o260);clear o259
  obtain⟨ua',uc',rfl⟩:=o260.rowIs 3 rfl
  refine rR (fA mP rfl rfl rfl ?_);(refine aCR o260 2 rfl oU rfl (by simp) (aI ⟨rfl,rfl⟩ ?_);intro m261 o261);clear o260;have hD:itH h (fD x zz (.slice i1 x.cols.length j1) (.slice i2 x.names.length j2) (.slice i3 x.terms.length j3) (.slice i4 x.fixed.length j4) (.slice i5 x.vars.length j5) (.slice i6 x.conds.length j6) (.int .i64 xk) (.string ⟨⟨xt⟩⟩) (.slice h5' xks.length h6') (.slice h1' xcs.length h2') (.slice h3' xns.length h4') (.string ⟨⟨xa⟩⟩) (.string ⟨⟨xs_⟩⟩) (.int .i64 xg) (.int .i64 by_)) x:=by
   refine⟨zz,_,_,_,_,_,_,_,_,_,_,_,_,_,_,_,rfl,w1,w2,w3,w4,w5,w6,?_⟩
   rw[hex,kJ]
   exact⟨_,_,_,by_,rfl,g1,g2,gx,g3,g4⟩
  have of:Own h [box b10 [.slice ya xs.length yc] 24,box b11 [.slice za ys.length zc] 24,box b120 [.slice ua' (i+1) uc'] 24,row (.slice ua' (i+1) uc') 44 25 (i+1) ((ds++[(⟨_,yG hD⟩:eO)]).flatMap Subtype.val)] m261:=by
   rw[← flat_snoc25]
   exact Own.sel o261 [0,1,2,3] rfl
  clear o261 w1 w2 w3 w4 w5 w6 g1 g2 gx g3 g4 rx0;have hds':∀(j:Nat) (y:It) (d:eO),xs[j]?=some y→(ds++[(⟨_,yG hD⟩:eO)])[j]?=some d→itH h d.1 y:=fun j y d hy hd=>by
   by_cases hj:j<ds.length
   ·rw[List.getElem?_append_left hj]at hd
    exact hds j y d hy hd
   ·rw[List.getElem?_append_right (by omega)]at hd
    have hj0:j - ds.length=0:=by
     have:=(aC9.1 hd).1
     simp at this
     omega
    rw[hj0]at hd
    cases hd
    have:j=i:=by omega
    subst this
    rw[hx]at hy
    cases hy
    exact hD
  have hdl':(ds++[(⟨_,yG hD⟩:eO)]).length=i+1:=by simp[hdl]
  generalize ds++[(⟨_,yG hD⟩:eO)]=ds' at of hds' hdl'
  refine aC2 (by omega) (by omega) ?_
  refine⟨rfl,?_⟩
  exact⟨⟨i+1,ua',uc',ds',by omega,rfl,hdl',hds',Own.sel ‹_› [0,1,2,3] rfl⟩,by simp;omega⟩
 ·obtain rfl:i=xs.length:=by omega
  have hPm:kP hh (.slice ua xs.length uc) xs:=by
   have oa:=oh.rowArrN 3 rfl
   refine⟨ds,oa,hdl,fun j x hx=>?_⟩
   obtain⟨d,hd⟩:=getx (l:=ds) (i:=j) (by rw[hdl];exact(aC9.1 hx).1)
   exact⟨d,hd,(hds j x d hx hd).ext oh.ext⟩
  refine rR (fA mP rfl rfl rfl ?_);refine rR (aCi oh 0 rfl oU rfl rfl ?_);refine rR (aCq rfl kL ?_);refine aCV (fun hc=>absurd hc (by omega)) (fun c403=>?_);refine rR (aCm oh 2 rfl oT rfl rfl rfl ?_);refine aCZ (kX xs _ _ (hT.ext (Own.ext (B:=h) ‹_›)) (hF.ext (Own.ext (B:=h) ‹_›)) hPm hOK hsz hn) ?_;rintro _ h7 ⟨rfl,oc⟩;have z7:=oc.thenE (B:=h) oh;clear oc;have hbd:∀ xs,(cZ xs).1.length≤20000:=fun xs=>by
   rcases aBZ xs with h|⟨_,h,_⟩|⟨_,h,_⟩
   ·exact(oO h).1
   ·rw[h];simp
   ·rw[h];simp
  by_cases p0:(cZ xs).2=0
  ·by_cases r0:(cZ ys).2=0
   ·have heq:=aAv p0 r0
    refine aCn (fun hc=>absurd (by first|omega|assumption|decide|exact rfl) hc) (fun c500=>?_);refine aCn (fun hc=>absurd (by first|omega|assumption|decide|exact rfl) hc) (fun c501=>?_);refine aCW ?_;refine aCn (fun hc=>absurd (by first|omega|assumption|decide|exact rfl) hc) (fun c502=>?_);refine aCn (fun hc=>absurd (by first|omega|assumption|decide|exact rfl) hc) (fun c503=>?_);refine rR (aCm z7 0 rfl oT rfl rfl rfl ?_);refine rR (aCm z7 1 rfl oT rfl rfl rfl ?_);refine aCZ (same2_spec xs ys _ _ _ hOK hOKq (by omega) (by omega) (hPp.ext (Own.ext (B:=h) ‹_›)) (hPq.ext (Own.ext (B:=h) ‹_›))) ?_;rintro _ h8 ⟨bb,rfl,hbb,oc⟩;have z8:=oc.thenE (B:=h) ‹_›;clear oc;have hbq:decide ((cZ xs).1=(cZ ys).1)=bb:=by
     rw[Bool.eq_iff_iff,decide_eq_true_eq,heq,hbb]
    refine rR (eqB bool4 rfl rfl ?_);refine aC3 rfl ?_
    refine⟨congrArg Value.bool ?_,Own.sel ‹_› [] rfl⟩
    simp[hbq]
   ·refine aCn (fun hc=>absurd (by first|omega|assumption|decide|exact rfl) hc) (fun c700=>?_)
    refine aCn (fun hc=>absurd (by first|omega|assumption|decide|exact rfl) hc) (fun c701=>?_);refine aCW ?_;refine aCn (fun hc=>absurd (by first|omega|assumption|decide|exact rfl) hc) (fun c702=>?_);refine aCn (fun c703=>?_) (fun hc=>absurd hc (by first|omega|assumption|decide|exact rfl));refine aC3 rfl ?_
    exact⟨rfl,Own.sel ‹_› [] rfl⟩
  ·refine aCn (fun hc=>absurd (by first|omega|assumption|decide|exact rfl) hc) (fun c800=>?_)
   refine aCn (fun hc=>absurd (by first|omega|assumption|decide|exact rfl) hc) (fun c801=>?_);refine aCW ?_;refine aCn (fun c802=>?_) (fun hc=>absurd hc (by first|omega|assumption|decide|exact rfl));refine aC3 rfl ?_
   exact⟨rfl,Own.sel ‹_› [] rfl⟩
end Go.Proofs.YtohlogbnpfofpaaGreatDoor
namespace Go.Proofs.YtohlogbnpfofpaaGreatDoor
open Go Go.ChangeShapes Go.WideShapes Go.ChangeAt Go.RowKit Go.WideElems Go.Joins Go.Deep
section
variable {H : Type} {enc : TypeId × Value → H} {P : Program} {W : World}
def wOK (P:Program)(t:TypeId)(d:DataW H):Prop:=(d.weights P t).all (·≤reachBytes)=true
def fieldsAt (P:Program)(fs:Array Field)(l:List (TypeId×Nat×Nat)):Bool:=fs.toList.map (fun f=>(f.type,f.offset,P.cellsOf f.type)) == l
theorem qI:∀ {ts:List TypeId}{ds:List (DataW H)},(DataW.weightsEach P ts ds).all (·≤reachBytes)=true→∀ {j:Nat}{t:TypeId}{d:DataW H},ts[j]?=some t→ds[j]?=some d→wOK P t d
 | [],_,_,_,_,_,hj,_=>by simp at hj
 | _::_,[],_,_,_,_,_,hd=>by simp at hd
 | t::ts,d::ds,h,0,_,_,hj,hd=>by
  simp only[DataW.weightsEach,List.all_append,aDb]at h
  simp at hj hd
  subst hj;subst hd;exact h.1
 | t::ts,d::ds,h,j+1,_,_,hj,hd=>by
  simp only[DataW.weightsEach,List.all_append,aDb]at h
  exact qI h.2 (by simpa using hj) (by simpa using hd)
theorem sR {e:TypeId}:∀ {l:List (DataW H)},(DataW.weightsAll P e l).all (·≤reachBytes)=true→∀ {j:Nat}{d:DataW H},l[j]?=some d→(d.weights P e).all (·≤reachBytes)=true
 | [],_,_,_,hj=>by simp at hj
 | x::l,h,0,d,hj=>by
  simp only[DataW.weightsAll,List.all_append,aDb]at h
  simp at hj
  subst hj;exact h.1
 | x::l,h,j+1,d,hj=>by
  simp only[DataW.weightsAll,List.all_append,aDb]at h
  exact sR h.2 (by simpa using hj)
theorem eF {t:TypeId}{fs:Array Field}{l:List (TypeId×Nat×Nat)}{fuel:Nat}{cs:aVs}{x:DataW H×List MemPlace}(ht:P.underlying t=some (.struct fs))(hl:fieldsAt P fs l=true)
  (h:DataW.trod enc P W 0 (fun _=>true) true fuel t cs=some x) (hw:wOK P t x.1):∃ n,fuel=n+1∧cs.length=P.cellsOf t ∧
   ∀(i:Nat) (ty:TypeId) (o sz:Nat),l[i]?=some (ty,o,sz)→∃ y,DataW.trod enc P W 0 (fun _=>true) true n ty ((cs.drop o).take sz)=some y∧wOK P ty y.1:=by
 obtain⟨xs,n,rfl,hx,hlen,hsz,hf⟩:=DataW.trod_struct ht h
 refine⟨n,rfl,hlen,fun i ty o sz hi=>?_⟩
 have hl:=eq_of_beq hl
 rw[← hl,aDK]at hi
 obtain⟨f,hfi,he⟩:=aDl.1 hi
 cases he
 have hfi2:fs[i]?=some f:=by simpa using hfi
 have h1:=hf i f hfi2;have hil:i<xs.length:=by rw[hsz];exact(Array.getElem?_eq_some_iff.1 hfi2).1
 obtain⟨y,hy⟩:=getx hil
 rw[hy]at h1
 refine⟨y,h1,?_⟩
 have hd:x.1=.agg (xs.map (·.1)):=congrArg Prod.fst hx
 rw[hd]at hw
 unfold wOK at hw
 simp only[DataW.weights,ht]at hw
 exact qI hw (j:=i) (by rw[aDK,hfi];rfl) (by rw[aDK,hy];rfl)
theorem rV {α β:Type}{ψ:α→β→Prop}:∀ {l:List α},(∀ c∈l,∃ x,ψ c x)→∃ xs:List β,l.length=xs.length∧∀(i:Nat)(x:β),xs[i]?=some x→∃ c,l[i]?=some c∧ψ c x
 | [],_=>⟨[],rfl,fun i x h=>by simp at h⟩
 | c::l,h=>by
  obtain⟨x,hx⟩:=h c (by simp)
  obtain⟨xs,h1,h2⟩:=rV (l:=l) fun c hc=>h c (by simp[hc])
  refine⟨x::xs,by simp[h1],fun i y hy=>?_⟩
  cases i with
  | zero=>simp at hy;subst hy;exact⟨c,rfl,hx⟩
  | succ i=>exact h2 i y (by simpa using hy)
theorem gR {t e:TypeId}{fuel sz:Nat}{cs:aVs}{x:DataW H×List MemPlace}{α:Type}{f:α→aVs}{ψ:α→Prop}(ht:P.underlying t=some (.slice e))(hsz:P.cellsOf e=sz)(hf:∀ y,(f y).length=sz)(hpos:0<sz)(hby:0<P.bytesOf e)
  (hel:∀ n,n<fuel→∀ cs x,DataW.trod enc P W 0 (fun _=>true) true n e cs=some x→wOK P e x.1→∃ y,cs=f y∧ψ y)
  (h:DataW.trod enc P W 0 (fun _=>true) true fuel t cs=some x) (hw:wOK P t x.1):∃(v:Value) (ys:List α),cs=[v]∧dF sz W.heap v ys.length (ys.flatMap f)∧(∀ y∈ys,ψ y)∧ys.length≤140737488351232:=by
 subst hsz
 rcases DataW.trod_slice ht h with ⟨hcs,hx⟩|⟨a,len,cap,elems,rest,n,rfl,hcs,hx,hb,hl,hm,hlen,hel',hsp,hns⟩
 ·exact⟨_,[],hcs,dF.nil _ _,by simp,by simp⟩
 ·have hd:x.1=_:=congrArg Prod.fst hx
  rw[hd]at hw
  unfold wOK at hw
  simp only[DataW.weights,ht,List.all_cons,aDb,List.all_append,List.length_map,decide_eq_true_eq]at hw
  have each:∀ j,j<len→∃ y:α,(∀ r u,(f y)[r]?=some u→W.cell? ((a.add (j*P.cellsOf e)).add r)=some u)∧ψ y:=by
   intro j hj;have h1:=hel' j hj
   obtain⟨d,hd⟩:=getx (l:=elems) (i:=j) (by omega)
   rw[hd]at h1
   obtain⟨cs',g1,g2⟩:=Option.bind_eq_some_iff.1 h1
   have wj:wOK P e d.1:=sR hw.2.1 (j:=j) (by rw[aDK,hd];rfl)
   obtain⟨y,rfl,hy⟩:=hel n (Nat.lt_succ_self n) cs' d g2 wj
   obtain⟨_,hlen',hcell⟩:=World.cells?_some g1
   refine⟨y,fun r u hu=>?_,hy⟩
   have hr:r<P.cellsOf e:=by
    have:=(aC9.1 hu).1
    rw[hf]at this
    exact this
   rw[hcell r hr]
   exact hu
  obtain⟨ys,hl1,hl2⟩:=rV (l:=List.range len) (fun c hc=>each c (List.mem_range.1 hc))
  have hlen2:ys.length=len:=by rw[← hl1,List.length_range]
  have at_:∀(j:Nat) (y:α),ys[j]?=some y→(∀ r u,(f y)[r]?=some u→W.cell? ((a.add (j*P.cellsOf e)).add r)=some u)∧ψ y:=fun j y hy=>by
   obtain⟨c,hc,h⟩:=hl2 j y hy
   have hj:c=j:=by
    obtain⟨hj,e⟩:=aC9.1 hc
    simpa using e.symm
   subst hj;exact h
  refine⟨_,ys,hcs,?_,fun y hy=>?_,?_⟩
  ·rw[hlen2]
   exact aAX (f:=f) hf hpos hlen2 hl (fun j y hy r u hu=>(at_ j y hy).1 r u hu)
  ·obtain⟨j,hj⟩:=aDC.1 hy
   exact(at_ j y hj).2
  ·have h1:=hw.1
   simp only[reachBytes]at h1
   have h2:len≤(elems.length+rest.length)*P.bytesOf e:=aDn (by omega) (Nat.le_mul_of_pos_right _ hby)
   rw[hlen2]
   omega
theorem iI {t:TypeId}{fuel:Nat}{cs:aVs}{x:DataW H×List MemPlace}(ht:P.underlying t=some .string)(h:DataW.trod enc P W 0 (fun _=>true) true fuel t cs=some x)(hw:wOK P t x.1):∃ l:aBs,cs=[.string ⟨⟨l⟩⟩]∧l.length≤1000000000000000:=by
 obtain⟨⟨⟨l⟩⟩,e1,hx1,_⟩:=DataW.trod_string ht h
 refine⟨l,e1,?_⟩
 unfold wOK at hw
 rw[hx1]at hw
 have:=aDk.1 hw l.length (by simp[DataW.weights])
 have:=of_decide_eq_true this
 simp only[reachBytes]at this
 omega
theorem gG {t:TypeId}{fuel:Nat}{cs:aVs}{x:DataW H×List MemPlace}(ht:P.underlying t=some (.int .i64))(h:DataW.trod enc P W 0 (fun _=>true) true fuel t cs=some x):∃ n:Int,cs=[.int .i64 n]∧(-9223372036854775808≤n∧n≤9223372036854775807):=by
 obtain⟨n,e,_,w⟩:=DataW.trod_int ht h
 exact⟨n,e,by simpa[Lit.wf,IntKind.min,IntKind.max,IntKind.signed,IntKind.bits] using w⟩
end
section
variable {H : Type} {enc : TypeId × Value → H} {W : World}
theorem tr_vl {fuel:Nat}{cs:aVs}{x:DataW H×List MemPlace}(h:DataW.trod enc Tryz.prog W 0 (fun _=>true) true fuel 93 cs=some x)(hw:wOK Tryz.prog 93 x.1):∃ y:Vl,cs=vlC y∧VlOK y:=by
 obtain⟨n,rfl,hlen,hf⟩:=eF (l:=[(3,0,1),(3,1,1),(9,2,1)]) Tryz.underlying93 (by kernel_rfl) h hw
 have hlen:cs.length=3:=hlen.trans (by kernel_rfl)
 match cs,hlen with
 | [c0,c1,c2],_ =>
  obtain⟨y0,t0,w0⟩:=hf 0 _ _ _ rfl
  obtain⟨y1,t1,w1⟩:=hf 1 _ _ _ rfl
  obtain⟨y2,t2,w2⟩:=hf 2 _ _ _ rfl
  obtain⟨a0,e0,b0⟩:=gG Tryz.underlying3 t0
  obtain⟨a1,e1,b1⟩:=gG Tryz.underlying3 t1
  obtain⟨a2,e2,b2⟩:=iI Tryz.underlying9 t2 w2
  cases e0;cases e1;cases e2
  exact⟨⟨a0,a1,a2⟩,rfl,b0,b1,b2⟩
theorem tr_opd {fuel:Nat}{cs:aVs}{x:DataW H×List MemPlace}(h:DataW.trod enc Tryz.prog W 0 (fun _=>true) true fuel 140 cs=some x)(hw:wOK Tryz.prog 140 x.1):∃ y:Opd,cs=opdC y∧aBJ y:=by
 obtain⟨n,rfl,hlen,hf⟩:=eF (l:=[(9,0,1),(9,1,1),(4,2,1),(93,3,3)]) Tryz.underlying140 (by kernel_rfl) h hw
 have hlen:cs.length=6:=hlen.trans (by kernel_rfl)
 match cs,hlen with
 | [c0,c1,c2,c3,c4,c5],_ =>
  obtain⟨y0,t0,w0⟩:=hf 0 _ _ _ rfl
  obtain⟨y1,t1,w1⟩:=hf 1 _ _ _ rfl
  obtain⟨y2,t2,w2⟩:=hf 2 _ _ _ rfl
  obtain⟨y3,t3,w3⟩:=hf 3 _ _ _ rfl
  obtain⟨a0,e0,b0⟩:=iI Tryz.underlying9 t0 w0
  obtain⟨a1,e1,b1⟩:=iI Tryz.underlying9 t1 w1
  obtain⟨a2,e2,b2⟩:=DataW.trod_bool Tryz.underlying4 t2
  obtain⟨a3,e3,b3⟩:=tr_vl t3 w3
  cases e0;cases e1;cases e2;cases e3
  exact⟨⟨a0,a1,a2,a3⟩,rfl,b0,b1,b3⟩
theorem tr_cnd {fuel:Nat}{cs:aVs}{x:DataW H×List MemPlace}(h:DataW.trod enc Tryz.prog W 0 (fun _=>true) true fuel 142 cs=some x)(hw:wOK Tryz.prog 142 x.1):∃ y:Cnd,cs=nT y∧xV y:=by
 obtain⟨n,rfl,hlen,hf⟩:=eF (l:=[(140,0,6),(3,6,1),(140,7,6),(3,13,1)]) Tryz.underlying142 (by kernel_rfl) h hw
 have hlen:cs.length=14:=hlen.trans (by kernel_rfl)
 match cs,hlen with
 | [c0,c1,c2,c3,c4,c5,c6,c7,c8,c9,c10,c11,c12,c13],_ =>
  obtain⟨y0,t0,w0⟩:=hf 0 _ _ _ rfl
  obtain⟨y1,t1,w1⟩:=hf 1 _ _ _ rfl
  obtain⟨y2,t2,w2⟩:=hf 2 _ _ _ rfl
  obtain⟨y3,t3,w3⟩:=hf 3 _ _ _ rfl
  obtain⟨a0,e0,b0⟩:=tr_opd t0 w0
  obtain⟨a1,e1,b1⟩:=gG Tryz.underlying3 t1
  obtain⟨a2,e2,b2⟩:=tr_opd t2 w2
  obtain⟨a3,e3,b3⟩:=gG Tryz.underlying3 t3
  cases e0;cases e1;cases e2;cases e3
  exact⟨⟨a0,a1,a2,a3⟩,rfl,b0,b1,b2,b3⟩
theorem tr_col {fuel:Nat}{cs:aVs}{x:DataW H×List MemPlace}(h:DataW.trod enc Tryz.prog W 0 (fun _=>true) true fuel 132 cs=some x)(hw:wOK Tryz.prog 132 x.1):∃ y:Col,cs=uY y∧ColOK y:=by
 obtain⟨n,rfl,hlen,hf⟩:=eF (l:=[(9,0,1),(3,1,1),(93,2,3)]) Tryz.underlying132 (by kernel_rfl) h hw
 have hlen:cs.length=5:=hlen.trans (by kernel_rfl)
 match cs,hlen with
 | [c0,c1,c2,c3,c4],_ =>
  obtain⟨y0,t0,w0⟩:=hf 0 _ _ _ rfl
  obtain⟨y1,t1,w1⟩:=hf 1 _ _ _ rfl
  obtain⟨y2,t2,w2⟩:=hf 2 _ _ _ rfl
  obtain⟨a0,e0,b0⟩:=iI Tryz.underlying9 t0 w0
  obtain⟨a1,e1,b1⟩:=gG Tryz.underlying3 t1
  obtain⟨a2,e2,b2⟩:=tr_vl t2 w2
  cases e0;cases e1;cases e2
  exact⟨⟨a0,a1,a2⟩,rfl,b0,b1,b2⟩
theorem tr_trm {fuel:Nat}{cs:aVs}{x:DataW H×List MemPlace}(h:DataW.trod enc Tryz.prog W 0 (fun _=>true) true fuel 136 cs=some x)(hw:wOK Tryz.prog 136 x.1):∃ y:Trm,cs=xW y∧TrmOK y:=by
 obtain⟨n,rfl,hlen,hf⟩:=eF (l:=[(9,0,1),(3,1,1),(3,2,1),(134,3,2),(3,5,1),(3,6,1)]) Tryz.underlying136 (by kernel_rfl) h hw
 have hlen:cs.length=7:=hlen.trans (by kernel_rfl)
 match cs,hlen with
 | [c0,c1,c2,c3,c4,c5,c6],_ =>
  obtain⟨y0,t0,w0⟩:=hf 0 _ _ _ rfl
  obtain⟨y1,t1,w1⟩:=hf 1 _ _ _ rfl
  obtain⟨y2,t2,w2⟩:=hf 2 _ _ _ rfl
  obtain⟨y3,t3,w3⟩:=hf 3 _ _ _ rfl
  obtain⟨y5,t5,w5⟩:=hf 4 _ _ _ rfl
  obtain⟨y6,t6,w6⟩:=hf 5 _ _ _ rfl
  obtain⟨k,rfl,_,hg⟩:=eF (l:=[(3,0,1),(3,1,1)]) Tryz.underlying134 (by kernel_rfl) t3 w3
  obtain⟨z0,s0,u0⟩:=hg 0 _ _ _ rfl
  obtain⟨z1,s1,u1⟩:=hg 1 _ _ _ rfl
  obtain⟨a0,e0,b0⟩:=iI Tryz.underlying9 t0 w0
  obtain⟨a1,e1,b1⟩:=gG Tryz.underlying3 t1
  obtain⟨a2,e2,b2⟩:=gG Tryz.underlying3 t2
  obtain⟨a3,e3,b3⟩:=gG Tryz.underlying3 s0
  obtain⟨a4,e4,b4⟩:=gG Tryz.underlying3 s1
  obtain⟨a5,e5,b5⟩:=gG Tryz.underlying3 t5
  obtain⟨a6,e6,b6⟩:=gG Tryz.underlying3 t6
  cases e0;cases e1;cases e2;cases e3;cases e4;cases e5;cases e6
  exact⟨⟨a0,a1,a2,a3,a4,a5,a6⟩,rfl,b0,b1,b2,b3,b4,b5,b6⟩
theorem tr_nmd {fuel:Nat}{cs:aVs}{x:DataW H×List MemPlace}(h:DataW.trod enc Tryz.prog W 0 (fun _=>true) true fuel 95 cs=some x)(hw:wOK Tryz.prog 95 x.1):∃ y:Nmd,cs=yC y∧NmdOK y:=by
 obtain⟨n,rfl,hlen,hf⟩:=eF (l:=[(9,0,1),(93,1,3)]) Tryz.underlying95 (by kernel_rfl) h hw
 have hlen:cs.length=4:=hlen.trans (by kernel_rfl)
 match cs,hlen with
 | [c0,c1,c2,c3],_ =>
  obtain⟨y0,t0,w0⟩:=hf 0 _ _ _ rfl
  obtain⟨y1,t1,w1⟩:=hf 1 _ _ _ rfl
  obtain⟨a0,e0,b0⟩:=iI Tryz.underlying9 t0 w0
  obtain⟨a1,e1,b1⟩:=tr_vl t1 w1
  cases e0;cases e1
  exact⟨⟨a0,a1⟩,rfl,b0,b1⟩
theorem tr_vr {fuel:Nat}{cs:aVs}{x:DataW H×List MemPlace}(h:DataW.trod enc Tryz.prog W 0 (fun _=>true) true fuel 98 cs=some x)(hw:wOK Tryz.prog 98 x.1):∃ y:Vr,cs=vrC y∧VrOK y:=by
 obtain⟨n,rfl,hlen,hf⟩:=eF (l:=[(9,0,1),(9,1,1)]) Tryz.underlying98 (by kernel_rfl) h hw
 have hlen:cs.length=2:=hlen.trans (by kernel_rfl)
 match cs,hlen with
 | [c0,c1],_ =>
  obtain⟨y0,t0,w0⟩:=hf 0 _ _ _ rfl
  obtain⟨y1,t1,w1⟩:=hf 1 _ _ _ rfl
  obtain⟨a0,e0,b0⟩:=iI Tryz.underlying9 t0 w0
  obtain⟨a1,e1,b1⟩:=iI Tryz.underlying9 t1 w1
  cases e0;cases e1
  exact⟨⟨a0,a1⟩,rfl,b0,b1⟩
theorem tr_strC {fuel:Nat}{cs:aVs}{x:DataW H×List MemPlace}(h:DataW.trod enc Tryz.prog W 0 (fun _=>true) true fuel 9 cs=some x)(hw:wOK Tryz.prog 9 x.1):∃ y:aBs,cs=tB y∧y.length≤1000000000000000:=iI Tryz.underlying9 h hw
theorem exsOf {W:Heap}{ys:List cX}{ψ:cX→Ex→Prop}(hψ:∀ c x,ψ c x→kJ W c.1 x∧iG x):∀ {l:List cX},(∀ c∈l,∃ x,ψ c x)→∃ xs:List Ex,l.length=xs.length∧nY W l xs∧sX xs
 | [],_=>⟨[],rfl,trivial,trivial⟩
 | c::l,h=>by
  obtain⟨x,hx⟩:=h c (by simp)
  obtain⟨xs,h1,h2,h3⟩:=exsOf (ys:=ys) hψ (l:=l) fun c hc=>h c (by simp[hc])
  obtain⟨h4,h5⟩:=hψ c x hx
  exact⟨x::xs,by simp[h1],by rw[nY];exact⟨h4,h2⟩,by rw[sX];exact⟨h5,h3⟩⟩
theorem tr_ex:∀(fuel:Nat) {cs:aVs}{x:DataW H×List MemPlace}(_:DataW.trod enc Tryz.prog W 0 (fun _=>true) true fuel 42 cs=some x)(_:wOK Tryz.prog 42 x.1),cs.length=9∧∃ y:Ex,kJ W.heap cs y∧iG y
 | 0,_,_,h,_=>by simp[DataW.trod]at h
 | m+1,cs,x,h,hw=>by
  obtain⟨n,hn,hlen,hf⟩:=eF (l:=[(3,0,1),(9,1,1),(40,2,1),(39,3,1),(35,4,1),(9,5,1),(9,6,1),(3,7,1),(3,8,1)]) Tryz.underlying42 (by kernel_rfl) h hw
  have hlen:cs.length=9:=hlen.trans (by kernel_rfl);obtain rfl:m=n:=Nat.succ.inj hn
  refine⟨hlen,?_⟩
  match cs,hlen with
  | [c0,c1,c2,c3,c4,c5,c6,c7,c8],_ =>
   obtain⟨y0,t0,w0⟩:=hf 0 _ _ _ rfl
   obtain⟨y1,t1,w1⟩:=hf 1 _ _ _ rfl
   obtain⟨y2,t2,w2⟩:=hf 2 _ _ _ rfl
   obtain⟨y3,t3,w3⟩:=hf 3 _ _ _ rfl
   obtain⟨y4,t4,w4⟩:=hf 4 _ _ _ rfl
   obtain⟨y5,t5,w5⟩:=hf 5 _ _ _ rfl
   obtain⟨y6,t6,w6⟩:=hf 6 _ _ _ rfl
   obtain⟨y7,t7,w7⟩:=hf 7 _ _ _ rfl
   obtain⟨y8,t8,w8⟩:=hf 8 _ _ _ rfl
   obtain⟨a0,e0,b0⟩:=gG Tryz.underlying3 t0
   obtain⟨a1,e1,b1⟩:=iI Tryz.underlying9 t1 w1
   obtain⟨v2,ks,e2,r2,p2,q2⟩:=gR (sz:=9) (f:=Subtype.val) (ψ:=fun c:cX=>∃ y:Ex,kJ W.heap c.1 y∧iG y) Tryz.underlying40 (by kernel_rfl) (fun y:cX=>y.2) (by decide) (by decide +kernel)
    (fun n hn cs x h hw=>by
     have:=tr_ex n h hw
     exact⟨⟨cs,this.1⟩,rfl,this.2⟩) t2 w2
   obtain⟨v3,cds,e3,r3,p3,q3⟩:=gR (sz:=14) (f:=nT) Tryz.underlying39 (by kernel_rfl) (fun _=>rfl) (by decide) (by decide +kernel) (fun n hn cs x h hw=>tr_cnd h hw) t3 w3
   obtain⟨v4,nms,e4,r4,p4,q4⟩:=gR (sz:=1) (f:=tB) Tryz.underlying35 (by kernel_rfl) (fun _=>rfl) (by decide) (by decide +kernel) (fun n hn cs x h hw=>tr_strC h hw) t4 w4
   obtain⟨a5,e5,b5⟩:=iI Tryz.underlying9 t5 w5
   obtain⟨a6,e6,b6⟩:=iI Tryz.underlying9 t6 w6
   obtain⟨a7,e7,b7⟩:=gG Tryz.underlying3 t7
   obtain⟨a8,e8,b8⟩:=gG Tryz.underlying3 t8
   cases e0;cases e1;cases e2;cases e3;cases e4;cases e5;cases e6;cases e7;cases e8
   obtain⟨xs,h1,h2,h3⟩:=exsOf (W:=W.heap) (ys:=ks) (ψ:=fun c y=>kJ W.heap c.1 y∧iG y) (fun c x h=>h) p2
   refine⟨.mk a0 a1 xs cds nms a5 a6 a7 0,?_,?_⟩
   ·rw[kJ]
    exact⟨_,_,_,a8,rfl,r3,r4,ks,by rw[← h1];exact r2,h2⟩
   ·rw[iG]
    exact⟨b0,b1,h3,p3,p4,b5,b6,b7,by omega,by omega,by omega⟩
theorem tr_it {fuel:Nat}{cs:aVs}{x:DataW H×List MemPlace}(h:DataW.trod enc Tryz.prog W 0 (fun _=>true) true fuel 44 cs=some x)(hw:wOK Tryz.prog 44 x.1):cs.length=25∧∃ y:It,itH W.heap cs y∧iZ y:=by
 obtain⟨n,rfl,hlen,hf⟩:=eF (l:=[(3,0,1),(9,1,1),(3,2,1),(9,3,1),(9,4,1),(34,5,1),(35,6,1),(3,7,1),(3,8,1),(3,9,1),(36,10,1),(9,11,1),(9,12,1),(37,13,1),(38,14,1),(39,15,1),(42,16,9)]) Tryz.underlying44 (by kernel_rfl) h hw
 have hlen:cs.length=25:=hlen.trans (by kernel_rfl)
 refine⟨hlen,?_⟩
 match cs,hlen with
 | [c0,c1,c2,c3,c4,c5,c6,c7,c8,c9,c10,c11,c12,c13,c14,c15,c16,c17,c18,c19,c20,c21,c22,c23,c24],_ =>
  obtain⟨y0,t0,w0⟩:=hf 0 _ _ _ rfl
  obtain⟨y1,t1,w1⟩:=hf 1 _ _ _ rfl
  obtain⟨y2,t2,w2⟩:=hf 2 _ _ _ rfl
  obtain⟨y3,t3,w3⟩:=hf 3 _ _ _ rfl
  obtain⟨y4,t4,w4⟩:=hf 4 _ _ _ rfl
  obtain⟨y5,t5,w5⟩:=hf 5 _ _ _ rfl
  obtain⟨y6,t6,w6⟩:=hf 6 _ _ _ rfl
  obtain⟨y7,t7,w7⟩:=hf 7 _ _ _ rfl
  obtain⟨y8,t8,w8⟩:=hf 8 _ _ _ rfl
  obtain⟨y9,t9,w9⟩:=hf 9 _ _ _ rfl
  obtain⟨y10,t10,w10⟩:=hf 10 _ _ _ rfl
  obtain⟨y11,t11,w11⟩:=hf 11 _ _ _ rfl
  obtain⟨y12,t12,w12⟩:=hf 12 _ _ _ rfl
  obtain⟨y13,t13,w13⟩:=hf 13 _ _ _ rfl
  obtain⟨y14,t14,w14⟩:=hf 14 _ _ _ rfl
  obtain⟨y15,t15,w15⟩:=hf 15 _ _ _ rfl
  obtain⟨y16,t16,w16⟩:=hf 16 _ _ _ rfl
  obtain⟨a0,e0,b0⟩:=gG Tryz.underlying3 t0
  obtain⟨a1,e1,b1⟩:=iI Tryz.underlying9 t1 w1
  obtain⟨a2,e2,b2⟩:=gG Tryz.underlying3 t2
  obtain⟨a3,e3,b3⟩:=iI Tryz.underlying9 t3 w3
  obtain⟨a4,e4,b4⟩:=iI Tryz.underlying9 t4 w4
  obtain⟨v5,l5,e5,r5,p5,q5⟩:=gR (sz:=5) (f:=uY) Tryz.underlying34 (by kernel_rfl) (fun _=>rfl) (by decide) (by decide +kernel) (fun n hn cs x h hw=>tr_col h hw) t5 w5
  obtain⟨v6,l6,e6,r6,p6,q6⟩:=gR (sz:=1) (f:=tB) Tryz.underlying35 (by kernel_rfl) (fun _=>rfl) (by decide) (by decide +kernel) (fun n hn cs x h hw=>tr_strC h hw) t6 w6
  obtain⟨a7,e7,b7⟩:=gG Tryz.underlying3 t7
  obtain⟨a8,e8,b8⟩:=gG Tryz.underlying3 t8
  obtain⟨a9,e9,b9⟩:=gG Tryz.underlying3 t9
  obtain⟨v10,l10,e10,r10,p10,q10⟩:=gR (sz:=7) (f:=xW) Tryz.underlying36 (by kernel_rfl) (fun _=>rfl) (by decide) (by decide +kernel) (fun n hn cs x h hw=>tr_trm h hw) t10 w10
  obtain⟨a11,e11,b11⟩:=iI Tryz.underlying9 t11 w11
  obtain⟨a12,e12,b12⟩:=iI Tryz.underlying9 t12 w12
  obtain⟨v13,l13,e13,r13,p13,q13⟩:=gR (sz:=4) (f:=yC) Tryz.underlying37 (by kernel_rfl) (fun _=>rfl) (by decide) (by decide +kernel) (fun n hn cs x h hw=>tr_nmd h hw) t13 w13
  obtain⟨v14,l14,e14,r14,p14,q14⟩:=gR (sz:=2) (f:=vrC) Tryz.underlying38 (by kernel_rfl) (fun _=>rfl) (by decide) (by decide +kernel) (fun n hn cs x h hw=>tr_vr h hw) t14 w14
  obtain⟨v15,l15,e15,r15,p15,q15⟩:=gR (sz:=14) (f:=nT) Tryz.underlying39 (by kernel_rfl) (fun _=>rfl) (by decide) (by decide +kernel) (fun n hn cs x h hw=>tr_cnd h hw) t15 w15
  obtain⟨_,ex,r16,p16⟩:=tr_ex _ t16 w16
  cases e0;cases e1;cases e2;cases e3;cases e4;cases e5;cases e6;cases e7;cases e8;cases e9;cases e10;cases e11;cases e12;cases e13;cases e14;cases e15
  exact⟨⟨a0,a1,0,a3,a4,l5,l6,a7,a8,a9,l10,a11,a12,l13,l14,l15,ex⟩,⟨a2,_,_,_,_,_,_,_,_,_,_,_,_,_,_,_,rfl,r5,r6,r10,r13,r14,r15,r16⟩,b0,b1,b3,b4,p5,p6,b7,b8,b9,p10,b11,b12,p13,p14,p15,p16,aDn q5 (by decide),aDn q6 (by decide),aDn q10 (by decide),aDn q13 (by decide),aDn q14 (by decide),aDn q15 (by decide)⟩
theorem In.prog {base:Nat}{v:Value}{d:DataW H}(i:In enc Tryz.prog W base 24 v d):∃(u:Value)(xs:List It),v=.agg ⟨[u]⟩∧kP W.heap u xs∧(∀ x∈xs,iZ x)∧xs.length≤140737488351232:=by
 obtain⟨⟨cs⟩,rfl,hsz⟩:=okWide_struct Tryz.underlying24 i.ok
 obtain⟨p,fuel,h⟩:=i.trod
 have hlen:cs.length=1:=hsz.trans (by kernel_rfl)
 obtain⟨n,rfl,_,hf⟩:=eF (l:=[(22,0,1)]) Tryz.underlying24 (by kernel_rfl) h i.fits
 match cs,hlen with
 | [c0],_ =>
  obtain⟨y0,t0,w0⟩:=hf 0 _ _ _ rfl
  obtain⟨u,l,e,r,q,hl⟩:=gR (sz:=25) (f:=Subtype.val) (ψ:=fun c:eO=>∃ y:It,itH W.heap c.1 y∧iZ y) Tryz.underlying22 (by kernel_rfl) (fun y:eO=>y.2) (by decide) (by decide +kernel)
   (fun n hn cs x h hw=>by
    have:=tr_it h hw
    exact⟨⟨cs,this.1⟩,rfl,this.2⟩) t0 w0
  cases e
  obtain⟨xs,h1,h2⟩:=rV q
  refine⟨_,xs,rfl,⟨l,by rw[← h1];exact r,h1,fun i x hx=>?_⟩,fun x hx=>?_,by omega⟩
  ·obtain⟨c,hc,hh,_⟩:=h2 i x hx
   exact⟨c,hc,hh⟩
  ·obtain⟨i,hi⟩:=aDC.1 hx
   obtain⟨c,hc,_,hh⟩:=h2 i x hi
   exact hh
end
end Go.Proofs.YtohlogbnpfofpaaGreatDoor
