/- Part 14 of the proof of inverse: FnYc, FnYi, FnXi. -/
import Derived.Test.YtohlogbnpfofpaaGreatDoorPV13
set_option linter.all false
set_option maxHeartbeats 100000000
set_option maxRecDepth 100000
namespace Go.Proofs.YtohlogbnpfofpaaGreatDoor
open Go StillVC
theorem bl_irr:∀ l:aBs,Op.bytesLess l l=false:=by
 intro l
 induction l with
 | nil=>rfl
 | cons c l ih=>simp[Op.bytesLess,ih]
theorem yZ (a b:Int)(h:Heap):bZ Tryz.prog 146 [.int .i64 a,.int .i64 b] h fun r h'=>(∃ k:Int,r=.int .i64 k∧(k=0↔a=b))∧Own h [] h':=by
 have o0:=Own.refl h;refine aCV Tryz.func146 rfl Tryz.ntmps146 (by kernel_rfl) ?_;refine aCP (fun c10=>?_) (fun c10=>?_);refine aCX rfl ?_
 rotate_left
 refine aCP (fun c11=>?_) (fun c11=>?_);refine aCX rfl ?_
 rotate_left
 refine aCX rfl ?_
 all_goals exact⟨⟨_,rfl,by omega⟩,o0⟩
theorem bl_two {a b:aBs}(h:Op.bytesLess a b=false)(h2:a≠b):(!(Op.bytesLess a b||a == b))=true:=by
 rw[h]
 simp[h2]
theorem rcompare2 (x y:Vl)(h:Heap):bZ Tryz.prog 121 [.agg ⟨[.int .i64 x.k,.int .i64 x.n,.string ⟨⟨x.t⟩⟩]⟩,.agg ⟨[.int .i64 y.k,.int .i64 y.n,.string ⟨⟨y.t⟩⟩]⟩] h fun r h'=>∃ k:Int,r=.int .i64 k∧(k=0↔x=y)∧Own h [] h':=by
 obtain⟨k,n,t⟩:=x
 obtain⟨k',n',t'⟩:=y
 have o0:=Own.refl h;refine aCV Tryz.func121 rfl Tryz.ntmps121 (by kernel_rfl) ?_;by_cases hk:k=k'
 case neg =>
  (refine aCq o0 rfl ?_;intro b10 m10 o10);(refine aCq o10 rfl ?_;intro b11 m11 o11);refine rR (fA cN rfl rfl rfl ?_);refine rR (aCc o11 0 rfl aT rfl rfl ?_);refine rR (fA cN rfl rfl rfl ?_);refine rR (aCc o11 1 rfl aT rfl rfl ?_);refine aCi (fun c16=>?_) (fun hc=>absurd hc (by first|omega|assumption|decide|exact rfl));refine rR (fA cN rfl rfl rfl ?_);refine rR (aCc o11 0 rfl aT rfl rfl ?_);refine rR (fA cN rfl rfl rfl ?_);refine rR (aCc o11 1 rfl aT rfl rfl ?_);refine aCT (yZ _ _ _) ?_;rintro _ h1 ⟨⟨q,rfl,hq⟩,oc⟩;have o1:=oc.thenE ‹_›;refine aCX rfl ?_
  exact⟨q,rfl,⟨fun e=>absurd (hq.1 e) hk,fun e=>absurd (congrArg Vl.k e) hk⟩,o1.sel [] rfl⟩
 subst k';by_cases hn:n=n'
 case neg =>
  (refine aCq o0 rfl ?_;intro b50 m50 o50);(refine aCq o50 rfl ?_;intro b51 m51 o51);refine rR (fA cN rfl rfl rfl ?_);refine rR (aCc o51 0 rfl aT rfl rfl ?_);refine rR (fA cN rfl rfl rfl ?_);refine rR (aCc o51 1 rfl aT rfl rfl ?_);refine aCi (fun hc=>absurd (by first|omega|assumption|decide|exact rfl) hc) (fun c56=>?_);refine rR (fA cN rfl rfl rfl ?_);refine rR (aCc o51 0 rfl aT rfl rfl ?_);refine rR (fA cN rfl rfl rfl ?_);refine rR (aCc o51 1 rfl aT rfl rfl ?_);refine aCi (fun c61=>?_) (fun hc=>absurd hc (by first|omega|assumption|decide|exact rfl));refine rR (fA cN rfl rfl rfl ?_);refine rR (aCc o51 0 rfl aT rfl rfl ?_);refine rR (fA cN rfl rfl rfl ?_);refine rR (aCc o51 1 rfl aT rfl rfl ?_);refine aCT (yZ _ _ _) ?_;rintro _ h1 ⟨⟨q,rfl,hq⟩,oc⟩;have o1:=oc.thenE ‹_›;refine aCX rfl ?_
  exact⟨q,rfl,⟨fun e=>absurd (hq.1 e) hn,fun e=>absurd (congrArg Vl.n e) hn⟩,o1.sel [] rfl⟩
 subst n';by_cases ht:t=t'
 ·subst t'
  have hl:=bl_irr t;have hg:(!(Op.bytesLess t t||t == t))=false:=by rw[hl];simp
  (refine aCq o0 rfl ?_;intro b100 m100 o100);(refine aCq o100 rfl ?_;intro b101 m101 o101);refine rR (fA cN rfl rfl rfl ?_);refine rR (aCc o101 0 rfl aT rfl rfl ?_);refine rR (fA cN rfl rfl rfl ?_);refine rR (aCc o101 1 rfl aT rfl rfl ?_);refine aCi (fun hc=>absurd (by first|omega|assumption|decide|exact rfl) hc) (fun c106=>?_);refine rR (fA cN rfl rfl rfl ?_);refine rR (aCc o101 0 rfl aT rfl rfl ?_);refine rR (fA cN rfl rfl rfl ?_);refine rR (aCc o101 1 rfl aT rfl rfl ?_);refine aCi (fun hc=>absurd (by first|omega|assumption|decide|exact rfl) hc) (fun c111=>?_);refine rR (fA cN rfl rfl rfl ?_);refine rR (aCc o101 0 rfl aL rfl rfl ?_);refine rR (fA cN rfl rfl rfl ?_);refine rR (aCc o101 1 rfl aL rfl rfl ?_);refine rR (strLss rfl rfl ?_);refine Br.ffE ‹_› ?_;refine rR (fA cN rfl rfl rfl ?_);refine rR (aCc o101 0 rfl aL rfl rfl ?_);refine rR (fA cN rfl rfl rfl ?_);refine rR (aCc o101 1 rfl aL rfl rfl ?_);refine rR (strGtr rfl rfl ?_);refine Br.ffE ‹_› ?_;refine aCX rfl ?_
  exact⟨0,rfl,by simp,Own.sel ‹_› [] rfl⟩
 ·cases hl:Op.bytesLess t t' with
  | true =>
   (refine aCq o0 rfl ?_;intro b150 m150 o150);(refine aCq o150 rfl ?_;intro b151 m151 o151);refine rR (fA cN rfl rfl rfl ?_);refine rR (aCc o151 0 rfl aT rfl rfl ?_);refine rR (fA cN rfl rfl rfl ?_);refine rR (aCc o151 1 rfl aT rfl rfl ?_);refine aCi (fun hc=>absurd (by first|omega|assumption|decide|exact rfl) hc) (fun c156=>?_);refine rR (fA cN rfl rfl rfl ?_);refine rR (aCc o151 0 rfl aT rfl rfl ?_);refine rR (fA cN rfl rfl rfl ?_);refine rR (aCc o151 1 rfl aT rfl rfl ?_);refine aCi (fun hc=>absurd (by first|omega|assumption|decide|exact rfl) hc) (fun c161=>?_);refine rR (fA cN rfl rfl rfl ?_);refine rR (aCc o151 0 rfl aL rfl rfl ?_);refine rR (fA cN rfl rfl rfl ?_);refine rR (aCc o151 1 rfl aL rfl rfl ?_);refine rR (strLss rfl rfl ?_);refine Br.ttE ‹_› ?_;refine aCX rfl ?_
   exact⟨-1,rfl,⟨fun e=>absurd e (by decide),fun e=>absurd (congrArg Vl.t e) ht⟩,Own.sel ‹_› [] rfl⟩
  | false =>
   have hg:=bl_two hl ht;(refine aCq o0 rfl ?_;intro b200 m200 o200);(refine aCq o200 rfl ?_;intro b201 m201 o201);refine rR (fA cN rfl rfl rfl ?_);refine rR (aCc o201 0 rfl aT rfl rfl ?_);refine rR (fA cN rfl rfl rfl ?_);refine rR (aCc o201 1 rfl aT rfl rfl ?_);refine aCi (fun hc=>absurd (by first|omega|assumption|decide|exact rfl) hc) (fun c206=>?_);refine rR (fA cN rfl rfl rfl ?_);refine rR (aCc o201 0 rfl aT rfl rfl ?_);refine rR (fA cN rfl rfl rfl ?_);refine rR (aCc o201 1 rfl aT rfl rfl ?_);refine aCi (fun hc=>absurd (by first|omega|assumption|decide|exact rfl) hc) (fun c211=>?_);refine rR (fA cN rfl rfl rfl ?_);refine rR (aCc o201 0 rfl aL rfl rfl ?_);refine rR (fA cN rfl rfl rfl ?_);refine rR (aCc o201 1 rfl aL rfl rfl ?_);refine rR (strLss rfl rfl ?_);refine Br.ffE ‹_› ?_;refine rR (fA cN rfl rfl rfl ?_);refine rR (aCc o201 0 rfl aL rfl rfl ?_);refine rR (fA cN rfl rfl rfl ?_);refine rR (aCc o201 1 rfl aL rfl rfl ?_);refine rR (strGtr rfl rfl ?_);refine Br.ttE ‹_› ?_;refine aCX rfl ?_
   exact⟨1,rfl,⟨fun e=>absurd e (by decide),fun e=>absurd (congrArg Vl.t e) ht⟩,Own.sel ‹_› [] rfl⟩
theorem yY (x y:It)(c d:aVs)(h:Heap)(hB:iQ x)(hB':iQ y)(hc:itH h c x)(hD:itH h d y) :
  bZ Tryz.prog 68 [.agg ⟨c⟩,.agg ⟨d⟩,.bool false] h fun r h'=>∃ bb:Bool,r=.bool bb∧(bb=true↔uX lM x y)∧Own h [] h':=by
 obtain⟨z,vc,vn,vt,vf,vv,vd,e0,e1,e2,e3,e4,e5,e6,e7,e8,rfl,q1,q2,q3,q4,q5,q6,rx⟩:=hc
 obtain⟨z',uc,un,ut,uf,uv,ud,f0,f1,f2,f3,f4,f5,f6,f7,f8,rfl,w1,w2,w3,w4,w5,w6,px⟩:=hD
 obtain⟨_,_,_,_,_,_,_,_,_,_,_,_,_,_,_,bx,b1,b2,b3,b4,b5,b6⟩:=hB
 obtain⟨_,_,_,_,_,_,_,_,_,_,_,_,_,_,_,dx,d1,d2,d3,d4,d5,d6⟩:=hB'
 obtain⟨y1,z1,rfl⟩:=q1.isS
 obtain⟨y2,z2,rfl⟩:=q2.isS
 obtain⟨y3,z3,rfl⟩:=q3.isS
 obtain⟨y4,z4,rfl⟩:=q4.isS
 obtain⟨y5,z5,rfl⟩:=q5.isS
 obtain⟨y6,z6,rfl⟩:=q6.isS
 obtain⟨yy1,zz1,rfl⟩:=w1.isS
 obtain⟨yy2,zz2,rfl⟩:=w2.isS
 obtain⟨yy3,zz3,rfl⟩:=w3.isS
 obtain⟨yy4,zz4,rfl⟩:=w4.isS
 obtain⟨yy5,zz5,rfl⟩:=w5.isS
 obtain⟨yy6,zz6,rfl⟩:=w6.isS
 rw[gR]at q2 w2
 obtain⟨kind,name,off,table,attr,cols,names,by_,n,m,terms,other,oattr,fixed,vars,conds,expr⟩:=x
 obtain⟨kind',name',off',table',attr',cols',names',by_',n',m',terms',other',oattr',fixed',vars',conds',expr'⟩:=y
 dsimp only at *;unfold fE;dsimp only;have hQ:uX lM ⟨kind,name,off,table,attr,cols,names,by_,n,m,terms,other,oattr,fixed,vars,conds,expr⟩ ⟨kind',name',off',table',attr',cols',names',by_',n',m',terms',other',oattr',fixed',vars',conds',expr'⟩ ↔
   (kind=kind'∧name=name'∧table=table'∧attr=attr'∧by_=by_'∧n=n'∧m=m'∧other=other'∧oattr=oattr')∧cols=cols'∧terms=terms'∧fixed=fixed'∧vars=vars'∧names=names'∧conds=conds'∧ExQ lM expr expr':=by
  constructor
  ·rintro⟨o',ey,he,_,hx⟩
   cases he
   exact⟨⟨rfl,rfl,rfl,rfl,rfl,rfl,rfl,rfl,rfl⟩,rfl,rfl,rfl,rfl,rfl,rfl,hx⟩
  ·rintro⟨⟨rfl,rfl,rfl,rfl,rfl,rfl,rfl,rfl,rfl⟩,rfl,rfl,rfl,rfl,rfl,rfl,hx⟩
   exact⟨off',expr',rfl,trivial,hx⟩
 rw[hQ]
 clear hQ;refine aCV Tryz.func68 rfl Tryz.ntmps68 (by kernel_rfl) ?_;have o0:=Own.refl h;by_cases c0:kind=kind'
 case neg =>
  (refine aCq o0 rfl ?_;intro b10 m10 o10);(refine aCq o10 rfl ?_;intro b11 m11 o11);refine aCR ?_;refine rR (fA aC rfl rfl rfl ?_);refine rR (aCc o11 0 rfl aT rfl rfl ?_);refine rR (fA aC rfl rfl rfl ?_);refine rR (aCc o11 1 rfl aT rfl rfl ?_);refine aCi (fun c16=>?_) (fun hc=>absurd hc (by first|omega|assumption|decide|exact rfl));refine aCQ ?_;refine aCX rfl ?_
  exact⟨false,rfl,⟨fun h=>(by cases h),fun hq=>absurd hq.1.1 c0⟩,Own.sel ‹_› [] rfl⟩
 subst kind';by_cases c1:name=name'
 case neg =>
  (refine aCq o0 rfl ?_;intro b70 m70 o70);(refine aCq o70 rfl ?_;intro b71 m71 o71);refine aCR ?_;refine rR (fA aC rfl rfl rfl ?_);refine rR (aCc o71 0 rfl aT rfl rfl ?_);refine rR (fA aC rfl rfl rfl ?_);refine rR (aCc o71 1 rfl aT rfl rfl ?_);refine aCi (fun hc=>absurd (by first|omega|assumption|decide|exact rfl) hc) (fun c76=>?_);refine rR (fA aC rfl rfl rfl ?_);refine rR (aCc o71 0 rfl aL rfl rfl ?_);refine rR (fA aC rfl rfl rfl ?_);refine rR (aCc o71 1 rfl aL rfl rfl ?_);refine aCi (fun c81=>?_) (fun hc=>absurd hc (by first|omega|assumption|decide|exact rfl));refine aCQ ?_;refine aCX rfl ?_
  exact⟨false,rfl,⟨fun h=>(by cases h),fun hq=>absurd hq.1.2.1 c1⟩,Own.sel ‹_› [] rfl⟩
 subst name';by_cases c2:table=table'
 case neg =>
  (refine aCq o0 rfl ?_;intro b130 m130 o130);(refine aCq o130 rfl ?_;intro b131 m131 o131);refine aCR ?_;refine rR (fA aC rfl rfl rfl ?_);refine rR (aCc o131 0 rfl aT rfl rfl ?_);refine rR (fA aC rfl rfl rfl ?_);refine rR (aCc o131 1 rfl aT rfl rfl ?_);refine aCi (fun hc=>absurd (by first|omega|assumption|decide|exact rfl) hc) (fun c136=>?_);refine rR (fA aC rfl rfl rfl ?_);refine rR (aCc o131 0 rfl aL rfl rfl ?_);refine rR (fA aC rfl rfl rfl ?_);refine rR (aCc o131 1 rfl aL rfl rfl ?_);refine aCi (fun hc=>absurd (by first|omega|assumption|decide|exact rfl) hc) (fun c141=>?_);refine rR (fA aC rfl rfl rfl ?_);refine rR (aCc o131 0 rfl aL rfl rfl ?_);refine rR (fA aC rfl rfl rfl ?_);refine rR (aCc o131 1 rfl aL rfl rfl ?_);refine aCi (fun c146=>?_) (fun hc=>absurd hc (by first|omega|assumption|decide|exact rfl));refine aCQ ?_;refine aCX rfl ?_
  exact⟨false,rfl,⟨fun h=>(by cases h),fun hq=>absurd hq.1.2.2.1 c2⟩,Own.sel ‹_› [] rfl⟩
 subst table';by_cases c3:attr=attr'
 case neg =>
  (refine aCq o0 rfl ?_;intro b190 m190 o190);(refine aCq o190 rfl ?_;intro b191 m191 o191);refine aCR ?_;refine rR (fA aC rfl rfl rfl ?_);refine rR (aCc o191 0 rfl aT rfl rfl ?_);refine rR (fA aC rfl rfl rfl ?_);refine rR (aCc o191 1 rfl aT rfl rfl ?_);refine aCi (fun hc=>absurd (by first|omega|assumption|decide|exact rfl) hc) (fun c196=>?_);refine rR (fA aC rfl rfl rfl ?_);refine rR (aCc o191 0 rfl aL rfl rfl ?_);refine rR (fA aC rfl rfl rfl ?_);refine rR (aCc o191 1 rfl aL rfl rfl ?_);refine aCi (fun hc=>absurd (by first|omega|assumption|decide|exact rfl) hc) (fun c201=>?_);refine rR (fA aC rfl rfl rfl ?_);refine rR (aCc o191 0 rfl aL rfl rfl ?_);refine rR (fA aC rfl rfl rfl ?_);refine rR (aCc o191 1 rfl aL rfl rfl ?_);refine aCi (fun hc=>absurd (by first|omega|assumption|decide|exact rfl) hc) (fun c206=>?_);refine rR (fA aC rfl rfl rfl ?_);refine rR (aCc o191 0 rfl aL rfl rfl ?_);refine rR (fA aC rfl rfl rfl ?_);refine rR (aCc o191 1 rfl aL rfl rfl ?_);refine aCi (fun c211=>?_) (fun hc=>absurd hc (by first|omega|assumption|decide|exact rfl));refine aCQ ?_;refine aCX rfl ?_
  exact⟨false,rfl,⟨fun h=>(by cases h),fun hq=>absurd hq.1.2.2.2.1 c3⟩,Own.sel ‹_› [] rfl⟩
 subst attr';by_cases c4:by_=by_'
 case neg =>
  (refine aCq o0 rfl ?_;intro b250 m250 o250);(refine aCq o250 rfl ?_;intro b251 m251 o251);refine aCR ?_;refine rR (fA aC rfl rfl rfl ?_);refine rR (aCc o251 0 rfl aT rfl rfl ?_);refine rR (fA aC rfl rfl rfl ?_);refine rR (aCc o251 1 rfl aT rfl rfl ?_);refine aCi (fun hc=>absurd (by first|omega|assumption|decide|exact rfl) hc) (fun c256=>?_);refine rR (fA aC rfl rfl rfl ?_);refine rR (aCc o251 0 rfl aL rfl rfl ?_);refine rR (fA aC rfl rfl rfl ?_);refine rR (aCc o251 1 rfl aL rfl rfl ?_);refine aCi (fun hc=>absurd (by first|omega|assumption|decide|exact rfl) hc) (fun c261=>?_);refine rR (fA aC rfl rfl rfl ?_);refine rR (aCc o251 0 rfl aL rfl rfl ?_);refine rR (fA aC rfl rfl rfl ?_);refine rR (aCc o251 1 rfl aL rfl rfl ?_);refine aCi (fun hc=>absurd (by first|omega|assumption|decide|exact rfl) hc) (fun c266=>?_);refine rR (fA aC rfl rfl rfl ?_);refine rR (aCc o251 0 rfl aL rfl rfl ?_);refine rR (fA aC rfl rfl rfl ?_);refine rR (aCc o251 1 rfl aL rfl rfl ?_);refine aCi (fun hc=>absurd (by first|omega|assumption|decide|exact rfl) hc) (fun c271=>?_);refine rR (fA aC rfl rfl rfl ?_);refine rR (aCc o251 0 rfl aT rfl rfl ?_);refine rR (fA aC rfl rfl rfl ?_);refine rR (aCc o251 1 rfl aT rfl rfl ?_);refine aCi (fun c276=>?_) (fun hc=>absurd hc (by first|omega|assumption|decide|exact rfl));refine aCQ ?_;refine aCX rfl ?_
  exact⟨false,rfl,⟨fun h=>(by cases h),fun hq=>absurd hq.1.2.2.2.2.1 c4⟩,Own.sel ‹_› [] rfl⟩
 subst by_';by_cases c5:n=n'
 case neg =>
  (refine aCq o0 rfl ?_;intro b310 m310 o310);(refine aCq o310 rfl ?_;intro b311 m311 o311);refine aCR ?_;refine rR (fA aC rfl rfl rfl ?_);refine rR (aCc o311 0 rfl aT rfl rfl ?_);refine rR (fA aC rfl rfl rfl ?_);refine rR (aCc o311 1 rfl aT rfl rfl ?_);refine aCi (fun hc=>absurd (by first|omega|assumption|decide|exact rfl) hc) (fun c316=>?_);refine rR (fA aC rfl rfl rfl ?_);refine rR (aCc o311 0 rfl aL rfl rfl ?_);refine rR (fA aC rfl rfl rfl ?_);refine rR (aCc o311 1 rfl aL rfl rfl ?_);refine aCi (fun hc=>absurd (by first|omega|assumption|decide|exact rfl) hc) (fun c321=>?_);refine rR (fA aC rfl rfl rfl ?_);refine rR (aCc o311 0 rfl aL rfl rfl ?_);refine rR (fA aC rfl rfl rfl ?_);refine rR (aCc o311 1 rfl aL rfl rfl ?_);refine aCi (fun hc=>absurd (by first|omega|assumption|decide|exact rfl) hc) (fun c326=>?_);refine rR (fA aC rfl rfl rfl ?_);refine rR (aCc o311 0 rfl aL rfl rfl ?_);refine rR (fA aC rfl rfl rfl ?_);refine rR (aCc o311 1 rfl aL rfl rfl ?_);refine aCi (fun hc=>absurd (by first|omega|assumption|decide|exact rfl) hc) (fun c331=>?_);refine rR (fA aC rfl rfl rfl ?_);refine rR (aCc o311 0 rfl aT rfl rfl ?_);refine rR (fA aC rfl rfl rfl ?_);refine rR (aCc o311 1 rfl aT rfl rfl ?_);refine aCi (fun hc=>absurd (by first|omega|assumption|decide|exact rfl) hc) (fun c336=>?_);refine rR (fA aC rfl rfl rfl ?_);refine rR (aCc o311 0 rfl aT rfl rfl ?_);refine rR (fA aC rfl rfl rfl ?_);refine rR (aCc o311 1 rfl aT rfl rfl ?_);refine aCi (fun c341=>?_) (fun hc=>absurd hc (by first|omega|assumption|decide|exact rfl))
  refine aCQ ?_;refine aCX rfl ?_
  exact⟨false,rfl,⟨fun h=>(by cases h),fun hq=>absurd hq.1.2.2.2.2.2.1 c5⟩,Own.sel ‹_› [] rfl⟩
 subst n';by_cases c6:m=m'
 case neg =>
  (refine aCq o0 rfl ?_;intro b370 m370 o370);(refine aCq o370 rfl ?_;intro b371 m371 o371);refine aCR ?_;refine rR (fA aC rfl rfl rfl ?_);refine rR (aCc o371 0 rfl aT rfl rfl ?_);refine rR (fA aC rfl rfl rfl ?_);refine rR (aCc o371 1 rfl aT rfl rfl ?_);refine aCi (fun hc=>absurd (by first|omega|assumption|decide|exact rfl) hc) (fun c376=>?_);refine rR (fA aC rfl rfl rfl ?_);refine rR (aCc o371 0 rfl aL rfl rfl ?_);refine rR (fA aC rfl rfl rfl ?_);refine rR (aCc o371 1 rfl aL rfl rfl ?_);refine aCi (fun hc=>absurd (by first|omega|assumption|decide|exact rfl) hc) (fun c381=>?_);refine rR (fA aC rfl rfl rfl ?_);refine rR (aCc o371 0 rfl aL rfl rfl ?_);refine rR (fA aC rfl rfl rfl ?_);refine rR (aCc o371 1 rfl aL rfl rfl ?_);refine aCi (fun hc=>absurd (by first|omega|assumption|decide|exact rfl) hc) (fun c386=>?_);refine rR (fA aC rfl rfl rfl ?_);refine rR (aCc o371 0 rfl aL rfl rfl ?_);refine rR (fA aC rfl rfl rfl ?_);refine rR (aCc o371 1 rfl aL rfl rfl ?_);refine aCi (fun hc=>absurd (by first|omega|assumption|decide|exact rfl) hc) (fun c391=>?_);refine rR (fA aC rfl rfl rfl ?_);refine rR (aCc o371 0 rfl aT rfl rfl ?_);refine rR (fA aC rfl rfl rfl ?_);refine rR (aCc o371 1 rfl aT rfl rfl ?_);refine aCi (fun hc=>absurd (by first|omega|assumption|decide|exact rfl) hc) (fun c396=>?_);refine rR (fA aC rfl rfl rfl ?_);refine rR (aCc o371 0 rfl aT rfl rfl ?_);refine rR (fA aC rfl rfl rfl ?_);refine rR (aCc o371 1 rfl aT rfl rfl ?_);refine aCi (fun hc=>absurd (by first|omega|assumption|decide|exact rfl) hc) (fun c401=>?_)
  refine rR (fA aC rfl rfl rfl ?_);refine rR (aCc o371 0 rfl aT rfl rfl ?_);refine rR (fA aC rfl rfl rfl ?_);refine rR (aCc o371 1 rfl aT rfl rfl ?_);refine aCi (fun c406=>?_) (fun hc=>absurd hc (by first|omega|assumption|decide|exact rfl));refine aCQ ?_;refine aCX rfl ?_
  exact⟨false,rfl,⟨fun h=>(by cases h),fun hq=>absurd hq.1.2.2.2.2.2.2.1 c6⟩,Own.sel ‹_› [] rfl⟩
 subst m';by_cases c7:other=other'
 case neg =>
  (refine aCq o0 rfl ?_;intro b430 m430 o430);(refine aCq o430 rfl ?_;intro b431 m431 o431);refine aCR ?_;refine rR (fA aC rfl rfl rfl ?_);refine rR (aCc o431 0 rfl aT rfl rfl ?_);refine rR (fA aC rfl rfl rfl ?_);refine rR (aCc o431 1 rfl aT rfl rfl ?_);refine aCi (fun hc=>absurd (by first|omega|assumption|decide|exact rfl) hc) (fun c436=>?_);refine rR (fA aC rfl rfl rfl ?_);refine rR (aCc o431 0 rfl aL rfl rfl ?_);refine rR (fA aC rfl rfl rfl ?_);refine rR (aCc o431 1 rfl aL rfl rfl ?_);refine aCi (fun hc=>absurd (by first|omega|assumption|decide|exact rfl) hc) (fun c441=>?_);refine rR (fA aC rfl rfl rfl ?_);refine rR (aCc o431 0 rfl aL rfl rfl ?_);refine rR (fA aC rfl rfl rfl ?_);refine rR (aCc o431 1 rfl aL rfl rfl ?_);refine aCi (fun hc=>absurd (by first|omega|assumption|decide|exact rfl) hc) (fun c446=>?_);refine rR (fA aC rfl rfl rfl ?_);refine rR (aCc o431 0 rfl aL rfl rfl ?_);refine rR (fA aC rfl rfl rfl ?_);refine rR (aCc o431 1 rfl aL rfl rfl ?_);refine aCi (fun hc=>absurd (by first|omega|assumption|decide|exact rfl) hc) (fun c451=>?_);refine rR (fA aC rfl rfl rfl ?_);refine rR (aCc o431 0 rfl aT rfl rfl ?_);refine rR (fA aC rfl rfl rfl ?_);refine rR (aCc o431 1 rfl aT rfl rfl ?_);refine aCi (fun hc=>absurd (by first|omega|assumption|decide|exact rfl) hc) (fun c456=>?_);refine rR (fA aC rfl rfl rfl ?_);refine rR (aCc o431 0 rfl aT rfl rfl ?_);refine rR (fA aC rfl rfl rfl ?_);refine rR (aCc o431 1 rfl aT rfl rfl ?_);refine aCi (fun hc=>absurd (by first|omega|assumption|decide|exact rfl) hc) (fun c461=>?_)
  refine rR (fA aC rfl rfl rfl ?_);refine rR (aCc o431 0 rfl aT rfl rfl ?_);refine rR (fA aC rfl rfl rfl ?_);refine rR (aCc o431 1 rfl aT rfl rfl ?_);refine aCi (fun hc=>absurd (by first|omega|assumption|decide|exact rfl) hc) (fun c466=>?_);refine rR (fA aC rfl rfl rfl ?_);refine rR (aCc o431 0 rfl aL rfl rfl ?_);refine rR (fA aC rfl rfl rfl ?_);refine rR (aCc o431 1 rfl aL rfl rfl ?_);refine aCi (fun c471=>?_) (fun hc=>absurd hc (by first|omega|assumption|decide|exact rfl));refine aCQ ?_;refine aCX rfl ?_
  exact⟨false,rfl,⟨fun h=>(by cases h),fun hq=>absurd hq.1.2.2.2.2.2.2.2.1 c7⟩,Own.sel ‹_› [] rfl⟩
 subst other';by_cases c8:oattr=oattr'
 case neg =>
  (refine aCq o0 rfl ?_;intro b490 m490 o490);(refine aCq o490 rfl ?_;intro b491 m491 o491);refine aCR ?_;refine rR (fA aC rfl rfl rfl ?_);refine rR (aCc o491 0 rfl aT rfl rfl ?_);refine rR (fA aC rfl rfl rfl ?_);refine rR (aCc o491 1 rfl aT rfl rfl ?_);refine aCi (fun hc=>absurd (by first|omega|assumption|decide|exact rfl) hc) (fun c496=>?_);refine rR (fA aC rfl rfl rfl ?_);refine rR (aCc o491 0 rfl aL rfl rfl ?_);refine rR (fA aC rfl rfl rfl ?_);refine rR (aCc o491 1 rfl aL rfl rfl ?_);refine aCi (fun hc=>absurd (by first|omega|assumption|decide|exact rfl) hc) (fun c501=>?_);refine rR (fA aC rfl rfl rfl ?_);refine rR (aCc o491 0 rfl aL rfl rfl ?_);refine rR (fA aC rfl rfl rfl ?_);refine rR (aCc o491 1 rfl aL rfl rfl ?_);refine aCi (fun hc=>absurd (by first|omega|assumption|decide|exact rfl) hc) (fun c506=>?_);refine rR (fA aC rfl rfl rfl ?_);refine rR (aCc o491 0 rfl aL rfl rfl ?_);refine rR (fA aC rfl rfl rfl ?_);refine rR (aCc o491 1 rfl aL rfl rfl ?_);refine aCi (fun hc=>absurd (by first|omega|assumption|decide|exact rfl) hc) (fun c511=>?_);refine rR (fA aC rfl rfl rfl ?_);refine rR (aCc o491 0 rfl aT rfl rfl ?_);refine rR (fA aC rfl rfl rfl ?_);refine rR (aCc o491 1 rfl aT rfl rfl ?_);refine aCi (fun hc=>absurd (by first|omega|assumption|decide|exact rfl) hc) (fun c516=>?_);refine rR (fA aC rfl rfl rfl ?_);refine rR (aCc o491 0 rfl aT rfl rfl ?_);refine rR (fA aC rfl rfl rfl ?_);refine rR (aCc o491 1 rfl aT rfl rfl ?_);refine aCi (fun hc=>absurd (by first|omega|assumption|decide|exact rfl) hc) (fun c521=>?_)
  refine rR (fA aC rfl rfl rfl ?_);refine rR (aCc o491 0 rfl aT rfl rfl ?_);refine rR (fA aC rfl rfl rfl ?_);refine rR (aCc o491 1 rfl aT rfl rfl ?_);refine aCi (fun hc=>absurd (by first|omega|assumption|decide|exact rfl) hc) (fun c526=>?_);refine rR (fA aC rfl rfl rfl ?_);refine rR (aCc o491 0 rfl aL rfl rfl ?_);refine rR (fA aC rfl rfl rfl ?_);refine rR (aCc o491 1 rfl aL rfl rfl ?_);refine aCi (fun hc=>absurd (by first|omega|assumption|decide|exact rfl) hc) (fun c531=>?_);refine rR (fA aC rfl rfl rfl ?_);refine rR (aCc o491 0 rfl aL rfl rfl ?_);refine rR (fA aC rfl rfl rfl ?_);refine rR (aCc o491 1 rfl aL rfl rfl ?_);refine aCi (fun c536=>?_) (fun hc=>absurd hc (by first|omega|assumption|decide|exact rfl));refine aCX rfl ?_
  exact⟨false,rfl,⟨fun h=>(by cases h),fun hq=>absurd hq.1.2.2.2.2.2.2.2.2 c8⟩,Own.sel ‹_› [] rfl⟩
 subst oattr';by_cases l0:cols.length=cols'.length
 case neg =>
  (refine aCq o0 rfl ?_;intro b550 m550 o550);(refine aCq o550 rfl ?_;intro b551 m551 o551);refine aCR ?_;refine rR (fA aC rfl rfl rfl ?_);refine rR (aCc o551 0 rfl aT rfl rfl ?_);refine rR (fA aC rfl rfl rfl ?_);refine rR (aCc o551 1 rfl aT rfl rfl ?_);refine aCi (fun hc=>absurd (by first|omega|assumption|decide|exact rfl) hc) (fun c556=>?_);refine rR (fA aC rfl rfl rfl ?_);refine rR (aCc o551 0 rfl aL rfl rfl ?_);refine rR (fA aC rfl rfl rfl ?_);refine rR (aCc o551 1 rfl aL rfl rfl ?_);refine aCi (fun hc=>absurd (by first|omega|assumption|decide|exact rfl) hc) (fun c561=>?_);refine rR (fA aC rfl rfl rfl ?_);refine rR (aCc o551 0 rfl aL rfl rfl ?_);refine rR (fA aC rfl rfl rfl ?_);refine rR (aCc o551 1 rfl aL rfl rfl ?_);refine aCi (fun hc=>absurd (by first|omega|assumption|decide|exact rfl) hc) (fun c566=>?_);refine rR (fA aC rfl rfl rfl ?_);refine rR (aCc o551 0 rfl aL rfl rfl ?_);refine rR (fA aC rfl rfl rfl ?_);refine rR (aCc o551 1 rfl aL rfl rfl ?_);refine aCi (fun hc=>absurd (by first|omega|assumption|decide|exact rfl) hc) (fun c571=>?_);refine rR (fA aC rfl rfl rfl ?_);refine rR (aCc o551 0 rfl aT rfl rfl ?_);refine rR (fA aC rfl rfl rfl ?_);refine rR (aCc o551 1 rfl aT rfl rfl ?_);refine aCi (fun hc=>absurd (by first|omega|assumption|decide|exact rfl) hc) (fun c576=>?_);refine rR (fA aC rfl rfl rfl ?_);refine rR (aCc o551 0 rfl aT rfl rfl ?_);refine rR (fA aC rfl rfl rfl ?_);refine rR (aCc o551 1 rfl aT rfl rfl ?_);refine aCi (fun hc=>absurd (by first|omega|assumption|decide|exact rfl) hc) (fun c581=>?_)
  refine rR (fA aC rfl rfl rfl ?_);refine rR (aCc o551 0 rfl aT rfl rfl ?_);refine rR (fA aC rfl rfl rfl ?_);refine rR (aCc o551 1 rfl aT rfl rfl ?_);refine aCi (fun hc=>absurd (by first|omega|assumption|decide|exact rfl) hc) (fun c586=>?_);refine rR (fA aC rfl rfl rfl ?_);refine rR (aCc o551 0 rfl aL rfl rfl ?_);refine rR (fA aC rfl rfl rfl ?_);refine rR (aCc o551 1 rfl aL rfl rfl ?_);refine aCi (fun hc=>absurd (by first|omega|assumption|decide|exact rfl) hc) (fun c591=>?_);refine rR (fA aC rfl rfl rfl ?_);refine rR (aCc o551 0 rfl aL rfl rfl ?_);refine rR (fA aC rfl rfl rfl ?_);refine rR (aCc o551 1 rfl aL rfl rfl ?_);refine aCi (fun hc=>absurd (by first|omega|assumption|decide|exact rfl) hc) (fun c596=>?_);refine rR (fA aC rfl rfl rfl ?_);refine rR (aCc o551 0 rfl lS rfl rfl ?_);refine rR (aCk rfl kI ?_);refine rR (fA aC rfl rfl rfl ?_);refine rR (aCc o551 1 rfl lS rfl rfl ?_);refine rR (aCk rfl kI ?_);refine aCi (fun c603=>?_) (fun hc=>absurd hc (by first|omega|assumption|decide|exact rfl));refine aCQ ?_;refine aCX rfl ?_
  exact⟨false,rfl,⟨fun h=>(by cases h),fun hq=>absurd (congrArg List.length hq.2.1) l0⟩,Own.sel ‹_› [] rfl⟩
 by_cases l1:terms.length=terms'.length
 case neg =>
  (refine aCq o0 rfl ?_;intro b610 m610 o610);(refine aCq o610 rfl ?_;intro b611 m611 o611);refine aCR ?_;refine rR (fA aC rfl rfl rfl ?_);refine rR (aCc o611 0 rfl aT rfl rfl ?_);refine rR (fA aC rfl rfl rfl ?_);refine rR (aCc o611 1 rfl aT rfl rfl ?_);refine aCi (fun hc=>absurd (by first|omega|assumption|decide|exact rfl) hc) (fun c616=>?_);refine rR (fA aC rfl rfl rfl ?_);refine rR (aCc o611 0 rfl aL rfl rfl ?_);refine rR (fA aC rfl rfl rfl ?_);refine rR (aCc o611 1 rfl aL rfl rfl ?_);refine aCi (fun hc=>absurd (by first|omega|assumption|decide|exact rfl) hc) (fun c621=>?_);refine rR (fA aC rfl rfl rfl ?_);refine rR (aCc o611 0 rfl aL rfl rfl ?_);refine rR (fA aC rfl rfl rfl ?_);refine rR (aCc o611 1 rfl aL rfl rfl ?_);refine aCi (fun hc=>absurd (by first|omega|assumption|decide|exact rfl) hc) (fun c626=>?_);refine rR (fA aC rfl rfl rfl ?_);refine rR (aCc o611 0 rfl aL rfl rfl ?_);refine rR (fA aC rfl rfl rfl ?_);refine rR (aCc o611 1 rfl aL rfl rfl ?_);refine aCi (fun hc=>absurd (by first|omega|assumption|decide|exact rfl) hc) (fun c631=>?_);refine rR (fA aC rfl rfl rfl ?_);refine rR (aCc o611 0 rfl aT rfl rfl ?_);refine rR (fA aC rfl rfl rfl ?_);refine rR (aCc o611 1 rfl aT rfl rfl ?_);refine aCi (fun hc=>absurd (by first|omega|assumption|decide|exact rfl) hc) (fun c636=>?_);refine rR (fA aC rfl rfl rfl ?_);refine rR (aCc o611 0 rfl aT rfl rfl ?_);refine rR (fA aC rfl rfl rfl ?_);refine rR (aCc o611 1 rfl aT rfl rfl ?_);refine aCi (fun hc=>absurd (by first|omega|assumption|decide|exact rfl) hc) (fun c641=>?_)
  refine rR (fA aC rfl rfl rfl ?_);refine rR (aCc o611 0 rfl aT rfl rfl ?_);refine rR (fA aC rfl rfl rfl ?_);refine rR (aCc o611 1 rfl aT rfl rfl ?_);refine aCi (fun hc=>absurd (by first|omega|assumption|decide|exact rfl) hc) (fun c646=>?_);refine rR (fA aC rfl rfl rfl ?_);refine rR (aCc o611 0 rfl aL rfl rfl ?_);refine rR (fA aC rfl rfl rfl ?_);refine rR (aCc o611 1 rfl aL rfl rfl ?_);refine aCi (fun hc=>absurd (by first|omega|assumption|decide|exact rfl) hc) (fun c651=>?_);refine rR (fA aC rfl rfl rfl ?_);refine rR (aCc o611 0 rfl aL rfl rfl ?_);refine rR (fA aC rfl rfl rfl ?_);refine rR (aCc o611 1 rfl aL rfl rfl ?_);refine aCi (fun hc=>absurd (by first|omega|assumption|decide|exact rfl) hc) (fun c656=>?_);refine rR (fA aC rfl rfl rfl ?_);refine rR (aCc o611 0 rfl lS rfl rfl ?_);refine rR (aCk rfl kI ?_);refine rR (fA aC rfl rfl rfl ?_);refine rR (aCc o611 1 rfl lS rfl rfl ?_);refine rR (aCk rfl kI ?_);refine aCi (fun hc=>absurd (by first|omega|assumption|decide|exact rfl) hc) (fun c663=>?_);refine rR (fA aC rfl rfl rfl ?_);refine rR (aCc o611 0 rfl nQ rfl rfl ?_);refine rR (aCk rfl nT ?_);refine rR (fA aC rfl rfl rfl ?_);refine rR (aCc o611 1 rfl nQ rfl rfl ?_);refine rR (aCk rfl nT ?_);refine aCi (fun c670=>?_) (fun hc=>absurd hc (by first|omega|assumption|decide|exact rfl));refine aCQ ?_;refine aCX rfl ?_
  exact⟨false,rfl,⟨fun h=>(by cases h),fun hq=>absurd (congrArg List.length hq.2.2.1) l1⟩,Own.sel ‹_› [] rfl⟩
 by_cases l2:fixed.length=fixed'.length
 case neg =>
  (refine aCq o0 rfl ?_;intro b670 m670 o670);(refine aCq o670 rfl ?_;intro b671 m671 o671);refine aCR ?_;refine rR (fA aC rfl rfl rfl ?_);refine rR (aCc o671 0 rfl aT rfl rfl ?_);refine rR (fA aC rfl rfl rfl ?_);refine rR (aCc o671 1 rfl aT rfl rfl ?_);refine aCi (fun hc=>absurd (by first|omega|assumption|decide|exact rfl) hc) (fun c676=>?_);refine rR (fA aC rfl rfl rfl ?_);refine rR (aCc o671 0 rfl aL rfl rfl ?_);refine rR (fA aC rfl rfl rfl ?_);refine rR (aCc o671 1 rfl aL rfl rfl ?_);refine aCi (fun hc=>absurd (by first|omega|assumption|decide|exact rfl) hc) (fun c681=>?_);refine rR (fA aC rfl rfl rfl ?_);refine rR (aCc o671 0 rfl aL rfl rfl ?_);refine rR (fA aC rfl rfl rfl ?_);refine rR (aCc o671 1 rfl aL rfl rfl ?_);refine aCi (fun hc=>absurd (by first|omega|assumption|decide|exact rfl) hc) (fun c686=>?_);refine rR (fA aC rfl rfl rfl ?_);refine rR (aCc o671 0 rfl aL rfl rfl ?_);refine rR (fA aC rfl rfl rfl ?_);refine rR (aCc o671 1 rfl aL rfl rfl ?_);refine aCi (fun hc=>absurd (by first|omega|assumption|decide|exact rfl) hc) (fun c691=>?_);refine rR (fA aC rfl rfl rfl ?_);refine rR (aCc o671 0 rfl aT rfl rfl ?_);refine rR (fA aC rfl rfl rfl ?_);refine rR (aCc o671 1 rfl aT rfl rfl ?_);refine aCi (fun hc=>absurd (by first|omega|assumption|decide|exact rfl) hc) (fun c696=>?_);refine rR (fA aC rfl rfl rfl ?_);refine rR (aCc o671 0 rfl aT rfl rfl ?_);refine rR (fA aC rfl rfl rfl ?_);refine rR (aCc o671 1 rfl aT rfl rfl ?_);refine aCi (fun hc=>absurd (by first|omega|assumption|decide|exact rfl) hc) (fun c701=>?_)
  refine rR (fA aC rfl rfl rfl ?_);refine rR (aCc o671 0 rfl aT rfl rfl ?_);refine rR (fA aC rfl rfl rfl ?_);refine rR (aCc o671 1 rfl aT rfl rfl ?_);refine aCi (fun hc=>absurd (by first|omega|assumption|decide|exact rfl) hc) (fun c706=>?_);refine rR (fA aC rfl rfl rfl ?_);refine rR (aCc o671 0 rfl aL rfl rfl ?_);refine rR (fA aC rfl rfl rfl ?_);refine rR (aCc o671 1 rfl aL rfl rfl ?_);refine aCi (fun hc=>absurd (by first|omega|assumption|decide|exact rfl) hc) (fun c711=>?_);refine rR (fA aC rfl rfl rfl ?_);refine rR (aCc o671 0 rfl aL rfl rfl ?_);refine rR (fA aC rfl rfl rfl ?_);refine rR (aCc o671 1 rfl aL rfl rfl ?_);refine aCi (fun hc=>absurd (by first|omega|assumption|decide|exact rfl) hc) (fun c716=>?_);refine rR (fA aC rfl rfl rfl ?_);refine rR (aCc o671 0 rfl lS rfl rfl ?_);refine rR (aCk rfl kI ?_);refine rR (fA aC rfl rfl rfl ?_);refine rR (aCc o671 1 rfl lS rfl rfl ?_);refine rR (aCk rfl kI ?_);refine aCi (fun hc=>absurd (by first|omega|assumption|decide|exact rfl) hc) (fun c723=>?_);refine rR (fA aC rfl rfl rfl ?_);refine rR (aCc o671 0 rfl nQ rfl rfl ?_);refine rR (aCk rfl nT ?_);refine rR (fA aC rfl rfl rfl ?_);refine rR (aCc o671 1 rfl nQ rfl rfl ?_);refine rR (aCk rfl nT ?_);refine aCi (fun hc=>absurd (by first|omega|assumption|decide|exact rfl) hc) (fun c730=>?_);refine rR (fA aC rfl rfl rfl ?_);refine rR (aCc o671 0 rfl oG rfl rfl ?_);refine rR (aCk rfl nD ?_);refine rR (fA aC rfl rfl rfl ?_);refine rR (aCc o671 1 rfl oG rfl rfl ?_);refine rR (aCk rfl nD ?_);refine aCi (fun c737=>?_) (fun hc=>absurd hc (by first|omega|assumption|decide|exact rfl))
  refine aCQ ?_;refine aCX rfl ?_
  exact⟨false,rfl,⟨fun h=>(by cases h),fun hq=>absurd (congrArg List.length hq.2.2.2.1) l2⟩,Own.sel ‹_› [] rfl⟩
 by_cases l3:vars.length=vars'.length
 case neg =>
  (refine aCq o0 rfl ?_;intro b730 m730 o730);(refine aCq o730 rfl ?_;intro b731 m731 o731);refine aCR ?_;refine rR (fA aC rfl rfl rfl ?_);refine rR (aCc o731 0 rfl aT rfl rfl ?_);refine rR (fA aC rfl rfl rfl ?_);refine rR (aCc o731 1 rfl aT rfl rfl ?_);refine aCi (fun hc=>absurd (by first|omega|assumption|decide|exact rfl) hc) (fun c736=>?_);refine rR (fA aC rfl rfl rfl ?_);refine rR (aCc o731 0 rfl aL rfl rfl ?_);refine rR (fA aC rfl rfl rfl ?_);refine rR (aCc o731 1 rfl aL rfl rfl ?_);refine aCi (fun hc=>absurd (by first|omega|assumption|decide|exact rfl) hc) (fun c741=>?_);refine rR (fA aC rfl rfl rfl ?_);refine rR (aCc o731 0 rfl aL rfl rfl ?_);refine rR (fA aC rfl rfl rfl ?_);refine rR (aCc o731 1 rfl aL rfl rfl ?_);refine aCi (fun hc=>absurd (by first|omega|assumption|decide|exact rfl) hc) (fun c746=>?_);refine rR (fA aC rfl rfl rfl ?_);refine rR (aCc o731 0 rfl aL rfl rfl ?_);refine rR (fA aC rfl rfl rfl ?_);refine rR (aCc o731 1 rfl aL rfl rfl ?_);refine aCi (fun hc=>absurd (by first|omega|assumption|decide|exact rfl) hc) (fun c751=>?_);refine rR (fA aC rfl rfl rfl ?_);refine rR (aCc o731 0 rfl aT rfl rfl ?_);refine rR (fA aC rfl rfl rfl ?_);refine rR (aCc o731 1 rfl aT rfl rfl ?_);refine aCi (fun hc=>absurd (by first|omega|assumption|decide|exact rfl) hc) (fun c756=>?_);refine rR (fA aC rfl rfl rfl ?_);refine rR (aCc o731 0 rfl aT rfl rfl ?_);refine rR (fA aC rfl rfl rfl ?_);refine rR (aCc o731 1 rfl aT rfl rfl ?_);refine aCi (fun hc=>absurd (by first|omega|assumption|decide|exact rfl) hc) (fun c761=>?_)
  refine rR (fA aC rfl rfl rfl ?_);refine rR (aCc o731 0 rfl aT rfl rfl ?_);refine rR (fA aC rfl rfl rfl ?_);refine rR (aCc o731 1 rfl aT rfl rfl ?_);refine aCi (fun hc=>absurd (by first|omega|assumption|decide|exact rfl) hc) (fun c766=>?_);refine rR (fA aC rfl rfl rfl ?_);refine rR (aCc o731 0 rfl aL rfl rfl ?_);refine rR (fA aC rfl rfl rfl ?_);refine rR (aCc o731 1 rfl aL rfl rfl ?_);refine aCi (fun hc=>absurd (by first|omega|assumption|decide|exact rfl) hc) (fun c771=>?_);refine rR (fA aC rfl rfl rfl ?_);refine rR (aCc o731 0 rfl aL rfl rfl ?_);refine rR (fA aC rfl rfl rfl ?_);refine rR (aCc o731 1 rfl aL rfl rfl ?_);refine aCi (fun hc=>absurd (by first|omega|assumption|decide|exact rfl) hc) (fun c776=>?_);refine rR (fA aC rfl rfl rfl ?_);refine rR (aCc o731 0 rfl lS rfl rfl ?_);refine rR (aCk rfl kI ?_);refine rR (fA aC rfl rfl rfl ?_);refine rR (aCc o731 1 rfl lS rfl rfl ?_);refine rR (aCk rfl kI ?_);refine aCi (fun hc=>absurd (by first|omega|assumption|decide|exact rfl) hc) (fun c783=>?_);refine rR (fA aC rfl rfl rfl ?_);refine rR (aCc o731 0 rfl nQ rfl rfl ?_);refine rR (aCk rfl nT ?_);refine rR (fA aC rfl rfl rfl ?_);refine rR (aCc o731 1 rfl nQ rfl rfl ?_);refine rR (aCk rfl nT ?_);refine aCi (fun hc=>absurd (by first|omega|assumption|decide|exact rfl) hc) (fun c790=>?_);refine rR (fA aC rfl rfl rfl ?_);refine rR (aCc o731 0 rfl oG rfl rfl ?_);refine rR (aCk rfl nD ?_);refine rR (fA aC rfl rfl rfl ?_);refine rR (aCc o731 1 rfl oG rfl rfl ?_);refine rR (aCk rfl nD ?_);refine aCi (fun hc=>absurd (by first|omega|assumption|decide|exact rfl) hc) (fun c797=>?_)
  refine rR (fA aC rfl rfl rfl ?_);refine rR (aCc o731 0 rfl pF rfl rfl ?_);refine rR (aCk rfl nR ?_);refine rR (fA aC rfl rfl rfl ?_);refine rR (aCc o731 1 rfl pF rfl rfl ?_);refine rR (aCk rfl nR ?_);refine aCi (fun c804=>?_) (fun hc=>absurd hc (by first|omega|assumption|decide|exact rfl));refine aCQ ?_;refine aCX rfl ?_
  exact⟨false,rfl,⟨fun h=>(by cases h),fun hq=>absurd (congrArg List.length hq.2.2.2.2.1) l3⟩,Own.sel ‹_› [] rfl⟩
 (refine aCq o0 rfl ?_;intro b1000 m1000 o1000);(refine aCq o1000 rfl ?_;intro b1001 m1001 o1001);refine aCR ?_;refine rR (fA aC rfl rfl rfl ?_);refine rR (aCc o1001 0 rfl aT rfl rfl ?_);refine rR (fA aC rfl rfl rfl ?_);refine rR (aCc o1001 1 rfl aT rfl rfl ?_);refine aCi (fun hc=>absurd (by first|omega|assumption|decide|exact rfl) hc) (fun c1006=>?_);refine rR (fA aC rfl rfl rfl ?_);refine rR (aCc o1001 0 rfl aL rfl rfl ?_);refine rR (fA aC rfl rfl rfl ?_);refine rR (aCc o1001 1 rfl aL rfl rfl ?_);refine aCi (fun hc=>absurd (by first|omega|assumption|decide|exact rfl) hc) (fun c1011=>?_);refine rR (fA aC rfl rfl rfl ?_);refine rR (aCc o1001 0 rfl aL rfl rfl ?_);refine rR (fA aC rfl rfl rfl ?_);refine rR (aCc o1001 1 rfl aL rfl rfl ?_);refine aCi (fun hc=>absurd (by first|omega|assumption|decide|exact rfl) hc) (fun c1016=>?_);refine rR (fA aC rfl rfl rfl ?_);refine rR (aCc o1001 0 rfl aL rfl rfl ?_);refine rR (fA aC rfl rfl rfl ?_);refine rR (aCc o1001 1 rfl aL rfl rfl ?_);refine aCi (fun hc=>absurd (by first|omega|assumption|decide|exact rfl) hc) (fun c1021=>?_);refine rR (fA aC rfl rfl rfl ?_);refine rR (aCc o1001 0 rfl aT rfl rfl ?_);refine rR (fA aC rfl rfl rfl ?_);refine rR (aCc o1001 1 rfl aT rfl rfl ?_);refine aCi (fun hc=>absurd (by first|omega|assumption|decide|exact rfl) hc) (fun c1026=>?_);refine rR (fA aC rfl rfl rfl ?_);refine rR (aCc o1001 0 rfl aT rfl rfl ?_);refine rR (fA aC rfl rfl rfl ?_);refine rR (aCc o1001 1 rfl aT rfl rfl ?_);refine aCi (fun hc=>absurd (by first|omega|assumption|decide|exact rfl) hc) (fun c1031=>?_)
 refine rR (fA aC rfl rfl rfl ?_);refine rR (aCc o1001 0 rfl aT rfl rfl ?_);refine rR (fA aC rfl rfl rfl ?_);refine rR (aCc o1001 1 rfl aT rfl rfl ?_);refine aCi (fun hc=>absurd (by first|omega|assumption|decide|exact rfl) hc) (fun c1036=>?_);refine rR (fA aC rfl rfl rfl ?_);refine rR (aCc o1001 0 rfl aL rfl rfl ?_);refine rR (fA aC rfl rfl rfl ?_);refine rR (aCc o1001 1 rfl aL rfl rfl ?_);refine aCi (fun hc=>absurd (by first|omega|assumption|decide|exact rfl) hc) (fun c1041=>?_);refine rR (fA aC rfl rfl rfl ?_);refine rR (aCc o1001 0 rfl aL rfl rfl ?_);refine rR (fA aC rfl rfl rfl ?_);refine rR (aCc o1001 1 rfl aL rfl rfl ?_);refine aCi (fun hc=>absurd (by first|omega|assumption|decide|exact rfl) hc) (fun c1046=>?_);refine rR (fA aC rfl rfl rfl ?_);refine rR (aCc o1001 0 rfl lS rfl rfl ?_);refine rR (aCk rfl kI ?_);refine rR (fA aC rfl rfl rfl ?_);refine rR (aCc o1001 1 rfl lS rfl rfl ?_);refine rR (aCk rfl kI ?_);refine aCi (fun hc=>absurd (by first|omega|assumption|decide|exact rfl) hc) (fun c1053=>?_);refine rR (fA aC rfl rfl rfl ?_);refine rR (aCc o1001 0 rfl nQ rfl rfl ?_);refine rR (aCk rfl nT ?_);refine rR (fA aC rfl rfl rfl ?_);refine rR (aCc o1001 1 rfl nQ rfl rfl ?_);refine rR (aCk rfl nT ?_);refine aCi (fun hc=>absurd (by first|omega|assumption|decide|exact rfl) hc) (fun c1060=>?_);refine rR (fA aC rfl rfl rfl ?_);refine rR (aCc o1001 0 rfl oG rfl rfl ?_);refine rR (aCk rfl nD ?_);refine rR (fA aC rfl rfl rfl ?_);refine rR (aCc o1001 1 rfl oG rfl rfl ?_);refine rR (aCk rfl nD ?_)
 refine aCi (fun hc=>absurd (by first|omega|assumption|decide|exact rfl) hc) (fun c1067=>?_);refine rR (fA aC rfl rfl rfl ?_);refine rR (aCc o1001 0 rfl pF rfl rfl ?_);refine rR (aCk rfl nR ?_);refine rR (fA aC rfl rfl rfl ?_);refine rR (aCc o1001 1 rfl pF rfl rfl ?_);refine rR (aCk rfl nR ?_);refine aCi (fun hc=>absurd (by first|omega|assumption|decide|exact rfl) hc) (fun c1074=>?_);refine rR (fA aC rfl rfl rfl ?_);refine rR (aCc o1001 0 rfl eV rfl rfl ?_);refine rR (fA aC rfl rfl rfl ?_);refine rR (aCc o1001 1 rfl eV rfl rfl ?_);refine aCT (yW names names' _ _ _ (q2.ext (Own.ext (B:=h) ‹_›)).to1 (w2.ext (Own.ext (B:=h) ‹_›)).to1 b2 d2) ?_;rintro _ hs1 ⟨rfl,oc1⟩;have os1:=oc1.thenE ‹_›;by_cases hns:names=names'
 case neg =>
  rw[decide_eq_false hns]
  refine aCQ ?_;refine aCQ ?_;refine aCX rfl ?_
  exact⟨false,rfl,⟨fun h=>(by cases h),fun hq=>absurd hq.2.2.2.2.2.1 hns⟩,Own.sel ‹_› [] rfl⟩
 subst names'
 rw[decide_eq_true rfl]
 refine aCi (fun hc=>absurd (by first|omega|assumption|decide|exact rfl) hc) (fun c1200=>?_);refine rR (fA aC rfl rfl rfl ?_);refine rR (aCc os1 0 rfl mL rfl rfl ?_);refine rR (fA aC rfl rfl rfl ?_);refine rR (aCc os1 1 rfl mL rfl rfl ?_);refine aCT (tQ conds conds' _ _ _ (q6.ext os1.ext) (w6.ext os1.ext) b6 d6) ?_;rintro _ hs2 ⟨bb,rfl,hbb,oc2⟩;have os2:=oc2.thenE os1;cases bb with
 | false =>
  refine aCQ ?_;refine aCX rfl ?_
  exact⟨false,rfl,⟨fun h=>(by cases h),fun hq=>by have:=hbb.2 hq.2.2.2.2.2.2.1;cases this⟩,Own.sel ‹_› [] rfl⟩
 | true =>
 obtain rfl:=hbb.1 rfl;have oz:Own h [box b1000 [.int .i64 kind,.string ⟨⟨name⟩⟩,.int .i64 z,.string ⟨⟨table⟩⟩,.string ⟨⟨attr⟩⟩,.slice y1 cols.length z1,.slice y2 names.length z2,.int .i64 by_,.int .i64 n,.int .i64 m,.slice y3 terms.length z3,.string ⟨⟨other⟩⟩,.string ⟨⟨oattr⟩⟩,.slice y4 fixed.length z4,.slice y5 vars.length z5,.slice y6 conds.length z6,e0,e1,e2,e3,e4,e5,e6,e7,e8] 44,box b1001 [.int .i64 kind,.string ⟨⟨name⟩⟩,.int .i64 z',.string ⟨⟨table⟩⟩,.string ⟨⟨attr⟩⟩,.slice yy1 cols'.length zz1,.slice yy2 names.length zz2,.int .i64 by_,.int .i64 n,.int .i64 m,.slice yy3 terms'.length zz3,.string ⟨⟨other⟩⟩,.string ⟨⟨oattr⟩⟩,.slice yy4 fixed'.length zz4,.slice yy5 vars'.length zz5,.slice yy6 conds.length zz6,f0,f1,f2,f3,f4,f5,f6,f7,f8] 44] hs2:=os2;clear oc1 oc2 os1 os2;refine aCR ?_;refine aCZ [6,7,132,133,134,135,136,137,138,139,140,141,142,143,144,145,146,147,148,149] [7] (fun vs hh=>∃(i:Nat),i≤cols.length∧vs=[.int .i64 i]∧(∀ j,j<i→cols[j]?=cols'[j]?)∧Own h [box b1000 [.int .i64 kind,.string ⟨⟨name⟩⟩,.int .i64 z,.string ⟨⟨table⟩⟩,.string ⟨⟨attr⟩⟩,.slice y1 cols.length z1,.slice y2 names.length z2,.int .i64 by_,.int .i64 n,.int .i64 m,.slice y3 terms.length z3,.string ⟨⟨other⟩⟩,.string ⟨⟨oattr⟩⟩,.slice y4 fixed.length z4,.slice y5 vars.length z5,.slice y6 conds.length z6,e0,e1,e2,e3,e4,e5,e6,e7,e8] 44,box b1001 [.int .i64 kind,.string ⟨⟨name⟩⟩,.int .i64 z',.string ⟨⟨table⟩⟩,.string ⟨⟨attr⟩⟩,.slice yy1 cols'.length zz1,.slice yy2 names.length zz2,.int .i64 by_,.int .i64 n,.int .i64 m,.slice yy3 terms'.length zz3,.string ⟨⟨other⟩⟩,.string ⟨⟨oattr⟩⟩,.slice yy4 fixed'.length zz4,.slice yy5 vars'.length zz5,.slice yy6 conds.length zz6,f0,f1,f2,f3,f4,f5,f6,f7,f8] 44] hh) (fun vs _=>match vs with|[.int _ i]=>cols.length - i.toNat|_=>0) ?_ ?_
 ·exact⟨0,by omega,rfl,fun j hj=>by omega,oz⟩
 rintro vs junk hh0 ⟨i,hi,rfl,hpre,oh0⟩;clear oz;by_cases hlt:i<cols.length
 ·obtain⟨el,hel⟩:=getx hlt
  obtain⟨el',hel'⟩:=getx (show i<cols'.length by omega)
  obtain⟨r,hcm,hr⟩:=cmp_col el el'
  cases r with
  | true =>
   obtain rfl:=hr.1 rfl;refine rR (fA aC rfl rfl rfl ?_);refine rR (aCc oh0 0 rfl lS rfl rfl ?_);refine rR (aCk rfl kI ?_);refine aCP (fun c1403=>?_) (fun hc=>absurd (by omega) hc);refine aCS [0,2,3,5,7,8,10] [1,4,6,9] [] [0,1,2,3,4,5,6,7,8,9,10] mixed (by kernel_rfl) rfl (fun _ _ _ _ h=>h) ?_;refine fA aC rfl rfl rfl ?_;refine aCc oh0 0 rfl lS rfl rfl ?_;refine aCn kI eY (q1.ext oh0.ext) rfl (by omega) (by omega) ?_;refine aCp eY (q1.ext oh0.ext) (fun _=>rfl) (by decide) rfl ‹_› ?_;refine fA aC rfl rfl rfl ?_;refine aCc oh0 1 rfl lS rfl rfl ?_;refine aCn kI eY (w1.ext oh0.ext) rfl (by omega) (by omega) ?_;refine aCp eY (w1.ext oh0.ext) (fun _=>rfl) (by decide) rfl ‹_› ?_;refine neDeep dp_col eg_col rfl rfl rfl hcm ?_;refine aCR ?_;refine aCW (by omega) (by omega) ?_
   refine⟨rfl,?_⟩
   exact⟨⟨i+1,by omega,rfl,oT hpre hel hel',Own.sel ‹_› [0,1] rfl⟩,by simp;omega⟩
  | false =>
   refine rR (fA aC rfl rfl rfl ?_);refine rR (aCc oh0 0 rfl lS rfl rfl ?_);refine rR (aCk rfl kI ?_);refine aCP (fun c1463=>?_) (fun hc=>absurd (by omega) hc);refine aCS [0,2,3,5,7,8,10] [1,4,6,9] [] [0,1,2,3,4,5,6,7,8,9,10] mixed (by kernel_rfl) rfl (fun _ _ _ _ h=>h) ?_;refine fA aC rfl rfl rfl ?_;refine aCc oh0 0 rfl lS rfl rfl ?_;refine aCn kI eY (q1.ext oh0.ext) rfl (by omega) (by omega) ?_;refine aCp eY (q1.ext oh0.ext) (fun _=>rfl) (by decide) rfl ‹_› ?_;refine fA aC rfl rfl rfl ?_;refine aCc oh0 1 rfl lS rfl rfl ?_;refine aCn kI eY (w1.ext oh0.ext) rfl (by omega) (by omega) ?_;refine aCp eY (w1.ext oh0.ext) (fun _=>rfl) (by decide) rfl ‹_› ?_;refine neDeep dp_col eg_col rfl rfl rfl hcm ?_;refine aCQ ?_;refine aCX rfl ?_
   exact⟨false,rfl,⟨fun h=>(by cases h),fun hq=>absurd hq.2.1 (zQ hel hel' fun e=>by have:=hr.2 e;cases this)⟩,Own.sel ‹_› [] rfl⟩
 obtain rfl:cols=cols':=mU l0 fun j hj=>hpre j (by omega);refine rR (fA aC rfl rfl rfl ?_);refine rR (aCc oh0 0 rfl lS rfl rfl ?_);refine rR (aCk rfl kI ?_);refine aCP (fun hc=>absurd hc (by omega)) (fun c1523=>?_);clear hpre hi hlt;refine aCZ [6,8,150,151,152,153,154,155,156,157,158,159,160,161,162,163,164,165,166,167] [8] (fun vs hh=>∃(i:Nat),i≤terms.length∧vs=[.int .i64 i]∧(∀ j,j<i→terms[j]?=terms'[j]?)∧Own h [box b1000 [.int .i64 kind,.string ⟨⟨name⟩⟩,.int .i64 z,.string ⟨⟨table⟩⟩,.string ⟨⟨attr⟩⟩,.slice y1 cols.length z1,.slice y2 names.length z2,.int .i64 by_,.int .i64 n,.int .i64 m,.slice y3 terms.length z3,.string ⟨⟨other⟩⟩,.string ⟨⟨oattr⟩⟩,.slice y4 fixed.length z4,.slice y5 vars.length z5,.slice y6 conds.length z6,e0,e1,e2,e3,e4,e5,e6,e7,e8] 44,box b1001 [.int .i64 kind,.string ⟨⟨name⟩⟩,.int .i64 z',.string ⟨⟨table⟩⟩,.string ⟨⟨attr⟩⟩,.slice yy1 cols.length zz1,.slice yy2 names.length zz2,.int .i64 by_,.int .i64 n,.int .i64 m,.slice yy3 terms'.length zz3,.string ⟨⟨other⟩⟩,.string ⟨⟨oattr⟩⟩,.slice yy4 fixed'.length zz4,.slice yy5 vars'.length zz5,.slice yy6 conds.length zz6,f0,f1,f2,f3,f4,f5,f6,f7,f8] 44] hh) (fun vs _=>match vs with|[.int _ i]=>terms.length - i.toNat|_=>0) ?_ ?_
 ·exact⟨0,by omega,rfl,fun j hj=>by omega,oh0⟩
 rintro vs junk hh1 ⟨i,hi,rfl,hpre,oh1⟩;clear oh0;by_cases hlt:i<terms.length
 ·obtain⟨el,hel⟩:=getx hlt
  obtain⟨el',hel'⟩:=getx (show i<terms'.length by omega)
  obtain⟨r,hcm,hr⟩:=cmp_trm el el'
  cases r with
  | true =>
   obtain rfl:=hr.1 rfl;refine rR (fA aC rfl rfl rfl ?_);refine rR (aCc oh1 0 rfl nQ rfl rfl ?_);refine rR (aCk rfl nT ?_);refine aCP (fun c1583=>?_) (fun hc=>absurd (by omega) hc);refine aCS [0,2,3,5,7,8,10] [1,4,6,9] [] [0,1,2,3,4,5,6,7,8,9,10] mixed (by kernel_rfl) rfl (fun _ _ _ _ h=>h) ?_;refine fA aC rfl rfl rfl ?_;refine aCc oh1 0 rfl nQ rfl rfl ?_;refine aCn nT cL (q3.ext oh1.ext) rfl (by omega) (by omega) ?_;refine aCp cL (q3.ext oh1.ext) (fun _=>rfl) (by decide) rfl ‹_› ?_;refine fA aC rfl rfl rfl ?_;refine aCc oh1 1 rfl nQ rfl rfl ?_;refine aCn nT cL (w3.ext oh1.ext) rfl (by omega) (by omega) ?_;refine aCp cL (w3.ext oh1.ext) (fun _=>rfl) (by decide) rfl ‹_› ?_;refine neDeep dp_term eg_term rfl rfl rfl hcm ?_;refine aCR ?_;refine aCW (by omega) (by omega) ?_
   refine⟨rfl,?_⟩
   exact⟨⟨i+1,by omega,rfl,oT hpre hel hel',Own.sel ‹_› [0,1] rfl⟩,by simp;omega⟩
  | false =>
   refine rR (fA aC rfl rfl rfl ?_);refine rR (aCc oh1 0 rfl nQ rfl rfl ?_);refine rR (aCk rfl nT ?_);refine aCP (fun c1643=>?_) (fun hc=>absurd (by omega) hc);refine aCS [0,2,3,5,7,8,10] [1,4,6,9] [] [0,1,2,3,4,5,6,7,8,9,10] mixed (by kernel_rfl) rfl (fun _ _ _ _ h=>h) ?_;refine fA aC rfl rfl rfl ?_;refine aCc oh1 0 rfl nQ rfl rfl ?_;refine aCn nT cL (q3.ext oh1.ext) rfl (by omega) (by omega) ?_;refine aCp cL (q3.ext oh1.ext) (fun _=>rfl) (by decide) rfl ‹_› ?_;refine fA aC rfl rfl rfl ?_;refine aCc oh1 1 rfl nQ rfl rfl ?_;refine aCn nT cL (w3.ext oh1.ext) rfl (by omega) (by omega) ?_;refine aCp cL (w3.ext oh1.ext) (fun _=>rfl) (by decide) rfl ‹_› ?_;refine neDeep dp_term eg_term rfl rfl rfl hcm ?_;refine aCQ ?_;refine aCX rfl ?_
   exact⟨false,rfl,⟨fun h=>(by cases h),fun hq=>absurd hq.2.2.1 (zQ hel hel' fun e=>by have:=hr.2 e;cases this)⟩,Own.sel ‹_› [] rfl⟩
 obtain rfl:terms=terms':=mU l1 fun j hj=>hpre j (by omega);refine rR (fA aC rfl rfl rfl ?_);refine rR (aCc oh1 0 rfl nQ rfl rfl ?_);refine rR (aCk rfl nT ?_);refine aCP (fun hc=>absurd hc (by omega)) (fun c1703=>?_);clear hpre hi hlt;refine aCZ [6,9,168,169,170,171,172,173,174,175,176,177,178,179,180,181,182,183,184,185,186,187,188,189,190,191,192,193,194,195,196,197,198,199,200,201,202,203] [9] (fun vs hh=>∃(i:Nat),i≤fixed.length∧vs=[.int .i64 i]∧(∀ j,j<i→fixed[j]?=fixed'[j]?)∧Own h [box b1000 [.int .i64 kind,.string ⟨⟨name⟩⟩,.int .i64 z,.string ⟨⟨table⟩⟩,.string ⟨⟨attr⟩⟩,.slice y1 cols.length z1,.slice y2 names.length z2,.int .i64 by_,.int .i64 n,.int .i64 m,.slice y3 terms.length z3,.string ⟨⟨other⟩⟩,.string ⟨⟨oattr⟩⟩,.slice y4 fixed.length z4,.slice y5 vars.length z5,.slice y6 conds.length z6,e0,e1,e2,e3,e4,e5,e6,e7,e8] 44,box b1001 [.int .i64 kind,.string ⟨⟨name⟩⟩,.int .i64 z',.string ⟨⟨table⟩⟩,.string ⟨⟨attr⟩⟩,.slice yy1 cols.length zz1,.slice yy2 names.length zz2,.int .i64 by_,.int .i64 n,.int .i64 m,.slice yy3 terms.length zz3,.string ⟨⟨other⟩⟩,.string ⟨⟨oattr⟩⟩,.slice yy4 fixed'.length zz4,.slice yy5 vars'.length zz5,.slice yy6 conds.length zz6,f0,f1,f2,f3,f4,f5,f6,f7,f8] 44] hh) (fun vs _=>match vs with|[.int _ i]=>fixed.length - i.toNat|_=>0) ?_ ?_
 ·exact⟨0,by omega,rfl,fun j hj=>by omega,oh1⟩
 rintro vs junk hh2 ⟨i,hi,rfl,hpre,oh2⟩;clear oh1;by_cases hlt:i<fixed.length
 ·obtain⟨el,hel⟩:=getx hlt
  obtain⟨el',hel'⟩:=getx (show i<fixed'.length by omega)
  by_cases hnm:el.name=el'.name
  case neg =>
   refine rR (fA aC rfl rfl rfl ?_);refine rR (aCc oh2 0 rfl oG rfl rfl ?_);refine rR (aCk rfl nD ?_);refine aCP (fun c1763=>?_) (fun hc=>absurd (by omega) hc);refine aCS [0,2,3,4,6,8,9,10,12,13,14,16,17,18,20,22,23,24,27,28] [1,5,7,11,15,19,21,25] [26] [0,1,2,3,4,5,6,7,8,9,10,11,12,13,14,15,16,17,18,19,20,21,22,23,24,25,26,27,28] mixed (by kernel_rfl) rfl (fun _ _ _ _ h=>h) ?_;refine fA aC rfl rfl rfl ?_;refine aCc oh2 0 rfl oG rfl rfl ?_;refine aCn nD pE (q4.ext oh2.ext) rfl (by omega) (by omega) ?_;refine aCv (q4.ext oh2.ext) (by omega) aBO rfl rfl rfl ?_;refine aCA (q4.ext oh2.ext) aL (fun _=>rfl) rfl ‹_› rfl ?_;refine fA aC rfl rfl rfl ?_;refine aCc oh2 1 rfl oG rfl rfl ?_;refine aCn nD pE (w4.ext oh2.ext) rfl (by omega) (by omega) ?_;refine aCv (w4.ext oh2.ext) (by omega) aBO rfl rfl rfl ?_;refine aCA (w4.ext oh2.ext) aL (fun _=>rfl) rfl ‹_› rfl ?_;refine aCi (fun c1774=>?_) (fun hc=>absurd hc (by first|omega|assumption|decide|exact rfl));refine aCQ ?_;refine aCX rfl ?_
   exact⟨false,rfl,⟨fun h=>(by cases h),fun hq=>absurd hq.2.2.2.1 (zQ hel hel' fun e=>hnm (by rw[e]))⟩,Own.sel ‹_› [] rfl⟩
  refine rR (fA aC rfl rfl rfl ?_);refine rR (aCc oh2 0 rfl oG rfl rfl ?_);refine rR (aCk rfl nD ?_);refine aCP (fun c1823=>?_) (fun hc=>absurd (by omega) hc);refine aCS [0,2,3,4,6,8,9,10,12,13,14,16,17,18,20,22,23,24,27,28] [1,5,7,11,15,19,21,25] [26] [0,1,2,3,4,5,6,7,8,9,10,11,12,13,14,15,16,17,18,19,20,21,22,23,24,25,26,27,28] mixed (by kernel_rfl) rfl (fun _ _ _ _ h=>h) ?_;refine fA aC rfl rfl rfl ?_;refine aCc oh2 0 rfl oG rfl rfl ?_;refine aCn nD pE (q4.ext oh2.ext) rfl (by omega) (by omega) ?_;refine aCv (q4.ext oh2.ext) (by omega) aBO rfl rfl rfl ?_;refine aCA (q4.ext oh2.ext) aL (fun _=>rfl) rfl ‹_› rfl ?_;refine fA aC rfl rfl rfl ?_;refine aCc oh2 1 rfl oG rfl rfl ?_;refine aCn nD pE (w4.ext oh2.ext) rfl (by omega) (by omega) ?_;refine aCv (w4.ext oh2.ext) (by omega) aBO rfl rfl rfl ?_;refine aCA (w4.ext oh2.ext) aL (fun _=>rfl) rfl ‹_› rfl ?_;refine aCi (fun hc=>absurd (by first|omega|assumption|decide|exact rfl) hc) (fun c1834=>?_);refine fA aC rfl rfl rfl ?_;refine aCc oh2 0 rfl oG rfl rfl ?_;refine aCn nD pE (q4.ext oh2.ext) rfl (by omega) (by omega) ?_;refine aCv (q4.ext oh2.ext) (by omega) aBO rfl rfl rfl ?_;refine loadFS bS (q4.ext oh2.ext) (fun _=>rfl) (by decide) (by decide) rfl ‹_› rfl ?_;refine fA aC rfl rfl rfl ?_;refine aCc oh2 1 rfl oG rfl rfl ?_;refine aCn nD pE (w4.ext oh2.ext) rfl (by omega) (by omega) ?_;refine aCv (w4.ext oh2.ext) (by omega) aBO rfl rfl rfl ?_;refine loadFS bS (w4.ext oh2.ext) (fun _=>rfl) (by decide) (by decide) rfl ‹_› rfl ?_;refine aCT (rcompare2 el.val el'.val _) ?_
  rintro _ hc2 ⟨q,rfl,hq0,oc4⟩;have os4:=oc4.thenE oh2;by_cases hz:q=0
  ·have hv:=hq0.1 hz
   have he:el=el':=by cases el;cases el';simp only at hnm hv;rw[hnm,hv]
   subst he;refine aCi (fun hc=>absurd (by first|omega|assumption|decide|exact rfl) hc) (fun c1880=>?_);refine aCW (by omega) (by omega) ?_
   refine⟨rfl,?_⟩
   exact⟨⟨i+1,by omega,rfl,oT hpre hel hel',Own.sel ‹_› [0,1] rfl⟩,by simp;omega⟩
  ·refine aCi (fun c1940=>?_) (fun hc=>absurd hc (by first|omega|assumption|decide|exact rfl))
   refine aCX rfl ?_
   exact⟨false,rfl,⟨fun h=>(by cases h),fun hq=>absurd hq.2.2.2.1 (zQ hel hel' fun e=>hz (hq0.2 (by rw[e])))⟩,Own.sel ‹_› [] rfl⟩
 obtain rfl:fixed=fixed':=mU l2 fun j hj=>hpre j (by omega);refine rR (fA aC rfl rfl rfl ?_);refine rR (aCc oh2 0 rfl oG rfl rfl ?_);refine rR (aCk rfl nD ?_);refine aCP (fun hc=>absurd hc (by omega)) (fun c2003=>?_);clear hpre hi hlt;refine aCZ [6,10,204,205,206,207,208,209,210,211,212,213,214,215,216,217,218,219,220,221] [10] (fun vs hh=>∃(i:Nat),i≤vars.length∧vs=[.int .i64 i]∧(∀ j,j<i→vars[j]?=vars'[j]?)∧Own h [box b1000 [.int .i64 kind,.string ⟨⟨name⟩⟩,.int .i64 z,.string ⟨⟨table⟩⟩,.string ⟨⟨attr⟩⟩,.slice y1 cols.length z1,.slice y2 names.length z2,.int .i64 by_,.int .i64 n,.int .i64 m,.slice y3 terms.length z3,.string ⟨⟨other⟩⟩,.string ⟨⟨oattr⟩⟩,.slice y4 fixed.length z4,.slice y5 vars.length z5,.slice y6 conds.length z6,e0,e1,e2,e3,e4,e5,e6,e7,e8] 44,box b1001 [.int .i64 kind,.string ⟨⟨name⟩⟩,.int .i64 z',.string ⟨⟨table⟩⟩,.string ⟨⟨attr⟩⟩,.slice yy1 cols.length zz1,.slice yy2 names.length zz2,.int .i64 by_,.int .i64 n,.int .i64 m,.slice yy3 terms.length zz3,.string ⟨⟨other⟩⟩,.string ⟨⟨oattr⟩⟩,.slice yy4 fixed.length zz4,.slice yy5 vars'.length zz5,.slice yy6 conds.length zz6,f0,f1,f2,f3,f4,f5,f6,f7,f8] 44] hh) (fun vs _=>match vs with|[.int _ i]=>vars.length - i.toNat|_=>0) ?_ ?_
 ·exact⟨0,by omega,rfl,fun j hj=>by omega,oh2⟩
 rintro vs junk hh3 ⟨i,hi,rfl,hpre,oh3⟩;clear oh2;by_cases hlt:i<vars.length
 ·obtain⟨el,hel⟩:=getx hlt
  obtain⟨el',hel'⟩:=getx (show i<vars'.length by omega)
  obtain⟨r,hcm,hr⟩:=cmp_vr el el'
  cases r with
  | true =>
   obtain rfl:=hr.1 rfl;refine rR (fA aC rfl rfl rfl ?_);refine rR (aCc oh3 0 rfl pF rfl rfl ?_);refine rR (aCk rfl nR ?_);refine aCP (fun c2063=>?_) (fun hc=>absurd (by omega) hc);refine aCS [0,2,3,5,7,8,10] [1,4,6,9] [] [0,1,2,3,4,5,6,7,8,9,10] mixed (by kernel_rfl) rfl (fun _ _ _ _ h=>h) ?_;refine fA aC rfl rfl rfl ?_;refine aCc oh3 0 rfl pF rfl rfl ?_;refine aCn nR lQ (q5.ext oh3.ext) rfl (by omega) (by omega) ?_;refine aCp lQ (q5.ext oh3.ext) (fun _=>rfl) (by decide) rfl ‹_› ?_;refine fA aC rfl rfl rfl ?_;refine aCc oh3 1 rfl pF rfl rfl ?_;refine aCn nR lQ (w5.ext oh3.ext) rfl (by omega) (by omega) ?_;refine aCp lQ (w5.ext oh3.ext) (fun _=>rfl) (by decide) rfl ‹_› ?_;refine neS pl98 rfl rfl rfl rfl ?_;refine Br.ffE (by first|omega|(simp;done)) ?_;refine aCW (by omega) (by omega) ?_
   refine⟨rfl,?_⟩
   exact⟨⟨i+1,by omega,rfl,oT hpre hel hel',Own.sel ‹_› [0,1] rfl⟩,by simp;omega⟩
  | false =>
   have hne:¬ el=el':=fun e=>by have:=hr.2 e;cases this
   have hbt:(!(decide (el.name=el'.name)&&(decide (el.table=el'.table)&&true)))=true:=by
    rw[aDs,aDq]
    intro hh
    simp at hh
    exact hne (by cases el;cases el';simp at hh;simp[hh])
   refine rR (fA aC rfl rfl rfl ?_);refine rR (aCc oh3 0 rfl pF rfl rfl ?_);refine rR (aCk rfl nR ?_);refine aCP (fun c2123=>?_) (fun hc=>absurd (by omega) hc);refine aCS [0,2,3,5,7,8,10] [1,4,6,9] [] [0,1,2,3,4,5,6,7,8,9,10] mixed (by kernel_rfl) rfl (fun _ _ _ _ h=>h) ?_;refine fA aC rfl rfl rfl ?_;refine aCc oh3 0 rfl pF rfl rfl ?_;refine aCn nR lQ (q5.ext oh3.ext) rfl (by omega) (by omega) ?_;refine aCp lQ (q5.ext oh3.ext) (fun _=>rfl) (by decide) rfl ‹_› ?_;refine fA aC rfl rfl rfl ?_;refine aCc oh3 1 rfl pF rfl rfl ?_;refine aCn nR lQ (w5.ext oh3.ext) rfl (by omega) (by omega) ?_;refine aCp lQ (w5.ext oh3.ext) (fun _=>rfl) (by decide) rfl ‹_› ?_;refine neS pl98 rfl rfl rfl rfl ?_;refine Br.ttE hbt ?_;refine aCX rfl ?_
   exact⟨false,rfl,⟨fun h=>(by cases h),fun hq=>absurd hq.2.2.2.2.1 (zQ hel hel' fun e=>by have:=hr.2 e;cases this)⟩,Own.sel ‹_› [] rfl⟩
 obtain rfl:vars=vars':=mU l3 fun j hj=>hpre j (by omega);refine rR (fA aC rfl rfl rfl ?_);refine rR (aCc oh3 0 rfl pF rfl rfl ?_);refine rR (aCk rfl nR ?_);refine aCP (fun hc=>absurd hc (by omega)) (fun c2183=>?_);refine rR (fA aC rfl rfl rfl ?_);refine rR (aCg oh3 0 rfl aS rfl rfl rfl ?_);refine rR (fA aC rfl rfl rfl ?_);refine rR (aCg oh3 1 rfl aS rfl rfl rfl ?_);clear hpre hi hlt;refine aCT (qQ (fY expr) expr expr' _ _ _ (aDg _) bx dx (kN.ext (Own.ext (B:=h) ‹_›) _ _ rx) (kN.ext (Own.ext (B:=h) ‹_›) _ _ px)) ?_;rintro _ hc3 ⟨bb,rfl,hb3,oc5⟩;have os5:=oc5.thenE ‹_›;refine aCX rfl ?_
 exact⟨bb,rfl,⟨fun e=>⟨⟨rfl,rfl,rfl,rfl,rfl,rfl,rfl,rfl,rfl⟩,rfl,rfl,rfl,rfl,rfl,rfl,hb3.1 e⟩,fun hq=>hb3.2 hq.2.2.2.2.2.2.2⟩,Own.sel ‹_› [] rfl⟩
theorem itsQ_of {Q:Nat→Nat→Prop}:∀ {l m:List It},l.length=m.length→(∀(i:Nat)(x y:It),l[i]?=some x→m[i]?=some y→uX Q x y)→sM Q l m
 | [],[],_,_=>trivial
 | a::l,b::m,hl,h=>⟨h 0 a b rfl rfl,itsQ_of (by simpa using hl) fun i x y hx hy=>h (i+1) x y (by simpa using hx) (by simpa using hy)⟩
 | a::l,[],hl,_=>by simp at hl
 | [],b::m,hl,_=>by simp at hl
theorem xW (xs ys:List It)(va vb:Value)(h:Heap)(hB:∀ x∈xs,iQ x)(hB':∀ y∈ys,iQ y)(hl:xs.length≤1000000000000000)(hl2:ys.length≤1000000000000000)(ha:nG h va xs)(hb:nG h vb ys) :
  bZ Tryz.prog 29 [va,vb,.bool false] h fun r h'=>∃ bb:Bool,r=.bool bb∧(bb=true↔sM lM xs ys)∧Own h [] h':=by
 obtain⟨ca,q1,q2,q3⟩:=ha
 obtain⟨cb,w1,w2,w3⟩:=hb
 obtain⟨y1,z1,rfl⟩:=q1.isS
 obtain⟨y2,z2,rfl⟩:=w1.isS
 refine aCV Tryz.func29 rfl Tryz.ntmps29 (by kernel_rfl) ?_;have o0:=Own.refl h;by_cases hlen:xs.length=ys.length
 ·refine rR (aCk rfl nE ?_)
  refine rR (aCk rfl nE ?_);refine aCi (fun hc=>absurd (by first|omega|assumption|decide|exact rfl) hc) (fun c12=>?_);refine aCZ [6,7,13,14,15,16,17,18,19,20,21,22,23,24,25,26,27,28,29] [7] (fun vs hh=>∃(i:Nat),i≤xs.length∧vs=[.int .i64 i]∧(∀(j:Nat) (x y:It),j<i→xs[j]?=some x→ys[j]?=some y→uX lM x y)∧Own h [] hh) (fun vs _=>match vs with|[.int _ i]=>xs.length - i.toNat|_=>0) ?_ ?_
  ·exact⟨0,by omega,rfl,fun j x y hj=>by omega,o0⟩
  ·rintro vs junk hh ⟨i,hi,rfl,hpre,oh⟩
   by_cases hlt:i<xs.length
   ·obtain⟨x,hx⟩:=getx hlt
    obtain⟨y,hy⟩:=getx (show i<ys.length by omega)
    obtain⟨cx,hcx,hrx⟩:=q3 i x hx
    obtain⟨cy,hcy,hry⟩:=w3 i y hy
    refine rR (aCk rfl nE ?_);refine aCP (fun c21=>?_) (fun hc=>absurd (by omega) hc);refine aCS [0,1,2,4,5,6,8,10] [3,7] [9] [0,1,2,3,4,5,6,7,8,9,10] mixed (by kernel_rfl) rfl (fun _ _ _ _ h=>h) ?_;refine aCn nE iC (q1.ext oh.ext) rfl (by omega) (by omega) ?_;refine aCp iC (q1.ext oh.ext) (fun y:jJ=>y.2) (by decide) rfl ‹_› ?_;refine aCn nE iC (w1.ext oh.ext) rfl (by omega) (by omega) ?_;refine aCp iC (w1.ext oh.ext) (fun y:jJ=>y.2) (by decide) rfl ‹_› ?_;refine aCT (yY x y cx.1 cy.1 _ (hB x (aC7 hx)) (hB' y (aC7 hy)) (hrx.ext oh.ext) (hry.ext oh.ext)) ?_;rintro _ hs3 ⟨bb,rfl,hbk,oc3⟩;have os3:=oc3.thenE oh;cases bb with
    | true =>
     refine aCR ?_;refine aCW (by omega) (by omega) ?_
     refine⟨rfl,?_⟩
     refine⟨⟨i+1,by omega,rfl,fun j x' y' hj hx' hy'=>?_,Own.sel ‹_› [] rfl⟩,by simp;omega⟩
     by_cases e:j=i
     ·subst e
      rw[hx]at hx'
      rw[hy]at hy'
      cases hx'
      cases hy'
      exact hbk.1 rfl
     ·exact hpre j x' y' (by omega) hx' hy'
    | false =>
     refine aCQ ?_;refine aCX rfl ?_
     refine⟨false,rfl,⟨fun h=>(by cases h),fun hq=>?_⟩,Own.sel ‹_› [] rfl⟩
     obtain⟨y',hy',hxy⟩:=itsQ_get hq hx
     rw[hy]at hy'
     cases hy'
     have:=hbk.2 hxy
     cases this
   ·refine rR (aCk rfl nE ?_)
    refine aCP (fun hc=>absurd hc (by omega)) (fun c111=>?_);refine aCX rfl ?_
    exact⟨true,rfl,⟨fun _=>itsQ_of hlen fun j x y hx hy=>hpre j x y (by have:=(aC6.1 hx).1;omega) hx hy,fun _=>rfl⟩,Own.sel ‹_› [] rfl⟩
 ·refine rR (aCk rfl nE ?_)
  refine rR (aCk rfl nE ?_);refine aCi (fun c142=>?_) (fun hc=>absurd hc (by first|omega|assumption|decide|exact rfl));refine aCX rfl ?_
  exact⟨false,rfl,⟨fun h=>(by cases h),fun hq=>absurd (itsQ_len hq) hlen⟩,Own.sel ‹_› [] rfl⟩
theorem same2_spec (xs ys:List It)(va vb:Value)(h:Heap)(hB:∀ x∈xs,iQ x)(hB':∀ y∈ys,iQ y)(hl:xs.length≤1000000000000000)(hl2:ys.length≤1000000000000000)(ha:nG h va xs)(hb:nG h vb ys) :
  bZ Tryz.prog 14 [.agg ⟨[va]⟩,.agg ⟨[vb]⟩,.bool false] h fun r h'=>∃ bb:Bool,r=.bool bb∧(bb=true↔sM lM xs ys)∧Own h [] h':=by
 refine aCV Tryz.func14 rfl Tryz.ntmps14 (by kernel_rfl) ?_;have o0:=Own.refl h;(refine aCq o0 rfl ?_;intro b10 m10 o10);(refine aCq o10 rfl ?_;intro b11 m11 o11);refine rR (fA pG rfl rfl rfl ?_);refine rR (aCc o11 0 rfl sW rfl rfl ?_);refine rR (fA pG rfl rfl rfl ?_);refine rR (aCc o11 1 rfl sW rfl rfl ?_);refine aCT (xW xs ys va vb _ hB hB' hl hl2 (ha.ext (Own.ext (B:=h) ‹_›)) (hb.ext (Own.ext (B:=h) ‹_›))) ?_;rintro _ h1 ⟨bb,rfl,hbb,oc⟩;have o1:=oc.thenE ‹_›;refine aCX rfl ?_
 exact⟨bb,rfl,hbb,Own.sel ‹_› [] rfl⟩
theorem short_all {xs:List It}(h:sZ xs=true):(∀ x∈xs,eI x≤50000000)∧xs.length≤210:=by
 unfold sZ at h
 simp only[aC8,decide_eq_true_eq]at h
 exact⟨fun x hx=>short_size (aDh.1 h.1 x hx),h.2⟩
theorem inverse9_spec (xs:List It)(va:Value)(h:Heap)(hP:nG h va xs)(hOK:∀ x∈xs,iQ x)(hl:xs.length≤140737488351232)(hW:lB h)(hT:jO h)(hF:gX h) :
  bZ Tryz.prog 4 [.agg ⟨[va]⟩] h fun v h'=>v=.bool true∧Own h [] h':=by
 obtain⟨ya,yc,rfl⟩:=hP.isS
 refine aCV Tryz.func4 rfl Tryz.ntmps4 (by kernel_rfl) ?_;have o0:=Own.refl h;(refine aCq o0 rfl ?_;intro b10 m10 o10);refine aCT (head9_spec _ (hW.ext (Own.ext (B:=h) ‹_›)) (hT.ext (Own.ext (B:=h) ‹_›)) (hF.ext (Own.ext (B:=h) ‹_›))) ?_;rintro _ h1 ⟨rfl,oc⟩;have z1:=oc.thenE (B:=h) ‹_›;clear oc;refine rR (aCg z1 0 rfl qC rfl rfl rfl ?_);refine aCT (aBP xs _ _ hOK (by omega) (hP.ext (Own.ext (B:=h) ‹_›))) ?_;rintro _ g2 ⟨rfl,oc⟩;have s2:=oc.thenE (B:=h) ‹_›;clear oc;cases hs:sZ xs with
 | false =>
  refine aCQ ?_;refine aCX rfl ?_
  exact⟨rfl,Own.sel ‹_› [] rfl⟩
 | true =>
  obtain⟨hsz,hn⟩:=short_all hs
  refine aCR ?_;refine rR (aCg s2 0 rfl qC rfl rfl rfl ?_);refine aCT (pI xs _ _ (hT.ext (Own.ext (B:=h) ‹_›)) (hF.ext (Own.ext (B:=h) ‹_›)) (hP.ext (Own.ext (B:=h) ‹_›)) hOK hsz hn) ?_;rintro _ h3 ⟨rfl,oc⟩;have z3:=oc.thenE (B:=h) ‹_›;clear oc
  rcases aBV xs with p0|⟨p1,p2,_⟩|⟨p1,p2,_⟩
  ·obtain⟨hlen,ys,hM,hQ⟩:=aAQ p0
   rw[p0]
   generalize hout:(eM xs).1=out at hlen hM
   refine aCR ?_;refine aCT (wW hlen _ (hW.ext (Own.ext (B:=h) ‹_›))) ?_;rintro _ h4 (⟨e,i,hM2,_⟩|⟨zs,ts,ua,uc,I,hM2,hL,hI,hlen2,rfl,hp,oc⟩)
   ·rw[hM]at hM2
    cases hM2
   rw[hM]at hM2
   cases hM2
   have z4:=Own.call ‹_› oc
   simp only[lcA,lnA]at z4
   clear oc;have k1:=itsQ_ok hQ hOK;(refine aCN z4 qC ?_;intro b100 m100 o100);(refine aCf o100 2 rfl qC rfl (by decide) (aI ⟨rfl,rfl⟩ ?_);intro m101 o101);refine aCQ ?_;refine aCQ ?_;refine aCQ ?_;refine rR (aCg o101 0 rfl qC rfl rfl rfl ?_);refine rR (aCg o101 2 rfl qC rfl rfl rfl ?_);refine aCT (same2_spec xs ys _ _ _ hOK k1 (by omega) (by omega) (hP.ext (Own.ext (B:=h) ‹_›)) (by first|exact oS.toH (Own.satK ‹_› 0 rfl) hp|exact oS.toH (Own.satK ‹_› 1 rfl) hp|exact oS.toH (Own.satK ‹_› 2 rfl) hp|exact oS.toH (Own.satK ‹_› 3 rfl) hp|exact oS.toH (Own.satK ‹_› 4 rfl) hp|exact oS.toH (Own.satK ‹_› 5 rfl) hp)) ?_;rintro _ h5 ⟨bb,rfl,hbb,oc⟩;obtain rfl:bb=true:=hbb.2 hQ;have z5:=oc.thenE (B:=h) ‹_›;clear oc;refine aCX rfl ?_
   exact⟨rfl,Own.sel ‹_› [] rfl⟩
  ·rw[p1,p2]
   refine aCQ ?_;refine aCQ ?_;refine aCQ ?_;refine aCQ ?_;refine aCX rfl ?_
   exact⟨rfl,Own.sel ‹_› [] rfl⟩
  ·rw[p1,p2]
   refine aCQ ?_;refine aCQ ?_;refine aCQ ?_;refine aCR ?_;refine aCX rfl ?_
   exact⟨rfl,Own.sel ‹_› [] rfl⟩
end Go.Proofs.YtohlogbnpfofpaaGreatDoor
namespace Go.Proofs.YtohlogbnpfofpaaGreatDoor
open Go Go.ChangeShapes Go.WideShapes Go.ChangeAt Go.RowKit Go.WideElems Go.Joins Go.Deep
section
variable {H : Type} {enc : TypeId × Value → H} {P : Program} {W : World}
def wOK (P:Program)(t:TypeId)(d:DataW H):Prop:=(d.weights P t).all (·≤reachBytes)=true
def fieldsAt (P:Program)(fs:Array Field)(l:List (TypeId×Nat×Nat)):Bool:=fs.toList.map (fun f=>(f.type,f.offset,P.cellsOf f.type)) == l
theorem qG:∀ {ts:List TypeId}{ds:List (DataW H)},(DataW.weightsEach P ts ds).all (·≤reachBytes)=true→∀ {j:Nat}{t:TypeId}{d:DataW H},ts[j]?=some t→ds[j]?=some d→wOK P t d
 | [],_,_,_,_,_,hj,_=>by simp at hj
 | _::_,[],_,_,_,_,_,hd=>by simp at hd
 | t::ts,d::ds,h,0,_,_,hj,hd=>by
  simp only[DataW.weightsEach,List.all_append,aC8]at h
  simp at hj hd
  subst hj;subst hd;exact h.1
 | t::ts,d::ds,h,j+1,_,_,hj,hd=>by
  simp only[DataW.weightsEach,List.all_append,aC8]at h
  exact qG h.2 (by simpa using hj) (by simpa using hd)
theorem sN {e:TypeId}:∀ {l:List (DataW H)},(DataW.weightsAll P e l).all (·≤reachBytes)=true→∀ {j:Nat}{d:DataW H},l[j]?=some d→(d.weights P e).all (·≤reachBytes)=true
 | [],_,_,_,hj=>by simp at hj
 | x::l,h,0,d,hj=>by
  simp only[DataW.weightsAll,List.all_append,aC8]at h
  simp at hj
  subst hj;exact h.1
 | x::l,h,j+1,d,hj=>by
  simp only[DataW.weightsAll,List.all_append,aC8]at h
  exact sN h.2 (by simpa using hj)
theorem eD {t:TypeId}{fs:Array Field}{l:List (TypeId×Nat×Nat)}{fuel:Nat}{cs:aVs}{x:DataW H×List MemPlace}(ht:P.underlying t=some (.struct fs))(hl:fieldsAt P fs l=true)
  (h:DataW.trod enc P W 0 (fun _=>true) true fuel t cs=some x) (hw:wOK P t x.1):∃ n,fuel=n+1∧cs.length=P.cellsOf t ∧
   ∀(i:Nat) (ty:TypeId) (o sz:Nat),l[i]?=some (ty,o,sz)→∃ y,DataW.trod enc P W 0 (fun _=>true) true n ty ((cs.drop o).take sz)=some y∧wOK P ty y.1:=by
 obtain⟨xs,n,rfl,hx,hlen,hsz,hf⟩:=DataW.trod_struct ht h
 refine⟨n,rfl,hlen,fun i ty o sz hi=>?_⟩
 have hl:=eq_of_beq hl
 rw[← hl,aDH]at hi
 obtain⟨f,hfi,he⟩:=aDi.1 hi
 cases he
 have hfi2:fs[i]?=some f:=by simpa using hfi
 have h1:=hf i f hfi2;have hil:i<xs.length:=by rw[hsz];exact(Array.getElem?_eq_some_iff.1 hfi2).1
 obtain⟨y,hy⟩:=getx hil
 rw[hy]at h1
 refine⟨y,h1,?_⟩
 have hd:x.1=.agg (xs.map (·.1)):=congrArg Prod.fst hx
 rw[hd]at hw
 unfold wOK at hw
 simp only[DataW.weights,ht]at hw
 exact qG hw (j:=i) (by rw[aDH,hfi];rfl) (by rw[aDH,hy];rfl)
theorem rS {α β:Type}{ψ:α→β→Prop}:∀ {l:List α},(∀ c∈l,∃ x,ψ c x)→∃ xs:List β,l.length=xs.length∧∀(i:Nat)(x:β),xs[i]?=some x→∃ c,l[i]?=some c∧ψ c x
 | [],_=>⟨[],rfl,fun i x h=>by simp at h⟩
 | c::l,h=>by
  obtain⟨x,hx⟩:=h c (by simp)
  obtain⟨xs,h1,h2⟩:=rS (l:=l) fun c hc=>h c (by simp[hc])
  refine⟨x::xs,by simp[h1],fun i y hy=>?_⟩
  cases i with
  | zero=>simp at hy;subst hy;exact⟨c,rfl,hx⟩
  | succ i=>exact h2 i y (by simpa using hy)
theorem gQ {t e:TypeId}{fuel sz:Nat}{cs:aVs}{x:DataW H×List MemPlace}{α:Type}{f:α→aVs}{ψ:α→Prop}(ht:P.underlying t=some (.slice e))(hsz:P.cellsOf e=sz)(hf:∀ y,(f y).length=sz)(hpos:0<sz)(hby:0<P.bytesOf e)
  (hel:∀ n,n<fuel→∀ cs x,DataW.trod enc P W 0 (fun _=>true) true n e cs=some x→wOK P e x.1→∃ y,cs=f y∧ψ y)
  (h:DataW.trod enc P W 0 (fun _=>true) true fuel t cs=some x) (hw:wOK P t x.1):∃(v:Value) (ys:List α),cs=[v]∧dD sz W.heap v ys.length (ys.flatMap f)∧(∀ y∈ys,ψ y)∧ys.length≤140737488351232:=by
 subst hsz
 rcases DataW.trod_slice ht h with ⟨hcs,hx⟩|⟨a,len,cap,elems,rest,n,rfl,hcs,hx,hb,hl,hm,hlen,hel',hsp,hns⟩
 ·exact⟨_,[],hcs,dD.nil _ _,by simp,by simp⟩
 ·have hd:x.1=_:=congrArg Prod.fst hx
  rw[hd]at hw
  unfold wOK at hw
  simp only[DataW.weights,ht,List.all_cons,aC8,List.all_append,List.length_map,decide_eq_true_eq]at hw
  have each:∀ j,j<len→∃ y:α,(∀ r u,(f y)[r]?=some u→W.cell? ((a.add (j*P.cellsOf e)).add r)=some u)∧ψ y:=by
   intro j hj;have h1:=hel' j hj
   obtain⟨d,hd⟩:=getx (l:=elems) (i:=j) (by omega)
   rw[hd]at h1
   obtain⟨cs',g1,g2⟩:=Option.bind_eq_some_iff.1 h1
   have wj:wOK P e d.1:=sN hw.2.1 (j:=j) (by rw[aDH,hd];rfl)
   obtain⟨y,rfl,hy⟩:=hel n (Nat.lt_succ_self n) cs' d g2 wj
   obtain⟨_,hlen',hcell⟩:=World.cells?_some g1
   refine⟨y,fun r u hu=>?_,hy⟩
   have hr:r<P.cellsOf e:=by
    have:=(aC6.1 hu).1
    rw[hf]at this
    exact this
   rw[hcell r hr]
   exact hu
  obtain⟨ys,hl1,hl2⟩:=rS (l:=List.range len) (fun c hc=>each c (List.mem_range.1 hc))
  have hlen2:ys.length=len:=by rw[← hl1,List.length_range]
  have at_:∀(j:Nat) (y:α),ys[j]?=some y→(∀ r u,(f y)[r]?=some u→W.cell? ((a.add (j*P.cellsOf e)).add r)=some u)∧ψ y:=fun j y hy=>by
   obtain⟨c,hc,h⟩:=hl2 j y hy
   have hj:c=j:=by
    obtain⟨hj,e⟩:=aC6.1 hc
    simpa using e.symm
   subst hj;exact h
  refine⟨_,ys,hcs,?_,fun y hy=>?_,?_⟩
  ·rw[hlen2]
   exact aAT (f:=f) hf hpos hlen2 hl (fun j y hy r u hu=>(at_ j y hy).1 r u hu)
  ·obtain⟨j,hj⟩:=aDz.1 hy
   exact(at_ j y hj).2
  ·have h1:=hw.1
   simp only[reachBytes]at h1
   have h2:len≤(elems.length+rest.length)*P.bytesOf e:=aDk (by omega) (Nat.le_mul_of_pos_right _ hby)
   rw[hlen2]
   omega
theorem iF {t:TypeId}{fuel:Nat}{cs:aVs}{x:DataW H×List MemPlace}(ht:P.underlying t=some .string)(h:DataW.trod enc P W 0 (fun _=>true) true fuel t cs=some x)(hw:wOK P t x.1):∃ l:aBs,cs=[.string ⟨⟨l⟩⟩]∧l.length≤1000000000000000:=by
 obtain⟨⟨⟨l⟩⟩,e1,hx1,_⟩:=DataW.trod_string ht h
 refine⟨l,e1,?_⟩
 unfold wOK at hw
 rw[hx1]at hw
 have:=aDh.1 hw l.length (by simp[DataW.weights])
 have:=of_decide_eq_true this
 simp only[reachBytes]at this
 omega
theorem gF {t:TypeId}{fuel:Nat}{cs:aVs}{x:DataW H×List MemPlace}(ht:P.underlying t=some (.int .i64))(h:DataW.trod enc P W 0 (fun _=>true) true fuel t cs=some x):∃ n:Int,cs=[.int .i64 n]∧(-9223372036854775808≤n∧n≤9223372036854775807):=by
 obtain⟨n,e,_,w⟩:=DataW.trod_int ht h
 exact⟨n,e,by simpa[Lit.wf,IntKind.min,IntKind.max,IntKind.signed,IntKind.bits] using w⟩
end
section
variable {H : Type} {enc : TypeId × Value → H} {W : World}
theorem tr_vl {fuel:Nat}{cs:aVs}{x:DataW H×List MemPlace}(h:DataW.trod enc Tryz.prog W 0 (fun _=>true) true fuel 93 cs=some x)(hw:wOK Tryz.prog 93 x.1):∃ y:Vl,cs=vlC y∧VlOK y:=by
 obtain⟨n,rfl,hlen,hf⟩:=eD (l:=[(3,0,1),(3,1,1),(9,2,1)]) Tryz.underlying93 (by kernel_rfl) h hw
 have hlen:cs.length=3:=hlen.trans (by kernel_rfl)
 match cs,hlen with
 | [c0,c1,c2],_ =>
  obtain⟨y0,t0,w0⟩:=hf 0 _ _ _ rfl
  obtain⟨y1,t1,w1⟩:=hf 1 _ _ _ rfl
  obtain⟨y2,t2,w2⟩:=hf 2 _ _ _ rfl
  obtain⟨a0,e0,b0⟩:=gF Tryz.underlying3 t0
  obtain⟨a1,e1,b1⟩:=gF Tryz.underlying3 t1
  obtain⟨a2,e2,b2⟩:=iF Tryz.underlying9 t2 w2
  cases e0;cases e1;cases e2
  exact⟨⟨a0,a1,a2⟩,rfl,b0,b1,b2⟩
theorem tr_opd {fuel:Nat}{cs:aVs}{x:DataW H×List MemPlace}(h:DataW.trod enc Tryz.prog W 0 (fun _=>true) true fuel 140 cs=some x)(hw:wOK Tryz.prog 140 x.1):∃ y:Opd,cs=opdC y∧aBE y:=by
 obtain⟨n,rfl,hlen,hf⟩:=eD (l:=[(9,0,1),(9,1,1),(4,2,1),(93,3,3)]) Tryz.underlying140 (by kernel_rfl) h hw
 have hlen:cs.length=6:=hlen.trans (by kernel_rfl)
 match cs,hlen with
 | [c0,c1,c2,c3,c4,c5],_ =>
  obtain⟨y0,t0,w0⟩:=hf 0 _ _ _ rfl
  obtain⟨y1,t1,w1⟩:=hf 1 _ _ _ rfl
  obtain⟨y2,t2,w2⟩:=hf 2 _ _ _ rfl
  obtain⟨y3,t3,w3⟩:=hf 3 _ _ _ rfl
  obtain⟨a0,e0,b0⟩:=iF Tryz.underlying9 t0 w0
  obtain⟨a1,e1,b1⟩:=iF Tryz.underlying9 t1 w1
  obtain⟨a2,e2,b2⟩:=DataW.trod_bool Tryz.underlying4 t2
  obtain⟨a3,e3,b3⟩:=tr_vl t3 w3
  cases e0;cases e1;cases e2;cases e3
  exact⟨⟨a0,a1,a2,a3⟩,rfl,b0,b1,b3⟩
theorem tr_cnd {fuel:Nat}{cs:aVs}{x:DataW H×List MemPlace}(h:DataW.trod enc Tryz.prog W 0 (fun _=>true) true fuel 142 cs=some x)(hw:wOK Tryz.prog 142 x.1):∃ y:Cnd,cs=nP y∧xS y:=by
 obtain⟨n,rfl,hlen,hf⟩:=eD (l:=[(140,0,6),(3,6,1),(140,7,6),(3,13,1)]) Tryz.underlying142 (by kernel_rfl) h hw
 have hlen:cs.length=14:=hlen.trans (by kernel_rfl)
 match cs,hlen with
 | [c0,c1,c2,c3,c4,c5,c6,c7,c8,c9,c10,c11,c12,c13],_ =>
  obtain⟨y0,t0,w0⟩:=hf 0 _ _ _ rfl
  obtain⟨y1,t1,w1⟩:=hf 1 _ _ _ rfl
  obtain⟨y2,t2,w2⟩:=hf 2 _ _ _ rfl
  obtain⟨y3,t3,w3⟩:=hf 3 _ _ _ rfl
  obtain⟨a0,e0,b0⟩:=tr_opd t0 w0
  obtain⟨a1,e1,b1⟩:=gF Tryz.underlying3 t1
  obtain⟨a2,e2,b2⟩:=tr_opd t2 w2
  obtain⟨a3,e3,b3⟩:=gF Tryz.underlying3 t3
  cases e0;cases e1;cases e2;cases e3
  exact⟨⟨a0,a1,a2,a3⟩,rfl,b0,b1,b2,b3⟩
theorem tr_col {fuel:Nat}{cs:aVs}{x:DataW H×List MemPlace}(h:DataW.trod enc Tryz.prog W 0 (fun _=>true) true fuel 132 cs=some x)(hw:wOK Tryz.prog 132 x.1):∃ y:Col,cs=uT y∧ColOK y:=by
 obtain⟨n,rfl,hlen,hf⟩:=eD (l:=[(9,0,1),(3,1,1),(93,2,3)]) Tryz.underlying132 (by kernel_rfl) h hw
 have hlen:cs.length=5:=hlen.trans (by kernel_rfl)
 match cs,hlen with
 | [c0,c1,c2,c3,c4],_ =>
  obtain⟨y0,t0,w0⟩:=hf 0 _ _ _ rfl
  obtain⟨y1,t1,w1⟩:=hf 1 _ _ _ rfl
  obtain⟨y2,t2,w2⟩:=hf 2 _ _ _ rfl
  obtain⟨a0,e0,b0⟩:=iF Tryz.underlying9 t0 w0
  obtain⟨a1,e1,b1⟩:=gF Tryz.underlying3 t1
  obtain⟨a2,e2,b2⟩:=tr_vl t2 w2
  cases e0;cases e1;cases e2
  exact⟨⟨a0,a1,a2⟩,rfl,b0,b1,b2⟩
theorem tr_trm {fuel:Nat}{cs:aVs}{x:DataW H×List MemPlace}(h:DataW.trod enc Tryz.prog W 0 (fun _=>true) true fuel 136 cs=some x)(hw:wOK Tryz.prog 136 x.1):∃ y:Trm,cs=xT y∧TrmOK y:=by
 obtain⟨n,rfl,hlen,hf⟩:=eD (l:=[(9,0,1),(3,1,1),(3,2,1),(134,3,2),(3,5,1),(3,6,1)]) Tryz.underlying136 (by kernel_rfl) h hw
 have hlen:cs.length=7:=hlen.trans (by kernel_rfl)
 match cs,hlen with
 | [c0,c1,c2,c3,c4,c5,c6],_ =>
  obtain⟨y0,t0,w0⟩:=hf 0 _ _ _ rfl
  obtain⟨y1,t1,w1⟩:=hf 1 _ _ _ rfl
  obtain⟨y2,t2,w2⟩:=hf 2 _ _ _ rfl
  obtain⟨y3,t3,w3⟩:=hf 3 _ _ _ rfl
  obtain⟨y5,t5,w5⟩:=hf 4 _ _ _ rfl
  obtain⟨y6,t6,w6⟩:=hf 5 _ _ _ rfl
  obtain⟨k,rfl,_,hg⟩:=eD (l:=[(3,0,1),(3,1,1)]) Tryz.underlying134 (by kernel_rfl) t3 w3
  obtain⟨z0,s0,u0⟩:=hg 0 _ _ _ rfl
  obtain⟨z1,s1,u1⟩:=hg 1 _ _ _ rfl
  obtain⟨a0,e0,b0⟩:=iF Tryz.underlying9 t0 w0
  obtain⟨a1,e1,b1⟩:=gF Tryz.underlying3 t1
  obtain⟨a2,e2,b2⟩:=gF Tryz.underlying3 t2
  obtain⟨a3,e3,b3⟩:=gF Tryz.underlying3 s0
  obtain⟨a4,e4,b4⟩:=gF Tryz.underlying3 s1
  obtain⟨a5,e5,b5⟩:=gF Tryz.underlying3 t5
  obtain⟨a6,e6,b6⟩:=gF Tryz.underlying3 t6
  cases e0;cases e1;cases e2;cases e3;cases e4;cases e5;cases e6
  exact⟨⟨a0,a1,a2,a3,a4,a5,a6⟩,rfl,b0,b1,b2,b3,b4,b5,b6⟩
theorem tr_nmd {fuel:Nat}{cs:aVs}{x:DataW H×List MemPlace}(h:DataW.trod enc Tryz.prog W 0 (fun _=>true) true fuel 95 cs=some x)(hw:wOK Tryz.prog 95 x.1):∃ y:Nmd,cs=xZ y∧NmdOK y:=by
 obtain⟨n,rfl,hlen,hf⟩:=eD (l:=[(9,0,1),(93,1,3)]) Tryz.underlying95 (by kernel_rfl) h hw
 have hlen:cs.length=4:=hlen.trans (by kernel_rfl)
 match cs,hlen with
 | [c0,c1,c2,c3],_ =>
  obtain⟨y0,t0,w0⟩:=hf 0 _ _ _ rfl
  obtain⟨y1,t1,w1⟩:=hf 1 _ _ _ rfl
  obtain⟨a0,e0,b0⟩:=iF Tryz.underlying9 t0 w0
  obtain⟨a1,e1,b1⟩:=tr_vl t1 w1
  cases e0;cases e1
  exact⟨⟨a0,a1⟩,rfl,b0,b1⟩
theorem tr_vr {fuel:Nat}{cs:aVs}{x:DataW H×List MemPlace}(h:DataW.trod enc Tryz.prog W 0 (fun _=>true) true fuel 98 cs=some x)(hw:wOK Tryz.prog 98 x.1):∃ y:Vr,cs=vrC y∧VrOK y:=by
 obtain⟨n,rfl,hlen,hf⟩:=eD (l:=[(9,0,1),(9,1,1)]) Tryz.underlying98 (by kernel_rfl) h hw
 have hlen:cs.length=2:=hlen.trans (by kernel_rfl)
 match cs,hlen with
 | [c0,c1],_ =>
  obtain⟨y0,t0,w0⟩:=hf 0 _ _ _ rfl
  obtain⟨y1,t1,w1⟩:=hf 1 _ _ _ rfl
  obtain⟨a0,e0,b0⟩:=iF Tryz.underlying9 t0 w0
  obtain⟨a1,e1,b1⟩:=iF Tryz.underlying9 t1 w1
  cases e0;cases e1
  exact⟨⟨a0,a1⟩,rfl,b0,b1⟩
theorem tr_strC {fuel:Nat}{cs:aVs}{x:DataW H×List MemPlace}(h:DataW.trod enc Tryz.prog W 0 (fun _=>true) true fuel 9 cs=some x)(hw:wOK Tryz.prog 9 x.1):∃ y:aBs,cs=sX y∧y.length≤1000000000000000:=iF Tryz.underlying9 h hw
theorem exsOf {W:Heap}{ys:List cX}{ψ:cX→Ex→Prop}(hψ:∀ c x,ψ c x→kN W c.1 x∧gA x):∀ {l:List cX},(∀ c∈l,∃ x,ψ c x)→∃ xs:List Ex,l.length=xs.length∧nV W l xs∧oF xs
 | [],_=>⟨[],rfl,trivial,trivial⟩
 | c::l,h=>by
  obtain⟨x,hx⟩:=h c (by simp)
  obtain⟨xs,h1,h2,h3⟩:=exsOf (ys:=ys) hψ (l:=l) fun c hc=>h c (by simp[hc])
  obtain⟨h4,h5⟩:=hψ c x hx
  exact⟨x::xs,by simp[h1],by rw[nV];exact⟨h4,h2⟩,by rw[oF];exact⟨h5,h3⟩⟩
theorem tr_ex:∀(fuel:Nat) {cs:aVs}{x:DataW H×List MemPlace}(_:DataW.trod enc Tryz.prog W 0 (fun _=>true) true fuel 42 cs=some x)(_:wOK Tryz.prog 42 x.1),cs.length=9∧∃ y:Ex,kN W.heap cs y∧gA y
 | 0,_,_,h,_=>by simp[DataW.trod]at h
 | m+1,cs,x,h,hw=>by
  obtain⟨n,hn,hlen,hf⟩:=eD (l:=[(3,0,1),(9,1,1),(40,2,1),(39,3,1),(35,4,1),(9,5,1),(9,6,1),(3,7,1),(3,8,1)]) Tryz.underlying42 (by kernel_rfl) h hw
  have hlen:cs.length=9:=hlen.trans (by kernel_rfl);obtain rfl:m=n:=Nat.succ.inj hn
  refine⟨hlen,?_⟩
  match cs,hlen with
  | [c0,c1,c2,c3,c4,c5,c6,c7,c8],_ =>
   obtain⟨y0,t0,w0⟩:=hf 0 _ _ _ rfl
   obtain⟨y1,t1,w1⟩:=hf 1 _ _ _ rfl
   obtain⟨y2,t2,w2⟩:=hf 2 _ _ _ rfl
   obtain⟨y3,t3,w3⟩:=hf 3 _ _ _ rfl
   obtain⟨y4,t4,w4⟩:=hf 4 _ _ _ rfl
   obtain⟨y5,t5,w5⟩:=hf 5 _ _ _ rfl
   obtain⟨y6,t6,w6⟩:=hf 6 _ _ _ rfl
   obtain⟨y7,t7,w7⟩:=hf 7 _ _ _ rfl
   obtain⟨y8,t8,w8⟩:=hf 8 _ _ _ rfl
   obtain⟨a0,e0,b0⟩:=gF Tryz.underlying3 t0
   obtain⟨a1,e1,b1⟩:=iF Tryz.underlying9 t1 w1
   obtain⟨v2,ks,e2,r2,p2,q2⟩:=gQ (sz:=9) (f:=Subtype.val) (ψ:=fun c:cX=>∃ y:Ex,kN W.heap c.1 y∧gA y) Tryz.underlying40 (by kernel_rfl) (fun y:cX=>y.2) (by decide) (by decide +kernel)
    (fun n hn cs x h hw=>by
     have:=tr_ex n h hw
     exact⟨⟨cs,this.1⟩,rfl,this.2⟩) t2 w2
   obtain⟨v3,cds,e3,r3,p3,q3⟩:=gQ (sz:=14) (f:=nP) Tryz.underlying39 (by kernel_rfl) (fun _=>rfl) (by decide) (by decide +kernel) (fun n hn cs x h hw=>tr_cnd h hw) t3 w3
   obtain⟨v4,nms,e4,r4,p4,q4⟩:=gQ (sz:=1) (f:=sX) Tryz.underlying35 (by kernel_rfl) (fun _=>rfl) (by decide) (by decide +kernel) (fun n hn cs x h hw=>tr_strC h hw) t4 w4
   obtain⟨a5,e5,b5⟩:=iF Tryz.underlying9 t5 w5
   obtain⟨a6,e6,b6⟩:=iF Tryz.underlying9 t6 w6
   obtain⟨a7,e7,b7⟩:=gF Tryz.underlying3 t7
   obtain⟨a8,e8,b8⟩:=gF Tryz.underlying3 t8
   cases e0;cases e1;cases e2;cases e3;cases e4;cases e5;cases e6;cases e7;cases e8
   obtain⟨xs,h1,h2,h3⟩:=exsOf (W:=W.heap) (ys:=ks) (ψ:=fun c y=>kN W.heap c.1 y∧gA y) (fun c x h=>h) p2
   refine⟨.mk a0 a1 xs cds nms a5 a6 a7 0,?_,?_⟩
   ·rw[kN]
    exact⟨_,_,_,a8,rfl,r3,r4,ks,by rw[← h1];exact r2,h2⟩
   ·rw[gA]
    exact⟨b0,b1,h3,p3,p4,b5,b6,b7,by omega,by omega,by omega⟩
theorem tr_it {fuel:Nat}{cs:aVs}{x:DataW H×List MemPlace}(h:DataW.trod enc Tryz.prog W 0 (fun _=>true) true fuel 44 cs=some x)(hw:wOK Tryz.prog 44 x.1):cs.length=25∧∃ y:It,itH W.heap cs y∧iQ y:=by
 obtain⟨n,rfl,hlen,hf⟩:=eD (l:=[(3,0,1),(9,1,1),(3,2,1),(9,3,1),(9,4,1),(34,5,1),(35,6,1),(3,7,1),(3,8,1),(3,9,1),(36,10,1),(9,11,1),(9,12,1),(37,13,1),(38,14,1),(39,15,1),(42,16,9)]) Tryz.underlying44 (by kernel_rfl) h hw
 have hlen:cs.length=25:=hlen.trans (by kernel_rfl)
 refine⟨hlen,?_⟩
 match cs,hlen with
 | [c0,c1,c2,c3,c4,c5,c6,c7,c8,c9,c10,c11,c12,c13,c14,c15,c16,c17,c18,c19,c20,c21,c22,c23,c24],_ =>
  obtain⟨y0,t0,w0⟩:=hf 0 _ _ _ rfl
  obtain⟨y1,t1,w1⟩:=hf 1 _ _ _ rfl
  obtain⟨y2,t2,w2⟩:=hf 2 _ _ _ rfl
  obtain⟨y3,t3,w3⟩:=hf 3 _ _ _ rfl
  obtain⟨y4,t4,w4⟩:=hf 4 _ _ _ rfl
  obtain⟨y5,t5,w5⟩:=hf 5 _ _ _ rfl
  obtain⟨y6,t6,w6⟩:=hf 6 _ _ _ rfl
  obtain⟨y7,t7,w7⟩:=hf 7 _ _ _ rfl
  obtain⟨y8,t8,w8⟩:=hf 8 _ _ _ rfl
  obtain⟨y9,t9,w9⟩:=hf 9 _ _ _ rfl
  obtain⟨y10,t10,w10⟩:=hf 10 _ _ _ rfl
  obtain⟨y11,t11,w11⟩:=hf 11 _ _ _ rfl
  obtain⟨y12,t12,w12⟩:=hf 12 _ _ _ rfl
  obtain⟨y13,t13,w13⟩:=hf 13 _ _ _ rfl
  obtain⟨y14,t14,w14⟩:=hf 14 _ _ _ rfl
  obtain⟨y15,t15,w15⟩:=hf 15 _ _ _ rfl
  obtain⟨y16,t16,w16⟩:=hf 16 _ _ _ rfl
  obtain⟨a0,e0,b0⟩:=gF Tryz.underlying3 t0
  obtain⟨a1,e1,b1⟩:=iF Tryz.underlying9 t1 w1
  obtain⟨a2,e2,b2⟩:=gF Tryz.underlying3 t2
  obtain⟨a3,e3,b3⟩:=iF Tryz.underlying9 t3 w3
  obtain⟨a4,e4,b4⟩:=iF Tryz.underlying9 t4 w4
  obtain⟨v5,l5,e5,r5,p5,q5⟩:=gQ (sz:=5) (f:=uT) Tryz.underlying34 (by kernel_rfl) (fun _=>rfl) (by decide) (by decide +kernel) (fun n hn cs x h hw=>tr_col h hw) t5 w5
  obtain⟨v6,l6,e6,r6,p6,q6⟩:=gQ (sz:=1) (f:=sX) Tryz.underlying35 (by kernel_rfl) (fun _=>rfl) (by decide) (by decide +kernel) (fun n hn cs x h hw=>tr_strC h hw) t6 w6
  obtain⟨a7,e7,b7⟩:=gF Tryz.underlying3 t7
  obtain⟨a8,e8,b8⟩:=gF Tryz.underlying3 t8
  obtain⟨a9,e9,b9⟩:=gF Tryz.underlying3 t9
  obtain⟨v10,l10,e10,r10,p10,q10⟩:=gQ (sz:=7) (f:=xT) Tryz.underlying36 (by kernel_rfl) (fun _=>rfl) (by decide) (by decide +kernel) (fun n hn cs x h hw=>tr_trm h hw) t10 w10
  obtain⟨a11,e11,b11⟩:=iF Tryz.underlying9 t11 w11
  obtain⟨a12,e12,b12⟩:=iF Tryz.underlying9 t12 w12
  obtain⟨v13,l13,e13,r13,p13,q13⟩:=gQ (sz:=4) (f:=xZ) Tryz.underlying37 (by kernel_rfl) (fun _=>rfl) (by decide) (by decide +kernel) (fun n hn cs x h hw=>tr_nmd h hw) t13 w13
  obtain⟨v14,l14,e14,r14,p14,q14⟩:=gQ (sz:=2) (f:=vrC) Tryz.underlying38 (by kernel_rfl) (fun _=>rfl) (by decide) (by decide +kernel) (fun n hn cs x h hw=>tr_vr h hw) t14 w14
  obtain⟨v15,l15,e15,r15,p15,q15⟩:=gQ (sz:=14) (f:=nP) Tryz.underlying39 (by kernel_rfl) (fun _=>rfl) (by decide) (by decide +kernel) (fun n hn cs x h hw=>tr_cnd h hw) t15 w15
  obtain⟨_,ex,r16,p16⟩:=tr_ex _ t16 w16
  cases e0;cases e1;cases e2;cases e3;cases e4;cases e5;cases e6;cases e7;cases e8;cases e9;cases e10;cases e11;cases e12;cases e13;cases e14;cases e15
  exact⟨⟨a0,a1,0,a3,a4,l5,l6,a7,a8,a9,l10,a11,a12,l13,l14,l15,ex⟩,⟨a2,_,_,_,_,_,_,_,_,_,_,_,_,_,_,_,rfl,r5,r6,r10,r13,r14,r15,r16⟩,b0,b1,b3,b4,p5,p6,b7,b8,b9,p10,b11,b12,p13,p14,p15,p16,aDk q5 (by decide),aDk q6 (by decide),aDk q10 (by decide),aDk q13 (by decide),aDk q14 (by decide),aDk q15 (by decide)⟩
theorem In.prog {base:Nat}{v:Value}{d:DataW H}(i:In enc Tryz.prog W base 24 v d):∃(u:Value)(xs:List It),v=.agg ⟨[u]⟩∧nG W.heap u xs∧(∀ x∈xs,iQ x)∧xs.length≤140737488351232:=by
 obtain⟨⟨cs⟩,rfl,hsz⟩:=okWide_struct Tryz.underlying24 i.ok
 obtain⟨p,fuel,h⟩:=i.trod
 have hlen:cs.length=1:=hsz.trans (by kernel_rfl)
 obtain⟨n,rfl,_,hf⟩:=eD (l:=[(22,0,1)]) Tryz.underlying24 (by kernel_rfl) h i.fits
 match cs,hlen with
 | [c0],_ =>
  obtain⟨y0,t0,w0⟩:=hf 0 _ _ _ rfl
  obtain⟨u,l,e,r,q,hl⟩:=gQ (sz:=25) (f:=Subtype.val) (ψ:=fun c:jJ=>∃ y:It,itH W.heap c.1 y∧iQ y) Tryz.underlying22 (by kernel_rfl) (fun y:jJ=>y.2) (by decide) (by decide +kernel)
   (fun n hn cs x h hw=>by
    have:=tr_it h hw
    exact⟨⟨cs,this.1⟩,rfl,this.2⟩) t0 w0
  cases e
  obtain⟨xs,h1,h2⟩:=rS q
  refine⟨_,xs,rfl,⟨l,by rw[← h1];exact r,h1,fun i x hx=>?_⟩,fun x hx=>?_,by omega⟩
  ·obtain⟨c,hc,hh,_⟩:=h2 i x hx
   exact⟨c,hc,hh⟩
  ·obtain⟨i,hi⟩:=aDz.1 hx
   obtain⟨c,hc,_,hh⟩:=h2 i x hi
   exact hh
end
end Go.Proofs.YtohlogbnpfofpaaGreatDoor
