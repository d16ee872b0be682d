/- Part 8 of the proof of canonical: FnSn, FnSo, FnLr, FnLs, FnLexA, FnQa, FnWa, FnWb, FnWc, FnWd, FnWe, FnWf, FnQb. -/
import Derived.Lib.Builder
import Derived.Test.YtohlogbnpfofpaaGreatDoorPC07
set_option linter.all false
set_option maxHeartbeats 100000000
set_option maxRecDepth 100000
namespace Go.Proofs.YtohlogbnpfofpaaGreatDoor
open Go StillVC
theorem flat_getS {α:Type}{f:α→aVs}{sz i off m:Nat}{ys:List α}{y:α}(hf:∀ y,(f y).length=sz)(hy:ys[i]?=some y)(hm:off+m≤sz):((ys.flatMap f).drop (i*sz+off)).take m=((f y).drop off).take m:=by
 obtain⟨hi,he⟩:=aD5.1 hy
 rw[← aEJ,xQ hf,aEe hi,he,aEj,List.drop_append_of_le_length (by rw[hf];omega),List.take_append_of_le_length (by rw[aEE,hf];omega)]
theorem StillVC.loadFS {P:Program}{ty:TypeId}{s:aVs}{h:Heap}{K:KK}{α:Type}{t:TypeId}{x:Operand}{zero vs:aVs}{by_ n i off sz:Nat}{v:Value}{f:α→aVs}{ys:List α}{y:α}(hT:TyI P t true zero by_)(hA:dS sz h v n (ys.flatMap f))(hf:∀ y,(f y).length=sz)
  (hz:0<zero.length) (hm:off+zero.length≤sz) (hx:ev s x=adr v (i*sz+off)) (hy:ys[i]?=some y) (hv:((f y).drop off).take zero.length=vs) (hk:K (.agg ⟨vs⟩) false h):StillVC false P (.load t x) ty s h K :=
 .loadAN hA hT hx ((flat_getS hf hy hm).trans hv) (by rw[← hv,aED,aEE,hf];omega) hz hk
theorem tY (k n:Int)(t:aBs)(h:Heap):cK Tryz.prog 121 [.agg ⟨[.int .i64 k,.int .i64 n,.string ⟨⟨t⟩⟩]⟩,.agg ⟨[.int .i64 k,.int .i64 n,.string ⟨⟨t⟩⟩]⟩] h fun r h'=>r=.int .i64 0∧Own h [] h':=by
 have o0:=Own.refl h;have hl:Op.bytesLess t t=false:=by
  have:∀ l:aBs,Op.bytesLess l l=false:=by
   intro l
   induction l with
   | nil=>rfl
   | cons c l ih=>simp[Op.bytesLess,ih]
  exact this t
 have hg:(!(Op.bytesLess t t||t == t))=false:=by rw[hl];simp
 refine aDX Tryz.func121 rfl Tryz.ntmps121 (by kernel_rfl) ?_;(refine aDz o0 rfl ?_;intro b10 m10 o10);(refine aDz o10 rfl ?_;intro b11 m11 o11);refine rR (fA eJ rfl rfl rfl ?_);refine rR (aDe o11 0 rfl aY rfl rfl ?_);refine rR (fA eJ rfl rfl rfl ?_);refine rR (aDe o11 1 rfl aY rfl rfl ?_);refine aDp (fun hc=>absurd (by first|omega|assumption|decide|exact rfl) hc) (fun c16=>?_);refine rR (fA eJ rfl rfl rfl ?_);refine rR (aDe o11 0 rfl aY rfl rfl ?_);refine rR (fA eJ rfl rfl rfl ?_);refine rR (aDe o11 1 rfl aY rfl rfl ?_);refine aDp (fun hc=>absurd (by first|omega|assumption|decide|exact rfl) hc) (fun c21=>?_);refine rR (fA eJ rfl rfl rfl ?_);refine rR (aDe o11 0 rfl aO rfl rfl ?_);refine rR (fA eJ rfl rfl rfl ?_);refine rR (aDe o11 1 rfl aO rfl rfl ?_);refine rR (strLss rfl rfl ?_);refine Br.ffE ‹_› ?_;refine rR (fA eJ rfl rfl rfl ?_);refine rR (aDe o11 0 rfl aO rfl rfl ?_);refine rR (fA eJ rfl rfl rfl ?_);refine rR (aDe o11 1 rfl aO rfl rfl ?_);refine rR (strGtr rfl rfl ?_);refine Br.ffE ‹_› ?_;refine aDZ rfl ?_
 exact⟨rfl,Own.sel ‹_› [] rfl⟩
theorem aBw (Q:Nat→Nat→Prop)(at_:Bool)(hat:at_=true→∀ o o',Q o o'→o=o')(I J:Item)(x y:It)(c d:aVs)(h:Heap)(hB:ItB 10000 x)(hQ:zL Q x y)(hc:itR I c x)(hD:itR J d y)(hIe:tT I h)(hJe:tT J h) :
  cK Tryz.prog 68 [.agg ⟨c⟩,.agg ⟨d⟩,.bool at_] h fun r h'=>r=.bool true∧Own h [] h':=by
 have hI:=hIe.sat;have hJ:=hJe.sat
 obtain⟨o',ey,rfl,hoo,hex⟩:=hQ
 obtain⟨vc,vn,vt,vf,vv,vd,e0,e1,e2,e3,e4,e5,e6,e7,e8,rfl,r1,r2,r3,r4,r5,r6,rx⟩:=hc
 obtain⟨uc,un,ut,uf,uv,ud,f0,f1,f2,f3,f4,f5,f6,f7,f8,rfl,p1,p2,p3,p4,p5,p6,px⟩:=hD
 obtain⟨b1,b2,b3,b4,b5,b6,b7⟩:=hB
 have hkk:at_=true→x.off=o':=fun e=>hat e _ _ hoo;have q1:=r1 h hI;have q2:=r2 h hI;have q3:=r3 h hI;have q4:=r4 h hI;have q5:=r5 h hI;have q6:=r6 h hI;have w1:=p1 h hJ;have w2:=p2 h hJ;have w3:=p3 h hJ;have w4:=p4 h hJ;have w5:=p5 h hJ;have w6:=p6 h hJ
 obtain⟨y1,z1,rfl⟩:=r1.isS hI
 obtain⟨y2,z2,rfl⟩:=r2.isS hI
 obtain⟨y3,z3,rfl⟩:=r3.isS hI
 obtain⟨y4,z4,rfl⟩:=r4.isS hI
 obtain⟨y5,z5,rfl⟩:=r5.isS hI
 obtain⟨y6,z6,rfl⟩:=r6.isS hI
 obtain⟨yy1,zz1,rfl⟩:=p1.isS hJ
 obtain⟨yy2,zz2,rfl⟩:=p2.isS hJ
 obtain⟨yy3,zz3,rfl⟩:=p3.isS hJ
 obtain⟨yy4,zz4,rfl⟩:=p4.isS hJ
 obtain⟨yy5,zz5,rfl⟩:=p5.isS hJ
 obtain⟨yy6,zz6,rfl⟩:=p6.isS hJ
 rw[iL]at q2 w2
 clear r1 r2 r3 r4 r5 r6 p1 p2 p3 p4 p5 p6;dsimp only at w1 w2 w3 w4 w5 w6 px
 obtain⟨kind,name,off,table,attr,cols,names,by_,n,m,terms,other,oattr,fixed,vars,conds,expr⟩:=x
 dsimp only at *;unfold itC;dsimp only;refine aDX Tryz.func68 rfl Tryz.ntmps68 (by kernel_rfl) ?_;have o0:=Own.refl h;cases at_ with
 | true =>
  obtain rfl:=hkk rfl;(refine aDz o0 rfl ?_;intro b10 m10 o10);(refine aDz o10 rfl ?_;intro b11 m11 o11);refine aDS ?_;refine rR (fA aT rfl rfl rfl ?_);refine rR (aDe o11 0 rfl aY rfl rfl ?_);refine rR (fA aT rfl rfl rfl ?_);refine rR (aDe o11 1 rfl aY rfl rfl ?_);refine aDp (fun hc=>absurd (by first|omega|assumption|decide|exact rfl) hc) (fun c16=>?_);refine rR (fA aT rfl rfl rfl ?_);refine rR (aDe o11 0 rfl aY rfl rfl ?_);refine rR (fA aT rfl rfl rfl ?_);refine rR (aDe o11 1 rfl aY rfl rfl ?_);refine aDp (fun hc=>absurd (by first|omega|assumption|decide|exact rfl) hc) (fun c21=>?_);refine rR (fA aT rfl rfl rfl ?_);refine rR (aDe o11 0 rfl aO rfl rfl ?_);refine rR (fA aT rfl rfl rfl ?_);refine rR (aDe o11 1 rfl aO rfl rfl ?_);refine aDp (fun hc=>absurd (by first|omega|assumption|decide|exact rfl) hc) (fun c26=>?_);refine rR (fA aT rfl rfl rfl ?_);refine rR (aDe o11 0 rfl aO rfl rfl ?_);refine rR (fA aT rfl rfl rfl ?_);refine rR (aDe o11 1 rfl aO rfl rfl ?_);refine aDp (fun hc=>absurd (by first|omega|assumption|decide|exact rfl) hc) (fun c31=>?_);refine rR (fA aT rfl rfl rfl ?_);refine rR (aDe o11 0 rfl aO rfl rfl ?_);refine rR (fA aT rfl rfl rfl ?_);refine rR (aDe o11 1 rfl aO rfl rfl ?_);refine aDp (fun hc=>absurd (by first|omega|assumption|decide|exact rfl) hc) (fun c36=>?_);refine rR (fA aT rfl rfl rfl ?_);refine rR (aDe o11 0 rfl aY rfl rfl ?_);refine rR (fA aT rfl rfl rfl ?_);refine rR (aDe o11 1 rfl aY rfl rfl ?_);refine aDp (fun hc=>absurd (by first|omega|assumption|decide|exact rfl) hc) (fun c41=>?_)
  refine rR (fA aT rfl rfl rfl ?_);refine rR (aDe o11 0 rfl aY rfl rfl ?_);refine rR (fA aT rfl rfl rfl ?_);refine rR (aDe o11 1 rfl aY rfl rfl ?_);refine aDp (fun hc=>absurd (by first|omega|assumption|decide|exact rfl) hc) (fun c46=>?_);refine rR (fA aT rfl rfl rfl ?_);refine rR (aDe o11 0 rfl aY rfl rfl ?_);refine rR (fA aT rfl rfl rfl ?_);refine rR (aDe o11 1 rfl aY rfl rfl ?_);refine aDp (fun hc=>absurd (by first|omega|assumption|decide|exact rfl) hc) (fun c51=>?_);refine rR (fA aT rfl rfl rfl ?_);refine rR (aDe o11 0 rfl aO rfl rfl ?_);refine rR (fA aT rfl rfl rfl ?_);refine rR (aDe o11 1 rfl aO rfl rfl ?_);refine aDp (fun hc=>absurd (by first|omega|assumption|decide|exact rfl) hc) (fun c56=>?_);refine rR (fA aT rfl rfl rfl ?_);refine rR (aDe o11 0 rfl aO rfl rfl ?_);refine rR (fA aT rfl rfl rfl ?_);refine rR (aDe o11 1 rfl aO rfl rfl ?_);refine aDp (fun hc=>absurd (by first|omega|assumption|decide|exact rfl) hc) (fun c61=>?_);refine rR (fA aT rfl rfl rfl ?_);refine rR (aDe o11 0 rfl rD rfl rfl ?_);refine rR (aDn rfl oW ?_);refine rR (fA aT rfl rfl rfl ?_);refine rR (aDe o11 1 rfl rD rfl rfl ?_);refine rR (aDn rfl oW ?_);refine aDp (fun hc=>absurd (by first|omega|assumption|decide|exact rfl) hc) (fun c68=>?_);refine rR (fA aT rfl rfl rfl ?_);refine rR (aDe o11 0 rfl rK rfl rfl ?_);refine rR (aDn rfl rP ?_);refine rR (fA aT rfl rfl rfl ?_);refine rR (aDe o11 1 rfl rK rfl rfl ?_);refine rR (aDn rfl rP ?_);refine aDp (fun hc=>absurd (by first|omega|assumption|decide|exact rfl) hc) (fun c75=>?_)
  refine rR (fA aT rfl rfl rfl ?_);refine rR (aDe o11 0 rfl pJ rfl rfl ?_);refine rR (aDn rfl oN ?_);refine rR (fA aT rfl rfl rfl ?_);refine rR (aDe o11 1 rfl pJ rfl rfl ?_);refine rR (aDn rfl oN ?_);refine aDp (fun hc=>absurd (by first|omega|assumption|decide|exact rfl) hc) (fun c82=>?_);refine rR (fA aT rfl rfl rfl ?_);refine rR (aDe o11 0 rfl rC rfl rfl ?_);refine rR (aDn rfl oV ?_);refine rR (fA aT rfl rfl rfl ?_);refine rR (aDe o11 1 rfl rC rfl rfl ?_);refine rR (aDn rfl oV ?_);refine aDp (fun hc=>absurd (by first|omega|assumption|decide|exact rfl) hc) (fun c89=>?_);refine rR (fA aT rfl rfl rfl ?_);refine rR (aDe o11 0 rfl fG rfl rfl ?_);refine rR (fA aT rfl rfl rfl ?_);refine rR (aDe o11 1 rfl fG rfl rfl ?_);refine aDV (mJ names _ _ _ (q2.ext (Own.ext (h:=m11) ‹_›)).to1 (w2.ext (Own.ext (h:=m11) ‹_›)).to1 (by omega)) ?_;rintro _ hs1 ⟨rfl,oc1⟩;have os1:=oc1.thenE ‹_›;refine aDT ?_;refine rR (fA aT rfl rfl rfl ?_);refine rR (aDe os1 0 rfl nA rfl rfl ?_);refine rR (fA aT rfl rfl rfl ?_);refine rR (aDe os1 1 rfl nA rfl rfl ?_);refine aDV (oQ conds _ _ _ (q6.ext os1.ext) (w6.ext os1.ext) (by omega)) ?_;rintro _ hs2 ⟨rfl,oc2⟩;have os2:=oc2.thenE os1;have oz:Own h [box b10 [.int .i64 kind,.string ⟨⟨name⟩⟩,.int .i64 off,.string ⟨⟨table⟩⟩,.string ⟨⟨attr⟩⟩,.slice y1 cols.length z1,.slice y2 names.length z2,.int .i64 by_,.int .i64 n,.int .i64 m,.slice y3 terms.length z3,.string ⟨⟨other⟩⟩,.string ⟨⟨oattr⟩⟩,.slice y4 fixed.length z4,.slice y5 vars.length z5,.slice y6 conds.length z6,e0,e1,e2,e3,e4,e5,e6,e7,e8] 44,box b11 [.int .i64 kind,.string ⟨⟨name⟩⟩,.int .i64 off,.string ⟨⟨table⟩⟩,.string ⟨⟨attr⟩⟩,.slice yy1 cols.length zz1,.slice yy2 names.length zz2,.int .i64 by_,.int .i64 n,.int .i64 m,.slice yy3 terms.length zz3,.string ⟨⟨other⟩⟩,.string ⟨⟨oattr⟩⟩,.slice yy4 fixed.length zz4,.slice yy5 vars.length zz5,.slice yy6 conds.length zz6,f0,f1,f2,f3,f4,f5,f6,f7,f8] 44] hs2:=os2
  clear oc1 oc2 os1 os2;refine aDT ?_;refine aD1 [6,7,132,133,134,135,136,137,138,139,140,141,142,143,144,145,146,147,148,149] [7] (fun vs hh=>∃(i:Nat),i≤cols.length∧vs=[.int .i64 i]∧Own h [box b10 [.int .i64 kind,.string ⟨⟨name⟩⟩,.int .i64 off,.string ⟨⟨table⟩⟩,.string ⟨⟨attr⟩⟩,.slice y1 cols.length z1,.slice y2 names.length z2,.int .i64 by_,.int .i64 n,.int .i64 m,.slice y3 terms.length z3,.string ⟨⟨other⟩⟩,.string ⟨⟨oattr⟩⟩,.slice y4 fixed.length z4,.slice y5 vars.length z5,.slice y6 conds.length z6,e0,e1,e2,e3,e4,e5,e6,e7,e8] 44,box b11 [.int .i64 kind,.string ⟨⟨name⟩⟩,.int .i64 off,.string ⟨⟨table⟩⟩,.string ⟨⟨attr⟩⟩,.slice yy1 cols.length zz1,.slice yy2 names.length zz2,.int .i64 by_,.int .i64 n,.int .i64 m,.slice yy3 terms.length zz3,.string ⟨⟨other⟩⟩,.string ⟨⟨oattr⟩⟩,.slice yy4 fixed.length zz4,.slice yy5 vars.length zz5,.slice yy6 conds.length zz6,f0,f1,f2,f3,f4,f5,f6,f7,f8] 44] hh) (fun vs _=>match vs with|[.int _ i]=>cols.length - i.toNat|_=>0) ?_ ?_
  ·exact⟨0,by omega,rfl,oz⟩
  rintro vs junk hh0 ⟨i,hi,rfl,oh0⟩;by_cases hlt:i<cols.length
  ·obtain⟨el,hel⟩:=getx hlt
   refine rR (fA aT rfl rfl rfl ?_);refine rR (aDe oh0 0 rfl rD rfl rfl ?_);refine rR (aDn rfl oW ?_);refine aDR (fun c313=>?_) (fun hc=>absurd (by omega) hc);refine aDU [0,2,3,5,7,8,10] [1,4,6,9] [] [0,1,2,3,4,5,6,7,8,9,10] mixed (by kernel_rfl) rfl (fun _ _ _ _ h=>h) ?_;refine fA aT rfl rfl rfl ?_;refine aDe oh0 0 rfl rD rfl rfl ?_;refine aDo oW fL (q1.ext oh0.ext) rfl (by omega) (by omega) ?_;refine aDr fL (q1.ext oh0.ext) (fun _=>rfl) (by decide) rfl ‹_› ?_;refine fA aT rfl rfl rfl ?_;refine aDe oh0 1 rfl rD rfl rfl ?_;refine aDo oW fL (w1.ext oh0.ext) rfl (by omega) (by omega) ?_;refine aDr fL (w1.ext oh0.ext) (fun _=>rfl) (by decide) rfl ‹_› ?_;refine neSelf dp_col eg_col rfl rfl rfl ?_;refine aDT ?_;refine aDY (by omega) (by omega) ?_
   refine⟨rfl,?_⟩
   exact⟨⟨i+1,by omega,rfl,Own.sel ‹_› [0,1] rfl⟩,by simp;omega⟩
  clear oz;refine rR (fA aT rfl rfl rfl ?_);refine rR (aDe oh0 0 rfl rD rfl rfl ?_);refine rR (aDn rfl oW ?_);refine aDR (fun hc=>absurd hc (by omega)) (fun c363=>?_);refine aD1 [6,8,150,151,152,153,154,155,156,157,158,159,160,161,162,163,164,165,166,167] [8] (fun vs hh=>∃(i:Nat),i≤terms.length∧vs=[.int .i64 i]∧Own h [box b10 [.int .i64 kind,.string ⟨⟨name⟩⟩,.int .i64 off,.string ⟨⟨table⟩⟩,.string ⟨⟨attr⟩⟩,.slice y1 cols.length z1,.slice y2 names.length z2,.int .i64 by_,.int .i64 n,.int .i64 m,.slice y3 terms.length z3,.string ⟨⟨other⟩⟩,.string ⟨⟨oattr⟩⟩,.slice y4 fixed.length z4,.slice y5 vars.length z5,.slice y6 conds.length z6,e0,e1,e2,e3,e4,e5,e6,e7,e8] 44,box b11 [.int .i64 kind,.string ⟨⟨name⟩⟩,.int .i64 off,.string ⟨⟨table⟩⟩,.string ⟨⟨attr⟩⟩,.slice yy1 cols.length zz1,.slice yy2 names.length zz2,.int .i64 by_,.int .i64 n,.int .i64 m,.slice yy3 terms.length zz3,.string ⟨⟨other⟩⟩,.string ⟨⟨oattr⟩⟩,.slice yy4 fixed.length zz4,.slice yy5 vars.length zz5,.slice yy6 conds.length zz6,f0,f1,f2,f3,f4,f5,f6,f7,f8] 44] hh) (fun vs _=>match vs with|[.int _ i]=>terms.length - i.toNat|_=>0) ?_ ?_
  ·exact⟨0,by omega,rfl,oh0⟩
  rintro vs junk hh1 ⟨i,hi,rfl,oh1⟩;by_cases hlt:i<terms.length
  ·obtain⟨el,hel⟩:=getx hlt
   refine rR (fA aT rfl rfl rfl ?_);refine rR (aDe oh1 0 rfl rK rfl rfl ?_);refine rR (aDn rfl rP ?_);refine aDR (fun c413=>?_) (fun hc=>absurd (by omega) hc);refine aDU [0,2,3,5,7,8,10] [1,4,6,9] [] [0,1,2,3,4,5,6,7,8,9,10] mixed (by kernel_rfl) rfl (fun _ _ _ _ h=>h) ?_;refine fA aT rfl rfl rfl ?_;refine aDe oh1 0 rfl rK rfl rfl ?_;refine aDo rP cS (q3.ext oh1.ext) rfl (by omega) (by omega) ?_;refine aDr cS (q3.ext oh1.ext) (fun _=>rfl) (by decide) rfl ‹_› ?_;refine fA aT rfl rfl rfl ?_;refine aDe oh1 1 rfl rK rfl rfl ?_;refine aDo rP cS (w3.ext oh1.ext) rfl (by omega) (by omega) ?_;refine aDr cS (w3.ext oh1.ext) (fun _=>rfl) (by decide) rfl ‹_› ?_;refine neSelf dp_term eg_term rfl rfl rfl ?_;refine aDT ?_;refine aDY (by omega) (by omega) ?_
   refine⟨rfl,?_⟩
   exact⟨⟨i+1,by omega,rfl,Own.sel ‹_› [0,1] rfl⟩,by simp;omega⟩
  clear oh0;refine rR (fA aT rfl rfl rfl ?_);refine rR (aDe oh1 0 rfl rK rfl rfl ?_);refine rR (aDn rfl rP ?_);refine aDR (fun hc=>absurd hc (by omega)) (fun c463=>?_);refine aD1 [6,9,168,169,170,171,172,173,174,175,176,177,178,179,180,181,182,183,184,185,186,187,188,189,190,191,192,193,194,195,196,197,198,199,200,201,202,203] [9] (fun vs hh=>∃(i:Nat),i≤fixed.length∧vs=[.int .i64 i]∧Own h [box b10 [.int .i64 kind,.string ⟨⟨name⟩⟩,.int .i64 off,.string ⟨⟨table⟩⟩,.string ⟨⟨attr⟩⟩,.slice y1 cols.length z1,.slice y2 names.length z2,.int .i64 by_,.int .i64 n,.int .i64 m,.slice y3 terms.length z3,.string ⟨⟨other⟩⟩,.string ⟨⟨oattr⟩⟩,.slice y4 fixed.length z4,.slice y5 vars.length z5,.slice y6 conds.length z6,e0,e1,e2,e3,e4,e5,e6,e7,e8] 44,box b11 [.int .i64 kind,.string ⟨⟨name⟩⟩,.int .i64 off,.string ⟨⟨table⟩⟩,.string ⟨⟨attr⟩⟩,.slice yy1 cols.length zz1,.slice yy2 names.length zz2,.int .i64 by_,.int .i64 n,.int .i64 m,.slice yy3 terms.length zz3,.string ⟨⟨other⟩⟩,.string ⟨⟨oattr⟩⟩,.slice yy4 fixed.length zz4,.slice yy5 vars.length zz5,.slice yy6 conds.length zz6,f0,f1,f2,f3,f4,f5,f6,f7,f8] 44] hh) (fun vs _=>match vs with|[.int _ i]=>fixed.length - i.toNat|_=>0) ?_ ?_
  ·exact⟨0,by omega,rfl,oh1⟩
  rintro vs junk hh2 ⟨i,hi,rfl,oh2⟩;by_cases hlt:i<fixed.length
  ·obtain⟨el,hel⟩:=getx hlt
   refine rR (fA aT rfl rfl rfl ?_);refine rR (aDe oh2 0 rfl pJ rfl rfl ?_);refine rR (aDn rfl oN ?_);refine aDR (fun c513=>?_) (fun hc=>absurd (by omega) hc);refine aDU [0,2,3,4,6,8,9,10,12,13,14,16,17,18,20,22,23,24,27,28] [1,5,7,11,15,19,21,25] [26] [0,1,2,3,4,5,6,7,8,9,10,11,12,13,14,15,16,17,18,19,20,21,22,23,24,25,26,27,28] mixed (by kernel_rfl) rfl (fun _ _ _ _ h=>h) ?_;refine fA aT rfl rfl rfl ?_;refine aDe oh2 0 rfl pJ rfl rfl ?_;refine aDo oN oU (q4.ext oh2.ext) rfl (by omega) (by omega) ?_;refine aDv (q4.ext oh2.ext) (by omega) aAp rfl rfl rfl ?_;refine aDC (q4.ext oh2.ext) aO (fun _=>rfl) rfl ‹_› rfl ?_;refine fA aT rfl rfl rfl ?_;refine aDe oh2 1 rfl pJ rfl rfl ?_;refine aDo oN oU (w4.ext oh2.ext) rfl (by omega) (by omega) ?_;refine aDv (w4.ext oh2.ext) (by omega) aAp rfl rfl rfl ?_;refine aDC (w4.ext oh2.ext) aO (fun _=>rfl) rfl ‹_› rfl ?_;refine aDp (fun hc=>absurd (by first|omega|assumption|decide|exact rfl) hc) (fun c524=>?_);refine fA aT rfl rfl rfl ?_;refine aDe oh2 0 rfl pJ rfl rfl ?_;refine aDo oN oU (q4.ext oh2.ext) rfl (by omega) (by omega) ?_;refine aDv (q4.ext oh2.ext) (by omega) aAp rfl rfl rfl ?_;refine loadFS bW (q4.ext oh2.ext) (fun _=>rfl) (by decide) (by decide) rfl ‹_› rfl ?_;refine fA aT rfl rfl rfl ?_;refine aDe oh2 1 rfl pJ rfl rfl ?_;refine aDo oN oU (w4.ext oh2.ext) rfl (by omega) (by omega) ?_;refine aDv (w4.ext oh2.ext) (by omega) aAp rfl rfl rfl ?_;refine loadFS bW (w4.ext oh2.ext) (fun _=>rfl) (by decide) (by decide) rfl ‹_› rfl ?_;refine aDV (tY _ _ _ _) ?_
   rintro _ hc2 ⟨rfl,oc4⟩;have os4:=oc4.thenE oh2;refine aDT ?_;refine aDY (by omega) (by omega) ?_
   refine⟨rfl,?_⟩
   exact⟨⟨i+1,by omega,rfl,Own.sel ‹_› [0,1] rfl⟩,by simp;omega⟩
  clear oh1;refine rR (fA aT rfl rfl rfl ?_);refine rR (aDe oh2 0 rfl pJ rfl rfl ?_);refine rR (aDn rfl oN ?_);refine aDR (fun hc=>absurd hc (by omega)) (fun c563=>?_);refine aD1 [6,10,204,205,206,207,208,209,210,211,212,213,214,215,216,217,218,219,220,221] [10] (fun vs hh=>∃(i:Nat),i≤vars.length∧vs=[.int .i64 i]∧Own h [box b10 [.int .i64 kind,.string ⟨⟨name⟩⟩,.int .i64 off,.string ⟨⟨table⟩⟩,.string ⟨⟨attr⟩⟩,.slice y1 cols.length z1,.slice y2 names.length z2,.int .i64 by_,.int .i64 n,.int .i64 m,.slice y3 terms.length z3,.string ⟨⟨other⟩⟩,.string ⟨⟨oattr⟩⟩,.slice y4 fixed.length z4,.slice y5 vars.length z5,.slice y6 conds.length z6,e0,e1,e2,e3,e4,e5,e6,e7,e8] 44,box b11 [.int .i64 kind,.string ⟨⟨name⟩⟩,.int .i64 off,.string ⟨⟨table⟩⟩,.string ⟨⟨attr⟩⟩,.slice yy1 cols.length zz1,.slice yy2 names.length zz2,.int .i64 by_,.int .i64 n,.int .i64 m,.slice yy3 terms.length zz3,.string ⟨⟨other⟩⟩,.string ⟨⟨oattr⟩⟩,.slice yy4 fixed.length zz4,.slice yy5 vars.length zz5,.slice yy6 conds.length zz6,f0,f1,f2,f3,f4,f5,f6,f7,f8] 44] hh) (fun vs _=>match vs with|[.int _ i]=>vars.length - i.toNat|_=>0) ?_ ?_
  ·exact⟨0,by omega,rfl,oh2⟩
  rintro vs junk hh3 ⟨i,hi,rfl,oh3⟩;by_cases hlt:i<vars.length
  ·obtain⟨el,hel⟩:=getx hlt
   refine rR (fA aT rfl rfl rfl ?_);refine rR (aDe oh3 0 rfl rC rfl rfl ?_);refine rR (aDn rfl oV ?_);refine aDR (fun c613=>?_) (fun hc=>absurd (by omega) hc);refine aDU [0,2,3,5,7,8,10] [1,4,6,9] [] [0,1,2,3,4,5,6,7,8,9,10] mixed (by kernel_rfl) rfl (fun _ _ _ _ h=>h) ?_;refine fA aT rfl rfl rfl ?_;refine aDe oh3 0 rfl rC rfl rfl ?_;refine aDo oV mY (q5.ext oh3.ext) rfl (by omega) (by omega) ?_;refine aDr mY (q5.ext oh3.ext) (fun _=>rfl) (by decide) rfl ‹_› ?_;refine fA aT rfl rfl rfl ?_;refine aDe oh3 1 rfl rC rfl rfl ?_;refine aDo oV mY (w5.ext oh3.ext) rfl (by omega) (by omega) ?_;refine aDr mY (w5.ext oh3.ext) (fun _=>rfl) (by decide) rfl ‹_› ?_;refine neS pl98 rfl rfl rfl rfl ?_;refine Br.ffE (by first|omega|(simp;done)) ?_;refine aDY (by omega) (by omega) ?_
   refine⟨rfl,?_⟩
   exact⟨⟨i+1,by omega,rfl,Own.sel ‹_› [0,1] rfl⟩,by simp;omega⟩
  clear oh2;refine rR (fA aT rfl rfl rfl ?_);refine rR (aDe oh3 0 rfl rC rfl rfl ?_);refine rR (aDn rfl oV ?_);refine aDR (fun hc=>absurd hc (by omega)) (fun c663=>?_);refine rR (fA aT rfl rfl rfl ?_);refine rR (aDi oh3 0 rfl aU rfl rfl rfl ?_);refine rR (fA aT rfl rfl rfl ?_);refine rR (aDi oh3 1 rfl aU rfl rfl rfl ?_);refine aDV (mK Q true hat I J _ expr ey _ _ _ (aEf _) b7 hex rx px (hIe.ext oh3.ext) (hJe.ext oh3.ext)) ?_;rintro _ hs3 ⟨rfl,oc3⟩;have os3:=oc3.thenE ‹_›;refine aDZ rfl ?_
  exact⟨rfl,Own.sel ‹_› [] rfl⟩
 | false =>
  (refine aDz o0 rfl ?_;intro b1010 m1010 o1010);(refine aDz o1010 rfl ?_;intro b1011 m1011 o1011);refine aDT ?_;refine rR (fA aT rfl rfl rfl ?_);refine rR (aDe o1011 0 rfl aY rfl rfl ?_);refine rR (fA aT rfl rfl rfl ?_);refine rR (aDe o1011 1 rfl aY rfl rfl ?_);refine aDp (fun hc=>absurd (by first|omega|assumption|decide|exact rfl) hc) (fun c1016=>?_);refine rR (fA aT rfl rfl rfl ?_);refine rR (aDe o1011 0 rfl aO rfl rfl ?_);refine rR (fA aT rfl rfl rfl ?_);refine rR (aDe o1011 1 rfl aO rfl rfl ?_);refine aDp (fun hc=>absurd (by first|omega|assumption|decide|exact rfl) hc) (fun c1021=>?_);refine rR (fA aT rfl rfl rfl ?_);refine rR (aDe o1011 0 rfl aO rfl rfl ?_);refine rR (fA aT rfl rfl rfl ?_);refine rR (aDe o1011 1 rfl aO rfl rfl ?_);refine aDp (fun hc=>absurd (by first|omega|assumption|decide|exact rfl) hc) (fun c1026=>?_);refine rR (fA aT rfl rfl rfl ?_);refine rR (aDe o1011 0 rfl aO rfl rfl ?_);refine rR (fA aT rfl rfl rfl ?_);refine rR (aDe o1011 1 rfl aO rfl rfl ?_);refine aDp (fun hc=>absurd (by first|omega|assumption|decide|exact rfl) hc) (fun c1031=>?_);refine rR (fA aT rfl rfl rfl ?_);refine rR (aDe o1011 0 rfl aY rfl rfl ?_);refine rR (fA aT rfl rfl rfl ?_);refine rR (aDe o1011 1 rfl aY rfl rfl ?_);refine aDp (fun hc=>absurd (by first|omega|assumption|decide|exact rfl) hc) (fun c1036=>?_);refine rR (fA aT rfl rfl rfl ?_);refine rR (aDe o1011 0 rfl aY rfl rfl ?_);refine rR (fA aT rfl rfl rfl ?_);refine rR (aDe o1011 1 rfl aY rfl rfl ?_);refine aDp (fun hc=>absurd (by first|omega|assumption|decide|exact rfl) hc) (fun c1041=>?_)
  refine rR (fA aT rfl rfl rfl ?_);refine rR (aDe o1011 0 rfl aY rfl rfl ?_);refine rR (fA aT rfl rfl rfl ?_);refine rR (aDe o1011 1 rfl aY rfl rfl ?_);refine aDp (fun hc=>absurd (by first|omega|assumption|decide|exact rfl) hc) (fun c1046=>?_);refine rR (fA aT rfl rfl rfl ?_);refine rR (aDe o1011 0 rfl aO rfl rfl ?_);refine rR (fA aT rfl rfl rfl ?_);refine rR (aDe o1011 1 rfl aO rfl rfl ?_);refine aDp (fun hc=>absurd (by first|omega|assumption|decide|exact rfl) hc) (fun c1051=>?_);refine rR (fA aT rfl rfl rfl ?_);refine rR (aDe o1011 0 rfl aO rfl rfl ?_);refine rR (fA aT rfl rfl rfl ?_);refine rR (aDe o1011 1 rfl aO rfl rfl ?_);refine aDp (fun hc=>absurd (by first|omega|assumption|decide|exact rfl) hc) (fun c1056=>?_);refine rR (fA aT rfl rfl rfl ?_);refine rR (aDe o1011 0 rfl rD rfl rfl ?_);refine rR (aDn rfl oW ?_);refine rR (fA aT rfl rfl rfl ?_);refine rR (aDe o1011 1 rfl rD rfl rfl ?_);refine rR (aDn rfl oW ?_);refine aDp (fun hc=>absurd (by first|omega|assumption|decide|exact rfl) hc) (fun c1063=>?_);refine rR (fA aT rfl rfl rfl ?_);refine rR (aDe o1011 0 rfl rK rfl rfl ?_);refine rR (aDn rfl rP ?_);refine rR (fA aT rfl rfl rfl ?_);refine rR (aDe o1011 1 rfl rK rfl rfl ?_);refine rR (aDn rfl rP ?_);refine aDp (fun hc=>absurd (by first|omega|assumption|decide|exact rfl) hc) (fun c1070=>?_);refine rR (fA aT rfl rfl rfl ?_);refine rR (aDe o1011 0 rfl pJ rfl rfl ?_);refine rR (aDn rfl oN ?_);refine rR (fA aT rfl rfl rfl ?_);refine rR (aDe o1011 1 rfl pJ rfl rfl ?_);refine rR (aDn rfl oN ?_)
  refine aDp (fun hc=>absurd (by first|omega|assumption|decide|exact rfl) hc) (fun c1077=>?_);refine rR (fA aT rfl rfl rfl ?_);refine rR (aDe o1011 0 rfl rC rfl rfl ?_);refine rR (aDn rfl oV ?_);refine rR (fA aT rfl rfl rfl ?_);refine rR (aDe o1011 1 rfl rC rfl rfl ?_);refine rR (aDn rfl oV ?_);refine aDp (fun hc=>absurd (by first|omega|assumption|decide|exact rfl) hc) (fun c1084=>?_);refine rR (fA aT rfl rfl rfl ?_);refine rR (aDe o1011 0 rfl fG rfl rfl ?_);refine rR (fA aT rfl rfl rfl ?_);refine rR (aDe o1011 1 rfl fG rfl rfl ?_);refine aDV (mJ names _ _ _ (q2.ext (Own.ext (h:=m1011) ‹_›)).to1 (w2.ext (Own.ext (h:=m1011) ‹_›)).to1 (by omega)) ?_;rintro _ hs1 ⟨rfl,oc1⟩;have os1:=oc1.thenE ‹_›;refine aDT ?_;refine rR (fA aT rfl rfl rfl ?_);refine rR (aDe os1 0 rfl nA rfl rfl ?_);refine rR (fA aT rfl rfl rfl ?_);refine rR (aDe os1 1 rfl nA rfl rfl ?_);refine aDV (oQ conds _ _ _ (q6.ext os1.ext) (w6.ext os1.ext) (by omega)) ?_;rintro _ hs2 ⟨rfl,oc2⟩;have os2:=oc2.thenE os1;have oz:Own h [box b1010 [.int .i64 kind,.string ⟨⟨name⟩⟩,.int .i64 off,.string ⟨⟨table⟩⟩,.string ⟨⟨attr⟩⟩,.slice y1 cols.length z1,.slice y2 names.length z2,.int .i64 by_,.int .i64 n,.int .i64 m,.slice y3 terms.length z3,.string ⟨⟨other⟩⟩,.string ⟨⟨oattr⟩⟩,.slice y4 fixed.length z4,.slice y5 vars.length z5,.slice y6 conds.length z6,e0,e1,e2,e3,e4,e5,e6,e7,e8] 44,box b1011 [.int .i64 kind,.string ⟨⟨name⟩⟩,.int .i64 o',.string ⟨⟨table⟩⟩,.string ⟨⟨attr⟩⟩,.slice yy1 cols.length zz1,.slice yy2 names.length zz2,.int .i64 by_,.int .i64 n,.int .i64 m,.slice yy3 terms.length zz3,.string ⟨⟨other⟩⟩,.string ⟨⟨oattr⟩⟩,.slice yy4 fixed.length zz4,.slice yy5 vars.length zz5,.slice yy6 conds.length zz6,f0,f1,f2,f3,f4,f5,f6,f7,f8] 44] hs2:=os2
  clear oc1 oc2 os1 os2;refine aDT ?_;refine aD1 [6,7,132,133,134,135,136,137,138,139,140,141,142,143,144,145,146,147,148,149] [7] (fun vs hh=>∃(i:Nat),i≤cols.length∧vs=[.int .i64 i]∧Own h [box b1010 [.int .i64 kind,.string ⟨⟨name⟩⟩,.int .i64 off,.string ⟨⟨table⟩⟩,.string ⟨⟨attr⟩⟩,.slice y1 cols.length z1,.slice y2 names.length z2,.int .i64 by_,.int .i64 n,.int .i64 m,.slice y3 terms.length z3,.string ⟨⟨other⟩⟩,.string ⟨⟨oattr⟩⟩,.slice y4 fixed.length z4,.slice y5 vars.length z5,.slice y6 conds.length z6,e0,e1,e2,e3,e4,e5,e6,e7,e8] 44,box b1011 [.int .i64 kind,.string ⟨⟨name⟩⟩,.int .i64 o',.string ⟨⟨table⟩⟩,.string ⟨⟨attr⟩⟩,.slice yy1 cols.length zz1,.slice yy2 names.length zz2,.int .i64 by_,.int .i64 n,.int .i64 m,.slice yy3 terms.length zz3,.string ⟨⟨other⟩⟩,.string ⟨⟨oattr⟩⟩,.slice yy4 fixed.length zz4,.slice yy5 vars.length zz5,.slice yy6 conds.length zz6,f0,f1,f2,f3,f4,f5,f6,f7,f8] 44] hh) (fun vs _=>match vs with|[.int _ i]=>cols.length - i.toNat|_=>0) ?_ ?_
  ·exact⟨0,by omega,rfl,oz⟩
  rintro vs junk hh0 ⟨i,hi,rfl,oh0⟩;by_cases hlt:i<cols.length
  ·obtain⟨el,hel⟩:=getx hlt
   refine rR (fA aT rfl rfl rfl ?_);refine rR (aDe oh0 0 rfl rD rfl rfl ?_);refine rR (aDn rfl oW ?_);refine aDR (fun c1313=>?_) (fun hc=>absurd (by omega) hc);refine aDU [0,2,3,5,7,8,10] [1,4,6,9] [] [0,1,2,3,4,5,6,7,8,9,10] mixed (by kernel_rfl) rfl (fun _ _ _ _ h=>h) ?_;refine fA aT rfl rfl rfl ?_;refine aDe oh0 0 rfl rD rfl rfl ?_;refine aDo oW fL (q1.ext oh0.ext) rfl (by omega) (by omega) ?_;refine aDr fL (q1.ext oh0.ext) (fun _=>rfl) (by decide) rfl ‹_› ?_;refine fA aT rfl rfl rfl ?_;refine aDe oh0 1 rfl rD rfl rfl ?_;refine aDo oW fL (w1.ext oh0.ext) rfl (by omega) (by omega) ?_;refine aDr fL (w1.ext oh0.ext) (fun _=>rfl) (by decide) rfl ‹_› ?_;refine neSelf dp_col eg_col rfl rfl rfl ?_;refine aDT ?_;refine aDY (by omega) (by omega) ?_
   refine⟨rfl,?_⟩
   exact⟨⟨i+1,by omega,rfl,Own.sel ‹_› [0,1] rfl⟩,by simp;omega⟩
  clear oz;refine rR (fA aT rfl rfl rfl ?_);refine rR (aDe oh0 0 rfl rD rfl rfl ?_);refine rR (aDn rfl oW ?_);refine aDR (fun hc=>absurd hc (by omega)) (fun c1363=>?_);refine aD1 [6,8,150,151,152,153,154,155,156,157,158,159,160,161,162,163,164,165,166,167] [8] (fun vs hh=>∃(i:Nat),i≤terms.length∧vs=[.int .i64 i]∧Own h [box b1010 [.int .i64 kind,.string ⟨⟨name⟩⟩,.int .i64 off,.string ⟨⟨table⟩⟩,.string ⟨⟨attr⟩⟩,.slice y1 cols.length z1,.slice y2 names.length z2,.int .i64 by_,.int .i64 n,.int .i64 m,.slice y3 terms.length z3,.string ⟨⟨other⟩⟩,.string ⟨⟨oattr⟩⟩,.slice y4 fixed.length z4,.slice y5 vars.length z5,.slice y6 conds.length z6,e0,e1,e2,e3,e4,e5,e6,e7,e8] 44,box b1011 [.int .i64 kind,.string ⟨⟨name⟩⟩,.int .i64 o',.string ⟨⟨table⟩⟩,.string ⟨⟨attr⟩⟩,.slice yy1 cols.length zz1,.slice yy2 names.length zz2,.int .i64 by_,.int .i64 n,.int .i64 m,.slice yy3 terms.length zz3,.string ⟨⟨other⟩⟩,.string ⟨⟨oattr⟩⟩,.slice yy4 fixed.length zz4,.slice yy5 vars.length zz5,.slice yy6 conds.length zz6,f0,f1,f2,f3,f4,f5,f6,f7,f8] 44] hh) (fun vs _=>match vs with|[.int _ i]=>terms.length - i.toNat|_=>0) ?_ ?_
  ·exact⟨0,by omega,rfl,oh0⟩
  rintro vs junk hh1 ⟨i,hi,rfl,oh1⟩;by_cases hlt:i<terms.length
  ·obtain⟨el,hel⟩:=getx hlt
   refine rR (fA aT rfl rfl rfl ?_);refine rR (aDe oh1 0 rfl rK rfl rfl ?_);refine rR (aDn rfl rP ?_);refine aDR (fun c1413=>?_) (fun hc=>absurd (by omega) hc);refine aDU [0,2,3,5,7,8,10] [1,4,6,9] [] [0,1,2,3,4,5,6,7,8,9,10] mixed (by kernel_rfl) rfl (fun _ _ _ _ h=>h) ?_;refine fA aT rfl rfl rfl ?_;refine aDe oh1 0 rfl rK rfl rfl ?_;refine aDo rP cS (q3.ext oh1.ext) rfl (by omega) (by omega) ?_;refine aDr cS (q3.ext oh1.ext) (fun _=>rfl) (by decide) rfl ‹_› ?_;refine fA aT rfl rfl rfl ?_;refine aDe oh1 1 rfl rK rfl rfl ?_;refine aDo rP cS (w3.ext oh1.ext) rfl (by omega) (by omega) ?_;refine aDr cS (w3.ext oh1.ext) (fun _=>rfl) (by decide) rfl ‹_› ?_;refine neSelf dp_term eg_term rfl rfl rfl ?_;refine aDT ?_;refine aDY (by omega) (by omega) ?_
   refine⟨rfl,?_⟩
   exact⟨⟨i+1,by omega,rfl,Own.sel ‹_› [0,1] rfl⟩,by simp;omega⟩
  clear oh0;refine rR (fA aT rfl rfl rfl ?_);refine rR (aDe oh1 0 rfl rK rfl rfl ?_);refine rR (aDn rfl rP ?_);refine aDR (fun hc=>absurd hc (by omega)) (fun c1463=>?_);refine aD1 [6,9,168,169,170,171,172,173,174,175,176,177,178,179,180,181,182,183,184,185,186,187,188,189,190,191,192,193,194,195,196,197,198,199,200,201,202,203] [9] (fun vs hh=>∃(i:Nat),i≤fixed.length∧vs=[.int .i64 i]∧Own h [box b1010 [.int .i64 kind,.string ⟨⟨name⟩⟩,.int .i64 off,.string ⟨⟨table⟩⟩,.string ⟨⟨attr⟩⟩,.slice y1 cols.length z1,.slice y2 names.length z2,.int .i64 by_,.int .i64 n,.int .i64 m,.slice y3 terms.length z3,.string ⟨⟨other⟩⟩,.string ⟨⟨oattr⟩⟩,.slice y4 fixed.length z4,.slice y5 vars.length z5,.slice y6 conds.length z6,e0,e1,e2,e3,e4,e5,e6,e7,e8] 44,box b1011 [.int .i64 kind,.string ⟨⟨name⟩⟩,.int .i64 o',.string ⟨⟨table⟩⟩,.string ⟨⟨attr⟩⟩,.slice yy1 cols.length zz1,.slice yy2 names.length zz2,.int .i64 by_,.int .i64 n,.int .i64 m,.slice yy3 terms.length zz3,.string ⟨⟨other⟩⟩,.string ⟨⟨oattr⟩⟩,.slice yy4 fixed.length zz4,.slice yy5 vars.length zz5,.slice yy6 conds.length zz6,f0,f1,f2,f3,f4,f5,f6,f7,f8] 44] hh) (fun vs _=>match vs with|[.int _ i]=>fixed.length - i.toNat|_=>0) ?_ ?_
  ·exact⟨0,by omega,rfl,oh1⟩
  rintro vs junk hh2 ⟨i,hi,rfl,oh2⟩;by_cases hlt:i<fixed.length
  ·obtain⟨el,hel⟩:=getx hlt
   refine rR (fA aT rfl rfl rfl ?_);refine rR (aDe oh2 0 rfl pJ rfl rfl ?_);refine rR (aDn rfl oN ?_);refine aDR (fun c1513=>?_) (fun hc=>absurd (by omega) hc);refine aDU [0,2,3,4,6,8,9,10,12,13,14,16,17,18,20,22,23,24,27,28] [1,5,7,11,15,19,21,25] [26] [0,1,2,3,4,5,6,7,8,9,10,11,12,13,14,15,16,17,18,19,20,21,22,23,24,25,26,27,28] mixed (by kernel_rfl) rfl (fun _ _ _ _ h=>h) ?_;refine fA aT rfl rfl rfl ?_;refine aDe oh2 0 rfl pJ rfl rfl ?_;refine aDo oN oU (q4.ext oh2.ext) rfl (by omega) (by omega) ?_;refine aDv (q4.ext oh2.ext) (by omega) aAp rfl rfl rfl ?_;refine aDC (q4.ext oh2.ext) aO (fun _=>rfl) rfl ‹_› rfl ?_;refine fA aT rfl rfl rfl ?_;refine aDe oh2 1 rfl pJ rfl rfl ?_;refine aDo oN oU (w4.ext oh2.ext) rfl (by omega) (by omega) ?_;refine aDv (w4.ext oh2.ext) (by omega) aAp rfl rfl rfl ?_;refine aDC (w4.ext oh2.ext) aO (fun _=>rfl) rfl ‹_› rfl ?_;refine aDp (fun hc=>absurd (by first|omega|assumption|decide|exact rfl) hc) (fun c1524=>?_);refine fA aT rfl rfl rfl ?_;refine aDe oh2 0 rfl pJ rfl rfl ?_;refine aDo oN oU (q4.ext oh2.ext) rfl (by omega) (by omega) ?_;refine aDv (q4.ext oh2.ext) (by omega) aAp rfl rfl rfl ?_;refine loadFS bW (q4.ext oh2.ext) (fun _=>rfl) (by decide) (by decide) rfl ‹_› rfl ?_;refine fA aT rfl rfl rfl ?_;refine aDe oh2 1 rfl pJ rfl rfl ?_;refine aDo oN oU (w4.ext oh2.ext) rfl (by omega) (by omega) ?_;refine aDv (w4.ext oh2.ext) (by omega) aAp rfl rfl rfl ?_;refine loadFS bW (w4.ext oh2.ext) (fun _=>rfl) (by decide) (by decide) rfl ‹_› rfl ?_;refine aDV (tY _ _ _ _) ?_
   rintro _ hc2 ⟨rfl,oc4⟩;have os4:=oc4.thenE oh2;refine aDT ?_;refine aDY (by omega) (by omega) ?_
   refine⟨rfl,?_⟩
   exact⟨⟨i+1,by omega,rfl,Own.sel ‹_› [0,1] rfl⟩,by simp;omega⟩
  clear oh1;refine rR (fA aT rfl rfl rfl ?_);refine rR (aDe oh2 0 rfl pJ rfl rfl ?_);refine rR (aDn rfl oN ?_);refine aDR (fun hc=>absurd hc (by omega)) (fun c1563=>?_);refine aD1 [6,10,204,205,206,207,208,209,210,211,212,213,214,215,216,217,218,219,220,221] [10] (fun vs hh=>∃(i:Nat),i≤vars.length∧vs=[.int .i64 i]∧Own h [box b1010 [.int .i64 kind,.string ⟨⟨name⟩⟩,.int .i64 off,.string ⟨⟨table⟩⟩,.string ⟨⟨attr⟩⟩,.slice y1 cols.length z1,.slice y2 names.length z2,.int .i64 by_,.int .i64 n,.int .i64 m,.slice y3 terms.length z3,.string ⟨⟨other⟩⟩,.string ⟨⟨oattr⟩⟩,.slice y4 fixed.length z4,.slice y5 vars.length z5,.slice y6 conds.length z6,e0,e1,e2,e3,e4,e5,e6,e7,e8] 44,box b1011 [.int .i64 kind,.string ⟨⟨name⟩⟩,.int .i64 o',.string ⟨⟨table⟩⟩,.string ⟨⟨attr⟩⟩,.slice yy1 cols.length zz1,.slice yy2 names.length zz2,.int .i64 by_,.int .i64 n,.int .i64 m,.slice yy3 terms.length zz3,.string ⟨⟨other⟩⟩,.string ⟨⟨oattr⟩⟩,.slice yy4 fixed.length zz4,.slice yy5 vars.length zz5,.slice yy6 conds.length zz6,f0,f1,f2,f3,f4,f5,f6,f7,f8] 44] hh) (fun vs _=>match vs with|[.int _ i]=>vars.length - i.toNat|_=>0) ?_ ?_
  ·exact⟨0,by omega,rfl,oh2⟩
  rintro vs junk hh3 ⟨i,hi,rfl,oh3⟩;by_cases hlt:i<vars.length
  ·obtain⟨el,hel⟩:=getx hlt
   refine rR (fA aT rfl rfl rfl ?_);refine rR (aDe oh3 0 rfl rC rfl rfl ?_);refine rR (aDn rfl oV ?_);refine aDR (fun c1613=>?_) (fun hc=>absurd (by omega) hc);refine aDU [0,2,3,5,7,8,10] [1,4,6,9] [] [0,1,2,3,4,5,6,7,8,9,10] mixed (by kernel_rfl) rfl (fun _ _ _ _ h=>h) ?_;refine fA aT rfl rfl rfl ?_;refine aDe oh3 0 rfl rC rfl rfl ?_;refine aDo oV mY (q5.ext oh3.ext) rfl (by omega) (by omega) ?_;refine aDr mY (q5.ext oh3.ext) (fun _=>rfl) (by decide) rfl ‹_› ?_;refine fA aT rfl rfl rfl ?_;refine aDe oh3 1 rfl rC rfl rfl ?_;refine aDo oV mY (w5.ext oh3.ext) rfl (by omega) (by omega) ?_;refine aDr mY (w5.ext oh3.ext) (fun _=>rfl) (by decide) rfl ‹_› ?_;refine neS pl98 rfl rfl rfl rfl ?_;refine Br.ffE (by first|omega|(simp;done)) ?_;refine aDY (by omega) (by omega) ?_
   refine⟨rfl,?_⟩
   exact⟨⟨i+1,by omega,rfl,Own.sel ‹_› [0,1] rfl⟩,by simp;omega⟩
  clear oh2;refine rR (fA aT rfl rfl rfl ?_);refine rR (aDe oh3 0 rfl rC rfl rfl ?_);refine rR (aDn rfl oV ?_);refine aDR (fun hc=>absurd hc (by omega)) (fun c1663=>?_);refine rR (fA aT rfl rfl rfl ?_);refine rR (aDi oh3 0 rfl aU rfl rfl rfl ?_);refine rR (fA aT rfl rfl rfl ?_);refine rR (aDi oh3 1 rfl aU rfl rfl rfl ?_);refine aDV (mK Q false hat I J _ expr ey _ _ _ (aEf _) b7 hex rx px (hIe.ext oh3.ext) (hJe.ext oh3.ext)) ?_;rintro _ hs3 ⟨rfl,oc3⟩;have os3:=oc3.thenE ‹_›;refine aDZ rfl ?_
  exact⟨rfl,Own.sel ‹_› [] rfl⟩
abbrev lI:={c:aVs // c.length=25}
theorem qL {I:Item}:∀ {cs:List aVs}{xs:List It},xN I cs xs→∃ ds:List lI,cs.flatten=ds.flatMap Subtype.val∧∀(i:Nat)(x:It),xs[i]?=some x→∃ d:lI,ds[i]?=some d∧itR I d.1 x
 | [],[],_=>⟨[],rfl,fun i x h=>by simp at h⟩
 | c::cs,x::xs,h=>by
  obtain⟨ds,h1,h2⟩:=qL h.2
  refine⟨⟨c,h.1.len⟩::ds,by rw[List.flatten_cons,aEj,h1],fun i y hy=>?_⟩
  cases i with
  | zero=>simp at hy;subst hy;exact⟨_,rfl,h.1⟩
  | succ i=>exact h2 i y (by simpa using hy)
 | [],_::_,h=>h.elim
 | _::_,[],h=>h.elim
def tU (Q:Nat→Nat→Prop):List It→List It→Prop
 | [],[]=>True
 | x::xs,y::ys=>zL Q x y∧tU Q xs ys
 | _,_=>False
theorem itsQ_get {Q:Nat→Nat→Prop}:∀ {l m:List It}{i:Nat}{x:It},tU Q l m→l[i]?=some x→∃ y,m[i]?=some y∧zL Q x y
 | [],_,_,_,_,h=>by simp at h
 | a::l,b::m,0,x,hq,h=>by simp at h;subst h;exact⟨b,rfl,hq.1⟩
 | a::l,b::m,i+1,x,hq,h=>itsQ_get (l:=l) (m:=m) (i:=i) hq.2 (by simpa using h)
 | a::l,[],_,_,hq,_=>hq.elim
theorem itsQ_len {Q:Nat→Nat→Prop}:∀ {l m:List It},tU Q l m→l.length=m.length
 | [],[],_=>rfl
 | a::l,b::m,hq=>by simp[itsQ_len hq.2]
 | a::l,[],hq=>hq.elim
 | [],b::m,hq=>hq.elim
theorem zQ (Q:Nat→Nat→Prop)(at_:Bool)(hat:at_=true→∀ o o',Q o o'→o=o')(xs ys:List It)(va vb:Value)(ca cb:List lI)(h:Heap)(hB:∀ x∈xs,ItB 10000 x)(hQ:tU Q xs ys)(hl:xs.length≤1000000)
  (hA:dS 25 h va xs.length (ca.flatMap Subtype.val)) (hD:dS 25 h vb ys.length (cb.flatMap Subtype.val))
  (ha:∀(i:Nat) (x:It),xs[i]?=some x→∃(d:lI) (I:Item),ca[i]?=some d∧itR I d.1 x∧tT I h) (hb:∀(i:Nat) (y:It),ys[i]?=some y→∃(d:lI) (I:Item),cb[i]?=some d∧itR I d.1 y∧tT I h) :
  cK Tryz.prog 29 [va,vb,.bool at_] h fun r h'=>r=.bool true∧Own h [] h':=by
 have hll:=itsQ_len hQ;refine aDX Tryz.func29 rfl Tryz.ntmps29 (by kernel_rfl) ?_;have o0:=Own.refl h;refine rR (aDE hA uF ?_);refine rR (aDE hD uF ?_);refine aDp (fun hc=>absurd (by first|omega|assumption|decide|exact rfl) hc) (fun c12=>?_);refine aD1 [6,7,13,14,15,16,17,18,19,20,21,22,23,24,25,26,27,28,29] [7] (fun vs hh=>∃(i:Nat),i≤xs.length∧vs=[.int .i64 i]∧Own h [] hh) (fun vs _=>match vs with|[.int _ i]=>xs.length - i.toNat|_=>0) ?_ ?_
 ·exact⟨0,by omega,rfl,o0⟩
 ·rintro vs junk hh ⟨i,hi,rfl,oh⟩
  by_cases hlt:i<xs.length
  ·obtain⟨x,hx⟩:=getx hlt
   obtain⟨y,hy,hq⟩:=itsQ_get hQ hx
   obtain⟨cx,I,hcx,hrx,hsx⟩:=ha i x hx
   obtain⟨cy,J,hcy,hry,hsy⟩:=hb i y hy
   refine rR (aDE (hA.ext oh.ext) uF ?_);refine aDR (fun c21=>?_) (fun hc=>absurd (by omega) hc);refine aDU [0,1,2,4,5,6,8,10] [3,7] [9] [0,1,2,3,4,5,6,7,8,9,10] mixed (by kernel_rfl) rfl (fun _ _ _ _ h=>h) ?_;refine aDo uF lJ (hA.ext oh.ext) rfl (by omega) (by omega) ?_;refine aDr lJ (hA.ext oh.ext) (fun y:lI=>y.2) (by decide) rfl ‹_› ?_;refine aDo uF lJ (hD.ext oh.ext) rfl (by omega) (by omega) ?_;refine aDr lJ (hD.ext oh.ext) (fun y:lI=>y.2) (by decide) rfl ‹_› ?_;refine aDV (aBw Q at_ hat I J x y cx.1 cy.1 _ (hB x (aD6 hx)) hq hrx hry (hsx.ext oh.ext) (hsy.ext oh.ext)) ?_;rintro _ h2 ⟨rfl,oc⟩;have o2:=oc.thenE oh;refine aDT ?_;refine aDY (by omega) (by omega) ?_
   refine⟨rfl,?_⟩
   exact⟨⟨i+1,by omega,rfl,Own.sel ‹_› [] rfl⟩,by simp;omega⟩
  ·refine rR (aDE (hA.ext oh.ext) uF ?_)
   refine aDR (fun hc=>absurd hc (by omega)) (fun c81=>?_);refine aDZ rfl ?_
   exact⟨rfl,oh⟩
theorem aAs (Q:Nat→Nat→Prop)(at_:Bool)(hat:at_=true→∀ o o',Q o o'→o=o')(I J:Item)(xs ys:List It)(va vb:Value)(h:Heap)(hB:∀ x∈xs,ItB 10000 x)(hQ:tU Q xs ys)(hl:xs.length≤1000000)(ha:jA I va xs)(hb:jA J vb ys)(hI:tT I h)(hJ:tT J h) :
  cK Tryz.prog 29 [va,vb,.bool at_] h fun r h'=>r=.bool true∧Own h [] h':=by
 obtain⟨cs,r1,r2⟩:=ha
 obtain⟨ds,p1,p2⟩:=hb
 obtain⟨ca,e1,k1⟩:=qL r2
 obtain⟨cb,e2,k2⟩:=qL p2
 rw[e1]at r1
 rw[e2]at p1
 exact zQ Q at_ hat xs ys va vb ca cb h hB hQ hl (r1 h hI.sat) (p1 h hJ.sat) (fun i x hx=>by obtain⟨d,h1,h2⟩:=k1 i x hx;exact⟨d,I,h1,h2,hI⟩) (fun i x hx=>by obtain⟨d,h1,h2⟩:=k2 i x hx;exact⟨d,J,h1,h2,hJ⟩)
theorem same_spec (Q:Nat→Nat→Prop)(at_:Bool)(hat:at_=true→∀ o o',Q o o'→o=o')(I J:Item)(xs ys:List It)(va vb:Value)(h:Heap)(hB:∀ x∈xs,ItB 10000 x)(hQ:tU Q xs ys)(hl:xs.length≤1000000)(ha:jA I va xs)(hb:jA J vb ys)(hI:tT I h)(hJ:tT J h) :
  cK Tryz.prog 14 [.agg ⟨[va]⟩,.agg ⟨[vb]⟩,.bool at_] h fun r h'=>r=.bool true∧Own h [] h':=by
 refine aDX Tryz.func14 rfl Tryz.ntmps14 (by kernel_rfl) ?_;have o0:=Own.refl h;(refine aDz o0 rfl ?_;intro b10 m10 o10);(refine aDz o10 rfl ?_;intro b11 m11 o11);refine rR (fA wO rfl rfl rfl ?_);refine rR (aDe o11 0 rfl aCH rfl rfl ?_);refine rR (fA wO rfl rfl rfl ?_);refine rR (aDe o11 1 rfl aCH rfl rfl ?_);refine aDV (aAs Q at_ hat I J xs ys va vb _ hB hQ hl ha hb (hI.ext o11.ext) (hJ.ext o11.ext)) ?_;rintro _ h2 ⟨rfl,oc⟩;have o2:=oc.thenE ‹_›;refine aDZ rfl ?_
 exact⟨rfl,Own.sel ‹_› [] rfl⟩
section
variable {Q : Nat → Nat → Prop}
def Firm {α β:Type}(Q:Nat→Nat→Prop)(R:α→β→Prop)(m:Nat→PM α)(m':Nat→PM β):Prop :=
 ∀ z ts a r,LW ts→m z ts=.ok (a,r)→∃ p,p≠[]∧ts=p++r∧∀ z' p' r',TWs p'→TWs r'→TE Q p p'→∃ a',m' z' (p'++r')=.ok (a',r')∧R a a'
theorem he_of_ne {p p' r r':List Tok}(h:TE Q p p')(hp:p≠[]):HE Q (p++r) (p'++r'):=by
 cases h with
 | nil=>exact absurd rfl hp
 | cons h _=>exact h
theorem xR {α β γ δ:Type} [QT Q] {R:α→β→Prop}{S:γ→δ→Prop}{m:Nat→PM α}{m':Nat→PM β}{f:Nat→α→PM γ}{f':Nat→β→PM δ}(hm:Par Q R m m')(hf:∀ a b,R a b→Firm Q S (fun z=>f z a) (fun z=>f' z b)) :
  Firm Q S (fun z=>m z >>= f z) (fun z=>m' z >>= f' z):=by
 intro z ts c r htw h;cases h1:m z ts with
 | error e=>exact absurd ((aDg h1).symm.trans h) (by simp)
 | ok x =>
  obtain⟨a,r1⟩:=x
  have h9:f z a r1=.ok (c,r):=(aDf h1).symm.trans h
  obtain⟨p1,rfl,k1⟩:=hm.ok z ts a r1 htw h1
  obtain⟨b,hb⟩:∃ b,R a b:=by
   obtain⟨p',e1,w1⟩:=TE.aDI (Q:=Q) htw.left.1
   obtain⟨r',e2,w2⟩:=TE.aDI (Q:=Q) htw.right.1
   obtain⟨b,_,hb⟩:=k1 z p' r' w1 w2 e1 e2.he
   exact⟨b,hb⟩
  obtain⟨p2,hne,rfl,_⟩:=hf a b hb z r1 c r htw.right h9
  refine⟨p1++p2,by simp[hne],by simp,fun z' p' r' hp' hr' hp=>?_⟩
  obtain⟨q1,q2,rfl,hq1,hq2⟩:=hp.split
  obtain⟨a',e1,ra⟩:=k1 z' q1 (q2++r') hp'.left (hp'.right.append hr') hq1 (he_of_ne hq2 hne)
  obtain⟨p3,_,e3,k3⟩:=hf a a' ra z _ c r htw.right h9
  have:p3=p2:=(aEI e3).symm
  subst this
  obtain⟨c',e2,rc⟩:=k3 z' q2 r' hp'.right hr' hq2
  exact⟨c',by rw[aD7];exact(aDf e1).trans e2,rc⟩
theorem needP_one (z:Nat)(s:aBs) {ts:List Tok}{r:List Tok}(h:aX z [s] ts=.ok ((),r)):∃ t,ts=t::r∧dH t s=true:=by
 cases hq:cG s ts with
 | error e=>exact absurd hq (cY _ _ _)
 | ok x =>
  obtain⟨b,q⟩:=x
  cases b with
  | false=>exact absurd ((aDg (need1_no z hq)).symm.trans h) (by simp)
  | true =>
   have h':=(aDf (pP z hq)).symm.trans h;cases h';unfold cG at hq;split at hq
   ·rename_i hs
    cases ts with
    | nil=>cases hs
    | cons t q' =>
     cases hq
     refine⟨t,rfl,?_⟩
     simpa[bD] using hs
   ·cases hq
theorem needP_of (z:Nat) {s:aBs}{t:Tok}{r:List Tok}(h:dH t s=true):aX z [s] (t::r)=.ok ((),r):=by
 have e1:need1 z s (t::r)=.ok ((),r):=pP z (kN (ts:=t::r) (by show(dH t s&&true)=true;rw[h];rfl))
 show(need1 z s >>= fun _=>pure ()) _=_
 rw[aDf e1]
 rfl
theorem firm_need {α β:Type}{S:α→β→Prop}(s:aBs) {a:α}{b:β}(h:S a b):Firm Q S (fun z=>aX z [s] >>= fun _=>(pure a:PM α)) (fun z=>aX z [s] >>= fun _=>(pure b:PM β)):=by
 intro z ts c r _ hm;cases h1:aX z [s] ts with
 | error e=>exact absurd ((aDg h1).symm.trans hm) (by simp)
 | ok x =>
  obtain⟨u,q⟩:=x
  have hm:=(aDf h1).symm.trans hm;cases hm
  obtain⟨t,rfl,hw⟩:=needP_one z s h1
  refine⟨[t],by simp,rfl,fun z' p' r' _ _ hp=>⟨b,?_,h⟩⟩
  cases hp with
  | @cons _ t' _ _ h1 h2 =>
   cases h2
   show(aX z' [s] >>= fun _=>(pure b:PM β)) (t'::r')=_
   rw[aDf (needP_of z' ((jV h1 s).symm.trans hw))]
   rfl
def aCf (off z:Nat):PM It:=eO z eF 1 >>= fun k=>ifP (k != 5) (cI z) [] >>= fun nm=>jB z k (x0 k nm off) >>= fun x=>aX z [if k=4 then[125] else[59]] >>= fun _=>pure x
theorem qM (z:Nat)(t:Tok)(r:List Tok):hG z (t::r)=aCf t.off z (t::r):=by
 rw[aAX]
 refine congrFun (congrArg (fun f=>eO z eF 1 >>= f) (funext fun k=>congrArg (fun f=>ifP (k != 5) (cI z) [] >>= f) (funext fun nm=>congrArg (fun f=>jB z k (x0 k nm t.off) >>= f) (funext fun x=>?_)))) _;by_cases hk:k=4
 ·simp only[if_pos hk]
 ·simp only[if_neg hk]
theorem pS (z:Nat):hG z []=.error (7,z):=rfl
theorem itQ_x0 [hq:QT Q] {off off':Nat}(h:Q off off')(k:Int)(nm:aBs):zL Q (x0 k nm off) (x0 k nm off'):=by
 refine⟨off',ex0,rfl,h,?_⟩
 show ExQ Q ex0 ex0
 unfold ex0
 rw[ExQ]
 exact⟨rfl,rfl,rfl,rfl,rfl,rfl,rfl,hq.zero,trivial⟩
theorem xB [QT Q] {off off':Nat}(h:Q off off'):Par Q (zL Q) (fun z=>aCf off z) (fun z=>aCf off' z) :=
 aQ (lA _ _) fun k=>aQ (zX eQ) fun nm=>eR (f:=fun z x=>aX z [if k=4 then[125] else[59]] >>= fun _=>pure x) (f':=fun z x=>aX z [if k=4 then[125] else[59]] >>= fun _=>pure x)
  (aB0 (itQ_x0 h k nm) k) fun _ _ hxy=>aQ (cP _) fun _=>bL hxy
theorem aA1 [QT Q] {off off':Nat}(h:Q off off'):Firm Q (zL Q) (fun z=>aCf off z) (fun z=>aCf off' z) :=
 xR (f:=fun z k=>ifP (k != 5) (cI z) [] >>= fun nm=>jB z k (x0 k nm off) >>= fun x=>aX z [if k=4 then[125] else[59]] >>= fun _=>pure x)
  (f':=fun z k=>ifP (k != 5) (cI z) [] >>= fun nm=>jB z k (x0 k nm off') >>= fun x=>aX z [if k=4 then[125] else[59]] >>= fun _=>pure x) (lA _ _) fun k k' hk=>by
  subst hk;refine xR (f:=fun z nm=>jB z k (x0 k nm off) >>= fun x=>aX z [if k=4 then[125] else[59]] >>= fun _=>pure x) (f':=fun z nm=>jB z k (x0 k nm off') >>= fun x=>aX z [if k=4 then[125] else[59]] >>= fun _=>pure x) (zX eQ) fun nm nm' hn=>?_;subst hn;exact xR (f:=fun z x=>aX z [if k=4 then[125] else[59]] >>= fun _=>pure x) (f':=fun z x=>aX z [if k=4 then[125] else[59]] >>= fun _=>pure x) (aB0 (itQ_x0 h k nm) k) fun x y hxy=>firm_need _ hxy
theorem item_firm [hq:QT Q] {z:Nat}{ts:List Tok}{x:It}{r:List Tok}(htw:LW ts)(h:hG z ts=.ok (x,r)) :
  ∃ p,p≠[]∧ts=p++r∧∀ z' p' r',TWs p'→TWs r'→TE Q p p'→∃ x',hG z' (p'++r')=.ok (x',r')∧zL Q x x':=by
 cases ts with
 | nil=>rw[pS]at h;cases h
 | cons t q =>
  rw[qM]at h
  obtain⟨n,hn⟩:=hq.tot t.off
  obtain⟨p,hne,e,_⟩:=aA1 (Q:=Q) hn z _ x r htw h
  refine⟨p,hne,e,fun z' p' r' a1 a2 a3=>?_⟩
  have hh:HE Q (t::q) (p'++r'):=by rw[e];exact he_of_ne a3 hne
  obtain⟨t',q',e',ht⟩:=hh.cons_left
  obtain⟨p1,_,e1,k⟩:=aA1 (Q:=Q) ht.2.2.2 z _ x r htw h
  have:p1=p:=aEI (e1.symm.trans e)
  subst this
  obtain⟨x',ex,rx⟩:=k z' p' r' a1 a2 a3
  refine⟨x',?_,rx⟩
  rw[e',qM,← e']
  exact ex
theorem item_err [hq:QT Q] {z:Nat}{ts:List Tok}{e:Int}{o:Nat}(htw:LW ts)(h:hG z ts=.error (e,o)) :
  (e=7∧o=z∧∀ z' ts',TWs ts'→TE Q ts ts'→hG z' ts'=.error (7,z')) ∨
  (e≠7∧∃ p t r,ts=p++t::r∧o=t.off∧∀ z' p' t' r',TWs p'→TW t'→TWs r'→TE Q p p'→aAk Q t t'→hG z' (p'++t'::r')=.error (e,t'.off)):=by
 cases ts with
 | nil =>
  rw[pS]at h
  injection h with h
  injection h with h1 h2
  exact .inl ⟨h1.symm,h2.symm,fun z' ts' _ ht=>by cases ht;rfl⟩
 | cons t q =>
  rw[qM]at h
  obtain⟨n,hn⟩:=hq.tot t.off
  rcases(xB (Q:=Q) hn).err z _ e o htw h with ⟨he,ho,_⟩|⟨he,p,t1,r,e1,ho,_⟩
  ·refine .inl ⟨he,ho,fun z' ts' a1 a2=>?_⟩
   obtain⟨t',q',rfl,ht⟩:=a2.he.cons_left
   rcases(xB (Q:=Q) ht.2.2.2).err z _ e o htw h with ⟨_,_,k⟩|⟨he',_⟩
   ·rw[qM]
    exact k z' _ a1 a2
   ·exact absurd he he'
  ·refine .inr ⟨he,p,t1,r,e1,ho,fun z' p' t' r' a1 a2 a3 a4 a5=>?_⟩
   have hh:HE Q (t::q) (p'++t'::r'):=by rw[e1];exact HE.append a4 (HE.cons a5)
   obtain⟨t2,q',e',ht⟩:=hh.cons_left
   rcases(xB (Q:=Q) ht.2.2.2).err z _ e o htw h with ⟨he',_⟩|⟨_,p3,t3,r3,e3,ho3,k⟩
   ·exact absurd he' he
   ·obtain⟨rfl,rfl,rfl⟩:=(e1▸htw:LW (p++t1::r)).same (e1.symm.trans e3) (ho.symm.trans ho3)
    have:=k z' p' t' r' a1 a2 a3 a4 a5
    rw[e',qM,← e']
    exact this
inductive Its (z : Nat) : List Tok → List It → Prop
 | nil:Its z [] []
 | cons {ts r:List Tok} {x:It} {xs:List It}:hG z ts=.ok (x,r)→Its z r xs→Its z ts (x::xs)
theorem aAU (z:Nat):∀(f:Nat)(acc:List It)(ts:List Tok)(l:List It),ts.length<f→acc.length≤200→(jT z f acc ts=.ok l↔∃ xs,l=acc++xs∧Its z ts xs∧acc.length+xs.length≤200)
 | 0,_,_,_,h,_=>absurd h (Nat.not_lt_zero _)
 | f+1,acc,[],l,_,ha=>by
  constructor
  ·intro h;cases h;exact⟨[],by simp,.nil,by simpa using ha⟩
  ·rintro⟨xs,rfl,hi,_⟩
   cases hi with
   | nil=>rw[jT,aEb]
   | cons h _=>rw[pS]at h;cases h
 | f+1,acc,t::q,l,hl,ha=>by
  by_cases hfull:acc.length=200
  ·rw[zC hfull]
   constructor
   ·intro h;cases h
   ·rintro⟨xs,_,hi,hle⟩
    cases hi with
    | cons _ _=>simp at hle;omega
  ·cases hp:hG z (t::q) with
   | error e =>
    rw[aAV hfull hp]
    constructor
    ·intro h;cases h
    ·rintro⟨xs,_,hi,_⟩
     cases hi with
     | cons h _=>rw[hp]at h;cases h
   | ok y =>
    obtain⟨x,r⟩:=y
    have hlt:=aAW hp
    simp only[aEa]at hl hlt
    rw[aCe hfull hp,aAU z f (acc++[x]) r l (by omega) (by simp;omega)]
    constructor
    ·rintro⟨xs,rfl,hi,hle⟩
     exact⟨x::xs,by simp,.cons hp hi,by simp at hle ⊢;omega⟩
    ·rintro⟨xs,rfl,hi,hle⟩
     cases hi with
     | @cons _ r' x' xs' h hi =>
      rw[hp]at h
      cases h
      exact⟨xs',by simp,hi,by simp at hle ⊢;omega⟩
theorem wZ {s:aBs}{ts:List Tok}{l:List It}(h:rF s=.ok ts):jS s=.ok l↔Its s.length ts l∧l.length≤200:=by
 unfold jS
 rw[h]
 simp only
 rw[aAU _ _ _ _ _ (Nat.lt_succ_self _) (by simp)]
 constructor
 ·rintro⟨xs,rfl,hi,hle⟩;simp at hle ⊢;exact⟨hi,hle⟩
 ·rintro⟨hi,hle⟩;exact⟨l,rfl,hi,by simpa using hle⟩
end
theorem lexGo_ok_R:∀(f:Nat)(l:aBs)(i k:Nat)(ts:List Tok),l.length≤f→gZ f l i k=.ok ts→LexR l i (.ok ts)
 | 0,l,i,k,ts,hl,h=>by
  obtain rfl:l=[]:=aEx (by omega);cases h;exact .nil i
 | f+1,l,i,k,ts,hf,h=>by
  cases l with
  | nil=>rw[xK]at h;cases h;exact .nil i
  | cons c r =>
   rw[gZ]at h
   cases hR:eA (c::r) with
   | none=>exact absurd hR (aAx _)
   | err e=>rw[hR]at h;cases h
   | tok kd x n len =>
    obtain⟨h1,h2⟩:=kQ hR
    rw[hR]at h
    simp only at h;by_cases hk:k=5000
    ·rw[if_pos hk]at h;cases h
    ·rw[if_neg hk]at h
     have hd:((c::r).drop (len+cL false ((c::r).drop len)))=((c::r).drop len).drop (cL false ((c::r).drop len)):=by rw[aEJ]
     have hi:i+(len+cL false ((c::r).drop len))=i+len+cL false ((c::r).drop len):=by omega
     rw[hd,hi]at h
     cases hg:gZ f (((c::r).drop len).drop (cL false ((c::r).drop len))) (i+len+cL false ((c::r).drop len)) (k+1) with
     | error e=>rw[hg]at h;cases h
     | ok us =>
      rw[hg]at h
      cases h
      have ih:=lexGo_ok_R f (((c::r).drop len).drop (cL false ((c::r).drop len))) _ _ us (by simp at hf h2 ⊢;omega) hg;exact LexR.tok (i:=i) (by simp) hR ih
theorem lexGo_of_R:∀(f:Nat)(l:aBs)(i k:Nat)(ts:List Tok),l.length≤f→k+ts.length≤5000→LexR l i (.ok ts)→gZ f l i k=.ok ts:=by
 intro f l i k ts hf hk h;generalize hr:(Except.ok ts:Except (Int×Nat) (List Tok))=r at h
 induction h generalizing f k ts with
 | nil i=>rw[xK]
 | err _ _=>cases hr
 | @tok l i kd n x len r' hl hR hrest ih =>
  obtain⟨h1,h2⟩:=kQ hR
  cases r' with
  | error e=>cases hr
  | ok us =>
   cases hr
   cases l with
   | nil=>exact absurd rfl hl
   | cons c r =>
    cases f with
    | zero=>simp at hf
    | succ f =>
     simp only[aEa]at hk
     rw[gZ,hR]
     simp only
     rw[if_neg (by omega)]
     have hd:((c::r).drop (len+cL false ((c::r).drop len)))=((c::r).drop len).drop (cL false ((c::r).drop len)):=by rw[aEJ]
     have hi:i+(len+cL false ((c::r).drop len))=i+len+cL false ((c::r).drop len):=by omega
     rw[hd,hi,ih f (k+1) us (by simp at hf h2 ⊢;omega) (by omega) rfl]
     rfl
theorem lexM_of {t:aBs}{ts:List Tok}(hl:ts.length≤5000)(h:fY t 0 (.ok ts)):rF t=.ok ts:=by
 unfold rF;unfold fY at h
 rw[aEo]at h
 exact lexGo_of_R _ _ _ _ _ (by rw[aEE];omega) (by omega) h
theorem readR_tw {l:aBs}{n:Int}{x:aBs}{len:Nat}(h:eA l=.tok 4 x n len):∀ c,x[0]?=some c→cV c=false:=by
 cases l with
 | nil=>cases h
 | cons c r =>
  obtain⟨h1,_⟩:=kQ h
  have hx:=readR_text h (by decide);cases hlet:cV c with
  | true =>
   rw[iC hlet]at h
   split at h<;>cases h
  | false =>
   intro d hd
   rw[hx]at hd
   cases len with
   | zero=>omega
   | succ len =>
    simp only[aEF,lgZ,Option.some.injEq]at hd
    subst hd;exact hlet
theorem fY.wf:∀(n:Nat)(l:aBs)(i:Nat)(ts:List Tok),l.length≤n→fY l i (.ok ts)→LW ts∧(∀ x∈ts,i≤x.off∧x.off<i+l.length)∧ts.length≤l.length:=by
 intro n
 induction n with
 | zero =>
  intro l i ts hn h;obtain rfl:l=[]:=aEx (by omega)
  rcases h.inv_ok with ⟨rfl,_⟩|⟨_,_,_,_,_,_,hlt,_⟩
  ·exact⟨LW.nil,(fun _ h=>by cases h),by simp⟩
  ·simp at hlt
 | succ n ih =>
  intro l i ts hn h
  rcases h.inv_ok with ⟨rfl,_⟩|⟨k,x,m,len,us,hR,hlt,rfl,hrest⟩
  ·exact⟨LW.nil,(fun _ h=>by cases h),by simp⟩
  ·obtain⟨h1,h2⟩:=kQ hR
   rw[aEE]at h2
   obtain⟨⟨w1,w2⟩,b,c⟩:=ih (l.drop (cL false l+len)) (i+cL false l+len) us (by rw[aEE];omega) hrest
   rw[aEE]at b c
   refine⟨⟨fun y hy=>?_,aEP.2 ⟨fun y hy=>?_,w2⟩⟩,fun y hy=>?_,by simp;omega⟩
   ·rcases aEg.1 hy with rfl|hy
    ·intro hk
     simp only at hk;subst hk;exact readR_tw hR
    ·exact w1 y hy
   ·have:=b y hy
    simp only
    omega
   ·rcases aEg.1 hy with rfl|hy
    ·simp only;omega
    ·have:=b y hy;omega
def spc (c:UInt8):Bool:=decide (c=34∨c=92∨c=10)
def uN (c:UInt8):aBs:=if c=34 then[92,34] else if c=92 then[92,92] else if c=10 then[92,110] else[c]
def fM (s:aBs):aBs:=s.flatMap uN
def nS (s:aBs):Nat:=s.countP spc
theorem aA8 (c:UInt8):(uN c).length=1+(if spc c=true then 1 else 0):=by
 unfold uN spc;by_cases h1:c=34
 ·rw[if_pos h1,if_pos (by simp[h1])];rfl
 ·by_cases h2:c=92
  ·rw[if_neg h1,if_pos h2,if_pos (by simp[h2])];rfl
  ·by_cases h3:c=10
   ·rw[if_neg h1,if_neg h2,if_pos h3,if_pos (by simp[h3])];rfl
   ·rw[if_neg h1,if_neg h2,if_neg h3,if_neg (by simp[h1,h2,h3])];rfl
theorem qS {c:UInt8}(h:spc c=false):uN c=[c]:=by
 unfold spc at h
 have:=of_decide_eq_false h
 unfold uN
 rw[if_neg (fun e=>this (.inl e)),if_neg (fun e=>this (.inr (.inl e))),if_neg (fun e=>this (.inr (.inr e)))]
theorem aA7:∀(s:aBs),(fM s).length=s.length+nS s
 | []=>rfl
 | c::s=>by
  have ih:=aA7 s;unfold fM nS at ih ⊢
  rw[aEj,aD9,ih,aA8,List.countP_cons]
  simp
  omega
theorem escS_take {s:aBs}{i:Nat}{c:UInt8}(h:s[i]?=some c):fM (s.take (i+1))=fM (s.take i)++uN c:=by
 unfold fM
 rw[aEN,h,aEG]
 simp
theorem wB (s:aBs)(i:Nat):(fM (s.take i)).length≤(fM s).length:=by
 conv=>rhs;rw[← List.take_append_drop i s]
 unfold fM
 rw[aEG,aD9]
 omega
theorem escS_le (s:aBs):(fM s).length≤2*s.length:=by
 have h1:=aA7 s;have h2:nS s≤s.length:=List.countP_le_length
 omega
theorem quoF_34 (w acc:aBs)(m:Nat):eH (34::w) acc m=if 200<acc.length then .err 3 else .tok 3 acc 0 (m+2):=by
 cases w with
 | nil=>rw[eH,if_pos (by decide)]
 | cons d r=>rw[eH,if_pos (by decide)]
theorem pN:∀(s w acc:aBs)(m:Nat),acc.length+s.length≤200→eH (fM s++34::w) acc m=.tok 3 (acc++s) 0 (m+(fM s).length+2)
 | [],w,acc,m,h=>by
  show eH (34::w) acc m=_
  rw[quoF_34,if_neg (by simp at h;omega)]
  simp[fM]
 | c::s,w,acc,m,h=>by
  have e:fM (c::s)=uN c++fM s:=by simp[fM]
  have hh:(acc++[c]).length+s.length≤200:=by simp at h ⊢;omega
  rw[e]
  unfold uN;by_cases h34:c=34
  ·subst h34
   rw[if_pos rfl]
   show eH (92::34::(fM s++34::w)) acc m=_
   rw[eH,if_neg (by decide),if_neg (by decide),if_pos (by decide),show zT 34=some 34 from rfl]
   simp only
   rw[pN s w _ _ hh]
   simp;omega
  ·rw[if_neg h34]
   by_cases h92:c=92
   ·subst h92
    rw[if_pos rfl]
    show eH (92::92::(fM s++34::w)) acc m=_
    rw[eH,if_neg (by decide),if_neg (by decide),if_pos (by decide),show zT 92=some 92 from rfl]
    simp only
    rw[pN s w _ _ hh]
    simp;omega
   ·rw[if_neg h92]
    by_cases h10:c=10
    ·subst h10
     rw[if_pos rfl]
     show eH (92::110::(fM s++34::w)) acc m=_
     rw[eH,if_neg (by decide),if_neg (by decide),if_pos (by decide),show zT 110=some 10 from rfl]
     simp only
     rw[pN s w _ _ hh]
     simp;omega
    ·rw[if_neg h10]
     have toN:∀ {a b:UInt8},a≠b→a.toNat≠b.toNat:=fun h e=>h (UInt8.toNat_inj.1 e);have n34:c.toNat≠34:=toN h34;have n10:c.toNat≠10:=toN h10;have n92:c.toNat≠92:=toN h92;have ih:=pN s w (acc++[c]) (m+1) hh;have step:eH (c::(fM s++34::w)) acc m=eH (fM s++34::w) (acc++[c]) (m+1):=by
      cases hr:fM s++34::w with
      | nil=>simp at hr
      | cons d r=>rw[eH,if_neg n34,if_neg n10,if_neg n92]
     show eH (c::(fM s++34::w)) acc m=_
     rw[step,ih]
     simp;omega
theorem readR_escS (s w:aBs)(h:s.length≤200):eA (34::(fM s++34::w))=.tok 3 s 0 ((fM s).length+2):=by
 rw[kP (by decide) (by decide) (by decide),pN s w [] 0 (by simpa using h)]
 simp
theorem qE:∀(l acc:aBs)(m:Nat) {k n:Int}{x:aBs}{len:Nat},eH l acc m=.tok k x n len→(fM acc).length=m→(fM x).length+2=len∧x.length≤200
 | [],_,_,_,_,_,_,h,_=>by cases h
 | [c],acc,m,_,_,_,_,h,he=>by
  rw[eH]at h
  split at h
  ·split at h<;>cases h
   exact⟨by omega,by omega⟩
  ·split at h<;>cases h
 | c::d::r,acc,m,_,_,_,_,h,he=>by
  rw[eH]at h
  split at h
  ·split at h<;>cases h
   exact⟨by omega,by omega⟩
  ·rename_i h34
   split at h
   ·cases h
   ·rename_i h10
    split at h
    ·split at h
     ·cases h
     ·rename_i y hy
      refine qE r _ _ h ?_
      have:spc y=true:=by
       unfold zT at hy;split at hy
       ·cases hy;rfl
       ·split at hy
        ·cases hy;rfl
        ·split at hy<;>cases hy
         rfl
      have h2:=aA8 y
      rw[this]at h2
      have e:fM (acc++[y])=fM acc++uN y:=by simp[fM]
      rw[e,aD9,he,h2]
      rfl
    ·rename_i h92
     refine qE (d::r) _ _ h ?_;have hs:spc c=false:=by
      unfold spc;refine decide_eq_false ?_
      rintro(rfl|rfl|rfl)
      ·exact h34 rfl
      ·exact h92 rfl
      ·exact h10 rfl
     have e:fM (acc++[c])=fM acc++uN c:=by simp[fM]
     rw[e,aD9,he,qS hs]
     rfl
def wr (x:Tok):aBs:=if x.kind=3 then[34]++fM x.text++[34] else x.text
theorem fY.blank {l:aBs}{i:Nat}{r:Except (Int×Nat) (List Tok)}(h:fY l (i+1) r):fY (32::l) i r:=by
 unfold fY at h ⊢
 rw[gapF_blank,Nat.add_comm 1,List.drop_succ_cons]
 rwa [show i+1+cL false l=i+(cL false l+1) by omega]at h
theorem fY.first {l:aBs}{i:Nat}{k n:Int}{x:aBs}{len:Nat}{r:Except (Int×Nat) (List Tok)}(hR:eA l=.tok k x n len)(hr:fY (l.drop len) (i+len) r):fY l i (consE ⟨k,x,n,i⟩ r):=by
 have h0:=tok_gap hR
 obtain⟨h1,h2⟩:=kQ hR
 have st:=fY.step (l:=l) (i:=i) (by rw[h0];omega) (by rw[h0,List.drop_zero];exact hR) (by rw[h0,aEo,aEU];exact hr)
 rw[h0]at st
 exact st
structure Pc where
 b:aBs
 t:Tok
def gE (p:Pc):aBs:=p.b++wr p.t
def bK (l:List Pc):aBs:=l.flatMap gE
def aZ (l:List Pc):List Tok:=l.map (·.t)
def aL (b s:aBs):Pc:=⟨b,⟨4,s,0,0⟩⟩
def aD (b s:aBs):Pc:=⟨b,⟨1,s,0,0⟩⟩
def bU (b:aBs)(n:Int):Pc:=⟨b,⟨2,Lib.itoa n,n,0⟩⟩
def txtT (b s:aBs):Pc:=⟨b,⟨3,s,0,0⟩⟩
def dJ:aBs→Bool
 | []=>false
 | c::r=>decide ((c::r).length≤24)&&cV c&&r.all cF
def jC (n:Int):Bool:=decide (0≤n∧n≤9999999999)
def bB (b s:aBs):Option (List Pc):=if dJ s=true then some [aD b s] else none
def iD (b:aBs)(n:Int):Option (List Pc):=if jC n=true then some [bU b n] else none
def fZ (n:Int)(ws:List aBs):Option (List Pc):=if 1≤n∧n≤ws.length then some [aD [32] (ws.getD (n - 1).toNat [])] else none
def opQ (n:Int):Option (List Pc):=if 1≤n∧n≤4 then some [aL [32] (([[61],[33,61],[60],[60,61]]:List aBs).getD (n - 1).toNat [])] else none
def aG:List (Option (List Pc))→Option (List Pc)
 | []=>some []
 | none::_=>none
 | some x::r=>(aG r).map (x++·)
def gV {α:Type}(one:aBs→α→Option (List Pc))(before:aBs):List α→Option (List Pc)
 | []=>some []
 | x::r=>aG (one before x::r.map fun y=>(one [32] y).map (aL [] [44]::·))
def dG {α:Type}(one:aBs→α→Option (List Pc))(before:aBs)(l:List α):Option (List Pc):=match l with
 | []=>none
 | _=>gV one before l
def bT (v:Vl):Option (List Pc) :=
 if v.k=0 then(if v.n=0∧v.t=[] then some [aD [32] [110,117,108,108]] else none)
 else if v.k=1 then(if v.n=0∧v.t.length≤200 then some [txtT [32] v.t] else none)
 else if v.k=2 then(if v.t=[]∧-9999999999≤v.n∧v.n≤9999999999 then some (if v.n<0 then[aL [32] [45],bU [] (-v.n)] else[bU [32] v.n]) else none)
 else if v.k=3 then(if v.t=[]∧jC v.n=true then some [aL [32] [64],bU [] v.n] else none)
 else if v.k=4 then(if v.t=[]∧(v.n=0∨v.n=1) then some [aD [32] (if v.n=0 then[102,97,108,115,101] else[116,114,117,101])] else none)
 else none
def eB (t a:aBs):Option (List Pc):=aG [bB [32] t,some [aL [] [46]],bB [] a]
def reserved (s:aBs):Bool:=decide (s=[116,114,117,101]∨s=[102,97,108,115,101]∨s=[110,117,108,108])
def gB (x:Opd):Option (List Pc) :=
 if x.con=true then(if x.var=[]∧x.attr=[] then bT x.val else none)
 else if ¬ (x.val.k=0∧x.val.n=0∧x.val.t=[]) then none
 else if x.var=[] then(if reserved x.attr=true then none else bB [32] x.attr)
 else if reserved x.var=true then none else eB x.var x.attr
def tS (n:Int):Option (List Pc) :=
 if ¬ (-9999999999≤n∧n≤9999999999) then none
 else if 0<n then some [aL [32] [43],bU [32] n]
 else if n<0 then some [aL [32] [45],bU [32] (-n)]
 else some []
def qA (x:Cnd):Option (List Pc):=aG [gB x.left,opQ x.op,gB x.right,tS x.add]
def lE:List Cnd→Option (List Pc)
 | []=>none
 | x::r=>aG (some [aD [32] [119,104,101,114,101]]::qA x::r.map fun y=>(qA y).map (aD [32] [97,110,100]::·))
def fU (k:Int):Nat:=if k=1 then 0 else if k=4∨k=5∨k=6 then 2 else 1
def fC (k:Int)(tb:aBs)(cs:List Cnd)(ns:List aBs)(a as_:aBs)(g:Int):Bool :=
 decide ((k=1∨tb=[])∧(k=2∨cs=[])∧(k=3∨k=8∨ns=[])∧(k=7∨k=8∨a=[])∧(k=7∨k=8∨as_=[])∧(k=8∨g=0))
def aBJ:List aBs→Bool
 | []=>true
 | s::_=>decide (s≠[119,105,116,104])
def dZ (k:Int)(cs:List Cnd)(ns:List aBs)(a as_:aBs)(g:Int):Option (List Pc) :=
 if k=2 then lE cs
 else if k=3 then aG [some [aD [32] [111,110]],gV bB [32] ns]
 else if k=7 then aG [some [aL [] [44]],bB [32] a,some [aD [32] [97,115]],bB [32] as_]
 else if k=8 then(if aBJ ns=true then aG [some [aD [32] [111,110]],gV bB [32] ns,some [aD [32] [119,105,116,104]],fZ g [[99,111,117,110,116],[115,117,109],[108,101,97,115,116],[103,114,101,97,116,101,115,116]],
  (if g=1 then(if a=[] then some [] else none) else bB [32] a),some [aD [32] [97,115]],bB [32] as_] else none)
 else some []
mutual
def gM (before:aBs):Ex→Option (List Pc)
 | .mk k tb ks cs ns a as_ g _ =>
  if 1≤k∧k≤8∧ks.length=fU k∧fC k tb cs ns a as_ g=true then
   if k=1 then bB before tb
   else aG [some [aD before (cJ.getD (k - 2).toNat []),aL [] [40]],iK [] ks,dZ k cs ns a as_ g,some [aL [] [41]]]
  else none
def iK (before:aBs):List Ex→Option (List Pc)
 | []=>some []
 | x::r=>match gM before x,iK [32] r with
  | some p,some q=>some (p++(if r.isEmpty then[] else[aL [] [44]])++q)
  | _,_=>none
end
mutual
def bZ:Ex→Nat
 | .mk _ _ ks _ _ _ _ _ _=>cC ks+1
def cC:List Ex→Nat
 | []=>0
 | x::r=>max (bZ x) (cC r)
end
def mV (before:aBs)(c:Col):Option (List Pc):=aG [bB before c.name,fZ c.kind [[116,101,120,116],[110,117,109,98,101,114],[100,97,121],[102,108,97,103]],
 (if c.dflt.k=0∧c.dflt.n=0∧c.dflt.t=[] then some [] else(bT c.dflt).map (aL [32] [61]::·))]
def bG (t:Trm):Option (List Pc):=aG [bB [10,32,32] t.attr,fZ t.measure [[101,113,117,97,108],[101,100,105,116],[106,97,99,99,97,114,100],[106,97,114,111],[110,101,97,114]],
 (if t.measure=5 then iD [32] t.tol else if t.tol=0 then some [] else none),some [aD [32] [108,101,97,115,116]],iD [32] t.num,
 (if t.den=1 then some [] else(iD [] t.den).map (aL [] [47]::·)),some [aD [32] [103,105,118,101,115]],iD [32] t.gives,
 (if t.takes=0 then some [] else(iD [32] t.takes).map (aD [32] [116,97,107,101,115]::·)),some [aL [] [59]]]
def uM (f:Nmd):Option (List Pc):=aG [bB [32] f.name,some [aL [32] [61]],bT f.val]
def uL:List Nmd→Option (List Pc)
 | []=>some []
 | x::r=>aG (some [aD [32] [119,104,101,114,101]]::uM x::r.map fun y=>(uM y).map (aL [] [44]::·))
def rJ (v:Vr):Option (List Pc):=aG [bB [32] v.table,bB [32] v.name]
def fN (x:It):Bool:=decide ((x.kind=5→x.name=[])∧(x.kind=3∨x.kind=4∨x.kind=5∨x.kind=6∨x.kind=7∨x.kind=8∨x.table=[])∧(x.kind=3∨x.kind=5∨x.kind=7∨x.kind=8∨x.attr=[])∧(x.kind=1∨x.cols.length=0)
 ∧ (x.kind=1∨x.kind=6∨x.kind=7∨x.names=[])∧(x.kind=3∨x.kind=5∨x.by_=0)∧(x.kind=2∨x.kind=4∨(x.kind=3∧3≤x.by_)∨x.n=0)∧((x.kind=3∧x.by_=4)∨x.m=0)∧(x.kind=4∨x.terms.length=0)
 ∧ (x.kind=8∨x.other=[])∧(x.kind=8∨x.oattr=[])∧(x.kind=7∨x.fixed.length=0)∧(x.kind=9∨x.vars.length=0)∧(x.kind=9∨x.conds.length=0))
def gR:Ex→Bool
 | .mk k tb ks cs ns a as_ g _=>decide (k=0∧tb=[]∧ks.length=0∧cs.length=0∧ns=[]∧a=[]∧as_=[]∧g=0)
def dV (x:It):Option (List Pc) :=
 if x.kind=1 then aG [some [aL [] [40]],dG mV [] x.cols,some [aL [] [41],aD [32] [107,101,121]],dG bB [32] x.names]
 else if x.kind=2 then aG [some [aD [32] [116,114,117,115,116]],iD [32] x.n]
 else if x.kind=3 then aG [some [aD [32] [111,110]],eB x.table x.attr,some [aD [32] [98,121]],fZ x.by_ [[101,120,97,99,116],[116,111,107,101,110],[112,114,101,102,105,120],[115,107,101,116,99,104]],(if 3≤x.by_ then iD [32] x.n else some []),(if x.by_=4 then iD [32] x.m else some [])]
 else if x.kind=4 then aG ([some [aD [32] [111,110]],bB [32] x.table,some [aD [32] [97,116]],iD [32] x.n,some [aL [32] [123]]]++x.terms.map bG)
 else if x.kind=5 then aG [eB x.table x.attr,some [aD [32] [98,121]],fZ x.by_ [[108,97,116,101,115,116],[109,111,115,116],[116,114,117,115,116,101,100],[108,111,110,103,101,115,116],[108,101,97,115,116],[103,114,101,97,116,101,115,116]]]
 else if x.kind=6 then aG [some [aD [32] [111,110]],bB [32] x.table,some [aL [] [40]],dG bB [] x.names,some [aL [] [41]]]
 else if x.kind=7 then aG [some [aD [32] [111,110]],bB [32] x.table,some [aL [] [40]],dG bB [] x.names,some [aL [] [41],aD [32] [116,111]],bB [32] x.attr,uL x.fixed]
 else if x.kind=8 then aG [eB x.table x.attr,some [aD [32] [105,110]],eB x.other x.oattr]
 else if x.kind=9 then aG [dG (fun _=>rJ) [] x.vars,lE x.conds]
 else aG [some [aL [32] [61]],gM [32] x.expr]
def gW (x:It):Option (List Pc) :=
 if 1≤x.kind∧x.kind≤10∧fN x=true∧(x.kind=10∨gR x.expr=true) then
  aG [some [aD [] (eF.getD (x.kind - 1).toNat [])],(if x.kind=5 then some [] else bB [32] x.name),dV x,some [if x.kind=4 then aL [10] [125] else aL [] [59]]]
 else none
def eT (xs:List It):Option (List (List Pc)):=xs.mapM gW
def gY (l:List Pc):aBs:=bK l++[10]
def lL (ls:List (List Pc)):aBs:=ls.flatMap gY
def oJ (ls:List (List Pc)):Nat:=ls.flatten.length
def gC (x:It):Bool:=decide (x.kind=10→bZ x.expr≤12)
def dU (xs:List It):aBs×Int:=match eT xs with
 | none=>([],1)
 | some ls=>if xs.all gC=true∧xs.length≤200∧oJ ls≤5000∧(lL ls).length≤20000 then(lL ls,0) else([],3)
section
variable {P : Program} {ty : TypeId} {s : aVs} {h0 : Base} {h : Heap} {L : List Item} {K : KK} {Q : QQ}
theorem RunVC.nePP {t t' e:TypeId}{x y:Operand}{a:Addr}(hS:P.underlying t=some (.pointer e))(hi:(P.info? e).isSome=true)(hx:ev s x=.pointer (some a))(hy:ev s y=.pointer (some a))(hk:K (.bool false) false h):RunVC P (.binOp .neq t x y t') ty s h K Q:=by
 obtain⟨j,hj⟩:=aEQ.1 hi
 refine .pure' _ false (fun w=>?_) hk
 have:=Lib.run_neq_ptr_same w a hS hj
 simp[execOp,hx,hy,eqGuard_at_pointer,this]
theorem RunVC.fromUnsafe {src dst u:TypeId}{x:Operand}{a:Addr}{b:Nat}{cs:aVs}{t:TypeId}(o:Own h0 L h)(k:Nat)(hk:L[k]?=some (box b cs t))(hs:P.underlying src=some .unsafePointer)(hd:P.underlying dst=some (.pointer u))(hu:(P.info? u).isSome=true)
  (hx:ev s x=.pointer (some a)) (hb:a.block=b) (hlies:liesAt P P.depth t (cs.length / P.cellsOf t) a.off u 1=true) (hK:K (.pointer (some a)) false h):RunVC P (.convert src dst x) ty s h K Q:=by
 obtain⟨j,hj⟩:=aEQ.1 hu
 subst hb;refine .of fun w hw=>⟨_,false,w,?_,.refl w,by rw[hw];exact hK⟩;subst hw;have hbk:=o.boxBlk k hk;have hsh:w.shape? a.block=some (t,cs.length):=by simp[World.shape?,hbk]
 have:=Lib.run_from_unsafe w a hs hd hj hsh hlies
 simp[execOp,hx,this]
end
theorem XSpec.noEscape {P:Program}{f:FuncId}{fn:Func}{h:Heap}(hf:P.funcs[f]?=some fn)(hname:(fn.name == "runtime.NumGoroutine")=false)(hb:fn.body.isNone=true)(hn:Extern.findNext fn=none)
  (he:Extern.find fn=some Extern.AbiNoEscape.same) (x:Value):XSpec P f [x] h (Ret fun v h'=>v=x∧h'=h) :=
 fun w hw=>⟨_,w,by rw[run_callFunc_extern hf hname hb hn he];simp[Lib.run_noEscape],.refl w,rfl,hw⟩
abbrev wSt (b:Nat)(p v:Value)(k:Int)(bs:aBs):List Item:=[box b [p,v,.int .i64 k] 58,row v 5 1 bs.length (bytes bs)]
theorem rA (b:Nat)(v:Value)(k:Int)(h:Heap)(L:List Item)(h0:Base)(o0:Own h0 (box b [.pointer (some ⟨b,0,none⟩),v,.int .i64 k] 58::L) h) :
  cK Tryz.prog 80 [.pointer (some ⟨b,0,none⟩)] h fun r h'=>Own h0 (box b [.pointer (some ⟨b,0,none⟩),v,.int .i64 k] 58::L) h':=by
 refine aDX Tryz.func80 rfl Tryz.ntmps80 (by kernel_rfl) ?_;refine rR (nC rfl ?_);refine rR (fA wN rfl rfl rfl ?_);refine rR (aDe o0 0 rfl ty51 rfl rfl ?_);refine RunVC.eqP (by kernel_rfl) rfl rfl ?_;refine aDT ?_;refine rR (nC rfl ?_);refine rR (fA wN rfl rfl rfl ?_);refine rR (aDe o0 0 rfl ty51 rfl rfl ?_);refine RunVC.nePP (e:=54) (by kernel_rfl) (by kernel_rfl) rfl rfl ?_;refine aDT ?_;refine aD0 rfl ?_;exact o0
theorem rB (b:Nat)(v:Value)(k:Int)(h:Heap)(L:List Item)(h0:Base)(o0:Own h0 (box b [.pointer none,v,.int .i64 k] 58::L) h) :
  cK Tryz.prog 80 [.pointer (some ⟨b,0,none⟩)] h fun r h'=>Own h0 (box b [.pointer (some ⟨b,0,none⟩),v,.int .i64 k] 58::L) h':=by
 refine aDX Tryz.func80 rfl Tryz.ntmps80 (by kernel_rfl) ?_;refine rR (nC rfl ?_);refine rR (fA wN rfl rfl rfl ?_);refine rR (aDe o0 0 rfl ty51 rfl rfl ?_);refine RunVC.eqP (by kernel_rfl) rfl rfl ?_;refine aDS ?_;refine rR (toUnsafe (e:=54) (by kernel_rfl) (by kernel_rfl) (by kernel_rfl) rfl ((o0.cellB 0 rfl _).trans rfl) ?_);refine CallVC.ext (XSpec.noEscape Tryz.func129 (by kernel_rfl) (by kernel_rfl) (by kernel_rfl) (by kernel_rfl) _) ?_;rintro _ h1 ⟨rfl,rfl⟩;refine RunVC.fromUnsafe o0 0 rfl (by kernel_rfl) (u:=54) (by kernel_rfl) (by kernel_rfl) rfl rfl (by kernel_rfl) ?_;refine rR (nC rfl ?_);refine rR (fA wN rfl rfl rfl ?_);(refine aDN o0 0 rfl ty51 rfl (by simp) (aI ⟨rfl,rfl⟩ ?_);intro m62 o62);refine aD0 rfl ?_;exact o62
abbrev cW (b:Nat)(p:Value):Prop:=p=.pointer none∨p=.pointer (some ⟨b,0,none⟩)
theorem qC (b:Nat)(p v:Value)(k:Int)(bs:aBs)(c:UInt8)(h:Heap)(h0:Base)(hp:cW b p)(o0:Own h0 [box b [p,v,.int .i64 k] 58,row v 5 1 bs.length (bytes bs)] h)(hn:bs.length+1≤140000000000000) :
  cK Tryz.prog 36 [.pointer (some ⟨b,0,none⟩),.int .u8 c.toNat] h fun r h'=>r=.nilIface∧∃ v',Own h0 (wSt b (.pointer (some ⟨b,0,none⟩)) v' k (bs++[c])) h':=by
 refine aDX Tryz.func36 rfl Tryz.ntmps36 (by kernel_rfl) ?_;refine aDV (Post:=fun r h'=>Own h0 [box b [.pointer (some ⟨b,0,none⟩),v,.int .i64 k] 58,row v 5 1 bs.length (bytes bs)] h') ?_ ?_
 ·rcases hp with rfl|rfl
  ·exact rB b v k h _ h0 o0
  ·exact rA b v k h _ h0 o0
 intro r1 h1 o1;clear o0;refine rR (nC rfl ?_);refine rR (fA wN rfl rfl rfl ?_);refine rR (aDe o1 0 rfl mZ rfl rfl ?_);(refine aDO o1 gP ty5 rfl rfl (by decide) (aI rfl ?_);intro b83 m83 o83);(refine aDQ o83 1 rfl gP ty5 (by decide) (o83.boxArr 2 rfl (by simp) (by simp)).toN (by simp[Value.oneCell']) (by simp only[maxLen];first|omega|(simp;omega)) (by first|omega|(simp;omega)) ?_;intro v84 m84 o84);refine rR (nC rfl ?_);refine rR (fA wN rfl rfl rfl ?_)
 obtain⟨a,cc,rfl⟩:=o84.rowIs 1 rfl
 (refine aDN o84 0 rfl mZ rfl (by simp) (aI ⟨rfl,rfl⟩ ?_);intro m90 o90);refine aDZ rfl ?_
 refine⟨rfl,.slice a (bs.length+1) cc,?_⟩
 have hl:(bs++[c]).length=bs.length+1:=by simp
 show Own h0 [box b [.pointer (some ⟨b,0,none⟩),.slice a (bs.length+1) cc,.int .i64 k] 58,row (.slice a (bs.length+1) cc) 5 1 (bs++[c]).length (bytes (bs++[c]))] m90
 rw[show bytes (bs++[c])=bytes bs++[.int .u8 c.toNat] by simp,hl]
 exact o90.sel [0,1] rfl
theorem aCG (b:Nat)(p v:Value)(k:Int)(bs s:aBs)(h:Heap)(h0:Base)(hp:cW b p)(o0:Own h0 [box b [p,v,.int .i64 k] 58,row v 5 1 bs.length (bytes bs)] h)(hn:bs.length+s.length≤140000000000000) :
  cK Tryz.prog 69 [.pointer (some ⟨b,0,none⟩),.string ⟨⟨s⟩⟩] h fun r h'=>r=.tuple #[.int .i64 s.length,.nilIface]∧∃ v',Own h0 (wSt b (.pointer (some ⟨b,0,none⟩)) v' k (bs++s)) h':=by
 refine aDX Tryz.func69 rfl Tryz.ntmps69 (by kernel_rfl) ?_;refine aDV (Post:=fun r h'=>Own h0 [box b [.pointer (some ⟨b,0,none⟩),v,.int .i64 k] 58,row v 5 1 bs.length (bytes bs)] h') ?_ ?_
 ·rcases hp with rfl|rfl
  ·exact rB b v k h _ h0 o0
  ·exact rA b v k h _ h0 o0
 intro r1 h1 o1;clear o0;refine rR (nC rfl ?_);refine rR (fA wN rfl rfl rfl ?_);refine rR (aDe o1 0 rfl mZ rfl rfl ?_);(refine RunVC.appendS o1 1 rfl gP cX u8_5 rfl (by simp only[maxLen];first|omega|(simp;omega)) (by first|omega|(simp;omega)) ?_;intro v83 m83 o83);refine rR (nC rfl ?_);refine rR (fA wN rfl rfl rfl ?_)
 obtain⟨a,cc,rfl⟩:=o83.rowIs 1 rfl
 (refine aDN o83 0 rfl mZ rfl (by simp) (aI ⟨rfl,rfl⟩ ?_);intro m90 o90);refine rR (aDA rfl cX ?_);refine RetVC.two rfl ?_
 refine⟨rfl,.slice a (bs.length+s.length) cc,?_⟩
 have hl:(bs++s).length=bs.length+s.length:=by simp
 show Own h0 [box b [.pointer (some ⟨b,0,none⟩),.slice a (bs.length+s.length) cc,.int .i64 k] 58,row (.slice a (bs.length+s.length) cc) 5 1 (bs++s).length (bytes (bs++s))] m90
 rw[show bytes (bs++s)=bytes bs++bytes s by simp,hl]
 exact o90.sel [0,1] rfl
theorem wLen_spec (b:Nat)(p v:Value)(k:Int)(bs:aBs)(h:Heap)(h0:Base)(o0:Own h0 [box b [p,v,.int .i64 k] 58,row v 5 1 bs.length (bytes bs)] h) :
  cK Tryz.prog 20 [.pointer (some ⟨b,0,none⟩)] h fun r h'=>r=.int .i64 bs.length∧Own h [] h':=by
 refine aDX Tryz.func20 rfl Tryz.ntmps20 (by kernel_rfl) ?_;have oh:=Own.refl h
 obtain⟨a,cc,rfl⟩:=o0.rowIs 1 rfl
 refine rR (nC rfl ?_);refine rR (fA wN rfl rfl rfl ?_);refine rR (aDe o0 0 rfl mZ rfl rfl ?_);refine rR (aDn rfl gP ?_);refine aDZ rfl ?_
 exact⟨rfl,oh⟩
section
variable {P : Program} {ty : TypeId} {s : aVs} {h0 h : Heap} {L : List Item} {K : KK} {Q : QQ}
theorem RunVC.sliceData {t:TypeId}{x:Operand}{a:Addr}{n c:Nat}(hx:ev s x=.slice (some a) n c)(hc:c≠0)(hK:K (.pointer (some a)) false h):RunVC P (.call ⟨.builtin .unsafeSliceData,⟨[x]⟩,⟨[t]⟩⟩) ty s h K Q :=
 .pure' _ false (fun w=>by simp[execOp,resolve,invoke,builtin,hx,Lib.run_unsafeSliceData_row w _ _ a n c hc]) hK
theorem RunVC.sliceDataNil {t:TypeId}{x:Operand}{n c:Nat}(hx:ev s x=.slice none n c)(hK:K (.pointer none) false h):RunVC P (.call ⟨.builtin .unsafeSliceData,⟨[x]⟩,⟨[t]⟩⟩) ty s h K Q :=
 .pure' _ false (fun w=>by simp[execOp,resolve,invoke,builtin,hx,Lib.run_unsafeSliceData_nil]) hK
theorem RunVC.unsafeStrNil {pt it:TypeId}{x y:Operand}{p:Option Addr}(hx:ev s x=.pointer p)(hy:ev s y=.int .i64 0)(hK:K (.string .empty) false h):RunVC P (.call ⟨.builtin .unsafeString,⟨[x,y]⟩,⟨[pt,it]⟩⟩) ty s h K Q :=
 .pure' _ false (fun w=>by simp[execOp,resolve,invoke,builtin,hx,hy,Lib.run_unsafeString_none w pt it ty p]) hK
end
def xZ:List PanicEntry:=[{ v:=.iface 27 (.int .i64 1),recovered:=false }]
def MEnds (B:Base)(ok:Bool)(v:Value):Ending→Heap→Prop:=Ends (fun r h'=>ok=true∧r=v∧Own B [] h') fun c h'=>ok=false∧c=xZ∧Own B [] h'
theorem aE (b:Bool)(h:Heap):Spec Tryz.prog 30 [.bool b] h (MEnds h b (.tuple #[])):=by
 refine aDX Tryz.func30 rfl Tryz.ntmps30 (by kernel_rfl) ?_;have o0:=Own.refl h;cases b with
 | true =>
  refine aDT ?_;refine aD0 rfl ?_;refine aI rfl ?_
  exact⟨rfl,o0⟩
 | false =>
  refine aDS ?_;refine rR (aDM (by kernel_rfl) rfl ?_);refine RunVC.panicI rfl ?_
  exact⟨rfl,rfl,o0⟩
theorem StillVC.aD4 {g:FuncId}{args s:aVs}{ok:Bool}{v:Value}{m:Heap}{K:KK}{Q:QQ}(sp:Spec Tryz.prog g args m (MEnds m ok v))(hret:ok=true→∀ h',Own m [] h'→K v false h')(hpan:ok=false→∀ h',Own m [] h'→Q (.panic xZ) s h'):CallVC Tryz.prog g args s m K Q :=
 aDW sp (fun _ _ ⟨h1,h2,h3⟩=>by subst h2;exact hret h1 _ h3) (fun _ _ ⟨h1,h2,h3⟩=>by subst h2;exact hpan h1 _ h3)
def fK (j:Nat)(c:UInt8):Bool:=cV c||(decide (0<j)&&cF c)
def gQ (j:Nat)(c:UInt8):Prop:=(97≤c.toNat∧c.toNat≤122)∨(65≤c.toNat∧c.toNat≤90)∨(0<j∧((48≤c.toNat∧c.toNat≤57)∨c.toNat=95))
theorem eS (j:Nat)(c:UInt8):gQ j c↔fK j c=true:=by
 unfold gQ fK cF cV cA
 simp only[aES,aD8,decide_eq_true_eq]
 omega
theorem jF (s:aBs):dJ s=true↔s≠[]∧s.length≤24∧∀(j:Nat)(c:UInt8),s[j]?=some c→fK j c=true:=by
 cases s with
 | nil=>simp[dJ]
 | cons d r =>
  simp only[dJ,aD8,decide_eq_true_eq,aEh]
  constructor
  ·rintro⟨⟨h1,h2⟩,h3⟩
   refine⟨by simp,h1,fun j c hc=>?_⟩
   cases j with
   | zero=>simp at hc;subst hc;simp[fK,h2]
   | succ j =>
    have:=h3 c (aD6 (by simpa using hc))
    simp[fK,this]
  ·rintro⟨_,h1,h2⟩
   refine⟨⟨h1,?_⟩,fun c hc=>?_⟩
   ·have:=h2 0 d rfl
    simpa[fK] using this
   ·obtain⟨j,hj⟩:=aEH.1 hc
    have:=h2 (j+1) c (by simpa using hj)
    simp only[fK,aES,aD8]at this
    rcases this with h|⟨_,h⟩
    ·simp[cF,h]
    ·exact h
theorem qI {s:aBs}{j:Nat}{c:UInt8}(h:s[j]?=some c)(hc:fK j c=false):dJ s=false:=by
 cases hn:dJ s with
 | false=>rfl
 | true=>rw[((jF s).1 hn).2.2 j c h]at hc;cases hc
theorem bM (s:aBs)(h:Heap)(hl:s.length≤1000000000000000):Spec Tryz.prog 33 [.string ⟨⟨s⟩⟩] h (MEnds h (dJ s) (.string ⟨⟨s⟩⟩)):=by
 refine aDX Tryz.func33 rfl Tryz.ntmps33 (by kernel_rfl) ?_;have o0:=Own.refl h;by_cases h1:s=[]
 ·subst h1
  refine aDT ?_;refine aD4 (aE _ _) (fun e=>by cases e) fun _ h2 o2=>?_
  exact⟨rfl,rfl,o2⟩
 refine aDp (fun c20=>?_) (fun hc=>absurd hc (by first|omega|assumption|decide|exact rfl));refine rR (aDA rfl cX ?_);refine aD4 (aE _ _) (fun e1 h2 o2=>?_) fun e1 h2 o2=>?_
 ·have h24:s.length≤24:=by have:=of_decide_eq_true e1;omega
  refine rR (aDA rfl cX ?_);refine aD1 [3,4,5,16,17,18,19,20,21,22,23,24,25,26,27,28,29,30,31,32,33,34,35,36,37,38,39,40,41,42,43,44,45,46,47,48,49,50,51,52,53,54] [16] (fun vs hh=>∃(i:Nat),i≤s.length∧vs=[.int .i64 i]∧(∀(j:Nat) (c:UInt8),j<i→s[j]?=some c→fK j c=true)∧Own h [] hh) (fun vs _=>match vs with|[.int _ i]=>s.length - i.toNat|_=>0) ?_ ?_
  ·exact⟨0,by omega,rfl,fun j c hj=>by omega,o2⟩
  ·rintro vs junk hh ⟨i,hi,rfl,hE,oh⟩
   by_cases hlt:i<s.length
   ·obtain⟨c,hc⟩:=getx hlt
    have next:fK i c=true→∀(j:Nat) (d:UInt8),j<i+1→s[j]?=some d→fK j d=true:=fun hat j d hj hd=>by
     by_cases hji:j=i
     ·subst hji
      rw[hc]at hd
      cases hd
      exact hat
     ·exact hE j d (by omega) hd
    refine aDR (fun c40=>?_) (fun hc=>absurd (by omega) hc);refine rR (aDw rfl rfl cX (by omega) ‹_› ?_);refine aDR (fun c42=>?_) (fun c42=>?_);refine aDR (fun c43=>?_) (fun c43=>?_);refine aDS ?_
    rotate_left
    refine aDR (fun c44=>?_) (fun hc=>absurd (by omega) hc);refine aDR (fun hc=>absurd hc (by omega)) (fun c45=>?_);refine aDR (fun c46=>?_) (fun c46=>?_);refine aDR (fun c47=>?_) (fun hc=>absurd (by omega) hc);refine aDR (fun hc=>absurd hc (by omega)) (fun c48=>?_)
    rotate_left
    rotate_left
    refine aDR (fun c49=>?_) (fun c49=>?_);refine aDR (fun c50=>?_) (fun c50=>?_)
    rotate_left
    refine aDR (fun c51=>?_) (fun c51=>?_);refine aDR (fun c52=>?_) (fun hc=>absurd (by omega) hc);refine aDR (fun hc=>absurd hc (by omega)) (fun c53=>?_)
    rotate_left
    rotate_left
    refine aDT ?_;refine aDR (fun c54=>?_) (fun c54=>?_);refine aDR (fun c55=>?_) (fun c55=>?_);refine aDR (fun c56=>?_) (fun c56=>?_)
    ·refine aD4 (aE _ _) (fun e1 h3 o3=>?_) fun e1 h3 o3=>?_
     ·have hat:fK i c=true:=(eS i c).1 (by unfold gQ;omega)
      refine aDY (by omega) (by omega) ?_
      refine⟨rfl,?_⟩
      exact⟨⟨i+1,by omega,rfl,next hat,oh.ext' o3⟩,by simp;omega⟩
     ·exact by cases e1
    ·refine aD4 (aE _ _) (fun e1 h3 o3=>?_) fun e1 h3 o3=>?_
     ·have hat:fK i c=true:=(eS i c).1 (by have:=of_decide_eq_true e1;unfold gQ;omega)
      refine aDY (by omega) (by omega) ?_
      refine⟨rfl,?_⟩
      exact⟨⟨i+1,by omega,rfl,next hat,oh.ext' o3⟩,by simp;omega⟩
     ·have hat:fK i c=false:=by
       rw[aEw]
       intro hh;have hh:=(eS i c).2 hh;unfold gQ at hh
       have:=of_decide_eq_false e1
       omega
      exact⟨qI hc hat,rfl,oh.ext' o3⟩
    ·refine aD4 (aE _ _) (fun e1 h3 o3=>?_) fun e1 h3 o3=>?_
     ·have hat:fK i c=true:=(eS i c).1 (by have:=of_decide_eq_true e1;unfold gQ;omega)
      refine aDY (by omega) (by omega) ?_
      refine⟨rfl,?_⟩
      exact⟨⟨i+1,by omega,rfl,next hat,oh.ext' o3⟩,by simp;omega⟩
     ·have hat:fK i c=false:=by
       rw[aEw]
       intro hh;have hh:=(eS i c).2 hh;unfold gQ at hh
       have:=of_decide_eq_false e1
       omega
      exact⟨qI hc hat,rfl,oh.ext' o3⟩
    ·refine aD4 (aE _ _) (fun e1 h3 o3=>?_) fun e1 h3 o3=>?_
     ·exact by cases e1
     ·have hat:fK i c=false:=by
       rw[aEw]
       intro hh;have hh:=(eS i c).2 hh;unfold gQ at hh
       omega
      exact⟨qI hc hat,rfl,oh.ext' o3⟩
    ·refine aD4 (aE _ _) (fun e1 h3 o3=>?_) fun e1 h3 o3=>?_
     ·have hat:fK i c=true:=(eS i c).1 (by unfold gQ;omega)
      refine aDY (by omega) (by omega) ?_
      refine⟨rfl,?_⟩
      exact⟨⟨i+1,by omega,rfl,next hat,oh.ext' o3⟩,by simp;omega⟩
     ·exact by cases e1
    ·refine aD4 (aE _ _) (fun e1 h3 o3=>?_) fun e1 h3 o3=>?_
     ·have hat:fK i c=true:=(eS i c).1 (by have:=of_decide_eq_true e1;unfold gQ;omega)
      refine aDY (by omega) (by omega) ?_
      refine⟨rfl,?_⟩
      exact⟨⟨i+1,by omega,rfl,next hat,oh.ext' o3⟩,by simp;omega⟩
     ·have hat:fK i c=false:=by
       rw[aEw]
       intro hh;have hh:=(eS i c).2 hh;unfold gQ at hh
       have:=of_decide_eq_false e1
       omega
      exact⟨qI hc hat,rfl,oh.ext' o3⟩
    ·refine aD4 (aE _ _) (fun e1 h3 o3=>?_) fun e1 h3 o3=>?_
     ·exact by cases e1
     ·have hat:fK i c=false:=by
       rw[aEw]
       intro hh;have hh:=(eS i c).2 hh;unfold gQ at hh
       omega
      exact⟨qI hc hat,rfl,oh.ext' o3⟩
    ·refine aD4 (aE _ _) (fun e1 h3 o3=>?_) fun e1 h3 o3=>?_
     ·have hat:fK i c=true:=(eS i c).1 (by unfold gQ;omega)
      refine aDY (by omega) (by omega) ?_
      refine⟨rfl,?_⟩
      exact⟨⟨i+1,by omega,rfl,next hat,oh.ext' o3⟩,by simp;omega⟩
     ·exact by cases e1
    ·refine aD4 (aE _ _) (fun e1 h3 o3=>?_) fun e1 h3 o3=>?_
     ·have hat:fK i c=true:=(eS i c).1 (by have:=of_decide_eq_true e1;unfold gQ;omega)
      refine aDY (by omega) (by omega) ?_
      refine⟨rfl,?_⟩
      exact⟨⟨i+1,by omega,rfl,next hat,oh.ext' o3⟩,by simp;omega⟩
     ·have hat:fK i c=false:=by
       rw[aEw]
       intro hh;have hh:=(eS i c).2 hh;unfold gQ at hh
       have:=of_decide_eq_false e1
       omega
      exact⟨qI hc hat,rfl,oh.ext' o3⟩
    ·refine aD4 (aE _ _) (fun e1 h3 o3=>?_) fun e1 h3 o3=>?_
     ·exact by cases e1
     ·have hat:fK i c=false:=by
       rw[aEw]
       intro hh;have hh:=(eS i c).2 hh;unfold gQ at hh
       omega
      exact⟨qI hc hat,rfl,oh.ext' o3⟩
   ·refine aDR (fun hc=>absurd hc (by omega)) (fun c60=>?_)
    refine aDZ rfl ?_
    exact⟨(jF s).2 ⟨h1,h24,fun j c hc=>hE j c (by have:=(aD5.1 hc).1;omega) hc⟩,rfl,oh⟩
 ·have h24:dJ s=false:=by
   cases hn:dJ s with
   | false=>rfl
   | true =>
    have:=((jF s).1 hn).2.1
    have:=of_decide_eq_false e1
    omega
  exact⟨h24,rfl,o2⟩
def kJ (h:Heap):Prop:=∀ w:World,w.heap=h→Lib.TabIs Tryz.prog w "internal/strconv.uint64pow10" .u64 Lib.pow10Tab
theorem kJ.ext {h h':Heap}(t:kJ h)(e:Ext h h'):kJ h':=by
 intro w hw
 have:=t { w with heap:=h } rfl
 unfold Lib.TabIs World.var? at this ⊢;cases hg:Tryz.prog.globalNamed "internal/strconv.uint64pow10" with
 | none=>rw[hg]at this;simp at this
 | some g =>
  rw[hg]at this
  simp only[Option.bind_some]at this ⊢
  rw[hw]
  by_cases hb:g<h.size
  ·rw[e.old g hb];exact this
  ·have hn:h[g]?=none:=Array.getElem?_eq_none (by omega)
   rw[hn]at this;simp at this
theorem itoa_spec (n:Int)(h:Heap)(h0:-9223372036854775808≤n)(h1:n≤9223372036854775807)(ht:kJ h) :
  cK Tryz.prog 150 [.int .i64 n] h fun r h'=>r=.string ⟨⟨Lib.itoa n⟩⟩∧Own h [] h':=by
 refine⟨⟨_,Tryz.func150,rfl,by kernel_rfl⟩,fun w hw=>?_⟩
 refine(Tryz.strconv_Itoa n h0 h1 w (ht w hw)).mono ?_
 rintro e w' ⟨rfl,k,os,rfl⟩
 refine⟨⟨rfl,rfl,rfl,by simp[Sort.grow,World.drewN]⟩,rfl,Own.of_ext ⟨?_,fun b hb=>?_⟩⟩
 ·subst hw
  simp[Sort.grow,World.drewN]
 ·subst hw
  simp[Sort.grow,World.drewN,Array.getElem?_append,hb]
theorem bN (n:Int)(h:Heap)(h0:-9223372036854775808≤n)(h1:n≤9223372036854775807)(hT:kJ h):Spec Tryz.prog 125 [.int .i64 n] h (MEnds h (jC n) (.string ⟨⟨Lib.itoa n⟩⟩)):=by
 refine aDX Tryz.func125 rfl Tryz.ntmps125 (by kernel_rfl) ?_;have o0:=Own.refl h;by_cases hn:0≤n
 ·by_cases hg:n≤9999999999
  ·have hok:jC n=true:=decide_eq_true ⟨hn,hg⟩
   refine aDR (fun c10=>?_) (fun hc=>absurd (by omega) hc);refine aD4 (aE _ _) (fun e1 h2 o2=>?_) fun e1 h2 o2=>?_
   ·skip
    refine aDV (itoa_spec n _ h0 h1 (hT.ext o2.ext)) ?_;rintro _ h3 ⟨rfl,o3⟩;have o4:=o2.ext' o3;refine aDZ rfl ?_
    exact⟨hok,rfl,o4⟩
   ·have:=of_decide_eq_false e1
    omega
  ·have hno:jC n=false:=decide_eq_false (by omega)
   refine aDR (fun c40=>?_) (fun hc=>absurd (by omega) hc);refine aD4 (aE _ _) (fun e1 h2 o2=>?_) fun e1 h2 o2=>?_
   ·have:=of_decide_eq_true e1
    omega
   ·exact⟨hno,rfl,o2⟩
 ·have hno:jC n=false:=decide_eq_false (by omega)
  refine aDR (fun hc=>absurd hc (by omega)) (fun c60=>?_);refine aD4 (aE _ _) (fun e1 h2 o2=>by cases e1) fun e1 h2 o2=>?_
  exact⟨hno,rfl,o2⟩
theorem eE (n:Int)(ws:List aBs)(vs:Value)(h:Heap)(h0:-9223372036854775808≤n)(h1:n≤9223372036854775807)(hA:Arr h vs (strs ws))(hl:ws.length≤100)(hw:∀ s∈ws,s.length≤100):Spec Tryz.prog 32 [.int .i64 n,vs] h (MEnds h (decide (1≤n∧n≤ws.length)) (.string ⟨⟨32::ws.getD (n - 1).toNat []⟩⟩)):=by
 refine aDX Tryz.func32 rfl Tryz.ntmps32 (by kernel_rfl) ?_;have o0:=Own.refl h;have hsl:(strs ws).length=ws.length:=by simp[strs]
 by_cases hn:1≤n
 ·refine aDR (fun c10=>?_) (fun hc=>absurd (by omega) hc)
  refine rR (aDF hA ‹_› aJ ?_);refine aD4 (aE _ _) (fun e1 h2 o2=>?_) fun e1 h2 o2=>?_
  ·have e1:=of_decide_eq_true e1
   obtain⟨s,hs⟩:=getx (show(n - 1).toNat<ws.length by omega)
   have hss:(strs ws)[(n - 1).toNat]?=some (.string ⟨⟨s⟩⟩):=by
    show(ws.map _)[(n - 1).toNat]?=_
    rw[List.getElem?_map,hs]
    rfl
   have hsl2:=hw s (aD6 hs);have hA2:=hA.ext o2.ext;have hd:ws.getD (n - 1).toNat []=s:=by rw[aEt,hs];rfl
   rw[hd]
   refine aDY (by omega) (by omega) ?_;refine rR (idx aJ aO hA2 rfl (by omega) (by omega) ?_);refine rR (aDG hA2 aO rfl (by first|assumption|rfl) ?_);refine rR (aDm rfl rfl (by first|omega|(simp;omega)) ?_);refine aDZ rfl ?_
   exact⟨decide_eq_true (by omega),rfl,o2⟩
  ·have e1:=of_decide_eq_false e1
   exact⟨decide_eq_false (by omega),rfl,o2⟩
 ·refine aDR (fun hc=>absurd hc (by omega)) (fun c60=>?_)
  refine aD4 (aE _ _) (fun e1 h2 o2=>by cases e1) fun e1 h2 o2=>?_
  exact⟨decide_eq_false (by omega),rfl,o2⟩
theorem put_spec (B:Base)(b:Nat)(p v:Value)(k:Int)(bs:aBs)(ls:List aBs)(vs:Value)(h:Heap)(hp:cW b p)(hS:tB B vs ls)
  (o:Own B [box b [p,v,.int .i64 k] 58,row v 5 1 bs.length (bytes bs)] h) (hl:bs.length≤100000000000000) (hs:∀ s∈ls,s.length≤1000) (hln:ls.length≤100) (hk:0≤k∧k≤100000000000000) :
  cK Tryz.prog 31 [.pointer (some ⟨b,0,none⟩),vs] h fun r h'=>r=.tuple #[]∧∃ p' v',cW b p'∧Own B [box b [p',v',.int .i64 (k+ls.length)] 58,row v' 5 1 (bs++ls.flatten).length (bytes (bs++ls.flatten))] h':=by
 refine aDX Tryz.func31 rfl Tryz.ntmps31 (by kernel_rfl) ?_;have hA:=hS _ _ o;have hsl:(strs ls).length=ls.length:=by simp[strs]
 have hK:=hS;clear hS;refine rR (aDF hA ‹_› aJ ?_);refine aD1 [5,8,9,10,11,12,13,14,15,16,17,18,19,20,21,22,23,24] [8] (fun vs' hh=>∃(i:Nat) (p' v':Value),i≤ls.length∧vs'=[.int .i64 i]∧cW b p'∧(ls.take i).flatten.length≤1000*i∧Own B [box b [p',v',.int .i64 (k+i)] 58,row v' 5 1 (bs++(ls.take i).flatten).length (bytes (bs++(ls.take i).flatten))] hh) (fun vs' _=>match vs' with|[.int _ i]=>ls.length - i.toNat|_=>0) ?_ ?_
 ·exact⟨0,p,v,by omega,rfl,hp,by simp,by simpa using o⟩
 ·rintro vs' junk hh ⟨i,p',v',hi,rfl,hp',hcl,oh⟩
  have hA:=hK _ _ oh;by_cases hlt:i<ls.length
  ·obtain⟨s,hs1⟩:=getx hlt
   have hss:(strs ls)[i]?=some (.string ⟨⟨s⟩⟩):=by simp[strs,hs1]
   have hs2:=hs s (aD6 hs1);have ht:(ls.take (i+1)).flatten=(ls.take i).flatten++s:=by rw[aEN,hs1];simp
   have hbl:(bs++(ls.take i).flatten).length+s.length≤140000000000000:=by rw[aD9];omega
   refine aDR (fun c20=>?_) (fun hc=>absurd (by omega) hc);refine rR (idx aJ aO hA rfl (by omega) (by omega) ?_);refine rR (aDG hA aO rfl (by first|assumption|rfl) ?_);refine rR (nC rfl ?_);refine rR (fA aAq rfl rfl rfl ?_);refine aDV (aCG b p' v' (k+i) (bs++(ls.take i).flatten) s _ B hp' oh hbl) ?_;rintro _ h2 ⟨rfl,v2,o2⟩;clear oh hA;have o3:Own B [box b [.pointer (some ⟨b,0,none⟩),v2,.int .i64 (k+i)] 58,row v2 5 1 (bs++(ls.take i).flatten++s).length (bytes (bs++(ls.take i).flatten++s))] h2:=o2;clear o2;refine rR (nC rfl ?_);refine rR (fA aAq rfl rfl rfl ?_);refine rR (aDe o3 0 rfl aY rfl rfl ?_);refine aDY (by omega) (by omega) ?_;refine rR (nC rfl ?_);refine rR (fA aAq rfl rfl rfl ?_);(refine aDN o3 0 rfl aY rfl (by simp) (aI ⟨rfl,rfl⟩ ?_);intro m35 o35);refine aDY (by omega) (by omega) ?_
   refine⟨rfl,?_⟩
   refine⟨⟨i+1,_,v2,by omega,rfl,.inr rfl,by rw[ht,aD9];omega,?_⟩,by simp;omega⟩
   rw[ht,← aD7,show k+((i+1:Nat):Int)=k+i+1 by omega]
   exact o35
  ·have hd:ls.take i=ls:=aEk (by omega)
   obtain rfl:i=ls.length:=by omega
   refine aDR (fun hc=>absurd hc (by omega)) (fun c60=>?_);refine aD0 rfl ?_
   rw[hd]at oh
   exact⟨rfl,p',v',hp',oh⟩
def WEnds (B:Base)(b:Nat)(bs:aBs)(k:Int)(c:Nat)(o:Option (List Pc)):Ending→Heap→Prop :=
 Ends (fun r h'=>∃ ps p' v',o=some ps∧r=.tuple #[]∧cW b p'∧(bK ps).length≤c∧ps.length≤c∧Own B [box b [p',v',.int .i64 (k+ps.length)] 58,row v' 5 1 (bs++bK ps).length (bytes (bs++bK ps))] h')
  fun q h'=>o=none∧q=xZ∧Own B [] h'
theorem keep1 {B:Base}{c:Nat}{t:TypeId}{ss:List aBs}:tB ⟨B.h,[box c (strs ss) t]++B.T⟩ (.slice (some ⟨c,0,none⟩) ss.length ss.length) ss:=fun L h o=>by
 have hs:(box c (strs ss) t).sat h:=OwnR.sat o _ (by simp)
 exact(xX (sz:=1) (by simp[strs]) (aEf _) h hs).to1
theorem zW (B:Base)(b c:Nat)(p v:Value)(k:Int)(bs:aBs)(ls:List aBs)(h:Heap)(hp:cW b p)(o:Own B [box b [p,v,.int .i64 k] 58,row v 5 1 bs.length (bytes bs),box c (strs ls) 9] h)
  (hl:bs.length≤100000000000000) (hs:∀ s∈ls,s.length≤1000) (hln:ls.length≤100) (hk:0≤k∧k≤100000000000000) :
  cK Tryz.prog 31 [.pointer (some ⟨b,0,none⟩),.slice (some ⟨c,0,none⟩) ls.length ls.length] h fun r h'=>r=.tuple #[]∧∃ p' v',cW b p'∧Own B [box b [p',v',.int .i64 (k+ls.length)] 58,row v' 5 1 (bs++ls.flatten).length (bytes (bs++ls.flatten))] h':=by
 have o2:=o.lend [0,1] [2] rfl;have sp:=put_spec _ b p v k bs ls _ h hp keep1 o2 hl hs hln hk;refine sp.mono ?_;rintro r h' ⟨e,p',v',h1,h2⟩
 exact⟨e,p',v',h1,h2.back.sel [0,1] rfl⟩
theorem iZ:∀(a b:List (Option (List Pc))),aG (a++b)=match aG a,aG b with
  | some p,some q=>some (p++q)
  | _,_=>none
 | [],b=>by show aG b=_;cases h:aG b<;>simp[aG]
 | none::a,b=>rfl
 | some p::a,b=>by
  show(aG (a++b)).map (p++·)=_
  rw[iZ a b]
  show _=match (aG a).map (p++·),aG b with
   | some p,some q=>some (p++q)
   | _,_=>none
  cases aG a<;>cases aG b<;>simp
theorem listQ_snoc {α:Type}{one:aBs→α→Option (List Pc)}{b:aBs}{l:List α}{x:α}{p:List Pc}(hn:l≠[])(hp:gV one b l=some p):gV one b (l++[x])=(one [32] x).map fun q=>p++aL [] [44]::q:=by
 cases l with
 | nil=>exact absurd rfl hn
 | cons y r =>
  have e:gV one b (y::r++[x])=aG ((one b y::r.map fun y=>(one [32] y).map (aL [] [44]::·))++[(one [32] x).map (aL [] [44]::·)]):=by
   show aG (_::(r++[x]).map _)=_
   rw[List.map_append]
   rfl
  rw[e,iZ]
  rw[show aG (one b y::r.map fun y=>(one [32] y).map (aL [] [44]::·))=some p from hp]
  cases one [32] x<;>simp[aG]
theorem aAM {α:Type}{one:aBs→α→Option (List Pc)}{b:aBs}{l m:List α}(hp:gV one b l=none):gV one b (l++m)=none:=by
 cases l with
 | nil=>cases hp
 | cons y r =>
  have e:gV one b (y::r++m)=aG ((one b y::r.map fun y=>(one [32] y).map (aL [] [44]::·))++m.map fun y=>(one [32] y).map (aL [] [44]::·)):=by
   show aG (_::(r++m).map _)=_
   rw[List.map_append]
   rfl
  rw[e,iZ]
  rw[show aG (one b y::r.map fun y=>(one [32] y).map (aL [] [44]::·))=none from hp]
theorem nK (B:Base)(b:Nat)(p v:Value)(k:Int)(bs bf:aBs)(ls:List aBs)(vs:Value)(h:Heap)(hp:cW b p)(hS:tB B vs ls)
  (o:Own B [box b [p,v,.int .i64 k] 58,row v 5 1 bs.length (bytes bs)] h) (hl:bs.length≤50000000000000) (hs:∀ s∈ls,s.length≤1000000000000000) (hln:ls.length≤100000000000) (hk:0≤k∧k≤50000000000000) (hbf:bf=[]∨bf=[32]) :
  Spec Tryz.prog 149 [.pointer (some ⟨b,0,none⟩),.string ⟨⟨bf⟩⟩,vs] h (WEnds B b bs k (100*ls.length) (gV bB bf ls)):=by
 refine aDX Tryz.func149 rfl Tryz.ntmps149 (by kernel_rfl) ?_;have hA:=hS _ _ o;have hsl:(strs ls).length=ls.length:=by simp[strs]
 have hK:=hS;clear hS;refine rR (aDF hA ‹_› aJ ?_);refine aD1 [1,6,7,10,11,12,13,14,15,16,17,18,19,20,21,22,23,24,25,26,27,28,29,30,31] [1,10] (fun vs' hh=>∃(i:Nat) (p' v':Value) (be:aBs) (ps:List Pc),i≤ls.length∧vs'=[.string ⟨⟨be⟩⟩,.int .i64 i]∧(i=0→be=bf)∧be.length≤1∧cW b p'∧gV bB bf (ls.take i)=some ps∧(bK ps).length≤100*i∧ps.length≤2*i∧Own B [box b [p',v',.int .i64 (k+ps.length)] 58,row v' 5 1 (bs++bK ps).length (bytes (bs++bK ps))] hh) (fun vs' _=>match vs' with|[_,.int _ i]=>ls.length - i.toNat|_=>0) ?_ ?_
 ·exact⟨0,p,v,bf,[],by omega,rfl,fun _=>rfl,by rcases hbf with rfl|rfl<;>simp,hp,rfl,by simp[bK],by simp,by simpa[bK] using o⟩
 ·rintro vs' junk hh ⟨i,p',v',be,ps,hi,rfl,hbe,hbl,hp',hQ,hc1,hc2,oh⟩
  have hA:=hK _ _ oh;by_cases hlt:i<ls.length
  ·obtain⟨s,hs1⟩:=getx hlt
   have hss:(strs ls)[i]?=some (.string ⟨⟨s⟩⟩):=by simp[strs,hs1]
   have hs2:=hs s (aD6 hs1);have ht:ls.take (i+1)=ls.take i++[s]:=by rw[aEN,hs1];simp
   by_cases h0:i=0
   ·have e0:=hbe h0
    subst h0;subst be;have hps:ps=[]:=by cases hQ;rfl
    subst hps;have hnx:∀ o,bB bf s=o→gV bB bf (ls.take (0+1))=o:=fun o e=>by
     rw[ht,← e]
     show aG [bB bf s]=_
     cases bB bf s<;>simp[aG]
    refine aDR (fun c20=>?_) (fun hc=>absurd (by omega) hc);refine rR (idx aJ aO hA rfl (by omega) (by omega) ?_);refine rR (aDG hA aO rfl (by first|assumption|rfl) ?_);refine aDT ?_;refine aDU [0,1,2,3,4,6] [] [5,7,8] [0,1,2,3,4,5,6,7,8] mixed (by kernel_rfl) rfl (fun _ _ _ _ h=>h) ?_;refine nC rfl ?_;refine fA bS rfl rfl rfl ?_;refine aD4 (bM s _ (by omega)) (fun e1 h2 o2=>?_) fun e1 h2 o2=>?_
    ·have o3:=oh.ext' o2
     clear o2;have h24:=((jF s).1 e1).2.1;have hq:bB bf s=some [aD bf s]:=by unfold bB;rw[if_pos e1]
     refine aDm rfl rfl (by first|omega|(simp;omega)) ?_;(refine aDO o3 aJ aO rfl rfl (by decide) (aI rfl ?_);intro b31 m31 o31);refine aDV (zW B b b31 p' v' (k+([]:List Pc).length) (bs++bK []) [bf++s] _ hp' o31 (by rw[aD9];omega) (by simp;omega) (by simp) (by simp;omega)) ?_;rintro _ h4 ⟨rfl,p4,v4,hp4,o4⟩;clear o31 o3 oh hA;refine aDY (by omega) (by omega) ?_
     refine⟨rfl,?_⟩
     have e4:bK [aD bf s]=bf++s:=by simp[bK,gE,wr,aD]
     refine⟨⟨0+1,p4,v4,bf,[aD bf s],by omega,rfl,(fun e=>by omega),hbl,hp4,hnx _ hq,by rw[e4,aD9];omega,by simp,?_⟩,by simp;omega⟩
     rw[e4]
     simpa[bK] using o4
    ·have hq:bB bf s=none:=by unfold bB;rw[if_neg (by rw[e1];decide)]
     have:=aAM (m:=ls.drop (0+1)) (hnx _ hq)
     rw[List.take_append_drop]at this
     exact⟨this,rfl,(oh.ext' o2).sel [] rfl⟩
   ·have hnx:∀ q,bB [32] s=q→gV bB bf (ls.take (i+1))=q.map fun q=>ps++aL [] [44]::q:=fun q e=>by
     rw[ht,listQ_snoc (by intro e;have:=congrArg List.length e;rw[aED,aEr]at this;omega) hQ,e]
    refine aDR (fun c40=>?_) (fun hc=>absurd (by omega) hc);refine rR (idx aJ aO hA rfl (by omega) (by omega) ?_);refine rR (aDG hA aO rfl (by first|assumption|rfl) ?_);refine aDR (fun c43=>?_) (fun hc=>absurd (by omega) hc);refine rR (nC rfl ?_);refine rR (fA bS rfl rfl rfl ?_);(refine aDO oh aJ aO rfl rfl (by decide) (aI rfl ?_);intro b46 m46 o46);refine aDV (zW B b b46 p' v' (k+ps.length) (bs++bK ps) [[44]] _ hp' o46 (by rw[aD9];omega) (by simp) (by simp) (by omega)) ?_;rintro _ h4 ⟨rfl,p4,v4,hp4,o4⟩;clear o46 oh hA;have hA:=hK _ _ o4;refine aDU [0,1,2,3,4,6] [] [5,7,8] [0,1,2,3,4,5,6,7,8] mixed (by kernel_rfl) rfl (fun _ _ _ _ h=>h) ?_;refine nC rfl ?_;refine fA bS rfl rfl rfl ?_;refine aD4 (bM s _ (by omega)) (fun e1 h2 o2=>?_) fun e1 h2 o2=>?_
    ·have o5:=o4.ext' o2
     clear o2 o4;have h24:=((jF s).1 e1).2.1;have hq:bB [32] s=some [aD [32] s]:=by unfold bB;rw[if_pos e1]
     refine aDm rfl rfl (by first|omega|(simp;omega)) ?_;(refine aDO o5 aJ aO rfl rfl (by decide) (aI rfl ?_);intro b71 m71 o71);refine aDV (zW B b b71 p4 v4 (k+ps.length+([[44]]:List aBs).length) (bs++bK ps++([[44]]:List aBs).flatten) [[32]++s] _ hp4 o71 (by simp only[aD9];simp;omega) (by simp;omega) (by simp) (by simp;omega)) ?_;rintro _ h6 ⟨rfl,p6,v6,hp6,o6⟩;clear o71 o5 hA;refine aDY (by omega) (by omega) ?_
     refine⟨rfl,?_⟩
     have e4:bK (ps++aL [] [44]::[aD [32] s])=bK ps++[44]++([32]++s):=by simp[bK,gE,wr,aD,aL]
     have e5:((ps++aL [] [44]::[aD [32] s]).length:Int)=ps.length+1+1:=by simp;omega
     refine⟨⟨i+1,p6,v6,[32],ps++aL [] [44]::[aD [32] s],by omega,rfl,(fun e=>by omega),by simp,hp6,hnx _ hq,by rw[e4];simp;omega,by simp;omega,?_⟩,by simp;omega⟩
     rw[e4,e5]
     simpa[Int.add_assoc] using o6
    ·have hq:bB [32] s=none:=by unfold bB;rw[if_neg (by rw[e1];decide)]
     have:=aAM (m:=ls.drop (i+1)) (hnx _ hq)
     rw[List.take_append_drop]at this
     exact⟨this,rfl,(o4.ext' o2).sel [] rfl⟩
  ·have hd:ls.take i=ls:=aEk (by omega)
   obtain rfl:i=ls.length:=by omega
   rw[hd]at hQ
   refine aDR (fun hc=>absurd hc (by omega)) (fun c60=>?_);refine aD0 rfl ?_
   exact⟨ps,p',v',hQ,rfl,hp',hc1,by omega,oh⟩
theorem WEnds.call {g:FuncId}{args s:aVs}{B:Base}{b:Nat}{bs:aBs}{k:Int}{c:Nat}{o:Option (List Pc)}{h:Heap}{K:KK}{Q:QQ}(sp:Spec Tryz.prog g args h (WEnds B b bs k c o))
  (hret:∀ ps p' v' h',o=some ps→cW b p'→(bK ps).length≤c→ps.length≤c→Own B [box b [p',v',.int .i64 (k+ps.length)] 58,row v' 5 1 (bs++bK ps).length (bytes (bs++bK ps))] h'→K (.tuple #[]) false h')
  (hpan:∀ h',o=none→Own B [] h'→Q (.panic xZ) s h'):CallVC Tryz.prog g args s h K Q :=
 aDW sp (fun _ _ ⟨ps,p',v',h1,h2,h3,h4,h5,h6⟩=>by subst h2;exact hret ps p' v' _ h1 h3 h4 h5 h6) (fun _ _ ⟨h1,h2,h3⟩=>by subst h2;exact hpan _ h1 h3)
theorem rZ (B:Base)(b:Nat)(p v:Value)(k:Int)(bs bf:aBs)(ls:List aBs)(vs:Value)(h:Heap)(hp:cW b p)(hS:tB B vs ls)
  (o:Own B [box b [p,v,.int .i64 k] 58,row v 5 1 bs.length (bytes bs)] h) (hl:bs.length≤50000000000000) (hs:∀ s∈ls,s.length≤1000000000000000) (hln:ls.length≤100000000000) (hk:0≤k∧k≤50000000000000) (hbf:bf=[]∨bf=[32]) :
  Spec Tryz.prog 124 [.pointer (some ⟨b,0,none⟩),.string ⟨⟨bf⟩⟩,vs] h (WEnds B b bs k (100*ls.length) (dG bB bf ls)):=by
 refine aDX Tryz.func124 rfl Tryz.ntmps124 (by kernel_rfl) ?_;have hA:=hS _ _ o;have hsl:(strs ls).length=ls.length:=by simp[strs]
 cases ls with
 | nil =>
  refine rR (aDF hA ‹_› aJ ?_);refine aD4 (aE _ _) (fun e1 h2 o2=>by cases e1) fun e1 h2 o2=>?_
  exact⟨rfl,rfl,(o.ext' o2).sel [] rfl⟩
 | cons x xs =>
  refine rR (aDF hA ‹_› aJ ?_);refine aD4 (aE _ _) (fun e1 h2 o2=>?_) fun e1 h2 o2=>?_
  ·have o3:=o.ext' o2
   refine WEnds.call (nK B b p v k bs bf (x::xs) vs _ hp hS o3 hl hs hln hk hbf) (fun ps p' v' h4 h5 h6 h7 h8 o4=>?_) fun h4 h5 o4=>?_
   ·refine aD0 rfl ?_
    exact⟨ps,p',v',h5,rfl,h6,h7,h8,o4⟩
   ·exact⟨h5,rfl,o4⟩
  ·have:=of_decide_eq_false e1
   exact absurd this (by simp)
theorem nJ (B:Base)(b:Nat)(p v:Value)(k:Int)(bs t a:aBs)(h:Heap)(hp:cW b p)
  (o:Own B [box b [p,v,.int .i64 k] 58,row v 5 1 bs.length (bytes bs)] h) (hl:bs.length≤50000000000000) (ht:t.length≤1000000000000000) (ha:a.length≤1000000000000000) (hk:0≤k∧k≤50000000000000) :
  Spec Tryz.prog 126 [.pointer (some ⟨b,0,none⟩),.string ⟨⟨t⟩⟩,.string ⟨⟨a⟩⟩] h (WEnds B b bs k 100 (eB t a)):=by
 refine aDX Tryz.func126 rfl Tryz.ntmps126 (by kernel_rfl) ?_;refine aDU [0,1,2,3,5,6] [] [4,7,8,9] [0,1,2,3,6,4,5,7,8,9] mixed (by kernel_rfl) rfl (fun _ _ _ _ h=>h) ?_;refine nC rfl ?_;refine fA bS rfl rfl rfl ?_;refine aD4 (bM t _ ht) (fun e1 h2 o2=>?_) fun e1 h2 o2=>?_
 ·have o3:=o.ext' o2
  have h24:=((jF t).1 e1).2.1;have hq1:bB [32] t=some [aD [32] t]:=by unfold bB;rw[if_pos e1]
  clear o2;refine aDm rfl rfl (by first|omega|(simp;omega)) ?_;refine aD4 (bM a _ ha) (fun e2 h4 o4=>?_) fun e2 h4 o4=>?_
  ·have o5:=o3.ext' o4
   clear o4 o3;have h25:=((jF a).1 e2).2.1;have hq2:bB [] a=some [aD [] a]:=by unfold bB;rw[if_pos e2]
   have hq:eB t a=some [aD [32] t,aL [] [46],aD [] a]:=by unfold eB;rw[hq1,hq2];rfl
   have e4:bK [aD [32] t,aL [] [46],aD [] a]=([[32]++t,[46],a]:List aBs).flatten:=by simp[bK,gE,wr,aD,aL]
   (refine aDO o5 aJ aO rfl rfl (by decide) (aI rfl ?_);intro b50 m50 o50);refine aDV (zW B b b50 p v k bs [[32]++t,[46],a] _ hp o50 (by omega) (by simp;omega) (by simp) (by omega)) ?_;rintro _ h6 ⟨rfl,p6,v6,hp6,o6⟩;clear o50 o5;refine aD0 rfl ?_
   rw[← e4]at o6
   exact⟨_,p6,v6,hq,rfl,hp6,by rw[e4];simp;omega,by simp,o6⟩
  ·have hq:bB [] a=none:=by unfold bB;rw[if_neg (by rw[e2];decide)]
   have:eB t a=none:=by unfold eB;rw[hq1,hq];rfl
   exact⟨this,rfl,(o3.ext' o4).sel [] rfl⟩
 ·have hq:bB [32] t=none:=by unfold bB;rw[if_neg (by rw[e1];decide)]
  have:eB t a=none:=by unfold eB;rw[hq];rfl
  exact⟨this,rfl,(o.ext' o2).sel [] rfl⟩
def NS (l:List aBs)(r:List Tok):Prop:=∀ s∈l,bD [s] r=false
def Rdx {α:Type}(m:PM α)(ts:List Tok)(a:α)(l:List aBs):Prop:=∀ r,NS l r→m (ts++r)=.ok (a,r)
theorem NS.sub {k l:List aBs}{r:List Tok}(h:NS l r)(hs:∀ s∈k,s∈l):NS k r:=fun s hk=>h s (hs s hk)
theorem jK (s:aBs)(t:Tok)(r:List Tok):bD [s] (t::r)=dH t s:=by simp[bD]
theorem NS.cons {l:List aBs}{t:Tok}{r:List Tok}(h:∀ s∈l,dH t s=false):NS l (t::r):=fun s hs=>by rw[jK];exact h s hs
theorem NS.nil (r:List Tok):NS [] r:=fun _ h=>by cases h
section
variable {α β : Type} {m : PM α} {f : α → PM β} {ts us : List Tok} {a : α} {b : β} {k l : List aBs}
theorem Rdx.bind (h:Rdx m ts a l)(hn:∀ r,NS k r→NS l (us++r))(g:Rdx (f a) us b k):Rdx (m >>= f) (ts++us) b k:=fun r hr=>by
 rw[aD7,aDf (h _ (hn r hr))]
 exact g r hr
theorem Rdx.then (h:Rdx m ts a [])(g:Rdx (f a) us b k):Rdx (m >>= f) (ts++us) b k:=h.bind (fun _ _=>NS.nil _) g
theorem Rdx.last {b:β}(h:Rdx m ts a l)(e:f a=pure b):Rdx (m >>= f) ts b l:=fun r hr=>by
 rw[aDf (h r hr),e]
 rfl
end
theorem aA {x:Option (List Pc)}{r:List (Option (List Pc))}{ps:List Pc}(h:aG (x::r)=some ps):∃ a b,x=some a∧aG r=some b∧ps=a++b:=by
 cases x with
 | none=>cases h
 | some a =>
  obtain⟨b,hb,rfl⟩:=aEi.1 (show(aG r).map (a++·)=some ps from h)
  exact⟨a,b,rfl,hb,rfl⟩
theorem dO {ps:List Pc}(h:aG []=some ps):ps=[]:=by cases h;rfl
theorem bJ (a b:List Pc):aZ (a++b)=aZ a++aZ b:=by simp[aZ]
theorem fT {b s:aBs}{ps:List Pc}(h:bB b s=some ps):dJ s=true∧ps=[aD b s]:=by
 unfold bB at h;split at h
 ·cases h;exact⟨by assumption,rfl⟩
 ·cases h
theorem tK {b:aBs}{n:Int}{ps:List Pc}(h:iD b n=some ps):jC n=true∧ps=[bU b n]:=by
 unfold iD at h;split at h
 ·cases h;exact⟨by assumption,rfl⟩
 ·cases h
theorem Rdx.name (z:Nat) {b s:aBs}{ps:List Pc}(h:bB b s=some ps):Rdx (cI z) (aZ ps) s []:=by
 obtain⟨_,rfl⟩:=fT h
 intro r _
 rfl
theorem Rdx.num (z:Nat) {b:aBs}{n:Int}{ps:List Pc}(h:iD b n=some ps):Rdx (lK z) (aZ ps) n []:=by
 obtain⟨_,rfl⟩:=tK h
 intro r _
 rfl
theorem iI {s:aBs}{t:Tok}{r:List Tok}(h:dH t s=true):cG s (t::r)=.ok (true,r):=by
 rw[kN (by rw[jK];exact h)]
 rfl
theorem fV {s:aBs}{t:Tok}{r:List Tok}(h:dH t s=false):cG s (t::r)=.ok (false,t::r):=jW (by rw[jK];exact h)
theorem need1_tk {z:Nat}{s:aBs}{t:Tok}{r:List Tok}(h:dH t s=true):need1 z s (t::r)=.ok ((),r):=by
 unfold need1
 rw[aDf (iI h)]
 rfl
theorem Rdx.need (z:Nat):∀(l:List (aBs×Tok)),(∀ p∈l,dH p.2 p.1=true)→Rdx (aX z (l.map (·.1))) (l.map (·.2)) () []
 | [],_=>fun _ _=>rfl
 | p::l,h=>fun r hr=>by
  show(need1 z p.1 >>= fun _=>aX z (l.map (·.1))) (p.2::(l.map (·.2)++r))=_
  rw[aDf (need1_tk (h p (by simp)))]
  exact Rdx.need z l (fun q hq=>h q (by simp[hq])) r hr
theorem Rdx.need1 (z:Nat) {s:aBs}{t:Tok}(h:dH t s=true):Rdx (aX z [s]) [t] () []:=Rdx.need z [(s,t)] (by simpa using h)
theorem Rdx.need2 (z:Nat) {s s':aBs}{t t':Tok}(h:dH t s=true)(h':dH t' s'=true):Rdx (aX z [s,s']) [t,t'] () []:=Rdx.need z [(s,t),(s',t')] (by simp[h,h'])
theorem tD (z:Nat):∀(ws:List aBs)(i:Int)(j:Nat)(t:Tok)(r:List Tok),ws.Nodup→ws[j]?=some t.text→(t.kind=1∨t.kind=4)→eO z ws i (t::r)=.ok (i+j,r)
 | [],_,j,_,_,_,h,_=>by simp at h
 | s::ws,i,0,t,r,_,h,hk=>by
  simp at h
  unfold eO
  rw[aDf (iI (show dH t s=true from decide_eq_true ⟨h.symm,hk⟩))]
  simp
  rfl
 | s::ws,i,j+1,t,r,hn,h,hk=>by
  have hn':=List.nodup_cons.1 hn;have hm:t.text∈ws:=aD6 (by simpa using h);unfold eO
  rw[aDf (fV (show dH t s=false from decide_eq_false fun e=>hn'.1 (e.1▸hm)))]
  have:=tD z ws (i+1) j t r hn'.2 (by simpa using h) hk
  simp only[aEd,if_false]
  rw[this]
  congr 2
  omega
theorem uC {n:Int}{ws:List aBs}{ps:List Pc}(h:fZ n ws=some ps):∃ j:Nat,n=1+j∧∃ s,ws[j]?=some s∧ps=[aD [32] s]:=by
 unfold fZ at h;split at h
 ·rename_i hn
  cases h
  refine⟨(n - 1).toNat,by omega,ws.getD (n - 1).toNat [],?_,rfl⟩
  rw[aEt,List.getElem?_eq_getElem (by omega)]
  rfl
 ·cases h
theorem Rdx.word (z:Nat) {n:Int}{ws:List aBs}{ps:List Pc}(hn:ws.Nodup)(h:fZ n ws=some ps):Rdx (eO z ws 1) (aZ ps) n []:=by
 obtain⟨j,rfl,s,hs,rfl⟩:=uC h
 exact fun r _=>tD z ws 1 j ⟨1,s,0,0⟩ r hn hs (.inl rfl)
theorem aAD {n:Int}{ps:List Pc}(h:opQ n=some ps):∃ j:Nat,n=1+j∧∃ s,([[61],[33,61],[60],[60,61]]:List aBs)[j]?=some s∧ps=[aL [32] s]:=by
 unfold opQ at h;split at h
 ·rename_i hn
  cases h
  refine⟨(n - 1).toNat,by omega,_,?_,rfl⟩
  rw[aEt,List.getElem?_eq_getElem (by simp;omega)]
  rfl
 ·cases h
theorem Rdx.op (z:Nat) {n:Int}{ps:List Pc}(h:opQ n=some ps):Rdx (eO z [[61],[33,61],[60],[60,61]] 1) (aZ ps) n []:=by
 obtain⟨j,rfl,s,hs,rfl⟩:=aAD h
 exact fun r _=>tD z _ 1 j ⟨4,s,0,0⟩ r (by decide) hs (.inr rfl)
theorem NS.tok {l:List aBs}{c:Pc}{q:List Pc}{r:List Tok}(h:∀ s∈l,dH c.t s=false):NS l (aZ (c::q)++r):=NS.cons h
theorem jE (z:Nat)(b s:aBs)(R:List Tok):aX z [s] (aZ [aD b s]++R)=.ok ((),R):=Rdx.need1 z (t:=⟨1,s,0,0⟩) (decide_eq_true ⟨rfl,.inl rfl⟩) R (NS.nil _)
theorem lC (z:Nat)(b s:aBs)(R:List Tok):aX z [s] (aZ [aL b s]++R)=.ok ((),R):=Rdx.need1 z (t:=⟨4,s,0,0⟩) (decide_eq_true ⟨rfl,.inr rfl⟩) R (NS.nil _)
theorem need_ws (z:Nat)(b s b' s':aBs)(R:List Tok):aX z [s,s'] (aZ [aD b s,aL b' s']++R)=.ok ((),R):=Rdx.need2 z (t:=⟨1,s,0,0⟩) (t':=⟨4,s',0,0⟩) (decide_eq_true ⟨rfl,.inl rfl⟩) (decide_eq_true ⟨rfl,.inr rfl⟩) R (NS.nil _)
theorem need_sw (z:Nat)(b s b' s':aBs)(R:List Tok):aX z [s,s'] (aZ [aL b s,aD b' s']++R)=.ok ((),R):=Rdx.need2 z (t:=⟨4,s,0,0⟩) (t':=⟨1,s',0,0⟩) (decide_eq_true ⟨rfl,.inr rfl⟩) (decide_eq_true ⟨rfl,.inl rfl⟩) R (NS.nil _)
theorem aCI {s:aBs}{c:Pc}{q:List Pc}{r:List Tok}(h:dH c.t s=true):cG s (aZ (c::q)++r)=.ok (true,aZ q++r):=iI h
theorem take_f {s:aBs}{c:Pc}{q:List Pc}{r:List Tok}(h:dH c.t s=false):cG s (aZ (c::q)++r)=.ok (false,aZ (c::q)++r):=fV h
theorem aAN {α:Type}{sep:aBs}{one:PM α}{l:List aBs}{c:Tok}(hc:dH c sep=true)(hcl:∀ s∈l,dH c s=false):∀(us:List (List Tok×α))(f:Nat)(acc:List α)(r:List Tok),us.length<f→(∀ p∈us,Rdx one p.1 p.2 l)→NS (sep::l) r →
  listA sep one f acc (us.flatMap (fun p=>c::p.1)++r)=.ok (acc++us.map (·.2),r)
 | [],f+1,acc,r,_,_,hr=>by
  unfold listA
  rw[aET,lnA,aDf (jW (hr sep (by simp)))]
  simp
  rfl
 | p::us,f+1,acc,r,hf,hu,hr=>by
  unfold listA
  rw[aEj,aD7,lcA,aDf (iI hc)]
  simp only[if_true]
  have h1:NS l (us.flatMap (fun p=>c::p.1)++r):=by
   cases us with
   | nil=>exact hr.sub fun s hs=>aEy _ hs
   | cons q us=>exact NS.cons hcl
  rw[aDf (hu p (by simp) _ h1)]
  rw[aAN hc hcl us f (acc++[p.2]) r (by simp at hf;omega) (fun q hq=>hu q (by simp[hq])) hr]
  simp
 | _,0,_,_,h,_,_=>by omega
theorem aBU {α:Type}{q:α→Option (List Pc)}{c:Pc}:∀ {l:List α}{ps:List Pc},aG (l.map fun y=>(q y).map (c::·))=some ps→∃ us:List (List Tok×α),us.map (·.2)=l∧aZ ps=us.flatMap (fun p=>c.t::p.1)∧∀ p∈us,∃ qs,q p.2=some qs∧p.1=aZ qs
 | [],ps,h=>by
  obtain rfl:=dO h
  exact⟨[],rfl,rfl,by simp⟩
 | y::l,ps,h=>by
  obtain⟨a,b,ha,hb,rfl⟩:=aA h
  obtain⟨qs,hq,rfl⟩:=aEi.1 ha
  obtain⟨us,h1,h2,h3⟩:=aBU hb
  refine⟨(aZ qs,y)::us,by simp[h1],?_,?_⟩
  ·rw[bJ,h2];rfl
  ·intro p hp
   rcases aEg.1 hp with rfl|hp
   ·exact⟨qs,hq,rfl⟩
   ·exact h3 p hp
theorem Rdx.listE {α:Type}{sep:aBs}{one:PM α}{l:List aBs}{c:Pc}{q:α→Option (List Pc)}{x:α}{xs:List α}{ts:List Tok}{ps:List Pc}(hc:dH c.t sep=true)(hcl:∀ s∈l,dH c.t s=false)
  (h0:Rdx one ts x l) (hq:∀(y:α) (qs:List Pc),q y=some qs→Rdx one (aZ qs) y l) (h:aG (xs.map fun y=>(q y).map (c::·))=some ps):Rdx (gX sep one) (ts++aZ ps) (x::xs) (sep::l):=by
 obtain⟨us,h1,h2,h3⟩:=aBU h
 intro r hr;have hl:NS l (aZ ps++r):=by
  rw[h2]
  cases us with
  | nil=>exact hr.sub fun s hs=>aEy _ hs
  | cons p us=>exact NS.cons hcl
 unfold gX
 rw[aD7]
 refine(aDf (f:=fun a ts=>listA sep one (ts.length+1) [a] ts) (h0 _ hl)).trans ?_
 rw[h2]
 have hlen:us.length≤(us.flatMap (fun p=>c.t::p.1)).length:=by
  clear h1 h2 h3 hl hr
  induction us with
  | nil=>simp
  | cons p us ih=>simp only[aEj,aD9,aEa];omega
 have:=aAN hc hcl us ((us.flatMap (fun p=>c.t::p.1)++r).length+1) [x] r (by simp only[aD9];omega) (fun p hp=>by obtain⟨qs,e1,e2⟩:=h3 p hp;rw[e2];exact hq _ _ e1) hr
 rw[h1]at this
 exact this
theorem qK {α:Type}{one:aBs→α→Option (List Pc)}{b:aBs}{x:α}{xs:List α}{ps:List Pc}(h:gV one b (x::xs)=some ps):∃ p q,one b x=some p∧aG (xs.map fun y=>(one [32] y).map (aL [] [44]::·))=some q∧ps=p++q:=aA h
theorem Rdx.names (z:Nat) {b:aBs}{x:aBs}{xs:List aBs}{ps:List Pc}(h:gV bB b (x::xs)=some ps):Rdx (lW z) (aZ ps) (x::xs) [[44]]:=by
 obtain⟨p,q,hp,hq,rfl⟩:=qK h
 rw[bJ]
 exact Rdx.listE (c:=aL [] [44]) (q:=bB [32]) rfl (by simp) (Rdx.name z hp) (fun y qs hy=>Rdx.name z hy) hq
theorem oS {α:Type}{one:aBs→α→Option (List Pc)}{b:aBs}{l:List α}{ps:List Pc}(h:dG one b l=some ps):∃ x xs,l=x::xs∧gV one b (x::xs)=some ps:=by
 cases l with
 | nil=>cases h
 | cons x xs=>exact⟨x,xs,rfl,h⟩
theorem aAH {s:aBs}(h:dJ s=true):∃ c r,s=c::r∧cV c=true:=by
 cases s with
 | nil=>cases h
 | cons c r =>
  simp only[dJ,aD8]at h
  exact⟨c,r,rfl,h.1.2⟩
theorem vS {s:aBs}(h:dJ s=true) {c:UInt8}{w:aBs}(hc:cV c=false)(b:aBs):dH (aD b s).t (c::w)=false:=by
 obtain⟨d,r,rfl,hd⟩:=aAH h
 refine decide_eq_false fun e=>?_
 have:d::r=c::w:=e.1
 cases this
 rw[hc]at hd
 cases hd
end Go.Proofs.YtohlogbnpfofpaaGreatDoor
