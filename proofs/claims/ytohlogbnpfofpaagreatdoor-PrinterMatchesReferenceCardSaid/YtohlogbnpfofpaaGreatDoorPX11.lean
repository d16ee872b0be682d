/- Part 11 of the proof of matches_lifted: FnXr, FnXp, FnQj, FnXs, FnEr, FnJo, FnYh, FnYs, FnYt, FnM1, FnYu, FnZs, FnZt, FnZa, FnZp, FnZb, FnZg. -/
import Derived.Lib.Builder
import Derived.Test.YtohlogbnpfofpaaGreatDoorPX10
set_option linter.all false
set_option maxHeartbeats 100000000
set_option maxRecDepth 100000
namespace Go.Proofs.YtohlogbnpfofpaaGreatDoor
open Go StillVC
theorem zR {P:Program}{s:aVs}{h:Heap}{fn:Func}{a b ta tb:Nat}{za zb:aVs}{ya yb pa pb:Nat}{u v:Value}(hf:fn.results=#[.cell a ta,.cell b tb])
  (hA:TyI P ta false za ya) (hB:TyI P tb false zb yb) (ea:sget s a=pv pa 0) (eb:sget s b=pv pb 0)
  (ca:bI h ⟨pa,0,none⟩=some u) (cb:bI h ⟨pb,0,none⟩=some v) (w:World) (hw:w.heap=h) :
  (results fn s.toArray).run P w=.ok (.tuple ⟨[u,v]⟩) w:=by
 have e1:s.toArray.getD a undef=pv pa 0:=by rw[← ea,← dS];simp
 have e2:s.toArray.getD b undef=pv pb 0:=by rw[← eb,← dS];simp
 simp only[Array.getD_eq_getD_getElem?,aEl]at e1 e2
 subst hw
 rw[← hH]at ca cb
 simp[results,hf,e1,e2,asAddr,loadVar,hA.isAgg,hB.isAgg,run_load,ca,cb]
theorem RetVC.cell22 {P:Program}{s:aVs}{h:Heap}{fn:Func}{R:Value->Heap->Prop}{a b ta tb:Nat}{za zb:aVs}{ya yb pa pb:Nat}{u v:Value}(hf:fn.results=#[.cell a ta,.cell b tb])
  (hA:TyI P ta false za ya) (hB:TyI P tb false zb yb) (ea:sget s a=pv pa 0) (eb:sget s b=pv pb 0)
  (ca:bI h ⟨pa,0,none⟩=some u) (cb:bI h ⟨pb,0,none⟩=some v) (hr:R (.tuple ⟨[u,v]⟩) h):RetVC P fn s h R where
 ex:=⟨_,λw hw=>zR hf hA hB ea eb ca cb w hw,hr⟩
theorem StillVC.assertOne {pr:Bool}{P:Program}{ty:TypeId}{s:aVs}{h:Heap}{K:KK}{t tx:TypeId}{x:Operand}{v:Value}(hb:lH P t=true)(hx:ev s x=.iface t v)(hk:K v false h):StillVC pr P (.typeAssert x tx t false) ty s h K:=by
 refine .pure' _ false (λw=>?_) hk;unfold lH at hb;split at hb
 ·cases hb
 ·rename_i d hd hne
  simp only[execOp,hx,Instr.typeAssert,Sem.run_bind,run_underlying hne,Result.andThen_ok]
  cases d<;>simp_all
 ·cases hb
def xA (p q v:Value):aVs:=[p,q,v,v,undef,undef,undef,undef]
theorem sN (p q:Value):Recovers Tryz.prog (match Tryz.f18.body with|some (.seq (.region _ ops _) _)=>ops|_=>#[]) ([p,q]++List.replicate (8 - [p,q].length) undef) (xA p q):=by
 intro cs w Q hQ;unfold wpOpsS
 simp[Tryz.f18,List.range,List.range.loop,wpOpsS,Region.wanted,yielded,execOp,resolve,invoke,builtin,act,Act.put]
 cases hrec:recoverD cs with
 | none=>exact hQ _ _ (.inr ⟨hrec,rfl,rfl⟩)
 | some x=>exact hQ _ _ (.inl hrec)
theorem pX (s:aVs)(h:Heap)(R:Ending->Heap->Prop)(p q:Value)
  (hr:RetVC Tryz.prog Tryz.f11 s h λv h=>R (.returned v) h) :
  LeaveVC Tryz.prog Tryz.f11 ⟨.fn (.func 18) ⟨[p,q]⟩,#[]⟩ .returning s h R:=by
 refine LeaveVC.recovers (f:=xA p q) .nilIface Tryz.func18 rfl (n:=8) k_ k_ rfl (.inl ⟨rfl,rfl⟩) (sN p q) ?_;refine rR (neI aB7 a_ ?_);refine aDL ?_;exact hr
theorem wleave_err (s:aVs)(h:Heap)(R:Ending->Heap->Prop)(B:Base)(b2 b3:Nat)(x y:Value)
  (o0:Own B [box b2 [x] 9,box b3 [y] 27] h)
  (h2:sget s 2=pv b2 0) (h3:sget s 3=pv b3 0)
  (hR:∀ h',Own B [] h'->R (.returned (.tuple ⟨[sv [],iv 1]⟩)) h') :
  LeaveVC Tryz.prog Tryz.f11 ⟨.fn (.func 18) ⟨[pv b2 0,pv b3 0]⟩,#[]⟩ (.panicking xZ) s h R:=by
 refine LeaveVC.recovers (f:=xA (pv b2 0) (pv b3 0)) (.iface 27 (iv 1)) Tryz.func18 rfl (n:=8) k_ k_ rfl (.inr rfl) (sN _ _) ?_;refine rR (neI aB7 a_ ?_);refine aDK (d1_ [0,1] [] [2,3] [0,1,2,3] ?_);refine assertOne k_ rfl ?_;(refine sB o0 0 aC ?_;intro m12 o12);(refine sB o12 1 jM ?_;intro m13 o13);exact RetVC.cell22 rfl aC jM h2 h3 (o13.cellB 0 rfl 0) (o13.cellB 1 rfl 0) (hR _ (o13.sel [] rfl))
theorem aCW {w:World}{p:Addr}{n i:Nat}(h:i≠p.block):(w.freeze p n).heap[i]?=w.heap[i]?:=by
 unfold World.freeze;split
 ·rfl
 ·show(w.heap.modify p.block _)[i]?=_
  rw[Array.getElem?_modify,if_neg (λe=>h e.symm)]
section
variable {P : Program} {ty : TypeId} {s : aVs} {B : Base} {h : Heap} {L : List Item} {K : KK} {Q : QQ}
theorem RunVC.unsafeStrB {pt it e:TypeId}{x y:Operand}{g n cap:Nat}{bs:aBs}(o:Own B L h)(k:Nat)(hk:L[k]?=some (row (.slice (some ⟨g,0,none⟩) n cap) e 1 n (bytes bs)))(hp:P.underlying pt=some (.pointer e))(hc:P.cellsOf e=1)(hb:bs≠[])
  (hx:ev s x=pv g 0) (hy:ev s y=iv n) (hK:∀ h',Own B (L.set k iV) h'->K (sv bs) false h'):RunVC P (.call ⟨.builtin .unsafeString,⟨[x,y]⟩,⟨[pt,it]⟩⟩) ty s h K Q:=by
 refine .of λw hw=>?_;subst hw;have hm:=aDY hk;have hr:uE w.heap e 1 (.slice (some ⟨g,0,none⟩) n cap) n (bytes bs):=o.sat _ hm;have hlo:B.h.size<=g:=OwnR.lo o _ (List.mem_append_left _ hm) g rfl
 obtain⟨hlen,hr⟩:=hr
 have hn:n=bs.length:=by simp at hlen;omega
 subst hn
 rcases hr with ⟨hv,_⟩|⟨g',cap',cur,hv,hg,hnc,hcm,hcs,ht⟩
 ·cases hv
 ·cases hv
  have hown:w.ownsRow B.h.size e 1 (.slice (some ⟨g,0,none⟩) bs.length cap) bs.length (bytes bs):=⟨hlen,.inr ⟨g,cap,cur,rfl,hlo,hg,hnc,hcm,hcs,ht⟩⟩;have hUS:=Lib.run_unsafeString_row (P:=P) w pt it ty e hp hc g cur.size (by simp[World.shape?,hg]) bs hb zO (by unfold maxLen at hcm;omega) (λj x hj=>hown.cells (g:=g) rfl j (.int .u8 x.toNat) (by simp[bytes,hj]));have hB:=Lib.below_freeze (RowKit.Below.refl B.h.size w) (p:=⟨g,0,none⟩) hlo bs.length
  refine⟨_,false,w.freeze ⟨g,0,none⟩ bs.length,by simp[execOp,resolve,invoke,builtin,hx,hy,hUS],⟨hB.os,hB.tape,hB.output,hB.size⟩,hK _ ?_⟩
  exact o.set hk hB.size (λi _ hi=>aCW (λe=>hi (by subst e;rfl))) trivial (λ_ hf=>hf.elim) (λ_ hf=>hf.elim)
end
theorem wText2_spec (b:Nat)(p v:Value)(k:Int)(bs:aBs)(h:Heap)(h0:Base)(hv:bs=[]->v=.slice none 0 0)(o0:Own h0 [box b [p,v,iv k] 58,row v 5 1 bs.length (bytes bs)] h) :
  bG Tryz.prog 21 [pv b 0] h λr h'=>r=sv bs/\Own h0 [] h':=by
 refine eN Tryz.func21 Tryz.ntmps21 ?_;by_cases hb:bs=[]
 ·obtain rfl:=hv hb
  subst hb;refine d1_ [0,1,2,5,6,7,9,11] [3,8] [10] [0,1,2,3,5,6,7,8,9,4,10,11] ?_;refine nC rfl ?_;refine fC wT ?_;refine oC o0 0 nI ?_;refine nC rfl ?_;refine fC wT ?_;refine oC o0 0 nI ?_;refine aDz rfl iH ?_;refine RunVC.sliceDataNil rfl ?_;refine aI (Ext.refl _) ?_;refine RunVC.unsafeStrNil rfl rfl ?_;refine rO ?_
  exact⟨rfl,o0.sel [] rfl⟩
 ·have hr:uE h 5 1 v bs.length (bytes bs):=o0.sat _ (aDY (i:=1) rfl)
  have hl:bs.length≠0:=by simpa using hb
  obtain⟨g,cap,hc,rfl⟩:∃ g cap,cap≠0/\v=.slice (some ⟨g,0,none⟩) bs.length cap:=by
   rcases hr.2 with ⟨_,e⟩|⟨g,cap,cur,hv,_,hnc,_⟩
   ·exact absurd e hl
   ·exact⟨g,cap,by omega,hv⟩
  refine d1_ [0,1,2,5,6,7,9,11] [3,8] [10] [0,1,2,3,5,6,7,8,9,4,10,11] ?_;refine nC rfl ?_;refine fC wT ?_;refine oC o0 0 nI ?_;refine nC rfl ?_;refine fC wT ?_;refine oC o0 0 nI ?_;refine aDz rfl iH ?_;refine RunVC.sliceData rfl hc ?_;refine aI (Ext.refl _) ?_;refine RunVC.unsafeStrB o0 1 rfl k_ k_ hb rfl rfl ?_;intro h1 o1;clear o0;have o2:=o1.sel [] rfl;clear o1;refine rO ?_
  exact⟨rfl,o2⟩
mutual
theorem exQ_iff:∀(x y:Ex),ExQ pB x y↔aAm x=aAm y
 | .mk k t ks c n a s g o,.mk k' t' ks' c' n' a' s' g' o'=>by
  rw[ExQ,aAm,aAm,aA9 ks ks']
  constructor
  ·rintro⟨rfl,rfl,rfl,rfl,rfl,rfl,rfl,_,h⟩
   rw[h]
  ·intro h
   injection h with h1 h2 h3 h4 h5 h6 h7 h8
   exact⟨h1,h2,h4,h5,h6,h7,h8,trivial,h3⟩
theorem aA9:∀(xs ys:List Ex),wM pB xs ys↔pG xs=pG ys
 | [],[]=>by simp[wM]
 | x::xs,y::ys=>by
  rw[wM,pG,pG,exQ_iff x y,aA9 xs ys,List.cons.injEq]
 | [],_::_=>by simp[wM,pG]
 | _::_,[]=>by simp[wM,pG]
end
theorem pV (a b:List It):iO (a++b)=match iO a,iO b with
  | some x,some y=>some (x++y)
  | _,_=>none:=by
 unfold iO
 rw[List.mapM_append]
 cases a.mapM iB<;>cases b.mapM iB<;>rfl
theorem Spec.enterD1 {P:Program}{f:FuncId}{fn:Func}{r0 rest:Code}{id n:Nat}{ops:Array Oper}{args:aVs}{h:Heap}{R:Ending->Heap->Prop}
  (hf:P.funcs[f]?=some fn) (hb:fn.body=some (.seq r0 (.seq (.region id ops false) rest))) (hn:fn.ntmps=n) (hname:(fn.name == "runtime.NumGoroutine")=false)
  (hv:nL args n λs=>vcode P r0 (zY (λs h=>DeferVC P fn id ops rest R s h) (zV P fn R)) s h):Spec P f args h R:=by
 refine⟨⟨fn,hf,by simp[hb],hname⟩,λw hw=>?_⟩
 subst hw
 rw[oJ]at hv
 have he:act (args++List.replicate (n - args.length) undef) []={ tmps:=args.toArray++Array.replicate (fn.ntmps - args.toArray.size) undef,defers:=[] }:=by
  simp[act,hn]
 have leave0:∀ e s' w',Same w w'->zV P fn R e s' w'.heap->bodyPostD P fn (λe w'=>Same w w'/\R e w'.heap) e (act s' []) w':=by
  intro e s' w' hs hq;cases e with
  | normal=>obtain⟨v,hr,hR⟩:=hq.ex;exact⟨v,hr w' rfl,hs,hR⟩
  | ret=>obtain⟨v,hr,hR⟩:=hq.ex;exact⟨v,hr w' rfl,hs,hR⟩
  | panic c=>exact⟨hs,hq⟩
  | _=>exact hq.elim
 refine calls_of_wp_defers hf hb ?_
 rw[← he]
 refine wp_seq (wp_mono (eH (w0:=w) (ds:=[]) r0 _ _ w (.refl w) hv) ?_);rintro e a w2 ⟨s2,rfl,hs2,hq⟩;cases e with
 | normal =>
  obtain⟨s3,d,hd,hr⟩:=hq.ex
  refine wp_seq (hd w2 _ (wp_mono (eH (w0:=w) (ds:=[d]) rest _ _ w2 hs2 (jL rest (Q':=aAY P fn d R) (λe s h hq=>?_) _ _ hr)) ?_))
  ·cases e<;>first|exact hq|exact hq.elim
  ·rintro e a w3 ⟨s4,rfl,hs3,hq⟩
   cases e with
   | normal=>exact hq.lv w w3 hs3 rfl
   | ret=>exact hq.lv w w3 hs3 rfl
   | panic c=>exact hq.lv w w3 hs3 rfl
   | _=>exact hq.elim
 | ret=>exact leave0 .ret s2 w2 hs2 hq
 | panic c=>exact leave0 (.panic c) s2 w2 hs2 hq
 | _=>exact hq.elim
theorem qX (xs:List It)(va:Value)(h:Heap)(hT:kQ h)(hF:iY h)(hP:qH h va xs)(hOK:∀ x∈xs,fO x)(hsz:∀ x∈xs,dF x<=50000000)(hn:xs.length<=210) :
  bG Tryz.prog 11 [.agg ⟨[va]⟩] h λr h'=>r=.tuple ⟨[sv ((gR xs).1),iv (gR xs).2]⟩/\Own h [] h':=by
 obtain⟨ca,q1,q2,q3⟩:=hP
 obtain⟨ya,yc,rfl⟩:=q1.isS
 refine Spec.enterD1 Tryz.func11 rfl (n:=54) k_ k_ ?_;have o0:=Own.refl h;refine xB o0 λb10 m10 o10=>?_;refine aDH o10 aC λb11 m11 o11=>?_;refine aDH o11 jM λb12 m12 o12=>?_;refine DeferVC.closureP (λc s hh=>c=xZ/\iO xs=none/\sget s 2=pv b11 0/\sget s 3=pv b12 0/\Own h [box b11 [sv []] 9,box b12 [iv 0] 27] hh) zS ?_;refine aI ?_ ?_
 ·rintro c s hh ⟨rfl,hno,s2,s3,oo⟩
  refine wleave_err s hh _ h b11 b12 _ _ oo s2 s3 λh' o'=>?_;have hp:gR xs=([],1):=by unfold gR;rw[hno]
  exact⟨by rw[hp],o'⟩
 refine rR (aDd cC ?_);refine xB o12 λb41 m41 o41=>?_;refine fB mD ?_;refine oB o41 0 nQ ?_;refine lB mW ?_;have on:Own h [box b41 [.pointer none,.slice none 0 0,.int .i64 0] 58,row (.slice none 0 0) 5 1 0 [],box b11 [.string ⟨⟨[]⟩⟩] 9,box b12 [.int .i64 0] 27,box b10 [.slice ya xs.length yc] 24] m41:=(o41.nilRow 5 1).sel [3,4,1,2,0] rfl;clear o41;refine aDT [5,7,14,15,16,17,18,19,20,21,22,23,24] [5,14] (λvs hh=>∃(i:Nat) (p' v':Value) (bs':aBs) (k':Int) (ls:List (List Pc)),i<=xs.length/\vs=[.bool ((xs.take i).all jI),.int .i64 i]/\dI b41 p'/\iO (xs.take i)=some ls/\bs'=kC ls/\k'=kH ls/\(bs'=[]->v'=.slice none 0 0)/\bs'.length<=150000000000*i/\k'<=150000000000*i/\Own h [box b41 [p',v',.int .i64 k'] 58,row v' 5 1 bs'.length (bytes bs'),box b11 [.string ⟨⟨[]⟩⟩] 9,box b12 [.int .i64 0] 27,box b10 [.slice ya xs.length yc] 24] hh) (λvs _=>match vs with|[_,.int _ i]=>xs.length - i.toNat|_=>0) ?_ ?_
 ·exact⟨0,_,_,[],0,[],by omega,rfl,.inl rfl,rfl,rfl,rfl,λ_=>rfl,by simp,by omega,on⟩
 rintro vs junk hh ⟨i,p',v',bs',k',ls,hi,rfl,hp',hQ,hb',hk',hnil,hbl,hkl,oh⟩;clear on;by_cases hlt:i<xs.length
 ·obtain⟨x,hx⟩:=getx hlt
  obtain⟨cx,hcx,hrx⟩:=q3 i x hx
  have hxOK:=hOK x (aDY hx);have hxs:=hsz x (aDY hx);have hrx2:=hrx
  obtain⟨cxv,hcl⟩:=cx
  have hlev:=aBc x.expr;have hszx:fD x.expr<=dF x:=by unfold dF;omega
  obtain⟨z,vc,vn,vt,vf,vv,vd,e0,e1,e2,e3,e4,e5,e6,e7,e8,hcv,w1,w2,w3,w4,w5,w6,rx⟩:=hrx2
  dsimp only at hcv hrx;subst hcv;have hlevx:dE x.expr<=100000000000:=by omega
  cases hex:x.expr with
  | mk xk xt xks xcs xns xa xs_ xg xo =>
  rw[hex,fT]at rx
  obtain⟨wk,wc,wn,wz,hcv,g1,g2,gx,g3,_⟩:=rx
  obtain⟨h1,h2,rfl⟩:=g1.isS
  obtain⟨h3,h4,rfl⟩:=g2.isS
  obtain⟨h5,h6,rfl⟩:=g3.isS
  unfold kG at hcv
  simp only[List.cons.injEq,and_true]at hcv
  obtain⟨rfl,rfl,rfl,rfl,rfl,rfl,rfl,rfl,rfl⟩:=hcv
  obtain⟨i1,j1,rfl⟩:=w1.isS
  obtain⟨i2,j2,rfl⟩:=w2.isS
  obtain⟨i3,j3,rfl⟩:=w3.isS
  obtain⟨i4,j4,rfl⟩:=w4.isS
  obtain⟨i5,j5,rfl⟩:=w5.isS
  obtain⟨i6,j6,rfl⟩:=w6.isS
  unfold eD at hcx hrx hcl;clear w1 w2 w3 w4 w5 w6 g1 g2 g3;refine bB λc100=>rR (aDe mW bU (q1.ext oh.ext) rfl zO zO ?_);refine rR (aDg bU (q1.ext oh.ext) (λy:kB=>y.2) zD rfl zA ?_);refine aDH oh bU λb103 m103 o103=>?_;(refine sA o103 5 bU ?_;intro m104 o104);refine nB o104 5 bU ?_;have hsp:=prItem_spec ⟨h,[box b11 [sv []] 9,box b12 [iv 0] 27,box b10 [.slice ya xs.length yc] 24]⟩ b41 p' v' k' bs' x _ _ hp' hT hF hxOK hrx (by first|exact hlevx|(rw[hex];exact hlevx)) ((o104.sel [0,1,2,3,4] rfl).lend [0,1] [2,3,4] rfl) zO zO;unfold LEnds at hsp;have ht:xs.take (i+1)=xs.take i++[x]:=by rw[aEr,hx];simp
  refine aDO hsp (λ_ m2 ⟨ps,p2,v2,hq,hr,hp2,hl2,hl3,o2⟩=>?_) (λ_ m2 ⟨hq,hr,o2⟩=>?_)
  case refine_2 =>
   subst hr;have o3:Own h [box b11 [sv []] 9,box b12 [iv 0] 27,box b10 [.slice ya xs.length yc] 24] m2:=Own.back (B:=⟨h,[]⟩) (J:=[box b11 [sv []] 9,box b12 [iv 0] 27,box b10 [.slice ya xs.length yc] 24]) (K:=[]) o2;have h1:iO [x]=none:=by simp[iO,hq]
   have h2:iO (xs.take i++[x])=none:=by rw[pV,hQ,h1]
   have h3:iO xs=none:=by
    have:=pV (xs.take i++[x]) (xs.drop (i+1))
    rw[h2,← ht,aEw]at this
    exact this
   exact⟨rfl,h3,rfl,rfl,o3.sel [0,1] rfl⟩
  subst hr;have o3:Own h [box b41 [p2,v2,iv (k'+ps.length)] 58,row v2 5 1 (bs'++kD ps).length (bytes (bs'++kD ps)),box b11 [sv []] 9,box b12 [iv 0] 27,box b10 [.slice ya xs.length yc] 24] m2:=Own.back (B:=⟨h,[]⟩) (J:=[box b11 [sv []] 9,box b12 [iv 0] 27,box b10 [.slice ya xs.length yc] 24]) (K:=[box b41 [p2,v2,iv (k'+ps.length)] 58,row v2 5 1 (bs'++kD ps).length (bytes (bs'++kD ps))]) o2;clear o2 hsp o104;have h1:iO [x]=some [ps]:=by simp[iO,hq]
  have h2:iO (xs.take (i+1))=some (ls++[ps]):=by rw[ht,pV,hQ,h1]
  have htx:bs'++kD ps=kC (ls++[ps]):=by rw[hb'];simp[kC]
  have hct:k'+(ps.length:Int)=(kH (ls++[ps]):Nat):=by rw[hk'];simp[kH]
  have hne:bs'++kD ps=[]->v2=.slice none 0 0:=λh=>by simp[kD]at h
  have hal:(xs.take (i+1)).all jI=((xs.take i).all jI&&jI x):=by rw[ht,List.all_append];simp
  have hlen:(bs'++kD ps).length<=150000000000*(i+1):=by rw[aDX];omega
  cases hfx:jI x with
  | true =>
   refine aDK (aR ?_)
   refine⟨rfl,?_⟩
   exact⟨⟨i+1,p2,v2,_,_,ls++[ps],by omega,by rw[hal,hfx,aEj];rfl,hp2,h2,htx,hct,hne,hlen,by omega,o_ [0,1,2,3,4]⟩,by simp;omega⟩
  | false =>
   refine aDL (aR ?_)
   refine⟨rfl,?_⟩
   exact⟨⟨i+1,p2,v2,_,_,ls++[ps],by omega,by rw[hal,hfx,aED];rfl,hp2,h2,htx,hct,hne,hlen,by omega,o_ [0,1,2,3,4]⟩,by simp;omega⟩
 ·have hd:xs.take i=xs:=aEa zO
  rw[hd]at hQ ⊢
  have hM:gR xs=if xs.all jI=true/\xs.length<=200/\kH ls<=5000/\(kC ls).length<=20000 then(kC ls,0) else([],3):=by unfold gR;rw[hQ]
  by_cases hf:xs.all jI=true
  case neg =>
   have hpr:gR xs=([],3):=hM.trans (if_neg (λhh=>hf hh.1));have hfb:(!xs.all jI)=true:=by simpa using hf
   refine bA λc400=>Br.ttE hfb ?_;refine aDK ?_;(refine sA oh 2 aC ?_;intro m402 o402);(refine sA o402 3 jM ?_;intro m403 o403);refine pX _ _ _ _ _ ?_;refine RetVC.cell22 rfl aC jM rfl rfl (Own.cellB zA 2 rfl 0) (Own.cellB zA 3 rfl 0) ?_
   exact⟨by rw[hpr],o_ []⟩
  have hfb:(!xs.all jI)=false:=by rw[hf];rfl
  by_cases hn2:xs.length<=200
  case neg =>
   have hpr:gR xs=([],3):=hM.trans (if_neg (λhh=>hn2 hh.2.1));refine bA λc450=>Br.ffE hfb ?_;refine fB mD ?_;refine oB oh 4 nQ ?_;refine lB mW ?_;refine bB λc455=>aDK ?_;(refine sA oh 2 aC ?_;intro m456 o456);(refine sA o456 3 jM ?_;intro m457 o457);refine pX _ _ _ _ _ ?_;refine RetVC.cell22 rfl aC jM rfl rfl (Own.cellB zA 2 rfl 0) (Own.cellB zA 3 rfl 0) ?_
   exact⟨by rw[hpr],o_ []⟩
  by_cases hc:kH ls<=5000
  case neg =>
   have hpr:gR xs=([],3):=hM.trans (if_neg (λhh=>hc hh.2.2.1));refine bA λc500=>Br.ffE hfb ?_;refine fB mD ?_;refine oB oh 4 nQ ?_;refine lB mW ?_;refine bA λc505=>cB ?_;refine fB cC ?_;refine fB aAq ?_;refine oB oh 0 aK ?_;refine bB λc510=>aDK ?_;(refine sA oh 2 aC ?_;intro m511 o511);(refine sA o511 3 jM ?_;intro m512 o512);refine pX _ _ _ _ _ ?_;refine RetVC.cell22 rfl aC jM rfl rfl (Own.cellB zA 2 rfl 0) (Own.cellB zA 3 rfl 0) ?_
   exact⟨by rw[hpr],o_ []⟩
  refine bA λc550=>Br.ffE hfb ?_;refine fB mD ?_;refine oB oh 4 nQ ?_;refine lB mW ?_;refine bA λc555=>cB ?_;refine fB cC ?_;refine fB aAq ?_;refine oB oh 0 aK ?_;refine bA λc560=>cB ?_;refine fB cC ?_;refine fB aAq ?_;refine aDN (wLen_spec b41 p' v' k' bs' _ ⟨h,[box b11 [sv []] 9,box b12 [iv 0] 27,box b10 [.slice ya xs.length yc] 24]⟩ (oh.lend [0,1] [2,3,4] rfl)) ?_;rintro _ m6 ⟨rfl,oc⟩;have o6:=oc.thenE (B:=h) oh;by_cases hlen:(kC ls).length<=20000
  case neg =>
   have hpr:gR xs=([],3):=hM.trans (if_neg (λhh=>hlen hh.2.2.2))
   rw[← hb']at hlen
   refine bB λc600=>?_;(refine sA o6 2 aC ?_;intro m601 o601);(refine sA o601 3 jM ?_;intro m602 o602);refine pX _ _ _ _ _ ?_;refine RetVC.cell22 rfl aC jM rfl rfl (Own.cellB zA 2 rfl 0) (Own.cellB zA 3 rfl 0) ?_
   exact⟨by rw[hpr],o_ []⟩
  have hpr:gR xs=(kC ls,0):=hM.trans (if_pos ⟨hf,hn2,hc,hlen⟩)
  rw[← hb']at hlen
  refine bA λc650=>cB ?_;refine fB cC ?_;refine fB aAq ?_;refine aDN (wText2_spec b41 p' v' k' bs' _ ⟨h,[box b11 [sv []] 9,box b12 [iv 0] 27,box b10 [.slice ya xs.length yc] 24]⟩ hnil (o6.lend [0,1] [2,3,4] rfl)) ?_;rintro _ m7 ⟨rfl,oc7⟩;have o7:Own h [box b11 [sv []] 9,box b12 [iv 0] 27,box b10 [.slice ya xs.length yc] 24] m7:=Own.back (B:=⟨h,[]⟩) (J:=[box b11 [sv []] 9,box b12 [iv 0] 27,box b10 [.slice ya xs.length yc] 24]) (K:=[]) oc7;clear oc7 o6;(refine sA o7 0 aC ?_;intro m700 o700);(refine sA o700 1 jM ?_;intro m701 o701);refine pX _ _ _ _ _ ?_;refine RetVC.cell22 rfl aC jM rfl rfl (Own.cellB zA 0 rfl 0) (Own.cellB zA 1 rfl 0) ?_
  exact⟨by rw[hpr,hb'],o_ []⟩
def aJ {α:Type}(m:PM α):Prop:=∀ ts e o,m ts=.error (e,o)->e≠0
theorem aJ.pure {α:Type}(a:α):aJ (Pure.pure a:PM α):=by
 intro ts e o h;cases h
theorem aJ.bind {α β:Type}{m:PM α}{f:α->PM β}(hm:aJ m)(hf:∀ a,aJ (f a)):aJ (m >>= f):=by
 intro ts e o h;cases hq:m ts with
 | error y=>rw[aC9 hq]at h;cases h;exact hm _ _ _ hq
 | ok p =>
  obtain⟨a,q⟩:=p
  rw[aDa hq]at h
  exact hf a _ _ _ h
theorem aJ.take (s:aBs):aJ (fP s):=λts e o h=>absurd h (dX _ _ _)
theorem stopE_ne (z:Nat) {e:Int}(he:e≠0)(ts:List Tok):(aBR z e ts).1≠0:=by
 cases ts with
 | nil=>show(7:Int)≠0;decide
 | cons t r=>exact he
theorem aJ.fail {α:Type}(z:Nat)(e:Int)(he:e≠0):aJ (aCc z e:PM α):=by
 intro ts e' o h;have h':(Except.error (aBR z e ts):Except (Int×Nat) (α×List Tok))=.error (e',o):=h
 have:=stopE_ne z he ts
 injection h' with h'
 rw[h']at this
 exact this
theorem aJ.kind (z:Nat)(k:Int):aJ (oW z k):=by
 intro ts e o h;cases ts with
 | nil=>cases h;decide
 | cons t r =>
  unfold oW at h;dsimp only at h;split at h
  ·cases h
  ·cases h;decide
theorem aJ.name (z:Nat):aJ (gB z):=aJ.bind (aJ.kind z 1) λ_=>aJ.pure _
theorem aJ.num (z:Nat):aJ (rB z):=aJ.bind (aJ.kind z 2) λ_=>aJ.pure _
theorem aJ.need:∀(z:Nat)(ss:List aBs),aJ (cO z ss)
 | _,[]=>aJ.pure _
 | z,s::ss=>aJ.bind (aJ.bind (aJ.take s) λb=>by cases b<;>first|exact aJ.fail _ _ zD|exact aJ.pure _) λ_=>aJ.need z ss
theorem aJ.word:∀(z:Nat)(ss:List aBs)(i:Int),aJ (iJ z ss i)
 | z,[],_=>aJ.fail z 4 zD
 | z,s::ss,i=>aJ.bind (aJ.take s) λb=>by cases b<;>first|exact aJ.word z ss (i+1)|exact aJ.pure _
theorem aJ.ifP {α:Type}{c:Bool}{m:PM α}{d:α}(h:aJ m):aJ (ifP c m d):=by
 unfold Go.Proofs.YtohlogbnpfofpaaGreatDoor.ifP;split
 ·exact h
 ·exact aJ.pure _
theorem aJ.opt {α:Type}{s:aBs}{m n:PM α}(h1:aJ m)(h2:aJ n):aJ (fP s >>= λb=>if b=true then m else n):=aJ.bind (aJ.take s) λb=>by cases b<;>assumption
theorem aJ.lit (z:Nat):aJ (litE z) :=
 aJ.opt (aJ.bind (aJ.num z) λ_=>aJ.pure _) (aJ.opt (aJ.bind (aJ.num z) λ_=>aJ.pure _) (aJ.opt (aJ.pure _) (aJ.opt (aJ.pure _) (aJ.opt (aJ.pure _) (aJ.pure _)))))
theorem aJ.literal (z:Nat):aJ (kM z):=by
 intro ts e o h;cases ts with
 | nil=>cases h
 | cons t q =>
  unfold kM at h;dsimp only at h;split at h
  ·cases h
  ·split at h
   ·cases h
   ·exact aJ.lit z _ _ _ h
theorem aJ.value (z:Nat):aJ (wO z):=aJ.bind (aJ.literal z) λo=>by cases o<;>first|exact aJ.fail _ _ zD|exact aJ.pure _
theorem aJ.side (z:Nat):aJ (aBZ z):=aJ.bind (aJ.literal z) λo=>by
 cases o with
 | some v=>exact aJ.pure _
 | none=>exact aJ.bind (aJ.name z) λ_=>aJ.opt (aJ.bind (aJ.name z) λ_=>aJ.pure _) (aJ.pure _)
theorem aJ.cond (z:Nat):aJ (aCk z) :=
 aJ.bind (aJ.side z) λ_=>aJ.bind (aJ.word _ _ _) λ_=>aJ.bind (aJ.side z) λ_=>aJ.opt (aJ.bind (aJ.num z) λ_=>aJ.pure _) (aJ.opt (aJ.bind (aJ.num z) λ_=>aJ.pure _) (aJ.pure _))
theorem aJ.column (z:Nat):aJ (uC z) :=
 aJ.bind (aJ.name z) λ_=>aJ.bind (aJ.word _ _ _) λ_=>aJ.opt (aJ.bind (aJ.value z) λ_=>aJ.pure _) (aJ.pure _)
theorem aJ.fixed (z:Nat):aJ (xV z):=aJ.bind (aJ.name z) λ_=>aJ.bind (aJ.need _ _) λ_=>aJ.bind (aJ.value z) λ_=>aJ.pure _
theorem aJ.var (z:Nat):aJ (varP z):=aJ.bind (aJ.name z) λ_=>aJ.bind (aJ.name z) λ_=>aJ.pure _
theorem aJ.term (z:Nat):aJ (yH z) :=
 aJ.bind (aJ.name z) λ_=>aJ.bind (aJ.word _ _ _) λ_=>aJ.bind (aJ.ifP (aJ.num z)) λ_=>aJ.bind (aJ.need _ _) λ_=>aJ.bind (aJ.num z) λ_=>aJ.bind (aJ.opt (aJ.num z) (aJ.pure _)) λ_=>aJ.bind (aJ.need _ _) λ_=>aJ.bind (aJ.num z) λ_ =>
  aJ.bind (aJ.opt (aJ.num z) (aJ.pure _)) λ_=>aJ.bind (aJ.need _ _) λ_=>aJ.pure _
theorem aJ.listA {α:Type}{sep:aBs}{one:PM α}(h:aJ one):∀(n:Nat)(acc:List α),aJ (Go.Proofs.YtohlogbnpfofpaaGreatDoor.listA sep one n acc)
 | 0,_=>aJ.pure _
 | n+1,acc=>aJ.opt (aJ.bind h λ_=>aJ.listA h n _) (aJ.pure _)
theorem aJ.list {α:Type}{sep:aBs}{one:PM α}(h:aJ one):aJ (nE sep one):=aJ.bind h λ_ ts e o h'=>aJ.listA h _ _ ts e o h'
theorem aJ.names (z:Nat):aJ (sY z):=aJ.list (aJ.name z)
theorem aJ.namesU (z:Nat)(s:aBs):aJ (Go.Proofs.YtohlogbnpfofpaaGreatDoor.namesU z s):=by
 intro ts e o h;cases hb:cJ [s] ts with
 | true=>rw[rD hb]at h;cases h
 | false=>rw[oE hb]at h;exact aJ.names z _ _ _ h
theorem aJ.conds (z:Nat):aJ (vD z):=aJ.bind (aJ.need _ _) λ_=>aJ.list (aJ.cond z)
theorem aJ.place (z:Nat):aJ (sQ z):=aJ.bind (aJ.name z) λ_=>aJ.bind (aJ.need _ _) λ_=>aJ.bind (aJ.name z) λ_=>aJ.pure _
theorem aJ.termsA (z:Nat):∀(n:Nat)(acc:List Trm),aJ (Go.Proofs.YtohlogbnpfofpaaGreatDoor.termsA z n acc)
 | 0,_=>aJ.pure _
 | n+1,acc=>by
  intro ts e o h;cases hb:cJ [[125]] ts with
  | true=>rw[uO hb]at h;cases h
  | false=>rw[wQ hb]at h;exact(aJ.bind (aJ.term z) λ_=>aJ.termsA z n _) _ _ _ h
theorem aJ.rest (z i off:Nat)(kids:List Ex):aJ (gZ z i off kids):=by
 match i with
 | 0=>exact aJ.bind (aJ.conds z) λ_=>aJ.pure _
 | 1=>exact aJ.bind (aJ.need _ _) λ_=>aJ.bind (aJ.namesU _ _) λ_=>aJ.pure _
 | 2=>exact aJ.pure _
 | 3=>exact aJ.pure _
 | 4=>exact aJ.pure _
 | 5=>exact aJ.bind (aJ.need _ _) λ_=>aJ.bind (aJ.name z) λ_=>aJ.bind (aJ.need _ _) λ_=>aJ.bind (aJ.name z) λ_=>aJ.pure _
 | 6=>exact aJ.bind (aJ.need _ _) λ_=>aJ.bind (aJ.namesU _ _) λ_=>aJ.bind (aJ.need _ _) λ_=>aJ.bind (aJ.word _ _ _) λ_=>aJ.bind (aJ.ifP (aJ.name z)) λ_=>aJ.bind (aJ.need _ _) λ_=>aJ.bind (aJ.name z) λ_=>aJ.pure _
 | n+7=>exact aJ.pure _
theorem aJ.expr (z:Nat):∀(n:Nat),aJ (dQ z n)
 | 0=>aJ.fail z 3 zD
 | n+1=>by
  intro ts e o h
  rw[dQ]at h
  cases ho:vW ts with
  | none =>
   simp only[ho]at h
   exact(aJ.bind (aJ.name z) λ_=>aJ.pure _) _ _ _ h
  | some i =>
   simp only[ho]at h
   exact(aJ.bind (aJ.need _ _) λ_=>aJ.bind (aJ.expr z n) λ_=>aJ.bind (aJ.ifP (aJ.bind (aJ.need _ _) λ_=>aJ.bind (aJ.expr z n) λ_=>aJ.pure _)) λ_=>aJ.bind (aJ.rest _ _ _ _) λ_=>aJ.bind (aJ.need _ _) λ_=>aJ.pure _) _ _ _ h
theorem aJ.ite {α:Type}{p:Prop} [Decidable p] {m n:PM α}(hm:aJ m)(hn:aJ n):aJ (if p then m else n):=by
 split
 ·exact hm
 ·exact hn
theorem aJ.unique (z:Nat)(x:It):aJ (qP z x):=aJ.bind (aJ.need _ _) λ_=>aJ.bind (aJ.name z) λ_=>aJ.bind (aJ.need _ _) λ_=>aJ.bind (aJ.names z) λ_=>aJ.bind (aJ.need _ _) λ_=>aJ.pure _
theorem aJ.part (z:Nat)(k:Int)(x:It):aJ (uI z k x):=by
 unfold uI;refine aJ.ite ?_ (aJ.ite ?_ (aJ.ite ?_ (aJ.ite ?_ (aJ.ite ?_ (aJ.ite ?_ (aJ.ite ?_ (aJ.ite ?_ (aJ.ite ?_ ?_))))))))
 ·exact aJ.bind (aJ.need _ _) λ_=>aJ.bind (aJ.list (aJ.column z)) λ_=>aJ.bind (aJ.need _ _) λ_=>aJ.bind (aJ.names z) λ_=>aJ.pure _
 ·exact aJ.bind (aJ.need _ _) λ_=>aJ.bind (aJ.num z) λ_=>aJ.pure _
 ·exact aJ.bind (aJ.need _ _) λ_=>aJ.bind (aJ.place z) λ_=>aJ.bind (aJ.need _ _) λ_=>aJ.bind (aJ.word _ _ _) λ_=>aJ.ite (aJ.bind (aJ.num z) λ_=>aJ.pure _) (aJ.ite (aJ.bind (aJ.num z) λ_=>aJ.bind (aJ.num z) λ_=>aJ.pure _) (aJ.pure _))
 ·exact aJ.bind (aJ.need _ _) λ_=>aJ.bind (aJ.name z) λ_=>aJ.bind (aJ.need _ _) λ_=>aJ.bind (aJ.num z) λ_=>aJ.bind (aJ.need _ _) λ_=>aJ.bind (λts e o h=>aJ.termsA z _ _ ts e o h) λ_=>aJ.pure _
 ·exact aJ.bind (aJ.place z) λ_=>aJ.bind (aJ.need _ _) λ_=>aJ.bind (aJ.word _ _ _) λ_=>aJ.pure _
 ·exact aJ.unique z x
 ·exact aJ.bind (aJ.unique z x) λ_=>aJ.bind (aJ.need _ _) λ_=>aJ.bind (aJ.name z) λ_=>aJ.opt (aJ.bind (aJ.list (aJ.fixed z)) λ_=>aJ.pure _) (aJ.pure _)
 ·exact aJ.bind (aJ.place z) λ_=>aJ.bind (aJ.need _ _) λ_=>aJ.bind (aJ.place z) λ_=>aJ.pure _
 ·exact aJ.bind (aJ.list (aJ.var z)) λ_=>aJ.bind (aJ.conds z) λ_=>aJ.pure _
 ·exact aJ.bind (aJ.need _ _) λ_=>aJ.bind (aJ.expr z 12) λ_=>aJ.pure _
theorem aJ.item (z:Nat):aJ (pN z):=by
 intro ts e o h;cases ts with
 | nil=>cases h;decide
 | cons t r =>
  unfold pN at h
  refine(aJ.bind (aJ.word z cU 1) λk=>aJ.bind (aJ.ifP (aJ.name z)) λnm=>aJ.bind (aJ.part z k _) λx=>?_) _ _ _ h
  by_cases hk:k=4
  ·simp only[if_pos hk]
   exact aJ.bind (aJ.need _ _) λ_=>aJ.pure _
  ·simp only[if_neg hk]
   exact aJ.bind (aJ.need _ _) λ_=>aJ.pure _
theorem zE (z:Nat):∀(f:Nat)(acc:List It)(ts:List Tok)(e:Int)(o:Nat),kF z f acc ts=.error (e,o)->e≠0
 | 0,_,_,_,_,h=>by cases h
 | f+1,acc,[],_,_,h=>by cases h
 | f+1,acc,t::q,e,o,h=>by
  by_cases hfull:acc.length=200
  ·rw[kF,if_pos hfull]at h;cases h;decide
  ·rw[kF,if_neg hfull]at h
   cases hp:pN z (t::q) with
   | error y=>rw[hp]at h;cases h;exact aJ.item z _ _ _ hp
   | ok y =>
    obtain⟨x,r⟩:=y
    rw[hp]at h
    exact zE z f _ r e o h
theorem parse_cases {t:aBs}(hl:t.length<=20000)(h:Heap)(hW:lX h) :
  bG Tryz.prog 13 [sv t] h λv h'=>(∃ e i,oU t=.error (e,i)/\e≠0/\v=.tuple ⟨[.agg ⟨[aP]⟩,iv e,iv i]⟩/\Own h [] h') ∨
   (∃ xs ts u c I,oU t=.ok xs/\xO t=.ok ts/\Its t.length ts xs/\xs.length<=200/\v=.tuple ⟨[.agg ⟨[.slice u xs.length c]⟩,iv 0,iv 0]⟩/\aAK I (.slice u xs.length c) xs/\Own h [I] h'):=by
 refine(parse_spec t h zO hW).mono λv h' hp=>?_
 rw[kA,if_neg zO]at hp
 cases hM:oU t with
 | error y =>
  obtain⟨e,i⟩:=y
  rw[hM]at hp
  refine .inl ⟨e,i,rfl,?_,hp⟩;unfold oU at hM;cases hL:xO t with
  | error y=>rw[hL]at hM;cases hM;exact uV.1 _ _ hL
  | ok ts=>rw[hL]at hM;exact zE _ _ _ _ _ _ hM
 | ok xs =>
  rw[hM]at hp
  obtain⟨u,I,rfl,hr,ho⟩:=hp
  have hL:∃ ts,xO t=.ok ts:=by
   unfold oU at hM;cases hL:xO t with
   | error y=>rw[hL]at hM;cases hM
   | ok ts=>exact⟨ts,rfl⟩
  obtain⟨ts,hL⟩:=hL
  obtain⟨h1,h2⟩:=(parseM_ok hL).1 hM
  obtain⟨cs,r1,r2⟩:=hr
  obtain⟨a,c,rfl⟩:=r1.isS (Own.satK ho 0 rfl)
  exact .inr ⟨xs,ts,a,c,I,rfl,hL,h1,h2,rfl,⟨cs,r1,r2⟩,ho⟩
instance (v:Vl):Decidable (VlOK v):=by unfold VlOK;infer_instance
instance (x:Opd):Decidable (aBz x):=by unfold aBz;infer_instance
instance (x:Cnd):Decidable (uL x):=by unfold uL;infer_instance
instance (x:Col):Decidable (aCp x):=by unfold aCp;infer_instance
instance (x:Trm):Decidable (aCn x):=by unfold aCn;infer_instance
instance (x:Nmd):Decidable (aCo x):=by unfold aCo;infer_instance
instance (x:Vr):Decidable (VrOK x):=by unfold VrOK;infer_instance
mutual
def exOkB:Ex->Bool
 | .mk k t ks cs ns a s g _=>decide ((-9223372036854775808<=k/\k<=9223372036854775807)/\t.length<=1000000000000000/\(∀ c∈cs,uL c)/\(∀ n∈ns,n.length<=1000000000000000)/\a.length<=1000000000000000/\s.length<=1000000000000000/\(-9223372036854775808<=g/\g<=9223372036854775807)/\ks.length<=1000000000000000/\cs.length<=1000000000000000/\ns.length<=1000000000000000)&&aCZ ks
def aCZ:List Ex->Bool
 | []=>true
 | x::xs=>exOkB x&&aCZ xs
end
mutual
theorem exOkB_ok:∀(x:Ex),exOkB x=true->gK x
 | .mk k t ks cs ns a s g o,h=>by
  rw[exOkB,aD0,decide_eq_true_eq]at h
  obtain⟨⟨h1,h2,h3,h4,h5,h6,h7,h8,h9,h10⟩,h11⟩:=h
  rw[gK]
  exact⟨h1,h2,aCd ks h11,h3,h4,h5,h6,h7,h8,h9,h10⟩
theorem aCd:∀(l:List Ex),aCZ l=true->tS l
 | [],_=>trivial
 | x::xs,h=>by
  rw[aCZ,aD0]at h
  rw[tS]
  exact⟨exOkB_ok x h.1,aCd xs h.2⟩
end
def itOkB (x:It):Bool:=decide ((-9223372036854775808<=x.kind/\x.kind<=9223372036854775807)/\x.name.length<=1000000000000000/\x.table.length<=1000000000000000/\x.attr.length<=1000000000000000/\(∀ c∈x.cols,aCp c)/\(∀ n∈x.names,n.length<=1000000000000000) /\
 (-9223372036854775808<=x.by_/\x.by_<=9223372036854775807)/\(-9223372036854775808<=x.n/\x.n<=9223372036854775807)/\(-9223372036854775808<=x.m/\x.m<=9223372036854775807)/\(∀ t∈x.terms,aCn t)/\x.other.length<=1000000000000000/\x.oattr.length<=1000000000000000 /\
 (∀ f∈x.fixed,aCo f)/\(∀ v∈x.vars,VrOK v)/\(∀ c∈x.conds,uL c))&&decide (x.cols.length<=1000000000000000/\x.names.length<=1000000000000000/\x.terms.length<=1000000000000000/\x.fixed.length<=1000000000000000/\x.vars.length<=1000000000000000/\x.conds.length<=1000000000000000/\dF x<=50000000)&&exOkB x.expr
theorem itOkB_ok {x:It}(h:itOkB x=true):fO x/\dF x<=50000000:=by
 unfold itOkB at h
 rw[aD0,aD0,decide_eq_true_eq,decide_eq_true_eq]at h
 obtain⟨⟨⟨h1,h2,h3,h4,h5,h6,h7,h8,h9,h10,h11,h12,h13,h14,h15⟩,k1,k2,k3,k4,k5,k6,k7⟩,hx⟩:=h
 exact⟨⟨h1,h2,h3,h4,h5,h6,h7,h8,h9,h10,h11,h12,h13,h14,h15,exOkB_ok _ hx,k1,k2,k3,k4,k5,k6⟩,k7⟩
def vF (t:aBs):Bool×aBs×Int:=match oU t with
 | .ok xs=>(xs.all itOkB,gR xs)
 | .error _=>(false,[],99)
theorem qH.isS {h:Heap}{v:Value}{xs:List It}(r:qH h v xs):∃ a c,v=.slice a xs.length c:=by
 obtain⟨ca,q1,_⟩:=r
 exact q1.isS
theorem rN (t out:aBs)(h:Heap)(hl:t.length<=20000)(hm:vF t=(true,out,0))(hW:lX h)(hT:kQ h)(hF:iY h) :
  bG Tryz.prog 15 [sv t] h λr h'=>r=sv out/\Own h [] h':=by
 refine eN Tryz.func15 Tryz.ntmps15 ?_;have o0:=Own.refl h;refine aDN (parse_cases hl _ (hW.ext (Own.ext (B:=h) zA))) ?_;rintro _ h2 (⟨e,i,hM,hne,rfl,oc⟩|⟨xs,ts,ua,uc,I,hM,hL,hI,hlen,rfl,hp,oc⟩)
 ·unfold vF at hm
  rw[hM]at hm
  cases hm
 have hm2:xs.all itOkB=true/\gR xs=(out,0):=by unfold vF at hm;rw[hM]at hm;exact⟨congrArg Prod.fst hm,congrArg Prod.snd hm⟩
 have o2:=Own.call zA oc
 simp only[lcA,lnA]at o2
 clear oc;have k1:∀ x∈xs,fO x:=λx hx=>(itOkB_ok (aD4.1 hm2.1 x hx)).1;have k2:∀ x∈xs,dF x<=50000000:=λx hx=>(itOkB_ok (aD4.1 hm2.1 x hx)).2;refine aDH o2 uD λb20 m20 o20=>?_;(refine sA o20 1 uD ?_;intro m21 o21);refine nB o21 1 uD ?_;refine aDN (qX xs _ _ (hT.ext (Own.ext (B:=h) zA)) (hF.ext (Own.ext (B:=h) zA)) (by first|exact aAK.toH (Own.satK zA 0 rfl) hp|exact aAK.toH (Own.satK zA 1 rfl) hp|exact aAK.toH (Own.satK zA 2 rfl) hp) k1 k2 zO) ?_;rintro _ h3 ⟨rfl,oc⟩
 rw[hm2.2]
 have o3:=oc.thenE (B:=h) zA;clear oc;refine aDL (bC λc40=>?_);refine rO ?_
 exact⟨rfl,o_ []⟩
theorem ag1:vF [115,111,117,114,99,101,32,32,115,32,116,114,117,115,116,32,48,48,53,32,59]=(true,[115,111,117,114,99,101,32,115,32,116,114,117,115,116,32,53,59,10],0):=by kernel_rfl
theorem ag2:vF [113,117,101,114,121,32,113,61,112,114,111,106,101,99,116,32,40,32,115,101,108,101,99,116,40,116,32,119,104,101,114,101,32,97,61,45,32,49,43,50,41,32,111,110,32,41,59]=(true,[113,117,101,114,121,32,113,32,61,32,112,114,111,106,101,99,116,40,115,101,108,101,99,116,40,116,32,119,104,101,114,101,32,97,32,61,32,45,49,32,43,32,50,41,32,111,110,41,59,10],0):=by kernel_rfl
theorem ag3:vF [109,97,116,99,104,32,109,32,111,110,32,116,32,97,116,32,53,32,123,32,97,32,110,101,97,114,32,51,32,108,101,97,115,116,32,50,47,52,32,103,105,118,101,115,32,49,32,116,97,107,101,115,32,48,32,59,32,125]=(true,[109,97,116,99,104,32,109,32,111,110,32,116,32,97,116,32,53,32,123,10,32,32,97,32,110,101,97,114,32,51,32,108,101,97,115,116,32,50,47,52,32,103,105,118,101,115,32,49,59,10,125,10],0):=by kernel_rfl
theorem ag4:vF [116,97,98,108,101,32,116,40,97,32,116,101,120,116,61,34,120,92,110,34,44,98,32,100,97,121,32,61,32,64,51,41,107,101,121,32,97,44,98,59,100,101,110,121,32,100,32,116,32,120,32,119,104,101,114,101,32,120,46,97,60,61,110,117,108,108,32,97,110,100,32,116,114,117,101,33,61,98,59]=(true,[116,97,98,108,101,32,116,40,97,32,116,101,120,116,32,61,32,34,120,92,110,34,44,32,98,32,100,97,121,32,61,32,64,51,41,32,107,101,121,32,97,44,32,98,59,10,100,101,110,121,32,100,32,116,32,120,32,119,104,101,114,101,32,120,46,97,32,60,61,32,110,117,108,108,32,97,110,100,32,116,114,117,101,32,33,61,32,98,59,10],0):=by kernel_rfl
def xs1:List It:=[{ uJ with kind:=2,name:=[49] }]
theorem pr1:gR xs1=([],1):=by kernel_rfl
theorem pr0:gR []=([],0):=by kernel_rfl
theorem xs1_ok:∀ x∈xs1,fO x:=λx hx=>by
 simp[xs1]at hx
 subst hx;unfold fO
 refine⟨by decide,by decide,by decide,by decide,by simp[uJ],by simp[uJ],by decide,by decide,by decide,by simp[uJ],by decide,by decide,by simp[uJ],by simp[uJ],by simp[uJ],?_,by decide,by decide,by decide,by decide,by decide,by decide⟩
 show gK (.mk 0 [] [] [] [] [] [] 0 0)
 rw[gK]
 exact⟨by omega,by simp,trivial,by simp,by simp,by simp,by simp,by omega,by simp,by simp,by simp⟩
theorem head9_spec (h:Heap)(hW:lX h)(hT:kQ h)(hF:iY h):bG Tryz.prog 9 [] h λv h'=>v=.bool true/\Own h [] h':=by
 refine eN Tryz.func9 Tryz.ntmps9 ?_;have o0:=Own.refl h;refine aDN (rN _ _ _ zD ag1 (hW.ext (Own.ext (B:=h) zA)) (hT.ext (Own.ext (B:=h) zA)) (hF.ext (Own.ext (B:=h) zA))) ?_;rintro _ g1 ⟨rfl,oc⟩;have z1:=oc.thenE (B:=h) zA;clear oc;refine aDK (aDN (rN _ _ _ zD ag2 (hW.ext (Own.ext (B:=h) zA)) (hT.ext (Own.ext (B:=h) zA)) (hF.ext (Own.ext (B:=h) zA))) ?_);rintro _ g2 ⟨rfl,oc⟩;have z2:=oc.thenE (B:=h) zA;clear oc;refine aDN (rN _ _ _ zD ag3 (hW.ext (Own.ext (B:=h) zA)) (hT.ext (Own.ext (B:=h) zA)) (hF.ext (Own.ext (B:=h) zA))) ?_;rintro _ g3 ⟨rfl,oc⟩;have z3:=oc.thenE (B:=h) zA;clear oc;refine rR (aDd aA ?_);refine aI rfl ?_;refine aI rfl ?_;(refine aDt z3 mW bU rfl rfl zD ?_);refine aI rfl ?_;intro b402 m402 o402;refine rR (aDd mD ?_);refine aI rfl ?_;have hw:qH m402 (.slice (some ⟨b402,0,none⟩) 1 1) xs1:=by
  have or:=o402.boxRow 0 rfl 25 1 1 rfl (aD6 _) zD;have oa:=or.rowArrN 0 rfl
  refine⟨[⟨_,rfl⟩],by simpa[xs1] using oa,rfl,λi x hx=>?_⟩
  cases i with
  | succ i=>simp[xs1]at hx
  | zero =>
   simp[xs1]at hx
   subst hx
   refine⟨_,rfl,0,_,_,_,_,_,_,_,_,_,_,_,_,_,_,_,rfl,aY.nil _ _,aY.nil _ _,aY.nil _ _,aY.nil _ _,aY.nil _ _,aY.nil _ _,?_⟩
   show fT m402 _ (.mk 0 [] [] [] [] [] [] 0 0)
   rw[fT]
   exact⟨_,_,_,0,rfl,aY.nil _ _,aY.nil _ _,[],aY.nil _ _,trivial⟩
 refine aDN (qX xs1 _ _ (hT.ext (Own.ext (B:=h) zA)) (hF.ext (Own.ext (B:=h) zA)) hw xs1_ok zD zD) ?_;rintro _ g4 ⟨rfl,oc⟩
 rw[pr1]
 have z4:=oc.thenE (B:=h) zA;clear oc;refine rR (aDd mD ?_);refine aDN (qX [] _ _ (hT.ext (Own.ext (B:=h) zA)) (hF.ext (Own.ext (B:=h) zA)) ⟨[],aY.nil _ _,rfl,λi x hx=>by simp at hx⟩ zS zS zS) ?_;rintro _ g5 ⟨rfl,oc⟩
 rw[pr0]
 have z5:=oc.thenE (B:=h) zA;clear oc;refine aDN (rN _ _ _ zD ag4 (hW.ext (Own.ext (B:=h) zA)) (hT.ext (Own.ext (B:=h) zA)) (hF.ext (Own.ext (B:=h) zA))) ?_;rintro _ g6 ⟨rfl,oc⟩;have z6:=oc.thenE (B:=h) zA;clear oc;refine aDK (aDK ?_);refine aDK (aDK ?_);refine aDK (rO ?_)
 exact⟨rfl,o_ []⟩
mutual
def exN:Ex->Nat
 | .mk _ _ ks _ _ _ _ _ _=>1+pC ks
def pC:List Ex->Nat
 | []=>0
 | x::xs=>exN x+pC xs
end
mutual
def nJ:Ex->Nat->Bool
 | .mk _ _ ks cs ns _ _ _ _,n=>decide (ks.length<=2/\cs.length<=20/\ns.length<=20)&&(ks.isEmpty||(decide (n≠0)&&lR ks (n - 1)))
def lR:List Ex->Nat->Bool
 | [],_=>true
 | x::xs,n=>nJ x n&&lR xs n
end
mutual
theorem aAW:∀(x:Ex)(n:Nat),nJ x n=true->fD x<=41*exN x
 | .mk k t ks cs ns a s g o,n,h=>by
  rw[nJ]at h
  simp only[aD0,decide_eq_true_eq,aEB]at h
  rw[fD,exN]
  obtain⟨h1,h2⟩:=h
  rcases h2 with h2|h2
  ·have:ks=[]:=by simpa using h2
   subst this
   rw[gI,pC]
   omega
  ·have:=yV ks (n - 1) h2.2
   omega
theorem yV:∀(l:List Ex)(n:Nat),lR l n=true->gI l<=41*pC l
 | [],_,_=>by rw[gI,pC];omega
 | x::xs,n,h=>by
  rw[lR,aD0]at h
  have h1:=aAW x n h.1;have h2:=yV xs n h.2
  rw[gI,pC]
  omega
end
theorem aCe:∀ {l:List Ex}{i:Nat}{x:Ex},l[i]?=some x->pC (l.take (i+1))=pC (l.take i)+exN x
 | [],_,_,h=>by simp at h
 | y::l,0,x,h=>by simp at h;subst h;simp[pC]
 | y::l,i+1,x,h=>by
  have:=aCe (l:=l) (i:=i) (x:=x) (by simpa using h)
  rw[aEp,aEp,pC,pC,this]
  omega
theorem aC0 (l:List Ex)(i:Nat):pC (l.take i)<=pC l:=by
 induction l generalizing i with
 | nil=>simp
 | cons x l ih =>
  cases i with
  | zero=>simp[pC]
  | succ i=>rw[aEp,pC,pC];have:=ih i;omega
theorem tE:∀ {l:List Ex}{n:Nat},lR l n=true↔∀ x∈l,nJ x n=true
 | [],n=>by simp[lR]
 | y::l,n=>by rw[lR,aD0,tE (l:=l)];simp
theorem wF:∀(n:Nat)(x:Ex)(c:aVs)(h:Heap)(most:Int)(_:eL x<=n)(_:gK x)(_:fT h c x)(_:0<=most/\most<=100000),
  bG Tryz.prog 16 [.agg ⟨c⟩,iv most] h λr h'=>r=iv (min (exN x) (most+1))/\Own h [] h'
 | 0,.mk _ _ _ _ _ _ _ _ _,_,_,_,hd,_,_,_=>absurd hd (by rw[eL];omega)
 | n+1,.mk k t ks cs ns a s g o,c,h,most,hd,hB,hc,hm=>by
  rw[eL]at hd
  rw[gK]at hB
  rw[fT]at hc
  obtain⟨_,_,hOK,_,_,_,_,_,hkl,_,_⟩:=hB
  obtain⟨vk,vc,vn,z,rfl,r1,r2,xs,r3,rk⟩:=hc
  unfold kG
  obtain⟨y1,z1,rfl⟩:=aY.isS r3
  refine eN Tryz.func16 Tryz.ntmps16 ?_;have o0:=Own.refl h
  rw[exN]
  refine xB o0 λb10 m10 o10=>?_;refine aDT [5,6,7,8,9,10,11,12,13,14,15,16,17,18,19,20,21,22,23,24,25,26,27,28,29] [5,6] (λvs hh=>∃(i:Nat),i<=ks.length/\vs=[.int .i64 (min ((1+pC (ks.take i):Nat):Int) (most+1)),.int .i64 i]/\Own h [box b10 [.int .i64 k,.string ⟨⟨t⟩⟩,.slice y1 ks.length z1,vc,vn,.string ⟨⟨a⟩⟩,.string ⟨⟨s⟩⟩,.int .i64 g,.int .i64 z] 42] hh) (λvs _=>match vs with|[_,.int _ i]=>ks.length - i.toNat|_=>0) ?_ ?_
  ·refine⟨0,by omega,?_,o10⟩
   have:min ((1+pC (ks.take 0):Nat):Int) (most+1)=1:=by simp[pC];omega
   rw[this]
   rfl
  rintro vs junk hh ⟨i,hi,rfl,oh⟩;clear o10;have hle:=aC0 ks i;by_cases hlt:i<ks.length
  ·by_cases hm1:((1+pC (ks.take i):Nat):Int)<=most
   ·obtain⟨kx,hkx⟩:=getx hlt
    obtain⟨cx,hcx,hrx⟩:=iC rk hkx
    have hdx:=fX hkx;have htk:=aCe hkx
    rw[show min ((1+pC (ks.take i):Nat):Int) (most+1)=((1+pC (ks.take i):Nat):Int) by omega]
    refine fB aE ?_;refine oB oh 0 cR ?_;refine lB cH ?_;refine bB λc53=>bB λc54=>?_;refine fB aE ?_;refine oB oh 0 cR ?_;refine rR (aDe cH aQ (r3.ext oh.ext) rfl zO zO ?_);refine rR (aDg aQ (r3.ext oh.ext) (λy:dG=>y.2) zD rfl zA ?_);refine aR (aDN (wF n kx cx.1 _ _ (aEc hdx zO) (gG hOK hkx) (fT.ext oh.ext _ _ hrx) zO) ?_);rintro _ m3 ⟨rfl,oc⟩;have o3:=oc.thenE oh;refine aR (aR ?_)
    refine⟨rfl,?_⟩
    refine⟨⟨i+1,by omega,?_,o_ [0]⟩,by simp;omega⟩
    rw[htk]
    congr 2
    omega
   ·refine fB aE ?_
    refine oB oh 0 cR ?_;refine lB cH ?_;refine bB λc153=>bA λc154=>?_;refine rO ?_
    exact⟨congrArg (Value.int .i64) zO,o_ []⟩
  ·have hd:ks.take i=ks:=aEa zO
   rw[hd]
   refine fB aE ?_;refine oB oh 0 cR ?_;refine lB cH ?_;refine bA λc203=>aDL ?_;refine rO ?_
   exact⟨rfl,o_ []⟩
theorem light_iff (k:Int)(t:aBs)(ks:List Ex)(cs:List Cnd)(ns:List aBs)(a s:aBs)(g:Int)(o n:Nat):nJ (.mk k t ks cs ns a s g o) n=(decide (ks.length<=2/\cs.length<=20/\ns.length<=20)&&(ks.isEmpty||(decide (n≠0)&&lR ks (n - 1)))):=by rw[nJ]
theorem wA:∀(n:Nat)(x:Ex)(c:aVs)(h:Heap)(lev:Nat)(_:eL x<=n)(_:gK x)(_:fT h c x)(_:lev<=1000),
  bG Tryz.prog 17 [.agg ⟨c⟩,iv lev] h λr h'=>r=.bool (nJ x lev)/\Own h [] h'
 | 0,.mk _ _ _ _ _ _ _ _ _,_,_,_,hd,_,_,_=>absurd hd (by rw[eL];omega)
 | n+1,.mk k t ks cs ns a s g o,c,h,lev,hd,hB,hc,hm=>by
  rw[eL]at hd
  rw[gK]at hB
  rw[fT]at hc
  obtain⟨_,_,hOK,_,_,_,_,_,hkl,hcl,hnl⟩:=hB
  obtain⟨vk,vc,vn,z,rfl,r1,r2,xs,r3,rk⟩:=hc
  obtain⟨y1,z1,rfl⟩:=aY.isS r3
  obtain⟨y2,z2,rfl⟩:=aY.isS r1
  obtain⟨y3,z3,rfl⟩:=aY.isS r2
  unfold kG;refine eN Tryz.func17 Tryz.ntmps17 ?_;have o0:=Own.refl h
  rw[light_iff]
  refine xB o0 λb10 m10 o10=>?_;refine aDT [4,5,6,7,8,9,10,11,12,13,14,15,16,17,18,19,20,21,22,23,24,25] [5] (λvs hh=>∃(i:Nat),i<=ks.length/\vs=[.int .i64 i]/\(∀(j:Nat) (x:Ex),j<i->ks[j]?=some x->lev≠0/\nJ x (lev - 1)=true)/\Own h [box b10 [.int .i64 k,.string ⟨⟨t⟩⟩,.slice y1 ks.length z1,.slice y2 cs.length z2,.slice y3 ns.length z3,.string ⟨⟨a⟩⟩,.string ⟨⟨s⟩⟩,.int .i64 g,.int .i64 z] 42] hh) (λvs _=>match vs with|[.int _ i]=>ks.length - i.toNat|_=>0) ?_ ?_
  ·exact⟨0,by omega,rfl,λj x hj=>by omega,o10⟩
  rintro vs junk hh ⟨i,hi,rfl,hpre,oh⟩;clear o10;by_cases hlt:i<ks.length
  ·obtain⟨kx,hkx⟩:=getx hlt
   obtain⟨cx,hcx,hrx⟩:=iC rk hkx
   have hdx:=fX hkx;have hne:ks.isEmpty=false:=by cases ks<;>simp_all
   by_cases hl0:lev=0
   ·subst hl0
    refine fB aE ?_;refine oB oh 0 cR ?_;refine lB cH ?_;refine bB λc53=>aDK ?_;refine aDK (rO ?_)
    refine⟨congrArg Value.bool ?_,o_ []⟩
    rw[hne]
    simp
   ·refine fB aE ?_
    refine oB oh 0 cR ?_;refine lB cH ?_;refine bB λc103=>bA λc104=>?_;refine fB aE ?_;refine oB oh 0 cR ?_;refine rR (aDe cH aQ (r3.ext oh.ext) rfl zO zO ?_);refine rR (aDg aQ (r3.ext oh.ext) (λy:dG=>y.2) zD rfl zA ?_);refine aR ?_
    rw[show(lev:Int) - 1=((lev - 1:Nat):Int) by omega]
    refine aDN (wA n kx cx.1 _ _ (aEc hdx zO) (gG hOK hkx) (fT.ext oh.ext _ _ hrx) zO) ?_;rintro _ m3 ⟨rfl,oc⟩;have o3:=oc.thenE oh;cases hb:nJ kx (lev - 1) with
    | true =>
     refine aDL (aR ?_)
     refine⟨rfl,?_⟩
     refine⟨⟨i+1,by omega,rfl,λj x hj hx=>?_,o_ [0]⟩,by simp;omega⟩
     by_cases e:j=i
     ·subst e
      rw[hkx]at hx
      cases hx
      exact⟨hl0,hb⟩
     ·exact hpre j x zO hx
    | false =>
     refine aDK (rO ?_)
     refine⟨congrArg Value.bool ?_,o_ []⟩
     have hls:lR ks (lev - 1)=false:=by
      rw[aEh]
      intro hh
      have:=tE.1 hh kx (aDY hkx)
      rw[hb]at this
      cases this
     rw[hne,hls]
     simp
  ·have hall:(ks.isEmpty||(decide (lev≠0)&&lR ks (lev - 1)))=true:=by
    cases hks:ks with
    | nil=>rfl
    | cons y r =>
     have h0:=hpre 0 y (by rw[hks]at hlt;simp at hlt;omega) (by rw[hks];rfl)
     have:lR (y::r) (lev - 1)=true:=tE.2 λx hx=>by
      obtain⟨j,hj⟩:=aEm.1 hx
      rw[← hks]at hj
      exact(hpre j x (by have:=(aDZ.1 hj).1;omega) hj).2
     rw[this]
     simp[h0.1]
   rw[hall,aEj]
   refine fB aE ?_;refine oB oh 0 cR ?_;refine lB cH ?_;refine bA λc253=>fB aE ?_;refine oB oh 0 cR ?_;refine lB cH ?_;refine aDJ (λc257=>?_) (λc257=>?_);refine fB aE ?_;refine oB oh 0 kI ?_;refine lB gL ?_;refine aDJ (λc261=>?_) (λc261=>?_);refine fB aE ?_;refine oB oh 0 cS ?_;refine lB aB ?_;refine rO ?_
   rotate_left
   refine rO ?_
   rotate_left
   refine rO ?_
   all_goals first
    | exact⟨congrArg Value.bool (decide_eq_false (λh=>by omega)).symm,o_ []⟩
    | exact⟨congrArg Value.bool (decide_eq_decide.2 ⟨λh=>by omega,λh=>by omega⟩),o_ []⟩
def qT (x:It):Bool:=decide ((x.cols.length:Int)+x.names.length+x.terms.length+x.fixed.length+x.vars.length+x.conds.length<=60/\exN x.expr<=300)&&nJ x.expr 20
def uR (xs:List It):Bool:=xs.all qT&&decide (xs.length<=210)
theorem short_size {x:It}(h:qT x=true):dF x<=50000000:=by
 unfold qT at h
 simp only[aD0,decide_eq_true_eq]at h
 have:=aAW x.expr 20 h.2
 unfold dF
 omega
theorem aCA (xs:List It)(va:Value)(h:Heap)(hOK:∀ x∈xs,fO x)(hl:xs.length<=1000000000000000)(hP:qH h va xs) :
  bG Tryz.prog 10 [.agg ⟨[va]⟩] h λr h'=>r=.bool (uR xs)/\Own h [] h':=by
 obtain⟨ca,q1,q2,q3⟩:=hP
 obtain⟨ya,yc,rfl⟩:=q1.isS
 refine eN Tryz.func10 Tryz.ntmps10 ?_;have o0:=Own.refl h;refine xB o0 λb10 m10 o10=>?_;refine aDT [2,3,4,5,6,7,8,9,10,11,12,13,14,15,16,17,18,19,20,21,22,23,24,25,26,27,28,29,30,31,32,33,34,35,36,37,38,39,40,41,42,43,44,45,46,47,48,49,50,51,52] [3] (λvs hh=>∃(i:Nat),i<=xs.length/\vs=[.int .i64 i]/\(∀(j:Nat) (x:It),j<i->xs[j]?=some x->qT x=true)/\Own h [box b10 [.slice ya xs.length yc] 24] hh) (λvs _=>match vs with|[.int _ i]=>xs.length - i.toNat|_=>0) ?_ ?_
 ·exact⟨0,by omega,rfl,λj x hj=>by omega,o10⟩
 rintro vs junk hh ⟨i,hi,rfl,hpre,oh⟩;clear o10;by_cases hlt:i<xs.length
 ·obtain⟨x,hx⟩:=getx hlt
  obtain⟨cx,hcx,hrx⟩:=q3 i x hx
  have hxOK:=hOK x (aDY hx);have hbx:gK x.expr:=hxOK.2.2.2.2.2.2.2.2.2.2.2.2.2.2.2.1;have hll:=hxOK.2.2.2.2.2.2.2.2.2.2.2.2.2.2.2.2
  obtain⟨cxv,hcl⟩:=cx
  obtain⟨z,vc,vn,vt,vf,vv,vd,e0,e1,e2,e3,e4,e5,e6,e7,e8,hcv,w1,w2,w3,w4,w5,w6,rx⟩:=hrx
  dsimp only at hcv;subst hcv;have rx2:=rx;cases hex:x.expr with
  | mk xk xt xks xcs xns xa xs_ xg xo =>
  rw[hex,fT]at rx2
  obtain⟨wk,wc,wn,wz,hcv,g1,g2,gx,g3,_⟩:=rx2
  obtain⟨h1,h2,rfl⟩:=g1.isS
  obtain⟨h3,h4,rfl⟩:=g2.isS
  obtain⟨h5,h6,rfl⟩:=g3.isS
  unfold kG at hcv
  simp only[List.cons.injEq,and_true]at hcv
  obtain⟨rfl,rfl,rfl,rfl,rfl,rfl,rfl,rfl,rfl⟩:=hcv
  obtain⟨i1,j1,rfl⟩:=w1.isS
  obtain⟨i2,j2,rfl⟩:=w2.isS
  obtain⟨i3,j3,rfl⟩:=w3.isS
  obtain⟨i4,j4,rfl⟩:=w4.isS
  obtain⟨i5,j5,rfl⟩:=w5.isS
  obtain⟨i6,j6,rfl⟩:=w6.isS
  unfold eD at hcx hcl;clear w1 w2 w3 w4 w5 w6 g1 g2 g3
  try rw[hex]at rx hbx
  have hno:qT x=false->uR xs=false:=λhs=>by
   unfold uR
   have:xs.all qT=false:=by
    rw[aEh]
    intro hh
    have:=aD4.1 hh x (aDY hx)
    rw[hs]at this
    cases this
   rw[this]
   rfl
  have hsh:qT x=(decide ((x.cols.length:Int)+x.names.length+x.terms.length+x.fixed.length+x.vars.length+x.conds.length<=60/\exN (.mk xk xt xks xcs xns xa xs_ xg xo)<=300)&&nJ (.mk xk xt xks xcs xns xa xs_ xg xo) 20):=by unfold qT;rw[hex]
  by_cases h60:(x.cols.length:Int)+x.names.length+x.terms.length+x.fixed.length+x.vars.length+x.conds.length<=60
  case neg =>
   refine fB mD ?_;refine oB oh 0 nQ ?_;refine lB mW ?_;refine bB λc103=>fB mD ?_;refine oB oh 0 nQ ?_;refine rR (aDe mW bU (q1.ext oh.ext) rfl zO zO ?_);refine rR (aDg bU (q1.ext oh.ext) (λy:kB=>y.2) zD rfl zA ?_);refine aDH oh bU λb108 m108 o108=>?_;(refine sA o108 1 bU ?_;intro m109 o109);refine fB aA ?_;refine oB o109 1 kU ?_;refine lB iQ ?_;refine fB aA ?_;refine oB o109 1 cS ?_;refine lB aB ?_;refine aR (fB aA ?_);refine oB o109 1 mC ?_;refine lB mE ?_;refine aR (fB aA ?_);refine oB o109 1 lZ ?_;refine lB kV ?_;refine aR (fB aA ?_);refine oB o109 1 lK ?_;refine lB jW ?_;refine aR (fB aA ?_);refine oB o109 1 kI ?_;refine lB gL ?_;refine aR (bB λc128=>?_);refine aDK (rO ?_)
   refine⟨congrArg Value.bool (hno ?_).symm,o_ []⟩
   rw[hsh,decide_eq_false (λhh=>h60 hh.1)]
   rfl
  refine fB mD ?_;refine oB oh 0 nQ ?_;refine lB mW ?_;refine bB λc153=>fB mD ?_;refine oB oh 0 nQ ?_;refine rR (aDe mW bU (q1.ext oh.ext) rfl zO zO ?_);refine rR (aDg bU (q1.ext oh.ext) (λy:kB=>y.2) zD rfl zA ?_);refine aDH oh bU λb158 m158 o158=>?_;(refine sA o158 1 bU ?_;intro m159 o159);refine fB aA ?_;refine oB o159 1 kU ?_;refine lB iQ ?_;refine fB aA ?_;refine oB o159 1 cS ?_;refine lB aB ?_;refine aR (fB aA ?_);refine oB o159 1 mC ?_;refine lB mE ?_;refine aR (fB aA ?_);refine oB o159 1 lZ ?_;refine lB kV ?_;refine aR (fB aA ?_);refine oB o159 1 lK ?_;refine lB jW ?_;refine aR (fB aA ?_);refine oB o159 1 kI ?_;refine lB gL ?_;refine aR (bA λc178=>?_);refine fB aA ?_;refine nB o159 1 aQ ?_;refine aDN (wF _ (.mk xk xt xks xcs xns xa xs_ xg xo) _ _ 300 (aD6 _) hbx (fT.ext (Own.ext (B:=h) zA) _ _ rx) zO) ?_;rintro _ m3 ⟨rfl,oc⟩;have o3:=oc.thenE (B:=h) zA;by_cases h300:exN (.mk xk xt xks xcs xns xa xs_ xg xo)<=300
  case neg =>
   refine bB λc200=>aDK ?_;refine rO ?_
   refine⟨congrArg Value.bool (hno ?_).symm,o_ []⟩
   rw[hsh,decide_eq_false (λhh=>h300 hh.2)]
   rfl
  refine bA λc250=>fB aA ?_;refine nB o3 1 aQ ?_;refine aDN (wA _ (.mk xk xt xks xcs xns xa xs_ xg xo) _ _ 20 (aD6 _) hbx (fT.ext (Own.ext (B:=h) zA) _ _ rx) zO) ?_;rintro _ m4 ⟨rfl,oc4⟩;have o4:=oc4.thenE (B:=h) zA;cases hb:nJ (.mk xk xt xks xcs xns xa xs_ xg xo) 20 with
  | true =>
   refine aDL (aR ?_)
   refine⟨rfl,?_⟩
   refine⟨⟨i+1,by omega,rfl,λj y hj hy=>?_,o_ [0]⟩,by simp;omega⟩
   by_cases e:j=i
   ·subst e
    rw[hx]at hy
    cases hy
    rw[hsh,hb,decide_eq_true ⟨h60,h300⟩]
    rfl
   ·exact hpre j y zO hy
  | false =>
   refine aDK (rO ?_)
   refine⟨congrArg Value.bool (hno ?_).symm,o_ []⟩
   rw[hsh,hb,aED]
 ·refine fB mD ?_
  refine oB oh 0 nQ ?_;refine lB mW ?_;refine bA λc403=>fB mD ?_;refine oB oh 0 nQ ?_;refine lB mW ?_;refine rO ?_;have hall:xs.all qT=true:=aD4.2 λx hx=>by
   obtain⟨j,hj⟩:=aEm.1 hx
   exact hpre j x (by have:=(aDZ.1 hj).1;omega) hj
  refine⟨congrArg Value.bool ?_,o_ []⟩
  unfold uR
  rw[hall,aEq]
  exact decide_eq_decide.2 zO
mutual
theorem aCh:∀(x:Ex),eL x=dE x
 | .mk k t ks cs ns a s g o=>by
  rw[eL,dE,aBa ks]
theorem aBa:∀(l:List Ex),iF l=dK l
 | []=>rfl
 | x::r=>by rw[iF,dK,aCh x,aBa r]
end
theorem aBb:∀(l:List Ex)(x:Ex),iF (l++[x])=max (iF l) (eL x)
 | [],x=>by simp only[lnA,iF];omega
 | y::l,x=>by rw[lcA,iF,iF,aBb l x];omega
theorem exsDep_take {l:List Ex}{i:Nat}{x:Ex}(h:l[i]?=some x):iF (l.take (i+1))=max (iF (l.take i)) (eL x):=by
 rw[aEr,h]
 exact aBb _ _
theorem exsDep_le {l:List Ex}:∀(i:Nat),iF (l.take i)<=iF l:=by
 induction l with
 | nil=>intro i;simp
 | cons x l ih =>
  intro i;cases i with
  | zero=>rw[aES,iF];omega
  | succ i=>rw[aEp,iF,iF];have:=ih i;omega
theorem zK:∀(n:Nat)(x:Ex)(c:aVs)(h:Heap)(_:eL x<=n)(_:n<=50000000)(_:gK x)(_:fT h c x),
  bG Tryz.prog 23 [.agg ⟨c⟩] h λr h'=>r=iv (eL x)/\Own h [] h'
 | 0,.mk _ _ _ _ _ _ _ _ _,_,_,hd,_,_,_=>absurd hd (by rw[eL];omega)
 | n+1,.mk k t ks cs ns a s g o,c,h,hd,hn,hB,hc=>by
  rw[eL]at hd ⊢
  rw[gK]at hB
  rw[fT]at hc
  obtain⟨hkr,htl,hOK,hcs,hns,hal,hsl,hgr,hkl,hcl,hnl⟩:=hB
  obtain⟨vk,vc,vn,z,rfl,r1,r2,xs,r3,rk⟩:=hc
  obtain⟨y1,z1,rfl⟩:=aY.isS r3
  obtain⟨y2,z2,rfl⟩:=aY.isS r1
  obtain⟨y3,z3,rfl⟩:=aY.isS r2
  unfold kG;refine eN Tryz.func23 Tryz.ntmps23 ?_;have o0:=Own.refl h;refine xB o0 λb10 m10 o10=>?_;refine aDT [3,4,5,6,7,8,9,10,11,12,13,14,15,16,17,18,19] [3,4] (λvs hh=>∃(i m:Nat),i<=ks.length/\m=iF (ks.take i)/\vs=[.int .i64 m,.int .i64 i]/\Own h [box b10 [.int .i64 k,.string ⟨⟨t⟩⟩,.slice y1 ks.length z1,.slice y2 cs.length z2,.slice y3 ns.length z3,.string ⟨⟨a⟩⟩,.string ⟨⟨s⟩⟩,.int .i64 g,.int .i64 z] 42] hh) (λvs _=>match vs with|[_,.int _ i]=>ks.length - i.toNat|_=>0) ?_ ?_
  ·exact⟨0,0,by omega,by rw[aES,iF],rfl,by assumption⟩
  ·rintro vs junk hh ⟨i,m,hi,hm,rfl,oh⟩
   have hle:=exsDep_le (l:=ks) i;by_cases hlt:i<ks.length
   ·obtain⟨kx,hkx⟩:=getx hlt
    obtain⟨cx,hcx,hrx⟩:=iC rk hkx
    have hdk:=fX hkx;have htk:=exsDep_take hkx;refine fB aE ?_;refine oB oh 0 cR ?_;refine lB cH ?_;refine bB λc113=>fB aE ?_;refine oB oh 0 cR ?_;refine rR (aDe cH aQ (r3.ext oh.ext) rfl zO zO ?_);refine rR (aDg aQ (r3.ext oh.ext) (λy:dG=>y.2) zD rfl zA ?_);refine aDN (zK n kx cx.1 _ zO zO (gG hOK hkx) (fT.ext oh.ext _ _ hrx)) ?_;rintro _ hs3 ⟨rfl,oc3⟩;have os3:=oc3.thenE oh;clear oc3;refine rR (max2 rfl rfl ?_);refine aR ?_
    refine⟨rfl,?_⟩
    exact⟨⟨i+1,max m (eL kx),by omega,by omega,by rw[show((max m (eL kx):Nat):Int)=max (m:Int) (eL kx:Int) by omega];rfl,o_ [0]⟩,by simp;omega⟩
   ·rw[aEa zO]at hm
    subst hm;refine fB aE ?_;refine oB oh 0 cR ?_;refine lB cH ?_;refine bA λc303=>aR ?_;refine rO ?_
    exact⟨rfl,o_ []⟩
theorem kids_two' (k:Int):fW k<=2:=by unfold fW;split<;>(try split)<;>omega
def Ln (c:Nat)(o:Option (List Pc)):Prop:=∀ ps,o=some ps->ps.length<=c
theorem Ln.mono {a b:Nat}{o:Option (List Pc)}(h:Ln a o)(hab:a<=b):Ln b o:=λps e=>aEc (h ps e) hab
theorem cQ (l:List Pc):Ln l.length (some l):=λps e=>by cases e;exact aD6 _
theorem lQ (c:Nat):Ln c none:=λps e=>by cases e
theorem iE:Ln 0 (aO []):=λps e=>by obtain rfl:=dL e;exact aD6 _
theorem bK {x:Option (List Pc)}{r:List (Option (List Pc))}{a b:Nat}(hx:Ln a x)(hr:Ln b (aO r)):Ln (a+b) (aO (x::r)):=λps e=>by
 obtain⟨p,q,e1,e2,rfl⟩:=aN e
 have:=hx p e1
 have:=hr q e2
 rw[aDX]
 omega
theorem eM {c:Nat}{p:Prop} [Decidable p] {x y:Option (List Pc)}(hx:Ln c x)(hy:Ln c y):Ln c (if p then x else y):=by
 split
 ·exact hx
 ·exact hy
theorem xM {p:Pc}{o:Option (List Pc)}{c:Nat}(h:Ln c o):Ln (c+1) (o.map (p::·)):=λps e=>by
 cases o with
 | none=>cases e
 | some q=>cases e;have:=h q rfl;simp;omega
theorem gF (b s:aBs):Ln 1 (bN b s):=λps e=>by obtain⟨_,rfl⟩:=bQ e;exact aD6 _
theorem rG (b:aBs)(n:Int):Ln 1 (iU b n):=λps e=>by obtain⟨_,rfl⟩:=iM e;exact aD6 _
theorem vY (n:Int)(ws:List aBs):Ln 1 (hO n ws):=λps e=>by
 unfold hO at e;split at e
 ·cases e;exact aD6 _
 ·cases e
theorem ln_op (n:Int):Ln 1 (opQ n):=λps e=>by
 unfold opQ at e;split at e
 ·cases e;exact aD6 _
 ·cases e
theorem qK {α:Type}{one:α->Option (List Pc)}{c:Nat}:∀ {l:List α},(∀ x∈l,Ln c (one x))->Ln (c*l.length) (aO (l.map one))
 | [],_=>iE
 | x::r,h=>(bK (h x zS) (qK λy hy=>h y (by simp[hy]))).mono (by rw[aD1,Nat.mul_succ];omega)
theorem ln_list {α:Type}{one:aBs->α->Option (List Pc)}{b:aBs}{c:Nat}{l:List α}(h:∀ x∈l,∀ b,Ln c (one b x)):Ln ((c+1)*l.length) (jA one b l):=by
 cases l with
 | nil=>exact λps e=>by cases e;exact Nat.zero_le _
 | cons x r =>
  exact(bK (h x zS b) (qK (c:=c+1) λy hy=>xM (h y (by simp[hy]) _))).mono (by rw[aD1,Nat.mul_succ];omega)
theorem xN {α:Type}{one:aBs->α->Option (List Pc)}{b:aBs}{c:Nat}{l:List α}(h:∀ x∈l,∀ b,Ln c (one b x)):Ln ((c+1)*l.length) (eO one b l):=by
 cases l with
 | nil=>exact lQ _
 | cons x r=>exact ln_list h
theorem ln_names (b:aBs)(l:List aBs):Ln (2*l.length) (jA bN b l):=ln_list λx _ b=>gF b x
theorem uT (b:aBs)(l:List aBs):Ln (2*l.length) (eO bN b l):=xN λx _ b=>gF b x
theorem tC (v:Vl):Ln 2 (cD v):=λps e=>by
 unfold cD at e
 repeat' split at e
 all_goals first
  | cases e<;>simp
  | skip
 all_goals (split<;>simp)
theorem tB (t a:aBs):Ln 3 (fM t a):=bK (gF _ _) (bK (cQ [_]) (bK (gF _ _) iE))
theorem aAa (x:Opd):Ln 3 (iA x):=eM (eM ((tC _).mono zD) (lQ _)) (eM (lQ _) (eM (eM (lQ _) ((gF _ _).mono zD)) (eM (lQ _) (tB _ _))))
theorem ln_add (n:Int):Ln 2 (rW n):=eM (lQ _) (eM (cQ [_,_]) (eM (cQ [_,_]) ((cQ []).mono zD)))
theorem aCR (x:Cnd):Ln 9 (kP x):=bK (aAa _) (bK (ln_op _) (bK (aAa _) (bK (ln_add _) iE)))
theorem aAU (l:List Cnd):Ln (10*l.length) (lW l):=by
 cases l with
 | nil=>exact lQ _
 | cons x r=>exact(bK (cQ [_]) (bK (aCR x) (qK (c:=10) λy _=>xM (aCR y)))).mono (by simp<;>omega)
theorem ln_rest (k:Int)(cs:List Cnd)(ns:List aBs)(a s:aBs)(g:Int):Ln (10*cs.length+2*ns.length+6) (eW k cs ns a s g) :=
 eM ((aAU _).mono zO) (eM ((bK (cQ [_]) (bK (ln_names _ _) iE)).mono (by simp<;>omega)) (eM ((bK (cQ [_]) (bK (gF _ _) (bK (cQ [_]) (bK (gF _ _) iE)))).mono (by simp<;>omega))
  (eM (eM ((bK (cQ [_]) (bK (ln_names _ _) (bK (cQ [_]) (bK (vY _ _) (bK (b:=2) (a:=1) (eM (eM ((cQ []).mono zD) (lQ _)) (gF _ _)) (bK (cQ [_]) (bK (gF _ _) iE))))))).mono (by simp<;>omega)) (lQ _)) ((cQ []).mono zS))))
mutual
theorem ln_ex:∀(x:Ex)(b:aBs),Ln (20*fD x) (gP b x)
 | .mk k tb ks cs ns a s g o,b=>λps e=>by
  rw[gP]at e
  rw[fD]
  split at e
  ·rename_i hc
   split at e
   ·have:=gF _ _ ps e
    omega
   ·obtain⟨p1,q1,e1,i1,j1⟩:=aN e
    obtain⟨p2,q2,e2,i2,j2⟩:=aN i1
    obtain⟨p3,q3,e3,i3,j3⟩:=aN i2
    obtain⟨p4,q4,e4,i4,j4⟩:=aN i3
    obtain rfl:=dL i4
    rw[j1,j2,j3,j4]
    cases e1
    cases e4
    have:=ln_kids ks _ _ e2
    have:=ln_rest _ _ _ _ _ _ _ e3
    have:=kids_two' k
    have:=hc.2.2.1
    simp only[aDX,aD1,aD2]
    omega
  ·cases e
theorem ln_kids:∀(l:List Ex)(b:aBs),Ln (20*gI l+l.length) (jH b l)
 | [],b=>λps e=>by rw[jH]at e;cases e;simp
 | x::r,b=>λps e=>by
  rw[jH]at e
  split at e
  ·rename_i p q e1 e2
   cases e
   have:=ln_ex x b p e1
   have:=ln_kids r [32] q e2
   rw[gI,aDX,aDX,aD1]
   split<;>simp<;>omega
  ·cases e
end
theorem ln_col (c:Col)(b:aBs):Ln 5 (iP b c):=bK (a:=1) (gF _ _) (bK (a:=1) (b:=3) (vY _ _) (bK (a:=3) (b:=0) (eM ((cQ []).mono zD) (xM (tC _))) iE))
theorem ln_term (t:Trm):Ln 12 (bM t):=(bK (gF _ _) (bK (vY _ _) (bK (a:=1) (eM (rG _ _) (eM ((cQ []).mono zD) (lQ _))) (bK (cQ [_]) (bK (rG _ _) (bK (a:=2) (eM ((cQ []).mono zD) (xM (rG _ _)))
 (bK (cQ [_]) (bK (rG _ _) (bK (a:=2) (eM ((cQ []).mono zD) (xM (rG _ _))) (bK (cQ [_]) iE)))))))))).mono zS
theorem ln_fix (f:Nmd):Ln 4 (pW f):=bK (gF _ _) (bK (cQ [_]) (bK (tC _) iE))
theorem ln_fixed (l:List Nmd):Ln (5*l.length) (xU l):=by
 cases l with
 | nil=>exact λps e=>by cases e;simp
 | cons x r=>exact(bK (cQ [_]) (bK (ln_fix x) (qK (c:=5) λy _=>xM (ln_fix y)))).mono (by simp<;>omega)
theorem ln_var (v:Vr):Ln 2 (lI v):=bK (gF _ _) (bK (gF _ _) iE)
theorem ln_app:∀ {a b:List (Option (List Pc))}{m n:Nat},Ln m (aO a)->Ln n (aO b)->Ln (m+n) (aO (a++b)):=λ{a b m n} ha hb ps e=>by
 rw[gM]at e
 split at e
 ·rename_i p q e1 e2
  cases e
  have:=ha p e1
  have:=hb q e2
  rw[aDX]
  omega
 ·cases e
theorem lP (x:It):Ln (20*dF x - 3) (eP x):=by
 unfold dF eP;refine eM ?_ (eM ?_ (eM ?_ (eM ?_ (eM ?_ (eM ?_ (eM ?_ (eM ?_ (eM ?_ ?_))))))))
 ·exact(bK (cQ [_]) (bK (xN λc _ b=>ln_col c b) (bK (cQ [_,_]) (bK (uT _ _) iE)))).mono (by simp<;>omega)
 ·exact(bK (cQ [_]) (bK (rG _ _) iE)).mono (by simp<;>omega)
 ·exact(bK (cQ [_]) (bK (tB _ _) (bK (cQ [_]) (bK (vY _ _) (bK (a:=1) (eM (rG _ _) ((cQ []).mono zD)) (bK (a:=1) (eM (rG _ _) ((cQ []).mono zD)) iE)))))).mono (by simp<;>omega)
 ·exact(ln_app (bK (cQ [_]) (bK (gF _ _) (bK (cQ [_]) (bK (rG _ _) (bK (cQ [_]) iE))))) (qK λt _=>ln_term t)).mono (by simp<;>omega)
 ·exact(bK (tB _ _) (bK (cQ [_]) (bK (vY _ _) iE))).mono (by simp<;>omega)
 ·exact(bK (cQ [_]) (bK (gF _ _) (bK (cQ [_]) (bK (uT _ _) (bK (cQ [_]) iE))))).mono (by simp<;>omega)
 ·exact(bK (cQ [_]) (bK (gF _ _) (bK (cQ [_]) (bK (uT _ _) (bK (cQ [_,_]) (bK (gF _ _) (bK (ln_fixed _) iE))))))).mono (by simp<;>omega)
 ·exact(bK (tB _ _) (bK (cQ [_]) (bK (tB _ _) iE))).mono (by simp<;>omega)
 ·exact(bK (xN λv _ _=>ln_var v) (bK (aAU _) iE)).mono (by simp<;>omega)
 ·exact(bK (cQ [_]) (bK (ln_ex _ _) iE)).mono (by simp<;>omega)
theorem ln_item (x:It):Ln (20*dF x) (iB x):=by
 have h1:1<=dF x:=by unfold dF;omega
 exact eM ((bK (cQ [_]) (bK (a:=1) (eM ((cQ []).mono zD) (gF _ _)) (bK (lP x) (bK (cQ [_]) iE)))).mono (by simp<;>omega)) (lQ _)
def txts (ps:List Pc):List aBs:=ps.map gX
theorem eT (b s:aBs):gX (aS b s)=b++s:=rfl
theorem dU (b s:aBs):gX (aG b s)=b++s:=rfl
theorem gT (b:aBs)(n:Int):gX (cI b n)=b++Lib.itoa n:=rfl
theorem pcT_txt (b s:aBs):gX (txtT b s)=b++([34]++kO s++[34]):=rfl
theorem cM (a b:List Pc):txts (a++b)=txts a++txts b:=List.map_append
theorem cN (a:Pc)(b:List Pc):txts (a::b)=gX a::txts b:=rfl
theorem cW:txts []=[]:=rfl
theorem fZ (a:List Pc):(txts a).length=a.length:=List.length_map _
theorem txts_flat (ps:List Pc):(txts ps).flatten=bX ps:=by simp[txts,bX,List.flatMap_def]
theorem aAR:∀(k u:Nat),u<10 ^ (k+1)->Lib.nDigits u<=k+1
 | 0,u,h=>by
  rw[Lib.nDigits_small (by simpa using h)]
  omega
 | k+1,u,h=>by
  by_cases hu:u<10
  ·rw[Lib.nDigits_small hu]
   omega
  ·rw[Lib.nDigits_big hu]
   have:=aAR k (u / 10) (by rw[Nat.pow_succ]at h;omega)
   omega
theorem nM (u:Nat)(h:u<18446744073709551616):(Lib.decDigits u).length<=20:=by
 rw[Lib.decDigits_length]
 exact aAR 19 u zO
theorem zJ {u:Nat}(h:u<10):(List.take (u+1) ([48,49,50,51,52,53,54,55,56,57]:aBs)).drop u=[UInt8.ofNat (48+u)]:=by
 match u,h with
 | 0,_=>rfl
 | 1,_=>rfl
 | 2,_=>rfl
 | 3,_=>rfl
 | 4,_=>rfl
 | 5,_=>rfl
 | 6,_=>rfl
 | 7,_=>rfl
 | 8,_=>rfl
 | 9,_=>rfl
theorem zI (u:Nat):∀(h:Heap),u<18446744073709551616 ->
  bG Tryz.prog 136 [.int .u64 u] h λr h'=>r=sv (Lib.decDigits u)/\Own h [] h':=by
 induction u using Nat.strongRecOn with
 | _ u ih =>
  intro h hu;refine eN Tryz.func136 Tryz.ntmps136 ?_;have o0:=Own.refl h;by_cases hu10:u<10
  ·refine bB λc10=>?_
   refine Ar.u64 zO zO ?_;refine rR (aDx cE rfl ⟨_,rfl⟩ ⟨_,rfl⟩ zO zO (by simp only[aD1,aD2,aEg];omega) ?_);refine rO ?_
   refine⟨?_,o0⟩
   rw[Lib.decDigits_one hu10,← zJ hu10]
   rfl
  ·refine bA λc20=>?_
   refine d1_ [0,1,3,4,5,6,7,8,9,10] [] [2] [0,1,3,4,5,6,7,8,2,9,10] ?_;refine quoE rfl rfl zO zO (by simp[IntKind.max,IntKind.signed,IntKind.bits]<;>omega) ?_;refine remE rfl rfl zO zO ?_;refine remE rfl rfl zO zO ?_;refine Ar.u64 zO zO ?_;refine aDx cE rfl ⟨_,rfl⟩ ⟨_,rfl⟩ zO zO (by simp only[aD1,aD2,aEg];omega) ?_;have key:=ih (u / 10) zO h zO
   rw[Int.natCast_ediv]at key
   refine aDN key ?_;rintro _ h1 ⟨rfl,o1⟩;have hs:=nM (u / 10) zO;refine aDb rfl rfl w_ ?_;refine rO ?_
   refine⟨?_,o1⟩
   have e:Lib.decDigits u=Lib.decDigits (u / 10)++[UInt8.ofNat (48+u % 10)]:=by
    rw[Lib.decDigits,dif_neg hu10]
   rw[e,← zJ (u:=u % 10) zO]
   rfl
theorem aBG (n:Int)(h:Heap)(h0:-9223372036854775808<=n)(h1:n<=9223372036854775807) :
  bG Tryz.prog 91 [iv n] h λr h'=>r=sv (Lib.itoa n)/\Own h [] h':=by
 refine eN Tryz.func91 Tryz.ntmps91 ?_;have o0:=Own.refl h;by_cases hn:n<0
 ·refine bB λc10=>?_
  refine rR (convI rfl int3 int178 ?_);refine Ar.u64w ?_;refine Ar.u64w ?_;have key:=zI n.natAbs h zO
  rw[show(n.natAbs:Int)=(0 - n % 18446744073709551616) % 18446744073709551616 by omega]at key
  refine aDN key ?_;rintro _ h2 ⟨rfl,o2⟩;have hs:=nM n.natAbs zO;refine rR (aDb rfl rfl w_ ?_);refine rO ?_
  refine⟨?_,o2⟩
  rw[Lib.itoa,if_pos hn]
  rfl
 ·refine bA λc20=>?_
  refine rR (convI rfl int3 int178 ?_);refine Ar.u64 zO zO ?_;have key:=zI n.toNat h zO
  rw[show(n.toNat:Int)=n by omega]at key
  refine aDN key ?_;rintro _ h2 ⟨rfl,o2⟩;refine rO ?_
  refine⟨?_,o2⟩
  rw[Lib.itoa,if_neg hn]
theorem byte_at {t:aBs}{i:Nat}{c:UInt8}(h:t[i]?=some c):List.drop (i:Int).toNat (List.take ((i:Int)+1).toNat t)=[c]:=by
 obtain⟨hi,rfl⟩:=aDZ.1 h
 rw[show((i:Int)+1).toNat=i+1 by omega,Int.toNat_natCast,List.drop_take,aD8 hi,show i+1 - i=1 by omega]
 rfl
theorem aCL (t:aBs)(h:Heap)(hl:t.length<=1000000) :
  bG Tryz.prog 92 [sv t] h λr h'=>r=sv ([34]++kO t++[34])/\Own h [] h':=by
 refine eN Tryz.func92 Tryz.ntmps92 ?_;have o0:=Own.refl h;have hel:=aAb t;refine aDT [3,4,5,6,7,8,9,10,11,12,13,14,15,16,17,18,19,20,21,22,23,24,25,26,27,28,29,30,31,32] [3,4] (λvs hh=>∃(i:Nat),i<=t.length/\vs=[.string ⟨⟨kO (t.take i)⟩⟩,.int .i64 i]/\Own h [] hh) (λvs _=>match vs with|[_,.int _ i]=>t.length - i.toNat|_=>0) ?_ ?_
 ·exact⟨0,by omega,rfl,o0⟩
 ·rintro vs junk hh ⟨i,hi,rfl,oh⟩
  have hle:=nY t i;by_cases hlt:i<t.length
  ·obtain⟨c,hc⟩:=getx hlt
   have ht1:=aCi hc;have hb:=byte_at hc;have hle2:=nY t (i+1);unfold zU at ht1;by_cases h34:c=34
   ·have n34:c.toNat=34:=by rw[h34];rfl
    rw[if_pos h34]at ht1
    refine rR (aDn rfl cE ?_);refine bB λc21=>rR (aDk rfl rfl cE zO zA ?_);refine bB λc23=>rR (aDb rfl rfl w_ ?_);refine aR ?_
    refine⟨rfl,?_⟩
    exact⟨⟨i+1,by omega,by rw[ht1];rfl,oh⟩,by simp;omega⟩
   ·have n34:c.toNat≠34:=λe=>h34 (UInt8.toNat_inj.1 e)
    rw[if_neg h34]at ht1
    by_cases h92:c=92
    ·have n92:c.toNat=92:=by rw[h92];rfl
     rw[if_pos h92]at ht1
     refine rR (aDn rfl cE ?_);refine bB λc31=>rR (aDk rfl rfl cE zO zA ?_);refine bA λc33=>bB λc34=>?_;refine rR (aDb rfl rfl w_ ?_);refine aR ?_
     refine⟨rfl,?_⟩
     exact⟨⟨i+1,by omega,by rw[ht1];rfl,oh⟩,by simp;omega⟩
    ·have n92:c.toNat≠92:=λe=>h92 (UInt8.toNat_inj.1 e)
     rw[if_neg h92]at ht1
     by_cases h10:c=10
     ·have n10:c.toNat=10:=by rw[h10];rfl
      rw[if_pos h10]at ht1
      refine rR (aDn rfl cE ?_);refine bB λc41=>rR (aDk rfl rfl cE zO zA ?_);refine bA λc43=>bA λc44=>?_;refine bB λc45=>rR (aDb rfl rfl w_ ?_);refine aR ?_
      refine⟨rfl,?_⟩
      exact⟨⟨i+1,by omega,by rw[ht1];rfl,oh⟩,by simp;omega⟩
     ·have n10:c.toNat≠10:=λe=>h10 (UInt8.toNat_inj.1 e)
      rw[if_neg h10]at ht1
      refine rR (aDn rfl cE ?_);refine bB λc51=>rR (aDk rfl rfl cE zO zA ?_);refine bA λc53=>bA λc54=>?_;refine bA λc55=>aR ?_;refine rR (aDx cE rfl ⟨_,rfl⟩ ⟨_,rfl⟩ zO zO zO ?_);refine rR (aDb rfl rfl w_ ?_);refine aR ?_
      refine⟨rfl,?_⟩
      exact⟨⟨i+1,by omega,by rw[ht1,← hb];rfl,oh⟩,by simp;omega⟩
  ·have e1:t.take i=t:=aEa zO
   rw[e1]
   refine rR (aDn rfl cE ?_);refine bA λc81=>rR (aDb rfl rfl w_ ?_);refine rR (aDb rfl rfl w_ ?_);refine rO ?_
   exact⟨rfl,oh⟩
theorem uW (c:UInt8):eZ c=true↔(97<=c.toNat/\c.toNat<=122)∨(65<=c.toNat/\c.toNat<=90):=by
 unfold eZ
 simp only[aEB,aD0,decide_eq_true_eq]
theorem sM (c:UInt8)(h:Heap):bG Tryz.prog 131 [.int .u8 c.toNat] h λr h'=>r=.bool (eZ c)/\Own h [] h':=by
 have hi:=uW c;refine eN Tryz.func131 Tryz.ntmps131 ?_;have o0:=Own.refl h;refine aDJ (λc10=>?_) (λc10=>?_);refine aDJ (λc11=>?_) (λc11=>?_);refine rO ?_
 rotate_left
 refine bB λc12=>rO ?_
 rotate_left
 refine aDJ (λc13=>?_) (λc13=>?_);refine rO ?_
 rotate_left
 refine rO ?_
 all_goals (refine⟨congrArg Value.bool (aEe.2 ?_),o0⟩;rw[hi];simp only[decide_eq_true_eq,aEk,aD9,true_iff,false_iff];omega)
def idB (c:UInt8):Bool:=eZ c||decide ((48<=c.toNat/\c.toNat<=57)∨c.toNat=95∨c.toNat=45)
def idOk (s:aBs):Bool:=s.all idB&&decide (1<=s.length/\s.length<=24)
theorem all_pre {p:UInt8->Bool}{s:aBs}{i:Nat}(hi:s.length<=i)(h:∀(j:Nat)(c:UInt8),j<i->s[j]?=some c->p c=true):s.all p=true:=aD4.2 λc hc=>by
 obtain⟨j,hj⟩:=aEm.1 hc
 exact h j c (by have:=(aDZ.1 hj).1;omega) hj
theorem all_no {p:UInt8->Bool}{s:aBs}{i:Nat}{c:UInt8}(hc:s[i]?=some c)(h:p c=false):s.all p=false:=by
 rw[aEh]
 intro hh
 rw[aD4.1 hh c (aDY hc)]at h
 cases h
theorem aAL {p:UInt8->Bool}{s:aBs}{i:Nat}{c:UInt8}(h:∀(j:Nat)(c:UInt8),j<i->s[j]?=some c->p c=true)(hc:s[i]?=some c)(hp:p c=true):∀(j:Nat)(d:UInt8),j<i+1->s[j]?=some d->p d=true:=λj d hj hd=>by
 by_cases e:j=i
 ·subst e
  rw[hc]at hd
  cases hd
  exact hp
 ·exact h j d zO hd
theorem aBH (s:aBs)(h:Heap)(hl:s.length<=1000000000000000):bG Tryz.prog 130 [sv s] h λr h'=>r=.bool (idOk s)/\Own h [] h':=by
 refine eN Tryz.func130 Tryz.ntmps130 ?_;have o0:=Own.refl h;refine aDT [2,3,4,5,6,7,8,9,10,11,12,13,14,15,16,17,18,19,20,21,22,23,24,25,26,27,28,29,30,31,32,33,34,35,36,37,38] [3] (λvs hh=>∃(i:Nat),i<=s.length/\vs=[.int .i64 i]/\(∀(j:Nat) (c:UInt8),j<i->s[j]?=some c->idB c=true)/\Own h [] hh) (λvs _=>match vs with|[.int _ i]=>s.length - i.toNat|_=>0) ?_ ?_
 ·exact⟨0,by omega,rfl,λj c hj=>by omega,o0⟩
 rintro vs junk hh ⟨i,hi,rfl,hE,oh⟩;by_cases hlt:i<s.length
 ·obtain⟨c,hc⟩:=getx hlt
  refine rR (aDn rfl cE ?_);refine bB λc41=>rR (aDk rfl rfl cE zO zA ?_);refine aDN (sM c _) ?_;rintro _ h3 ⟨rfl,oc⟩;have o3:=oc.thenE (B:=h) oh;cases hlc:eZ c with
  | true =>
   have hid:idB c=true:=by unfold idB;rw[hlc];rfl
   refine aDL (aDL ?_);refine aR ?_
   refine⟨rfl,?_⟩
   exact⟨⟨i+1,by omega,rfl,aAL hE hc hid,o_ []⟩,by simp;omega⟩
  | false =>
   have hid:idB c=decide ((48<=c.toNat/\c.toNat<=57)∨c.toNat=95∨c.toNat=45):=by unfold idB;rw[hlc];rfl
   by_cases hd:(48<=c.toNat/\c.toNat<=57)∨c.toNat=95∨c.toNat=45
   ·have hid:idB c=true:=by rw[hid];exact decide_eq_true hd
    refine aDK (rR (aDk rfl rfl cE zO zA ?_));refine aDJ (λc81=>?_) (λc81=>?_);refine rR (aDk rfl rfl cE zO zA ?_);refine bD λc83=>rR (aDk rfl rfl cE zO zA ?_);refine bC λc85=>aR ?_
    refine⟨rfl,?_⟩
    rotate_left
    refine rR (aDk rfl rfl cE zO zA ?_);refine aDJ (λc87=>?_) (λc87=>?_);refine rR (aDk rfl rfl cE zO zA ?_);refine bC λc89=>aDL ?_;refine aR ?_
    refine⟨rfl,?_⟩
    rotate_left
    refine aDL (aR ?_)
    refine⟨rfl,?_⟩
    all_goals exact⟨⟨i+1,by omega,rfl,aAL hE hc hid,o_ []⟩,by simp;omega⟩
   ·have hid:idB c=false:=by rw[hid];exact decide_eq_false hd
    have:idOk s=false:=by unfold idOk;rw[all_no hc hid];rfl
    refine aDK (rR (aDk rfl rfl cE zO zA ?_));refine aDJ (λc121=>?_) (λc121=>?_);refine rR (aDk rfl rfl cE zO zA ?_);refine bD λc123=>rR (aDk rfl rfl cE zO zA ?_);refine bD λc125=>rO ?_
    rotate_left
    refine rR (aDk rfl rfl cE zO zA ?_);refine bB λc127=>rR (aDk rfl rfl cE zO zA ?_);refine bD λc129=>rR (aDk rfl rfl cE zO zA ?_);refine bD λc131=>rO ?_
    all_goals exact⟨congrArg Value.bool this.symm,o_ []⟩
 ·have hall:s.all idB=true:=all_pre zO hE
  refine rR (aDn rfl cE ?_);refine bA λc161=>rR (aDn rfl cE ?_);refine aDJ (λc163=>?_) (λc163=>?_);refine rR (aDn rfl cE ?_);refine rO ?_
  rotate_left
  refine rO ?_
  all_goals (refine⟨congrArg Value.bool ?_,o_ []⟩;unfold idOk;rw[hall,aEq,aEe];simp only[decide_eq_true_eq,aD9,false_iff,true_iff];omega)
theorem nameOk_id (s:aBs):aZ s=(idOk s&&decide (∀ c∈s,c.toNat≠45)&&match s with
  | []=>false
  | c::_=>eZ c):=by
 have hin:∀ c,eA c=(idB c&&decide (c.toNat≠45)):=λc=>by
  have h1:=uW c
  rw[aEe]
  unfold idB eA dH
  simp only[aEB,aD0,decide_eq_true_eq,h1]
  omega
 cases s with
 | nil=>simp[aZ]
 | cons c r =>
  rw[aEe]
  unfold aZ idOk
  simp only[aD0,aD4,decide_eq_true_eq,aEO,hin,aEd,aD1]
  constructor
  ·rintro⟨⟨h1,h2⟩,h3⟩
   have h2':=(uW c).1 h2
   refine⟨⟨⟨⟨by unfold idB;rw[h2];rfl,λd hd=>(h3 d hd).1⟩,by omega,h1⟩,?_⟩,h2⟩
   rintro d (rfl|hd)
   ·omega
   ·exact(h3 d hd).2
  ·rintro⟨⟨⟨⟨h1,h2⟩,_,h3⟩,h4⟩,h5⟩
   exact⟨⟨h3,h5⟩,λd hd=>⟨h2 d hd,h4 d (.inr hd)⟩⟩
theorem bY (s:aBs)(h:Heap)(hl:s.length<=1000000000000000):bG Tryz.prog 82 [sv s] h λr h'=>r=.bool (aZ s)/\Own h [] h':=by
 rw[nameOk_id]
 refine eN Tryz.func82 Tryz.ntmps82 ?_;have o0:=Own.refl h;refine aDT [2,3,4,5,6,7,8,9,10,11,12,13] [3] (λvs hh=>∃(i:Nat),i<=s.length/\vs=[.int .i64 i]/\(∀(j:Nat) (c:UInt8),j<i->s[j]?=some c->decide (c.toNat≠45)=true)/\Own h [] hh) (λvs _=>match vs with|[.int _ i]=>s.length - i.toNat|_=>0) ?_ ?_
 ·exact⟨0,by omega,rfl,λj c hj=>by omega,o0⟩
 rintro vs junk hh ⟨i,hi,rfl,hE,oh⟩;by_cases hlt:i<s.length
 ·obtain⟨c,hc⟩:=getx hlt
  by_cases hd:c.toNat=45
  ·refine rR (aDn rfl cE ?_)
   refine bB λc41=>rR (aDk rfl rfl cE zO zA ?_);refine bB λc43=>rO ?_
   refine⟨congrArg Value.bool ?_,o_ []⟩
   rw[decide_eq_false (λhh=>hh c (aDY hc) hd),aED,aEu]
  ·refine rR (aDn rfl cE ?_)
   refine bB λc61=>rR (aDk rfl rfl cE zO zA ?_);refine bA λc63=>aR ?_
   refine⟨rfl,?_⟩
   exact⟨⟨i+1,by omega,rfl,aAL hE hc (decide_eq_true hd),oh⟩,by simp;omega⟩
 ·have hall:∀ c∈s,c.toNat≠45:=λc hc=>by
   obtain⟨j,hj⟩:=aEm.1 hc
   exact of_decide_eq_true (hE j c (by have:=(aDZ.1 hj).1;omega) hj)
  rw[decide_eq_true hall,aEj]
  refine rR (aDn rfl cE ?_);refine bA λc81=>aDN (aBH s _ hl) ?_;rintro _ h3 ⟨rfl,oc⟩;have o3:=oc.thenE (B:=h) oh;cases hid:idOk s with
  | false =>
   refine aDL (rO ?_)
   exact⟨rfl,o_ []⟩
  | true =>
   cases s with
   | nil=>cases hid
   | cons c r =>
    have hc0:(c::r)[(0:Int).toNat]?=some c:=rfl;refine aDK (rR (aDk rfl rfl cE zO zA ?_));refine aDN (sM c _) ?_;rintro _ h4 ⟨rfl,oc4⟩;have o4:=oc4.thenE (B:=h) o3;refine rO ?_
    exact⟨rfl,o_ []⟩
theorem dJ (n:Int)(h:Heap)(hn:-9223372036854775808<=n/\n<=9223372036854775807):bG Tryz.prog 85 [iv n] h λr h'=>r=.bool (dB n)/\Own h [] h':=by
 refine eN Tryz.func85 Tryz.ntmps85 ?_;have o0:=Own.refl h;refine aDJ (λc10=>?_) (λc10=>?_);refine rO ?_
 rotate_left
 refine rO ?_
 all_goals (refine⟨congrArg Value.bool ?_,o0⟩;unfold dB;rw[aEe];simp only[decide_eq_true_eq,aD9,false_iff];omega)
theorem jX (l:List aBs)(va:Value)(h:Heap)(hA:Arr h va (strs l))(hl:l.length<=1000000000000000)(hs:∀ s∈l,s.length<=1000000000000000) :
  bG Tryz.prog 84 [va] h λr h'=>r=.bool (l.all aZ)/\Own h [] h':=by
 have hsl:(strs l).length=l.length:=by simp[strs]
 refine eN Tryz.func84 Tryz.ntmps84 ?_;have o0:=Own.refl h;refine aDT [2,3,4,5,6,7,8,9,10,11,12,13,14,15] [3] (λvs hh=>∃(i:Nat),i<=l.length/\vs=[.int .i64 i]/\(∀(j:Nat) (s:aBs),j<i->l[j]?=some s->aZ s=true)/\Own h [] hh) (λvs _=>match vs with|[.int _ i]=>l.length - i.toNat|_=>0) ?_ ?_
 ·exact⟨0,by omega,rfl,λj c hj=>by omega,o0⟩
 rintro vs junk hh ⟨i,hi,rfl,hE,oh⟩;have hA:=hA.ext oh.ext;by_cases hlt:i<l.length
 ·obtain⟨s,hs1⟩:=getx hlt
  have hss:(strs l)[i]?=some (sv s):=by simp[strs,hs1]
  have hs2:=hs s (aDY hs1);refine rR (aDv hA zA aB ?_);refine bB λc41=>rR (idx aB aC hA rfl zO zO ?_);refine rR (aDq hA aC rfl a_ ?_);refine aDN (bY s _ hs2) ?_;rintro _ h3 ⟨rfl,oc⟩;have o3:=oc.thenE (B:=h) oh;cases hn:aZ s with
  | true =>
   refine aDL (aR ?_)
   refine⟨rfl,?_⟩
   refine⟨⟨i+1,by omega,rfl,λj d hj hd=>?_,o_ []⟩,by simp;omega⟩
   by_cases e:j=i
   ·subst e
    rw[hs1]at hd
    cases hd
    exact hn
   ·exact hE j d zO hd
  | false =>
   refine aDK (rO ?_)
   refine⟨congrArg Value.bool ?_,o_ []⟩
   symm
   rw[aEh]
   intro hh
   rw[aD4.1 hh s (aDY hs1)]at hn
   cases hn
 ·refine rR (aDv hA zA aB ?_)
  refine bA λc101=>rO ?_
  refine⟨congrArg Value.bool ?_,o_ []⟩
  symm
  refine aD4.2 λc hc=>?_
  obtain⟨j,hj⟩:=aEm.1 hc
  exact hE j c (by have:=(aDZ.1 hj).1;omega) hj
theorem aU (x:Option (List Pc))(r:List (Option (List Pc))):(aO (x::r)).isSome=(x.isSome&&(aO r).isSome):=by
 cases x with
 | none=>rfl
 | some p =>
  show((aO r).map (p++·)).isSome=_
  rw[aEQ]
  rfl
theorem fH:(aO []).isSome=true:=rfl
theorem oR {c:Prop} [Decidable c] (x:List Pc):(if c then some x else none).isSome=decide c:=by by_cases h:c<;>simp[h]
theorem dR (b s:aBs):(bN b s).isSome=aZ s:=by unfold bN;cases aZ s<;>rfl
theorem lL (b:aBs)(n:Int):(iU b n).isSome=dB n:=by unfold iU;cases dB n<;>rfl
theorem qC (n:Int)(ws:List aBs):(hO n ws).isSome=decide (1<=n/\n<=ws.length):=oR _
theorem some_op (n:Int):(opQ n).isSome=decide (1<=n/\n<=4):=oR _
theorem mV {α:Type}(one:α->Option (List Pc)):∀(l:List α),(aO (l.map one)).isSome=l.all λx=>(one x).isSome
 | []=>rfl
 | x::r=>by rw[aEx,aU,mV one r,aEO]
theorem aBW {α:Type}{one:aBs->α->Option (List Pc)}{p:α->Bool}(h:∀ b x,(one b x).isSome=p x)(b:aBs)(l:List α):(jA one b l).isSome=l.all p:=by
 cases l with
 | nil=>rfl
 | cons x r =>
  show(aO (_::_)).isSome=_
  rw[aU,mV,h,aEO]
  simp only[aEQ,h]
theorem sG {α:Type}{one:aBs->α->Option (List Pc)}{p:α->Bool}(h:∀ b x,(one b x).isSome=p x)(b:aBs)(l:List α):(eO one b l).isSome=(l.all p&&decide (0<l.length)):=by
 cases l with
 | nil=>rfl
 | cons x r =>
  show(jA one b (x::r)).isSome=_
  rw[aBW h]
  simp
theorem aAu (b:aBs)(l:List aBs):(jA bN b l).isSome=l.all aZ:=aBW dR b l
theorem qS (b:aBs)(l:List aBs):(eO bN b l).isSome=(l.all aZ&&decide (0<l.length)):=sG dR b l
def aC6 (v:Vl):Prop:=(v.k=0/\v.n=0/\v.t=[])∨(v.k=1/\v.n=0/\v.t.length<=200)∨(v.k=2/\v.t=[]/\-9999999999<=v.n/\v.n<=9999999999)∨(v.k=3/\v.t=[]/\0<=v.n/\v.n<=9999999999)∨(v.k=4/\v.t=[]/\(v.n=0∨v.n=1))
theorem uQ (v:Vl):(cD v).isSome=true↔aC6 v:=by
 unfold cD aC6;by_cases h0:v.k=0
 ·rw[if_pos h0,oR,decide_eq_true_eq];simp[h0]
 rw[if_neg h0]
 by_cases h1:v.k=1
 ·rw[if_pos h1,oR,decide_eq_true_eq];simp[h1]
 rw[if_neg h1]
 by_cases h2:v.k=2
 ·rw[if_pos h2,oR,decide_eq_true_eq];simp[h2]
 rw[if_neg h2]
 by_cases h3:v.k=3
 ·rw[if_pos h3,oR,decide_eq_true_eq];simp[h3,dB]
 rw[if_neg h3]
 by_cases h4:v.k=4
 ·rw[if_pos h4,oR,decide_eq_true_eq];simp[h4]
 rw[if_neg h4]
 simp[h0,h1,h2,h3,h4]
theorem oQ (t a:aBs):(fM t a).isSome=(aZ t&&aZ a):=by
 unfold fM
 rw[aU,aU,aU,fH,dR,dR]
 simp
theorem some_side (x:Opd):(iA x).isSome=if x.con=true then(decide (x.var=[]/\x.attr=[])&&(cD x.val).isSome) else
  (decide (x.val.k=0/\x.val.n=0/\x.val.t=[])&&(!reserved (if x.var=[] then x.attr else x.var)&&(aZ (if x.var=[] then x.attr else x.var)&&aZ x.attr))):=by
 unfold iA;cases x.con with
 | true =>
  rw[if_pos rfl,if_pos rfl]
  by_cases h:x.var=[]/\x.attr=[]
  ·rw[if_pos h,decide_eq_true h,aEq]
  ·rw[if_neg h,decide_eq_false h];rfl
 | false =>
  rw[if_neg Bool.false_ne_true,if_neg Bool.false_ne_true]
  by_cases h:x.val.k=0/\x.val.n=0/\x.val.t=[]
  ·rw[if_neg (Classical.not_not.2 h),decide_eq_true h,aEq]
   by_cases hv:x.var=[]
   ·rw[if_pos hv,if_pos hv]
    cases reserved x.attr with
    | true=>rfl
    | false=>rw[if_neg Bool.false_ne_true,dR,Bool.not_false,aEq,Bool.and_self]
   ·rw[if_neg hv,if_neg hv]
    cases reserved x.var with
    | true=>rfl
    | false=>rw[if_neg Bool.false_ne_true,oQ];rfl
  ·rw[if_pos h,decide_eq_false h]
   rfl
theorem some_add (n:Int):(rW n).isSome=decide (-9999999999<=n/\n<=9999999999):=by
 unfold rW;by_cases h:-9999999999<=n/\n<=9999999999
 ·rw[if_neg (Classical.not_not.2 h),decide_eq_true h]
  split
  ·rfl
  ·split<;>rfl
 ·rw[if_pos h,decide_eq_false h]
  rfl
theorem qE (x:Cnd):(kP x).isSome=((iA x.left).isSome&&(decide (1<=x.op/\x.op<=4)&&((iA x.right).isSome&&decide (-9999999999<=x.add/\x.add<=9999999999)))):=by
 unfold kP
 rw[aU,aU,aU,aU,fH,some_op,some_add,aEj]
theorem cF (l:List Cnd):(lW l).isSome=((l.all λx=>(kP x).isSome)&&decide (0<l.length)):=by
 cases l with
 | nil=>rfl
 | cons x r =>
  show(aO (_::_::_)).isSome=_
  rw[aU,aU,mV,aEO]
  simp only[aEQ]
  simp
theorem some_rest (k:Int)(cs:List Cnd)(ns:List aBs)(a s:aBs)(g:Int):(eW k cs ns a s g).isSome =
  if k=2 then(lW cs).isSome else if k=3 then ns.all aZ else if k=7 then(aZ a&&aZ s) else if k=8 then(rP ns&&(ns.all aZ&&(decide (1<=g/\g<=4)&&((if g=1 then decide (a=[]) else aZ a)&&aZ s)))) else true:=by
 unfold eW;by_cases h2:k=2
 ·rw[if_pos h2,if_pos h2]
 rw[if_neg h2,if_neg h2]
 by_cases h3:k=3
 ·rw[if_pos h3,if_pos h3,aU,aU,fH,aAu,aEj];rfl
 rw[if_neg h3,if_neg h3]
 by_cases h7:k=7
 ·rw[if_pos h7,if_pos h7,aU,aU,aU,aU,fH,dR,dR,aEj];rfl
 rw[if_neg h7,if_neg h7]
 by_cases h8:k=8
 ·rw[if_pos h8,if_pos h8]
  cases rP ns with
  | false=>rfl
  | true =>
   rw[if_pos rfl,aU,aU,aU,aU,aU,aU,aU,fH,aAu,qC,dR,aEj]
   by_cases hg:g=1
   ·rw[if_pos hg,if_pos hg]
    by_cases ha:a=[]
    ·rw[if_pos ha,decide_eq_true ha];rfl
    ·rw[if_neg ha,decide_eq_false ha];rfl
   ·rw[if_neg hg,if_neg hg,dR];rfl
 ·rw[if_neg h8,if_neg h8];rfl
mutual
theorem some_exB (b:aBs):∀(x:Ex),(gP b x).isSome=(gP [] x).isSome
 | .mk k tb ks cs ns a s g o=>by
  rw[gP,gP]
  split
  ·split
   ·rw[dR,dR]
   ·simp only[aU];rfl
  ·rfl
theorem aAv (b:aBs):∀(l:List Ex),(jH b l).isSome=l.all λx=>(gP [] x).isSome
 | []=>rfl
 | x::r=>by
  rw[jH,aEO,← some_exB b x,← aAv [32] r]
  cases gP b x<;>cases jH [32] r<;>rfl
end
theorem some_ex (k:Int)(tb:aBs)(ks:List Ex)(cs:List Cnd)(ns:List aBs)(a s:aBs)(g:Int)(o:Nat):(gP [] (.mk k tb ks cs ns a s g o)).isSome =
  (decide (1<=k/\k<=8/\ks.length=fW k/\gJ k tb cs ns a s g=true)&&((ks.all λx=>(gP [] x).isSome)&&(if k=1 then aZ tb else(eW k cs ns a s g).isSome))):=by
 rw[gP]
 by_cases h:1<=k/\k<=8/\ks.length=fW k/\gJ k tb cs ns a s g=true
 ·rw[if_pos h,decide_eq_true h,aEq]
  by_cases h1:k=1
  ·rw[if_pos h1,if_pos h1,dR]
   have hk:ks=[]:=by have:=h.2.2.1;rw[h1]at this;exact aD3.1 this
   rw[hk]
   rfl
  ·rw[if_neg h1,if_neg h1,aU,aU,aU,aU,fH,aAv]
   simp
 ·rw[if_neg h,decide_eq_false h]
  rfl
theorem qF (b:aBs)(c:Col):(iP b c).isSome=(aZ c.name&&(decide (1<=c.kind/\c.kind<=4)&&(cD c.dflt).isSome)):=by
 unfold iP
 rw[aU,aU,aU,fH,dR,qC,aEj]
 congr 2
 split
 ·rename_i h
  have:(cD c.dflt).isSome=true:=(uQ _).2 (.inl h)
  rw[this]
  rfl
 ·rw[aEQ]
theorem gE (t:Trm):(bM t).isSome=(aZ t.attr&&(decide (1<=t.measure/\t.measure<=5)&&((dB t.tol&&decide (t.measure=5∨t.tol=0))&&(dB t.num&&(dB t.den&&(dB t.gives&&dB t.takes)))))):=by
 unfold bM;have h1:dB 1=true:=rfl;have h0:dB 0=true:=rfl;have e1:(if t.measure=5 then iU [32] t.tol else if t.tol=0 then some [] else none).isSome=(dB t.tol&&decide (t.measure=5∨t.tol=0)):=by
  by_cases h:t.measure=5
  ·rw[if_pos h,lL,decide_eq_true (.inl h),aEj]
  ·rw[if_neg h]
   by_cases h':t.tol=0
   ·rw[if_pos h',h',h0,decide_eq_true (.inr rfl)];rfl
   ·rw[if_neg h',decide_eq_false (λe=>e.elim h h'),aED];rfl
 have e2:(if t.den=1 then some [] else(iU [] t.den).map (aS [] [47]::·)).isSome=dB t.den:=by
  by_cases h:t.den=1
  ·rw[if_pos h,h,h1];rfl
  ·rw[if_neg h,aEQ,lL]
 have e3:(if t.takes=0 then some [] else(iU [32] t.takes).map (aG [32] [116,97,107,101,115]::·)).isSome=dB t.takes:=by
  by_cases h:t.takes=0
  ·rw[if_pos h,h,h0];rfl
  ·rw[if_neg h,aEQ,lL]
 rw[aU,aU,aU,aU,aU,aU,aU,aU,aU,aU,fH,dR,qC,e1,e2,e3,lL,lL]
 simp
theorem aAw (f:Nmd):(pW f).isSome=(aZ f.name&&(cD f.val).isSome):=by
 unfold pW
 rw[aU,aU,aU,fH,dR,aEj]
 rfl
theorem some_fixed (l:List Nmd):(xU l).isSome=l.all λx=>(pW x).isSome:=by
 cases l with
 | nil=>rfl
 | cons x r =>
  show(aO (_::_::_)).isSome=_
  rw[aU,aU,mV,aEO]
  simp only[aEQ]
  simp
theorem aAt (v:Vr):(lI v).isSome=(aZ v.table&&aZ v.name):=by
 unfold lI
 rw[aU,aU,fH,dR,dR,aEj]
theorem some_part (x:It)(h1:1<=x.kind)(h10:x.kind<=10):(eP x).isSome =
  if x.kind=1 then((x.cols.all λc=>(iP [] c).isSome)&&decide (0<x.cols.length)&&(x.names.all aZ&&decide (0<x.names.length)))
  else if x.kind=2 then dB x.n
  else if x.kind=3 then(aZ x.table&&aZ x.attr&&(decide (1<=x.by_/\x.by_<=4)&&((decide (x.by_<3)||dB x.n)&&(decide (x.by_≠4)||dB x.m))))
  else if x.kind=4 then(aZ x.table&&(dB x.n&&x.terms.all λt=>(bM t).isSome))
  else if x.kind=5 then(aZ x.table&&aZ x.attr&&decide (1<=x.by_/\x.by_<=6))
  else if x.kind=6 then(aZ x.table&&(x.names.all aZ&&decide (0<x.names.length)))
  else if x.kind=7 then(aZ x.table&&(x.names.all aZ&&decide (0<x.names.length)&&(aZ x.attr&&x.fixed.all λf=>(pW f).isSome)))
  else if x.kind=8 then(aZ x.table&&aZ x.attr&&(aZ x.other&&aZ x.oattr))
  else if x.kind=9 then((x.vars.all λv=>(lI v).isSome)&&decide (0<x.vars.length)&&(lW x.conds).isSome)
  else(gP [] x.expr).isSome:=by
 unfold eP;by_cases k1:x.kind=1
 ·rw[if_pos k1,if_pos k1,aU,aU,aU,aU,fH,qS,sG (p:=λc=>(iP [] c).isSome) (λb c=>by rw[qF,qF])]
  simp
 rw[if_neg k1,if_neg k1]
 by_cases k2:x.kind=2
 ·rw[if_pos k2,if_pos k2,aU,aU,fH,lL]
  simp
 rw[if_neg k2,if_neg k2]
 by_cases k3:x.kind=3
 ·have e1:(if 3<=x.by_ then iU [32] x.n else some []).isSome=(decide (x.by_<3)||dB x.n):=by
   by_cases h:3<=x.by_
   ·rw[if_pos h,lL,decide_eq_false zO];rfl
   ·rw[if_neg h,decide_eq_true zO];rfl
  have e2:(if x.by_=4 then iU [32] x.m else some []).isSome=(decide (x.by_≠4)||dB x.m):=by
   by_cases h:x.by_=4
   ·rw[if_pos h,lL,decide_eq_false zO];rfl
   ·rw[if_neg h,decide_eq_true h];rfl
  rw[if_pos k3,if_pos k3,aU,aU,aU,aU,aU,aU,fH,oQ,qC,e1,e2]
  simp
 rw[if_neg k3,if_neg k3]
 by_cases k4:x.kind=4
 ·rw[if_pos k4,if_pos k4]
  rw[show ∀(a b c d e:Option (List Pc)) (l:List (Option (List Pc))),[a,b,c,d,e]++l=a::b::c::d::e::l from λ_ _ _ _ _ _=>rfl,aU,aU,aU,aU,aU,mV,dR,lL]
  simp
 rw[if_neg k4,if_neg k4]
 by_cases k5:x.kind=5
 ·rw[if_pos k5,if_pos k5,aU,aU,aU,fH,oQ,qC]
  simp
 rw[if_neg k5,if_neg k5]
 by_cases k6:x.kind=6
 ·rw[if_pos k6,if_pos k6,aU,aU,aU,aU,aU,fH,qS,dR]
  simp
 rw[if_neg k6,if_neg k6]
 by_cases k7:x.kind=7
 ·rw[if_pos k7,if_pos k7,aU,aU,aU,aU,aU,aU,aU,fH,qS,dR,dR,some_fixed]
  simp
 rw[if_neg k7,if_neg k7]
 by_cases k8:x.kind=8
 ·rw[if_pos k8,if_pos k8,aU,aU,aU,fH,oQ,oQ]
  simp
 rw[if_neg k8,if_neg k8]
 by_cases k9:x.kind=9
 ·rw[if_pos k9,if_pos k9,aU,aU,fH,cF,sG (p:=λv=>(lI v).isSome) (λb c=>rfl)]
  simp
 rw[if_neg k9,if_neg k9,aU,aU,fH,some_exB]
 simp
theorem qD (x:It):(iB x).isSome=(decide (1<=x.kind/\x.kind<=10/\gY x=true/\(x.kind=10∨lC x.expr=true))&&((decide (x.kind=5)||aZ x.name)&&(eP x).isSome)):=by
 unfold iB;have e:(if x.kind=5 then some [] else bN [32] x.name).isSome=(decide (x.kind=5)||aZ x.name):=by
  by_cases h:x.kind=5
  ·rw[if_pos h,decide_eq_true h];rfl
  ·rw[if_neg h,decide_eq_false h,dR];rfl
 by_cases h:1<=x.kind/\x.kind<=10/\gY x=true/\(x.kind=10∨lC x.expr=true)
 ·rw[if_pos h,decide_eq_true h,aU,aU,aU,aU,fH,e]
  simp
 ·rw[if_neg h,decide_eq_false h]
  rfl
theorem some_items (xs:List It):(iO xs).isSome=xs.all λx=>(iB x).isSome:=by
 unfold iO
 induction xs with
 | nil=>rfl
 | cons x r ih =>
  rw[List.mapM_cons,aEO,← ih]
  cases iB x<;>cases List.mapM iB r<;>rfl
theorem qW (x:Vl)(h:Heap)(hOK:VlOK x):bG Tryz.prog 132 [.agg ⟨[iv x.k,iv x.n,sv x.t]⟩] h λr h'=>r=.bool (cD x).isSome/\Own h [] h':=by
 obtain⟨k,n,t⟩:=x
 obtain⟨hk,hn,ht⟩:=hOK
 dsimp only at hk hn ht ⊢;have hc:=uQ ⟨k,n,t⟩;unfold aC6 at hc;dsimp only at hc;refine eN Tryz.func132 Tryz.ntmps132 ?_;have o0:=Own.refl h;by_cases hn0:n=0
 case pos =>
  by_cases k0:k=0
  ·refine xB o0 λb10 m10 o10=>?_
   refine fB bP ?_;refine oB o10 0 aK ?_;refine bB λc13=>fB bP ?_;refine oB o10 0 aC ?_;refine rR (aDn rfl cE ?_);refine fB bP ?_;refine oB o10 0 aK ?_;refine bB λc19=>nB o10 0 cG ?_;refine rR (aDd bP ?_);refine rR (eqS nW rfl rfl rfl rfl ?_);refine rO ?_
   all_goals (refine⟨congrArg Value.bool (aEe.2 ?_),o_ []⟩;rw[hc];clear hc;simp only[decide_eq_true_eq,aD0,aEj,aD9,aEk,true_iff,false_iff];grind)
  by_cases k1:k=1
  ·refine xB o0 λb30 m30 o30=>?_
   refine fB bP ?_;refine oB o30 0 aK ?_;refine bB λc33=>fB bP ?_;refine oB o30 0 aC ?_;refine rR (aDn rfl cE ?_);refine fB bP ?_;refine oB o30 0 aK ?_;refine bA λc39=>bB λc40=>?_;refine rO ?_
   all_goals (refine⟨congrArg Value.bool (aEe.2 ?_),o_ []⟩;rw[hc];clear hc;simp only[decide_eq_true_eq,aD0,aEj,aD9,aEk,true_iff,false_iff];grind)
  by_cases k2:k=2
  ·refine xB o0 λb50 m50 o50=>?_
   refine fB bP ?_;refine oB o50 0 aK ?_;refine bB λc53=>fB bP ?_;refine oB o50 0 aC ?_;refine rR (aDn rfl cE ?_);refine fB bP ?_;refine oB o50 0 aK ?_;refine bA λc59=>bA λc60=>?_;refine bB λc61=>fB bP ?_;refine oB o50 0 aC ?_;refine aDJ (λc64=>?_) (λc64=>?_);refine fB bP ?_;refine oB o50 0 aK ?_;refine bB λc67=>fB bP ?_;refine oB o50 0 aK ?_;refine rO ?_
   rotate_left
   refine rO ?_
   all_goals (refine⟨congrArg Value.bool (aEe.2 ?_),o_ []⟩;rw[hc];clear hc;simp only[decide_eq_true_eq,aD0,aEj,aD9,aEk,true_iff,false_iff];grind)
  by_cases k3:k=3
  ·by_cases ht0:t=[]
   ·refine xB o0 λb70 m70 o70=>?_
    refine fB bP ?_;refine oB o70 0 aK ?_;refine bB λc73=>fB bP ?_;refine oB o70 0 aC ?_;refine rR (aDn rfl cE ?_);refine fB bP ?_;refine oB o70 0 aK ?_;refine bA λc79=>bA λc80=>?_;refine bA λc81=>bB λc82=>?_;refine fB bP ?_;refine oB o70 0 aC ?_;refine bB λc85=>fB bP ?_;refine oB o70 0 aK ?_;refine aDN (dJ n _ hn) ?_;rintro _ h2 ⟨rfl,oc⟩;have o2:=oc.thenE (B:=h) zA;refine rO ?_
    all_goals (refine⟨congrArg Value.bool (aEe.2 ?_),o_ []⟩;rw[hc];clear hc;unfold dB;simp only[decide_eq_true_eq,aD9,aEk,true_iff,false_iff];grind)
   ·refine xB o0 λb90 m90 o90=>?_
    refine fB bP ?_;refine oB o90 0 aK ?_;refine bB λc93=>fB bP ?_;refine oB o90 0 aC ?_;refine rR (aDn rfl cE ?_);refine fB bP ?_;refine oB o90 0 aK ?_;refine bA λc99=>bA λc100=>?_;refine bA λc101=>bB λc102=>?_;refine fB bP ?_;refine oB o90 0 aC ?_;refine bA λc105=>rO ?_
    all_goals (refine⟨congrArg Value.bool (aEe.2 ?_),o_ []⟩;rw[hc];clear hc;simp only[decide_eq_true_eq,aD0,aEj,aD9,aEk,true_iff,false_iff];grind)
  by_cases k4:k=4
  ·refine xB o0 λb100 m100 o100=>?_
   refine fB bP ?_;refine oB o100 0 aK ?_;refine bB λc103=>fB bP ?_;refine oB o100 0 aC ?_;refine rR (aDn rfl cE ?_);refine fB bP ?_;refine oB o100 0 aK ?_;refine bA λc109=>bA λc110=>?_;refine bA λc111=>bA λc112=>?_;refine bB λc113=>fB bP ?_;refine oB o100 0 aC ?_;refine aDJ (λc116=>?_) (λc116=>?_);refine fB bP ?_;refine oB o100 0 aK ?_;refine bB λc119=>rO ?_
   rotate_left
   refine rO ?_
   all_goals (refine⟨congrArg Value.bool (aEe.2 ?_),o_ []⟩;rw[hc];clear hc;simp only[decide_eq_true_eq,aD0,aEj,aD9,aEk,true_iff,false_iff];grind)
  ·refine xB o0 λb120 m120 o120=>?_
   refine fB bP ?_;refine oB o120 0 aK ?_;refine bB λc123=>fB bP ?_;refine oB o120 0 aC ?_;refine rR (aDn rfl cE ?_);refine fB bP ?_;refine oB o120 0 aK ?_;refine bA λc129=>bA λc130=>?_;refine bA λc131=>bA λc132=>?_;refine bA λc133=>rO ?_
   all_goals (refine⟨congrArg Value.bool (aEe.2 ?_),o_ []⟩;rw[hc];clear hc;simp only[decide_eq_true_eq,aD0,aEj,aD9,aEk,true_iff,false_iff];grind)
 by_cases k0:k=0
 ·refine xB o0 λb210 m210 o210=>?_
  refine fB bP ?_;refine oB o210 0 aK ?_;refine bA λc213=>fB bP ?_;refine oB o210 0 aK ?_;refine bB λc216=>nB o210 0 cG ?_;refine rR (aDd bP ?_);refine rR (eqS nW rfl rfl rfl rfl ?_);refine rO ?_
  all_goals (refine⟨congrArg Value.bool (aEe.2 ?_),o_ []⟩;rw[hc];clear hc;simp only[decide_eq_true_eq,aD0,aEj,aD9,aEk,true_iff,false_iff];grind)
 by_cases k1:k=1
 ·refine xB o0 λb230 m230 o230=>?_
  refine fB bP ?_;refine oB o230 0 aK ?_;refine bA λc233=>fB bP ?_;refine oB o230 0 aK ?_;refine bA λc236=>bB λc237=>?_;refine rO ?_
  all_goals (refine⟨congrArg Value.bool (aEe.2 ?_),o_ []⟩;rw[hc];clear hc;simp only[decide_eq_true_eq,aD0,aEj,aD9,aEk,true_iff,false_iff];grind)
 by_cases k2:k=2
 ·refine xB o0 λb250 m250 o250=>?_
  refine fB bP ?_;refine oB o250 0 aK ?_;refine bA λc253=>fB bP ?_;refine oB o250 0 aK ?_;refine bA λc256=>bA λc257=>?_;refine bB λc258=>fB bP ?_;refine oB o250 0 aC ?_;refine aDJ (λc261=>?_) (λc261=>?_);refine fB bP ?_;refine oB o250 0 aK ?_;refine aDJ (λc264=>?_) (λc264=>?_);refine fB bP ?_;refine oB o250 0 aK ?_;refine rO ?_
  rotate_left
  refine rO ?_
  rotate_left
  refine rO ?_
  all_goals (refine⟨congrArg Value.bool (aEe.2 ?_),o_ []⟩;rw[hc];clear hc;simp only[decide_eq_true_eq,aD0,aEj,aD9,aEk,true_iff,false_iff];grind)
 by_cases k3:k=3
 ·by_cases ht0:t=[]
  ·refine xB o0 λb270 m270 o270=>?_
   refine fB bP ?_;refine oB o270 0 aK ?_;refine bA λc273=>fB bP ?_;refine oB o270 0 aK ?_;refine bA λc276=>bA λc277=>?_;refine bA λc278=>bB λc279=>?_;refine fB bP ?_;refine oB o270 0 aC ?_;refine bB λc282=>fB bP ?_;refine oB o270 0 aK ?_;refine aDN (dJ n _ hn) ?_;rintro _ h2 ⟨rfl,oc⟩;have o2:=oc.thenE (B:=h) zA;refine rO ?_
   all_goals (refine⟨congrArg Value.bool (aEe.2 ?_),o_ []⟩;rw[hc];clear hc;unfold dB;simp only[decide_eq_true_eq,aD9,aEk,true_iff,false_iff];grind)
  ·refine xB o0 λb290 m290 o290=>?_
   refine fB bP ?_;refine oB o290 0 aK ?_;refine bA λc293=>fB bP ?_;refine oB o290 0 aK ?_;refine bA λc296=>bA λc297=>?_;refine bA λc298=>bB λc299=>?_;refine fB bP ?_;refine oB o290 0 aC ?_;refine bA λc302=>rO ?_
   all_goals (refine⟨congrArg Value.bool (aEe.2 ?_),o_ []⟩;rw[hc];clear hc;simp only[decide_eq_true_eq,aD0,aEj,aD9,aEk,true_iff,false_iff];grind)
 by_cases k4:k=4
 ·refine xB o0 λb300 m300 o300=>?_
  refine fB bP ?_;refine oB o300 0 aK ?_;refine bA λc303=>fB bP ?_;refine oB o300 0 aK ?_;refine bA λc306=>bA λc307=>?_;refine bA λc308=>bA λc309=>?_;refine bB λc310=>fB bP ?_;refine oB o300 0 aC ?_;refine aDJ (λc313=>?_) (λc313=>?_);refine fB bP ?_;refine oB o300 0 aK ?_;refine bA λc316=>fB bP ?_;refine oB o300 0 aK ?_;refine rO ?_
  rotate_left
  refine rO ?_
  all_goals (refine⟨congrArg Value.bool (aEe.2 ?_),o_ []⟩;rw[hc];clear hc;simp only[decide_eq_true_eq,aD0,aEj,aD9,aEk,true_iff,false_iff];grind)
 ·refine xB o0 λb320 m320 o320=>?_
  refine fB bP ?_;refine oB o320 0 aK ?_;refine bA λc323=>fB bP ?_;refine oB o320 0 aK ?_;refine bA λc326=>bA λc327=>?_;refine bA λc328=>bA λc329=>?_;refine bA λc330=>rO ?_
  all_goals (refine⟨congrArg Value.bool (aEe.2 ?_),o_ []⟩;rw[hc];clear hc;simp only[decide_eq_true_eq,aD0,aEj,aD9,aEk,true_iff,false_iff];grind)
theorem sL (x:Opd)(h:Heap)(hOK:aBz x):bG Tryz.prog 133 [.agg ⟨opdC x⟩] h λr h'=>r=.bool (iA x).isSome/\Own h [] h':=by
 rw[some_side]
 obtain⟨xv,xa,xc,⟨vk,vn,vt⟩⟩:=x
 obtain⟨b1,b2,b3⟩:=hOK
 dsimp only at b1 b2 b3 ⊢;show bG Tryz.prog 133 [.agg ⟨[sv xv,sv xa,.bool xc,iv vk,iv vn,sv vt]⟩] h _;refine eN Tryz.func133 Tryz.ntmps133 ?_;have o0:=Own.refl h;cases xc with
 | true =>
  rw[if_pos rfl]
  by_cases hv:xv=[]
  ·by_cases ha:xa=[]
   ·rw[decide_eq_true ⟨hv,ha⟩,aEq]
    refine xB o0 λb10 m10 o10=>?_;refine fB cY ?_;refine oB o10 0 yF ?_;refine aDK (fB cY ?_);refine oB o10 0 aC ?_;refine bB λc15=>fB cY ?_;refine oB o10 0 aC ?_;refine bB λc18=>fB cY ?_;refine nB o10 0 cG ?_;refine aDN (qW ⟨vk,vn,vt⟩ _ b3) ?_;rintro _ h2 ⟨rfl,oc⟩;have o2:=oc.thenE (B:=h) zA;refine rO ?_
    exact⟨rfl,o_ []⟩
   ·rw[decide_eq_false (λhh=>ha hh.2),aEu]
    refine xB o0 λb50 m50 o50=>?_;refine fB cY ?_;refine oB o50 0 yF ?_;refine aDK (fB cY ?_);refine oB o50 0 aC ?_;refine bB λc55=>fB cY ?_;refine oB o50 0 aC ?_;refine bA λc58=>rO ?_
    exact⟨rfl,o_ []⟩
  ·rw[decide_eq_false (λhh=>hv hh.1),aEu]
   refine xB o0 λb70 m70 o70=>?_;refine fB cY ?_;refine oB o70 0 yF ?_;refine aDK (fB cY ?_);refine oB o70 0 aC ?_;refine bA λc75=>rO ?_
   exact⟨rfl,o_ []⟩
 | false =>
  rw[if_neg zD]
  have hz0:(decide (vk=0)&&(decide (vn=0)&&(decide (vt=[])&&true)))=decide (vk=0/\vn=0/\vt=[]):=by
   rw[aEe]
   simp
  cases hz:decide (vk=0/\vn=0/\vt=[]) with
  | false =>
   rw[hz]at hz0
   rw[aEu]
   by_cases hv:xv=[]
   ·refine xB o0 λb100 m100 o100=>?_
    refine fB cY ?_;refine oB o100 0 yF ?_;refine aDL (fB cY ?_);refine oB o100 0 aC ?_;refine bB λc105=>fB cY ?_;refine oB o100 0 aC ?_;refine fB cY ?_;refine nB o100 0 cG ?_;refine rR (aDd bP ?_);refine rR (eqS nW rfl rfl rfl rfl ?_);refine Br.ffE zA ?_;refine rO ?_
    exact⟨rfl,o_ []⟩
   ·refine xB o0 λb120 m120 o120=>?_
    refine fB cY ?_;refine oB o120 0 yF ?_;refine aDL (fB cY ?_);refine oB o120 0 aC ?_;refine bA λc125=>fB cY ?_;refine nB o120 0 cG ?_;refine rR (aDd bP ?_);refine rR (eqS nW rfl rfl rfl rfl ?_);refine Br.ffE zA ?_;refine rO ?_
    exact⟨rfl,o_ []⟩
  | true =>
   rw[hz]at hz0
   rw[aEq]
   have hzz:=of_decide_eq_true hz;have main:∀ f:aBs,(if xv=[] then xa else xv)=f->(!reserved f&&(aZ f&&aZ xa))=(aZ f&&aZ xa&&!reserved f):=λf _=>by
    cases reserved f<;>cases aZ f<;>cases aZ xa<;>rfl
   rw[main _ rfl]
   clear main;by_cases hv:xv=[]
   ·rw[if_pos hv]
    refine xB o0 λb200 m200 o200=>?_;refine fB cY ?_;refine oB o200 0 yF ?_;refine aDL (fB cY ?_);refine oB o200 0 aC ?_;refine bB λc205=>fB cY ?_;refine oB o200 0 aC ?_;refine fB cY ?_;refine nB o200 0 cG ?_;refine rR (aDd bP ?_);refine rR (eqS nW rfl rfl rfl rfl ?_);refine Br.ttE zA ?_;refine aDN (bY xa _ zO) ?_;rintro _ h2 ⟨rfl,oc⟩;have o2:=oc.thenE (B:=h) zA;cases hn:aZ xa with
    | false =>
     refine aDL (rO ?_)
     exact⟨rfl,o_ []⟩
    | true =>
     refine aDK (fB cY ?_);refine oB o2 0 aC ?_;refine aDN (bY xa _ zO) ?_;rintro _ h3 ⟨rfl,oc⟩;have o3:=oc.thenE (B:=h) zA
     rw[hn]
     refine aDK (Br.ndec (λc280=>?_) (λc280=>?_));refine Br.ndec (λc281=>?_) (λc281=>?_);refine rO ?_
     rotate_left
     refine rO ?_
     rotate_left
     refine rO ?_
     all_goals (refine⟨congrArg Value.bool ?_,o_ []⟩;unfold reserved;simp[*])
   ·rw[if_neg hv]
    refine xB o0 λb300 m300 o300=>?_;refine fB cY ?_;refine oB o300 0 yF ?_;refine aDL (fB cY ?_);refine oB o300 0 aC ?_;refine bA λc305=>fB cY ?_;refine nB o300 0 cG ?_;refine rR (aDd bP ?_);refine rR (eqS nW rfl rfl rfl rfl ?_);refine Br.ttE zA ?_;refine aDN (bY xv _ zO) ?_;rintro _ h2 ⟨rfl,oc⟩;have o2:=oc.thenE (B:=h) zA;cases hn:aZ xv with
    | false =>
     refine aDL (rO ?_)
     exact⟨rfl,o_ []⟩
    | true =>
     refine aDK (fB cY ?_);refine oB o2 0 aC ?_;refine aDN (bY xa _ zO) ?_;rintro _ h3 ⟨rfl,oc⟩;have o3:=oc.thenE (B:=h) zA;cases hn2:aZ xa with
     | false =>
      refine aDL (rO ?_)
      exact⟨rfl,o_ []⟩
     | true =>
      refine aDK (Br.ndec (λc380=>?_) (λc380=>?_));refine Br.ndec (λc381=>?_) (λc381=>?_);refine rO ?_
      rotate_left
      refine rO ?_
      rotate_left
      refine rO ?_
      all_goals (refine⟨congrArg Value.bool ?_,o_ []⟩;unfold reserved;simp[*])
def pR (L:List aBs)(v:Value)(h:Heap):Prop:=∃ a c,v=.slice a L.length c/\Arr h (.slice a L.length c) (strs L)
def iR (h:Heap)(L:List aBs)(r:Value)(h':Heap):Prop:=∃ a c,r=.slice a L.length c/\Own h [row (.slice a L.length c) 9 1 L.length (strs L)] h'
theorem pR.ext {L:List aBs}{v:Value}{h h':Heap}(p:pR L v h)(e:Ext h h'):pR L v h':=by
 obtain⟨a,c,rfl,hA⟩:=p
 exact⟨a,c,rfl,hA.ext e⟩
theorem iR.toP {h h':Heap}{L:List aBs}{r:Value}(p:iR h L r h'):pR L r h':=by
 obtain⟨a,c,rfl,o⟩:=p
 exact⟨a,c,rfl,o.rowArr 0 rfl⟩
theorem iR.extP {h h':Heap}{L:List aBs}{r:Value}(p:iR h L r h'):Ext h h'/\pR L r h':=⟨by obtain⟨a,c,rfl,o⟩:=p;exact o.ext,p.toP⟩
theorem iR.up {h h1 h2:Heap}{K:List Item}{L:List aBs}{r:Value}(p:iR h1 L r h2)(o:Own h K h1):iR h L r h2:=by
 obtain⟨a,c,rfl,o2⟩:=p
 have o3:=(o.call o2).sel [K.length] rfl;have e:pick (K++[row (.slice a L.length c) 9 1 L.length (strs L)]) [K.length]=[row (.slice a L.length c) 9 1 L.length (strs L)]:=by simp[pick]
 rw[e]at o3
 exact⟨a,c,rfl,o3⟩
def lY:List (List aBs)->aVs->Heap->Prop
 | [],[],_=>True
 | t::ts,v::vs,h=>pR t v h/\lY ts vs h
 | _,_,_=>False
theorem lY.len:∀ {ts:List (List aBs)}{vs:aVs}{h:Heap},lY ts vs h->vs.length=ts.length
 | [],[],_,_=>rfl
 | _::ts,_::vs,h,p=>by rw[aD1,aD1,lY.len p.2]
 | [],_::_,_,p=>p.elim
 | _::_,[],_,p=>p.elim
theorem lY.get:∀ {ts:List (List aBs)}{vs:aVs}{h:Heap}{i:Nat}{t:List aBs},lY ts vs h->ts[i]?=some t->∃ v,vs[i]?=some v/\pR t v h
 | _::ts,v::vs,h,0,t,p,e=>by
  simp only[lgZ,Option.some.injEq]at e
  subst e
  exact⟨v,rfl,p.1⟩
 | _::ts,_::vs,h,i+1,t,p,e=>by
  simp only[lgS]at e
  exact lY.get (ts:=ts) (vs:=vs) p.2 e
 | [],_,_,_,_,_,e=>by simp at e
 | _::_,[],_,_,_,p,_=>p.elim
theorem oO (l:List aBs):(strs l).length=l.length:=by simp[strs]
theorem eF (a b:List aBs):strs (a++b)=strs a++strs b:=by simp[strs]
theorem Own.extE {B:Base}{L:List Item}{h h':Heap}(o:Own B L h)(e:Ext h h'):Own B L h':=o.ext' (Own.of_ext e)
theorem xS {n:Int}(h:0<=n/\n<=9223372036854775807):(Lib.itoa n).length<=20:=by
 rw[Lib.itoa,if_neg zO]
 exact nM _ zO
theorem fL (n:Int)(h:Heap)(h0:-9223372036854775808<=n)(h1:n<=9223372036854775807) :
  bG Tryz.prog 40 [iv n] h λr h'=>r=sv (Lib.itoa n)/\Own h [] h':=by
 refine eN Tryz.func40 Tryz.ntmps40 ?_;have o0:=Own.refl h;refine aDN (aBG n _ h0 h1) ?_;rintro _ h2 ⟨rfl,oc⟩;have o2:=oc.thenE (B:=h) zA;refine rO ?_
 exact⟨rfl,o_ []⟩
theorem iR.lit {h h':Heap}{L:List aBs}{b:Nat}(o:Own h [box b (strs L) 9] h')(hn:L.length<=1000):iR h L (.slice (some ⟨b,0,none⟩) L.length L.length) h':=by
 have hl:=oO L;have o2:=o.boxRow 0 rfl 1 L.length L.length zO (aD6 _) (by simp only[maxLen];omega)
 rw[aEa zO]at o2
 exact⟨_,_,rfl,o2⟩
theorem pR.lit {B:Base}{K:List Item}{h':Heap}{L:List aBs}{b:Nat}(o:Own B K h')(k:Nat)(hk:K[k]?=some (box b (strs L) 9)):pR L (.slice (some ⟨b,0,none⟩) L.length L.length) h' :=
 ⟨_,_,rfl,o.boxArr k hk (oO L) (aD6 _)⟩
theorem nT (t a:aBs)(h:Heap)(ht:t.length<=1000000000000000):bG Tryz.prog 43 [sv t,sv a] h (iR h [32::t,[46],a]):=by
 refine eN Tryz.func43 Tryz.ntmps43 ?_;have o0:=Own.refl h;refine rR (aDb rfl rfl (by first|omega|(simp<;>omega)) ?_);refine lA o0 aB aC λb11 m11 o11=>?_;refine rO ?_;exact iR.lit (L:=[32::t,[46],a]) (o_ [0]) zS
theorem yM (ts:List (List aBs))(vs:aVs)(a:Option Addr)(c:Nat)(h:Heap)(hA:Arr h (.slice a vs.length c) vs)(hP:lY ts vs h)(hn:ts.length<=1000)(hT:ts.flatten.length<=1000000000000) :
  bG Tryz.prog 41 [.slice a vs.length c] h (iR h ts.flatten):=by
 have hvl:=hP.len;refine eN Tryz.func41 Tryz.ntmps41 ?_;have o0:=Own.refl h;have o1:=o0.nilRow 9 1;refine aDT [3,4,5,6,7,8,9,10,11,12,13,14,15,16] [3,4] (λws hh=>∃(i:Nat) (v:Value),i<=ts.length/\ws=[v,.int .i64 i]/\Own h [row v 9 1 (ts.take i).flatten.length (strs (ts.take i).flatten)] hh) (λws _=>match ws with|[_,.int _ i]=>ts.length - i.toNat|_=>0) ?_ ?_
 ·exact⟨0,_,by omega,rfl,o1⟩
 rintro ws junk hh ⟨i,v,hi,rfl,oh⟩;clear o0 o1;have hle:(ts.take i).flatten.length<=ts.flatten.length:=by
  conv=>rhs;rw[← aEw i ts]
  rw[List.flatten_append,aDX]
  omega
 by_cases hlt:i<ts.length
 ·obtain⟨t,ht⟩:=getx hlt
  obtain⟨u,hu,b,d,rfl,hB⟩:=hP.get ht
  have hle2:(ts.take (i+1)).flatten.length<=ts.flatten.length:=by
   conv=>rhs;rw[← aEw (i+1) ts]
   rw[List.flatten_append,aDX]
   omega
  have htk:ts.take (i+1)=ts.take i++[t]:=by rw[aEr,ht];rfl
  have hfl:(ts.take (i+1)).flatten=(ts.take i).flatten++t:=by rw[htk,List.flatten_append];simp
  have hfn:(ts.take (i+1)).flatten.length=(ts.take i).flatten.length+t.length:=by rw[hfl,aDX]
  have hB2:aY 1 h (.slice b t.length d) t.length (strs t):=by have:=hB.toN;rwa [oO]at this
  clear hB;refine lB lM ?_;refine bB λc51=>rR (idx lM cS (hA.ext oh.ext) rfl zO zO ?_);refine rR (loadA (hA.ext oh.ext) cS rfl a_ ?_);(refine aDI oh 0 rfl aB aC zD (hB2.ext oh.ext) c_ (by simp only[maxLen];first|omega|(simp<;>omega)) (by first|omega|(simp<;>omega)) ?_;intro v54 m54 o54);refine aR ?_
  refine⟨rfl,?_⟩
  refine⟨⟨i+1,v54,by omega,rfl,?_⟩,by simp;omega⟩
  rw[hfn,hfl,eF]
  exact o54
 ·have e:ts.take i=ts:=aEa zO
  rw[e]at oh
  refine lB lM ?_;refine bA λc101=>rO ?_
  obtain⟨a',c',rfl⟩:=oh.rowIs 0 rfl
  exact⟨_,_,rfl,oh⟩
theorem wY (x:It)(z:Int)(vc vn vt vf vv vd e0 e1 e2 e3 e4 e5 e6 e7 e8:Value)(w:aBs)(h:Heap)(ht:x.name.length<=1000000000000000):bG Tryz.prog 42 [.agg ⟨eD x z vc vn vt vf vv vd e0 e1 e2 e3 e4 e5 e6 e7 e8⟩,sv w] h (iR h [w,32::x.name,[32,111,110]]):=by
 unfold eD;refine eN Tryz.func42 Tryz.ntmps42 ?_;have o0:=Own.refl h;refine xB o0 λb10 m10 o10=>?_;refine fB aA ?_;refine oB o10 0 aC ?_;refine rR (aDb rfl rfl (by first|omega|(simp<;>omega)) ?_);refine lA o10 aB aC λb14 m14 o14=>?_;refine rO ?_;exact iR.lit (L:=[w,32::x.name,[32,111,110]]) (o_ [1]) zS
end Go.Proofs.YtohlogbnpfofpaaGreatDoor
